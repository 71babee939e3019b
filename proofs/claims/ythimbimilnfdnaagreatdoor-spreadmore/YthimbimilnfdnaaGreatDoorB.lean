/- Part of the proof: AL22, AL24, AL25, AL30. -/
import Derived.Laws.Strings2
import Derived.MapKept
import Derived.Lib.AppendZeros
import Derived.Laws.MakeOwn
import Derived.Lib.AppendStr
import Derived.Lib.ConvBytes
import Derived.Test.YthimbimilnfdnaaGreatDoorA
set_option linter.unnecessarySimpa false
set_option linter.unusedVariables false
set_option linter.unusedSimpArgs false
namespace Go.Proofs.YthimbimilnfdnaaGreatDoor.AL
open Go
section
section
variable {P:Program}{w:World}
theorem run_eqIn_nn(d:Nat){t:TypeId}{ms:Array (String×TypeId)}(hu:P.underlying t=some (.interface ms)):(Op.equalIn (d+1) t .nilIface .nilIface).run P w=.ok true w:=by
 simp [Op.equalIn,run_underlying hu]
theorem run_eqIn_in(d:Nat){t ty:TypeId}{v:Value}{ms:Array (String×TypeId)}(hu:P.underlying t=some (.interface ms)):(Op.equalIn (d+1) t (.iface ty v) .nilIface).run P w=.ok false w:=by
 simp [Op.equalIn,run_underlying hu]
theorem run_eq_nn(neg:Bool){t:TypeId}{ms:Array (String×TypeId)}(hu:P.underlying t=some (.interface ms)):(binOp (if neg then .neq else .eql) t .nilIface .nilIface).run P w=.ok (.bool !neg) w:=by
 have h:=run_eqIn_nn (P:=P) (w:=w) 9999 hu
 cases neg <;> simp only [binOp,Bool.false_eq_true,if_false,if_true] <;> simp [Op.equal,Op.maxDepth,h]
theorem run_eq_in(neg:Bool){t ty:TypeId}{v:Value}{ms:Array (String×TypeId)}(hu:P.underlying t=some (.interface ms)):(binOp (if neg then .neq else .eql) t (.iface ty v) .nilIface).run P w=.ok (.bool neg) w:=by
 have h:=run_eqIn_in (P:=P) (w:=w) (ty:=ty) (v:=v) 9999 hu
 cases neg <;> simp only [binOp,Bool.false_eq_true,if_false,if_true] <;> simp [Op.equal,Op.maxDepth,h]
theorem eqGuard_nn(op:BinOp) (t:TypeId) (x:Operand):(eqGuard op t x (.const .nilIface) .nilIface .nilIface).run P w=.ok () w:=by
 unfold eqGuard;cases op <;> simp
theorem eqGuard_in(op:BinOp) (t ty:TypeId) (v:Value) (x y:Operand):(eqGuard op t x y (.iface ty v) .nilIface).run P w=.ok () w:=by
 unfold eqGuard;cases op <;> simp
end
section
variable {E:Env}{P:Program}{ro:Option Nat}{o:Oper}
theorem sound_isNil_n{neg t u x x' ms} (h:o.op=.binOp (if neg then .neq else .eql) t x (.const .nilIface) u) (hx:CO x x') (hu:P.underlying t=some (.interface ms)) (p:Prop) :
  OpLoc E P ro o [(x',.d (.lit .nilIface))] {c:=p,v:=.d (.lit (.bool !neg))} :=
 opLoc_pure (by simp [h]) fun G ac w hp H hv=>by
  obtain⟨e1,_⟩:=(ev1 hv hx).lit
  refine⟨.bool !neg,?_,repBool _⟩
  have e2:ac.eval (.const .nilIface)=.nilIface:=rfl
  simp only [execOp,h,e1,e2,Sem.run_bind,eqGuard_nn,Result.andThen_ok,run_eq_nn neg hu,Sem.run_pure]
theorem sound_isNil_i{neg t u x x' ms ty} {d:D}(h:o.op=.binOp (if neg then .neq else .eql) t x (.const .nilIface) u) (hx:CO x x') (hu:P.underlying t=some (.interface ms)) (p:Prop) :
  OpLoc E P ro o [(x',.d (.ifc ty d))] {c:=p,v:=.d (.lit (.bool neg))} :=
 opLoc_pure (by simp [h]) fun G ac w hp H hv=>by
  have hr:=(ev1 hv hx).of_d
  generalize he:ac.eval x=z at hr
  cases hr
  refine⟨.bool neg,?_,repBool _⟩
  have e2:ac.eval (.const .nilIface)=.nilIface:=rfl
  simp only [execOp,h,he,e2,Sem.run_bind,eqGuard_in,Result.andThen_ok,run_eq_in neg hu,Sem.run_pure]
theorem u8_range(b:UInt8):Sc (.int .u8 b.toNat):=by
 have:=b.toNat_lt
 simp [Sc,IntKind.min,IntKind.max,IntKind.bits,IntKind.signed];omega
theorem get_data(s:ByteArray) (i:Nat):s[i]?=s.data.toList[i]?:=by
 rw [Array.getElem?_toList]
 by_cases h:i<s.size
 ·rw [getElem?_pos s i h,Array.getElem?_eq_getElem (by exact h)];rfl
 ·rw [getElem?_neg s i h,Array.getElem?_eq_none (by exact Nat.le_of_not_lt h)]
theorem sound_strIdx{t x y x' y'} {s:ByteArray}{k:IntKind}{i:Int}(h:o.op=.index t x y) (hx:CO x x') (hy:CO y y') (hu:P.underlying t=some .string) (hc:0≤i∧i<s.data.toList.length) (p:Prop) :
  OpLoc E P ro o [(x',.d (.lit (.string s))),(y',.d (.lit (.int k i)))] {c:=p,v:=.d (.lit (.int .u8 (s.data.toList.getD i.toNat 0).toNat))} :=
 opLoc_pure (by simp [h]) fun G ac w hp H hv=>by
  obtain⟨v1,v2⟩:=ev2 hv hx hy
  obtain⟨e1,_⟩:=v1.lit
  obtain⟨e2,_⟩:=v2.lit
  refine⟨_,?_,.d (.lit (u8_range _))⟩
  have hlt:i.toNat<s.data.toList.length:=by omega
  have hg:s[i.toNat]?=some (s.data.toList.getD i.toNat 0):=by
   rw [get_data,List.getElem?_eq_getElem hlt];simp [List.getD,List.getElem?_eq_getElem hlt]
  simp only [execOp,h,e1,e2,Instr.index,asIntOf,Sem.run_bind,Sem.run_pure,Result.andThen_ok,run_underlying hu,hc.1,if_true,hg]
theorem sound_idxV{t e n i d sz ag x y x' y'} {cs:List D}{k:IntKind}{j:Int}(h:o.op=.index t x y) (hx:CO x x') (hy:CO y y') (hu:P.underlying t=some (.array n e)) (hi:P.info? e=some i) (hs:i.size=sz)
  (hd:P.underlying e=some d) (hag:d.isRow=ag) (hc0:0≤j∧j<n) (hc1:j.toNat*sz+sz≤cs.length) (hc2:ag=false→sz=1) (p:Prop) :
  OpLoc E P ro o [(x',.d (.agg cs)),(y',.d (.lit (.int k j)))] {c:=p,v:=.d (subD (j.toNat*sz) sz ag (.agg cs))} :=
 opLoc_pure (by simp [h]) fun G ac w hp H hv=>by
  obtain⟨v1,v2⟩:=ev2 hv hx hy
  have hr:=v1.of_d
  obtain⟨e2,_⟩:=v2.lit
  generalize he:ac.eval x=u at hr
  cases hr
  rename_i vs hl h1 hr
  have hp:=run_part (P:=P) (w:=w) (cs:=vs) (off:=j.toNat*sz) hi hd (by rw [hs,hl];exact hc1) (fun hf=>by rw [hs];exact hc2 (by rw [← hag,hf]))
  refine⟨if d.isRow then .agg (vs.extract (j.toNat*sz) (j.toNat*sz+i.size)) else vs.getD (j.toNat*sz) undef,by
   subst hs
   simp [execOp,h,he,e2,Instr.index,asIntOf,run_underlying hu,hc0.1,hc0.2,sizeOf,typeInfo,hi,hp],.d ?_⟩
  cases hag':ag with
  | true =>
   rw [hag'] at hag
   simp only [hag,if_true,subD,D.cells]
   refine .agg (by simp [hl,hs];omega) (fun c hc=>h1 c (List.mem_of_mem_drop (List.mem_of_mem_take hc))) (fun k c u hk hu=>?_)
   rw [List.getElem?_take] at hk
   split at hk
   ·rw [List.getElem?_drop] at hk
    rw [Array.getElem?_extract] at hu
    split at hu
    ·exact hr _ c u hk hu
    ·cases hu
   ·cases hk
  | false =>
   rw [hag'] at hag
   have:=hc2 hag'
   subst this
   have ho:j.toNat*1<cs.length:=by omega
   have ho':j.toNat*1<vs.size:=by omega
   simp only [hag,Bool.false_eq_true,if_false,subD,D.cells]
   exact hr (j.toNat*1) _ _ (by simp only [List.getD,List.getElem?_eq_getElem ho];rfl) (by simp [Array.getD,show j.toNat<vs.size by omega])
theorem sound_idxVA{t e n i d sz ag x y x' y'} {cs:List AV}{k:IntKind}{j:Int}(h:o.op=.index t x y) (hx:CO x x') (hy:CO y y') (hu:P.underlying t=some (.array n e)) (hi:P.info? e=some i) (hs:i.size=sz)
  (hd:P.underlying e=some d) (hag:d.isRow=ag) (hc0:0≤j∧j<n) (hc1:j.toNat<cs.length) (hc2:sz=1) (hc3:ag=false) (p:Prop) :
  OpLoc E P ro o [(x',.agg cs),(y',.d (.lit (.int k j)))] {c:=p,v:=cs.getD j.toNat default} :=
 opLoc_pure (by simp [h]) fun G ac w hp H hv=>by
  obtain⟨v1,v2⟩:=ev2 hv hx hy
  obtain⟨e2,_⟩:=v2.lit
  generalize he:ac.eval x=u at v1
  cases v1
  rename_i vs hl h1 hr
  subst hc2;subst hc3
  have hp:=run_part (P:=P) (w:=w) (cs:=vs) (off:=j.toNat) hi hd (by rw [hs,hl];omega) (fun _=>by rw [hs])
  refine⟨if d.isRow then .agg (vs.extract j.toNat (j.toNat+i.size)) else vs.getD j.toNat undef,by
   simp [execOp,h,he,e2,Instr.index,asIntOf,run_underlying hu,hc0.1,hc0.2,sizeOf,typeInfo,hi,hp,hs],?_⟩
  simp only [hag,Bool.false_eq_true,if_false]
  have ho':j.toNat<vs.size:=by omega
  exact hr j.toNat _ _ (by simp only [List.getD,List.getElem?_eq_getElem hc1];rfl) (by simp [Array.getD,ho'])
theorem sound_tassert1{x x' st at_} {ty:TypeId}{d:D}{desc:TypeDesc}(h:o.op=.typeAssert x st at_ false) (hx:CO x x') (hu:P.underlying at_=some desc) (hd:∀ ms,desc≠.interface ms) (ht:ty=at_) (p:Prop) :
  OpLoc E P ro o [(x',.d (.ifc ty d))] {c:=p,v:=.d d} :=
 opLoc_pure (by simp [h]) fun G ac w hp H hv=>by
  have hr:=(ev1 hv hx).of_d
  generalize he:ac.eval x=u at hr
  cases hr
  rename_i v hr
  refine⟨v,?_,.d hr⟩
  have hrun:(Instr.typeAssert (.iface ty v) st at_ false).run P w=.ok v w:=by
   unfold Instr.typeAssert
   simp only [Sem.run_bind,run_underlying hu,Result.andThen_ok]
   cases desc <;> first
    | (exact absurd rfl (hd _))
    | (simp [ht])
  simp only [execOp,h,Sem.run_bind,he,hrun,Result.andThen_ok,Sem.run_pure]
theorem sound_lenM{x x' t kt et n} {es:List (Value×AV)}(h:o.op=.call {callee:=.builtin .len,args:=#[x],argTypes:=#[t]}) (hx:CO x x') (hu:P.underlying t=some (.map kt et)) (hc:es.length≤9223372036854775807) (c:Prop) :
  OpLoc E P ro o [(x',.mp n)] {c:=c,v:=.d (.lit (.int .i64 es.length)),hin:=[(n,.mapo es)]}:=by
 intro G a w hp H hxx hn hup K Q hK
 have v1:=ev1 hxx hx
 generalize he:a.eval x=u at v1
 cases v1
 rename_i b hb
 obtain⟨b',arr,ck,f1,f2,f3⟩:=H.mapo n es (hn (n,.mapo es) (by simp))
 rw [hb] at f1;injection f1 with f1;subst f1
 exact wpIn_value (v:=.int .i64 es.length) (by simp [h]) (w':=w) (by simp [execOp,h,resolve,invoke,builtin,he,Builtin.len_,run_underlying hu,MapKept.run_getObj_map f2,goInt,f3.1]) (hK _ w G (GLe.refl G w) H (.d (.lit (sc_len (by omega)))))
theorem extract_data(s:ByteArray) (l h:Nat):s.extract l h=⟨((s.data.toList.take h).drop l).toArray⟩:=by
 have:s=⟨s.data.toList.toArray⟩:=by cases s;simp
 rw [this,ByteArray.extract_mk,List.drop_take]
theorem extract_whole(s:ByteArray):s.extract 0 s.size=s:=by
 rw [extract_data,List.take_of_length_le (by simp)];cases s;simp
theorem sound_sliceS{t x lo hi x' lo' hi'} {s:ByteArray}{vs vs':List AV}{l hh:Int}(h:o.op=.slice t x lo hi none) (hx:CO x x') (hlo:COopt lo lo') (hhi:COopt hi hi') (hu:P.underlying t=some .string)
  (hb1:bound lo' vs 0=some (l,vs')) (hb2:bound hi' vs' s.data.toList.length=some (hh,[])) (hc:0≤l∧l≤hh∧hh≤s.data.toList.length) (p:Prop) :
  OpLoc E P ro o ((x'::(optL lo'++optL hi')).zip (.d (.lit (.string s))::vs)) {c:=p,v:=.d (.lit (.string ⟨((s.data.toList.take hh.toNat).drop l.toNat).toArray⟩))} :=
 opLoc_pure (by simp [h]) fun G ac w hp H hv=>by
  obtain⟨c1,c2,c3⟩:=hc
  obtain⟨e1,s1⟩:=((hv (x',.d (.lit (.string s))) (by simp) x hx)).lit
  have hsz:s.size=s.data.toList.length:=by simp
  obtain⟨g1,g2⟩:=bound_ev hlo hb1 (fun p hp=>hv p (by simp;exact .inr hp)) (rest:=optL hi')
  obtain⟨g3,_⟩:=bound_ev hhi hb2 (rest:=[]) (by simpa using g2)
  obtain⟨l,rfl⟩:=Int.eq_ofNat_of_zero_le c1
  obtain⟨hh,rfl⟩:=Int.eq_ofNat_of_zero_le (Int.le_trans c1 c2)
  have hrun:(Instr.sliceAt t (.string s) (lo.map ac.eval) (hi.map ac.eval) none).run P w=.ok (.string (s.extract l hh)) w:=by
   have c2':(l:Int)≤hh:=c2
   have c3':(hh:Int)≤s.size:=by rw [hsz];exact c3
   rcases g1 with ⟨q1,q2⟩ | ⟨k,q1⟩ <;> rcases g3 with ⟨q3,q4⟩ | ⟨k',q3⟩ <;> rw [q1,q3] <;>
    simp [Instr.sliceAt,run_underlying hu,Instr.slice,Instr.sliceBounds,Instr.sliceBound,asIntOf]
   ·have e1:l=0:=by simpa using q2
    have e2:hh=s.size:=by have:(hh:Int)=_:=q4;omega
    rw [e1,e2];exact(extract_whole s).symm
   ·have e1:l=0:=by simpa using q2
    have:hh≤s.size:=by omega
    simp [e1,this]
   ·have e2:hh=s.size:=by have:(hh:Int)=_:=q4;omega
    subst e2
    have:l≤s.size:=by omega
    simp [this]
   ·have:l≤hh:=by omega
    have h2:hh≤s.size:=by omega
    simp [this,h2]
  refine⟨.string (s.extract l hh),by simp only [execOp,h,Sem.run_bind,e1,Option.map_none,hrun,Result.andThen_ok,Sem.run_pure],?_⟩
  rw [extract_data]
  refine .d (.lit ?_)
  simp only [Sc] at s1 ⊢
  show ((s.data.toList.take (hh:Int).toNat).drop (l:Int).toNat).toArray.size≤_
  simp only [List.size_toArray,List.length_drop,List.length_take,Int.toNat_natCast];omega
theorem fdiv_range{k:IntKind}{a:Int}(n:Nat) (ha:k.min≤a∧a≤k.max):k.min≤a.fdiv (2 ^ n)∧a.fdiv (2 ^ n)≤k.max:=by
 have hp:(0:Int)<2 ^ n:=Int.pow_pos (by decide)
 have hm:k.min≤0:=by cases k <;> simp [IntKind.min,IntKind.bits,IntKind.signed]
 have hM:0≤k.max:=by cases k <;> simp [IntKind.max,IntKind.bits,IntKind.signed]
 rw [Int.fdiv_eq_ediv_of_nonneg _ (Int.le_of_lt hp)]
 rcases Int.le_total 0 a with h | h
 ·have h1:=Int.ediv_nonneg h (Int.le_of_lt hp)
  have h2:=Int.ediv_le_self (2 ^ n) h
  omega
 ·have h1:a / 2 ^ n≤0:=by
   have:=Int.ediv_le_ediv hp h
   simpa using this
  have h2:a≤a / 2 ^ n:=by
   rw [Int.le_ediv_iff_mul_le hp]
   have h3:=Int.mul_le_mul_of_nonneg_left (a:=1) (b:=2 ^ n) (c:=-a) (by omega) (by omega)
   rw [Int.neg_mul,Int.neg_mul] at h3
   omega
  omega
theorem sound_shift{left:Bool}{t u x y x' y'} {k k':IntKind}{a b:Int}(h:o.op=.binOp (if left then .shl else .shr) t x y u) (hx:CO x x') (hy:CO y y') (hc:0≤b) (p:Prop) :
  OpLoc E P ro o [(x',.d (.lit (.int k a))),(y',.d (.lit (.int k' b)))] {c:=p,v:=.d (.lit (shiftV left k a b))} :=
 opLoc_pure (by simp [h]) fun G ac w hp H hv=>by
  obtain⟨v1,v2⟩:=ev2 hv hx hy
  obtain⟨e1,s1⟩:=v1.lit
  obtain⟨e2,s2⟩:=v2.lit
  have hn:¬ b<0:=by omega
  refine⟨shiftV left k a b,?_,.d (.lit ?_)⟩
  ·cases left <;> simp [execOp,h,e1,e2,eqGuard_int,binOp,Op.shift,hn,shiftV]
  ·cases left
   ·simp only [shiftV,Sc,Bool.false_eq_true,if_false];exact fdiv_range _ s1
   ·simp only [shiftV,Sc,if_true];exact wrap_range _ _
theorem sound_uneg{t x x'} {k:IntKind}{a:Int}(h:o.op=.unOp .neg t x) (hx:CO x x') (p:Prop):OpLoc E P ro o [(x',.d (.lit (.int k a)))] {c:=p,v:=.d (.lit (.int k (k.wrap (0-a))))} :=
 opLoc_pure (by simp [h]) fun G ac w hp H hv=>by
  obtain⟨e1,s1⟩:=(ev1 hv hx).lit
  exact⟨.int k (k.wrap (0-a)),by simp [execOp,h,e1,Op.unary,Op.intArith],.d (.lit (wrap_range _ _))⟩
theorem sound_tassert_i{x x' st at_ i zv} {z:D}{ty:TypeId}{d:D}{desc:TypeDesc}(h:o.op=.typeAssert x st at_ true) (hx:CO x x') (hu:P.underlying at_=some desc) (hd:∀ ms,desc≠.interface ms) (hi:P.info? at_=some i) (hz:i.zero=some zv) (hzz:∀ I w,Rep I w z zv) (p:Prop) :
  OpLoc E P ro o [(x',.d (.ifc ty d))] {c:=p,v:=.d (.tup [if ty=at_ then d else z,.lit (.bool (decide (ty=at_)))])} :=
 opLoc_pure (by simp [h]) fun G ac w hp H hv=>by
  have hr:=(ev1 hv hx).of_d
  generalize he:ac.eval x=u at hr
  cases hr
  rename_i v hr
  refine⟨.tuple #[if ty=at_ then v else zv,.bool (decide (ty=at_))],?_,.d (.tup rfl (fun k c u hk hu=>?_))⟩
  ·have hrun:(Instr.typeAssert (.iface ty v) st at_ true).run P w=.ok (.tuple #[if ty=at_ then v else zv,.bool (decide (ty=at_))]) w:=by
    unfold Instr.typeAssert
    simp only [Sem.run_bind,run_underlying hu,Result.andThen_ok]
    cases desc <;> first
     | (exact absurd rfl (hd _))
     | (by_cases ht:ty=at_ <;> simp [ht,zeroValue,typeInfo,hi,hz])
   simp only [execOp,h,Sem.run_bind,he,hrun,Result.andThen_ok,Sem.run_pure]
  ·match k with
   | 0 =>
    simp at hk hu;subst hk;subst hu
    split
    ·exact hr
    ·exact hzz _ _
   | 1=>simp at hk hu;subst hk;subst hu;exact .lit trivial
   | k+2=>simp at hk
theorem sound_tassert_n{x x' st at_ i zv} {z:D}{desc:TypeDesc}(h:o.op=.typeAssert x st at_ true) (hx:CO x x') (hu:P.underlying at_=some desc) (hd:∀ ms,desc≠.interface ms) (hi:P.info? at_=some i) (hz:i.zero=some zv) (hzz:∀ I w,Rep I w z zv) (p:Prop) :
  OpLoc E P ro o [(x',.d (.lit .nilIface))] {c:=p,v:=.d (.tup [z,.lit (.bool false)])} :=
 opLoc_pure (by simp [h]) fun G ac w hp H hv=>by
  obtain⟨e1,_⟩:=(ev1 hv hx).lit
  refine⟨.tuple #[zv,.bool false],?_,.d (.tup rfl (fun k c u hk hu=>?_))⟩
  ·have hrun:(Instr.typeAssert .nilIface st at_ true).run P w=.ok (.tuple #[zv,.bool false]) w:=by
    unfold Instr.typeAssert
    simp only [Sem.run_bind,run_underlying hu,Result.andThen_ok]
    cases desc <;> first
     | (exact absurd rfl (hd _))
     | (simp [zeroValue,typeInfo,hi,hz])
   simp only [execOp,h,Sem.run_bind,e1,hrun,Result.andThen_ok,Sem.run_pure]
  ·match k with
   | 0=>simp at hk hu;subst hk;subst hu;exact hzz _ _
   | 1=>simp at hk hu;subst hk;subst hu;exact .lit trivial
   | k+2=>simp at hk
theorem sound_nilChk_p{x x'} {n off:Nat}(h:o.op=.nilCheck x) (hx:CO x x') (p:Prop):OpLoc E P ro o [(x',.ptr n off)] {c:=p,v:=.ptr n off} :=
 opLoc_pure (by simp [h]) fun G ac w hp H hv=>by
  have hr:=ev1 hv hx
  generalize he:ac.eval x=u at hr
  cases hr
  rename_i b hb
  exact⟨.pointer (some ⟨b,off,none⟩),by simp [execOp,h,he],.ptr hb⟩
theorem sound_nilChk_d{x x'} {d:D}(h:o.op=.nilCheck x) (hx:CO x x') (p:Prop):OpLoc E P ro o [(x',.d (.ip d))] {c:=p,v:=.d (.ip d)} :=
 opLoc_pure (by simp [h]) fun G ac w hp H hv=>by
  have hr:=(ev1 hv hx).of_d
  generalize he:ac.eval x=u at hr
  have hr':=hr
  cases hr
  rename_i ad vs _ _ _
  exact⟨.pointer (some ad),by simp [execOp,h,he],.d hr'⟩
theorem sameNow_eq{sk:SK}{k k':Value}{b:Bool}(hk:kIs sk k=true) (h:kSame k k'=some b):Instr.sameNow (SK.desc sk) k k'=some b:=by
 cases sk <;> cases k <;> simp [kIs] at hk <;> cases k' <;> simp only [kSame,reduceCtorEq] at h <;> simpa [Instr.sameNow,SK.desc] using h
theorem findNow_eq{sk:SK}{k:Value}{G:Gh}{w:World}(hk:kIs sk k=true):∀ {es:List (Value×AV)}{l:List MapEntry}{i:Nat}{r:Option AV},kFind k es=some r→l.length=es.length→(∀ (j:Nat) (e:Value×AV) (x:MapEntry),es[j]?=some e→l[j]?=some x→x.key=e.1∧RepA G w e.2 x.val) →
  match r with
  | none=>Instr.findNow (SK.desc sk) k l i=some none
  | some v=>∃ j val,Instr.findNow (SK.desc sk) k l i=some (some (j,val))∧RepA G w v val
 | [],[],i,r,h,_,_=>by simp only [kFind,Option.some.injEq] at h;subst h;rfl
 | [],_::_,i,r,h,hl,_=>by simp at hl
 | _::_,[],i,r,h,hl,_=>by simp at hl
 | e::es,x::l,i,r,h,hl,he=>by
  obtain⟨e1,e2⟩:=he 0 e x rfl rfl
  simp only [kFind] at h
  split at h
  ·rename_i hs
   simp only [Option.some.injEq] at h;subst h
   refine⟨i,x.val,?_,e2⟩
   unfold Instr.findNow
   rw [e1,sameNow_eq hk hs]
  ·rename_i hs
   have ih:=findNow_eq (i:=i+1) hk h (by simpa using hl) (fun j e x h1 h2=>he (j+1) e x (by simpa using h1) (by simpa using h2))
   have hstep:Instr.findNow (SK.desc sk) k (x::l) i=Instr.findNow (SK.desc sk) k l (i+1):=by
    conv=>lhs;unfold Instr.findNow
    rw [e1,sameNow_eq hk hs]
   rw [hstep];exact ih
  ·cases h
theorem run_checkKey{P:Program}{w:World}{sk:SK}{k:Value}{t:TypeId}(b:Bool) (hk:kIs sk k=true) (hu:P.underlying t=some (SK.desc sk)):(Instr.checkKey b 10000 t k).run P w=.ok () w:=by
 unfold Instr.checkKey
 cases sk <;> cases k <;> simp [kIs] at hk <;> simp [run_underlying hu,SK.desc]
theorem run_findKey{P:Program}{w:World}{sk:SK}{k:Value}{t:TypeId}{l:List MapEntry}{r:Option (Nat×Value)}(hu:P.underlying t=some (SK.desc sk)) (h:Instr.findNow (SK.desc sk) k l 0=some r):(Instr.findKey t k l).run P w=.ok r w:=by
 unfold Instr.findKey
 simp [run_underlying hu,h]
theorem sound_mkmap{t n} (h:o.op=.makeMap t none) (c:Prop):OpLoc E P ro o [] {c:=c,v:=.mp n,up:=[(n,.mapo [])]}:=by
 intro G a w hp H hx _ hn K Q hK
 have hfr:hp n=none:=by
  rcases hn (n,.mapo []) (by simp) with h | ⟨q,hq,_⟩
  ·exact h
  ·simp at hq
 obtain⟨l1,l2⟩:=H.newAny hfr default (.map #[] 0) (.mapo []) (.inr ⟨[],#[],0,rfl,rfl,rfl,fun k e x h1=>by simp at h1⟩)
 exact wpIn_value (by simp [h]) (w':=w.alloc (.map #[] 0)) (v:=.map (some w.heap.size)) (by simp [execOp,h,Instr.makeMap]) (hK _ _ _ l1 l2 (.mp (by simp)))
theorem sound_lookup{mt kt et m k m' k' sk ok i zv z n} {es:List (Value×AV)}{kv:Value}{r:Option AV}(h:o.op=.lookup mt m k ok) (hm:CO m m') (hk:CO k k') (hu:P.underlying mt=some (.map kt et)) (hkt:P.underlying kt=some (SK.desc sk)) (hi:P.info? et=some i) (hz:i.zero=some zv) (hzz:∀ I w,Rep I w z zv)
  (hf:kFind kv es=some r) (hs:kIs sk kv=true) (c:Prop) :
  OpLoc E P ro o [(m',.mp n),(k',.d (.lit kv))] {c:=c,v:=lookV ok (r.getD (.d z)) r.isSome,hin:=[(n,.mapo es)]}:=by
 intro G a w hp H hx hn hup K Q hK
 obtain⟨v1,v2⟩:=ev2 hx hm hk
 obtain⟨e2,_⟩:=v2.lit
 generalize he:a.eval m=u at v1
 cases v1
 rename_i b hb
 obtain⟨b',arr,ck,f1,f2,f3⟩:=H.mapo n es (hn (n,.mapo es) (by simp))
 rw [hb] at f1;injection f1 with f1;subst f1
 have hfn:=findNow_eq (G:=G) (w:=w) (i:=0) hs hf (l:=arr.toList) (by simpa using f3.1) (fun j e x h1 h2=>f3.2 j e x h1 (by simpa using h2))
 have hfin:∃ v,(Instr.lookup mt (.map (some b)) kv ok).run P w=.ok (if ok then .tuple #[v,.bool r.isSome] else v) w∧RepA G w (r.getD (.d z)) v:=by
  cases r with
  | none =>
   refine⟨zv,?_,.d (hzz _ _)⟩
   unfold Instr.lookup
   simp [run_underlying hu,MapKept.run_getObj_map f2,run_checkKey _ hs hkt,run_findKey hkt hfn,zeroValue,typeInfo,hi,hz]
  | some v =>
   obtain⟨j,val,q1,q2⟩:=hfn
   refine⟨val,?_,q2⟩
   unfold Instr.lookup
   simp [run_underlying hu,MapKept.run_getObj_map f2,run_checkKey _ hs hkt,run_findKey hkt q1]
 obtain⟨v,q1,q2⟩:=hfin
 refine wpIn_value (v:=if ok then .tuple #[v,.bool r.isSome] else v) (by simp [h]) (w':=w) (by simp only [execOp,h,Sem.run_bind,he,e2,q1,Result.andThen_ok,Sem.run_pure]) (hK _ w G (GLe.refl G w) H ?_)
 cases ok
 ·exact q2
 ·refine .tup rfl (fun k c u hk hu=>?_)
  match k with
  | 0=>simp at hk hu;subst hk;subst hu;exact q2
  | 1=>simp at hk hu;subst hk;subst hu;exact repBool _
  | k+2=>simp at hk
theorem sound_lookup_nil{mt kt et m k m' k' sk ok i zv z} {kv:Value}(h:o.op=.lookup mt m k ok) (hm:CO m m') (hk:CO k k') (hu:P.underlying mt=some (.map kt et)) (hkt:P.underlying kt=some (SK.desc sk)) (hi:P.info? et=some i) (hz:i.zero=some zv) (hzz:∀ I w,Rep I w z zv)
  (hs:kIs sk kv=true) (c:Prop) :
  OpLoc E P ro o [(m',.d (.lit (.map none))),(k',.d (.lit kv))] {c:=c,v:=lookV ok (.d z) false} :=
 opLoc_pure (by simp [h]) fun G a w hp H hv=>by
  obtain⟨v1,v2⟩:=ev2 hv hm hk
  obtain⟨e1,_⟩:=v1.lit
  obtain⟨e2,_⟩:=v2.lit
  have hfn:Instr.findNow (SK.desc sk) kv [] 0=some none:=rfl
  have q1:(Instr.lookup mt (.map none) kv ok).run P w=.ok (if ok then .tuple #[zv,.bool false] else zv) w:=by
   unfold Instr.lookup
   simp [run_underlying hu,run_checkKey _ hs hkt,run_findKey hkt hfn,zeroValue,typeInfo,hi,hz]
  refine⟨if ok then .tuple #[zv,.bool false] else zv,by simp only [execOp,h,Sem.run_bind,e1,e2,q1,Result.andThen_ok,Sem.run_pure],?_⟩
  cases ok
  ·exact .d (hzz _ _)
  ·refine .tup rfl (fun k c u hk hu=>?_)
   match k with
   | 0=>simp at hk hu;subst hk;subst hu;exact .d (hzz _ _)
   | 1=>simp at hk hu;subst hk;subst hu;exact repBool _
   | k+2=>simp at hk
theorem sound_insert{mt kt et m k v m' k' v' sk n} {es:List (Value×AV)}{kv:Value}{x:AV}(h:o.op=.insert mt m k v∨o.op=.mapUpdate mt m k v) (hm:CO m m') (hk:CO k k') (hv:CO v v') (hu:P.underlying mt=some (.map kt et)) (hkt:P.underlying kt=some (SK.desc sk))
  (hf:kFind kv es=some none) (hs:kIs sk kv=true) (c:Prop) :
  OpLoc E P ro o [(m',.mp n),(k',.d (.lit kv)),(v',x)] {c:=c,v:=.tup [],hin:=[(n,.mapo es)],up:=[(n,.mapo (es++[(kv,x)]))]}:=by
 intro G a w hp H hx hn hup K Q hK
 have v1:=hx (m',.mp n) (by simp) m hm
 obtain⟨e2,_⟩:=(hx (k',.d (.lit kv)) (by simp) k hk).lit
 have v3:=hx (v',x) (by simp) v hv
 generalize he:a.eval m=u at v1
 cases v1
 rename_i b hb
 obtain⟨b',arr,ck,f1,f2,f3⟩:=H.mapo n es (hn (n,.mapo es) (by simp))
 rw [hb] at f1;injection f1 with f1;subst f1
 have hfn:=findNow_eq (G:=G) (w:=w) (i:=0) hs hf (l:=arr.toList) (by simpa using f3.1) (fun j e x h1 h2=>f3.2 j e x h1 (by simpa using h2))
 have hE:RepE G w (es++[(kv,x)]) (arr.push {key:=kv,val:=a.eval v,born:=ck}):=by
  refine⟨by simp [f3.1],fun j e y h1 h2=>?_⟩
  by_cases hj:j<es.length
  ·rw [List.getElem?_append_left hj] at h1
   rw [Array.getElem?_push,if_neg (by have:=f3.1;omega)] at h2
   exact f3.2 j e y h1 h2
  ·by_cases hj':j=es.length
   ·subst hj'
    rw [List.getElem?_append_right (Nat.le_refl _)] at h1
    rw [Array.getElem?_push,if_pos f3.1.symm] at h2
    simp at h1 h2;subst h1;subst h2
    exact⟨rfl,v3⟩
   ·rw [List.getElem?_eq_none (by simp;omega)] at h1;cases h1
 obtain⟨u1,u2⟩:=H.putAny (by have:=hn (n,.mapo es) (by simp);simp only at this;rw [this];simp) hb (.map (arr.push {key:=kv,val:=a.eval v,born:=ck}) (ck+1)) (.mapo (es++[(kv,x)])) (.inr (.inr ⟨_,_,_,rfl,rfl,hE⟩))
 have hrun:(Instr.mapUpdate mt (.map (some b)) kv (a.eval v)).run P w=.ok () (w.putObj b (.map (arr.push {key:=kv,val:=a.eval v,born:=ck}) (ck+1))):=by
  unfold Instr.mapUpdate
  simp [run_underlying hu,MapKept.run_getObj_map f2,run_checkKey _ hs hkt,run_findKey hkt hfn,MapKept.run_setObj_map _ f2,World.putObj]
 refine wpIn_skipv (by rcases h with h | h <;> simp [h]) (w':=w.putObj b (.map (arr.push {key:=kv,val:=a.eval v,born:=ck}) (ck+1))) (by rcases h with h | h <;> simp only [execOp,h,Sem.run_bind,he,e2,hrun,Result.andThen_ok,Sem.run_pure]) ?_
 exact hK undef _ G u1 u2 (.tup rfl (fun k c v hk=>by simp at hk))
theorem sound_capNil{x x' t e n} (h:o.op=.call {callee:=.builtin .cap,args:=#[x],argTypes:=#[t]}) (hx:CO x x') (hu:P.underlying t=some (.slice e)) (p:Prop) :
  OpLoc E P ro o [(x',.d (.nil n))] {c:=p,v:=.d (.lit (.int .i64 0))} :=
 opLoc_pure (by simp [h]) fun G a w hp H hvv=>by
  have hr:=(ev1 hvv hx).of_d
  generalize he:a.eval x=u at hr
  cases hr
  exact⟨.int .i64 0,by simp [execOp,h,resolve,invoke,builtin,he,Builtin.cap_,run_underlying hu,goInt],.d (.lit (by simp [Sc,IntKind.min,IntKind.max,IntKind.bits,IntKind.signed]))⟩
theorem sound_appendN{t tn e i zv x y x' y' sz bytes kn q n0} {k:IntKind}{n:Int}(h:o.op=.call {callee:=.builtin .append,args:=#[x,y],argTypes:=#[t,tn]}) (hx:CO x x') (hy:CO y y') (hu:P.underlying t=some (.slice e)) (htn:P.underlying tn=some (.int kn))
  (hi:P.info? e=some i) (hs:i.size=sz) (hb:i.bytes=bytes) (hz:i.zero=some zv) (hzs:zv.cells.size=sz) (hs0:0<sz) (hc:0<n∧n.toNat*bytes≤140737488355328∧n≤9223372036854775807) (p:Prop) :
  OpLoc E P ro o [(x',.d (.nil n0)),(y',.d (.lit (.int k n)))] {c:=p,v:=.spare q sz n.toNat,up:=[(q,.row)]}:=by
 intro G a w hp H hx' _ hup K Q hK
 obtain⟨v1,v2⟩:=ev2 hx' hx hy
 obtain⟨e2,_⟩:=v2.lit
 have hr:=v1.of_d
 generalize he:a.eval x=u at hr
 cases hr
 have hfr:hp q=none:=by
  rcases hup (q,.row) (by simp) with h | ⟨q,hq,_⟩
  ·exact h
  ·simp at hq
 obtain⟨n,rfl⟩:=Int.eq_ofNat_of_zero_le (Int.le_of_lt hc.1)
 obtain⟨c1,c2,c3⟩:=hc
 simp only [Int.toNat_natCast] at c2 ⊢
 have hrun:=Lib.run_append_nil_zeros (P:=P) w t tn o.type e i zv k kn hu htn hi hz n (by omega) (by omega) (by omega) (by rw [hb];omega)
 generalize hcapv:grownCap w n 0 e=ncap at hrun
 have hge:n≤ncap:=by rw [← hcapv];exact grownCap_ge w n 0 e
 have hle':ncap≤9223372036854775807:=by rw [← hcapv];exact grownCap_le_maxLen w n 0 e (by simp only [maxLen];omega)
 generalize hzr:Builtin.zeroCells zv.cells n++Builtin.zeroCells zv.cells (ncap-n)=zr at hrun
 have hzl:zr.size=ncap*sz:=by
  rw [← hzr,Array.size_append,size_zeroCells,size_zeroCells,hzs,← Nat.add_mul];congr 1;omega
 have hg:Grow w (w.drew.alloc (.cells zr e)):=⟨rfl,rfl,rfl,by simp,fun b hb=>by first | exact heap_alloc_old w.drew _ b hb | exact heap_alloc_old w.drew _ hb⟩
 obtain⟨l1,l2⟩:=H.grow hg G.I (fun _ h=>h) (fun _ h=>.inl h) (fun a' ha'=>by rw [hg.cell (H.ilt ha')];exact H.icell a' ha')
 have hT':Tail E G (w.drew.alloc (.cells zr e)) (some ⟨w.heap.size,0,none⟩) 0 ncap sz:=fun k hk hk'=>by
  refine⟨_,rfl,?_,?_,fun hi'=>?_,⟨fun hk''=>?_,E.hN _ H.size⟩,fun m' hm'=>?_⟩
  ·rw [add_mk,Nat.zero_add,show (⟨w.heap.size,k,none⟩:Addr)=⟨w.drew.heap.size,k,none⟩ from rfl,cell_of_row (w.drew.alloc (.cells zr e)) w.drew.heap.size k zr e (0,0) (heap_alloc_new w.drew _)]
   exact Option.isSome_iff_exists.2 ⟨_,Array.getElem?_eq_getElem (by omega)⟩
  ·rw [add_mk]
   have hh:=heap_alloc_new w.drew (.cells zr e)
   unfold World.frozen?
   simp only
   rw [show w.heap.size=w.drew.heap.size from rfl,hh]
   simp
  ·rw [add_mk] at hi'
   have:=H.ilt hi';simp at this
  ·have h1':=(H.kept _ hk'').1;have h2':=H.size;simp only at h1';omega
  ·have:=(H.bown m' _ hm').1;simp at this
 obtain⟨r1,r2⟩:=l2.addRow hfr hT' (fun _ r' A' n' cap' sz' hr' g' l' ad ad' e1 e2=>by
  injection e1 with e1;subst e1
  obtain⟨A0,n0',cap0,sz0,x1,x2⟩:=H.row r' hr'
  rw [show G.row r'=some (A',n',cap',sz') from g'] at x1
  injection x1 with x1;injection x1 with y1 y2;injection y2 with y2 y3;injection y3 with y3 y4
  subst y1;subst y2;subst y3;subst y4
  obtain⟨ad2,z1,z2,_⟩:=x2 (n'*sz') (Nat.le_refl _) l'
  rw [e2] at z1;injection z1 with z1;subst z1
  obtain⟨v0,hv0⟩:=Option.isSome_iff_exists.1 z2
  have:=World.block_lt_of_cell? w _ hv0
  rw [block_add] at this
  simp only;omega)
 refine wpIn_value (by simp [h]) (w':=w.drew.alloc (.cells zr e)) (v:=.slice (some ⟨w.heap.size,0,none⟩) n ncap) (by simp [execOp,h,resolve,invoke,builtin,he,e2,hrun]) (hK _ _ _ (l1.trans r1) r2 (.spare (by simp) hge hle'))
theorem sound_makeslice{t e i l c l' c' zv z sz bytes q} {k1 k2:IntKind}{a b:Int}(h:o.op=.makeSlice t l c) (hl:CO l l') (hcc:CO c c') (hu:P.underlying t=some (.slice e)) (hi:P.info? e=some i) (hs:i.size=sz) (hb:i.bytes=bytes) (hz:i.zero=some zv)
  (hzz:∀ I w,Rep I w z zv) (hzs:z.cells.length=sz) (hone:∀ ds,z≠.tup ds) (hs0:0<sz) (hc:a=b∧0≤a∧a.toNat*sz≤16777216∧a.toNat*bytes≤281474976710656∧a≤9223372036854775807) (p:Prop) :
  OpLoc E P ro o [(l',.d (.lit (.int k1 a))),(c',.d (.lit (.int k2 b)))] {c:=p,v:=.own q sz (List.replicate a.toNat z),up:=[(q,.row)]} :=
 sound_newrow (by simp [h]) fun G ac w hp H hvv=>by
  obtain⟨v1,v2⟩:=ev2 hvv hl hcc
  obtain⟨e1,_⟩:=v1.lit
  obtain⟨e2,_⟩:=v2.lit
  obtain⟨rfl,c2,c3,c4,c5⟩:=hc
  obtain⟨n,rfl⟩:=Int.eq_ofNat_of_zero_le c2
  simp only [Int.toNat_natCast] at c3 c4 ⊢
  have hrun:=run_makeSlice (P:=P) w t e i zv hu hi hz k1 k2 n n (by omega) (by omega) (by rw [Int.toNat_natCast,hs];exact c3) (by rw [hb,← Int.natCast_mul];rw [Nat.mul_comm] at c4;omega) c5
  simp only [Int.toNat_natCast,hs] at hrun
  generalize harr:madeCells zv.cells (n*sz)=arr at hrun
  have hsz:arr.size=n*sz:=by rw [← harr,size_madeCells]
  have hcz:=(hzz G.I w).cells hone
  have hzvs:zv.cells.size=sz:=by rw [hcz.1.1,hzs]
  have hall:∀ e∈List.replicate n z,e.cells.length=sz:=fun e he=>by rw [List.eq_of_mem_replicate he];exact hzs
  have hget:∀ k c,(D.flat (List.replicate n z))[k]?=some c→∃ v,arr[k]?=some v∧Rep G.I w c v∧c.one=true:=fun k c hk=>by
   have hlt:k<n*sz:=by
    have:=flat_len hall
    rw [List.length_replicate] at this
    rw [← this]
    rcases Nat.lt_or_ge k (D.flat (List.replicate n z)).length with h' | h'
    ·exact h'
    ·rw [List.getElem?_eq_none h'] at hk;cases hk
   have hi':k / sz<n:=(Nat.div_lt_iff_lt_mul hs0).2 hlt
   have hm:=Nat.mod_lt k hs0
   have hg:(List.replicate n z)[k / sz]?=some z:=by rw [List.getElem?_replicate];simp [hi']
   have e1:k=k / sz*sz+k % sz:=by have:=Nat.div_add_mod k sz;rw [Nat.mul_comm] at this;omega
   have hk2:z.cells[k % sz]?=some c:=by
    rw [← hk];conv=>rhs;rw [e1]
    exact(flat_get hall hg _ hm).symm
   have hlt2:k % sz<zv.cells.size:=by rw [hzvs];exact hm
   refine⟨zv.cells[k % sz],?_,hcz.1.2 _ c _ hk2 (Array.getElem?_eq_getElem hlt2),hcz.2 c (List.mem_of_getElem? hk2)⟩
   rw [← harr]
   rw [Array.getElem?_eq_getElem (by rw [size_madeCells];exact hlt)]
   simp only [madeCells,Array.getElem_map,Array.getElem_range,hzvs]
   rw [getElem!_pos zv.cells (k % sz) hlt2]
  have hg:=Grow.alloc w (.cells arr e)
  have hcell:∀ k,(w.alloc (.cells arr e)).cell? ⟨w.heap.size,k,none⟩=arr[k]?:=fun k =>
   cell_of_row (w.alloc (.cells arr e)) w.heap.size k arr e (0,0) (heap_alloc_new w _)
  obtain⟨l1,l2⟩:=H.grow hg (fun a'=>G.I a'∨(a'.block=w.heap.size∧a'.spot=none∧a'.off<arr.size)) (fun _ h=>.inl h) (fun a' ha'=>by
    rcases ha' with h' | h'
    ·exact .inl h'
    ·exact .inr (by omega)) (fun a' ha'=>by
    rcases ha' with h' | ⟨h1',h2',h3'⟩
    ·rw [hg.cell (H.ilt h')];exact H.icell a' h'
    ·have:a'=⟨w.heap.size,a'.off,none⟩:=by cases a';simp_all
     rw [this,hcell];simp [h3'])
  refine⟨some ⟨w.heap.size,0,none⟩,n,_,_,by simp only [execOp,h,e1,e2,Sem.run_bind,hrun,Result.andThen_ok,Sem.run_pure],l1,l2,?_⟩
  refine .sl ⟨w.heap.size,0,none⟩ (fun k=>arr.getD k undef) (by simp) (by omega) (by omega) (.inl rfl) hall (fun c hc'=>?_) (fun k c hk=>?_) (fun k c hk=>?_)
  ·obtain⟨k,hk⟩:=List.getElem?_of_mem hc'
   obtain⟨v,_,_,h3'⟩:=hget k c hk
   exact h3'
  ·obtain⟨v,h1',_,_⟩:=hget k c hk
   rw [add_mk,Nat.zero_add,hcell,h1']
   refine⟨.inr ⟨rfl,rfl,(Array.getElem?_eq_some_iff.1 h1').1⟩,?_⟩
   rw [Array.getD_eq_getD_getElem?,h1'];rfl
  ·obtain⟨v,h1',h2',_⟩:=hget k c hk
   have:arr.getD k undef=v:=by rw [Array.getD_eq_getD_getElem?,h1'];rfl
   rw [this]
   exact h2'.mono l1.imm
theorem sound_mksl0{t e i sz parts} (h:o.op=.buildSlice t 0 parts) (hu:P.underlying t=some (.slice e)) (hi:P.info? e=some i) (hp:parts=#[]) (p:Prop):OpLoc E P ro o [] {c:=p,v:=.e0 sz}:=by
 intro G a w hp' H _ _ _ K Q hK
 subst hp
 obtain⟨l1,l2⟩:=H.grow (Grow.alloc w (.cells #[] e)) G.I (fun _ h=>h) (fun _ h=>.inl h) (fun a' ha'=>by rw [(Grow.alloc w _).cell (H.ilt ha')];exact H.icell a' ha')
 refine wpIn_value (by simp [h]) (v:=.slice (some ⟨w.heap.size,0,none⟩) 0 0) (w':=w.alloc (.cells #[] e)) ?_ (hK _ _ _ l1 l2 .e0)
 simp [execOp,h,Instr.buildSlice,run_underlying hu,sizeOf,typeInfo,hi,Instr.fill,newRow]
 rw [show Array.range 0=#[] from Array.eq_empty_of_size_eq_zero (by simp),Array.map_empty]
theorem run_appendW{w:World}{G:Gh}{t ty e:TypeId}{i:TypeInfo}{zv:Value}{sz bytes:Nat}(ht:P.underlying t=some (.slice e)) (hi:P.info? e=some i) (hs:i.size=sz) (hb:i.bytes=bytes)
  (hz:i.zero=some zv) (hzs:zv.cells.size=sz) (_hs0:0<sz){A:Option Addr}{u:Value}{ys:List D}(hy:Rep G.I w (.sl sz ys) u) (hne:ys≠[])
  (hbytes:ys.length*bytes≤140737488355328) (h63:ys.length≤9223372036854775807) :
  ∃ (ds:List Value) (zr:Array Value) (ncap:Nat),(Builtin.append_ #[t,t] ty #[.slice A 0 0,u]).run P w=.ok (.slice (some ⟨w.heap.size,0,none⟩) ys.length ncap) (w.drew.alloc (.cells (ds.toArray++zr) e)) ∧
   ys.length≤ncap∧ncap≤9223372036854775807∧zr.size=(ncap-ys.length)*sz∧ds.length=ys.length*sz∧(∀ (j:Nat) (c:D) (u:Value),(D.flat ys)[j]?=some c→ds[j]?=some u→Rep G.I w c u)∧∀ c∈D.flat ys,c.one=true:=by
 obtain⟨m,By,cy,ady,vsy,e1,hm,hcy,hmy,_⟩:=hy.sl_inv
 subst e1
 obtain⟨ds,d1,d2,d3,d4,d5,d6,d7,d8,d9,d10⟩:=slice_cells hy
 have hm0:0<m:=by
  rcases Nat.eq_zero_or_pos m with h0 | h0
  ·exact absurd (List.eq_nil_of_length_eq_zero (by omega)) hne
  ·exact h0
 obtain⟨ay,hay⟩:∃ ay,By=some ay:=by
  cases By with
  | none=>exact absurd (d8 rfl) hne
  | some x=>exact⟨x,rfl⟩
 subst hay
 have hbytes':m*i.bytes≤140737488355328:=by rw [hb,d5];exact hbytes
 have hrun:∃ oldc,(Builtin.append_ #[t,t] ty #[.slice A 0 0,.slice (some ay) m cy]).run P w=.ok (.slice (some ⟨w.heap.size,0,none⟩) m (grownCap w m oldc e))
   (w.drew.alloc (.cells (ds.toArray++Builtin.zeroCells zv.cells (grownCap w m oldc e-m)) e)):=by
  cases A with
  | none =>
   have:=run_append_nil (P:=P) w t ty e i zv ht hi hz ay m cy ds (by rw [hs,d1]) (fun j u hj=>(d3 ay rfl j u hj).1) hm0 (by omega) (by omega)
   exact⟨0,by simpa using this⟩
  | some ad =>
   have:=run_append_grow (P:=P) w t ty e i zv ht hi hz ad 0 0 [] (by simp) (by simp) ay m cy ds (by rw [hs,d1]) (fun j u hj=>(d3 ay rfl j u hj).1) (by omega) (by omega) (growslice_fits (by omega) (by simpa using hbytes'))
   exact⟨0,by simpa using this⟩
 obtain⟨oldc,hrun⟩:=hrun
 refine⟨ds,_,_,by rw [← d5];exact hrun,by rw [← d5];exact grownCap_ge w m oldc e,grownCap_le_maxLen w m oldc e (by simp only [maxLen];omega),by rw [← d5,size_zeroCells,hzs],by rw [d1,d5],d4,d7⟩
theorem sound_appendW{t e i zv x y x' y' sz bytes z sy q} {ys:List D}{v:AV}(h:o.op=.call {callee:=.builtin .append,args:=#[x,y],argTypes:=#[t,t]}) (hx:CO x x') (hy:CO y y') (hu:P.underlying t=some (.slice e))
  (hi:P.info? e=some i) (hs:i.size=sz) (hb:i.bytes=bytes) (hz:i.zero=some zv) (hzs:zv.cells.size=sz) (hs0:0<sz) (hel:v.elems=some (sy,ys))
  (hc:ys≠[]∧sy=sz∧ys.length*bytes≤140737488355328∧ys.length≤9223372036854775807) (p:Prop) :
  OpLoc E P ro o [(x',.e0 z),(y',v)] {c:=p,v:=.bsl q 0 sz ys.length ys.length,up:=[(q,.box true (wr ys))]}:=by
 intro G a w hp H hvs _ hf K Q hK
 obtain⟨c1,rfl,c3,c4⟩:=hc
 obtain⟨v1,v2⟩:=ev2 hvs hx hy
 have hry:=elems_rep hel G w _ v2
 have hq:hp q=none:=by
  rcases hf (q,.box true (wr ys)) (by simp) with h' | ⟨_,hz',_⟩
  ·exact h'
  ·simp at hz'
 generalize he:a.eval x=u at v1
 cases v1
 rename_i A
 obtain⟨ds,zr,ncap,hrun,q1,q2,q6,q3,q4,q5⟩:=run_appendW (A:=A) (ty:=o.type) hu hi hs hb hz hzs hs0 hry c1 c3 c4
 obtain⟨k1,k2⟩:=H.grow (w':=w.drew) (Grow.refl w).drew G.I (fun _ h=>h) (fun _ h=>.inl h) H.icell
 have hfl:(D.flat ys).length=ys.length*sy:=by
  obtain⟨_,_,_,_,_,_,_,_,_,_,hzz,_⟩:=hry.sl_inv
  exact flat_len hzz
 obtain⟨l1,l2⟩:=k2.newBoxP (n:=q) hq true (cs:=wr ys) (arr:=ds.toArray++zr) e ⟨by simp [wr,hfl];omega,fun k c u hk hu=>by
  simp only [wr,List.getElem?_map,Option.map_eq_some_iff] at hk
  obtain⟨d,hd,rfl⟩:=hk
  have hlt:k<ds.length:=by
   rw [q3,← hfl];exact(List.getElem?_eq_some_iff.1 hd).1
  rw [Array.getElem?_append_left (by simpa using hlt)] at hu
  exact .d ((q4 k d u hd (by simpa using hu)).mono k1.imm)⟩ (fun c hc=>by
  simp only [wr,List.mem_map] at hc
  obtain⟨d,hd,rfl⟩:=hc
  exact q5 d hd) {(default:Loop) with defers:=ncap*sy} (by
   have:ncap*sy=ys.length*sy+(ncap-ys.length)*sy:=by rw [← Nat.add_mul];congr 1;omega
   simp [q3,q6];omega)
 refine wpIn_value (by simp [h]) (w':=w.drew.alloc (.cells (ds.toArray++zr) e)) (v:=.slice (some ⟨w.heap.size,0,none⟩) ys.length ncap) (by simp [execOp,h,resolve,invoke,builtin,he,hrun]) (hK _ _ _ (k1.trans l1) l2 (.bsl (by simp) (Nat.le_refl _) q1 q2 (.inr (by simp))))
theorem sound_idxB{t e x j x' j' i} {sz n off z l c:Nat}{k:IntKind}{ix:Int}(h:o.op=.indexAddr t x j) (hx:CO x x') (hj:CO j j') (hu:P.underlying t=some (.slice e)) (hi:P.info? e=some i) (hs:i.size=sz)
  (hc:z=sz∧0≤ix∧ix<l) (p:Prop) :
  OpLoc E P ro o [(x',.bsl n off z l c),(j',.d (.lit (.int k ix)))] {c:=p,v:=.ptr n (off+ix.toNat*sz)} :=
 opLoc_pure (by simp [h]) fun G ac w hp H hv=>by
  obtain⟨v1,v2⟩:=ev2 hv hx hj
  have e2:=v2.lit.1
  generalize he:ac.eval x=u at v1
  obtain⟨b,c',hb,hlc,hcc,hcm,rfl⟩:∃ b c',G.box n=some b∧l≤c∧c≤c'∧c'≤9223372036854775807∧u=.slice (some ⟨b,off,none⟩) l c':=by
   cases v1 with
   | bsl hg h1 h2 h3 _=>exact⟨_,_,hg,h1,h2,h3,rfl⟩
  exact⟨.pointer (some ⟨b,off+ix.toNat*sz,none⟩),by simp [execOp,h,Instr.indexAt,asIntOf,he,e2,run_underlying hu,sizeOf,typeInfo,hi,hc.2.1,hc.2.2,add_mk,hs],.ptr hb⟩
theorem sound_lenB{x x' t e} {n off z l c:Nat}(h:o.op=.call {callee:=.builtin .len,args:=#[x],argTypes:=#[t]}) (hx:CO x x') (hu:P.underlying t=some (.slice e))
  (p:Prop):OpLoc E P ro o [(x',.bsl n off z l c)] {c:=p,v:=.d (.lit (.int .i64 l))} :=
 opLoc_pure (by simp [h]) fun G a w hp H hvv=>by
  have v1:=ev1 hvv hx
  generalize he:a.eval x=u at v1
  obtain⟨b,c',hb,hlc,hcc,hcm,rfl⟩:∃ b c',G.box n=some b∧l≤c∧c≤c'∧c'≤9223372036854775807∧u=.slice (some ⟨b,off,none⟩) l c':=by
   cases v1 with
   | bsl hg h1 h2 h3 _=>exact⟨_,_,hg,h1,h2,h3,rfl⟩
  exact⟨.int .i64 l,by simp [execOp,h,resolve,invoke,builtin,he,Builtin.len_,run_underlying hu,goInt],.d (.lit (sc_len (by omega)))⟩
end
def RL (I:Addr→Prop) (w:World) (ds:List D) (vs:List Value):Prop:=vs.length=ds.length∧∀ (k:Nat) (d:D) (u:Value),ds[k]?=some d→vs[k]?=some u→Rep I w d u
theorem RL.app{I:Addr→Prop}{w:World}{a b:List D}{x y:List Value}(h:RL I w a x) (k:RL I w b y):RL I w (a++b) (x++y):=by
 refine⟨by simp [h.1,k.1],fun j d u hd hu=>?_⟩
 by_cases hj:j<a.length
 ·rw [List.getElem?_append_left hj] at hd
  rw [List.getElem?_append_left (by rw [h.1];exact hj)] at hu
  exact h.2 j d u hd hu
 ·rw [List.getElem?_append_right (by omega)] at hd
  rw [List.getElem?_append_right (by rw [h.1];omega),h.1] at hu
  exact k.2 _ d u hd hu
theorem RL.take{I:Addr→Prop}{w:World}{a:List D}{x:List Value}(h:RL I w a x) (n:Nat):RL I w (a.take n) (x.take n):=by
 refine⟨by simp [h.1],fun j d u hd hu=>?_⟩
 rw [List.getElem?_take] at hd hu
 split at hd
 ·rename_i hj;rw [if_pos hj] at hu;exact h.2 j d u hd hu
 ·cases hd
theorem RL.drop{I:Addr→Prop}{w:World}{a:List D}{x:List Value}(h:RL I w a x) (n:Nat):RL I w (a.drop n) (x.drop n):=by
 refine⟨by simp [h.1],fun j d u hd hu=>?_⟩
 rw [List.getElem?_drop] at hd hu
 exact h.2 _ d u hd hu
theorem RL.mono{I I':Addr→Prop}{w w':World}{a:List D}{x:List Value}(h:RL I w a x) (hk:∀ a,I a→I' a∧w'.cell? a=w.cell? a):RL I' w' a x:=⟨h.1,fun k d u hd hu=>(h.2 k d u hd hu).mono hk⟩
theorem rep_block{I:Addr→Prop}{w:World}{N sz n cap:Nat}{es:List D}{vs:List Value}{arr:Array Value}{ty:TypeId}(hh:w.heap[N]?=some (.cells arr ty (0,0))) (hn:n=es.length) (hc:n≤cap) (hm:cap≤9223372036854775807)
  (hz:∀ e∈es,e.cells.length=sz) (h1:∀ c∈D.flat es,c.one=true) (hr:RL I w (D.flat es) vs) (ha:∀ (j:Nat) (u:Value),vs[j]?=some u→arr[j]?=some u) (hI:∀ k,(w.cell? ⟨N,k,none⟩).isSome=true→I ⟨N,k,none⟩) :
  Rep I w (.sl sz es) (.slice (some ⟨N,0,none⟩) n cap):=by
 have hcell:∀ k,w.cell? ⟨N,k,none⟩=arr[k]?:=fun k=>cell_of_row w N k arr ty (0,0) hh
 have hget:∀ k c,(D.flat es)[k]?=some c→∃ u,arr[k]?=some u∧Rep I w c u:=fun k c hk=>by
  have hlt:k<vs.length:=by rw [hr.1];exact(List.getElem?_eq_some_iff.1 hk).1
  exact⟨vs[k],ha k _ (List.getElem?_eq_getElem hlt),hr.2 k c _ hk (List.getElem?_eq_getElem hlt)⟩
 refine .sl ⟨N,0,none⟩ (fun k=>(arr[k]?).getD undef) hn hc hm (.inl rfl) hz h1 (fun k c hk=>?_) (fun k c hk=>?_)
 ·obtain⟨u,h2,_⟩:=hget k c hk
  rw [add_mk,Nat.zero_add]
  exact⟨hI k (by rw [hcell,h2];rfl),by rw [hcell,h2];rfl⟩
 ·obtain⟨u,h2,h3⟩:=hget k c hk
  simp only [h2,Option.getD];exact h3
theorem box_cells{E:Env}{G:Gh}{h:Hp}{w:World}(H:WRel E G h w){n b:Nat}{ag:Bool}{cs:List AV}{ds:List D}(hn:h n=some (.box ag cs)) (hb:G.box n=some b) (he:allD cs=some ds) (k:Nat) (hk:k≤ds.length) :
  ∃ (arr:Array Value) (ty:TypeId) (vs:List Value),w.heap[b]?=some (.cells arr ty (0,0))∧(G.rc n).defers≤arr.size∧vs.length=k∧RL G.I w (ds.take k) vs∧(∀ (j:Nat) (u:Value),vs[j]?=some u→arr[j]?=some u∧w.cell? ⟨b,j,none⟩=some u)∧(∀ u∈vs,u.oneCell'=true)∧∀ d∈ds,d.one=true:=by
 obtain⟨b',arr,ty,e1,e2,e3,e4,e5⟩:=H.box n ag cs hn
 rw [hb] at e1;injection e1 with e1;subst e1
 have hes:=allD_eq he
 have hlen:ds.length≤arr.size:=by have:=e3.1;rw [hes,List.length_map] at this;exact this
 have hone:∀ d∈ds,d.one=true:=fun d hd=>e4 (.d d) (by rw [hes];exact List.mem_map_of_mem hd)
 have hcell:∀ k,w.cell? ⟨b,k,none⟩=arr[k]?:=fun k=>cell_of_row w b k arr ty (0,0) e2
 have hva:∀ (j:Nat) (u:Value),(arr.toList.take k)[j]?=some u→j<k∧arr[j]?=some u:=fun j u hj=>by
  rw [List.getElem?_take] at hj
  split at hj
  ·exact⟨by assumption,by simpa using hj⟩
  ·cases hj
 have hrep:∀ (j:Nat) (d:D) (u:Value),ds[j]?=some d→arr[j]?=some u→Rep G.I w d u:=fun j d u hd hu=>(e3.2 j (.d d) u (by rw [hes];simp [hd]) hu).of_d
 refine⟨arr,ty,arr.toList.take k,e2,e5,by simp;omega,⟨by simp;omega,fun j d u hd hu=>?_⟩,fun j u hj=>⟨(hva j u hj).2,by rw [hcell];exact(hva j u hj).2⟩,fun u hu=>?_,hone⟩
 ·rw [List.getElem?_take] at hd
  split at hd
  ·exact hrep j d u hd (hva j u hu).2
  ·cases hd
 ·obtain⟨j,hj⟩:=List.getElem?_of_mem hu
  obtain⟨hjk,hja⟩:=hva j u hj
  have hlt:j<ds.length:=by omega
  exact((hrep j _ u (List.getElem?_eq_getElem hlt) hja).oneCell (hone _ (List.getElem_mem hlt))).2
section
variable {E:Env}{P:Program}{ro:Option Nat}{o:Oper}
theorem sound_libClone_nil{f x x' ts sz bytes sy} {v:AV}(h:o.op=.call {callee:=.value (.func f),args:=#[x],argTypes:=ts}) (hx:CO x x') (hl:CloneOk P f sz bytes) (hel:v.elems=some (sy,[])) (p:Prop) :
  OpLoc E P ro o [(x',v)] {c:=p,v:=.e0 sz}:=by
 intro G a w hp H hvs _ _ K Q hK
 have hr:=elems_rep hel G w _ (ev1 hvs hx)
 obtain⟨n,A,cap,_,_,hv,_⟩:=hr.sl_inv
 rw [hv] at hr
 obtain⟨cs,k1,k2,k3,k4,k5,k6,k7,k8,k9,k10⟩:=slice_cells hr
 have hn0:n=0:=by simpa using k5
 subst hn0
 have hcs:cs=[]:=List.eq_nil_of_length_eq_zero (by simpa using k1)
 subst hcs
 have hc:=hl.run w A 0 cap [] k9 k10 (by simp) (fun _=>rfl) (fun _ _ j u hj=>by simp at hj) (fun u hu=>by simp at hu) (by simp)
 refine wpIn_call (f:=.func f) h (x:=#[]) (y:=#[]) (by rfl) hl.call (R:=_) (by simp only [hv,List.map_cons,List.map_nil,Array.toList_empty,List.nil_append,List.append_nil];exact hc) (fun u w' hR=>?_) (fun ch w' hR=>?_) (fun w' hR=>?_)
 ·obtain⟨g,hR⟩:=hR
  obtain⟨l1,l2⟩:=H.grow g G.I (fun _ h=>h) (fun _ h=>.inl h) (fun a' ha'=>by rw [g.cell (H.ilt ha')];exact H.icell a' ha')
  rcases hR with ⟨_,A',hA⟩ | ⟨h0,_⟩
  ·injection hA with hA;subst hA
   exact hK _ w' _ l1 l2 .e0
  ·omega
 ·obtain⟨_,⟨_,_,hA⟩ | ⟨_,_,_,_,_,hA,_⟩⟩:=hR <;> cases hA
 ·obtain⟨_,⟨_,_,hA⟩ | ⟨_,_,_,_,_,hA,_⟩⟩:=hR <;> cases hA
theorem sound_libClone_cons{f x x' ts sz bytes sy q y1} {yr:List D}{v:AV}(h:o.op=.call {callee:=.value (.func f),args:=#[x],argTypes:=ts}) (hx:CO x x') (hl:CloneOk P f sz bytes) (hel:v.elems=some (sy,y1::yr)) (hc:sy=sz∧(yr.length+1)*bytes≤140737488355328) (p:Prop) :
  OpLoc E P ro o [(x',v)] {c:=p,v:=.bsl q 0 sz (yr.length+1) (yr.length+1),up:=[(q,.box true (wr (y1::yr)))]}:=by
 intro G a w hp H hvs _ hf K Q hK
 obtain⟨rfl,hby⟩:=hc
 have hq:hp q=none:=by
  rcases hf (q,.box true (wr (y1::yr))) (by simp) with h' | ⟨_,hz',_⟩
  ·exact h'
  ·simp at hz'
 have hr:=elems_rep hel G w _ (ev1 hvs hx)
 obtain⟨n,A,cap,_,_,hv,_⟩:=hr.sl_inv
 rw [hv] at hr
 obtain⟨cs,k1,k2,k3,k4,k5,k6,k7,k8,k9,k10⟩:=slice_cells hr
 have hn:n=yr.length+1:=by simpa using k5
 have hc:=hl.run w A n cap cs k9 k10 k1 (fun e=>by simpa using k8 e) (fun ad e j u hj=>(k3 ad e j u hj).1) k2 (by rw [hn];exact hby)
 refine wpIn_call (f:=.func f) h (x:=#[]) (y:=#[]) (by rfl) hl.call (R:=_) (by simp only [hv,List.map_cons,List.map_nil,Array.toList_empty,List.nil_append,List.append_nil];exact hc) (fun u w' hR=>?_) (fun ch w' hR=>?_) (fun w' hR=>?_)
 ·obtain⟨g,⟨h0,_⟩ | ⟨h0,N,ncap,arr,ty,hA,q1,q2,q3,q4,q5,q6⟩⟩:=hR
  ·omega
  ·injection hA with hA;subst hA
   have hfl:=flat_len k6
   obtain⟨l1,l2⟩:=H.growBox g q1 (n:=q) hq true (cs:=wr (y1::yr)) q2 ⟨by
     have:n*sy≤ncap*sy:=Nat.mul_le_mul_right _ q3
     rw [show (wr (y1::yr)).length=(D.flat (y1::yr)).length by simp [wr],hfl,← k5];omega,fun k c u hk hu=>by
    simp only [wr,List.getElem?_map,Option.map_eq_some_iff] at hk
    obtain⟨d,hd,rfl⟩:=hk
    have hlt:k<cs.length:=by rw [k1,k5,← hfl];exact(List.getElem?_eq_some_iff.1 hd).1
    have h2:=q6 k _ (List.getElem?_eq_getElem hlt)
    rw [hu] at h2;injection h2 with h2;subst h2
    exact .d (k4 k d _ hd (List.getElem?_eq_getElem hlt))⟩ (fun c hc=>by
    simp only [wr,List.mem_map] at hc
    obtain⟨d,hd,rfl⟩:=hc
    exact k7 d hd) {(default:Loop) with defers:=ncap*sy} q5
   rw [hn]
   exact hK _ w' _ l1 l2 (.bsl (by simp) (Nat.le_refl _) (by omega) q4 (.inr (by simp)))
 ·obtain⟨_,⟨_,_,hA⟩ | ⟨_,_,_,_,_,hA,_⟩⟩:=hR <;> cases hA
 ·obtain⟨_,⟨_,_,hA⟩ | ⟨_,_,_,_,_,hA,_⟩⟩:=hR <;> cases hA
theorem bslv{G:Gh}{w:World}{n o z l c:Nat}{u:Value}(h:RepA G w (.bsl n o z l c) u):∃ b c',G.box n=some b∧l≤c∧c≤c'∧c'≤9223372036854775807∧(c'=c∨o+c'*z≤(G.rc n).defers)∧u=.slice (some ⟨b,o,none⟩) l c':=by
 cases h with
 | bsl h1 h2 h3 h4 h5=>exact⟨_,_,h1,h2,h3,h4,h5,rfl⟩
theorem newblock{G:Gh}{h:Hp}{w w':World}(H:WRel E G h w) (g:Grow w w'){N sz n cap:Nat}{es:List D}{vs:List Value}{arr:Array Value}{ty:TypeId}(hN:w.heap.size≤N) (hh:w'.heap[N]?=some (.cells arr ty (0,0))) (hn:n=es.length) (hc:n≤cap) (hm:cap≤9223372036854775807)
  (hz:∀ e∈es,e.cells.length=sz) (h1:∀ c∈D.flat es,c.one=true) (hr:RL G.I w (D.flat es) vs) (ha:∀ (j:Nat) (u:Value),vs[j]?=some u→arr[j]?=some u) :
  ∃ G',GLe G w G' w'∧WRel E G' h w'∧G'.box=G.box∧Rep G'.I w' (.sl sz es) (.slice (some ⟨N,0,none⟩) n cap):=by
 obtain⟨l1,l2⟩:=H.grow g (fun ad=>G.I ad∨(ad.block=N∧(w'.cell? ad).isSome=true)) (fun _ h=>.inl h) (fun ad had=>had.imp id (fun h=>by omega)) (fun ad had=>by
  rcases had with had | had
  ·rw [g.cell (H.ilt had)];exact H.icell ad had
  ·exact had.2)
 exact⟨_,l1,l2,rfl,rep_block hh hn hc hm hz h1 (hr.mono l1.imm) ha (fun k hk=>.inr ⟨rfl,hk⟩)⟩
theorem sound_libIns_e{f x x' i i' y y' ts} {sz bytes z q m cq:Nat}{ag:Bool}{cv:List AV}{dv:List D}(h:o.op=.call {callee:=.value (.func f),args:=#[x,i,y],argTypes:=ts}) (hx:CO x x') (hi:CO i i') (hy:CO y y') (hl:InsOk P f sz bytes) (hdv:allD cv=some dv) (ix:Int)
  (hc:ix=0∧0<m∧m*sz≤dv.length∧m*bytes≤140737488355328) (p:Prop) :
  OpLoc E P ro o [(x',.e0 z),(i',.d (.lit (.int .i64 ix))),(y',.bsl q 0 sz m cq)] {c:=p,v:=.d (.sl sz (elsD sz m dv)),hin:=[(q,.box ag cv)]}:=by
 intro G a w hp H hvs hin _ K Q hK
 obtain⟨rfl,hm,hmd,hby⟩:=hc
 have vx:=hvs (x',.e0 z) (by simp) x hx
 have vi:=(hvs (i',.d (.lit (.int .i64 0))) (by simp) i hi).lit.1
 obtain⟨bq,cq',hbq,hq1,hq2,hq3,_,vy⟩:=bslv (hvs (y',.bsl q 0 sz m cq) (by simp) y hy)
 obtain⟨A,vx⟩:∃ A,a.eval x=.slice A 0 0:=by
  generalize a.eval x=ux at vx
  cases vx;exact⟨_,rfl⟩
 have hnq:hp q=some (.box ag cv):=hin (q,.box ag cv) (by simp)
 obtain⟨arr,ty,vs,e1,e2,e3,e4,e5,e6,e7⟩:=box_cells H hnq hbq hdv (m*sz) hmd
 have hcall:=hl.grow w A 0 0 0 bq m cq' [] vs (by omega) (by omega) (by omega) hm (by simp) e3 (fun _=>rfl) (fun h=>by omega) (fun j u hj=>(e5 j u hj).2) (fun u hu=>by simp at hu) e6 (by simpa using hby) (by omega)
 obtain⟨s1,s2,s3⟩:=elsD_spec (z:=sz) (len:=m) (ds:=dv) hmd e7
 refine wpIn_call (f:=.func f) h (x:=#[]) (y:=#[]) (by rfl) hl.call (R:=_) (by simp only [vx,vi,vy,List.map_cons,List.map_nil,Array.toList_empty,List.nil_append,List.append_nil];exact hcall) (fun u w' hR=>?_) (fun ch w' hR=>?_) (fun w' hR=>?_)
 ·obtain⟨g,N,ncap,arr',ty',hA,q1,q2,q3,q4,q5⟩:=hR
  injection hA with hA;subst hA
  obtain⟨G',l1,l2,_,l3⟩:=newblock H g q1 q2 (es:=elsD sz m dv) (n:=0+m) (by omega) q3 q4 s2 (by rw [s3];exact fun c hc=>e7 c (List.mem_of_mem_take hc)) (by rw [s3];exact e4) (fun j u hj=>q5 j u (by simpa using hj))
  exact hK _ w' G' l1 (by simpa [Hp.upd] using l2) (.d l3)
 ·obtain⟨_,_,_,_,_,hA,_⟩:=hR;cases hA
 ·obtain⟨_,_,_,_,_,hA,_⟩:=hR;cases hA
theorem sound_libIns_b{f x x' i i' y y' ts} {sz bytes n l q m cq:Nat}{ag ag2:Bool}{cs cv:List AV}{ds dv:List D}(h:o.op=.call {callee:=.value (.func f),args:=#[x,i,y],argTypes:=ts}) (hx:CO x x') (hi:CO i i') (hy:CO y y') (hl:InsOk P f sz bytes) (hds:allD cs=some ds) (hdv:allD cv=some dv) (ix:Int)
  (hc:(0≤ix∧ix≤l∧n≠q)∧(0<l∧0<m∧l*sz≤ds.length∧m*sz≤dv.length)∧(l+m)*bytes≤140737488355328∧l+m≤9223372036854775807) (p:Prop) :
  OpLoc E P ro o [(x',.bsl n 0 sz l l),(i',.d (.lit (.int .i64 ix))),(y',.bsl q 0 sz m cq)] {c:=p,v:=.d (.sl sz ((elsD sz l ds).take ix.toNat++elsD sz m dv++(elsD sz l ds).drop ix.toNat)),hin:=[(n,.box ag cs),(q,.box ag2 cv)],up:=[(n,.dead)]}:=by
 intro G a w hp H hvs hin _ K Q hK
 obtain⟨⟨hi0,hil,hnq⟩,⟨hl0,hm,hld,hmd⟩,hby,h63⟩:=hc
 have vi:=(hvs (i',.d (.lit (.int .i64 ix))) (by simp) i hi).lit.1
 obtain⟨bq,cq',hbq,hq1,hq2,hq3,_,vy⟩:=bslv (hvs (y',.bsl q 0 sz m cq) (by simp) y hy)
 obtain⟨bn,cn',hbn,hn1,hn2,hn3,hroom,vx⟩:=bslv (hvs (x',.bsl n 0 sz l l) (by simp) x hx)
 have hq:hp q=some (.box ag2 cv):=hin (q,.box ag2 cv) (by simp)
 have hn:hp n=some (.box ag cs):=hin (n,.box ag cs) (by simp)
 obtain⟨arq,tyq,vs,e1,e2,e3,e4,e5,e6,e7⟩:=box_cells H hq hbq hdv (m*sz) hmd
 obtain⟨arn,tyn,us,f1,f2,f3,f4,f5,f6,f7⟩:=box_cells H hn hbn hds (l*sz) hld
 obtain⟨s1,s2,s3⟩:=elsD_spec (z:=sz) (len:=m) (ds:=dv) hmd e7
 obtain⟨t1,t2,t3⟩:=elsD_spec (z:=sz) (len:=l) (ds:=ds) hld f7
 obtain⟨k,hk⟩:∃ k:Nat,ix=k:=⟨ix.toNat,by omega⟩
 subst hk
 have hkl:k≤l:=by omega
 obtain⟨g1,g2⟩:=flat_take' (elsD sz l ds) k t2
 have happ:∀ a b:List D,D.flat (a++b)=D.flat a++D.flat b:=fun a b=>by simp [D.flat]
 have hflat:D.flat ((elsD sz l ds).take k++elsD sz m dv++(elsD sz l ds).drop k)=(ds.take (l*sz)).take (k*sz)++dv.take (m*sz)++(ds.take (l*sz)).drop (k*sz):=by rw [happ,happ,g1,g2,s3,t3]
 have hes:∀ e∈(elsD sz l ds).take k++elsD sz m dv++(elsD sz l ds).drop k,e.cells.length=sz:=fun e he=>by
  rcases List.mem_append.1 he with he | he
  ·rcases List.mem_append.1 he with he | he
   ·exact t2 e (List.mem_of_mem_take he)
   ·exact s2 e he
  ·exact t2 e (List.mem_of_mem_drop he)
 have hlen:l+m=((elsD sz l ds).take k++elsD sz m dv++(elsD sz l ds).drop k).length:=by
  simp only [List.length_append,List.length_take,List.length_drop,t1,s1];omega
 have hrl:RL G.I w ((ds.take (l*sz)).take (k*sz)++dv.take (m*sz)++(ds.take (l*sz)).drop (k*sz)) (us.take (k*sz)++vs++us.drop (k*sz)):=((f4.take _).app e4).app (f4.drop _)
 have hone:∀ c∈(ds.take (l*sz)).take (k*sz)++dv.take (m*sz)++(ds.take (l*sz)).drop (k*sz),c.one=true:=fun c hc=>by
  rcases List.mem_append.1 hc with hc | hc
  ·rcases List.mem_append.1 hc with hc | hc
   ·exact f7 c (List.mem_of_mem_take (List.mem_of_mem_take hc))
   ·exact e7 c (List.mem_of_mem_take hc)
  ·exact f7 c (List.mem_of_mem_take (List.mem_of_mem_drop hc))
 have hbne:bq≠bn:=fun e=>hnq (H.binj n q bn hbn (e ▸ hbq))
 rcases Nat.lt_or_ge cn' (l+m) with hgrow | hplace
 ·have hcall:=hl.grow w (some ⟨bn,0,none⟩) l cn' k bq m cq' us vs hkl (by omega) hgrow hm f3 e3 (fun h=>by omega) (fun _=>⟨bn,rfl,fun j u hj=>(f5 j u hj).2⟩) (fun j u hj=>(e5 j u hj).2) f6 e6 hby h63
  refine wpIn_call (f:=.func f) h (x:=#[]) (y:=#[]) (by rfl) hl.call (R:=_) (by simp only [vx,vi,vy,List.map_cons,List.map_nil,Array.toList_empty,List.nil_append,List.append_nil];exact hcall) (fun u w' hR=>?_) (fun ch w' hR=>?_) (fun w' hR=>?_)
  ·obtain⟨g,N,ncap,arr',ty',hA,q1,q2,q3,q4,q5⟩:=hR
   injection hA with hA;subst hA
   obtain⟨G',l1,l2,hbx,l3⟩:=newblock H g q1 q2 (es:=(elsD sz l ds).take k++elsD sz m dv++(elsD sz l ds).drop k) (n:=l+m) hlen q3 q4 hes (by rw [hflat];exact hone) (by rw [hflat];exact hrl) q5
   obtain⟨m1,m2⟩:=l2.freeze hn (by rw [hbx];exact hbn)
   exact hK _ w' _ (l1.trans m1) m2 (.d (l3.mono m1.imm))
  ·obtain⟨_,_,_,_,_,hA,_⟩:=hR;cases hA
  ·obtain⟨_,_,_,_,_,hA,_⟩:=hR;cases hA
 ·have hcap:cn'*sz≤arn.size:=by
   rcases hroom with hr | hr
   ·omega
   ·rw [Nat.zero_add] at hr;omega
  have hcall:=hl.place w bn l cn' k bq m cq' us vs arn tyn arq tyq hkl hl0 hplace hn3 hm hbne f1 hcap e1 f3 e3 (fun j u hj=>(f5 j u hj).1) (fun j u hj=>(e5 j u hj).1) f6 e6
  refine wpIn_call (f:=.func f) h (x:=#[]) (y:=#[]) (by rfl) hl.call (R:=_) (by simp only [vx,vi,vy,List.map_cons,List.map_nil,Array.toList_empty,List.nil_append,List.append_nil];exact hcall) (fun u w' hR=>?_) (fun ch w' hR=>?_) (fun w' hR=>?_)
  ·obtain⟨hA,hw,hblk,arr',hnew,hsz,hval⟩:=hR
   injection hA with hA;subst hA
   have hlenb:(us.take (k*sz)++vs++us.drop (k*sz)).length≤arr'.size:=by
    rcases Nat.lt_or_ge arr'.size (us.take (k*sz)++vs++us.drop (k*sz)).length with h' | h'
    ·have:=hval arr'.size _ (List.getElem?_eq_getElem h')
     simp at this
    ·exact h'
   obtain⟨l1,l2⟩:=H.setWhole hn hbn (cs':=((ds.take (l*sz)).take (k*sz)++dv.take (m*sz)++(ds.take (l*sz)).drop (k*sz)).map .d) f1 hw hblk hnew hsz ⟨by rw [List.length_map,← hrl.1];exact hlenb,fun j c v hj hv=>by
     simp only [List.getElem?_map,Option.map_eq_some_iff] at hj
     obtain⟨d,hd,rfl⟩:=hj
     have hlt:j<(us.take (k*sz)++vs++us.drop (k*sz)).length:=by rw [hrl.1];exact(List.getElem?_eq_some_iff.1 hd).1
     have h2:=hval j _ (List.getElem?_eq_getElem hlt)
     rw [hv] at h2;injection h2 with h2;subst h2
     exact .d (hrl.2 j d _ hd (List.getElem?_eq_getElem hlt))⟩ (fun c hc=>by
     simp only [List.mem_map] at hc
     obtain⟨d,hd,rfl⟩:=hc
     exact hone d hd)
   obtain⟨m1,m2⟩:=l2.freeze (n:=n) (by rw [upd_one,if_pos rfl]) hbn
   rw [upd_same] at m2
   refine hK _ w' _ (l1.trans m1) m2 (.d (show Rep _ w' (.sl sz ((elsD sz l ds).take k++elsD sz m dv++(elsD sz l ds).drop k)) _ from ?_))
   exact rep_block hnew hlen hplace hn3 hes (by rw [hflat];exact hone) (by rw [hflat];exact(hrl.mono l1.imm).mono m1.imm) hval (fun j hj=>.inr ⟨rfl,hj⟩)
  ·cases hR.1
  ·cases hR.1
theorem sound_libDel{f x x' i i' j j' ts} {sz n l c:Nat}{ag:Bool}{cs:List AV}{ds:List D}(h:o.op=.call {callee:=.value (.func f),args:=#[x,i,j],argTypes:=ts}) (hx:CO x x') (hi:CO i i') (hj:CO j j') (hl:DelOk P f sz) (hds:allD cs=some ds) (ix jx:Int)
  (hc:(0≤ix∧ix<l∧jx=ix+1)∧l*sz≤ds.length) (p:Prop) :
  OpLoc E P ro o [(x',.bsl n 0 sz l c),(i',.d (.lit (.int .i64 ix))),(j',.d (.lit (.int .i64 jx)))] {c:=p,v:=.d (.sl sz ((elsD sz l ds).eraseIdx ix.toNat)),hin:=[(n,.box ag cs)],up:=[(n,.dead)]}:=by
 intro G a w hp H hvs hin _ K Q hK
 obtain⟨⟨hi0,hil,rfl⟩,hld⟩:=hc
 have vi:=(hvs (i',.d (.lit (.int .i64 ix))) (by simp) i hi).lit.1
 have vj:=(hvs (j',.d (.lit (.int .i64 (ix+1)))) (by simp) j hj).lit.1
 obtain⟨bn,cn',hbn,hn1,hn2,hn3,hroom,vx⟩:=bslv (hvs (x',.bsl n 0 sz l c) (by simp) x hx)
 have hn:hp n=some (.box ag cs):=hin (n,.box ag cs) (by simp)
 obtain⟨arn,tyn,us,f1,f2,f3,f4,f5,f6,f7⟩:=box_cells H hn hbn hds (l*sz) hld
 obtain⟨t1,t2,t3⟩:=elsD_spec (z:=sz) (len:=l) (ds:=ds) hld f7
 obtain⟨k,hk⟩:∃ k:Nat,ix=k:=⟨ix.toNat,by omega⟩
 subst hk
 have hkl:k<l:=by omega
 obtain⟨g1,_⟩:=flat_take' (elsD sz l ds) k t2
 obtain⟨_,g2⟩:=flat_take' (elsD sz l ds) (k+1) t2
 have happ:∀ a b:List D,D.flat (a++b)=D.flat a++D.flat b:=fun a b=>by simp [D.flat]
 have her:(elsD sz l ds).eraseIdx k=(elsD sz l ds).take k++(elsD sz l ds).drop (k+1):=List.eraseIdx_eq_take_drop_succ _ _
 have hflat:D.flat ((elsD sz l ds).eraseIdx k)=(ds.take (l*sz)).take (k*sz)++(ds.take (l*sz)).drop ((k+1)*sz):=by rw [her,happ,g1,g2,t3]
 have hes:∀ e∈(elsD sz l ds).eraseIdx k,e.cells.length=sz:=fun e he=>t2 e (List.mem_of_mem_eraseIdx he)
 have hlen:l-1=((elsD sz l ds).eraseIdx k).length:=by rw [List.length_eraseIdx,t1,if_pos hkl]
 have hrl:RL G.I w ((ds.take (l*sz)).take (k*sz)++(ds.take (l*sz)).drop ((k+1)*sz)) (us.take (k*sz)++us.drop ((k+1)*sz)):=(f4.take _).app (f4.drop _)
 have hone:∀ c∈(ds.take (l*sz)).take (k*sz)++(ds.take (l*sz)).drop ((k+1)*sz),c.one=true:=fun c hc=>by
  rcases List.mem_append.1 hc with hc | hc
  ·exact f7 c (List.mem_of_mem_take (List.mem_of_mem_take hc))
  ·exact f7 c (List.mem_of_mem_take (List.mem_of_mem_drop hc))
 have hsz0:l*sz≤arn.size:=by
  rcases Nat.eq_zero_or_pos (l*sz) with h0 | h0
  ·omega
  ·have:=(f5 (l*sz-1) _ (List.getElem?_eq_getElem (by omega))).1
   have:=(Array.getElem?_eq_some_iff.1 this).1
   omega
 have hcall:=hl.run w bn l cn' k us arn tyn hkl (by omega) hn3 f1 f3 hsz0 (fun j u hj=>(f5 j u hj).1) f6
 refine wpIn_call (f:=.func f) h (x:=#[]) (y:=#[]) (by rfl) hl.call (R:=_) (by simp only [vx,vi,vj,List.map_cons,List.map_nil,Array.toList_empty,List.nil_append,List.append_nil];exact hcall) (fun u w' hR=>?_) (fun ch w' hR=>?_) (fun w' hR=>?_)
 ·obtain⟨hA,hw,hblk,arr',hnew,hsz,hval⟩:=hR
  injection hA with hA;subst hA
  have hlenb:(us.take (k*sz)++us.drop ((k+1)*sz)).length≤arr'.size:=by
   rcases Nat.lt_or_ge arr'.size (us.take (k*sz)++us.drop ((k+1)*sz)).length with h' | h'
   ·have:=hval arr'.size _ (List.getElem?_eq_getElem h')
    simp at this
   ·exact h'
  obtain⟨l1,l2⟩:=H.setWhole hn hbn (cs':=((ds.take (l*sz)).take (k*sz)++(ds.take (l*sz)).drop ((k+1)*sz)).map .d) f1 hw hblk hnew hsz ⟨by rw [List.length_map,← hrl.1];exact hlenb,fun j c v hj hv=>by
    simp only [List.getElem?_map,Option.map_eq_some_iff] at hj
    obtain⟨d,hd,rfl⟩:=hj
    have hlt:j<(us.take (k*sz)++us.drop ((k+1)*sz)).length:=by rw [hrl.1];exact(List.getElem?_eq_some_iff.1 hd).1
    have h2:=hval j _ (List.getElem?_eq_getElem hlt)
    rw [hv] at h2;injection h2 with h2;subst h2
    exact .d (hrl.2 j d _ hd (List.getElem?_eq_getElem hlt))⟩ (fun c hc=>by
    simp only [List.mem_map] at hc
    obtain⟨d,hd,rfl⟩:=hc
    exact hone d hd)
  obtain⟨m1,m2⟩:=l2.freeze (n:=n) (by rw [upd_one,if_pos rfl]) hbn
  rw [upd_same] at m2
  refine hK _ w' _ (l1.trans m1) m2 (.d (show Rep _ w' (.sl sz ((elsD sz l ds).eraseIdx k)) _ from ?_))
  exact rep_block hnew hlen (by omega) hn3 hes (by rw [hflat];exact hone) (by rw [hflat];exact(hrl.mono l1.imm).mono m1.imm) hval (fun j hj=>.inr ⟨rfl,hj⟩)
 ·cases hR.1
 ·cases hR.1
theorem sound_mkslW{t e i sz zv len parts ps q} {vs:List AV}{es:List D}(h:o.op=.buildSlice t len parts) (hu:P.underlying t=some (.slice e)) (hi:P.info? e=some i) (hs:i.size=sz) (hs0:0<sz) (hz:i.zero=some zv) (_hzs:zv.cells.size=sz)
  (hl:len=ps.length) (hps:∃ xs:List Operand,parts.toList=(xs.zipIdx 0).map (fun x=>(x.2,x.1))∧All2 CO xs ps) (hvl:vs.length=ps.length)
  (hes:toDs vs=some es) (hc:(∀ e∈es,e.cells.length=sz∧(∀ ds,e≠.tup ds))∧es.length*sz≤16777216) (hne:es≠[]) (p:Prop) :
  OpLoc E P ro o (ps.zip vs) {c:=p,v:=.bsl q 0 sz es.length es.length,up:=[(q,.box true (wr es))]}:=by
 intro G a w hp H hvv _ hf K Q hK
 have hq:hp q=none:=by
  rcases hf (q,.box true (wr es)) (by simp) with h' | ⟨_,hz',_⟩
  ·exact h'
  ·simp at hz'
 obtain⟨xs,hx1,hx2⟩:=hps
 obtain⟨d1,d2⟩:=toDs_spec ps vs es xs hes hx2 hvl hvv
 have hxl:=all2_len hx2
 have hcells:∀ (k:Nat) (e:D) (x:Operand),es[k]?=some e→xs[k]?=some x→RepL G.I w e.cells (a.eval x).cells∧∀ c∈e.cells,c.one=true:=fun k e x he hx=>(d2 k e x he hx).cells (hc.1 e (List.mem_of_getElem? he)).2
 have hsz:∀ v∈xs.map a.eval,v.cells.size=sz:=fun v hv=>by
  obtain⟨k,hk⟩:=List.getElem?_of_mem hv
  simp only [List.getElem?_map,Option.map_eq_some_iff] at hk
  obtain⟨x,hx,rfl⟩:=hk
  have hklt:k<xs.length:=by
   rcases Nat.lt_or_ge k xs.length with h' | h'
   ·exact h'
   ·rw [List.getElem?_eq_none h'] at hx;cases hx
  have hek:es[k]?=some es[k]:=List.getElem?_eq_getElem (by omega)
  rw [(hcells k _ x hek hx).1.1]
  exact(hc.1 _ (List.mem_of_getElem? hek)).1
 have hpos:¬ len*i.size=0:=by
  have:0<es.length:=List.length_pos_iff.2 hne
  have h1:len*i.size=es.length*sz:=by rw [hl,← d1,hs]
  have:=Nat.mul_pos this hs0
  omega
 have hfill:=Great.fill_whole (s:=i.size) (by omega) (xs.map a.eval) ((Array.range (len*i.size)).map (zv.cells[· % zv.cells.size]!)) (fun v hv=>by rw [hs];exact hsz v hv) (by rw [List.length_map,Array.size_map,Array.size_range,hxl,hl])
 have hsmall:¬ len*i.size>2 ^ 24:=by
  have h1:len*i.size=es.length*sz:=by rw [hl,← d1,hs]
  have:=hc.2
  omega
 have hrun:=run_buildSlice (P:=P) w t e len (parts.map fun(i,x)=>(i,a.eval x)) _ i zv hu hi hz hsmall hpos (by
  rw [Array.toList_map,hx1,List.map_map]
  have:(xs.zipIdx 0).map ((fun(p:Nat×Operand)=>(p.1,a.eval p.2))∘fun x=>(x.2,x.1))=((xs.map a.eval).zipIdx 0).map fun x=>(x.2,x.1):=by
   rw [List.zipIdx_map,List.map_map];rfl
  exact(congrArg _ this).trans hfill)
 generalize harr:((xs.map a.eval).flatMap fun v=>v.cells.toList)=arr at hrun
 have harrl:arr.length=es.length*sz:=by
  have hh:∀ (l:List Value),(∀ v∈l,v.cells.size=sz)→(l.flatMap fun v=>v.cells.toList).length=l.length*sz:=by
   intro l
   induction l with
   | nil=>simp
   | cons v l ih =>
    intro hv
    rw [List.flatMap_cons,List.length_append,ih (fun u hu=>hv u (by simp [hu])),List.length_cons,Nat.add_mul,Array.length_toList,hv v (by simp)];omega
  rw [← harr,hh _ hsz,List.length_map,hxl,d1]
 have hget:∀ k c,(D.flat es)[k]?=some c→∃ v,arr[k]?=some v∧Rep G.I w c v∧c.one=true:=fun k c hk=>by
  have hzz:∀ e∈es,e.cells.length=sz:=fun e he=>(hc.1 e he).1
  have hlt:k<es.length*sz:=by
   rw [← flat_len hzz]
   rcases Nat.lt_or_ge k (D.flat es).length with h' | h'
   ·exact h'
   ·rw [List.getElem?_eq_none h'] at hk;cases hk
  have hi':k / sz<es.length:=(Nat.div_lt_iff_lt_mul hs0).2 hlt
  have hm:=Nat.mod_lt k hs0
  have hg:es[k / sz]?=some es[k / sz]:=List.getElem?_eq_getElem hi'
  have hgx:xs[k / sz]?=some (xs[k / sz]'(by omega)):=List.getElem?_eq_getElem (by omega)
  have e1:k=k / sz*sz+k % sz:=by have:=Nat.div_add_mod k sz;rw [Nat.mul_comm] at this;omega
  have hk2:es[k / sz].cells[k % sz]?=some c:=by
   rw [← hk];conv=>rhs;rw [e1]
   exact(flat_get hzz hg _ hm).symm
  obtain⟨c1,c2⟩:=hcells _ _ _ hg hgx
  have ha:arr[k]?=(a.eval (xs[k / sz]'(by omega))).cells[k % sz]?:=by
   rw [← harr,Great.flat_get hs0 _ hsz k,List.getElem?_map,hgx];rfl
  have hlt2:k % sz<(a.eval (xs[k / sz]'(by omega))).cells.size:=by rw [c1.1,hzz _ (List.mem_of_getElem? hg)];exact hm
  refine⟨(a.eval (xs[k / sz]'(by omega))).cells[k % sz],by rw [ha];exact Array.getElem?_eq_getElem hlt2,c1.2 _ c _ hk2 (Array.getElem?_eq_getElem hlt2),c2 c (List.mem_of_getElem? hk2)⟩
 have hfl:=flat_len (sz:=sz) (es:=es) (fun e he=>(hc.1 e he).1)
 obtain⟨l1,l2⟩:=H.newBoxP (n:=q) hq true (cs:=wr es) (arr:=arr.toArray) e ⟨by rw [show (wr es).length=(D.flat es).length by simp [wr],hfl];simp;omega,fun k c u hk hu=>by
  simp only [wr,List.getElem?_map,Option.map_eq_some_iff] at hk
  obtain⟨d,hd,rfl⟩:=hk
  obtain⟨v,v1,v2,_⟩:=hget k d hd
  simp only [List.getElem?_toArray] at hu
  rw [hu] at v1;injection v1 with v1;subst v1
  exact .d v2⟩ (fun c hc'=>by
  simp only [wr,List.mem_map] at hc'
  obtain⟨d,hd,rfl⟩:=hc'
  obtain⟨k,hk⟩:=List.getElem?_of_mem hd
  obtain⟨_,_,_,h3'⟩:=hget k d hk
  exact h3')
 have hle:es.length=len:=by rw [hl,d1]
 refine wpIn_value (by simp [h]) (v:=.slice (some ⟨w.heap.size,0,none⟩) len len) (w':=w.alloc (.cells arr.toArray e)) (by simp only [execOp,h,Sem.run_bind,hrun,Result.andThen_ok,Sem.run_pure]) (hK _ _ _ l1 l2 (by rw [hle];exact .bsl (by simp) (Nat.le_refl _) (Nat.le_refl _) (by have:=hc.2;have:=Nat.le_mul_of_pos_right es.length hs0;omega) (.inl rfl)))
end
end

section
open Go.Lib (strCells strCells_length strCells_oneCell run_firstCells_string run_append_grow_string)
theorem look_ltN:∀ {hl:List (Nat×HO)}{n:Nat}{x:HO},look hl n=some x→n<newName hl
 | [],n,x,h=>by simp [look] at h
 | (m,y)::r,n,x,h=>by
  simp only [look] at h
  simp only [newName]
  split at h
  ·rename_i e;subst e;exact Nat.lt_of_lt_of_le (Nat.lt_succ_self _) (Nat.le_max_left _ _)
  ·exact Nat.lt_of_lt_of_le (look_ltN h) (Nat.le_max_right _ _)
theorem newName_ne{hl:List (Nat×HO)}{n:Nat}{x:HO}(h:look hl n=some x):newName hl≠n:=fun e=>by have:=look_ltN h;omega
section
variable {E:Env}{P:Program}{ro:Option Nat}{o:Oper}
theorem copy_core{G:Gh}{h:Hp}{w:World}(H:WRel E G h w){n b off l c' m:Nat}{ag:Bool}{cs news:List AV}{vals:List Value}{t t2 ty e:TypeId}{i:TypeInfo}{u:Value}(hu:P.underlying t=some (.slice e)) (hi:P.info? e=some i) (hs:i.size=1)
  (hn:h n=some (.box ag cs)) (hb:G.box n=some b) (hlen:(Builtin.lenOf u).run P w=.ok m w) (hfc:(Builtin.firstCells 1 (Nat.min m l) u).run P w=.ok vals.toArray w) (hl:vals.length=news.length)
  (hr:∀ (k:Nat) (c:AV) (v:Value),news[k]?=some c→vals[k]?=some v→RepA G w c v∧c.one=true) (ho:off+news.length≤cs.length) :
  ∃ w',(Builtin.copy_ #[t,t2] ty #[.slice (some ⟨b,off,none⟩) l c',u]).run P w=.ok (goInt (Nat.min m l)) w'∧GLe G w G w'∧WRel E G (h.upd [(n,.box ag (setAt cs off news))]) w':=by
 obtain⟨w',e1,e2,e3⟩:=WRel.setBoxes (ag:=ag) P news vals off 0 h w cs H hn hb hl hr (by simpa using ho)
 refine⟨w',?_,e2,by simpa using e3⟩
 simp [Builtin.copy_,run_underlying hu,sizeOf,typeInfo,hi,hs,hlen,hfc,e1]
theorem sc_nat{n:Nat}(h:n≤9223372036854775807):Sc (.int .i64 (n:Int)):=sc_len h
theorem sound_copyB_d{x y x' y' t t2 e i} {n off z l c sy:Nat}{ag:Bool}{cs:List AV}{es:List D}{v:AV}(h:o.op=.call {callee:=.builtin .copy,args:=#[x,y],argTypes:=#[t,t2]}) (hx:CO x x') (hy:CO y y') (hu:P.underlying t=some (.slice e)) (hi:P.info? e=some i) (hs:i.size=1)
  (hel:v.elems=some (sy,es)) (hc:z=1∧(sy=1∨es=[])∧off+min es.length l≤cs.length) (p:Prop) :
  OpLoc E P ro o [(x',.bsl n off z l c),(y',v)] {c:=p,v:=.d (.lit (.int .i64 (min es.length l:Nat))),hin:=[(n,.box ag cs)],up:=[(n,.box ag (setAt cs off (wr (es.take (min es.length l)))))]}:=by
 intro G a w hp H hvs hin _ K Q hK
 obtain⟨rfl,hsy,ho⟩:=hc
 have hn:hp n=some (.box ag cs):=hin (n,.box ag cs) (by simp)
 obtain⟨b,c',hb,hlc,hcc,hcm,hrm,vx⟩:=bslv (hvs (x',.bsl n off 1 l c) (by simp) x hx)
 have hr:=elems_rep hel G w _ (hvs (y',v) (by simp) y hy)
 obtain⟨m,A,cap,_,_,vy,_⟩:=hr.sl_inv
 rw [vy] at hr
 obtain⟨us,k1,k2,k3,k4,k5,k6,k7,k8,k9,k10⟩:=slice_cells hr
 have hf:D.flat (es.take (min es.length l))=(D.flat es).take (min es.length l):=by
  rcases hsy with rfl | rfl
  ·have:=(flat_take' es (min es.length l) k6).1
   rwa [Nat.mul_one] at this
  ·simp [D.flat]
 have hfl:(D.flat es).length=us.length:=by rw [k1,k5];exact flat_len k6
 have hus:us.length=es.length:=by
  rcases hsy with rfl | rfl
  ·rw [k1,k5,Nat.mul_one]
  ·rw [k1,k5];simp
 have hwl:(wr (es.take (min es.length l))).length=min es.length l:=by
  simp only [wr,List.length_map,hf,List.length_take,hfl,hus];omega
 have hlu:(Builtin.lenOf (.slice A m cap)).run P w=.ok m w:=by simp [Builtin.lenOf]
 have hfc:(Builtin.firstCells 1 (Nat.min m l) (.slice A m cap)).run P w=.ok (us.take (Nat.min m l)).toArray w:=by
  cases A with
  | none =>
   have he0:=k8 rfl
   subst he0
   have:us=[]:=List.eq_nil_of_length_eq_zero (by simpa using hus)
   subst this
   simp [Builtin.firstCells]
  | some ad =>
   have:=run_firstCells_some (P:=P) w 1 (Nat.min m l) ad m cap (us.take (Nat.min m l)) (by rw [List.length_take,hus,← k5,Nat.mul_one];exact Nat.min_eq_left (Nat.min_le_left _ _)) (fun j u hj=>(k3 ad rfl j u (by
    rw [List.getElem?_take] at hj
    split at hj
    ·exact hj
    ·cases hj)).1)
   simpa using this
 obtain⟨w',e1,e2,e3⟩:=copy_core (P:=P) H (n:=n) (b:=b) (off:=off) (l:=l) (c':=c') (m:=m) (news:=wr (es.take (min es.length l))) (vals:=us.take (Nat.min m l)) (t:=t) (t2:=t2) (ty:=o.type) (u:=.slice A m cap) hu hi hs hn hb hlu hfc (by
   rw [hwl,List.length_take,hus,k5];exact Nat.min_eq_left (Nat.min_le_left _ _)) (fun k cc u hk hu'=>by
   simp only [wr,List.getElem?_map,Option.map_eq_some_iff] at hk
   obtain⟨d,hd,rfl⟩:=hk
   rw [hf,List.getElem?_take] at hd
   split at hd
   ·rw [List.getElem?_take] at hu'
    split at hu'
    ·exact⟨.d (k4 k d u hd hu'),k7 d (List.mem_of_getElem? hd)⟩
    ·cases hu'
   ·cases hd) (by rw [hwl];exact ho)
 refine wpIn_value (by simp [h]) (v:=goInt (Nat.min m l)) (w':=w') (by simp [execOp,h,resolve,invoke,builtin,vx,vy,e1]) (hK _ _ _ e2 e3 ?_)
 rw [k5]
 exact .d (.lit (sc_nat (n:=min es.length l) (by have:min es.length l≤es.length:=Nat.min_le_left _ _;omega)))
theorem sound_copyB_b{x y x' y' t t2 e i} {n off z l c q o2 z2 l2 c2:Nat}{ag ag2:Bool}{cs cs2:List AV}(h:o.op=.call {callee:=.builtin .copy,args:=#[x,y],argTypes:=#[t,t2]}) (hx:CO x x') (hy:CO y y') (hu:P.underlying t=some (.slice e)) (hi:P.info? e=some i) (hs:i.size=1)
  (hc:z=1∧z2=1∧off+min l2 l≤cs.length∧o2+min l2 l≤cs2.length) (p:Prop) :
  OpLoc E P ro o [(x',.bsl n off z l c),(y',.bsl q o2 z2 l2 c2)] {c:=p,v:=.d (.lit (.int .i64 (min l2 l:Nat))),hin:=[(n,.box ag cs),(q,.box ag2 cs2)],up:=[(n,.box ag (setAt cs off ((cs2.drop o2).take (min l2 l))))]}:=by
 intro G a w hp H hvs hin _ K Q hK
 obtain⟨rfl,rfl,ho,ho2⟩:=hc
 have hn:hp n=some (.box ag cs):=hin (n,.box ag cs) (by simp)
 have hq:hp q=some (.box ag2 cs2):=hin (q,.box ag2 cs2) (by simp)
 obtain⟨b,c',hb,hlc,hcc,hcm,hrm,vx⟩:=bslv (hvs (x',.bsl n off 1 l c) (by simp) x hx)
 obtain⟨b2,c2',hb2,hlc2,hcc2,hcm2,hrm2,vy⟩:=bslv (hvs (y',.bsl q o2 1 l2 c2) (by simp) y hy)
 obtain⟨arr,r1,r2,r3⟩:=H.readBox hq hb2
 have hsz:o2+min l2 l≤arr.size:=Nat.le_trans ho2 r1.1
 have hlu:(Builtin.lenOf (.slice (some ⟨b2,o2,none⟩) l2 c2')).run P w=.ok l2 w:=by simp [Builtin.lenOf]
 have hvl:((arr.toList.drop o2).take (min l2 l)).length=min l2 l:=by simp;omega
 have hget:∀ (j:Nat) (u:Value),((arr.toList.drop o2).take (min l2 l))[j]?=some u→arr[o2+j]?=some u:=fun j u hj=>by
  rw [List.getElem?_take] at hj
  split at hj
  ·rw [List.getElem?_drop] at hj;simpa using hj
  ·cases hj
 have hfc:(Builtin.firstCells 1 (Nat.min l2 l) (.slice (some ⟨b2,o2,none⟩) l2 c2')).run P w=.ok ((arr.toList.drop o2).take (min l2 l)).toArray w :=
  run_firstCells_some (P:=P) w 1 (Nat.min l2 l) ⟨b2,o2,none⟩ l2 c2' ((arr.toList.drop o2).take (min l2 l)) (by rw [hvl,Nat.mul_one]) (fun j u hj=>by rw [add_mk,r3];exact hget j u hj)
 obtain⟨w',e1,e2,e3⟩:=copy_core (P:=P) H (n:=n) (b:=b) (off:=off) (l:=l) (c':=c') (m:=l2) (news:=(cs2.drop o2).take (min l2 l)) (vals:=(arr.toList.drop o2).take (min l2 l)) (t:=t) (t2:=t2) (ty:=o.type) (u:=.slice (some ⟨b2,o2,none⟩) l2 c2') hu hi hs hn hb hlu hfc (by
   rw [hvl];simp;omega) (fun k cc u hk hu'=>by
   rw [List.getElem?_take] at hk
   split at hk
   ·rw [List.getElem?_drop] at hk
    exact⟨r1.2 _ cc u hk (hget k u hu'),r2 cc (List.mem_of_getElem? hk)⟩
   ·cases hk) (by rw [List.length_take,List.length_drop];omega)
 refine wpIn_value (by simp [h]) (v:=goInt (Nat.min l2 l)) (w':=w') (by simp [execOp,h,resolve,invoke,builtin,vx,vy,e1]) (hK _ _ _ e2 e3 ?_)
 exact .d (.lit (sc_nat (n:=min l2 l) (by have:min l2 l≤l2:=Nat.min_le_left _ _;omega)))
theorem strD_len(s:ByteArray):(strD s).length=s.size:=by simp [strD]
theorem strD_flat(s:ByteArray):D.flat (strD s)=strD s:=flat_onesD _ (fun c hc=>by
 simp only [strD,List.mem_map] at hc
 obtain⟨_,_,rfl⟩:=hc;rfl)
theorem strD_get{s:ByteArray}{k:Nat}{c:D}(h:(strD s)[k]?=some c):∃ b:UInt8,s.data[k]?=some b∧c=.lit (.int .u8 (b.toNat:Int)):=by
 simp only [strD,List.getElem?_map,Option.map_eq_some_iff] at h
 obtain⟨b,hb,rfl⟩:=h
 exact⟨b,by simpa using hb,rfl⟩
theorem sc_u8(b:UInt8):Sc (.int .u8 (b.toNat:Int)):=by
 have:=b.toNat_lt
 refine⟨?_,?_⟩ <;> simp only [IntKind.min,IntKind.max,IntKind.bits,IntKind.signed] <;> simp <;> omega
theorem run_append_zeroS{t t2 ty e:TypeId}{i:TypeInfo}{w:World}{A:Option Addr}{n cap:Nat}(ht:P.underlying t=some (.slice e)) (hu:P.underlying t2=some .string) (hi:P.info? e=some i) (hn:n≤cap) :
  (Builtin.append_ #[t,t2] ty #[.slice A n cap,.string ⟨#[]⟩]).run P w=.ok (.slice A n cap) w:=by
 cases A <;> simp [Builtin.append_,run_underlying ht,run_underlying hu,sizeOf,typeInfo,hi,Builtin.lenOf,Builtin.firstCells,hn,storeCells,ByteArray.size]
theorem run_append_fitS{t t2 ty e:TypeId}{i:TypeInfo}{w:World}{b off n cap m:Nat}{s:ByteArray}{news:List Value}(ht:P.underlying t=some (.slice e)) (hu:P.underlying t2=some .string) (hi:P.info? e=some i) (hm:m=s.size) (hds:news=strCells s)
  (h1:∀ u∈news,u.oneCell'=true) (hroom:n+m≤cap)
  (hc:∀ j,j<news.length→(w.cell? ⟨b,off+n*i.size+j,none⟩).isSome=true) (hf:∀ j,j<news.length→w.frozen? ⟨b,off+n*i.size+j,none⟩=false) :
  (Builtin.append_ #[t,t2] ty #[.slice (some ⟨b,off,none⟩) n cap,.string s]).run P w=.ok (.slice (some ⟨b,off,none⟩) (n+m) cap) (w.setCells b (off+n*i.size) news):=by
 have hfc:=run_firstCells_string (P:=P) w i.size s
 have hst:=run_storeCells_cells (P:=P) b (off+n*i.size) news 0 w (by simpa using hc) (by simpa using hf) h1
 simp only [Nat.add_zero] at hst
 rw [← hds] at hfc
 subst hm
 simp [Builtin.append_,run_underlying ht,run_underlying hu,sizeOf,typeInfo,hi,Builtin.lenOf,hroom,hfc,add_mk,hst]
theorem append_coreS{G:Gh}{h:Hp}{w:World}(H:WRel E G h w){t t2 ty e:TypeId}{i:TypeInfo}{zv:Value}{sy bytes:Nat}(hsy1:sy=1) (ht:P.underlying t=some (.slice e)) (hu2:P.underlying t2=some .string) (hi:P.info? e=some i) (hs:i.size=sy) (hb:i.bytes=bytes)
  (hz:i.zero=some zv) (hzs:zv.cells.size=sy){A:Option Addr}{n cap:Nat}{es:List D}{s:ByteArray}
  (hx:Rep G.I w (.sl sy es) (.slice A n cap)) (hT:Tail E G w A n cap sy)
  (hd:n*sy<cap*sy→∀ r' A' n' cap' sz',h r'=some .row→G.row r'=some (A',n',cap',sz')→n'*sz'<cap'*sz'→∀ ad ad',A=some ad→A'=some ad'→ad.block≠ad'.block)
  (hbytes:(es.length+(strD s).length)*bytes≤140737488355328) (h63:es.length+(strD s).length≤9223372036854775807){q:Nat}(hq:h q=none) :
  ∃ val w' G',(Builtin.append_ #[t,t2] ty #[.slice A n cap,.string s]).run P w=.ok val w'∧GLe G w G' w'∧WRel E G' (h.upd [(q,.row)]) w'∧RepA G' w' (.own q sy (es++strD s)) val:=by
 obtain⟨cs,k1,k2,k3,k4,k5,k6,k7,k8,k9,k10⟩:=slice_cells hx
 obtain⟨ys,hys⟩:∃ ys,ys=strD s:=⟨_,rfl⟩
 obtain⟨m,hm⟩:∃ m,m=s.size:=⟨_,rfl⟩
 have hs0:0<sy:=by omega
 have d5:m=ys.length:=by rw [hys,strD_len,hm]
 obtain⟨ds,hds⟩:∃ ds,ds=strCells s:=⟨_,rfl⟩
 have d1:ds.length=m*sy:=by rw [hds,strCells_length,hm,hsy1,Nat.mul_one]
 have d2:∀ u∈ds,u.oneCell'=true:=by rw [hds];exact strCells_oneCell s
 have d6:∀ e∈ys,e.cells.length=sy:=fun e he=>by rw [hsy1];rw [hys] at he;simp only [strD,List.mem_map] at he;obtain⟨_,_,rfl⟩:=he;rfl
 have d7:∀ c∈D.flat ys,c.one=true:=fun c hc=>by rw [hys,strD_flat] at hc;simp only [strD,List.mem_map] at hc;obtain⟨_,_,rfl⟩:=hc;rfl
 have d4:∀ (j:Nat) (c:D) (u:Value),(D.flat ys)[j]?=some c→ds[j]?=some u→Rep G.I w c u:=fun j c u hc hu=>by
  rw [hys,strD_flat] at hc
  obtain⟨b,hb',rfl⟩:=strD_get hc
  rw [hds] at hu
  simp only [strCells,List.getElem?_map,Option.map_eq_some_iff] at hu
  obtain⟨b2,hb2,rfl⟩:=hu
  have:b2=b:=by
   have h2:s.data[j]?=some b2:=by simpa using hb2
   rw [hb'] at h2;injection h2 with h2;exact h2.symm
  subst this
  exact .lit (sc_u8 b2)
 rw [← hys] at hbytes h63 ⊢
 rcases Nat.eq_zero_or_pos m with hm0 | hm0
 ·
  have hmz:s=⟨#[]⟩:=by
   have:s.data.size=0:=by have h':=hm;rw [hm0] at h';exact h'.symm
   cases s;rename_i d;simp at this;simp [this]
  have hy0:ys=[]:=List.eq_nil_of_length_eq_zero (by omega)
  subst hy0
  obtain⟨l1,l2⟩:=H.addRow hq hT hd
  refine⟨.slice A n cap,w,_,(by rw [hmz];exact run_append_zeroS ht hu2 hi k9),l1,l2,?_⟩
  rw [List.append_nil]
  exact .own (by simp) (hx.mono l1.imm)
 ·by_cases hroom:n+m≤cap
  ·
   have hlt:n*sy<cap*sy:=Nat.mul_lt_mul_of_pos_right (by omega) hs0
   obtain⟨ad,rfl,t1,t2,t3,t4,t5⟩:=hT (n*sy) (Nat.le_refl _) hlt
   obtain⟨v0,hv0⟩:=Option.isSome_iff_exists.1 t1
   have hmn:n*sy+m*sy≤cap*sy:=by rw [← Nat.add_mul];exact Nat.mul_le_mul_right _ hroom
   have hadeta:ad=⟨ad.block,ad.off,none⟩:=by
    have e:=addr_eta hv0
    unfold Addr.add at e
    split at e
    ·exact e
    ·rename_i hne
     have hn0:0<n:=by
      rcases Nat.eq_zero_or_pos n with h0 | h0
      ·rw [h0] at hne;simp at hne
      ·exact h0
     have hc0:0<cs.length:=by rw [k1];exact Nat.mul_pos hn0 hs0
     have:=(k3 ad rfl 0 cs[0] (List.getElem?_eq_getElem hc0)).1
     have e0:ad.add 0=ad:=by simp [Addr.add]
     rw [e0] at this
     exact addr_eta this
   generalize hbk:ad.block=b at *
   generalize hof:ad.off=off at *
   subst hadeta
   have hTc:∀ j,j<ds.length→(w.cell? ⟨b,off+n*sy+j,none⟩).isSome=true∧w.frozen? ⟨b,off+n*sy+j,none⟩=false∧¬ G.I ⟨b,off+n*sy+j,none⟩:=fun j hj=>by
    obtain⟨ad',e',q1,q2,q3,_,_⟩:=hT (n*sy+j) (by omega) (by omega)
    injection e' with e';subst e'
    rw [add_mk,← Nat.add_assoc] at q1 q2 q3
    exact⟨q1,q2,q3⟩
   have hrun:=run_append_fitS (P:=P) (ty:=ty) (w:=w) (b:=b) (off:=off) (n:=n) (cap:=cap) (m:=m) (news:=ds) ht hu2 hi hm hds d2 hroom (by rw [hs];exact fun j hj=>(hTc j hj).1) (by rw [hs];exact fun j hj=>(hTc j hj).2.1)
   rw [hs] at hrun
   have hmk:∀ (x:Addr),x=(⟨b,off,none⟩:Addr)→x.block=b:=fun x hx=>by rw [hx]
   obtain⟨f1,f2⟩:=H.fill (b:=b) (o:=off+n*sy) (vs:=ds) (fun k hk=>(hTc k hk).1) (fun k hk=>(hTc k hk).2.2) t4.1 t5 t4.2 (fun r A' n' cap' sz' hr' g' l' ad' e' hbb=>hd hlt r A' n' cap' sz' hr' g' l' ⟨b,off,none⟩ ad' rfl e' hbb.symm)
   have hin:∀ j u,(cs++ds)[j]?=some u→(w.setCells b (off+n*sy) ds).cell? ⟨b,off+j,none⟩=some u∧(G.I ⟨b,off+j,none⟩∨∃ k,k<ds.length∧(⟨b,off+j,none⟩:Addr)=⟨b,off+n*sy+k,none⟩):=fun j u hj=>by
    by_cases hjl:j<cs.length
    ·rw [List.getElem?_append_left hjl] at hj
     have hq':=k3 _ rfl j u hj
     rw [add_mk] at hq'
     refine⟨?_,.inl hq'.2⟩
     rw [(f1.imm _ hq'.2).2];exact hq'.1
    ·rw [List.getElem?_append_right (by omega)] at hj
     have hjd:j-cs.length<ds.length:=by
      rcases Nat.lt_or_ge (j-cs.length) ds.length with h' | h'
      ·exact h'
      ·rw [List.getElem?_eq_none h'] at hj;cases hj
     have hjj:off+j=off+n*sy+(j-cs.length):=by omega
     rw [hjj]
     refine⟨?_,.inr ⟨j-cs.length,hjd,rfl⟩⟩
     rw [World.cell?_setCells_in b ds (off+n*sy) w (fun k hk=>(hTc k hk).1) _ hjd]
     rw [List.getElem?_eq_getElem hjd] at hj;exact hj
   have hT':Tail E {G with I:=fun a=>G.I a∨(∃ k,k<ds.length∧a=⟨b,off+n*sy+k,none⟩)} (w.setCells b (off+n*sy) ds) (some ⟨b,off,none⟩) (n+m) cap sy:=fun k hk hk'=>by
    rw [Nat.add_mul] at hk
    obtain⟨ad',e',q1,q2,q3,q4,q5⟩:=hT k (by omega) hk'
    injection e' with e';subst e'
    rw [add_mk] at q1 q2 q3
    refine⟨_,rfl,?_,?_,?_,q4,q5⟩
    ·rw [add_mk,setCells_cell_out b ds _ w _ (fun _=>.inr (by simp only;omega))];exact q1
    ·rw [add_mk,World.frozen?_setCells];exact q2
    ·rw [add_mk]
     rintro(hi' | ⟨j,hj,hi'⟩)
     ·exact q3 hi'
     ·injection hi' with _ hi' _;omega
   obtain⟨l1,l2⟩:=f2.addRow hq hT' (fun hlt'=>hd hlt)
   refine⟨_,_,_,hrun,f1.trans l1,l2,?_⟩
   have hrep:=rep_joined (I:=fun a=>G.I a∨(∃ k,k<ds.length∧a=⟨b,off+n*sy+k,none⟩)) (w:=w.setCells b (off+n*sy) ds) (cap:=cap) (b:=b) (o:=off) (cs:=cs) (ds:=ds) k6 d6 k7 d7 (by rw [k1,k5]) (by rw [d1,d5]) hin
    (fun j c u hj hu=>(k4 j c u hj hu).mono f1.imm) (fun j c u hj hu=>(d4 j c u hj hu).mono f1.imm) (by omega) k10
   rw [← k5,← d5] at hrep
   exact .own (by simp) hrep
  ·
   have hbytes':(n+m)*i.bytes≤140737488355328:=by rw [hb,k5,d5];exact hbytes
   have hrun:∃ oldc,(Builtin.append_ #[t,t2] ty #[.slice A n cap,.string s]).run P w=.ok (.slice (some ⟨w.heap.size,0,none⟩) (n+m) (grownCap w (n+m) oldc e))
     (w.drew.alloc (.cells (cs.toArray++ds.toArray++Builtin.zeroCells zv.cells (grownCap w (n+m) oldc e-(n+m))) e)):=by
    cases A with
    | none =>
     have he0:=k8 rfl
     subst he0
     have hn0:n=0:=by simpa using k5
     subst hn0
     have hcs:cs=[]:=List.eq_nil_of_length_eq_zero (by omega)
     subst hcs
     have hcap:cap=0:=by
      rcases Nat.eq_zero_or_pos cap with h0 | h0
      ·exact h0
      ·obtain⟨ad,e',_⟩:=hT 0 (by simp) (Nat.mul_pos h0 hs0);cases e'
     subst hcap
     have:=run_append_nil_string (P:=P) w t t2 ty e i zv ht hu2 hi hz s (by omega) (by omega) (by simp at hbytes';rw [← hm];omega)
     refine⟨0,?_⟩
     rw [← hm] at this
     rw [this,hds,show (s.data.map (fun b=>Value.int .u8 (b.toNat:Int)))=(strCells s).toArray from by apply Array.ext';simp [strCells]]
     simp
    | some ad =>
     have:=run_append_grow_string (P:=P) w t t2 ty e i zv ht hu2 hi hz ad n cap cs (by rw [hs,k1]) (fun j u hj=>(k3 ad rfl j u hj).1) s (by omega) (by omega) (by rw [← hm];exact growslice_fits (by omega) hbytes')
     rw [← hm,← hds] at this
     exact⟨cap,this⟩
   obtain⟨oldc,hrun⟩:=hrun
   generalize hcapv:grownCap w (n+m) oldc e=ncap at hrun
   have hge:n+m≤ncap:=by rw [← hcapv];exact grownCap_ge w (n+m) oldc e
   have hle':ncap≤9223372036854775807:=by rw [← hcapv];exact grownCap_le_maxLen w (n+m) oldc e (by simp only [maxLen];omega)
   generalize hzr:Builtin.zeroCells zv.cells (ncap-(n+m))=zr at hrun
   have hzl:zr.size=(ncap-(n+m))*sy:=by rw [← hzr,size_zeroCells,hzs]
   have hg:Grow w (w.drew.alloc (.cells (cs.toArray++ds.toArray++zr) e)):=⟨rfl,rfl,rfl,by simp,fun b hb=>by first | exact heap_alloc_old w.drew _ b hb | exact heap_alloc_old w.drew _ hb⟩
   have hcell:∀ k,(w.drew.alloc (.cells (cs.toArray++ds.toArray++zr) e)).cell? ⟨w.heap.size,k,none⟩=(cs.toArray++ds.toArray++zr)[k]?:=fun k =>
    cell_of_row (w.drew.alloc (.cells (cs.toArray++ds.toArray++zr) e)) w.heap.size k _ e (0,0) (heap_alloc_new w.drew _)
   have hcl:cs.length+ds.length=(n+m)*sy:=by rw [k1,d1,Nat.add_mul]
   have hcell1:∀ k u,(cs++ds)[k]?=some u→(w.drew.alloc (.cells (cs.toArray++ds.toArray++zr) e)).cell? ⟨w.heap.size,k,none⟩=some u:=fun k u hk=>by
    have hlt:k<(cs++ds).length:=by
     rcases Nat.lt_or_ge k (cs++ds).length with h' | h'
     ·exact h'
     ·rw [List.getElem?_eq_none h'] at hk;cases hk
    rw [hcell,Array.getElem?_append_left (by simpa using hlt),← hk]
    simp
   obtain⟨l1,l2⟩:=H.grow hg (fun a'=>G.I a'∨(a'.block=w.heap.size∧a'.spot=none∧a'.off<(n+m)*sy)) (fun _ h=>.inl h) (fun a' ha'=>by
     rcases ha' with h' | h'
     ·exact .inl h'
     ·exact .inr (by omega)) (fun a' ha'=>by
     rcases ha' with h' | ⟨h1',h2',h3'⟩
     ·rw [hg.cell (H.ilt h')];exact H.icell a' h'
     ·have ea:a'=⟨w.heap.size,a'.off,none⟩:=by cases a';simp_all
      have hlt:a'.off<(cs++ds).length:=by simp;omega
      rw [ea,hcell1 a'.off _ (List.getElem?_eq_getElem hlt)];rfl)
   have hT':Tail E {G with I:=fun a'=>G.I a'∨(a'.block=w.heap.size∧a'.spot=none∧a'.off<(n+m)*sy)} (w.drew.alloc (.cells (cs.toArray++ds.toArray++zr) e)) (some ⟨w.heap.size,0,none⟩) (n+m) ncap sy:=fun k hk hk'=>by
    refine⟨_,rfl,?_,?_,?_,⟨fun hk''=>?_,E.hN _ H.size⟩,fun m' hm'=>?_⟩
    ·rw [add_mk,Nat.zero_add,hcell]
     have hmul:(n+m)*sy≤ncap*sy:=Nat.mul_le_mul_right _ hge
     have hlt:k<(cs.toArray++ds.toArray++zr).size:=by
      simp only [Array.size_append,List.size_toArray,hzl,Nat.sub_mul]
      omega
     exact Option.isSome_iff_exists.2 ⟨_,Array.getElem?_eq_getElem hlt⟩
    ·rw [add_mk]
     have hh:=heap_alloc_new w.drew (.cells (cs.toArray++ds.toArray++zr) e)
     unfold World.frozen?
     simp only
     rw [show w.heap.size=w.drew.heap.size from rfl,hh]
     simp
    ·rw [add_mk]
     rintro(hi' | ⟨_,_,hi'⟩)
     ·have:=H.ilt hi';simp at this
     ·simp at hi';omega
    ·have h1':=(H.kept _ hk'').1;have h2':=H.size;simp only at h1';omega
    ·have:=(H.bown m' _ hm').1;simp at this
   obtain⟨r1,r2⟩:=l2.addRow hq hT' (fun _ r' A' n' cap' sz' hr' g' l' ad ad' e1 e2=>by
    injection e1 with e1;subst e1;subst e2
    obtain⟨A2,n2,cap2,sz2,g2,T2⟩:=H.row r' hr'
    have g':G.row r'=some (some ad',n',cap',sz'):=g'
    rw [g2] at g'
    injection g' with g';injection g' with x1 x2;injection x2 with x2 x3;injection x3 with x3 x4
    subst x1;subst x2;subst x3;subst x4
    obtain⟨ad3,e3,q1,_⟩:=T2 (n2*sz2) (Nat.le_refl _) l'
    injection e3 with e3;subst e3
    obtain⟨v3,hv3⟩:=Option.isSome_iff_exists.1 q1
    have:=World.block_lt_of_cell? w _ hv3
    rw [block_add] at this
    intro hh;simp at hh;omega)
   refine⟨_,_,_,hrun,l1.trans r1,r2,?_⟩
   have hrep:=rep_joined (I:=fun a'=>G.I a'∨(a'.block=w.heap.size∧a'.spot=none∧a'.off<(n+m)*sy)) (w:=w.drew.alloc (.cells (cs.toArray++ds.toArray++zr) e)) (cap:=ncap) (b:=w.heap.size) (o:=0) (cs:=cs) (ds:=ds) k6 d6 k7 d7 (by rw [k1,k5]) (by rw [d1,d5])
    (fun j u hj=>by
     rw [Nat.zero_add]
     refine⟨hcell1 j u hj,.inr ⟨rfl,rfl,?_⟩⟩
     rcases Nat.lt_or_ge j (cs++ds).length with h' | h'
     ·simp at h';simp;omega
     ·rw [List.getElem?_eq_none h'] at hj;cases hj)
    (fun j c u hj hu=>(k4 j c u hj hu).mono l1.imm) (fun j c u hj hu=>(d4 j c u hj hu).mono l1.imm) (by omega) hle'
   rw [← k5,← d5] at hrep
   exact .own (by simp) hrep
theorem sound_strBytes{s t e x x' u} {str:ByteArray}(h:o.op=.convert s t x) (hx:CO x x') (hs:P.underlying s=some u) (ht:P.underlying t=some (.slice e)) (he:P.underlying e=some (.int .u8)) (p:Prop) :
  OpLoc E P ro o [(x',.d (.lit (.string str)))] {c:=p,v:=.d (.sl 1 (strD str))}:=by
 intro G a w hp H hvs _ _ K Q hK
 obtain⟨e1,s1⟩:=(ev1 hvs hx).lit
 have s1:str.size≤9223372036854775807:=s1
 have hrun:=Lib.run_convert_string_bytes (P:=P) w s t e str hs ht he
 have hg:Grow w (Lib.bytesWorld w e str):=⟨rfl,rfl,rfl,by simp [Lib.bytesWorld,World.freeze,World.alloc,World.drew,-World.alloc_eq,-World.drew_eq],fun b hb=>Lib.bytesWorld_at_old w e str b hb⟩
 have hcell:∀ k,k<str.size→(Lib.bytesWorld w e str).cell? ⟨w.heap.size,k,none⟩=(Lib.bytesCells w e str)[k]?:=fun k hk=>by
  exact cell_of_row _ _ _ _ _ _ (Lib.bytesWorld_at_new w e str)
 have hval:∀ k (c:D),(D.flat (strD str))[k]?=some c→∃ b:UInt8,k<str.size∧(Lib.bytesWorld w e str).cell? ⟨w.heap.size,k,none⟩=some (.int .u8 b.toNat)∧c=.lit (.int .u8 (b.toNat:Int)):=fun k c hk=>by
  rw [strD_flat] at hk
  obtain⟨b,hb,rfl⟩:=strD_get hk
  have hlt:k<str.size:=(Array.getElem?_eq_some_iff.1 hb).1
  refine⟨b,hlt,?_,rfl⟩
  rw [hcell k hlt,Lib.bytesCells,Array.getElem?_append_left (by rw [Array.size_map];exact hlt)]
  simp [hb]
 obtain⟨l1,l2⟩:=H.grow hg (fun a'=>G.I a'∨(a'.block=w.heap.size∧((Lib.bytesWorld w e str).cell? a').isSome=true)) (fun _ h=>.inl h) (fun a' ha'=>ha'.imp id (fun h=>by omega)) (fun a' ha'=>by
  rcases ha' with h' | h'
  ·rw [hg.cell (H.ilt h')];exact H.icell a' h'
  ·exact h'.2)
 refine wpIn_value (by simp [h]) (v:=.slice (some ⟨w.heap.size,0,none⟩) str.size (grownCap w str.size 0 e)) (w':=Lib.bytesWorld w e str) (by simp [execOp,h,e1,hrun]) (hK _ _ _ l1 l2 (.d ?_))
 refine .sl ⟨w.heap.size,0,none⟩ (fun k=>((Lib.bytesWorld w e str).cell? ⟨w.heap.size,k,none⟩).getD undef) (strD_len str).symm (grownCap_ge w _ _ _) (grownCap_le_maxLen w _ _ _ s1) (.inl rfl) (fun c hc=>by
  simp only [strD,List.mem_map] at hc;obtain⟨_,_,rfl⟩:=hc;rfl) (fun c hc=>by
  rw [strD_flat] at hc;simp only [strD,List.mem_map] at hc;obtain⟨_,_,rfl⟩:=hc;rfl) (fun k c hk=>?_) (fun k c hk=>?_)
 ·obtain⟨b,_,h2,_⟩:=hval k c hk
  rw [add_mk,Nat.zero_add,h2]
  exact⟨.inr ⟨rfl,by rw [h2];rfl⟩,rfl⟩
 ·obtain⟨b,_,h2,rfl⟩:=hval k c hk
  simp only [h2,Option.getD]
  exact .lit (sc_u8 b)
theorem run_append_opS{a:Act}{w w':World}{x y:Operand}{t t2:TypeId}{val:Value}(h:o.op=.call {callee:=.builtin .append,args:=#[x,y],argTypes:=#[t,t2]}) (hr:(Builtin.append_ #[t,t2] o.type #[a.eval x,a.eval y]).run P w=.ok val w') :
  (execOp a.eval o).run P w=.ok (.value val) w':=by simp [execOp,h,resolve,invoke,builtin,hr]
theorem sound_appendS_own{t t2 e i zv x y x' y' bytes r sz' q} {es:List D}{str:ByteArray}(h:o.op=.call {callee:=.builtin .append,args:=#[x,y],argTypes:=#[t,t2]}) (hx:CO x x') (hy:CO y y') (hu:P.underlying t=some (.slice e)) (hu2:P.underlying t2=some .string)
  (hi:P.info? e=some i) (hs:i.size=1) (hb:i.bytes=bytes) (hz:i.zero=some zv) (hzs:zv.cells.size=1) (hqr:q≠r)
  (hc:sz'=1∧(es.length+(strD str).length)*bytes≤140737488355328∧es.length+(strD str).length≤9223372036854775807) (p:Prop) :
  OpLoc E P ro o [(x',.own r sz' es),(y',.d (.lit (.string str)))] {c:=p,v:=.own q 1 (es++strD str),hin:=[(r,.row)],up:=[(q,.row),(r,.dead)]}:=by
 intro G a w hp H hx' hn hf K Q hK
 obtain⟨c1,c3,c4⟩:=hc
 subst c1
 obtain⟨v1,v2⟩:=ev2 hx' hx hy
 obtain⟨e2,_⟩:=v2.lit
 have hq:hp q=none:=by
  rcases hf (q,.row) (by simp) with h' | ⟨z,hz',e'⟩
  ·exact h'
  ·simp at hz';subst hz';exact absurd e'.symm hqr
 have hr:hp r=some .row:=hn (r,.row) (by simp)
 generalize he:a.eval x=u at v1
 cases v1
 rename_i A n cap hg hrep
 obtain⟨A2,n2,cap2,sz2,g2,T⟩:=H.row r hr
 rw [hg] at g2
 injection g2 with g2;injection g2 with x1 x2;injection x2 with x2 x3;injection x3 with x3 x4
 subst x1;subst x2;subst x3;subst x4
 have H':=H.killRow hr
 have hq':(hp.upd [(r,.dead)]) q=none:=by rw [upd_one,if_neg hqr];exact hq
 obtain⟨val,w',G',e1,e2',e3,e4⟩:=append_coreS (E:=E) (P:=P) H' (ty:=o.type) rfl hu hu2 hi hs hb hz hzs hrep T (fun hlt r' A' n' cap' sz'' hr' g' l' ad ad' f1 f2 hbb=>by
   rw [upd_one] at hr'
   split at hr'
   ·injection hr' with hr';cases hr'
   ·rename_i hne
    exact hne (H.rinj r r' _ _ _ _ _ _ _ _ hr hr' hg g' hlt l' ad ad' f1 f2 hbb).symm) c3 c4 hq'
 refine wpIn_value (by simp [h]) (run_append_opS h (by rw [he,e2];exact e1)) (hK val w' G' e2' ?_ e4)
 have:hp.upd [(q,.row),(r,.dead)]=(hp.upd [(r,.dead)]).upd [(q,.row)]:=by funext m;simp only [Hp.upd]
 rw [this];exact e3
theorem sound_appendS_nil{t t2 e i zv x y x' y' bytes sz' q} {str:ByteArray}(h:o.op=.call {callee:=.builtin .append,args:=#[x,y],argTypes:=#[t,t2]}) (hx:CO x x') (hy:CO y y') (hu:P.underlying t=some (.slice e)) (hu2:P.underlying t2=some .string)
  (hi:P.info? e=some i) (hs:i.size=1) (hb:i.bytes=bytes) (hz:i.zero=some zv) (hzs:zv.cells.size=1)
  (hc:(strD str).length*bytes≤140737488355328∧(strD str).length≤9223372036854775807) (p:Prop) :
  OpLoc E P ro o [(x',.d (.nil sz')),(y',.d (.lit (.string str)))] {c:=p,v:=.own q 1 (strD str),up:=[(q,.row)]}:=by
 intro G a w hp H hx' _ hf K Q hK
 obtain⟨v1,v2⟩:=ev2 hx' hx hy
 obtain⟨e2,_⟩:=v2.lit
 have hq:hp q=none:=by
  rcases hf (q,.row) (by simp) with h' | ⟨z,hz',_⟩
  ·exact h'
  ·simp at hz'
 have v1:=v1.of_d
 generalize he:a.eval x=u at v1
 cases v1
 have hrep:Rep G.I w (.sl 1 []) (.slice none 0 0):=.sl ⟨0,0,none⟩ (fun _=>undef) rfl (by simp) (by simp) (.inr rfl) (by simp) (by simp [D.flat]) (by simp [D.flat]) (by simp [D.flat])
 obtain⟨val,w',G',e1,e2',e3,e4⟩:=append_coreS (E:=E) (P:=P) H (ty:=o.type) rfl hu hu2 hi hs hb hz hzs hrep (fun k hk hk'=>by simp at hk') (fun hlt=>by simp at hlt) (by simpa using hc.1) (by simpa using hc.2) hq
 exact wpIn_value (by simp [h]) (run_append_opS h (by rw [he,e2];exact e1)) (hK val w' G' e2' e3 (by simpa using e4))
theorem append_coreB{G:Gh}{h:Hp}{w:World}(H:WRel E G h w){t ty e:TypeId}{i:TypeInfo}{zv:Value}{sy bytes:Nat}(ht:P.underlying t=some (.slice e)) (hi:P.info? e=some i) (hs:i.size=sy) (hb:i.bytes=bytes)
  (hz:i.zero=some zv) (hzs:zv.cells.size=sy) (hs0:0<sy){A:Option Addr}{n cap:Nat}{es:List D}{ay:Addr}{m cy:Nat}{ys:List D}{ds:List Value}
  (hx:Rep G.I w (.sl sy es) (.slice A n cap)) (hT:Tail E G w A n cap sy)
  (d1:ds.length=m*sy) (d2:∀ u∈ds,u.oneCell'=true) (d3:∀ j u,ds[j]?=some u→w.cell? (ay.add j)=some u)
  (d4:∀ (j:Nat) (c:D) (u:Value),(D.flat ys)[j]?=some c→ds[j]?=some u→Rep G.I w c u) (d5:m=ys.length) (d6:∀ e∈ys,e.cells.length=sy) (d7:∀ c∈D.flat ys,c.one=true) (hm0:0<m)
  (hd:n*sy<cap*sy→∀ r' A' n' cap' sz',h r'=some .row→G.row r'=some (A',n',cap',sz')→n'*sz'<cap'*sz'→∀ ad ad',A=some ad→A'=some ad'→ad.block≠ad'.block)
  (hbytes:(es.length+ys.length)*bytes≤140737488355328) (h63:es.length+ys.length≤9223372036854775807){q:Nat}(hq:h q=none) :
  ∃ val w' G',(Builtin.append_ #[t,t] ty #[.slice A n cap,.slice (some ay) m cy]).run P w=.ok val w'∧GLe G w G' w'∧WRel E G' (h.upd [(q,.row)]) w'∧RepA G' w' (.own q sy (es++ys)) val:=by
 obtain⟨cs,k1,k2,k3,k4,k5,k6,k7,k8,k9,k10⟩:=slice_cells hx
 by_cases hroom:n+m≤cap
 ·
  have hlt:n*sy<cap*sy:=Nat.mul_lt_mul_of_pos_right (by omega) hs0
  obtain⟨ad,rfl,t1,t2,t3,t4,t5⟩:=hT (n*sy) (Nat.le_refl _) hlt
  obtain⟨v0,hv0⟩:=Option.isSome_iff_exists.1 t1
  have hmn:n*sy+m*sy≤cap*sy:=by rw [← Nat.add_mul];exact Nat.mul_le_mul_right _ hroom
  have hadeta:ad=⟨ad.block,ad.off,none⟩:=by
   have e:=addr_eta hv0
   unfold Addr.add at e
   split at e
   ·exact e
   ·rename_i hne
    have hn0:0<n:=by
     rcases Nat.eq_zero_or_pos n with h0 | h0
     ·rw [h0] at hne;simp at hne
     ·exact h0
    have hc0:0<cs.length:=by rw [k1];exact Nat.mul_pos hn0 hs0
    have:=(k3 ad rfl 0 cs[0] (List.getElem?_eq_getElem hc0)).1
    have e0:ad.add 0=ad:=by simp [Addr.add]
    rw [e0] at this
    exact addr_eta this
  generalize hbk:ad.block=b at *
  generalize hof:ad.off=off at *
  subst hadeta
  have hTc:∀ j,j<ds.length→(w.cell? ⟨b,off+n*sy+j,none⟩).isSome=true∧w.frozen? ⟨b,off+n*sy+j,none⟩=false∧¬ G.I ⟨b,off+n*sy+j,none⟩:=fun j hj=>by
   obtain⟨ad',e',q1,q2,q3,_,_⟩:=hT (n*sy+j) (by omega) (by omega)
   injection e' with e';subst e'
   rw [add_mk,← Nat.add_assoc] at q1 q2 q3
   exact⟨q1,q2,q3⟩
  have hrun:=run_append_fit (P:=P) (ty:=ty) (w:=w) (b:=b) (off:=off) (n:=n) (cap:=cap) (m:=m) (c:=cy) (a':=ay) (news:=ds) ht hi (by rw [hs,d1]) (fun j u hj=>d3 j u hj) d2 hroom (by rw [hs];exact fun j hj=>(hTc j hj).1) (by rw [hs];exact fun j hj=>(hTc j hj).2.1)
  rw [hs] at hrun
  have hmk:∀ (x:Addr),x=(⟨b,off,none⟩:Addr)→x.block=b:=fun x hx=>by rw [hx]
  obtain⟨f1,f2⟩:=H.fill (b:=b) (o:=off+n*sy) (vs:=ds) (fun k hk=>(hTc k hk).1) (fun k hk=>(hTc k hk).2.2) t4.1 t5 t4.2 (fun r A' n' cap' sz' hr' g' l' ad' e' hbb=>hd hlt r A' n' cap' sz' hr' g' l' ⟨b,off,none⟩ ad' rfl e' hbb.symm)
  have hin:∀ j u,(cs++ds)[j]?=some u→(w.setCells b (off+n*sy) ds).cell? ⟨b,off+j,none⟩=some u∧(G.I ⟨b,off+j,none⟩∨∃ k,k<ds.length∧(⟨b,off+j,none⟩:Addr)=⟨b,off+n*sy+k,none⟩):=fun j u hj=>by
   by_cases hjl:j<cs.length
   ·rw [List.getElem?_append_left hjl] at hj
    have hq':=k3 _ rfl j u hj
    rw [add_mk] at hq'
    refine⟨?_,.inl hq'.2⟩
    rw [(f1.imm _ hq'.2).2];exact hq'.1
   ·rw [List.getElem?_append_right (by omega)] at hj
    have hjd:j-cs.length<ds.length:=by
     rcases Nat.lt_or_ge (j-cs.length) ds.length with h' | h'
     ·exact h'
     ·rw [List.getElem?_eq_none h'] at hj;cases hj
    have hjj:off+j=off+n*sy+(j-cs.length):=by omega
    rw [hjj]
    refine⟨?_,.inr ⟨j-cs.length,hjd,rfl⟩⟩
    rw [World.cell?_setCells_in b ds (off+n*sy) w (fun k hk=>(hTc k hk).1) _ hjd]
    rw [List.getElem?_eq_getElem hjd] at hj;exact hj
  have hT':Tail E {G with I:=fun a=>G.I a∨(∃ k,k<ds.length∧a=⟨b,off+n*sy+k,none⟩)} (w.setCells b (off+n*sy) ds) (some ⟨b,off,none⟩) (n+m) cap sy:=fun k hk hk'=>by
   rw [Nat.add_mul] at hk
   obtain⟨ad',e',q1,q2,q3,q4,q5⟩:=hT k (by omega) hk'
   injection e' with e';subst e'
   rw [add_mk] at q1 q2 q3
   refine⟨_,rfl,?_,?_,?_,q4,q5⟩
   ·rw [add_mk,setCells_cell_out b ds _ w _ (fun _=>.inr (by simp only;omega))];exact q1
   ·rw [add_mk,World.frozen?_setCells];exact q2
   ·rw [add_mk]
    rintro(hi' | ⟨j,hj,hi'⟩)
    ·exact q3 hi'
    ·injection hi' with _ hi' _;omega
  obtain⟨l1,l2⟩:=f2.addRow hq hT' (fun hlt'=>hd hlt)
  refine⟨_,_,_,hrun,f1.trans l1,l2,?_⟩
  have hrep:=rep_joined (I:=fun a=>G.I a∨(∃ k,k<ds.length∧a=⟨b,off+n*sy+k,none⟩)) (w:=w.setCells b (off+n*sy) ds) (cap:=cap) (b:=b) (o:=off) (cs:=cs) (ds:=ds) k6 d6 k7 d7 (by rw [k1,k5]) (by rw [d1,d5]) hin
   (fun j c u hj hu=>(k4 j c u hj hu).mono f1.imm) (fun j c u hj hu=>(d4 j c u hj hu).mono f1.imm) (by omega) k10
  rw [← k5,← d5] at hrep
  exact .own (by simp) hrep
 ·
  have hbytes':(n+m)*i.bytes≤140737488355328:=by rw [hb,k5,d5];exact hbytes
  have hrun:∃ oldc,(Builtin.append_ #[t,t] ty #[.slice A n cap,.slice (some ay) m cy]).run P w=.ok (.slice (some ⟨w.heap.size,0,none⟩) (n+m) (grownCap w (n+m) oldc e))
    (w.drew.alloc (.cells (cs.toArray++ds.toArray++Builtin.zeroCells zv.cells (grownCap w (n+m) oldc e-(n+m))) e)):=by
   cases A with
   | none =>
    have he0:=k8 rfl
    subst he0
    have hn0:n=0:=by simpa using k5
    subst hn0
    have hcs:cs=[]:=List.eq_nil_of_length_eq_zero (by omega)
    subst hcs
    have hcap:cap=0:=by
     rcases Nat.eq_zero_or_pos cap with h0 | h0
     ·exact h0
     ·obtain⟨ad,e',_⟩:=hT 0 (by simp) (Nat.mul_pos h0 hs0);cases e'
    subst hcap
    have:=run_append_nil (P:=P) w t ty e i zv ht hi hz ay m cy ds (by rw [hs,d1]) (fun j u hj=>d3 j u hj) hm0 (by omega) (by simp at hbytes';omega)
    exact⟨0,by simpa using this⟩
   | some ad =>
    exact⟨cap,run_append_grow (P:=P) w t ty e i zv ht hi hz ad n cap cs (by rw [hs,k1]) (fun j u hj=>(k3 ad rfl j u hj).1) ay m cy ds (by rw [hs,d1]) (fun j u hj=>d3 j u hj) (by omega) (by omega) (growslice_fits (by omega) hbytes')⟩
  obtain⟨oldc,hrun⟩:=hrun
  generalize hcapv:grownCap w (n+m) oldc e=ncap at hrun
  have hge:n+m≤ncap:=by rw [← hcapv];exact grownCap_ge w (n+m) oldc e
  have hle':ncap≤9223372036854775807:=by rw [← hcapv];exact grownCap_le_maxLen w (n+m) oldc e (by simp only [maxLen];omega)
  generalize hzr:Builtin.zeroCells zv.cells (ncap-(n+m))=zr at hrun
  have hzl:zr.size=(ncap-(n+m))*sy:=by rw [← hzr,size_zeroCells,hzs]
  have hg:Grow w (w.drew.alloc (.cells (cs.toArray++ds.toArray++zr) e)):=⟨rfl,rfl,rfl,by simp,fun b hb=>by first | exact heap_alloc_old w.drew _ b hb | exact heap_alloc_old w.drew _ hb⟩
  have hcell:∀ k,(w.drew.alloc (.cells (cs.toArray++ds.toArray++zr) e)).cell? ⟨w.heap.size,k,none⟩=(cs.toArray++ds.toArray++zr)[k]?:=fun k =>
   cell_of_row (w.drew.alloc (.cells (cs.toArray++ds.toArray++zr) e)) w.heap.size k _ e (0,0) (heap_alloc_new w.drew _)
  have hcl:cs.length+ds.length=(n+m)*sy:=by rw [k1,d1,Nat.add_mul]
  have hcell1:∀ k u,(cs++ds)[k]?=some u→(w.drew.alloc (.cells (cs.toArray++ds.toArray++zr) e)).cell? ⟨w.heap.size,k,none⟩=some u:=fun k u hk=>by
   have hlt:k<(cs++ds).length:=by
    rcases Nat.lt_or_ge k (cs++ds).length with h' | h'
    ·exact h'
    ·rw [List.getElem?_eq_none h'] at hk;cases hk
   rw [hcell,Array.getElem?_append_left (by simpa using hlt),← hk]
   simp
  obtain⟨l1,l2⟩:=H.grow hg (fun a'=>G.I a'∨(a'.block=w.heap.size∧a'.spot=none∧a'.off<(n+m)*sy)) (fun _ h=>.inl h) (fun a' ha'=>by
    rcases ha' with h' | h'
    ·exact .inl h'
    ·exact .inr (by omega)) (fun a' ha'=>by
    rcases ha' with h' | ⟨h1',h2',h3'⟩
    ·rw [hg.cell (H.ilt h')];exact H.icell a' h'
    ·have ea:a'=⟨w.heap.size,a'.off,none⟩:=by cases a';simp_all
     have hlt:a'.off<(cs++ds).length:=by simp;omega
     rw [ea,hcell1 a'.off _ (List.getElem?_eq_getElem hlt)];rfl)
  have hT':Tail E {G with I:=fun a'=>G.I a'∨(a'.block=w.heap.size∧a'.spot=none∧a'.off<(n+m)*sy)} (w.drew.alloc (.cells (cs.toArray++ds.toArray++zr) e)) (some ⟨w.heap.size,0,none⟩) (n+m) ncap sy:=fun k hk hk'=>by
   refine⟨_,rfl,?_,?_,?_,⟨fun hk''=>?_,E.hN _ H.size⟩,fun m' hm'=>?_⟩
   ·rw [add_mk,Nat.zero_add,hcell]
    have hmul:(n+m)*sy≤ncap*sy:=Nat.mul_le_mul_right _ hge
    have hlt:k<(cs.toArray++ds.toArray++zr).size:=by
     simp only [Array.size_append,List.size_toArray,hzl,Nat.sub_mul]
     omega
    exact Option.isSome_iff_exists.2 ⟨_,Array.getElem?_eq_getElem hlt⟩
   ·rw [add_mk]
    have hh:=heap_alloc_new w.drew (.cells (cs.toArray++ds.toArray++zr) e)
    unfold World.frozen?
    simp only
    rw [show w.heap.size=w.drew.heap.size from rfl,hh]
    simp
   ·rw [add_mk]
    rintro(hi' | ⟨_,_,hi'⟩)
    ·have:=H.ilt hi';simp at this
    ·simp at hi';omega
   ·have h1':=(H.kept _ hk'').1;have h2':=H.size;simp only at h1';omega
   ·have:=(H.bown m' _ hm').1;simp at this
  obtain⟨r1,r2⟩:=l2.addRow hq hT' (fun _ r' A' n' cap' sz' hr' g' l' ad ad' e1 e2=>by
   injection e1 with e1;subst e1;subst e2
   obtain⟨A2,n2,cap2,sz2,g2,T2⟩:=H.row r' hr'
   have g':G.row r'=some (some ad',n',cap',sz'):=g'
   rw [g2] at g'
   injection g' with g';injection g' with x1 x2;injection x2 with x2 x3;injection x3 with x3 x4
   subst x1;subst x2;subst x3;subst x4
   obtain⟨ad3,e3,q1,_⟩:=T2 (n2*sz2) (Nat.le_refl _) l'
   injection e3 with e3;subst e3
   obtain⟨v3,hv3⟩:=Option.isSome_iff_exists.1 q1
   have:=World.block_lt_of_cell? w _ hv3
   rw [block_add] at this
   intro hh;simp at hh;omega)
  refine⟨_,_,_,hrun,l1.trans r1,r2,?_⟩
  have hrep:=rep_joined (I:=fun a'=>G.I a'∨(a'.block=w.heap.size∧a'.spot=none∧a'.off<(n+m)*sy)) (w:=w.drew.alloc (.cells (cs.toArray++ds.toArray++zr) e)) (cap:=ncap) (b:=w.heap.size) (o:=0) (cs:=cs) (ds:=ds) k6 d6 k7 d7 (by rw [k1,k5]) (by rw [d1,d5])
   (fun j u hj=>by
    rw [Nat.zero_add]
    refine⟨hcell1 j u hj,.inr ⟨rfl,rfl,?_⟩⟩
    rcases Nat.lt_or_ge j (cs++ds).length with h' | h'
    ·simp at h';simp;omega
    ·rw [List.getElem?_eq_none h'] at hj;cases hj)
   (fun j c u hj hu=>(k4 j c u hj hu).mono l1.imm) (fun j c u hj hu=>(d4 j c u hj hu).mono l1.imm) (by omega) hle'
  rw [← k5,← d5] at hrep
  exact .own (by simp) hrep
theorem sound_appendB{t e i zv x y x' y' sz bytes r q b0 off m cq} {es:List D}{ag:Bool}{cv:List AV}{dv:List D}(h:o.op=.call {callee:=.builtin .append,args:=#[x,y],argTypes:=#[t,t]}) (hx:CO x x') (hy:CO y y') (hu:P.underlying t=some (.slice e))
  (hi:P.info? e=some i) (hs:i.size=sz) (hb:i.bytes=bytes) (hz:i.zero=some zv) (hzs:zv.cells.size=sz) (hs0:0<sz) (hqr:q≠r) (hqb:q≠b0) (hdv:allD cv=some dv)
  (hc:0<m∧off+m*sz≤dv.length∧(es.length+m)*bytes≤140737488355328∧es.length+m≤9223372036854775807) (p:Prop) :
  OpLoc E P ro o [(x',.own r sz es),(y',.bsl b0 off sz m cq)] {c:=p,v:=.own q sz (es++elsD sz m (dv.drop off)),hin:=[(r,.row),(b0,.box ag cv)],up:=[(q,.row),(r,.dead)]}:=by
 intro G a w hp H hx' hn hf K Q hK
 obtain⟨c1,c2,c3,c4⟩:=hc
 have v1:=hx' (x',.own r sz es) (by simp) x hx
 obtain⟨bq,cq',hbq,hq1,hq2,hq3,_,vy⟩:=bslv (hx' (y',.bsl b0 off sz m cq) (by simp) y hy)
 have hq:hp q=none:=by
  rcases hf (q,.row) (by simp) with h' | ⟨z,hz',e'⟩
  ·exact h'
  ·simp at hz'
   rcases hz' with rfl | rfl
   ·exact absurd e'.symm hqr
   ·exact absurd e'.symm hqb
 have hr:hp r=some .row:=hn (r,.row) (by simp)
 have hnq:hp b0=some (.box ag cv):=hn (b0,.box ag cv) (by simp)
 obtain⟨arr,ty,vs,e1,e2,e3,e4,e5,e6,e7⟩:=box_cells H hnq hbq hdv (off+m*sz) c2
 have hdl:m*sz≤(dv.drop off).length:=by rw [List.length_drop];omega
 obtain⟨s1,s2,s3⟩:=elsD_spec (z:=sz) (len:=m) (ds:=dv.drop off) hdl (fun d hd=>e7 d (List.mem_of_mem_drop hd))
 generalize he:a.eval x=u at v1
 cases v1
 rename_i A n cap hg hrep
 obtain⟨A2,n2,cap2,sz2,g2,T⟩:=H.row r hr
 rw [hg] at g2
 injection g2 with g2;injection g2 with x1 x2;injection x2 with x2 x3;injection x3 with x3 x4
 subst x1;subst x2;subst x3;subst x4
 have H':=H.killRow hr
 have hq':(hp.upd [(r,.dead)]) q=none:=by rw [upd_one,if_neg hqr];exact hq
 obtain⟨val,w',G',f1,f2,f3,f4⟩:=append_coreB (E:=E) (P:=P) H' (ty:=o.type) (ay:=⟨bq,off,none⟩) (m:=m) (cy:=cq') (ys:=elsD sz m (dv.drop off)) (ds:=vs.drop off) hu hi hs hb hz hzs hs0 hrep T (by rw [List.length_drop,e3];omega) (fun u hu=>e6 u (List.mem_of_mem_drop hu))
  (fun j u hj=>by
   rw [List.getElem?_drop] at hj
   rw [add_mk]
   exact(e5 _ u hj).2)
  (fun j c u hc hu=>by
   rw [s3] at hc
   rw [List.getElem?_drop] at hu
   refine e4.2 (off+j) c u ?_ hu
   have hjm:j<m*sz:=by
    rcases Nat.lt_or_ge j (m*sz) with h' | h'
    ·exact h'
    ·rw [List.getElem?_eq_none (by simp;omega)] at hc;cases hc
   rw [List.getElem?_take_of_lt hjm,List.getElem?_drop] at hc
   rw [List.getElem?_take_of_lt (by omega)]
   exact hc)
  s1.symm s2 (by rw [s3];exact fun c hc=>e7 c (List.mem_of_mem_drop (List.mem_of_mem_take hc))) c1
  (fun hlt r' A' n' cap' sz'' hr' g' l' ad ad' f1 f2 hbb=>by
   rw [upd_one] at hr'
   split at hr'
   ·injection hr' with hr';cases hr'
   ·rename_i hne
    exact hne (H.rinj r r' _ _ _ _ _ _ _ _ hr hr' hg g' hlt l' ad ad' f1 f2 hbb).symm) (by rw [s1];exact c3) (by rw [s1];exact c4) hq'
 refine wpIn_value (by simp [h]) (run_append_opS h (by rw [he,vy];exact f1)) (hK val w' G' f2 ?_ f4)
 have:hp.upd [(q,.row),(r,.dead)]=(hp.upd [(r,.dead)]).upd [(q,.row)]:=by funext m;simp only [Hp.upd]
 rw [this];exact f3
end
end

section
def litV:SK→Value→Option Lit
 | .int k,.int k' n=>if k'=k∧(Lit.int k n).wf=true then some (.int k n) else none
 | .bool,.bool b=>some (.bool b)
 | .str,.string s=>if s.size≤maxLen then some (.string s.data.toList) else none
 | _,_=>none
def litsV:List SK→List Value→Option (List Lit)
 | [],[]=>some []
 | k::ks,v::vs=>match litV k v,litsV ks vs with
  | some l,some ls=>some (l::ls)
  | _,_=>none
 | _,_=>none
theorem litsV_append:∀ {ks1 ks2:List SK}{vs:List Value}{l:List Lit},litsV (ks1++ks2) vs=some l→∃ l1 l2,litsV ks1 (vs.take ks1.length)=some l1∧litsV ks2 (vs.drop ks1.length)=some l2∧l=l1++l2
 | [],ks2,vs,l,h=>⟨[],l,by simp [litsV],by simpa using h,rfl⟩
 | k::ks,ks2,[],l,h=>by simp [litsV] at h
 | k::ks,ks2,v::vs,l,h=>by
  simp only [List.cons_append,litsV] at h
  split at h
  ·rename_i a b h1 h2
   obtain⟨l1,l2,e1,e2,e3⟩:=litsV_append h2
   injection h with h
   exact⟨a::l1,l2,by simp [litsV,h1,e1],by simpa using e2,by simp [← h,e3]⟩
  ·cases h
theorem litsV_len:∀ {ks:List SK}{vs:List Value}{l:List Lit},litsV ks vs=some l→vs.length=ks.length
 | [],[],_,_=>rfl
 | [],_::_,_,h=>by simp [litsV] at h
 | _::_,[],_,h=>by simp [litsV] at h
 | k::ks,v::vs,l,h=>by
  simp only [litsV] at h
  split at h
  ·rename_i h2;simp [litsV_len h2]
  ·cases h
section
variable {P:Program}
theorem fields_lits{m:Nat}{cs:List Value}(IH:∀ t ks vs l,kindsOf P m t=some ks→litsV ks vs=some l→P.keyLits m t vs=some l) :
  ∀ {fs:List Field}{off:Nat}{ks:List SK}{l:List Lit},kindsF P (kindsOf P m) off fs=some ks→litsV ks (cs.drop off)=some l →
   ∃ as,fs.mapM (fun f=>P.keyLits m f.type ((cs.drop f.offset).take (P.cellsOf f.type)))=some as∧as.flatten=l
 | [],off,ks,l,h,hl=>by
  simp only [kindsF,Option.some.injEq] at h;subst h
  cases hd:cs.drop off with
  | nil=>rw [hd] at hl;simp [litsV] at hl;exact⟨[],by simp,by simp [hl]⟩
  | cons a b=>rw [hd] at hl;simp [litsV] at hl
 | f::r,off,ks,l,h,hl=>by
  simp only [kindsF] at h
  split at h
  ·rename_i k1 hk
   split at h
   ·rename_i hc
    obtain⟨rfl,hc2⟩:=hc
    simp only [Option.map_eq_some_iff] at h
    obtain⟨k2,h2,rfl⟩:=h
    obtain⟨l1,l2,e1,e2,rfl⟩:=litsV_append hl
    rw [List.drop_drop] at e2
    obtain⟨as,i1,i2⟩:=fields_lits IH h2 e2
    refine⟨l1::as,?_,by simp [i2]⟩
    rw [List.mapM_cons,hc2,IH _ _ _ _ hk e1,i1]
    rfl
   ·cases h
  ·cases h
theorem items_lits{m:Nat}{cs:List Value}{e:TypeId}{ks:List SK}(IH:∀ vs l,litsV ks vs=some l→P.keyLits m e vs=some l) (hc:P.cellsOf e=ks.length) :
  ∀ {n i0:Nat}{l:List Lit},litsV (List.replicate n ks).flatten (cs.drop (i0*ks.length))=some l →
   ∃ as,(List.range' i0 n).mapM (fun i=>P.keyLits m e ((cs.drop (i*P.cellsOf e)).take (P.cellsOf e)))=some as∧as.flatten=l
 | 0,i0,l,hl=>by
  cases hd:cs.drop (i0*ks.length) with
  | nil=>rw [hd] at hl;simp [litsV] at hl;exact⟨[],by simp,by simp [hl]⟩
  | cons a b=>rw [hd] at hl;simp [litsV] at hl
 | n+1,i0,l,hl=>by
  rw [List.replicate_succ,List.flatten_cons] at hl
  obtain⟨l1,l2,e1,e2,rfl⟩:=litsV_append hl
  rw [List.drop_drop,show i0*ks.length+ks.length=(i0+1)*ks.length by rw [Nat.succ_mul]] at e2
  obtain⟨as,i1,i2⟩:=items_lits IH hc e2
  refine⟨l1::as,?_,by simp [i2]⟩
  rw [List.range'_succ,List.mapM_cons]
  rw [hc] at i1 ⊢
  rw [IH _ _ e1,i1]
  rfl
theorem keyLits_kinds:∀ (m:Nat) (t:TypeId) (ks:List SK) (vs:List Value) (l:List Lit),kindsOf P m t=some ks→litsV ks vs=some l→P.keyLits m t vs=some l
 | 0,_,_,_,_,h,_=>by simp [kindsOf] at h
 | m+1,t,ks,vs,l,h,hl=>by
  have plain:∀ k,ks=[k]→∃ v a,vs=[v]∧l=[a]∧litV k v=some a:=fun k hk=>by
   subst hk
   match vs,hl with
   | [],hl=>simp [litsV] at hl
   | [v],hl =>
    simp only [litsV] at hl
    split at hl
    ·rename_i a b h1 h2;injection hl with hl;injection h2 with h2;subst h2;exact⟨v,a,rfl,hl.symm,h1⟩
    ·cases hl
   | v::u::r,hl =>
    simp only [litsV] at hl
    split at hl
    ·rename_i h2;simp at h2
    ·cases hl
  unfold kindsOf at h
  unfold Program.keyLits
  split at h
  ·rename_i hu
   injection h with h
   obtain⟨v,a,rfl,rfl,e⟩:=plain _ h.symm
   unfold litV at e
   split at e <;> simp_all
  ·rename_i hu
   injection h with h
   obtain⟨v,a,rfl,rfl,e⟩:=plain _ h.symm
   unfold litV at e
   split at e <;> simp_all
   obtain⟨⟨e1,e2⟩,e3⟩:=e
   subst e1;simp_all
  ·rename_i hu
   injection h with h
   obtain⟨v,a,rfl,rfl,e⟩:=plain _ h.symm
   unfold litV at e
   split at e <;> simp_all
  ·rename_i n e hu
   split at h
   ·rename_i k2 hk
    split at h
    ·rename_i hc
     injection h with h
     have hlen:=litsV_len hl
     rw [← h] at hl hlen
     obtain⟨as,i1,i2⟩:=items_lits (P:=P) (m:=m) (cs:=vs) (e:=e) (fun vs l hvl=>keyLits_kinds m e k2 vs l hk hvl) hc.1 (n:=n) (i0:=0) (by simpa using hl)
     simp only [hu]
     rw [if_pos (by rw [hlen,hc.2];simp),List.range_eq_range',i1]
     simp [i2]
    ·cases h
   ·cases h
  ·rename_i fs hu
   split at h
   ·rename_i k2 hk
    split at h
    ·rename_i hc
     injection h with h
     subst h
     have hlen:=litsV_len hl
     obtain⟨as,i1,i2⟩:=fields_lits (P:=P) (m:=m) (cs:=vs) (fun t ks vs l hkl hvl=>keyLits_kinds m t ks vs l hkl hvl) (fs:=fs.toList) (off:=0) hk (by simpa using hl)
     simp only [hu]
     rw [if_pos ⟨by rw [hlen,hc.1],hc.2⟩,i1]
     simp [i2]
    ·cases h
   ·cases h
  ·cases h
theorem eqC_lits{I:Addr→Prop}{w:World}:∀ {ks:List SK}{xs ys:List D}{us vs:List Value},eqC ks xs ys→us.length=xs.length→vs.length=ys.length →
  (∀ (k:Nat) (c:D) (v:Value),xs[k]?=some c→us[k]?=some v→Rep I w c v)→(∀ (k:Nat) (c:D) (v:Value),ys[k]?=some c→vs[k]?=some v→Rep I w c v) →
  ∃ la lb,litsV ks us=some la∧litsV ks vs=some lb∧(eqB xs ys=true↔la=lb)∧xs.length=ks.length∧ys.length=ks.length
 | [],[],[],us,vs,_,hu,hv,_,_=>by
  have e1:us=[]:=List.eq_nil_of_length_eq_zero (by simpa using hu)
  have e2:vs=[]:=List.eq_nil_of_length_eq_zero (by simpa using hv)
  subst e1;subst e2
  exact⟨[],[],rfl,rfl,by simp [eqB],rfl,rfl⟩
 | k::ks,x::xs,y::ys,us,vs,h,hu,hv,h1,h2=>by
  cases us with
  | nil=>simp at hu
  | cons u us =>
  cases vs with
  | nil=>simp at hv
  | cons v vs =>
   have hx:=h1 0 x u rfl rfl
   have hy:=h2 0 y v rfl rfl
   have ih:eqC ks xs ys→∃ la lb,litsV ks us=some la∧litsV ks vs=some lb∧(eqB xs ys=true↔la=lb)∧xs.length=ks.length∧ys.length=ks.length:=fun h' =>
    eqC_lits h' (by simpa using hu) (by simpa using hv) (fun k c z a b=>h1 (k+1) c z (by simpa using a) (by simpa using b)) (fun k c z a b=>h2 (k+1) c z (by simpa using a) (by simpa using b))
   unfold eqC at h
   split at h
   ·rename_i heq1 heq2 heq3
    injection heq1 with a1 a2;injection heq2 with b1 b2;injection heq3 with c1 c2
    subst a1;subst a2;subst b1;subst b2;subst c1;subst c2
    obtain⟨rfl,rfl,h⟩:=h
    obtain⟨la,lb,e1,e2,e3,e4,e5⟩:=ih h
    cases hx;cases hy
    rename_i s1 s2
    simp only [Sc] at s1 s2
    refine⟨_,_,by simp [litsV,litV,e1,Lit.wf,s1];rfl,by simp [litsV,litV,e2,Lit.wf,s2];rfl,by simp [eqB,e3],by simp [e4],by simp [e5]⟩
   ·rename_i heq1 heq2 heq3
    injection heq1 with a1 a2;injection heq2 with b1 b2;injection heq3 with c1 c2
    subst a1;subst a2;subst b1;subst b2;subst c1;subst c2
    obtain⟨la,lb,e1,e2,e3,e4,e5⟩:=ih h
    cases hx;cases hy
    refine⟨_,_,by simp [litsV,litV,e1];rfl,by simp [litsV,litV,e2];rfl,by simp [eqB,e3],by simp [e4],by simp [e5]⟩
   ·rename_i heq1 heq2 heq3
    injection heq1 with a1 a2;injection heq2 with b1 b2;injection heq3 with c1 c2
    subst a1;subst a2;subst b1;subst b2;subst c1;subst c2
    obtain⟨la,lb,e1,e2,e3,e4,e5⟩:=ih h
    cases hx;cases hy
    rename_i s t s1 s2
    simp only [Sc] at s1 s2
    refine⟨_,_,by simp [litsV,litV,e1,maxLen,s1];rfl,by simp [litsV,litV,e2,maxLen,s2];rfl,?_,by simp [e4],by simp [e5]⟩
    simp only [eqB,Bool.and_eq_true,decide_eq_true_eq,e3,List.cons.injEq,Lit.string.injEq]
    constructor
    ·rintro⟨rfl,h⟩;exact⟨rfl,h⟩
    ·rintro⟨h1,h⟩;exact⟨by cases s;cases t;simp at h1;simp [h1],h⟩
   ·rename_i heq1 _ _;cases heq1
   ·exact h.elim
 | [],_::_,_,us,vs,h,_,_,_,_=>by simp [eqC] at h
 | [],[],_::_,us,vs,h,_,_,_,_=>by simp [eqC] at h
 | k::ks,[],_,us,vs,h,_,_,_,_=>by cases k <;> simp [eqC] at h
 | k::ks,x::xs,[],us,vs,h,_,_,_,_=>by
  exfalso
  unfold eqC at h
  split at h
  ·rename_i e;cases e
  ·rename_i e;cases e
  ·rename_i e;cases e
  ·rename_i e _ _;cases e
  ·exact h
theorem toDs_all:∀ {cs:List AV}{ds:List D},toDs cs=some ds→ds.length=cs.length∧∀ (k:Nat) (d:D),ds[k]?=some d→∃ c:AV,cs[k]?=some c∧c.toD1=some d
 | [],ds,h=>by simp [toDs] at h;subst h;simp
 | c::cs,ds,h=>by
  simp only [toDs] at h
  split at h
  ·rename_i x l h1 h2
   injection h with h;subst h
   obtain⟨i1,i2⟩:=toDs_all h2
   refine⟨by simp [i1],fun k d hk=>?_⟩
   cases k with
   | zero=>simp at hk;subst hk;exact⟨c,rfl,h1⟩
   | succ k=>exact i2 k d (by simpa using hk)
  ·cases h
theorem rowD_rep{G:Gh}{w:World}{x:AV}{xs:List D}{v:Value}(h:x.rowD=some xs) (hr:RepA G w x v):∃ cs,v=.agg cs∧cs.size=xs.length∧∀ (k:Nat) (c:D) (u:Value),xs[k]?=some c→cs.toList[k]?=some u→Rep G.I w c u:=by
 unfold AV.rowD at h
 split at h
 ·injection h with h;subst h
  cases hr;rename_i hr
  cases hr;rename_i vs hl h1 hr
  exact⟨vs,rfl,hl,fun k c u hk hu=>hr k c u hk (by simpa using hu)⟩
 ·cases hr;rename_i cs vs hl h1 hr
  obtain⟨i1,i2⟩:=toDs_all h
  refine⟨vs,rfl,by rw [hl,i1],fun k c u hk hu=>?_⟩
  obtain⟨a,ha,hd⟩:=i2 k c hk
  exact toD1_rep hd (hr k a u ha (by simpa using hu))
 ·cases h
end
section
variable {E:Env}{P:Program}{ro:Option Nat}{o:Oper}
theorem sound_eqrow{neg t u x y x' y' ks} {xv yv:AV}{xs ys:List D}(h:o.op=.binOp (if neg then .neq else .eql) t x y u) (hx:CO x x') (hy:CO y y') (hk:kindsOf P 20 t=some ks) (hkey:P.keyTypeAt 20 t=true) (hg:P.eqGuardType P.depth t=false)
  (hcl:P.cellsOf t=ks.length) (hr:(match P.underlying t with | some (.array _ _) | some (.struct _)=>true | _=>false)=true) (h1:xv.rowD=some xs) (h2:yv.rowD=some ys) (hc:eqC ks xs ys) (p:Prop) :
  OpLoc E P ro o [(x',xv),(y',yv)] {c:=p,v:=.d (.lit (.bool (neg ^^ eqB xs ys)))} :=
 opLoc_pure (by simp [h]) fun G a w hp H hv=>by
  obtain⟨v1,v2⟩:=ev2 hv hx hy
  obtain⟨cs,e1,l1,r1⟩:=rowD_rep h1 v1
  obtain⟨ds,e2,l2,r2⟩:=rowD_rep h2 v2
  obtain⟨la,lb,q1,q2,q3,q4,q5⟩:=eqC_lits (us:=cs.toList) (vs:=ds.toList) hc (by simpa using l1) (by simpa using l2) r1 r2
  have fm:∀ zs:Array Value,zs.size=ks.length→(Value.agg zs).formed P t=true:=fun zs hz=>by
   unfold Value.formed
   split at hr <;> simp_all
  obtain⟨r,hrun,hiff⟩:=run_equalIn_deep (P:=P) 9980 20 t hkey w 20 20 (.agg cs) (.agg ds) la lb (fm _ (l1.trans q4)) (fm _ (l2.trans q5)) (keyLits_kinds 20 t ks _ la hk q1) (keyLits_kinds 20 t ks _ lb hk q2)
  have hre:r=eqB xs ys:=by
   cases r <;> cases hb:eqB xs ys <;> simp_all
  refine⟨.bool (neg ^^ eqB xs ys),?_,repBool _⟩
  have hrun':(Op.equalIn 10000 t (.agg cs) (.agg ds)).run P w=.ok (eqB xs ys) w:=by rw [← hre];exact hrun
  cases neg
  ·simp [execOp,h,e1,e2,run_eqGuard_agg w .eql t x y cs ds hg,run_eql_struct w t cs ds,hrun']
  ·simp [execOp,h,e1,e2,run_eqGuard_agg w .neq t x y cs ds hg,run_neq_struct w t cs ds,hrun']
theorem run_sliceAll{t e:TypeId}{i:TypeInfo}{n:Nat}{ad:Addr}{w:World}(hu:P.underlying t=some (.array n e)) (hi:P.info? e=some i) :
  (Instr.sliceAt t (.pointer (some ad)) none none none).run P w=.ok (.slice (some (if n=0 then ad else ad.add (0*i.size))) n n) w:=by
 simp [Instr.sliceAt,Instr.sureAddr,run_underlying hu,Instr.sliceBounds,sizeOf,typeInfo,hi]
theorem sound_sliceA_box{t e n x x' i sz b off} (h:o.op=.slice t x none none none) (hx:CO x x') (hu:P.underlying t=some (.array n e)) (hi:P.info? e=some i) (hs:i.size=sz) (hm:n≤9223372036854775807)
  {hin:List (Nat×HO)}(p:Prop):OpLoc E P ro o [(x',.ptr b off)] {c:=p,v:=.bsl b off sz n n,hin:=hin}:=by
 intro G a w hp H hv _ _ K Q hK
 have hr:=ev1 hv hx
 generalize he:a.eval x=u at hr
 cases hr
 rename_i bk hb
 refine wpIn_value (by simp [h]) (v:=.slice (some ⟨bk,off,none⟩) n n) (w':=w) ?_ (hK _ w G (GLe.refl G w) H (.bsl hb (Nat.le_refl _) (Nat.le_refl _) hm (.inl rfl)))
 have hrun:=run_sliceAll (P:=P) (w:=w) (ad:=⟨bk,off,none⟩) hu hi
 have:(if n=0 then (⟨bk,off,none⟩:Addr) else (⟨bk,off,none⟩:Addr).add (0*i.size))=⟨bk,off,none⟩:=by split <;> simp [Addr.add]
 rw [this] at hrun
 simp only [execOp,h,Sem.run_bind,he,Option.map_none,hrun,Result.andThen_ok,Sem.run_pure]
theorem flat_ones:∀ {cs:List D},(∀ c∈cs,c.one=true)→D.flat cs=cs
 | [],_=>rfl
 | c::cs,h=>by
  have h1:=h c (by simp)
  have ih:=flat_ones (cs:=cs) (fun x hx=>h x (by simp [hx]))
  simp only [D.flat] at ih
  simp only [D.flat,List.flatMap_cons,ih]
  cases c <;> simp [D.one] at h1 <;> rfl
theorem one_cells{c:D}(h:c.one=true):c.cells=[c]:=by cases c <;> simp [D.one] at h <;> rfl
theorem sound_sliceA_ip{t e n x x' i} {y:D}(h:o.op=.slice t x none none none) (hx:CO x x') (hu:P.underlying t=some (.array n e)) (hi:P.info? e=some i) (hs:i.size=1) (hm:n≤9223372036854775807)
  (hc:y.cells.length=n) (p:Prop):OpLoc E P ro o [(x',.d (.ip y))] {c:=p,v:=.d (.sl 1 y.cells)} :=
 opLoc_pure (by simp [h]) fun G ac w hp H hv=>by
  have hr:=(ev1 hv hx).of_d
  generalize he:ac.eval x=u at hr
  cases hr
  rename_i ad vs h1 hI hr
  have hrun:=run_sliceAll (P:=P) (w:=w) (ad:=ad) hu hi
  have hadd:(if n=0 then ad else ad.add (0*i.size))=ad:=by simp [Addr.add]
  rw [hadd] at hrun
  refine⟨.slice (some ad) n n,by simp only [execOp,h,Sem.run_bind,he,Option.map_none,hrun,Result.andThen_ok,Sem.run_pure],.d ?_⟩
  refine .sl ad vs hc.symm (Nat.le_refl _) hm ?_ (fun e he'=>by rw [one_cells (h1 e he')];rfl) (by rw [flat_ones h1];exact h1) (by rw [flat_ones h1];exact hI) (by rw [flat_ones h1];exact hr)
  exact .inl rfl
theorem bytesStr_run{I:Addr→Prop}{w:World}{s t e:TypeId}{sz:Nat}{es:List D}{u:Value}(hs:P.underlying s=some (.slice e)) (he:P.underlying e=some (.int .u8)) (ht:P.underlying t=some .string)
  (hr:Rep I w (.sl sz es) u) (hc:∀ e∈es,e.u8.isSome=true):(convert s t u).run P w=.ok (.string (bytesOf es)) w∧(bytesOf es).size≤9223372036854775807:=by
 obtain⟨n,A,cap,ad,vs,rfl,hn,hcap,hm,hA,hz,h1,hI,hrr⟩:=hr.sl_inv
 have hones:∀ c∈es,c.one=true:=fun c hc'=>by
  have:=hc c hc'
  unfold D.u8 at this
  split at this
  ·rfl
  ·cases this
 rw [flat_ones hones] at hI hrr
 refine⟨?_,by rw [bytesOf,strOfNums_size];simp;omega⟩
 cases A with
 | none =>
  have hes:es=[]:=by
   rcases hA with h' | h'
   ·cases h'
   ·exact h'
  rw [run_convert_bytes_nil w s e hs he n cap t ht,hes];rfl
 | some a =>
  have hl:(loadCells a n).run P w=.ok ((es.map D.num).map (Value.int .u8)).toArray w:=by
   have:=run_loadCells_list (P:=P) w a ((es.map D.num).map (Value.int .u8)) (fun j u hj=>by
    simp only [List.getElem?_map,Option.map_map,Option.map_eq_some_iff] at hj
    obtain⟨c,hcj,rfl⟩:=hj
    have hne:es≠[]:=by rintro rfl;simp at hcj
    have hA':=hA.resolve_right hne
    injection hA' with hA';subst hA'
    rw [(hI j c hcj).2]
    have hr1:=hrr j c hcj
    have hu:=hc c (List.mem_of_getElem? hcj)
    unfold D.u8 at hu
    split at hu
    ·generalize vs j=z at hr1 ⊢;cases hr1;rfl
    ·cases hu)
   simpa [hn] using this
  rw [run_convert_bytes_string w s t e _ n cap hs he ht,run_bytesToString w a n cap _ hl,foldl_push_bytes]
  simp [bytesOf,strOfNums,ByteArray.empty,ByteArray.emptyWithCapacity]
  rfl
theorem sound_bytesStr{s t e x x' sz} {v:AV}{es:List D}(h:o.op=.convert s t x) (hx:CO x x') (hs:P.underlying s=some (.slice e)) (he:P.underlying e=some (.int .u8)) (ht:P.underlying t=some .string)
  (hel:v.elems=some (sz,es)) (hc:(sz=1∨es=[])∧∀ e∈es,e.u8.isSome=true) (p:Prop):OpLoc E P ro o [(x',v)] {c:=p,v:=.d (.lit (.string (bytesOf es)))} :=
 opLoc_pure (by simp [h]) fun G ac w hp H hv=>by
  have hr:=elems_rep hel G w _ (ev1 hv hx)
  generalize hev:ac.eval x=u at hr
  obtain⟨hrun,hsz⟩:=bytesStr_run hs he ht hr hc.2
  refine⟨.string (bytesOf es),?_,.d (.lit hsz)⟩
  simp only [execOp,h,Sem.run_bind,hev,hrun,Result.andThen_ok,Sem.run_pure]
theorem sound_bytesStrB{s t e x x'} {n off z l c:Nat}{ag:Bool}{cs:List AV}{ds:List D}(h:o.op=.convert s t x) (hx:CO x x') (hs:P.underlying s=some (.slice e)) (he:P.underlying e=some (.int .u8)) (ht:P.underlying t=some .string)
  (had:allD cs=some ds) (hc:z=1∧off+l≤ds.length∧∀ e∈elsD 1 l (ds.drop off),e.u8.isSome=true) (p:Prop) :
  OpLoc E P ro o [(x',.bsl n off z l c)] {c:=p,v:=.d (.lit (.string (bytesOf (elsD 1 l (ds.drop off))))),hin:=[(n,.box ag cs)]}:=by
 intro G a w hp H hvs hin _ K Q hK
 obtain⟨rfl,hle,hu8⟩:=hc
 have hn:hp n=some (.box ag cs):=hin (n,.box ag cs) (by simp)
 obtain⟨b,c',hb,hlc,hcc,hcm,_,hval⟩:=bslv (ev1 hvs hx)
 obtain⟨arr,ty,vs,e1,e2,e3,e4,e5,e6,e7⟩:=box_cells H hn hb had ds.length (Nat.le_refl _)
 rw [List.take_length] at e4
 obtain⟨q1,q2,q3⟩:=elsD_spec (z:=1) (len:=l) (ds:=ds.drop off) (by simp;omega) (fun d hd=>e7 d (List.mem_of_mem_drop hd))
 have hrep:Rep (fun ad=>(w.cell? ad).isSome=true) w (.sl 1 (elsD 1 l (ds.drop off))) (.slice (some ⟨b,off,none⟩) l c'):=by
  have hget:∀ k d,(D.flat (elsD 1 l (ds.drop off)))[k]?=some d→ds[off+k]?=some d:=fun k d hk=>by
   rw [q3,List.getElem?_take] at hk
   split at hk
   ·rw [List.getElem?_drop] at hk;exact hk
   ·cases hk
  have hvk:∀ k d,ds[k]?=some d→∃ u,vs[k]?=some u∧Rep G.I w d u:=fun k d hk=>by
   have hlt:k<vs.length:=by rw [e3];exact(List.getElem?_eq_some_iff.1 hk).1
   exact⟨vs[k],List.getElem?_eq_getElem hlt,e4.2 k d vs[k] hk (List.getElem?_eq_getElem hlt)⟩
  refine .sl ⟨b,off,none⟩ (fun k=>(vs[off+k]?).getD undef) q1.symm (Nat.le_trans hlc hcc) hcm (.inl rfl) q2 (fun d hd=>?_) (fun k d hk=>?_) (fun k d hk=>?_)
  ·rw [q3] at hd
   exact e7 d (List.mem_of_mem_drop (List.mem_of_mem_take hd))
  ·obtain⟨u,hu,_⟩:=hvk _ d (hget k d hk)
   have hcu:=(e5 _ u hu).2
   rw [add_mk,hcu,hu]
   exact⟨rfl,rfl⟩
  ·obtain⟨u,hu,hr⟩:=hvk _ d (hget k d hk)
   rw [hu]
   exact hr.mono fun ad hi=>⟨H.icell ad hi,rfl⟩
 obtain⟨hrun,hsz⟩:=bytesStr_run hs he ht hrep hu8
 exact wpIn_value (by simp [h]) (v:=.string (bytesOf (elsD 1 l (ds.drop off)))) (by simp only [execOp,h,Sem.run_bind,hval,hrun,Result.andThen_ok,Sem.run_pure]) (hK _ w G (GLe.refl G w) H (.d (.lit hsz)))
theorem stepX_sound{k:Ext}{xs:List Opd}{hl:List (Nat×HO)}{vals:List AV}{e:Eff}(hcmp:CmpX P o k xs) (hl':vals.length=xs.length) (he:stepX hl k vals=some e) (hc:e.c) :
  OpLoc E P ro o (xs.zip vals) e:=by
 cases hcmp with
 | eqrow h hx hy hk hkey hg hcl hr =>
  simp only [stepX] at he
  split at he
  ·split at he <;> simp only [Option.some.injEq,reduceCtorEq] at he
   rename_i h1 h2
   subst he;exact sound_eqrow h hx hy hk hkey hg hcl hr h1 h2 hc _
  ·cases he
 | sliceA h hx hu hi hs hm =>
  simp only [stepX] at he
  split at he
  ·split at he <;> simp only [Option.some.injEq,reduceCtorEq] at he
   subst he;exact sound_sliceA_box h hx hu hi hs hm _
  ·simp only [Option.some.injEq] at he
   subst he;exact sound_sliceA_ip h hx hu hi (by rw [hs];exact hc.1) hm hc.2.1 _
  ·cases he
 | bytesStr h hx hs he' ht =>
  simp only [stepX] at he
  split at he
  ·split at he
   ·split at he <;> simp only [Option.some.injEq,reduceCtorEq] at he
    rename_i had
    subst he;exact sound_bytesStrB h hx hs he' ht had hc _
   ·cases he
  ·split at he <;> simp only [Option.some.injEq,reduceCtorEq] at he
   rename_i hel
   subst he;exact sound_bytesStr h hx hs he' ht hel hc _
  ·cases he
 | isNil h hx hu =>
  simp only [stepX] at he
  split at he <;> simp only [Option.some.injEq,reduceCtorEq] at he
  ·subst he;exact sound_isNil_n h hx hu _
  ·subst he;exact sound_isNil_i h hx hu _
 | strIdx h hx hy hu =>
  simp only [stepX] at he
  split at he <;> simp only [Option.some.injEq,reduceCtorEq] at he
  subst he;exact sound_strIdx h hx hy hu hc _
 | mksl0 h hu hi hp =>
  simp only [stepX] at he
  split at he <;> simp only [Option.some.injEq,reduceCtorEq] at he
  subst he;exact sound_mksl0 h hu hi hp _
 | appendW h hx hy hu hi hs hb hz hzs hs0 =>
  simp only [stepX] at he
  split at he
  ·split at he <;> simp only [Option.some.injEq,reduceCtorEq] at he
   rename_i hel
   subst he;exact sound_appendW h hx hy hu hi hs hb hz hzs hs0 hel hc _
  ·split at he
   ·rename_i hlk hlq
    split at he <;> simp only [Option.some.injEq,reduceCtorEq] at he
    rename_i hdv
    subst he
    obtain⟨⟨rfl,rfl⟩,hc⟩:=hc
    exact sound_appendB h hx hy hu hi hs hb hz hzs hs0 (newName_ne hlk) (newName_ne hlq) hdv hc _
   ·cases he
  ·cases he
 | copyB h hx hy hu hi hs =>
  simp only [stepX] at he
  split at he
  ·split at he <;> simp only [Option.some.injEq,reduceCtorEq] at he
   subst he;exact sound_copyB_b h hx hy hu hi hs hc _
  ·split at he <;> simp only [Option.some.injEq,reduceCtorEq] at he
   rename_i hel
   subst he;exact sound_copyB_d h hx hy hu hi hs hel hc _
  ·cases he
 | strBytes h hx hs ht he' =>
  simp only [stepX] at he
  split at he <;> simp only [Option.some.injEq,reduceCtorEq] at he
  subst he;exact sound_strBytes h hx hs ht he' _
 | appendS h hx hy hu hu2 hi hs hb hz hzs =>
  simp only [stepX] at he
  split at he
  ·split at he <;> simp only [Option.some.injEq,reduceCtorEq] at he
   rename_i r _ _ _ hlk
   subst he;exact sound_appendS_own h hx hy hu hu2 hi hs hb hz hzs (newName_ne hlk) hc _
  ·simp only [Option.some.injEq] at he
   subst he;exact sound_appendS_nil h hx hy hu hu2 hi hs hb hz hzs hc _
  ·cases he
 | idxB h hx hj hu hi hs =>
  simp only [stepX] at he
  split at he <;> simp only [Option.some.injEq,reduceCtorEq] at he
  subst he;exact sound_idxB h hx hj hu hi hs hc _
 | libClone h hx hl =>
  simp only [stepX] at he
  split at he
  ·split at he <;> simp only [Option.some.injEq,reduceCtorEq] at he
   ·rename_i hel
    subst he;exact sound_libClone_nil h hx hl hel _
   ·rename_i hel
    subst he;exact sound_libClone_cons h hx hl hel hc _
  ·cases he
 | libIns h hx hi hy hl =>
  simp only [stepX] at he
  split at he
  ·split at he
   ·split at he <;> simp only [Option.some.injEq,reduceCtorEq] at he
    rename_i hdv
    subst he
    obtain⟨c1,c2,c3,c4,c5⟩:=hc
    subst c2
    exact sound_libIns_e h hx hi hy hl hdv _ ⟨c1,c3,c4,c5⟩ _
   ·cases he
  ·split at he
   ·split at he <;> simp only [Option.some.injEq,reduceCtorEq] at he
    rename_i hds hdv
    subst he
    obtain⟨⟨c1,c2,c3,c4,c5,c6⟩,c7,c8⟩:=hc
    subst c3;subst c4;subst c5
    exact sound_libIns_b h hx hi hy hl hds hdv _ ⟨⟨c1,c2,c6⟩,c7,c8⟩ _
   ·cases he
  ·cases he
 | libDel h hx hi hj hl =>
  simp only [stepX] at he
  split at he
  ·split at he
   ·split at he <;> simp only [Option.some.injEq,reduceCtorEq] at he
    rename_i hds
    subst he
    obtain⟨c1,c2,c3⟩:=hc
    subst c2
    exact sound_libDel h hx hi hj hl hds _ _ ⟨c1,c3⟩ _
   ·cases he
  ·cases he
 | mkslW h hu hi hs hs0 hz hzs hl hps =>
  simp only [stepX] at he
  split at he <;> simp only [Option.some.injEq,reduceCtorEq] at he
  rename_i hes
  subst he;exact sound_mkslW h hu hi hs hs0 hz hzs hl hps hl' hes hc.1 hc.2 _
 | tassert1 h hx hu hd =>
  simp only [stepX] at he
  split at he <;> simp only [Option.some.injEq,reduceCtorEq] at he
  subst he;exact sound_tassert1 h hx hu hd hc _
 | lenM h hx hu =>
  simp only [stepX] at he
  split at he
  ·split at he
   ·rename_i h3
    simp only [Option.some.injEq] at he
    subst he;exact sound_lenM h hx hu hc _
   ·cases he
  ·cases he
 | lenB h hx hu =>
  simp only [stepX] at he
  split at he
  ·simp only [Option.some.injEq] at he
   subst he;exact sound_lenB h hx hu _
  ·split at he <;> simp only [Option.some.injEq,reduceCtorEq] at he
   rename_i hel
   subst he;exact sound_len h hx hu hel _
  ·cases he
 | idxV h hx hy hu hi hs hd hag =>
  simp only [stepX] at he
  split at he <;> simp only [Option.some.injEq,reduceCtorEq] at he
  ·subst he;exact sound_idxV h hx hy hu hi hs hd hag hc.1 hc.2.1 hc.2.2 _
  ·subst he;exact sound_idxVA h hx hy hu hi hs hd hag hc.1 hc.2.1 hc.2.2.1 hc.2.2.2 _
 | shift h hx hy =>
  simp only [stepX] at he
  split at he <;> simp only [Option.some.injEq,reduceCtorEq] at he
  subst he;exact sound_shift h hx hy hc _
 | uneg h hx =>
  simp only [stepX] at he
  split at he <;> simp only [Option.some.injEq,reduceCtorEq] at he
  subst he;exact sound_uneg h hx _
 | tassert h hx hu hd hi hz hzz =>
  simp only [stepX] at he
  split at he <;> simp only [Option.some.injEq,reduceCtorEq] at he
  ·subst he;exact sound_tassert_i h hx hu hd hi hz hzz _
  ·subst he;exact sound_tassert_n h hx hu hd hi hz hzz _
 | nilChk h hx =>
  simp only [stepX] at he
  split at he <;> simp only [Option.some.injEq,reduceCtorEq] at he
  ·subst he;exact sound_nilChk_p h hx _
  ·subst he;exact sound_nilChk_d h hx _
 | mkmap h =>
  simp only [stepX] at he
  split at he <;> simp only [Option.some.injEq,reduceCtorEq] at he
  subst he;exact sound_mkmap h _
 | insert h hm hk hv hu hkt =>
  simp only [stepX] at he
  split at he
  ·split at he
   ·split at he <;> simp only [Option.some.injEq,reduceCtorEq] at he
    rename_i hf
    subst he;exact sound_insert h hm hk hv hu hkt hf hc _
   ·cases he
  ·cases he
 | lookup h hm hk hu hkt hi hz hzz =>
  simp only [stepX] at he
  split at he
  ·split at he
   ·split at he <;> simp only [Option.some.injEq,reduceCtorEq] at he
    ·rename_i hf
     subst he;exact sound_lookup h hm hk hu hkt hi hz hzz hf hc _
    ·rename_i hf
     subst he;exact sound_lookup h hm hk hu hkt hi hz hzz hf hc _
   ·cases he
  ·simp only [Option.some.injEq] at he
   subst he;exact sound_lookup_nil h hm hk hu hkt hi hz hzz hc _
  ·cases he
 | capNil h hx hu =>
  simp only [stepX] at he
  split at he <;> simp only [Option.some.injEq,reduceCtorEq] at he
  subst he;exact sound_capNil h hx hu _
 | appendN h hx hy hu htn hi hs hb hz hzs hs0 =>
  simp only [stepX] at he
  split at he <;> simp only [Option.some.injEq,reduceCtorEq] at he
  subst he;exact sound_appendN h hx hy hu htn hi hs hb hz hzs hs0 hc _
 | makeslice h hl hcc hu hi hs hb hz hzz hzs hone hs0 =>
  simp only [stepX] at he
  split at he <;> simp only [Option.some.injEq,reduceCtorEq] at he
  subst he;exact sound_makeslice h hl hcc hu hi hs hb hz hzz hzs hone hs0 hc _
end
end

end Go.Proofs.YthimbimilnfdnaaGreatDoor.AL
