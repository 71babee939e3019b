/- Part of the proof: AL22, AL24, AL25, AL26, AL27, AL30. -/
import Derived.Laws.Strings2
import Derived.MapKept
import Derived.Lib.AppendZeros
import Derived.Laws.MakeOwn
import Derived.Lib.AppendStr
import Derived.Lib.ConvBytes
import Derived.Test.YtmmlicjkdeankaaGreatDoorA
set_option linter.unnecessarySimpa false
set_option linter.unusedVariables false
set_option linter.unusedSimpArgs false
namespace Go.Proofs.YtmmlicjkdeankaaGreatDoor.AL
open Go
section
section
variable {P:Program}{w:World}
theorem run_eqIn_bool(d:Nat){t:TypeId}(hu:P.underlying t=some .bool) (a b:Bool):(Op.equalIn (d+1) t (.bool a) (.bool b)).run P w=.ok (a == b) w:=by
 simp [Op.equalIn,run_underlying hu]
theorem run_eqIn_nn(d:Nat){t:TypeId}{ms:Array (String×TypeId)}(hu:P.underlying t=some (.interface ms)):(Op.equalIn (d+1) t .nilIface .nilIface).run P w=.ok true w:=by
 simp [Op.equalIn,run_underlying hu]
theorem run_eqIn_in(d:Nat){t ty:TypeId}{v:Value}{ms:Array (String×TypeId)}(hu:P.underlying t=some (.interface ms)):(Op.equalIn (d+1) t (.iface ty v) .nilIface).run P w=.ok false w:=by
 simp [Op.equalIn,run_underlying hu]
theorem run_eq_bool(neg:Bool){t:TypeId}(hu:P.underlying t=some .bool) (a b:Bool):(binOp (if neg then .neq else .eql) t (.bool a) (.bool b)).run P w=.ok (.bool (neg ^^ (a == b))) w:=by
 have h:=run_eqIn_bool (P:=P) (w:=w) 9999 hu a b
 cases neg <;> simp only [binOp,Bool.false_eq_true,if_false,if_true] <;> simp [Op.equal,Op.maxDepth,h]
theorem run_eq_nn(neg:Bool){t:TypeId}{ms:Array (String×TypeId)}(hu:P.underlying t=some (.interface ms)):(binOp (if neg then .neq else .eql) t .nilIface .nilIface).run P w=.ok (.bool !neg) w:=by
 have h:=run_eqIn_nn (P:=P) (w:=w) 9999 hu
 cases neg <;> simp only [binOp,Bool.false_eq_true,if_false,if_true] <;> simp [Op.equal,Op.maxDepth,h]
theorem run_eq_in(neg:Bool){t ty:TypeId}{v:Value}{ms:Array (String×TypeId)}(hu:P.underlying t=some (.interface ms)):(binOp (if neg then .neq else .eql) t (.iface ty v) .nilIface).run P w=.ok (.bool neg) w:=by
 have h:=run_eqIn_in (P:=P) (w:=w) (ty:=ty) (v:=v) 9999 hu
 cases neg <;> simp only [binOp,Bool.false_eq_true,if_false,if_true] <;> simp [Op.equal,Op.maxDepth,h]
theorem eqGuard_bool(op:BinOp) (t:TypeId) (x y:Operand) (a b:Bool):(eqGuard op t x y (.bool a) (.bool b)).run P w=.ok () w:=by
 unfold eqGuard;cases op <;> simp
theorem eqGuard_nn(op:BinOp) (t:TypeId) (x:Operand):(eqGuard op t x (.const .nilIface) .nilIface .nilIface).run P w=.ok () w:=by
 unfold eqGuard;cases op <;> simp
theorem eqGuard_in(op:BinOp) (t ty:TypeId) (v:Value) (x y:Operand):(eqGuard op t x y (.iface ty v) .nilIface).run P w=.ok () w:=by
 unfold eqGuard;cases op <;> simp
end
section
variable {E:Env}{P:Program}{ro:Option Nat}{o:Oper}
theorem sound_eqBool{neg t u x y x' y'} {a b:Bool}(h:o.op=.binOp (if neg then .neq else .eql) t x y u) (hx:CO x x') (hy:CO y y') (hu:P.underlying t=some .bool) (p:Prop) :
  OpLoc E P ro o [(x',.d (.lit (.bool a))),(y',.d (.lit (.bool b)))] {c:=p,v:=.d (.lit (.bool (neg ^^ (a == b))))} :=
 opLoc_pure (by simp [h]) fun G ac w hp H hv=>by
  obtain⟨v1,v2⟩:=ev2 hv hx hy
  obtain⟨e1,_⟩:=v1.lit
  obtain⟨e2,_⟩:=v2.lit
  refine⟨.bool (neg ^^ (a == b)),?_,repBool _⟩
  simp only [execOp,h,e1,e2,Sem.run_bind,eqGuard_bool,Result.andThen_ok,run_eq_bool neg hu,Sem.run_pure]
theorem sound_isNil_n{neg t u x x' ms} (h:o.op=.binOp (if neg then .neq else .eql) t x (.const .nilIface) u) (hx:CO x x') (hu:P.underlying t=some (.interface ms)) (p:Prop) :
  OpLoc E P ro o [(x',.d (.lit .nilIface))] {c:=p,v:=.d (.lit (.bool !neg))} :=
 opLoc_pure (by simp [h]) fun G ac w hp H hv=>by
  obtain⟨e1,_⟩:=(ev1 hv hx).lit
  refine⟨.bool !neg,?_,repBool _⟩
  have e2:ac.eval (.const .nilIface)=.nilIface:=rfl
  simp only [execOp,h,e1,e2,Sem.run_bind,eqGuard_nn,Result.andThen_ok,run_eq_nn neg hu,Sem.run_pure]
theorem sound_isNil_i{neg t u x x' ms ty} {d:D}(h:o.op=.binOp (if neg then .neq else .eql) t x (.const .nilIface) u) (hx:CO x x') (hu:P.underlying t=some (.interface ms)) (p:Prop) :
  OpLoc E P ro o [(x',.d (.ifc ty d))] {c:=p,v:=.d (.lit (.bool neg))} :=
 opLoc_pure (by simp [h]) fun G ac w hp H hv=>by
  have hr:=(ev1 hv hx).of_d
  generalize he:ac.eval x=z at hr
  cases hr
  refine⟨.bool neg,?_,repBool _⟩
  have e2:ac.eval (.const .nilIface)=.nilIface:=rfl
  simp only [execOp,h,he,e2,Sem.run_bind,eqGuard_in,Result.andThen_ok,run_eq_in neg hu,Sem.run_pure]
theorem u8_range(b:UInt8):Sc (.int .u8 b.toNat):=by
 have:=b.toNat_lt
 simp [Sc,IntKind.min,IntKind.max,IntKind.bits,IntKind.signed];omega
theorem get_data(s:ByteArray) (i:Nat):s[i]?=s.data.toList[i]?:=by
 rw [Array.getElem?_toList]
 by_cases h:i<s.size
 ·rw [getElem?_pos s i h,Array.getElem?_eq_getElem (by exact h)];rfl
 ·rw [getElem?_neg s i h,Array.getElem?_eq_none (by exact Nat.le_of_not_lt h)]
theorem sound_strIdx{t x y x' y'} {s:ByteArray}{k:IntKind}{i:Int}(h:o.op=.index t x y) (hx:CO x x') (hy:CO y y') (hu:P.underlying t=some .string) (hc:0<=i∧i<s.data.toList.length) (p:Prop) :
  OpLoc E P ro o [(x',.d (.lit (.string s))),(y',.d (.lit (.int k i)))] {c:=p,v:=.d (.lit (.int .u8 (s.data.toList.getD i.toNat 0).toNat))} :=
 opLoc_pure (by simp [h]) fun G ac w hp H hv=>by
  obtain⟨v1,v2⟩:=ev2 hv hx hy
  obtain⟨e1,_⟩:=v1.lit
  obtain⟨e2,_⟩:=v2.lit
  refine⟨_,?_,.d (.lit (u8_range _))⟩
  have hlt:i.toNat<s.data.toList.length:=by omega
  have hg:s[i.toNat]?=some (s.data.toList.getD i.toNat 0):=by
   rw [get_data,List.getElem?_eq_getElem hlt];simp [List.getD,List.getElem?_eq_getElem hlt]
  simp only [execOp,h,e1,e2,Instr.index,asIntOf,Sem.run_bind,Sem.run_pure,Result.andThen_ok,run_underlying hu,hc.1,if_true,hg]
theorem sound_idxV{t e n i d sz ag x y x' y'} {cs:List D}{k:IntKind}{j:Int}(h:o.op=.index t x y) (hx:CO x x') (hy:CO y y') (hu:P.underlying t=some (.array n e)) (hi:P.info? e=some i) (hs:i.size=sz)
  (hd:P.underlying e=some d) (hag:d.isRow=ag) (hc0:0<=j∧j<n) (hc1:j.toNat*sz+sz<=cs.length) (hc2:ag=false->sz=1) (p:Prop) :
  OpLoc E P ro o [(x',.d (.agg cs)),(y',.d (.lit (.int k j)))] {c:=p,v:=.d (subD (j.toNat*sz) sz ag (.agg cs))} :=
 opLoc_pure (by simp [h]) fun G ac w hp H hv=>by
  obtain⟨v1,v2⟩:=ev2 hv hx hy
  have hr:=v1.of_d
  obtain⟨e2,_⟩:=v2.lit
  generalize he:ac.eval x=u at hr
  cases hr
  rename_i vs hl h1 hr
  have hp:=run_part (P:=P) (w:=w) (cs:=vs) (off:=j.toNat*sz) hi hd (by rw [hs,hl];exact hc1) (fun hf=>by rw [hs];exact hc2 (by rw [<- hag,hf]))
  refine⟨if d.isRow then .agg (vs.extract (j.toNat*sz) (j.toNat*sz+i.size)) else vs.getD (j.toNat*sz) undef,by
   subst hs
   simp [execOp,h,he,e2,Instr.index,asIntOf,run_underlying hu,hc0.1,hc0.2,sizeOf,typeInfo,hi,hp],.d ?_⟩
  cases hag':ag with
  | true =>
   rw [hag'] at hag
   simp only [hag,if_true,subD,D.cells]
   refine .agg (by simp [hl,hs];omega) (fun c hc=>h1 c (List.mem_of_mem_drop (List.mem_of_mem_take hc))) (fun k c u hk hu=>?_)
   rw [List.getElem?_take] at hk
   split at hk
   ·rw [List.getElem?_drop] at hk
    rw [Array.getElem?_extract] at hu
    split at hu
    ·exact hr _ c u hk hu
    ·cases hu
   ·cases hk
  | false =>
   rw [hag'] at hag
   have:=hc2 hag'
   subst this
   have ho:j.toNat*1<cs.length:=by omega
   have ho':j.toNat*1<vs.size:=by omega
   simp only [hag,Bool.false_eq_true,if_false,subD,D.cells]
   exact hr (j.toNat*1) _ _ (by simp only [List.getD,List.getElem?_eq_getElem ho];rfl) (by simp [Array.getD,show j.toNat<vs.size by omega])
theorem sound_idxVA{t e n i d sz ag x y x' y'} {cs:List AV}{k:IntKind}{j:Int}(h:o.op=.index t x y) (hx:CO x x') (hy:CO y y') (hu:P.underlying t=some (.array n e)) (hi:P.info? e=some i) (hs:i.size=sz)
  (hd:P.underlying e=some d) (hag:d.isRow=ag) (hc0:0<=j∧j<n) (hc1:j.toNat<cs.length) (hc2:sz=1) (hc3:ag=false) (p:Prop) :
  OpLoc E P ro o [(x',.agg cs),(y',.d (.lit (.int k j)))] {c:=p,v:=cs.getD j.toNat default} :=
 opLoc_pure (by simp [h]) fun G ac w hp H hv=>by
  obtain⟨v1,v2⟩:=ev2 hv hx hy
  obtain⟨e2,_⟩:=v2.lit
  generalize he:ac.eval x=u at v1
  cases v1
  rename_i vs hl h1 hr
  subst hc2;subst hc3
  have hp:=run_part (P:=P) (w:=w) (cs:=vs) (off:=j.toNat) hi hd (by rw [hs,hl];omega) (fun _=>by rw [hs])
  refine⟨if d.isRow then .agg (vs.extract j.toNat (j.toNat+i.size)) else vs.getD j.toNat undef,by
   simp [execOp,h,he,e2,Instr.index,asIntOf,run_underlying hu,hc0.1,hc0.2,sizeOf,typeInfo,hi,hp,hs],?_⟩
  simp only [hag,Bool.false_eq_true,if_false]
  have ho':j.toNat<vs.size:=by omega
  exact hr j.toNat _ _ (by simp only [List.getD,List.getElem?_eq_getElem hc1];rfl) (by simp [Array.getD,ho'])
theorem sound_tassert1{x x' st at_} {ty:TypeId}{d:D}{desc:TypeDesc}(h:o.op=.typeAssert x st at_ false) (hx:CO x x') (hu:P.underlying at_=some desc) (hd:∀ ms,desc≠.interface ms) (ht:ty=at_) (p:Prop) :
  OpLoc E P ro o [(x',.d (.ifc ty d))] {c:=p,v:=.d d} :=
 opLoc_pure (by simp [h]) fun G ac w hp H hv=>by
  have hr:=(ev1 hv hx).of_d
  generalize he:ac.eval x=u at hr
  cases hr
  rename_i v hr
  refine⟨v,?_,.d hr⟩
  have hrun:(Instr.typeAssert (.iface ty v) st at_ false).run P w=.ok v w:=by
   unfold Instr.typeAssert
   simp only [Sem.run_bind,run_underlying hu,Result.andThen_ok]
   cases desc <;> first
    | (exact absurd rfl (hd _))
    | (simp [ht])
  simp only [execOp,h,Sem.run_bind,he,hrun,Result.andThen_ok,Sem.run_pure]
theorem extract_data(s:ByteArray) (l h:Nat):s.extract l h=⟨((s.data.toList.take h).drop l).toArray⟩:=by
 have:s=⟨s.data.toList.toArray⟩:=by cases s;simp
 rw [this,ByteArray.extract_mk,List.drop_take]
theorem extract_whole(s:ByteArray):s.extract 0 s.size=s:=by
 rw [extract_data,List.take_of_length_le (by simp)];cases s;simp
theorem sound_sliceS{t x lo hi x' lo' hi'} {s:ByteArray}{vs vs':List AV}{l hh:Int}(h:o.op=.slice t x lo hi none) (hx:CO x x') (hlo:COopt lo lo') (hhi:COopt hi hi') (hu:P.underlying t=some .string)
  (hb1:bound lo' vs 0=some (l,vs')) (hb2:bound hi' vs' s.data.toList.length=some (hh,[])) (hc:0<=l∧l<=hh∧hh<=s.data.toList.length) (p:Prop) :
  OpLoc E P ro o ((x'::(optL lo'++optL hi')).zip (.d (.lit (.string s))::vs)) {c:=p,v:=.d (.lit (.string ⟨((s.data.toList.take hh.toNat).drop l.toNat).toArray⟩))} :=
 opLoc_pure (by simp [h]) fun G ac w hp H hv=>by
  obtain⟨c1,c2,c3⟩:=hc
  obtain⟨e1,s1⟩:=((hv (x',.d (.lit (.string s))) (by simp) x hx)).lit
  have hsz:s.size=s.data.toList.length:=by simp
  obtain⟨g1,g2⟩:=bound_ev hlo hb1 (fun p hp=>hv p (by simp;exact .inr hp)) (rest:=optL hi')
  obtain⟨g3,_⟩:=bound_ev hhi hb2 (rest:=[]) (by simpa using g2)
  obtain⟨l,rfl⟩:=Int.eq_ofNat_of_zero_le c1
  obtain⟨hh,rfl⟩:=Int.eq_ofNat_of_zero_le (Int.le_trans c1 c2)
  have hrun:(Instr.sliceAt t (.string s) (lo.map ac.eval) (hi.map ac.eval) none).run P w=.ok (.string (s.extract l hh)) w:=by
   have c2':(l:Int)<=hh:=c2
   have c3':(hh:Int)<=s.size:=by rw [hsz];exact c3
   rcases g1 with ⟨q1,q2⟩ | ⟨k,q1⟩ <;> rcases g3 with ⟨q3,q4⟩ | ⟨k',q3⟩ <;> rw [q1,q3] <;>
    simp [Instr.sliceAt,run_underlying hu,Instr.slice,Instr.sliceBounds,Instr.sliceBound,asIntOf]
   ·have e1:l=0:=by simpa using q2
    have e2:hh=s.size:=by have:(hh:Int)=_:=q4;omega
    rw [e1,e2];exact(extract_whole s).symm
   ·have e1:l=0:=by simpa using q2
    have:hh<=s.size:=by omega
    simp [e1,this]
   ·have e2:hh=s.size:=by have:(hh:Int)=_:=q4;omega
    subst e2
    have:l<=s.size:=by omega
    simp [this]
   ·have:l<=hh:=by omega
    have h2:hh<=s.size:=by omega
    simp [this,h2]
  refine⟨.string (s.extract l hh),by simp only [execOp,h,Sem.run_bind,e1,Option.map_none,hrun,Result.andThen_ok,Sem.run_pure],?_⟩
  rw [extract_data]
  refine .d (.lit ?_)
  simp only [Sc] at s1 ⊢
  show ((s.data.toList.take (hh:Int).toNat).drop (l:Int).toNat).toArray.size<=_
  simp only [List.size_toArray,List.length_drop,List.length_take,Int.toNat_natCast];omega
theorem fdiv_range{k:IntKind}{a:Int}(n:Nat) (ha:k.min<=a∧a<=k.max):k.min<=a.fdiv (2 ^ n)∧a.fdiv (2 ^ n)<=k.max:=by
 have hp:(0:Int)<2 ^ n:=Int.pow_pos (by decide)
 have hm:k.min<=0:=by cases k <;> simp [IntKind.min,IntKind.bits,IntKind.signed]
 have hM:0<=k.max:=by cases k <;> simp [IntKind.max,IntKind.bits,IntKind.signed]
 rw [Int.fdiv_eq_ediv_of_nonneg _ (Int.le_of_lt hp)]
 rcases Int.le_total 0 a with h | h
 ·have h1:=Int.ediv_nonneg h (Int.le_of_lt hp)
  have h2:=Int.ediv_le_self (2 ^ n) h
  omega
 ·have h1:a / 2 ^ n<=0:=by
   have:=Int.ediv_le_ediv hp h
   simpa using this
  have h2:a<=a / 2 ^ n:=by
   rw [Int.le_ediv_iff_mul_le hp]
   have h3:=Int.mul_le_mul_of_nonneg_left (a:=1) (b:=2 ^ n) (c:=-a) (by omega) (by omega)
   rw [Int.neg_mul,Int.neg_mul] at h3
   omega
  omega
theorem sound_shift{left:Bool}{t u x y x' y'} {k k':IntKind}{a b:Int}(h:o.op=.binOp (if left then .shl else .shr) t x y u) (hx:CO x x') (hy:CO y y') (hc:0<=b) (p:Prop) :
  OpLoc E P ro o [(x',.d (.lit (.int k a))),(y',.d (.lit (.int k' b)))] {c:=p,v:=.d (.lit (shiftV left k a b))} :=
 opLoc_pure (by simp [h]) fun G ac w hp H hv=>by
  obtain⟨v1,v2⟩:=ev2 hv hx hy
  obtain⟨e1,s1⟩:=v1.lit
  obtain⟨e2,s2⟩:=v2.lit
  have hn:¬ b<0:=by omega
  refine⟨shiftV left k a b,?_,.d (.lit ?_)⟩
  ·cases left <;> simp [execOp,h,e1,e2,eqGuard_int,binOp,Op.shift,hn,shiftV]
  ·cases left
   ·simp only [shiftV,Sc,Bool.false_eq_true,if_false];exact fdiv_range _ s1
   ·simp only [shiftV,Sc,if_true];exact wrap_range _ _
theorem sound_uneg{t x x'} {k:IntKind}{a:Int}(h:o.op=.unOp .neg t x) (hx:CO x x') (p:Prop):OpLoc E P ro o [(x',.d (.lit (.int k a)))] {c:=p,v:=.d (.lit (.int k (k.wrap (0-a))))} :=
 opLoc_pure (by simp [h]) fun G ac w hp H hv=>by
  obtain⟨e1,s1⟩:=(ev1 hv hx).lit
  exact⟨.int k (k.wrap (0-a)),by simp [execOp,h,e1,Op.unary,Op.intArith],.d (.lit (wrap_range _ _))⟩
theorem sound_tassert_i{x x' st at_ i zv} {z:D}{ty:TypeId}{d:D}{desc:TypeDesc}(h:o.op=.typeAssert x st at_ true) (hx:CO x x') (hu:P.underlying at_=some desc) (hd:∀ ms,desc≠.interface ms) (hi:P.info? at_=some i) (hz:i.zero=some zv) (hzz:∀ I w,Rep I w z zv) (p:Prop) :
  OpLoc E P ro o [(x',.d (.ifc ty d))] {c:=p,v:=.d (.tup [if ty=at_ then d else z,.lit (.bool (decide (ty=at_)))])} :=
 opLoc_pure (by simp [h]) fun G ac w hp H hv=>by
  have hr:=(ev1 hv hx).of_d
  generalize he:ac.eval x=u at hr
  cases hr
  rename_i v hr
  refine⟨.tuple #[if ty=at_ then v else zv,.bool (decide (ty=at_))],?_,.d (.tup rfl (fun k c u hk hu=>?_))⟩
  ·have hrun:(Instr.typeAssert (.iface ty v) st at_ true).run P w=.ok (.tuple #[if ty=at_ then v else zv,.bool (decide (ty=at_))]) w:=by
    unfold Instr.typeAssert
    simp only [Sem.run_bind,run_underlying hu,Result.andThen_ok]
    cases desc <;> first
     | (exact absurd rfl (hd _))
     | (by_cases ht:ty=at_ <;> simp [ht,zeroValue,typeInfo,hi,hz])
   simp only [execOp,h,Sem.run_bind,he,hrun,Result.andThen_ok,Sem.run_pure]
  ·match k with
   | 0 =>
    simp at hk hu;subst hk;subst hu
    split
    ·exact hr
    ·exact hzz _ _
   | 1=>simp at hk hu;subst hk;subst hu;exact .lit trivial
   | k+2=>simp at hk
theorem sound_tassert_n{x x' st at_ i zv} {z:D}{desc:TypeDesc}(h:o.op=.typeAssert x st at_ true) (hx:CO x x') (hu:P.underlying at_=some desc) (hd:∀ ms,desc≠.interface ms) (hi:P.info? at_=some i) (hz:i.zero=some zv) (hzz:∀ I w,Rep I w z zv) (p:Prop) :
  OpLoc E P ro o [(x',.d (.lit .nilIface))] {c:=p,v:=.d (.tup [z,.lit (.bool false)])} :=
 opLoc_pure (by simp [h]) fun G ac w hp H hv=>by
  obtain⟨e1,_⟩:=(ev1 hv hx).lit
  refine⟨.tuple #[zv,.bool false],?_,.d (.tup rfl (fun k c u hk hu=>?_))⟩
  ·have hrun:(Instr.typeAssert .nilIface st at_ true).run P w=.ok (.tuple #[zv,.bool false]) w:=by
    unfold Instr.typeAssert
    simp only [Sem.run_bind,run_underlying hu,Result.andThen_ok]
    cases desc <;> first
     | (exact absurd rfl (hd _))
     | (simp [zeroValue,typeInfo,hi,hz])
   simp only [execOp,h,Sem.run_bind,e1,hrun,Result.andThen_ok,Sem.run_pure]
  ·match k with
   | 0=>simp at hk hu;subst hk;subst hu;exact hzz _ _
   | 1=>simp at hk hu;subst hk;subst hu;exact .lit trivial
   | k+2=>simp at hk
theorem sound_nilChk_p{x x'} {n off:Nat}(h:o.op=.nilCheck x) (hx:CO x x') (p:Prop):OpLoc E P ro o [(x',.ptr n off)] {c:=p,v:=.ptr n off} :=
 opLoc_pure (by simp [h]) fun G ac w hp H hv=>by
  have hr:=ev1 hv hx
  generalize he:ac.eval x=u at hr
  cases hr
  rename_i b hb
  exact⟨.pointer (some ⟨b,off,none⟩),by simp [execOp,h,he],.ptr hb⟩
theorem sound_nilChk_d{x x'} {d:D}(h:o.op=.nilCheck x) (hx:CO x x') (p:Prop):OpLoc E P ro o [(x',.d (.ip d))] {c:=p,v:=.d (.ip d)} :=
 opLoc_pure (by simp [h]) fun G ac w hp H hv=>by
  have hr:=(ev1 hv hx).of_d
  generalize he:ac.eval x=u at hr
  have hr':=hr
  cases hr
  rename_i ad vs _ _ _
  exact⟨.pointer (some ad),by simp [execOp,h,he],.d hr'⟩
theorem sameNow_eq{sk:SK}{k k':Value}{b:Bool}(hk:kIs sk k=true) (h:kSame k k'=some b):Instr.sameNow (SK.desc sk) k k'=some b:=by
 cases sk <;> cases k <;> simp [kIs] at hk <;> cases k' <;> simp only [kSame,reduceCtorEq] at h <;> simpa [Instr.sameNow,SK.desc] using h
theorem findNow_eq{sk:SK}{k:Value}{G:Gh}{w:World}(hk:kIs sk k=true):∀ {es:List (Value×AV)}{l:List MapEntry}{i:Nat}{r:Option AV},kFind k es=some r->l.length=es.length->(∀ (j:Nat) (e:Value×AV) (x:MapEntry),es[j]?=some e->l[j]?=some x->x.key=e.1∧RepA G w e.2 x.val) ->
  match r with
  | none=>Instr.findNow (SK.desc sk) k l i=some none
  | some v=>∃ j val,Instr.findNow (SK.desc sk) k l i=some (some (j,val))∧RepA G w v val
 | [],[],i,r,h,_,_=>by simp only [kFind,Option.some.injEq] at h;subst h;rfl
 | [],_::_,i,r,h,hl,_=>by simp at hl
 | _::_,[],i,r,h,hl,_=>by simp at hl
 | e::es,x::l,i,r,h,hl,he=>by
  obtain⟨e1,e2⟩:=he 0 e x rfl rfl
  simp only [kFind] at h
  split at h
  ·rename_i hs
   simp only [Option.some.injEq] at h;subst h
   refine⟨i,x.val,?_,e2⟩
   unfold Instr.findNow
   rw [e1,sameNow_eq hk hs]
  ·rename_i hs
   have ih:=findNow_eq (i:=i+1) hk h (by simpa using hl) (fun j e x h1 h2=>he (j+1) e x (by simpa using h1) (by simpa using h2))
   have hstep:Instr.findNow (SK.desc sk) k (x::l) i=Instr.findNow (SK.desc sk) k l (i+1):=by
    conv=>lhs;unfold Instr.findNow
    rw [e1,sameNow_eq hk hs]
   rw [hstep];exact ih
  ·cases h
theorem run_checkKey{P:Program}{w:World}{sk:SK}{k:Value}{t:TypeId}(b:Bool) (hk:kIs sk k=true) (hu:P.underlying t=some (SK.desc sk)):(Instr.checkKey b 10000 t k).run P w=.ok () w:=by
 unfold Instr.checkKey
 cases sk <;> cases k <;> simp [kIs] at hk <;> simp [run_underlying hu,SK.desc]
theorem run_findKey{P:Program}{w:World}{sk:SK}{k:Value}{t:TypeId}{l:List MapEntry}{r:Option (Nat×Value)}(hu:P.underlying t=some (SK.desc sk)) (h:Instr.findNow (SK.desc sk) k l 0=some r):(Instr.findKey t k l).run P w=.ok r w:=by
 unfold Instr.findKey
 simp [run_underlying hu,h]
theorem kFind_mkd{k:Value}{es:List (Value×AV)}{r:Option AV}(h:kFind k es=some r):mkd es=false:=by
 cases es with
 | nil=>rfl
 | cons e es =>
  obtain⟨v,x⟩:=e
  cases v <;> first | rfl | (cases k <;> simp [kFind,kSame] at h)
theorem ba_self(a:ByteArray):(a == a)=true:=by cases a;exact beq_self_eq_true (α:=Array UInt8) _
theorem kFind_ne{k:Value}:∀ {es:List (Value×AV)},kFind k es=some none->∀ e∈es,e.1≠k
 | [],_,e,he=>by cases he
 | x::es,h,e,he=>by
  simp only [kFind] at h
  split at h
  ·simp at h
  ·rename_i hs
   rcases List.mem_cons.1 he with rfl | he
   ·intro hk;rw [hk] at hs
    cases k with
    | string a=>simp only [kSame,Option.some.injEq,ba_self] at hs;cases hs
    | _=>simp [kSame] at hs
   ·exact kFind_ne h e he
  ·cases h
theorem mkd_snoc{sk:SK}{kv:Value}{x:AV}{es:List (Value×AV)}(hm:mkd es=false) (hs:kIs sk kv=true):mkd (es++[(kv,x)])=false:=by
 cases es with
 | nil=>cases kv <;> first | rfl | (cases sk <;> simp [kIs] at hs)
 | cons e es=>obtain⟨v,y⟩:=e;cases v <;> first | rfl | simp [mkd] at hm
theorem sound_mkmap{t n} (h:o.op=.makeMap t none) (c:Prop):OpLoc E P ro o [] {c:=c,v:=.mp n,up:=[(n,.mapo [])]}:=by
 intro G a w hp H hx _ hn K Q hK
 have hfr:hp n=none:=by
  rcases hn (n,.mapo []) (by simp) with h | ⟨q,hq,_⟩
  ·exact h
  ·simp at hq
 obtain⟨l1,l2⟩:=H.newAny hfr default (.map #[] 0) (.mapo []) (.inr ⟨[],#[],0,rfl,rfl,RepE.mk0 (MapKept.stamped_empty 0) ⟨rfl,fun k e x h1=>by simp at h1⟩ rfl⟩)
 exact wpIn_value (by simp [h]) (w':=w.alloc (.map #[] 0)) (v:=.map (some w.heap.size)) (by simp [execOp,h,Instr.makeMap]) (hK _ _ _ l1 l2 (.mp (by simp)))
theorem sound_lookup{mt kt et m k m' k' sk ok i zv z n} {es:List (Value×AV)}{kv:Value}{r:Option AV}(h:o.op=.lookup mt m k ok) (hm:CO m m') (hk:CO k k') (hu:P.underlying mt=some (.map kt et)) (hkt:P.underlying kt=some (SK.desc sk)) (hi:P.info? et=some i) (hz:i.zero=some zv) (hzz:∀ I w,Rep I w z zv)
  (hf:kFind kv es=some r) (hs:kIs sk kv=true) (c:Prop) :
  OpLoc E P ro o [(m',.mp n),(k',.d (.lit kv))] {c:=c,v:=lookV ok (r.getD (.d z)) r.isSome,hin:=[(n,.mapo es)]}:=by
 intro G a w hp H hx hn hup K Q hK
 obtain⟨v1,v2⟩:=ev2 hx hm hk
 obtain⟨e2,_⟩:=v2.lit
 generalize he:a.eval m=u at v1
 cases v1
 rename_i b hb
 obtain⟨b',arr,ck,f1,f2,f3'⟩:=H.mapo n es (hn (n,.mapo es) (by simp))
 have hmk:=kFind_mkd hf
 have f3:=f3'.pos hmk
 rw [hb] at f1;injection f1 with f1;subst f1
 have hfn:=findNow_eq (G:=G) (w:=w) (i:=0) hs hf (l:=arr.toList) (by simpa using f3.1) (fun j e x h1 h2=>f3.2 j e x h1 (by simpa using h2))
 have hfin:∃ v,(Instr.lookup mt (.map (some b)) kv ok).run P w=.ok (if ok then .tuple #[v,.bool r.isSome] else v) w∧RepA G w (r.getD (.d z)) v:=by
  cases r with
  | none =>
   refine⟨zv,?_,.d (hzz _ _)⟩
   unfold Instr.lookup
   simp [run_underlying hu,MapKept.run_getObj_map f2,run_checkKey _ hs hkt,run_findKey hkt hfn,zeroValue,typeInfo,hi,hz]
  | some v =>
   obtain⟨j,val,q1,q2⟩:=hfn
   refine⟨val,?_,q2⟩
   unfold Instr.lookup
   simp [run_underlying hu,MapKept.run_getObj_map f2,run_checkKey _ hs hkt,run_findKey hkt q1]
 obtain⟨v,q1,q2⟩:=hfin
 refine wpIn_value (v:=if ok then .tuple #[v,.bool r.isSome] else v) (by simp [h]) (w':=w) (by simp only [execOp,h,Sem.run_bind,he,e2,q1,Result.andThen_ok,Sem.run_pure]) (hK _ w G (GLe.refl G w) H ?_)
 cases ok
 ·exact q2
 ·refine .tup rfl (fun k c u hk hu=>?_)
  match k with
  | 0=>simp at hk hu;subst hk;subst hu;exact q2
  | 1=>simp at hk hu;subst hk;subst hu;exact repBool _
  | k+2=>simp at hk
theorem sound_lookup_nil{mt kt et m k m' k' sk ok i zv z} {kv:Value}(h:o.op=.lookup mt m k ok) (hm:CO m m') (hk:CO k k') (hu:P.underlying mt=some (.map kt et)) (hkt:P.underlying kt=some (SK.desc sk)) (hi:P.info? et=some i) (hz:i.zero=some zv) (hzz:∀ I w,Rep I w z zv)
  (hs:kIs sk kv=true) (c:Prop) :
  OpLoc E P ro o [(m',.d (.lit (.map none))),(k',.d (.lit kv))] {c:=c,v:=lookV ok (.d z) false} :=
 opLoc_pure (by simp [h]) fun G a w hp H hv=>by
  obtain⟨v1,v2⟩:=ev2 hv hm hk
  obtain⟨e1,_⟩:=v1.lit
  obtain⟨e2,_⟩:=v2.lit
  have hfn:Instr.findNow (SK.desc sk) kv [] 0=some none:=rfl
  have q1:(Instr.lookup mt (.map none) kv ok).run P w=.ok (if ok then .tuple #[zv,.bool false] else zv) w:=by
   unfold Instr.lookup
   simp [run_underlying hu,run_checkKey _ hs hkt,run_findKey hkt hfn,zeroValue,typeInfo,hi,hz]
  refine⟨if ok then .tuple #[zv,.bool false] else zv,by simp only [execOp,h,Sem.run_bind,e1,e2,q1,Result.andThen_ok,Sem.run_pure],?_⟩
  cases ok
  ·exact .d (hzz _ _)
  ·refine .tup rfl (fun k c u hk hu=>?_)
   match k with
   | 0=>simp at hk hu;subst hk;subst hu;exact .d (hzz _ _)
   | 1=>simp at hk hu;subst hk;subst hu;exact repBool _
   | k+2=>simp at hk
theorem sound_insert{mt kt et m k v m' k' v' sk n} {es:List (Value×AV)}{kv:Value}{x:AV}(h:o.op=.insert mt m k v∨o.op=.mapUpdate mt m k v) (hm:CO m m') (hk:CO k k') (hv:CO v v') (hu:P.underlying mt=some (.map kt et)) (hkt:P.underlying kt=some (SK.desc sk))
  (hf:kFind kv es=some none) (hs:kIs sk kv=true) (c:Prop) :
  OpLoc E P ro o [(m',.mp n),(k',.d (.lit kv)),(v',x)] {c:=c,v:=.tup [],hin:=[(n,.mapo es)],up:=[(n,.mapo (es++[(kv,x)]))]}:=by
 intro G a w hp H hx hn hup K Q hK
 have v1:=hx (m',.mp n) (by simp) m hm
 obtain⟨e2,_⟩:=(hx (k',.d (.lit kv)) (by simp) k hk).lit
 have v3:=hx (v',x) (by simp) v hv
 generalize he:a.eval m=u at v1
 cases v1
 rename_i b hb
 obtain⟨b',arr,ck,f1,f2,f3'⟩:=H.mapo n es (hn (n,.mapo es) (by simp))
 have hmk:=kFind_mkd hf
 have f3:=f3'.pos hmk
 rw [hb] at f1;injection f1 with f1;subst f1
 have hfn:=findNow_eq (G:=G) (w:=w) (i:=0) hs hf (l:=arr.toList) (by simpa using f3.1) (fun j e x h1 h2=>f3.2 j e x h1 (by simpa using h2))
 have hE:RepE G w (es++[(kv,x)]) (arr.push {key:=kv,val:=a.eval v,born:=ck}) (ck+1):=by
  refine RepE.mk0 (MapKept.stamped_push f3'.1 (fun y hy=>?_)) ⟨by simp [f3.1],fun j e y h1 h2=>?_⟩ (mkd_snoc hmk hs)
  ·obtain⟨j,hj,rfl⟩:=List.mem_iff_getElem.1 hy
   have hj':j<es.length:=by have:=f3.1;simp at hj;omega
   rw [(f3.2 j es[j] _ (List.getElem?_eq_getElem hj') (by simp at hj;simp [hj])).1]
   exact kFind_ne hf _ (List.getElem_mem hj')
  by_cases hj:j<es.length
  ·rw [List.getElem?_append_left hj] at h1
   rw [Array.getElem?_push,if_neg (by have:=f3.1;omega)] at h2
   exact f3.2 j e y h1 h2
  ·by_cases hj':j=es.length
   ·subst hj'
    rw [List.getElem?_append_right (Nat.le_refl _)] at h1
    rw [Array.getElem?_push,if_pos f3.1.symm] at h2
    simp at h1 h2;subst h1;subst h2
    exact⟨rfl,v3⟩
   ·rw [List.getElem?_eq_none (by simp;omega)] at h1;cases h1
 obtain⟨u1,u2⟩:=H.putAny (by have:=hn (n,.mapo es) (by simp);simp only at this;rw [this];simp) hb (.map (arr.push {key:=kv,val:=a.eval v,born:=ck}) (ck+1)) (.mapo (es++[(kv,x)])) (.inr (.inr ⟨_,_,_,rfl,rfl,hE⟩))
 have hrun:(Instr.mapUpdate mt (.map (some b)) kv (a.eval v)).run P w=.ok () (w.putObj b (.map (arr.push {key:=kv,val:=a.eval v,born:=ck}) (ck+1))):=by
  unfold Instr.mapUpdate
  simp [run_underlying hu,MapKept.run_getObj_map f2,run_checkKey _ hs hkt,run_findKey hkt hfn,MapKept.run_setObj_map _ f2,World.putObj]
 refine wpIn_skipv (by rcases h with h | h <;> simp [h]) (w':=w.putObj b (.map (arr.push {key:=kv,val:=a.eval v,born:=ck}) (ck+1))) (by rcases h with h | h <;> simp only [execOp,h,Sem.run_bind,he,e2,hrun,Result.andThen_ok,Sem.run_pure]) ?_
 exact hK undef _ G u1 u2 (.tup rfl (fun k c v hk=>by simp at hk))
theorem kSame_eq{k k':Value}(h:kSame k k'=some true):k'=k:=by
 cases k <;> cases k' <;> simp only [kSame,reduceCtorEq,Option.some.injEq] at h
 ·simp at h;rw [h]
 ·split at h
  ·rename_i e
   simp at h;rw [e,h]
  ·cases h
 ·rw [MapKept.bytes_beq] at h;rw [h]
theorem findNow_at{sk:SK}{k:Value}(hk:kIs sk k=true):∀ {es:List (Value×AV)}{l:List MapEntry}{i:Nat}{v:AV},kFind k es=some (some v)->l.length=es.length->(∀ (j:Nat) (e:Value×AV) (x:MapEntry),es[j]?=some e->l[j]?=some x->x.key=e.1) ->
  ∃ j val,Instr.findNow (SK.desc sk) k l i=some (some (i+j,val))∧(∃ e,es[j]?=some e∧e.1=k)∧∀ x,kPut k x es=es.set j (k,x)
 | [],l,i,v,h,_,_=>by simp [kFind] at h
 | _::_,[],i,v,h,hl,_=>by simp at hl
 | e::es,x::l,i,v,h,hl,he=>by
  have e1:=he 0 e x rfl rfl
  simp only [kFind] at h
  split at h
  ·rename_i hs
   have hk2:=kSame_eq hs
   refine⟨0,x.val,?_,⟨e,rfl,hk2⟩,fun y=>?_⟩
   ·unfold Instr.findNow
    rw [e1,sameNow_eq hk hs];rfl
   ·rw [kPut,hs];simp [hk2]
  ·rename_i hs
   obtain⟨j,val,q1,q2,q3⟩:=findNow_at (i:=i+1) hk h (by simpa using hl) (fun j e x h1 h2=>he (j+1) e x (by simpa using h1) (by simpa using h2))
   refine⟨j+1,val,?_,by simpa using q2,fun y=>?_⟩
   ·have hstep:Instr.findNow (SK.desc sk) k (x::l) i=Instr.findNow (SK.desc sk) k l (i+1):=by
     conv=>lhs;unfold Instr.findNow
     rw [e1,sameNow_eq hk hs]
    rw [hstep,q1,Nat.add_assoc,Nat.add_comm 1 j]
   ·simp only [kPut,hs,List.set_cons_succ,q3]
  ·cases h
theorem isKey_of{sk:SK}{k:Value}(hk:kIs sk k=true):MapKept.IsKey (SK.desc sk) k:=by
 cases sk <;> cases k <;> simp [kIs] at hk <;> simp [MapKept.IsKey,SK.desc,hk]
theorem sound_insertO{mt kt et m k v m' k' v' sk n} {es:List (Value×AV)}{kv:Value}{x x0:AV}(h:o.op=.insert mt m k v∨o.op=.mapUpdate mt m k v) (hm:CO m m') (hk:CO k k') (hv:CO v v') (hu:P.underlying mt=some (.map kt et)) (hkt:P.underlying kt=some (SK.desc sk))
  (hf:kFind kv es=some (some x0)) (hs:kIs sk kv=true) (c:Prop) :
  OpLoc E P ro o [(m',.mp n),(k',.d (.lit kv)),(v',x)] {c:=c,v:=.tup [],hin:=[(n,.mapo es)],up:=[(n,.mapo (kPut kv x es))]}:=by
 intro G a w hp H hx hn hup K Q hK
 have v1:=hx (m',.mp n) (by simp) m hm
 obtain⟨e2,_⟩:=(hx (k',.d (.lit kv)) (by simp) k hk).lit
 have v3:=hx (v',x) (by simp) v hv
 generalize he:a.eval m=u at v1
 cases v1
 rename_i b hb
 obtain⟨b',arr,ck,f1,f2,f3'⟩:=H.mapo n es (hn (n,.mapo es) (by simp))
 have hmk:=kFind_mkd hf
 have f3:=f3'.pos hmk
 rw [hb] at f1;injection f1 with f1;subst f1
 obtain⟨j,val,q1,⟨e,q2,q2'⟩,q3⟩:=findNow_at (i:=0) hs hf (l:=arr.toList) (by simpa using f3.1) (fun j e x h1 h2=>(f3.2 j e x h1 (by simpa using h2)).1)
 rw [Nat.zero_add] at q1
 have hjl:j<es.length:=(List.getElem?_eq_some_iff.1 q2).1
 have hja:j<arr.size:=by rw [f3.1];exact hjl
 obtain⟨y0,hj⟩:∃ y0,arr[j]?=some y0:=⟨_,Array.getElem?_eq_getElem hja⟩
 have hjk:y0.key=kv:=by rw [(f3.2 j e _ q2 hj).1,q2']
 have hkey:∀ e',arr[j]?=some e'->({e' with key:=kv,val:=a.eval v}:MapEntry).key=e'.key:=fun e' he'=>by rw [hj] at he';cases he';exact hjk.symm
 have hE:RepE G w (kPut kv x es) (arr.modify j fun e=>{e with key:=kv,val:=a.eval v}) ck:=by
  rw [q3]
  refine RepE.mk0 (MapKept.stamped_modify f3'.1 _ _ (fun _ _=>rfl) (fun e' _ he'=>hkey e' he')) ⟨by simp [f3.1],fun i e' y h1 h2=>?_⟩ ?_
  ·rw [Array.getElem?_modify] at h2
   rw [List.getElem?_set] at h1
   by_cases hij:j=i
   ·subst hij
    rw [if_pos rfl,if_pos hjl] at h1
    rw [if_pos rfl,hj] at h2
    simp at h1 h2;subst h1;subst h2
    exact⟨rfl,v3⟩
   ·rw [if_neg hij] at h1 h2
    exact f3.2 i e' y h1 h2
  ·have hms:mkd (es.set j (kv,x))=mkd es:=mkd_keys (by
    apply List.ext_getElem?
    intro i
    rw [List.getElem?_map,List.getElem?_map,List.getElem?_set]
    by_cases hij:j=i
    ·subst hij;rw [if_pos rfl,if_pos hjl,q2];simp [q2']
    ·rw [if_neg hij])
   rw [hms];exact hmk
 obtain⟨u1,u2⟩:=H.putAny (by have:=hn (n,.mapo es) (by simp);simp only at this;rw [this];simp) hb (.map (arr.modify j fun e=>{e with key:=kv,val:=a.eval v}) ck) (.mapo (kPut kv x es)) (.inr (.inr ⟨_,_,_,rfl,rfl,hE⟩))
 have hrun:(Instr.mapUpdate mt (.map (some b)) kv (a.eval v)).run P w=.ok () (w.putObj b (.map (arr.modify j fun e=>{e with key:=kv,val:=a.eval v}) ck)):=by
  unfold Instr.mapUpdate
  simp [run_underlying hu,MapKept.run_getObj_map f2,run_checkKey _ hs hkt,run_findKey hkt q1,hj,hjk,MapKept.run_keyThatStays (isKey_of hs),MapKept.run_setObj_map _ f2,World.putObj]
 refine wpIn_skipv (by rcases h with h | h <;> simp [h]) (w':=w.putObj b (.map (arr.modify j fun e=>{e with key:=kv,val:=a.eval v}) ck)) (by rcases h with h | h <;> simp only [execOp,h,Sem.run_bind,he,e2,hrun,Result.andThen_ok,Sem.run_pure]) ?_
 exact hK undef _ G u1 u2 (.tup rfl (fun k c v hk=>by simp at hk))
theorem sound_makeslice{t e i l c l' c' zv z sz bytes q} {k1 k2:IntKind}{a b:Int}(h:o.op=.makeSlice t l c) (hl:CO l l') (hcc:CO c c') (hu:P.underlying t=some (.slice e)) (hi:P.info? e=some i) (hs:i.size=sz) (hb:i.bytes=bytes) (hz:i.zero=some zv)
  (hzz:∀ I w,Rep I w z zv) (hzs:z.cells.length=sz) (hone:∀ ds,z≠.tup ds) (hs0:0<sz) (hc:a=b∧0<=a∧a.toNat*sz<=16777216∧a.toNat*bytes<=281474976710656∧a<=9223372036854775807) (p:Prop) :
  OpLoc E P ro o [(l',.d (.lit (.int k1 a))),(c',.d (.lit (.int k2 b)))] {c:=p,v:=.own q sz (List.replicate a.toNat z),up:=[(q,.row)]} :=
 sound_newrow (by simp [h]) fun G ac w hp H hvv=>by
  obtain⟨v1,v2⟩:=ev2 hvv hl hcc
  obtain⟨e1,_⟩:=v1.lit
  obtain⟨e2,_⟩:=v2.lit
  obtain⟨rfl,c2,c3,c4,c5⟩:=hc
  obtain⟨n,rfl⟩:=Int.eq_ofNat_of_zero_le c2
  simp only [Int.toNat_natCast] at c3 c4 ⊢
  have hrun:=run_makeSlice (P:=P) w t e i zv hu hi hz k1 k2 n n (by omega) (by omega) (by rw [Int.toNat_natCast,hs];exact c3) (by rw [hb,<- Int.natCast_mul];rw [Nat.mul_comm] at c4;omega) c5
  simp only [Int.toNat_natCast,hs] at hrun
  generalize harr:madeCells zv.cells (n*sz)=arr at hrun
  have hsz:arr.size=n*sz:=by rw [<- harr,size_madeCells]
  have hcz:=(hzz G.I w).cells hone
  have hzvs:zv.cells.size=sz:=by rw [hcz.1.1,hzs]
  have hall:∀ e∈List.replicate n z,e.cells.length=sz:=fun e he=>by rw [List.eq_of_mem_replicate he];exact hzs
  have hget:∀ k c,(D.flat (List.replicate n z))[k]?=some c->∃ v,arr[k]?=some v∧Rep G.I w c v∧c.one=true:=fun k c hk=>by
   have hlt:k<n*sz:=by
    have:=flat_len hall
    rw [List.length_replicate] at this
    rw [<- this]
    rcases Nat.lt_or_ge k (D.flat (List.replicate n z)).length with h' | h'
    ·exact h'
    ·rw [List.getElem?_eq_none h'] at hk;cases hk
   have hi':k / sz<n:=(Nat.div_lt_iff_lt_mul hs0).2 hlt
   have hm:=Nat.mod_lt k hs0
   have hg:(List.replicate n z)[k / sz]?=some z:=by rw [List.getElem?_replicate];simp [hi']
   have e1:k=k / sz*sz+k % sz:=by have:=Nat.div_add_mod k sz;rw [Nat.mul_comm] at this;omega
   have hk2:z.cells[k % sz]?=some c:=by
    rw [<- hk];conv=>rhs;rw [e1]
    exact(flat_get hall hg _ hm).symm
   have hlt2:k % sz<zv.cells.size:=by rw [hzvs];exact hm
   refine⟨zv.cells[k % sz],?_,hcz.1.2 _ c _ hk2 (Array.getElem?_eq_getElem hlt2),hcz.2 c (List.mem_of_getElem? hk2)⟩
   rw [<- harr]
   rw [Array.getElem?_eq_getElem (by rw [size_madeCells];exact hlt)]
   simp only [madeCells,Array.getElem_map,Array.getElem_range,hzvs]
   rw [getElem!_pos zv.cells (k % sz) hlt2]
  have hg:=Grow.alloc w (.cells arr e)
  have hcell:∀ k,(w.alloc (.cells arr e)).cell? ⟨w.heap.size,k,none⟩=arr[k]?:=fun k =>
   cell_of_row (w.alloc (.cells arr e)) w.heap.size k arr e (0,0) (heap_alloc_new w _)
  obtain⟨l1,l2⟩:=H.grow hg (fun a'=>G.I a'∨(a'.block=w.heap.size∧a'.spot=none∧a'.off<arr.size)) (fun _ h=>.inl h) (fun a' ha'=>by
    rcases ha' with h' | h'
    ·exact .inl h'
    ·exact .inr (by omega)) (fun a' ha'=>by
    rcases ha' with h' | ⟨h1',h2',h3'⟩
    ·rw [hg.cell (H.ilt h')];exact H.icell a' h'
    ·have:a'=⟨w.heap.size,a'.off,none⟩:=by cases a';simp_all
     rw [this,hcell];simp [h3'])
  refine⟨some ⟨w.heap.size,0,none⟩,n,_,_,by simp only [execOp,h,e1,e2,Sem.run_bind,hrun,Result.andThen_ok,Sem.run_pure],l1,l2,?_⟩
  refine .sl ⟨w.heap.size,0,none⟩ (fun k=>arr.getD k undef) (by simp) (by omega) (by omega) (.inl rfl) hall (fun c hc'=>?_) (fun k c hk=>?_) (fun k c hk=>?_)
  ·obtain⟨k,hk⟩:=List.getElem?_of_mem hc'
   obtain⟨v,_,_,h3'⟩:=hget k c hk
   exact h3'
  ·obtain⟨v,h1',_,_⟩:=hget k c hk
   rw [add_mk,Nat.zero_add,hcell,h1']
   refine⟨.inr ⟨rfl,rfl,(Array.getElem?_eq_some_iff.1 h1').1⟩,?_⟩
   rw [Array.getD_eq_getD_getElem?,h1'];rfl
  ·obtain⟨v,h1',h2',_⟩:=hget k c hk
   have:arr.getD k undef=v:=by rw [Array.getD_eq_getD_getElem?,h1'];rfl
   rw [this]
   exact h2'.mono l1.imm
theorem sound_idxB{t e x j x' j' i} {sz n off z l c:Nat}{k:IntKind}{ix:Int}(h:o.op=.indexAddr t x j) (hx:CO x x') (hj:CO j j') (hu:P.underlying t=some (.slice e)) (hi:P.info? e=some i) (hs:i.size=sz)
  (hc:z=sz∧0<=ix∧ix<l) (p:Prop) :
  OpLoc E P ro o [(x',.bsl n off z l c),(j',.d (.lit (.int k ix)))] {c:=p,v:=.ptr n (off+ix.toNat*sz)} :=
 opLoc_pure (by simp [h]) fun G ac w hp H hv=>by
  obtain⟨v1,v2⟩:=ev2 hv hx hj
  have e2:=v2.lit.1
  generalize he:ac.eval x=u at v1
  obtain⟨b,c',hb,hlc,hcc,hcm,rfl⟩:∃ b c',G.box n=some b∧l<=c∧c<=c'∧c'<=9223372036854775807∧u=.slice (some ⟨b,off,none⟩) l c':=by
   cases v1 with
   | bsl hg h1 h2 h3 _=>exact⟨_,_,hg,h1,h2,h3,rfl⟩
  exact⟨.pointer (some ⟨b,off+ix.toNat*sz,none⟩),by simp [execOp,h,Instr.indexAt,asIntOf,he,e2,run_underlying hu,sizeOf,typeInfo,hi,hc.2.1,hc.2.2,add_mk,hs],.ptr hb⟩
theorem sound_lenB{x x' t e} {n off z l c:Nat}(h:o.op=.call {callee:=.builtin .len,args:=#[x],argTypes:=#[t]}) (hx:CO x x') (hu:P.underlying t=some (.slice e))
  (p:Prop):OpLoc E P ro o [(x',.bsl n off z l c)] {c:=p,v:=.d (.lit (.int .i64 l))} :=
 opLoc_pure (by simp [h]) fun G a w hp H hvv=>by
  have v1:=ev1 hvv hx
  generalize he:a.eval x=u at v1
  obtain⟨b,c',hb,hlc,hcc,hcm,rfl⟩:∃ b c',G.box n=some b∧l<=c∧c<=c'∧c'<=9223372036854775807∧u=.slice (some ⟨b,off,none⟩) l c':=by
   cases v1 with
   | bsl hg h1 h2 h3 _=>exact⟨_,_,hg,h1,h2,h3,rfl⟩
  exact⟨.int .i64 l,by simp [execOp,h,resolve,invoke,builtin,he,Builtin.len_,run_underlying hu,goInt],.d (.lit (sc_len (by omega)))⟩
end
def RL (I:Addr->Prop) (w:World) (ds:List D) (vs:List Value):Prop:=vs.length=ds.length∧∀ (k:Nat) (d:D) (u:Value),ds[k]?=some d->vs[k]?=some u->Rep I w d u
theorem RL.app{I:Addr->Prop}{w:World}{a b:List D}{x y:List Value}(h:RL I w a x) (k:RL I w b y):RL I w (a++b) (x++y):=by
 refine⟨by simp [h.1,k.1],fun j d u hd hu=>?_⟩
 by_cases hj:j<a.length
 ·rw [List.getElem?_append_left hj] at hd
  rw [List.getElem?_append_left (by rw [h.1];exact hj)] at hu
  exact h.2 j d u hd hu
 ·rw [List.getElem?_append_right (by omega)] at hd
  rw [List.getElem?_append_right (by rw [h.1];omega),h.1] at hu
  exact k.2 _ d u hd hu
theorem RL.take{I:Addr->Prop}{w:World}{a:List D}{x:List Value}(h:RL I w a x) (n:Nat):RL I w (a.take n) (x.take n):=by
 refine⟨by simp [h.1],fun j d u hd hu=>?_⟩
 rw [List.getElem?_take] at hd hu
 split at hd
 ·rename_i hj;rw [if_pos hj] at hu;exact h.2 j d u hd hu
 ·cases hd
theorem RL.drop{I:Addr->Prop}{w:World}{a:List D}{x:List Value}(h:RL I w a x) (n:Nat):RL I w (a.drop n) (x.drop n):=by
 refine⟨by simp [h.1],fun j d u hd hu=>?_⟩
 rw [List.getElem?_drop] at hd hu
 exact h.2 _ d u hd hu
theorem RL.mono{I I':Addr->Prop}{w w':World}{a:List D}{x:List Value}(h:RL I w a x) (hk:∀ a,I a->I' a∧w'.cell? a=w.cell? a):RL I' w' a x:=⟨h.1,fun k d u hd hu=>(h.2 k d u hd hu).mono hk⟩
theorem rep_block{I:Addr->Prop}{w:World}{N sz n cap:Nat}{es:List D}{vs:List Value}{arr:Array Value}{ty:TypeId}(hh:w.heap[N]?=some (.cells arr ty (0,0))) (hn:n=es.length) (hc:n<=cap) (hm:cap<=9223372036854775807)
  (hz:∀ e∈es,e.cells.length=sz) (h1:∀ c∈D.flat es,c.one=true) (hr:RL I w (D.flat es) vs) (ha:∀ (j:Nat) (u:Value),vs[j]?=some u->arr[j]?=some u) (hI:∀ k,(w.cell? ⟨N,k,none⟩).isSome=true->I ⟨N,k,none⟩) :
  Rep I w (.sl sz es) (.slice (some ⟨N,0,none⟩) n cap):=by
 have hcell:∀ k,w.cell? ⟨N,k,none⟩=arr[k]?:=fun k=>cell_of_row w N k arr ty (0,0) hh
 have hget:∀ k c,(D.flat es)[k]?=some c->∃ u,arr[k]?=some u∧Rep I w c u:=fun k c hk=>by
  have hlt:k<vs.length:=by rw [hr.1];exact(List.getElem?_eq_some_iff.1 hk).1
  exact⟨vs[k],ha k _ (List.getElem?_eq_getElem hlt),hr.2 k c _ hk (List.getElem?_eq_getElem hlt)⟩
 refine .sl ⟨N,0,none⟩ (fun k=>(arr[k]?).getD undef) hn hc hm (.inl rfl) hz h1 (fun k c hk=>?_) (fun k c hk=>?_)
 ·obtain⟨u,h2,_⟩:=hget k c hk
  rw [add_mk,Nat.zero_add]
  exact⟨hI k (by rw [hcell,h2];rfl),by rw [hcell,h2];rfl⟩
 ·obtain⟨u,h2,h3⟩:=hget k c hk
  simp only [h2,Option.getD];exact h3
theorem box_cells{E:Env}{G:Gh}{h:Hp}{w:World}(H:WRel E G h w){n b:Nat}{ag:Bool}{cs:List AV}{ds:List D}(hn:h n=some (.box ag cs)) (hb:G.box n=some b) (he:allD cs=some ds) (k:Nat) (hk:k<=ds.length) :
  ∃ (arr:Array Value) (ty:TypeId) (vs:List Value),w.heap[b]?=some (.cells arr ty (0,0))∧(G.rc n).defers<=arr.size∧vs.length=k∧RL G.I w (ds.take k) vs∧(∀ (j:Nat) (u:Value),vs[j]?=some u->arr[j]?=some u∧w.cell? ⟨b,j,none⟩=some u)∧(∀ u∈vs,u.oneCell'=true)∧∀ d∈ds,d.one=true:=by
 obtain⟨b',arr,ty,e1,e2,e3,e4,e5⟩:=H.box n ag cs hn
 rw [hb] at e1;injection e1 with e1;subst e1
 have hes:=allD_eq he
 have hlen:ds.length<=arr.size:=by have:=e3.1;rw [hes,List.length_map] at this;exact this
 have hone:∀ d∈ds,d.one=true:=fun d hd=>e4 (.d d) (by rw [hes];exact List.mem_map_of_mem hd)
 have hcell:∀ k,w.cell? ⟨b,k,none⟩=arr[k]?:=fun k=>cell_of_row w b k arr ty (0,0) e2
 have hva:∀ (j:Nat) (u:Value),(arr.toList.take k)[j]?=some u->j<k∧arr[j]?=some u:=fun j u hj=>by
  rw [List.getElem?_take] at hj
  split at hj
  ·exact⟨by assumption,by simpa using hj⟩
  ·cases hj
 have hrep:∀ (j:Nat) (d:D) (u:Value),ds[j]?=some d->arr[j]?=some u->Rep G.I w d u:=fun j d u hd hu=>(e3.2 j (.d d) u (by rw [hes];simp [hd]) hu).of_d
 refine⟨arr,ty,arr.toList.take k,e2,e5,by simp;omega,⟨by simp;omega,fun j d u hd hu=>?_⟩,fun j u hj=>⟨(hva j u hj).2,by rw [hcell];exact(hva j u hj).2⟩,fun u hu=>?_,hone⟩
 ·rw [List.getElem?_take] at hd
  split at hd
  ·exact hrep j d u hd (hva j u hu).2
  ·cases hd
 ·obtain⟨j,hj⟩:=List.getElem?_of_mem hu
  obtain⟨hjk,hja⟩:=hva j u hj
  have hlt:j<ds.length:=by omega
  exact((hrep j _ u (List.getElem?_eq_getElem hlt) hja).oneCell (hone _ (List.getElem_mem hlt))).2
section
variable {E:Env}{P:Program}{ro:Option Nat}{o:Oper}
theorem sound_libClone_nil{f x x' ts sz bytes sy} {v:AV}(h:o.op=.call {callee:=.value (.func f),args:=#[x],argTypes:=ts}) (hx:CO x x') (hl:CloneOk P f sz bytes) (hel:v.elems=some (sy,[])) (p:Prop) :
  OpLoc E P ro o [(x',v)] {c:=p,v:=.e0 sz}:=by
 intro G a w hp H hvs _ _ K Q hK
 have hr:=elems_rep hel G w _ (ev1 hvs hx)
 obtain⟨n,A,cap,_,_,hv,_⟩:=hr.sl_inv
 rw [hv] at hr
 obtain⟨cs,k1,k2,k3,k4,k5,k6,k7,k8,k9,k10⟩:=slice_cells hr
 have hn0:n=0:=by simpa using k5
 subst hn0
 have hcs:cs=[]:=List.eq_nil_of_length_eq_zero (by simpa using k1)
 subst hcs
 have hc:=hl.run w A 0 cap [] k9 k10 (by simp) (fun _=>rfl) (fun _ _ j u hj=>by simp at hj) (fun u hu=>by simp at hu) (by simp)
 refine wpIn_call (f:=.func f) h (x:=#[]) (y:=#[]) (by rfl) hl.call (R:=_) (by simp only [hv,List.map_cons,List.map_nil,Array.toList_empty,List.nil_append,List.append_nil];exact hc) (fun u w' hR=>?_) (fun ch w' hR=>?_) (fun w' hR=>?_)
 ·obtain⟨g,hR⟩:=hR
  obtain⟨l1,l2⟩:=H.grow g G.I (fun _ h=>h) (fun _ h=>.inl h) (fun a' ha'=>by rw [g.cell (H.ilt ha')];exact H.icell a' ha')
  rcases hR with ⟨_,A',hA⟩ | ⟨h0,_⟩
  ·injection hA with hA;subst hA
   exact hK _ w' _ l1 l2 .e0
  ·omega
 ·obtain⟨_,⟨_,_,hA⟩ | ⟨_,_,_,_,_,hA,_⟩⟩:=hR <;> cases hA
 ·obtain⟨_,⟨_,_,hA⟩ | ⟨_,_,_,_,_,hA,_⟩⟩:=hR <;> cases hA
theorem sound_libClone_cons{f x x' ts sz bytes sy q y1} {yr:List D}{v:AV}(h:o.op=.call {callee:=.value (.func f),args:=#[x],argTypes:=ts}) (hx:CO x x') (hl:CloneOk P f sz bytes) (hel:v.elems=some (sy,y1::yr)) (hc:sy=sz∧(yr.length+1)*bytes<=140737488355328) (p:Prop) :
  OpLoc E P ro o [(x',v)] {c:=p,v:=.bsl q 0 sz (yr.length+1) (yr.length+1),up:=[(q,.box true (wr (y1::yr)))]}:=by
 intro G a w hp H hvs _ hf K Q hK
 obtain⟨rfl,hby⟩:=hc
 have hq:hp q=none:=by
  rcases hf (q,.box true (wr (y1::yr))) (by simp) with h' | ⟨_,hz',_⟩
  ·exact h'
  ·simp at hz'
 have hr:=elems_rep hel G w _ (ev1 hvs hx)
 obtain⟨n,A,cap,_,_,hv,_⟩:=hr.sl_inv
 rw [hv] at hr
 obtain⟨cs,k1,k2,k3,k4,k5,k6,k7,k8,k9,k10⟩:=slice_cells hr
 have hn:n=yr.length+1:=by simpa using k5
 have hc:=hl.run w A n cap cs k9 k10 k1 (fun e=>by simpa using k8 e) (fun ad e j u hj=>(k3 ad e j u hj).1) k2 (by rw [hn];exact hby)
 refine wpIn_call (f:=.func f) h (x:=#[]) (y:=#[]) (by rfl) hl.call (R:=_) (by simp only [hv,List.map_cons,List.map_nil,Array.toList_empty,List.nil_append,List.append_nil];exact hc) (fun u w' hR=>?_) (fun ch w' hR=>?_) (fun w' hR=>?_)
 ·obtain⟨g,⟨h0,_⟩ | ⟨h0,N,ncap,arr,ty,hA,q1,q2,q3,q4,q5,q6⟩⟩:=hR
  ·omega
  ·injection hA with hA;subst hA
   have hfl:=flat_len k6
   obtain⟨l1,l2⟩:=H.growBox g q1 (n:=q) hq true (cs:=wr (y1::yr)) q2 ⟨by
     have:n*sy<=ncap*sy:=Nat.mul_le_mul_right _ q3
     rw [show (wr (y1::yr)).length=(D.flat (y1::yr)).length by simp [wr],hfl,<- k5];omega,fun k c u hk hu=>by
    simp only [wr,List.getElem?_map,Option.map_eq_some_iff] at hk
    obtain⟨d,hd,rfl⟩:=hk
    have hlt:k<cs.length:=by rw [k1,k5,<- hfl];exact(List.getElem?_eq_some_iff.1 hd).1
    have h2:=q6 k _ (List.getElem?_eq_getElem hlt)
    rw [hu] at h2;injection h2 with h2;subst h2
    exact .d (k4 k d _ hd (List.getElem?_eq_getElem hlt))⟩ (fun c hc=>by
    simp only [wr,List.mem_map] at hc
    obtain⟨d,hd,rfl⟩:=hc
    exact k7 d hd) {(default:Loop) with defers:=ncap*sy} q5
   rw [hn]
   exact hK _ w' _ l1 l2 (.bsl (by simp) (Nat.le_refl _) (by omega) q4 (.inr (by simp)))
 ·obtain⟨_,⟨_,_,hA⟩ | ⟨_,_,_,_,_,hA,_⟩⟩:=hR <;> cases hA
 ·obtain⟨_,⟨_,_,hA⟩ | ⟨_,_,_,_,_,hA,_⟩⟩:=hR <;> cases hA
theorem bslv{G:Gh}{w:World}{n o z l c:Nat}{u:Value}(h:RepA G w (.bsl n o z l c) u):∃ b c',G.box n=some b∧l<=c∧c<=c'∧c'<=9223372036854775807∧(c'=c∨o+c'*z<=(G.rc n).defers)∧u=.slice (some ⟨b,o,none⟩) l c':=by
 cases h with
 | bsl h1 h2 h3 h4 h5=>exact⟨_,_,h1,h2,h3,h4,h5,rfl⟩
theorem newblock{G:Gh}{h:Hp}{w w':World}(H:WRel E G h w) (g:Grow w w'){N sz n cap:Nat}{es:List D}{vs:List Value}{arr:Array Value}{ty:TypeId}(hN:w.heap.size<=N) (hh:w'.heap[N]?=some (.cells arr ty (0,0))) (hn:n=es.length) (hc:n<=cap) (hm:cap<=9223372036854775807)
  (hz:∀ e∈es,e.cells.length=sz) (h1:∀ c∈D.flat es,c.one=true) (hr:RL G.I w (D.flat es) vs) (ha:∀ (j:Nat) (u:Value),vs[j]?=some u->arr[j]?=some u) :
  ∃ G',GLe G w G' w'∧WRel E G' h w'∧G'.box=G.box∧Rep G'.I w' (.sl sz es) (.slice (some ⟨N,0,none⟩) n cap):=by
 obtain⟨l1,l2⟩:=H.grow g (fun ad=>G.I ad∨(ad.block=N∧(w'.cell? ad).isSome=true)) (fun _ h=>.inl h) (fun ad had=>had.imp id (fun h=>by omega)) (fun ad had=>by
  rcases had with had | had
  ·rw [g.cell (H.ilt had)];exact H.icell ad had
  ·exact had.2)
 exact⟨_,l1,l2,rfl,rep_block hh hn hc hm hz h1 (hr.mono l1.imm) ha (fun k hk=>.inr ⟨rfl,hk⟩)⟩
theorem sound_libIns_e{f x x' i i' y y' ts} {sz bytes z q m cq:Nat}{ag:Bool}{cv:List AV}{dv:List D}(h:o.op=.call {callee:=.value (.func f),args:=#[x,i,y],argTypes:=ts}) (hx:CO x x') (hi:CO i i') (hy:CO y y') (hl:InsOk P f sz bytes) (hdv:allD cv=some dv) (ix:Int)
  (hc:ix=0∧0<m∧m*sz<=dv.length∧m*bytes<=140737488355328) (p:Prop) :
  OpLoc E P ro o [(x',.e0 z),(i',.d (.lit (.int .i64 ix))),(y',.bsl q 0 sz m cq)] {c:=p,v:=.d (.sl sz (elsD sz m dv)),hin:=[(q,.box ag cv)]}:=by
 intro G a w hp H hvs hin _ K Q hK
 obtain⟨rfl,hm,hmd,hby⟩:=hc
 have vx:=hvs (x',.e0 z) (by simp) x hx
 have vi:=(hvs (i',.d (.lit (.int .i64 0))) (by simp) i hi).lit.1
 obtain⟨bq,cq',hbq,hq1,hq2,hq3,_,vy⟩:=bslv (hvs (y',.bsl q 0 sz m cq) (by simp) y hy)
 obtain⟨A,vx⟩:∃ A,a.eval x=.slice A 0 0:=by
  generalize a.eval x=ux at vx
  cases vx;exact⟨_,rfl⟩
 have hnq:hp q=some (.box ag cv):=hin (q,.box ag cv) (by simp)
 obtain⟨arr,ty,vs,e1,e2,e3,e4,e5,e6,e7⟩:=box_cells H hnq hbq hdv (m*sz) hmd
 have hcall:=hl.grow w A 0 0 0 bq m cq' [] vs (by omega) (by omega) (by omega) hm (by simp) e3 (fun _=>⟨rfl,rfl⟩) (fun h=>by omega) (fun j u hj=>(e5 j u hj).2) (fun u hu=>by simp at hu) e6 (by simpa using hby) (by omega)
 obtain⟨s1,s2,s3⟩:=elsD_spec (z:=sz) (len:=m) (ds:=dv) hmd e7
 refine wpIn_call (f:=.func f) h (x:=#[]) (y:=#[]) (by rfl) hl.call (R:=_) (by simp only [vx,vi,vy,List.map_cons,List.map_nil,Array.toList_empty,List.nil_append,List.append_nil];exact hcall) (fun u w' hR=>?_) (fun ch w' hR=>?_) (fun w' hR=>?_)
 ·obtain⟨g,N,ncap,arr',ty',hA,q1,q2,q3,q4,_,q5⟩:=hR
  injection hA with hA;subst hA
  obtain⟨G',l1,l2,_,l3⟩:=newblock H g q1 q2 (es:=elsD sz m dv) (n:=0+m) (by omega) q3 q4 s2 (by rw [s3];exact fun c hc=>e7 c (List.mem_of_mem_take hc)) (by rw [s3];exact e4) (fun j u hj=>q5 j u (by simpa using hj))
  exact hK _ w' G' l1 (by simpa [Hp.upd] using l2) (.d l3)
 ·obtain⟨_,_,_,_,_,hA,_⟩:=hR;cases hA
 ·obtain⟨_,_,_,_,_,hA,_⟩:=hR;cases hA
theorem sound_libIns_b{f x x' i i' y y' ts} {sz bytes n l q m cq:Nat}{ag ag2:Bool}{cs cv:List AV}{ds dv:List D}(h:o.op=.call {callee:=.value (.func f),args:=#[x,i,y],argTypes:=ts}) (hx:CO x x') (hi:CO i i') (hy:CO y y') (hl:InsOk P f sz bytes) (hds:allD cs=some ds) (hdv:allD cv=some dv) (ix:Int)
  (hc:(0<=ix∧ix<=l∧n≠q)∧(0<l∧0<m∧l*sz<=ds.length∧m*sz<=dv.length)∧(l+m)*bytes<=140737488355328∧l+m<=9223372036854775807) (p:Prop) :
  OpLoc E P ro o [(x',.bsl n 0 sz l l),(i',.d (.lit (.int .i64 ix))),(y',.bsl q 0 sz m cq)] {c:=p,v:=.d (.sl sz ((elsD sz l ds).take ix.toNat++elsD sz m dv++(elsD sz l ds).drop ix.toNat)),hin:=[(n,.box ag cs),(q,.box ag2 cv)],up:=[(n,.dead)]}:=by
 intro G a w hp H hvs hin _ K Q hK
 obtain⟨⟨hi0,hil,hnq⟩,⟨hl0,hm,hld,hmd⟩,hby,h63⟩:=hc
 have vi:=(hvs (i',.d (.lit (.int .i64 ix))) (by simp) i hi).lit.1
 obtain⟨bq,cq',hbq,hq1,hq2,hq3,_,vy⟩:=bslv (hvs (y',.bsl q 0 sz m cq) (by simp) y hy)
 obtain⟨bn,cn',hbn,hn1,hn2,hn3,hroom,vx⟩:=bslv (hvs (x',.bsl n 0 sz l l) (by simp) x hx)
 have hq:hp q=some (.box ag2 cv):=hin (q,.box ag2 cv) (by simp)
 have hn:hp n=some (.box ag cs):=hin (n,.box ag cs) (by simp)
 obtain⟨arq,tyq,vs,e1,e2,e3,e4,e5,e6,e7⟩:=box_cells H hq hbq hdv (m*sz) hmd
 obtain⟨arn,tyn,us,f1,f2,f3,f4,f5,f6,f7⟩:=box_cells H hn hbn hds (l*sz) hld
 obtain⟨s1,s2,s3⟩:=elsD_spec (z:=sz) (len:=m) (ds:=dv) hmd e7
 obtain⟨t1,t2,t3⟩:=elsD_spec (z:=sz) (len:=l) (ds:=ds) hld f7
 obtain⟨k,hk⟩:∃ k:Nat,ix=k:=⟨ix.toNat,by omega⟩
 subst hk
 have hkl:k<=l:=by omega
 obtain⟨g1,g2⟩:=flat_take' (elsD sz l ds) k t2
 have happ:∀ a b:List D,D.flat (a++b)=D.flat a++D.flat b:=fun a b=>by simp [D.flat]
 have hflat:D.flat ((elsD sz l ds).take k++elsD sz m dv++(elsD sz l ds).drop k)=(ds.take (l*sz)).take (k*sz)++dv.take (m*sz)++(ds.take (l*sz)).drop (k*sz):=by rw [happ,happ,g1,g2,s3,t3]
 have hes:∀ e∈(elsD sz l ds).take k++elsD sz m dv++(elsD sz l ds).drop k,e.cells.length=sz:=fun e he=>by
  rcases List.mem_append.1 he with he | he
  ·rcases List.mem_append.1 he with he | he
   ·exact t2 e (List.mem_of_mem_take he)
   ·exact s2 e he
  ·exact t2 e (List.mem_of_mem_drop he)
 have hlen:l+m=((elsD sz l ds).take k++elsD sz m dv++(elsD sz l ds).drop k).length:=by
  simp only [List.length_append,List.length_take,List.length_drop,t1,s1];omega
 have hrl:RL G.I w ((ds.take (l*sz)).take (k*sz)++dv.take (m*sz)++(ds.take (l*sz)).drop (k*sz)) (us.take (k*sz)++vs++us.drop (k*sz)):=((f4.take _).app e4).app (f4.drop _)
 have hone:∀ c∈(ds.take (l*sz)).take (k*sz)++dv.take (m*sz)++(ds.take (l*sz)).drop (k*sz),c.one=true:=fun c hc=>by
  rcases List.mem_append.1 hc with hc | hc
  ·rcases List.mem_append.1 hc with hc | hc
   ·exact f7 c (List.mem_of_mem_take (List.mem_of_mem_take hc))
   ·exact e7 c (List.mem_of_mem_take hc)
  ·exact f7 c (List.mem_of_mem_take (List.mem_of_mem_drop hc))
 have hbne:bq≠bn:=fun e=>hnq (H.binj1 hbn (e ▸ hbq) hn (fun q=>by cases q) hq (fun q=>by cases q))
 rcases Nat.lt_or_ge cn' (l+m) with hgrow | hplace
 ·have hcall:=hl.grow w (some ⟨bn,0,none⟩) l cn' k bq m cq' us vs hkl (by omega) hgrow hm f3 e3 (fun h=>by cases h) (fun _=>⟨bn,rfl,fun j u hj=>(f5 j u hj).2⟩) (fun j u hj=>(e5 j u hj).2) f6 e6 hby h63
  refine wpIn_call (f:=.func f) h (x:=#[]) (y:=#[]) (by rfl) hl.call (R:=_) (by simp only [vx,vi,vy,List.map_cons,List.map_nil,Array.toList_empty,List.nil_append,List.append_nil];exact hcall) (fun u w' hR=>?_) (fun ch w' hR=>?_) (fun w' hR=>?_)
  ·obtain⟨g,N,ncap,arr',ty',hA,q1,q2,q3,q4,_,q5⟩:=hR
   injection hA with hA;subst hA
   obtain⟨G',l1,l2,hbx,l3⟩:=newblock H g q1 q2 (es:=(elsD sz l ds).take k++elsD sz m dv++(elsD sz l ds).drop k) (n:=l+m) hlen q3 q4 hes (by rw [hflat];exact hone) (by rw [hflat];exact hrl) q5
   obtain⟨m1,m2⟩:=l2.freeze hn (by rw [hbx];exact hbn)
   exact hK _ w' _ (l1.trans m1) m2 (.d (l3.mono m1.imm))
  ·obtain⟨_,_,_,_,_,hA,_⟩:=hR;cases hA
  ·obtain⟨_,_,_,_,_,hA,_⟩:=hR;cases hA
 ·have hcap:cn'*sz<=arn.size:=by
   rcases hroom with hr | hr
   ·omega
   ·rw [Nat.zero_add] at hr;omega
  have hcall:=hl.place w bn l cn' k bq m cq' us vs arn tyn arq tyq hkl hplace hn3 hm hbne f1 hcap e1 f3 e3 (fun j u hj=>(f5 j u hj).1) (fun j u hj=>(e5 j u hj).1) f6 e6
  refine wpIn_call (f:=.func f) h (x:=#[]) (y:=#[]) (by rfl) hl.call (R:=_) (by simp only [vx,vi,vy,List.map_cons,List.map_nil,Array.toList_empty,List.nil_append,List.append_nil];exact hcall) (fun u w' hR=>?_) (fun ch w' hR=>?_) (fun w' hR=>?_)
  ·obtain⟨hA,hw,hblk,arr',hnew,hsz,hval⟩:=hR
   injection hA with hA;subst hA
   have hlenb:(us.take (k*sz)++vs++us.drop (k*sz)).length<=arr'.size:=by
    rcases Nat.lt_or_ge arr'.size (us.take (k*sz)++vs++us.drop (k*sz)).length with h' | h'
    ·have:=hval arr'.size _ (List.getElem?_eq_getElem h')
     simp at this
    ·exact h'
   obtain⟨l1,l2⟩:=H.setWhole hn hbn (cs':=((ds.take (l*sz)).take (k*sz)++dv.take (m*sz)++(ds.take (l*sz)).drop (k*sz)).map .d) f1 hw hblk hnew hsz ⟨by rw [List.length_map,<- hrl.1];exact hlenb,fun j c v hj hv=>by
     simp only [List.getElem?_map,Option.map_eq_some_iff] at hj
     obtain⟨d,hd,rfl⟩:=hj
     have hlt:j<(us.take (k*sz)++vs++us.drop (k*sz)).length:=by rw [hrl.1];exact(List.getElem?_eq_some_iff.1 hd).1
     have h2:=hval j _ (List.getElem?_eq_getElem hlt)
     rw [hv] at h2;injection h2 with h2;subst h2
     exact .d (hrl.2 j d _ hd (List.getElem?_eq_getElem hlt))⟩ (fun c hc=>by
     simp only [List.mem_map] at hc
     obtain⟨d,hd,rfl⟩:=hc
     exact hone d hd)
   obtain⟨m1,m2⟩:=l2.freeze (n:=n) (by rw [upd_one,if_pos rfl]) hbn
   rw [upd_same] at m2
   refine hK _ w' _ (l1.trans m1) m2 (.d (show Rep _ w' (.sl sz ((elsD sz l ds).take k++elsD sz m dv++(elsD sz l ds).drop k)) _ from ?_))
   exact rep_block hnew hlen hplace hn3 hes (by rw [hflat];exact hone) (by rw [hflat];exact(hrl.mono l1.imm).mono m1.imm) hval (fun j hj=>.inr ⟨rfl,hj⟩)
  ·cases hR.1
  ·cases hR.1
theorem sound_libDel{f x x' i i' j j' ts} {sz n l c:Nat}{ag:Bool}{cs:List AV}{ds:List D}(h:o.op=.call {callee:=.value (.func f),args:=#[x,i,j],argTypes:=ts}) (hx:CO x x') (hi:CO i i') (hj:CO j j') (hl:DelOk P f sz) (hds:allD cs=some ds) (ix jx:Int)
  (hc:(0<=ix∧ix<l∧jx=ix+1)∧l*sz<=ds.length) (p:Prop) :
  OpLoc E P ro o [(x',.bsl n 0 sz l c),(i',.d (.lit (.int .i64 ix))),(j',.d (.lit (.int .i64 jx)))] {c:=p,v:=.d (.sl sz ((elsD sz l ds).eraseIdx ix.toNat)),hin:=[(n,.box ag cs)],up:=[(n,.dead)]}:=by
 intro G a w hp H hvs hin _ K Q hK
 obtain⟨⟨hi0,hil,rfl⟩,hld⟩:=hc
 have vi:=(hvs (i',.d (.lit (.int .i64 ix))) (by simp) i hi).lit.1
 have vj:=(hvs (j',.d (.lit (.int .i64 (ix+1)))) (by simp) j hj).lit.1
 obtain⟨bn,cn',hbn,hn1,hn2,hn3,hroom,vx⟩:=bslv (hvs (x',.bsl n 0 sz l c) (by simp) x hx)
 have hn:hp n=some (.box ag cs):=hin (n,.box ag cs) (by simp)
 obtain⟨arn,tyn,us,f1,f2,f3,f4,f5,f6,f7⟩:=box_cells H hn hbn hds (l*sz) hld
 obtain⟨t1,t2,t3⟩:=elsD_spec (z:=sz) (len:=l) (ds:=ds) hld f7
 obtain⟨k,hk⟩:∃ k:Nat,ix=k:=⟨ix.toNat,by omega⟩
 subst hk
 have hkl:k<l:=by omega
 obtain⟨g1,_⟩:=flat_take' (elsD sz l ds) k t2
 obtain⟨_,g2⟩:=flat_take' (elsD sz l ds) (k+1) t2
 have happ:∀ a b:List D,D.flat (a++b)=D.flat a++D.flat b:=fun a b=>by simp [D.flat]
 have her:(elsD sz l ds).eraseIdx k=(elsD sz l ds).take k++(elsD sz l ds).drop (k+1):=List.eraseIdx_eq_take_drop_succ _ _
 have hflat:D.flat ((elsD sz l ds).eraseIdx k)=(ds.take (l*sz)).take (k*sz)++(ds.take (l*sz)).drop ((k+1)*sz):=by rw [her,happ,g1,g2,t3]
 have hes:∀ e∈(elsD sz l ds).eraseIdx k,e.cells.length=sz:=fun e he=>t2 e (List.mem_of_mem_eraseIdx he)
 have hlen:l-1=((elsD sz l ds).eraseIdx k).length:=by rw [List.length_eraseIdx,t1,if_pos hkl]
 have hrl:RL G.I w ((ds.take (l*sz)).take (k*sz)++(ds.take (l*sz)).drop ((k+1)*sz)) (us.take (k*sz)++us.drop ((k+1)*sz)):=(f4.take _).app (f4.drop _)
 have hone:∀ c∈(ds.take (l*sz)).take (k*sz)++(ds.take (l*sz)).drop ((k+1)*sz),c.one=true:=fun c hc=>by
  rcases List.mem_append.1 hc with hc | hc
  ·exact f7 c (List.mem_of_mem_take (List.mem_of_mem_take hc))
  ·exact f7 c (List.mem_of_mem_take (List.mem_of_mem_drop hc))
 have hsz0:l*sz<=arn.size:=by
  rcases Nat.eq_zero_or_pos (l*sz) with h0 | h0
  ·omega
  ·have:=(f5 (l*sz-1) _ (List.getElem?_eq_getElem (by omega))).1
   have:=(Array.getElem?_eq_some_iff.1 this).1
   omega
 have hcall:=hl.run w bn l cn' k us arn tyn hkl (by omega) hn3 f1 f3 hsz0 (fun j u hj=>(f5 j u hj).1) f6
 refine wpIn_call (f:=.func f) h (x:=#[]) (y:=#[]) (by rfl) hl.call (R:=_) (by simp only [vx,vi,vj,List.map_cons,List.map_nil,Array.toList_empty,List.nil_append,List.append_nil];exact hcall) (fun u w' hR=>?_) (fun ch w' hR=>?_) (fun w' hR=>?_)
 ·obtain⟨hA,hw,hblk,arr',hnew,hsz,hval⟩:=hR
  injection hA with hA;subst hA
  have hlenb:(us.take (k*sz)++us.drop ((k+1)*sz)).length<=arr'.size:=by
   rcases Nat.lt_or_ge arr'.size (us.take (k*sz)++us.drop ((k+1)*sz)).length with h' | h'
   ·have:=hval arr'.size _ (List.getElem?_eq_getElem h')
    simp at this
   ·exact h'
  obtain⟨l1,l2⟩:=H.setWhole hn hbn (cs':=((ds.take (l*sz)).take (k*sz)++(ds.take (l*sz)).drop ((k+1)*sz)).map .d) f1 hw hblk hnew hsz ⟨by rw [List.length_map,<- hrl.1];exact hlenb,fun j c v hj hv=>by
    simp only [List.getElem?_map,Option.map_eq_some_iff] at hj
    obtain⟨d,hd,rfl⟩:=hj
    have hlt:j<(us.take (k*sz)++us.drop ((k+1)*sz)).length:=by rw [hrl.1];exact(List.getElem?_eq_some_iff.1 hd).1
    have h2:=hval j _ (List.getElem?_eq_getElem hlt)
    rw [hv] at h2;injection h2 with h2;subst h2
    exact .d (hrl.2 j d _ hd (List.getElem?_eq_getElem hlt))⟩ (fun c hc=>by
    simp only [List.mem_map] at hc
    obtain⟨d,hd,rfl⟩:=hc
    exact hone d hd)
  obtain⟨m1,m2⟩:=l2.freeze (n:=n) (by rw [upd_one,if_pos rfl]) hbn
  rw [upd_same] at m2
  refine hK _ w' _ (l1.trans m1) m2 (.d (show Rep _ w' (.sl sz ((elsD sz l ds).eraseIdx k)) _ from ?_))
  exact rep_block hnew hlen (by omega) hn3 hes (by rw [hflat];exact hone) (by rw [hflat];exact(hrl.mono l1.imm).mono m1.imm) hval (fun j hj=>.inr ⟨rfl,hj⟩)
 ·cases hR.1
 ·cases hR.1
theorem sound_mkslW{t e i sz zv len parts ps q} {vs:List AV}{es:List D}(h:o.op=.buildSlice t len parts) (hu:P.underlying t=some (.slice e)) (hi:P.info? e=some i) (hs:i.size=sz) (hs0:0<sz) (hz:i.zero=some zv) (_hzs:zv.cells.size=sz)
  (hl:len=ps.length) (hps:∃ xs:List Operand,parts.toList=(xs.zipIdx 0).map (fun x=>(x.2,x.1))∧All2 CO xs ps) (hvl:vs.length=ps.length)
  (hes:toDs vs=some es) (hc:(∀ e∈es,e.cells.length=sz∧(∀ ds,e≠.tup ds))∧es.length*sz<=16777216) (hne:es≠[]) (p:Prop) :
  OpLoc E P ro o (ps.zip vs) {c:=p,v:=.bsl q 0 sz es.length es.length,up:=[(q,.box true (wr es))]}:=by
 intro G a w hp H hvv _ hf K Q hK
 have hq:hp q=none:=by
  rcases hf (q,.box true (wr es)) (by simp) with h' | ⟨_,hz',_⟩
  ·exact h'
  ·simp at hz'
 obtain⟨xs,hx1,hx2⟩:=hps
 obtain⟨d1,d2⟩:=toDs_spec ps vs es xs hes hx2 hvl hvv
 have hxl:=all2_len hx2
 have hcells:∀ (k:Nat) (e:D) (x:Operand),es[k]?=some e->xs[k]?=some x->RepL G.I w e.cells (a.eval x).cells∧∀ c∈e.cells,c.one=true:=fun k e x he hx=>(d2 k e x he hx).cells (hc.1 e (List.mem_of_getElem? he)).2
 have hsz:∀ v∈xs.map a.eval,v.cells.size=sz:=fun v hv=>by
  obtain⟨k,hk⟩:=List.getElem?_of_mem hv
  simp only [List.getElem?_map,Option.map_eq_some_iff] at hk
  obtain⟨x,hx,rfl⟩:=hk
  have hklt:k<xs.length:=by
   rcases Nat.lt_or_ge k xs.length with h' | h'
   ·exact h'
   ·rw [List.getElem?_eq_none h'] at hx;cases hx
  have hek:es[k]?=some es[k]:=List.getElem?_eq_getElem (by omega)
  rw [(hcells k _ x hek hx).1.1]
  exact(hc.1 _ (List.mem_of_getElem? hek)).1
 have hpos:¬ len*i.size=0:=by
  have:0<es.length:=List.length_pos_iff.2 hne
  have h1:len*i.size=es.length*sz:=by rw [hl,<- d1,hs]
  have:=Nat.mul_pos this hs0
  omega
 have hfill:=Great.fill_whole (s:=i.size) (by omega) (xs.map a.eval) ((Array.range (len*i.size)).map (zv.cells[· % zv.cells.size]!)) (fun v hv=>by rw [hs];exact hsz v hv) (by rw [List.length_map,Array.size_map,Array.size_range,hxl,hl])
 have hsmall:¬ len*i.size>2 ^ 24:=by
  have h1:len*i.size=es.length*sz:=by rw [hl,<- d1,hs]
  have:=hc.2
  omega
 have hrun:=run_buildSlice (P:=P) w t e len (parts.map fun(i,x)=>(i,a.eval x)) _ i zv hu hi hz hsmall hpos (by
  rw [Array.toList_map,hx1,List.map_map]
  have:(xs.zipIdx 0).map ((fun(p:Nat×Operand)=>(p.1,a.eval p.2))∘fun x=>(x.2,x.1))=((xs.map a.eval).zipIdx 0).map fun x=>(x.2,x.1):=by
   rw [List.zipIdx_map,List.map_map];rfl
  exact(congrArg _ this).trans hfill)
 generalize harr:((xs.map a.eval).flatMap fun v=>v.cells.toList)=arr at hrun
 have harrl:arr.length=es.length*sz:=by
  have hh:∀ (l:List Value),(∀ v∈l,v.cells.size=sz)->(l.flatMap fun v=>v.cells.toList).length=l.length*sz:=by
   intro l
   induction l with
   | nil=>simp
   | cons v l ih =>
    intro hv
    rw [List.flatMap_cons,List.length_append,ih (fun u hu=>hv u (by simp [hu])),List.length_cons,Nat.add_mul,Array.length_toList,hv v (by simp)];omega
  rw [<- harr,hh _ hsz,List.length_map,hxl,d1]
 have hget:∀ k c,(D.flat es)[k]?=some c->∃ v,arr[k]?=some v∧Rep G.I w c v∧c.one=true:=fun k c hk=>by
  have hzz:∀ e∈es,e.cells.length=sz:=fun e he=>(hc.1 e he).1
  have hlt:k<es.length*sz:=by
   rw [<- flat_len hzz]
   rcases Nat.lt_or_ge k (D.flat es).length with h' | h'
   ·exact h'
   ·rw [List.getElem?_eq_none h'] at hk;cases hk
  have hi':k / sz<es.length:=(Nat.div_lt_iff_lt_mul hs0).2 hlt
  have hm:=Nat.mod_lt k hs0
  have hg:es[k / sz]?=some es[k / sz]:=List.getElem?_eq_getElem hi'
  have hgx:xs[k / sz]?=some (xs[k / sz]'(by omega)):=List.getElem?_eq_getElem (by omega)
  have e1:k=k / sz*sz+k % sz:=by have:=Nat.div_add_mod k sz;rw [Nat.mul_comm] at this;omega
  have hk2:es[k / sz].cells[k % sz]?=some c:=by
   rw [<- hk];conv=>rhs;rw [e1]
   exact(flat_get hzz hg _ hm).symm
  obtain⟨c1,c2⟩:=hcells _ _ _ hg hgx
  have ha:arr[k]?=(a.eval (xs[k / sz]'(by omega))).cells[k % sz]?:=by
   rw [<- harr,Great.flat_get hs0 _ hsz k,List.getElem?_map,hgx];rfl
  have hlt2:k % sz<(a.eval (xs[k / sz]'(by omega))).cells.size:=by rw [c1.1,hzz _ (List.mem_of_getElem? hg)];exact hm
  refine⟨(a.eval (xs[k / sz]'(by omega))).cells[k % sz],by rw [ha];exact Array.getElem?_eq_getElem hlt2,c1.2 _ c _ hk2 (Array.getElem?_eq_getElem hlt2),c2 c (List.mem_of_getElem? hk2)⟩
 have hfl:=flat_len (sz:=sz) (es:=es) (fun e he=>(hc.1 e he).1)
 obtain⟨l1,l2⟩:=H.newBoxP (n:=q) hq true (cs:=wr es) (arr:=arr.toArray) e ⟨by rw [show (wr es).length=(D.flat es).length by simp [wr],hfl];simp;omega,fun k c u hk hu=>by
  simp only [wr,List.getElem?_map,Option.map_eq_some_iff] at hk
  obtain⟨d,hd,rfl⟩:=hk
  obtain⟨v,v1,v2,_⟩:=hget k d hd
  simp only [List.getElem?_toArray] at hu
  rw [hu] at v1;injection v1 with v1;subst v1
  exact .d v2⟩ (fun c hc'=>by
  simp only [wr,List.mem_map] at hc'
  obtain⟨d,hd,rfl⟩:=hc'
  obtain⟨k,hk⟩:=List.getElem?_of_mem hd
  obtain⟨_,_,_,h3'⟩:=hget k d hk
  exact h3')
 have hle:es.length=len:=by rw [hl,d1]
 refine wpIn_value (by simp [h]) (v:=.slice (some ⟨w.heap.size,0,none⟩) len len) (w':=w.alloc (.cells arr.toArray e)) (by simp only [execOp,h,Sem.run_bind,hrun,Result.andThen_ok,Sem.run_pure]) (hK _ _ _ l1 l2 (by rw [hle];exact .bsl (by simp) (Nat.le_refl _) (Nat.le_refl _) (by have:=hc.2;have:=Nat.le_mul_of_pos_right es.length hs0;omega) (.inl rfl)))
end
end

section
open Go.Lib (strCells strCells_length strCells_oneCell run_firstCells_string run_append_grow_string)
theorem look_ltN:∀ {hl:List (Nat×HO)}{n:Nat}{x:HO},look hl n=some x->n<newName hl
 | [],n,x,h=>by simp [look] at h
 | (m,y)::r,n,x,h=>by
  simp only [look] at h
  simp only [newName]
  split at h
  ·rename_i e;subst e;exact Nat.lt_of_lt_of_le (Nat.lt_succ_self _) (Nat.le_max_left _ _)
  ·exact Nat.lt_of_lt_of_le (look_ltN h) (Nat.le_max_right _ _)
theorem newName_ne{hl:List (Nat×HO)}{n:Nat}{x:HO}(h:look hl n=some x):newName hl≠n:=fun e=>by have:=look_ltN h;omega
section
variable {E:Env}{P:Program}{ro:Option Nat}{o:Oper}
theorem strD_len(s:ByteArray):(strD s).length=s.size:=by simp [strD]
theorem strD_flat(s:ByteArray):D.flat (strD s)=strD s:=flat_onesD _ (fun c hc=>by
 simp only [strD,List.mem_map] at hc
 obtain⟨_,_,rfl⟩:=hc;rfl)
theorem strD_get{s:ByteArray}{k:Nat}{c:D}(h:(strD s)[k]?=some c):∃ b:UInt8,s.data[k]?=some b∧c=.lit (.int .u8 (b.toNat:Int)):=by
 simp only [strD,List.getElem?_map,Option.map_eq_some_iff] at h
 obtain⟨b,hb,rfl⟩:=h
 exact⟨b,by simpa using hb,rfl⟩
theorem sc_u8(b:UInt8):Sc (.int .u8 (b.toNat:Int)):=by
 have:=b.toNat_lt
 refine⟨?_,?_⟩ <;> simp only [IntKind.min,IntKind.max,IntKind.bits,IntKind.signed] <;> simp <;> omega
theorem run_append_zeroS{t t2 ty e:TypeId}{i:TypeInfo}{w:World}{A:Option Addr}{n cap:Nat}(ht:P.underlying t=some (.slice e)) (hu:P.underlying t2=some .string) (hi:P.info? e=some i) (hn:n<=cap) :
  (Builtin.append_ #[t,t2] ty #[.slice A n cap,.string ⟨#[]⟩]).run P w=.ok (.slice A n cap) w:=by
 cases A <;> simp [Builtin.append_,run_underlying ht,run_underlying hu,sizeOf,typeInfo,hi,Builtin.lenOf,Builtin.firstCells,hn,storeCells,ByteArray.size]
theorem run_append_fitS{t t2 ty e:TypeId}{i:TypeInfo}{w:World}{b off n cap m:Nat}{s:ByteArray}{news:List Value}(ht:P.underlying t=some (.slice e)) (hu:P.underlying t2=some .string) (hi:P.info? e=some i) (hm:m=s.size) (hds:news=strCells s)
  (h1:∀ u∈news,u.oneCell'=true) (hroom:n+m<=cap)
  (hc:∀ j,j<news.length->(w.cell? ⟨b,off+n*i.size+j,none⟩).isSome=true) (hf:∀ j,j<news.length->w.frozen? ⟨b,off+n*i.size+j,none⟩=false) :
  (Builtin.append_ #[t,t2] ty #[.slice (some ⟨b,off,none⟩) n cap,.string s]).run P w=.ok (.slice (some ⟨b,off,none⟩) (n+m) cap) (w.setCells b (off+n*i.size) news):=by
 have hfc:=run_firstCells_string (P:=P) w i.size s
 have hst:=run_storeCells_cells (P:=P) b (off+n*i.size) news 0 w (by simpa using hc) (by simpa using hf) h1
 simp only [Nat.add_zero] at hst
 rw [<- hds] at hfc
 subst hm
 simp [Builtin.append_,run_underlying ht,run_underlying hu,sizeOf,typeInfo,hi,Builtin.lenOf,hroom,hfc,add_mk,hst]
theorem append_coreS{G:Gh}{h:Hp}{w:World}(H:WRel E G h w){t t2 ty e:TypeId}{i:TypeInfo}{zv:Value}{sy bytes:Nat}(hsy1:sy=1) (ht:P.underlying t=some (.slice e)) (hu2:P.underlying t2=some .string) (hi:P.info? e=some i) (hs:i.size=sy) (hb:i.bytes=bytes)
  (hz:i.zero=some zv) (hzs:zv.cells.size=sy){A:Option Addr}{n cap:Nat}{es:List D}{s:ByteArray}
  (hx:Rep G.I w (.sl sy es) (.slice A n cap)) (hT:Tail E G w A n cap sy)
  (hd:n*sy<cap*sy->∀ r' A' n' cap' sz',h r'=some .row->G.row r'=some (A',n',cap',sz')->n'*sz'<cap'*sz'->∀ ad ad',A=some ad->A'=some ad'->ad.block≠ad'.block)
  (hbytes:(es.length+(strD s).length)*bytes<=140737488355328) (h63:es.length+(strD s).length<=9223372036854775807){q:Nat}(hq:h q=none) :
  ∃ val w' G',(Builtin.append_ #[t,t2] ty #[.slice A n cap,.string s]).run P w=.ok val w'∧GLe G w G' w'∧WRel E G' (h.upd [(q,.row)]) w'∧RepA G' w' (.own q sy (es++strD s)) val:=by
 obtain⟨cs,k1,k2,k3,k4,k5,k6,k7,k8,k9,k10⟩:=slice_cells hx
 obtain⟨ys,hys⟩:∃ ys,ys=strD s:=⟨_,rfl⟩
 obtain⟨m,hm⟩:∃ m,m=s.size:=⟨_,rfl⟩
 have hs0:0<sy:=by omega
 have d5:m=ys.length:=by rw [hys,strD_len,hm]
 obtain⟨ds,hds⟩:∃ ds,ds=strCells s:=⟨_,rfl⟩
 have d1:ds.length=m*sy:=by rw [hds,strCells_length,hm,hsy1,Nat.mul_one]
 have d2:∀ u∈ds,u.oneCell'=true:=by rw [hds];exact strCells_oneCell s
 have d6:∀ e∈ys,e.cells.length=sy:=fun e he=>by rw [hsy1];rw [hys] at he;simp only [strD,List.mem_map] at he;obtain⟨_,_,rfl⟩:=he;rfl
 have d7:∀ c∈D.flat ys,c.one=true:=fun c hc=>by rw [hys,strD_flat] at hc;simp only [strD,List.mem_map] at hc;obtain⟨_,_,rfl⟩:=hc;rfl
 have d4:∀ (j:Nat) (c:D) (u:Value),(D.flat ys)[j]?=some c->ds[j]?=some u->Rep G.I w c u:=fun j c u hc hu=>by
  rw [hys,strD_flat] at hc
  obtain⟨b,hb',rfl⟩:=strD_get hc
  rw [hds] at hu
  simp only [strCells,List.getElem?_map,Option.map_eq_some_iff] at hu
  obtain⟨b2,hb2,rfl⟩:=hu
  have:b2=b:=by
   have h2:s.data[j]?=some b2:=by simpa using hb2
   rw [hb'] at h2;injection h2 with h2;exact h2.symm
  subst this
  exact .lit (sc_u8 b2)
 rw [<- hys] at hbytes h63 ⊢
 rcases Nat.eq_zero_or_pos m with hm0 | hm0
 ·
  have hmz:s=⟨#[]⟩:=by
   have:s.data.size=0:=by have h':=hm;rw [hm0] at h';exact h'.symm
   cases s;rename_i d;simp at this;simp [this]
  have hy0:ys=[]:=List.eq_nil_of_length_eq_zero (by omega)
  subst hy0
  obtain⟨l1,l2⟩:=H.addRow hq hT hd
  refine⟨.slice A n cap,w,_,(by rw [hmz];exact run_append_zeroS ht hu2 hi k9),l1,l2,?_⟩
  rw [List.append_nil]
  exact .own (by simp) (hx.mono l1.imm)
 ·by_cases hroom:n+m<=cap
  ·
   have hlt:n*sy<cap*sy:=Nat.mul_lt_mul_of_pos_right (by omega) hs0
   obtain⟨ad,rfl,t1,t2,t3,t4,t5⟩:=hT (n*sy) (Nat.le_refl _) hlt
   obtain⟨v0,hv0⟩:=Option.isSome_iff_exists.1 t1
   have hmn:n*sy+m*sy<=cap*sy:=by rw [<- Nat.add_mul];exact Nat.mul_le_mul_right _ hroom
   have hadeta:ad=⟨ad.block,ad.off,none⟩:=by
    have e:=addr_eta hv0
    unfold Addr.add at e
    split at e
    ·exact e
    ·rename_i hne
     have hn0:0<n:=by
      rcases Nat.eq_zero_or_pos n with h0 | h0
      ·rw [h0] at hne;simp at hne
      ·exact h0
     have hc0:0<cs.length:=by rw [k1];exact Nat.mul_pos hn0 hs0
     have:=(k3 ad rfl 0 cs[0] (List.getElem?_eq_getElem hc0)).1
     have e0:ad.add 0=ad:=by simp [Addr.add]
     rw [e0] at this
     exact addr_eta this
   generalize hbk:ad.block=b at *
   generalize hof:ad.off=off at *
   subst hadeta
   have hTc:∀ j,j<ds.length->(w.cell? ⟨b,off+n*sy+j,none⟩).isSome=true∧w.frozen? ⟨b,off+n*sy+j,none⟩=false∧¬ G.I ⟨b,off+n*sy+j,none⟩:=fun j hj=>by
    obtain⟨ad',e',q1,q2,q3,_,_⟩:=hT (n*sy+j) (by omega) (by omega)
    injection e' with e';subst e'
    rw [add_mk,<- Nat.add_assoc] at q1 q2 q3
    exact⟨q1,q2,q3⟩
   have hrun:=run_append_fitS (P:=P) (ty:=ty) (w:=w) (b:=b) (off:=off) (n:=n) (cap:=cap) (m:=m) (news:=ds) ht hu2 hi hm hds d2 hroom (by rw [hs];exact fun j hj=>(hTc j hj).1) (by rw [hs];exact fun j hj=>(hTc j hj).2.1)
   rw [hs] at hrun
   have hmk:∀ (x:Addr),x=(⟨b,off,none⟩:Addr)->x.block=b:=fun x hx=>by rw [hx]
   obtain⟨f1,f2⟩:=H.fill (b:=b) (o:=off+n*sy) (vs:=ds) (fun k hk=>(hTc k hk).1) (fun k hk=>(hTc k hk).2.2) t4.1 t5 t4.2 (fun r A' n' cap' sz' hr' g' l' ad' e' hbb=>hd hlt r A' n' cap' sz' hr' g' l' ⟨b,off,none⟩ ad' rfl e' hbb.symm)
   have hin:∀ j u,(cs++ds)[j]?=some u->(w.setCells b (off+n*sy) ds).cell? ⟨b,off+j,none⟩=some u∧(G.I ⟨b,off+j,none⟩∨∃ k,k<ds.length∧(⟨b,off+j,none⟩:Addr)=⟨b,off+n*sy+k,none⟩):=fun j u hj=>by
    by_cases hjl:j<cs.length
    ·rw [List.getElem?_append_left hjl] at hj
     have hq':=k3 _ rfl j u hj
     rw [add_mk] at hq'
     refine⟨?_,.inl hq'.2⟩
     rw [(f1.imm _ hq'.2).2];exact hq'.1
    ·rw [List.getElem?_append_right (by omega)] at hj
     have hjd:j-cs.length<ds.length:=by
      rcases Nat.lt_or_ge (j-cs.length) ds.length with h' | h'
      ·exact h'
      ·rw [List.getElem?_eq_none h'] at hj;cases hj
     have hjj:off+j=off+n*sy+(j-cs.length):=by omega
     rw [hjj]
     refine⟨?_,.inr ⟨j-cs.length,hjd,rfl⟩⟩
     rw [World.cell?_setCells_in b ds (off+n*sy) w (fun k hk=>(hTc k hk).1) _ hjd]
     rw [List.getElem?_eq_getElem hjd] at hj;exact hj
   have hT':Tail E {G with I:=fun a=>G.I a∨(∃ k,k<ds.length∧a=⟨b,off+n*sy+k,none⟩)} (w.setCells b (off+n*sy) ds) (some ⟨b,off,none⟩) (n+m) cap sy:=fun k hk hk'=>by
    rw [Nat.add_mul] at hk
    obtain⟨ad',e',q1,q2,q3,q4,q5⟩:=hT k (by omega) hk'
    injection e' with e';subst e'
    rw [add_mk] at q1 q2 q3
    refine⟨_,rfl,?_,?_,?_,q4,q5⟩
    ·rw [add_mk,setCells_cell_out b ds _ w _ (fun _=>.inr (by simp only;omega))];exact q1
    ·rw [add_mk,World.frozen?_setCells];exact q2
    ·rw [add_mk]
     rintro(hi' | ⟨j,hj,hi'⟩)
     ·exact q3 hi'
     ·injection hi' with _ hi' _;omega
   obtain⟨l1,l2⟩:=f2.addRow hq hT' (fun hlt'=>hd hlt)
   refine⟨_,_,_,hrun,f1.trans l1,l2,?_⟩
   have hrep:=rep_joined (I:=fun a=>G.I a∨(∃ k,k<ds.length∧a=⟨b,off+n*sy+k,none⟩)) (w:=w.setCells b (off+n*sy) ds) (cap:=cap) (b:=b) (o:=off) (cs:=cs) (ds:=ds) k6 d6 k7 d7 (by rw [k1,k5]) (by rw [d1,d5]) hin
    (fun j c u hj hu=>(k4 j c u hj hu).mono f1.imm) (fun j c u hj hu=>(d4 j c u hj hu).mono f1.imm) (by omega) k10
   rw [<- k5,<- d5] at hrep
   exact .own (by simp) hrep
  ·
   have hbytes':(n+m)*i.bytes<=140737488355328:=by rw [hb,k5,d5];exact hbytes
   have hrun:∃ oldc,(Builtin.append_ #[t,t2] ty #[.slice A n cap,.string s]).run P w=.ok (.slice (some ⟨w.heap.size,0,none⟩) (n+m) (grownCap w (n+m) oldc e))
     (w.drew.alloc (.cells (cs.toArray++ds.toArray++Builtin.zeroCells zv.cells (grownCap w (n+m) oldc e-(n+m))) e)):=by
    cases A with
    | none =>
     have he0:=k8 rfl
     subst he0
     have hn0:n=0:=by simpa using k5
     subst hn0
     have hcs:cs=[]:=List.eq_nil_of_length_eq_zero (by omega)
     subst hcs
     have hcap:cap=0:=by
      rcases Nat.eq_zero_or_pos cap with h0 | h0
      ·exact h0
      ·obtain⟨ad,e',_⟩:=hT 0 (by simp) (Nat.mul_pos h0 hs0);cases e'
     subst hcap
     have:=run_append_nil_string (P:=P) w t t2 ty e i zv ht hu2 hi hz s (by omega) (by omega) (by simp at hbytes';rw [<- hm];omega)
     refine⟨0,?_⟩
     rw [<- hm] at this
     rw [this,hds,show (s.data.map (fun b=>Value.int .u8 (b.toNat:Int)))=(strCells s).toArray from by apply Array.ext';simp [strCells]]
     simp
    | some ad =>
     have:=run_append_grow_string (P:=P) w t t2 ty e i zv ht hu2 hi hz ad n cap cs (by rw [hs,k1]) (fun j u hj=>(k3 ad rfl j u hj).1) s (by omega) (by omega) (by rw [<- hm];exact growslice_fits (by omega) hbytes')
     rw [<- hm,<- hds] at this
     exact⟨cap,this⟩
   obtain⟨oldc,hrun⟩:=hrun
   generalize hcapv:grownCap w (n+m) oldc e=ncap at hrun
   have hge:n+m<=ncap:=by rw [<- hcapv];exact grownCap_ge w (n+m) oldc e
   have hle':ncap<=9223372036854775807:=by rw [<- hcapv];exact grownCap_le_maxLen w (n+m) oldc e (by simp only [maxLen];omega)
   generalize hzr:Builtin.zeroCells zv.cells (ncap-(n+m))=zr at hrun
   have hzl:zr.size=(ncap-(n+m))*sy:=by rw [<- hzr,size_zeroCells,hzs]
   have hg:Grow w (w.drew.alloc (.cells (cs.toArray++ds.toArray++zr) e)):=⟨rfl,rfl,rfl,by simp,fun b hb=>by first | exact heap_alloc_old w.drew _ b hb | exact heap_alloc_old w.drew _ hb⟩
   have hcell:∀ k,(w.drew.alloc (.cells (cs.toArray++ds.toArray++zr) e)).cell? ⟨w.heap.size,k,none⟩=(cs.toArray++ds.toArray++zr)[k]?:=fun k =>
    cell_of_row (w.drew.alloc (.cells (cs.toArray++ds.toArray++zr) e)) w.heap.size k _ e (0,0) (heap_alloc_new w.drew _)
   have hcl:cs.length+ds.length=(n+m)*sy:=by rw [k1,d1,Nat.add_mul]
   have hcell1:∀ k u,(cs++ds)[k]?=some u->(w.drew.alloc (.cells (cs.toArray++ds.toArray++zr) e)).cell? ⟨w.heap.size,k,none⟩=some u:=fun k u hk=>by
    have hlt:k<(cs++ds).length:=by
     rcases Nat.lt_or_ge k (cs++ds).length with h' | h'
     ·exact h'
     ·rw [List.getElem?_eq_none h'] at hk;cases hk
    rw [hcell,Array.getElem?_append_left (by simpa using hlt),<- hk]
    simp
   obtain⟨l1,l2⟩:=H.grow hg (fun a'=>G.I a'∨(a'.block=w.heap.size∧a'.spot=none∧a'.off<(n+m)*sy)) (fun _ h=>.inl h) (fun a' ha'=>by
     rcases ha' with h' | h'
     ·exact .inl h'
     ·exact .inr (by omega)) (fun a' ha'=>by
     rcases ha' with h' | ⟨h1',h2',h3'⟩
     ·rw [hg.cell (H.ilt h')];exact H.icell a' h'
     ·have ea:a'=⟨w.heap.size,a'.off,none⟩:=by cases a';simp_all
      have hlt:a'.off<(cs++ds).length:=by simp;omega
      rw [ea,hcell1 a'.off _ (List.getElem?_eq_getElem hlt)];rfl)
   have hT':Tail E {G with I:=fun a'=>G.I a'∨(a'.block=w.heap.size∧a'.spot=none∧a'.off<(n+m)*sy)} (w.drew.alloc (.cells (cs.toArray++ds.toArray++zr) e)) (some ⟨w.heap.size,0,none⟩) (n+m) ncap sy:=fun k hk hk'=>by
    refine⟨_,rfl,?_,?_,?_,⟨fun hk''=>?_,E.hN _ H.size⟩,fun m' hm'=>?_⟩
    ·rw [add_mk,Nat.zero_add,hcell]
     have hmul:(n+m)*sy<=ncap*sy:=Nat.mul_le_mul_right _ hge
     have hlt:k<(cs.toArray++ds.toArray++zr).size:=by
      simp only [Array.size_append,List.size_toArray,hzl,Nat.sub_mul]
      omega
     exact Option.isSome_iff_exists.2 ⟨_,Array.getElem?_eq_getElem hlt⟩
    ·rw [add_mk]
     have hh:=heap_alloc_new w.drew (.cells (cs.toArray++ds.toArray++zr) e)
     unfold World.frozen?
     simp only
     rw [show w.heap.size=w.drew.heap.size from rfl,hh]
     simp
    ·rw [add_mk]
     rintro(hi' | ⟨_,_,hi'⟩)
     ·have:=H.ilt hi';simp at this
     ·simp at hi';omega
    ·have h1':=(H.kept _ hk'').1;have h2':=H.size;simp only at h1';omega
    ·have:=(H.bown m' _ hm').1;simp at this
   obtain⟨r1,r2⟩:=l2.addRow hq hT' (fun _ r' A' n' cap' sz' hr' g' l' ad ad' e1 e2=>by
    injection e1 with e1;subst e1;subst e2
    obtain⟨A2,n2,cap2,sz2,g2,T2⟩:=H.row r' hr'
    have g':G.row r'=some (some ad',n',cap',sz'):=g'
    rw [g2] at g'
    injection g' with g';injection g' with x1 x2;injection x2 with x2 x3;injection x3 with x3 x4
    subst x1;subst x2;subst x3;subst x4
    obtain⟨ad3,e3,q1,_⟩:=T2 (n2*sz2) (Nat.le_refl _) l'
    injection e3 with e3;subst e3
    obtain⟨v3,hv3⟩:=Option.isSome_iff_exists.1 q1
    have:=World.block_lt_of_cell? w _ hv3
    rw [block_add] at this
    intro hh;simp at hh;omega)
   refine⟨_,_,_,hrun,l1.trans r1,r2,?_⟩
   have hrep:=rep_joined (I:=fun a'=>G.I a'∨(a'.block=w.heap.size∧a'.spot=none∧a'.off<(n+m)*sy)) (w:=w.drew.alloc (.cells (cs.toArray++ds.toArray++zr) e)) (cap:=ncap) (b:=w.heap.size) (o:=0) (cs:=cs) (ds:=ds) k6 d6 k7 d7 (by rw [k1,k5]) (by rw [d1,d5])
    (fun j u hj=>by
     rw [Nat.zero_add]
     refine⟨hcell1 j u hj,.inr ⟨rfl,rfl,?_⟩⟩
     rcases Nat.lt_or_ge j (cs++ds).length with h' | h'
     ·simp at h';simp;omega
     ·rw [List.getElem?_eq_none h'] at hj;cases hj)
    (fun j c u hj hu=>(k4 j c u hj hu).mono l1.imm) (fun j c u hj hu=>(d4 j c u hj hu).mono l1.imm) (by omega) hle'
   rw [<- k5,<- d5] at hrep
   exact .own (by simp) hrep
theorem sound_strBytes{s t e x x' u} {str:ByteArray}(h:o.op=.convert s t x) (hx:CO x x') (hs:P.underlying s=some u) (ht:P.underlying t=some (.slice e)) (he:P.underlying e=some (.int .u8)) (p:Prop) :
  OpLoc E P ro o [(x',.d (.lit (.string str)))] {c:=p,v:=.d (.sl 1 (strD str))}:=by
 intro G a w hp H hvs _ _ K Q hK
 obtain⟨e1,s1⟩:=(ev1 hvs hx).lit
 have s1:str.size<=9223372036854775807:=s1
 have hrun:=Lib.run_convert_string_bytes (P:=P) w s t e str hs ht he
 have hg:Grow w (Lib.bytesWorld w e str):=⟨rfl,rfl,rfl,by simp [Lib.bytesWorld,World.freeze,World.alloc,World.drew,-World.alloc_eq,-World.drew_eq],fun b hb=>Lib.bytesWorld_at_old w e str b hb⟩
 have hcell:∀ k,k<str.size->(Lib.bytesWorld w e str).cell? ⟨w.heap.size,k,none⟩=(Lib.bytesCells w e str)[k]?:=fun k hk=>by
  exact cell_of_row _ _ _ _ _ _ (Lib.bytesWorld_at_new w e str)
 have hval:∀ k (c:D),(D.flat (strD str))[k]?=some c->∃ b:UInt8,k<str.size∧(Lib.bytesWorld w e str).cell? ⟨w.heap.size,k,none⟩=some (.int .u8 b.toNat)∧c=.lit (.int .u8 (b.toNat:Int)):=fun k c hk=>by
  rw [strD_flat] at hk
  obtain⟨b,hb,rfl⟩:=strD_get hk
  have hlt:k<str.size:=(Array.getElem?_eq_some_iff.1 hb).1
  refine⟨b,hlt,?_,rfl⟩
  rw [hcell k hlt,Lib.bytesCells,Array.getElem?_append_left (by rw [Array.size_map];exact hlt)]
  simp [hb]
 obtain⟨l1,l2⟩:=H.grow hg (fun a'=>G.I a'∨(a'.block=w.heap.size∧((Lib.bytesWorld w e str).cell? a').isSome=true)) (fun _ h=>.inl h) (fun a' ha'=>ha'.imp id (fun h=>by omega)) (fun a' ha'=>by
  rcases ha' with h' | h'
  ·rw [hg.cell (H.ilt h')];exact H.icell a' h'
  ·exact h'.2)
 refine wpIn_value (by simp [h]) (v:=.slice (some ⟨w.heap.size,0,none⟩) str.size (grownCap w str.size 0 e)) (w':=Lib.bytesWorld w e str) (by simp [execOp,h,e1,hrun]) (hK _ _ _ l1 l2 (.d ?_))
 refine .sl ⟨w.heap.size,0,none⟩ (fun k=>((Lib.bytesWorld w e str).cell? ⟨w.heap.size,k,none⟩).getD undef) (strD_len str).symm (grownCap_ge w _ _ _) (grownCap_le_maxLen w _ _ _ s1) (.inl rfl) (fun c hc=>by
  simp only [strD,List.mem_map] at hc;obtain⟨_,_,rfl⟩:=hc;rfl) (fun c hc=>by
  rw [strD_flat] at hc;simp only [strD,List.mem_map] at hc;obtain⟨_,_,rfl⟩:=hc;rfl) (fun k c hk=>?_) (fun k c hk=>?_)
 ·obtain⟨b,_,h2,_⟩:=hval k c hk
  rw [add_mk,Nat.zero_add,h2]
  exact⟨.inr ⟨rfl,by rw [h2];rfl⟩,rfl⟩
 ·obtain⟨b,_,h2,rfl⟩:=hval k c hk
  simp only [h2,Option.getD]
  exact .lit (sc_u8 b)
theorem run_append_opS{a:Act}{w w':World}{x y:Operand}{t t2:TypeId}{val:Value}(h:o.op=.call {callee:=.builtin .append,args:=#[x,y],argTypes:=#[t,t2]}) (hr:(Builtin.append_ #[t,t2] o.type #[a.eval x,a.eval y]).run P w=.ok val w') :
  (execOp a.eval o).run P w=.ok (.value val) w':=by simp [execOp,h,resolve,invoke,builtin,hr]
theorem sound_appendS_own{t t2 e i zv x y x' y' bytes r sz' q} {es:List D}{str:ByteArray}(h:o.op=.call {callee:=.builtin .append,args:=#[x,y],argTypes:=#[t,t2]}) (hx:CO x x') (hy:CO y y') (hu:P.underlying t=some (.slice e)) (hu2:P.underlying t2=some .string)
  (hi:P.info? e=some i) (hs:i.size=1) (hb:i.bytes=bytes) (hz:i.zero=some zv) (hzs:zv.cells.size=1) (hqr:q≠r)
  (hc:sz'=1∧(es.length+(strD str).length)*bytes<=140737488355328∧es.length+(strD str).length<=9223372036854775807) (p:Prop) :
  OpLoc E P ro o [(x',.own r sz' es),(y',.d (.lit (.string str)))] {c:=p,v:=.own q 1 (es++strD str),hin:=[(r,.row)],up:=[(q,.row),(r,.dead)]}:=by
 intro G a w hp H hx' hn hf K Q hK
 obtain⟨c1,c3,c4⟩:=hc
 subst c1
 obtain⟨v1,v2⟩:=ev2 hx' hx hy
 obtain⟨e2,_⟩:=v2.lit
 have hq:hp q=none:=by
  rcases hf (q,.row) (by simp) with h' | ⟨z,hz',e'⟩
  ·exact h'
  ·simp at hz';subst hz';exact absurd e'.symm hqr
 have hr:hp r=some .row:=hn (r,.row) (by simp)
 generalize he:a.eval x=u at v1
 cases v1
 rename_i A n cap hg hrep
 obtain⟨A2,n2,cap2,sz2,g2,T⟩:=H.row r hr
 rw [hg] at g2
 injection g2 with g2;injection g2 with x1 x2;injection x2 with x2 x3;injection x3 with x3 x4
 subst x1;subst x2;subst x3;subst x4
 have H':=H.killRow hr
 have hq':(hp.upd [(r,.dead)]) q=none:=by rw [upd_one,if_neg hqr];exact hq
 obtain⟨val,w',G',e1,e2',e3,e4⟩:=append_coreS (E:=E) (P:=P) H' (ty:=o.type) rfl hu hu2 hi hs hb hz hzs hrep T (fun hlt r' A' n' cap' sz'' hr' g' l' ad ad' f1 f2 hbb=>by
   rw [upd_one] at hr'
   split at hr'
   ·injection hr' with hr';cases hr'
   ·rename_i hne
    exact hne (H.rinj r r' _ _ _ _ _ _ _ _ hr hr' hg g' hlt l' ad ad' f1 f2 hbb).symm) c3 c4 hq'
 refine wpIn_value (by simp [h]) (run_append_opS h (by rw [he,e2];exact e1)) (hK val w' G' e2' ?_ e4)
 have:hp.upd [(q,.row),(r,.dead)]=(hp.upd [(r,.dead)]).upd [(q,.row)]:=by funext m;simp only [Hp.upd]
 rw [this];exact e3
theorem sound_appendS_nil{t t2 e i zv x y x' y' bytes sz' q} {str:ByteArray}(h:o.op=.call {callee:=.builtin .append,args:=#[x,y],argTypes:=#[t,t2]}) (hx:CO x x') (hy:CO y y') (hu:P.underlying t=some (.slice e)) (hu2:P.underlying t2=some .string)
  (hi:P.info? e=some i) (hs:i.size=1) (hb:i.bytes=bytes) (hz:i.zero=some zv) (hzs:zv.cells.size=1)
  (hc:(strD str).length*bytes<=140737488355328∧(strD str).length<=9223372036854775807) (p:Prop) :
  OpLoc E P ro o [(x',.d (.nil sz')),(y',.d (.lit (.string str)))] {c:=p,v:=.own q 1 (strD str),up:=[(q,.row)]}:=by
 intro G a w hp H hx' _ hf K Q hK
 obtain⟨v1,v2⟩:=ev2 hx' hx hy
 obtain⟨e2,_⟩:=v2.lit
 have hq:hp q=none:=by
  rcases hf (q,.row) (by simp) with h' | ⟨z,hz',_⟩
  ·exact h'
  ·simp at hz'
 have v1:=v1.of_d
 generalize he:a.eval x=u at v1
 cases v1
 have hrep:Rep G.I w (.sl 1 []) (.slice none 0 0):=.sl ⟨0,0,none⟩ (fun _=>undef) rfl (by simp) (by simp) (.inr rfl) (by simp) (by simp [D.flat]) (by simp [D.flat]) (by simp [D.flat])
 obtain⟨val,w',G',e1,e2',e3,e4⟩:=append_coreS (E:=E) (P:=P) H (ty:=o.type) rfl hu hu2 hi hs hb hz hzs hrep (fun k hk hk'=>by simp at hk') (fun hlt=>by simp at hlt) (by simpa using hc.1) (by simpa using hc.2) hq
 exact wpIn_value (by simp [h]) (run_append_opS h (by rw [he,e2];exact e1)) (hK val w' G' e2' e3 (by simpa using e4))
end
end

section
theorem WRel.move{E:Env}{G:Gh}{h:Hp}{w:World}(H:WRel E G h w){n q b:Nat}{ag:Bool}{cs:List AV}(hn:h n=some (.box ag cs)) (hb:G.box n=some b) (hq:h q=none) (r:Loop) (hr:∀ arr ty,w.heap[b]?=some (.cells arr ty (0,0))->r.defers<=arr.size) :
  GLe G w {G with box:=fun m=>if m=q then some b else G.box m,rc:=fun m=>if m=q then r else G.rc m} w ∧
  WRel E {G with box:=fun m=>if m=q then some b else G.box m,rc:=fun m=>if m=q then r else G.rc m} (h.upd [(q,.box ag cs),(n,.dead)]) w:=by
 obtain⟨hb0,hr0⟩:=H.fresh q hq
 have hqn:¬ n=q:=fun e=>by subst e;rw [hn] at hq;cases hq
 have hle:GLe G w {G with box:=fun m=>if m=q then some b else G.box m,rc:=fun m=>if m=q then r else G.rc m} w :=
  ⟨fun a ha=>⟨ha,rfl⟩,fun m c hc=>by
   dsimp only
   split
   ·rename_i e;subst e;rw [hb0] at hc;cases hc
   ·exact hc,fun _ _ h=>h,fun m c hc=>by
   dsimp only
   split
   ·rename_i e;subst e;rw [hb0] at hc;cases hc
   ·rfl⟩
 obtain⟨g1,g2,g3,g4⟩:=H.bown n b hb
 have g3:=g3 (by rw [hn];simp)
 have hu:∀ m,(h.upd [(q,.box ag cs),(n,.dead)]) m=if m=q then some (.box ag cs) else if m=n then some .dead else h m:=fun m=>rfl
 refine⟨hle,⟨H.os,H.tape,H.output,H.size,H.kept,H.i0,H.inew,H.icell,fun m hm=>?_,fun m ag' cs' hm=>?_,fun m b' hb'=>?_,fun k m b' h1 h2 d1 d2=>?_,fun r hr=>?_,fun r r' A k cap sz A' k' cap' sz' hr1 hr2=>?_,fun m s hm=>?_,fun m es hm=>?_,H.gb.trans hle,H.gB⟩⟩
 ·rw [hu] at hm
  split at hm
  ·cases hm
  ·rename_i e
   split at hm
   ·cases hm
   ·dsimp only
    rw [if_neg e]
    exact H.fresh m hm
 ·rw [hu] at hm
  dsimp only
  split at hm
  ·rename_i e;subst e
   injection hm with hm;injection hm with e1 e2;subst e1;subst e2
   obtain⟨b2,arr,ty,f1,f2,f3,f4,f5⟩:=H.box n ag cs hn
   rw [hb] at f1;injection f1 with f1;subst f1
   exact⟨b,arr,ty,if_pos rfl,f2,f3.mono hle,f4,by rw [if_pos rfl];exact hr arr ty f2⟩
  ·rename_i e
   split at hm
   ·cases hm
   ·obtain⟨b2,arr,ty,f1,f2,f3,f4,f5⟩:=H.box m ag' cs' hm
    exact⟨b2,arr,ty,by rw [if_neg e];exact f1,f2,f3.mono hle,f4,by rw [if_neg e];exact f5⟩
 ·dsimp only at hb'
  split at hb'
  ·injection hb' with hb';subst hb'
   exact⟨g1,g2,fun _=>g3,g4⟩
  ·rename_i e
   obtain⟨f1,f2,f3,f4⟩:=H.bown m b' hb'
   refine⟨f1,f2,fun hd=>?_,f4⟩
   by_cases em:m=n
   ·subst em;exact absurd (by rw [hu,if_neg e,if_pos rfl]) hd
   ·exact f3 (fun he=>hd (by rw [hu,if_neg e,if_neg em];exact he))
 ·dsimp only at h1 h2
  have live:∀ x,¬ x=q->(h.upd [(q,.box ag cs),(n,.dead)]) x≠some .dead->h x≠some .dead∧¬ x=n:=fun x e d=>by
   rw [hu,if_neg e] at d
   by_cases en:x=n
   ·rw [if_pos en] at d;exact absurd rfl d
   ·rw [if_neg en] at d;exact⟨d,en⟩
  split at h1
  ·rename_i e1
   split at h2
   ·rename_i e2;rw [e1,e2]
   ·rename_i e2
    injection h1 with h1;subst h1
    obtain⟨l1,l2⟩:=live m e2 d2
    exact absurd (H.binj m n b h2 hb l1 (by rw [hn];simp)) l2
  ·rename_i e1
   obtain⟨l1,l2⟩:=live k e1 d1
   split at h2
   ·injection h2 with h2;subst h2
    exact absurd (H.binj k n b h1 hb l1 (by rw [hn];simp)) l2
   ·rename_i e2
    exact H.binj k m b' h1 h2 l1 (live m e2 d2).1
 ·rw [hu] at hr
  split at hr
  ·injection hr with hr;cases hr
  ·split at hr
   ·injection hr with hr;cases hr
   ·obtain⟨A,k,cap,sz,f1,f2⟩:=H.row r hr
    refine⟨A,k,cap,sz,f1,fun j hj hj'=>?_⟩
    obtain⟨ad,e,c1,c2,c3,c4,c5⟩:=f2 j hj hj'
    refine⟨ad,e,c1,c2,c3,c4,fun m=>?_⟩
    dsimp only
    split
    ·exact fun hc=>c5 n (by rw [hb];exact hc)
    ·exact c5 m
 ·rw [hu] at hr1 hr2
  split at hr1
  ·injection hr1 with hr1;cases hr1
  ·split at hr1
   ·injection hr1 with hr1;cases hr1
   ·split at hr2
    ·injection hr2 with hr2;cases hr2
    ·split at hr2
     ·injection hr2 with hr2;cases hr2
     ·exact H.rinj r r' A k cap sz A' k' cap' sz' hr1 hr2
 ·rw [hu] at hm
  dsimp only
  split at hm
  ·injection hm with hm;cases hm
  ·rename_i e
   split at hm
   ·injection hm with hm;cases hm
   ·obtain⟨b2,f1,f2⟩:=H.obj m s hm
    exact⟨b2,by rw [if_neg e];exact f1,by rw [if_neg e];exact f2⟩
 ·rw [hu] at hm
  dsimp only
  split at hm
  ·injection hm with hm;cases hm
  ·rename_i e
   split at hm
   ·injection hm with hm;cases hm
   ·obtain⟨b2,arr,ck,f1,f2,f3⟩:=H.mapo m es hm
    exact⟨b2,arr,ck,by rw [if_neg e];exact f1,f2,f3.mono hle⟩
section
variable {E:Env}{P:Program}{ro:Option Nat}{o:Oper}
theorem upd_new{hp:Hp}{n q:Nat}{x:HO}(hqn:¬ n=q) (y:HO):(hp.upd [(q,x)]).upd [(n,y)]=hp.upd [(q,x),(n,y)]:=by
 funext m
 simp only [Hp.upd]
 by_cases e:m=n
 ·subst e;rw [if_pos rfl,if_neg hqn,if_pos rfl]
 ·rw [if_neg e,if_neg e]
theorem upd_move{hp:Hp}{n q:Nat}{x y z:HO}:(hp.upd [(n,z)]).upd [(q,x),(n,y)]=hp.upd [(q,x),(n,y)]:=by
 funext m
 simp only [Hp.upd]
 split
 ·rfl
 ·split <;> simp [*]
theorem wr_els{sz l k m:Nat}{a b:List D}(ha:∀ e∈elsD sz l a,e.cells.length=sz) (h1:D.flat (elsD sz l a)=a.take (l*sz)) (h2:D.flat (elsD sz m b)=b.take (m*sz)):wr ((elsD sz l a).take k++elsD sz m b++(elsD sz l a).drop k)=((a.take (l*sz)).take (k*sz)++b.take (m*sz)++(a.take (l*sz)).drop (k*sz)).map .d:=by
 obtain⟨g1,g2⟩:=flat_take' (elsD sz l a) k ha
 have happ:∀ a b:List D,D.flat (a++b)=D.flat a++D.flat b:=fun a b=>by simp [D.flat]
 unfold wr
 rw [happ,happ,g1,g2,h1,h2]
theorem sound_libInsW_n{f x x' i i' y y' ts} {sz bytes z q m cq qn:Nat}{ag:Bool}{cv:List AV}{dv:List D}(h:o.op=.call {callee:=.value (.func f),args:=#[x,i,y],argTypes:=ts}) (hx:CO x x') (hi:CO i i') (hy:CO y y') (hl:InsOk P f sz bytes) (hdv:allD cv=some dv) (ix:Int)
  (hc:ix=0∧0<m∧m*sz<=dv.length∧m*bytes<=140737488355328) (hnew:¬ qn=q) (p:Prop) :
  OpLoc E P ro o [(x',.d (.nil z)),(i',.d (.lit (.int .i64 ix))),(y',.bsl q 0 sz m cq)] {c:=p,v:=.bsl qn 0 sz m m,hin:=[(q,.box ag cv)],up:=[(qn,.box true (wr (elsD sz m dv)))]}:=by
 intro G a w hp H hvs hin hf K Q hK
 obtain⟨rfl,hm,hmd,hby⟩:=hc
 have hqn:hp qn=none:=by
  rcases hf (qn,.box true (wr (elsD sz m dv))) (by simp) with h' | ⟨_,hz',hz2⟩
  ·exact h'
  ·simp at hz';subst hz';exact absurd hz2.symm hnew
 have vx:=(hvs (x',.d (.nil z)) (by simp) x hx).of_d
 have vi:=(hvs (i',.d (.lit (.int .i64 0))) (by simp) i hi).lit.1
 obtain⟨bq,cq',hbq,hq1,hq2,hq3,_,vy⟩:=bslv (hvs (y',.bsl q 0 sz m cq) (by simp) y hy)
 have vx:a.eval x=.slice none 0 0:=by
  generalize a.eval x=ux at vx
  cases vx;rfl
 have hnq:hp q=some (.box ag cv):=hin (q,.box ag cv) (by simp)
 obtain⟨arr,ty,vs,e1,e2,e3,e4,e5,e6,e7⟩:=box_cells H hnq hbq hdv (m*sz) hmd
 have hcall:=hl.grow w none 0 0 0 bq m cq' [] vs (by omega) (by omega) (by omega) hm (by simp) e3 (fun _=>⟨rfl,rfl⟩) (fun h=>by omega) (fun j u hj=>(e5 j u hj).2) (fun u hu=>by simp at hu) e6 (by simpa using hby) (by omega)
 obtain⟨s1,s2,s3⟩:=elsD_spec (z:=sz) (len:=m) (ds:=dv) hmd e7
 refine wpIn_call (f:=.func f) h (x:=#[]) (y:=#[]) (by rfl) hl.call (R:=_) (by simp only [vx,vi,vy,List.map_cons,List.map_nil,Array.toList_empty,List.nil_append,List.append_nil];exact hcall) (fun u w' hR=>?_) (fun ch w' hR=>?_) (fun w' hR=>?_)
 ·obtain⟨g,N,ncap,arr',ty',hA,q1,q2,q3,q4,q6,q5⟩:=hR
  injection hA with hA;subst hA
  have hwr:wr (elsD sz m dv)=(dv.take (m*sz)).map .d:=by unfold wr;rw [s3]
  obtain⟨l1,l2⟩:=H.growBox g q1 (n:=qn) hqn true (cs:=wr (elsD sz m dv)) q2 ⟨by
    rw [hwr,List.length_map,<- e4.1,e3]
    have:(0+m)*sz<=ncap*sz:=Nat.mul_le_mul_right _ q3
    rw [Nat.zero_add] at this;omega,fun k c u hk hu=>by
   rw [hwr] at hk
   simp only [List.getElem?_map,Option.map_eq_some_iff] at hk
   obtain⟨d,hd,rfl⟩:=hk
   have hlt:k<vs.length:=by rw [e4.1];exact(List.getElem?_eq_some_iff.1 hd).1
   have h2:=q5 k vs[k] (by rw [List.take_nil,List.drop_nil,List.nil_append,List.append_nil];exact List.getElem?_eq_getElem hlt)
   rw [hu] at h2;injection h2 with h2;subst h2
   exact .d (e4.2 k d _ hd (List.getElem?_eq_getElem hlt))⟩ (fun c hc=>by
   rw [hwr] at hc
   simp only [List.mem_map] at hc
   obtain⟨d,hd,rfl⟩:=hc
   exact e7 d (List.mem_of_mem_take hd)) {(default:Loop) with defers:=ncap*sz} q6
  have hA:(0+m)=m:=Nat.zero_add m
  rw [hA]
  exact hK _ w' _ l1 l2 (.bsl (by simp) (Nat.le_refl _) (by omega) q4 (.inr (by simp)))
 ·obtain⟨_,_,_,_,_,hA,_⟩:=hR;cases hA
 ·obtain⟨_,_,_,_,_,hA,_⟩:=hR;cases hA
theorem sound_libInsW_b{f x x' i i' y y' ts} {sz bytes n l q m cq qn:Nat}{ag ag2:Bool}{cs cv:List AV}{ds dv:List D}(h:o.op=.call {callee:=.value (.func f),args:=#[x,i,y],argTypes:=ts}) (hx:CO x x') (hi:CO i i') (hy:CO y y') (hl:InsOk P f sz bytes) (hds:allD cs=some ds) (hdv:allD cv=some dv) (ix:Int)
  (hc:(0<=ix∧ix<=l∧n≠q)∧(0<m∧l*sz<=ds.length∧m*sz<=dv.length)∧(l+m)*bytes<=140737488355328∧l+m<=9223372036854775807) (hnew:¬ qn=n∧¬ qn=q) (p:Prop) :
  OpLoc E P ro o [(x',.bsl n 0 sz l l),(i',.d (.lit (.int .i64 ix))),(y',.bsl q 0 sz m cq)] {c:=p,v:=.bsl qn 0 sz (l+m) (l+m),hin:=[(n,.box ag cs),(q,.box ag2 cv)],up:=[(qn,.box ag (wr ((elsD sz l ds).take ix.toNat++elsD sz m dv++(elsD sz l ds).drop ix.toNat))),(n,.dead)]}:=by
 intro G a w hp H hvs hin hf K Q hK
 obtain⟨⟨hi0,hil,hnq⟩,⟨hm,hld,hmd⟩,hby,h63⟩:=hc
 have hqn:hp qn=none:=by
  rcases hf (qn,.box ag (wr ((elsD sz l ds).take ix.toNat++elsD sz m dv++(elsD sz l ds).drop ix.toNat))) (by simp) with h' | ⟨_,hz',hz2⟩
  ·exact h'
  ·simp at hz'
   rcases hz' with rfl | rfl
   ·exact absurd hz2.symm hnew.1
   ·exact absurd hz2.symm hnew.2
 have vi:=(hvs (i',.d (.lit (.int .i64 ix))) (by simp) i hi).lit.1
 obtain⟨bq,cq',hbq,hq1,hq2,hq3,_,vy⟩:=bslv (hvs (y',.bsl q 0 sz m cq) (by simp) y hy)
 obtain⟨bn,cn',hbn,hn1,hn2,hn3,hroom,vx⟩:=bslv (hvs (x',.bsl n 0 sz l l) (by simp) x hx)
 have hq:hp q=some (.box ag2 cv):=hin (q,.box ag2 cv) (by simp)
 have hn:hp n=some (.box ag cs):=hin (n,.box ag cs) (by simp)
 have hqnn:¬ n=qn:=fun e=>by subst e;rw [hn] at hqn;cases hqn
 obtain⟨arq,tyq,vs,e1,e2,e3,e4,e5,e6,e7⟩:=box_cells H hq hbq hdv (m*sz) hmd
 obtain⟨arn,tyn,us,f1,f2,f3,f4,f5,f6,f7⟩:=box_cells H hn hbn hds (l*sz) hld
 obtain⟨s1,s2,s3⟩:=elsD_spec (z:=sz) (len:=m) (ds:=dv) hmd e7
 obtain⟨t1,t2,t3⟩:=elsD_spec (z:=sz) (len:=l) (ds:=ds) hld f7
 obtain⟨k,hk⟩:∃ k:Nat,ix=k:=⟨ix.toNat,by omega⟩
 subst hk
 have hkl:k<=l:=by omega
 have hwr:=wr_els (k:=k) t2 t3 s3
 have hrl:RL G.I w ((ds.take (l*sz)).take (k*sz)++dv.take (m*sz)++(ds.take (l*sz)).drop (k*sz)) (us.take (k*sz)++vs++us.drop (k*sz)):=((f4.take _).app e4).app (f4.drop _)
 have hone:∀ c∈(ds.take (l*sz)).take (k*sz)++dv.take (m*sz)++(ds.take (l*sz)).drop (k*sz),c.one=true:=fun c hc=>by
  rcases List.mem_append.1 hc with hc | hc
  ·rcases List.mem_append.1 hc with hc | hc
   ·exact f7 c (List.mem_of_mem_take (List.mem_of_mem_take hc))
   ·exact e7 c (List.mem_of_mem_take hc)
  ·exact f7 c (List.mem_of_mem_take (List.mem_of_mem_drop hc))
 have hbne:bq≠bn:=fun e=>hnq (H.binj1 hbn (e ▸ hbq) hn (fun q=>by cases q) hq (fun q=>by cases q))
 have hrep:∀ {G':Gh}{w':World}{arr':Array Value},GLe G w G' w'->(∀ (j:Nat) (u:Value),(us.take (k*sz)++vs++us.drop (k*sz))[j]?=some u->arr'[j]?=some u)->RepAP G' w' (((ds.take (l*sz)).take (k*sz)++dv.take (m*sz)++(ds.take (l*sz)).drop (k*sz)).map .d) arr':=fun {G' w' arr'} hle hval=>by
  have hlenb:(us.take (k*sz)++vs++us.drop (k*sz)).length<=arr'.size:=by
   rcases Nat.lt_or_ge arr'.size (us.take (k*sz)++vs++us.drop (k*sz)).length with h' | h'
   ·have:=hval arr'.size _ (List.getElem?_eq_getElem h')
    simp at this
   ·exact h'
  refine⟨by rw [List.length_map,<- hrl.1];exact hlenb,fun j c v hj hv=>?_⟩
  simp only [List.getElem?_map,Option.map_eq_some_iff] at hj
  obtain⟨d,hd,rfl⟩:=hj
  have hlt:j<(us.take (k*sz)++vs++us.drop (k*sz)).length:=by rw [hrl.1];exact(List.getElem?_eq_some_iff.1 hd).1
  have h2:=hval j _ (List.getElem?_eq_getElem hlt)
  rw [hv] at h2;injection h2 with h2;subst h2
  exact .d ((hrl.2 j d _ hd (List.getElem?_eq_getElem hlt)).mono hle.imm)
 have hone':∀ c∈((ds.take (l*sz)).take (k*sz)++dv.take (m*sz)++(ds.take (l*sz)).drop (k*sz)).map AV.d,c.one=true:=fun c hc=>by
  simp only [List.mem_map] at hc
  obtain⟨d,hd,rfl⟩:=hc
  exact hone d hd
 have hKK:=hK
 simp only [Int.toNat_natCast] at hKK
 rw [hwr] at hKK
 rcases Nat.lt_or_ge cn' (l+m) with hgrow | hplace
 ·have hcall:=hl.grow w (some ⟨bn,0,none⟩) l cn' k bq m cq' us vs hkl (by omega) hgrow hm f3 e3 (fun h=>by cases h) (fun _=>⟨bn,rfl,fun j u hj=>(f5 j u hj).2⟩) (fun j u hj=>(e5 j u hj).2) f6 e6 hby h63
  refine wpIn_call (f:=.func f) h (x:=#[]) (y:=#[]) (by rfl) hl.call (R:=_) (by simp only [vx,vi,vy,List.map_cons,List.map_nil,Array.toList_empty,List.nil_append,List.append_nil];exact hcall) (fun u w' hR=>?_) (fun ch w' hR=>?_) (fun w' hR=>?_)
  ·obtain⟨g,N,ncap,arr',ty',hA,q1,q2,q3,q4,q6,q5⟩:=hR
   injection hA with hA;subst hA
   obtain⟨l1,l2⟩:=H.growBox g q1 (n:=qn) hqn ag q2 (hrep (GLe.refl G w) q5) hone' {(default:Loop) with defers:=ncap*sz} q6
   obtain⟨m1,m2⟩:=l2.freeze (n:=n) (by rw [Hp.upd_ne hqnn];exact hn) (by simp only [if_neg hqnn];exact hbn)
   rw [upd_new hqnn] at m2
   exact hKK _ w' _ (l1.trans m1) m2 (.bsl (by simp) (Nat.le_refl _) q3 q4 (.inr (by simp)))
  ·obtain⟨_,_,_,_,_,hA,_⟩:=hR;cases hA
  ·obtain⟨_,_,_,_,_,hA,_⟩:=hR;cases hA
 ·have hcap:cn'*sz<=arn.size:=by
   rcases hroom with hr | hr
   ·omega
   ·rw [Nat.zero_add] at hr;omega
  have hcall:=hl.place w bn l cn' k bq m cq' us vs arn tyn arq tyq hkl hplace hn3 hm hbne f1 hcap e1 f3 e3 (fun j u hj=>(f5 j u hj).1) (fun j u hj=>(e5 j u hj).1) f6 e6
  refine wpIn_call (f:=.func f) h (x:=#[]) (y:=#[]) (by rfl) hl.call (R:=_) (by simp only [vx,vi,vy,List.map_cons,List.map_nil,Array.toList_empty,List.nil_append,List.append_nil];exact hcall) (fun u w' hR=>?_) (fun ch w' hR=>?_) (fun w' hR=>?_)
  ·obtain⟨hA,hw,hblk,arr',hnew,hsz,hval⟩:=hR
   injection hA with hA;subst hA
   obtain⟨l1,l2⟩:=H.setWhole hn hbn (cs':=((ds.take (l*sz)).take (k*sz)++dv.take (m*sz)++(ds.take (l*sz)).drop (k*sz)).map .d) f1 hw hblk hnew hsz (hrep (GLe.refl G w) hval) hone'
   obtain⟨m1,m2⟩:=l2.move (q:=qn) (n:=n) (by rw [upd_one,if_pos rfl]) hbn (by rw [Hp.upd_ne (fun e=>hqnn e.symm)];exact hqn) {(default:Loop) with defers:=cn'*sz} (fun arr ty hh=>by rw [hnew] at hh;injection hh with hh;injection hh with hh;subst hh;rw [hsz];exact hcap)
   rw [upd_move] at m2
   exact hKK _ w' _ (l1.trans m1) m2 (.bsl (by simp) (Nat.le_refl _) hplace hn3 (.inr (by simp)))
  ·cases hR.1
  ·cases hR.1
theorem sound_libDelW{f x x' i i' j j' ts} {sz n l qn:Nat}{ag:Bool}{cs:List AV}{ds:List D}(h:o.op=.call {callee:=.value (.func f),args:=#[x,i,j],argTypes:=ts}) (hx:CO x x') (hi:CO i i') (hj:CO j j') (hl:DelOk P f sz) (hds:allD cs=some ds) (ix jx:Int)
  (hc:(0<=ix∧ix<l∧jx=ix+1)∧l*sz<=ds.length) (hnew:¬ qn=n) (p:Prop) :
  OpLoc E P ro o [(x',.bsl n 0 sz l l),(i',.d (.lit (.int .i64 ix))),(j',.d (.lit (.int .i64 jx)))] {c:=p,v:=.bsl qn 0 sz (l-1) (l-1),hin:=[(n,.box ag cs)],up:=[(qn,.box ag (wr ((elsD sz l ds).eraseIdx ix.toNat))),(n,.dead)]}:=by
 intro G a w hp H hvs hin hf K Q hK
 obtain⟨⟨hi0,hil,rfl⟩,hld⟩:=hc
 have hqn:hp qn=none:=by
  rcases hf (qn,.box ag (wr ((elsD sz l ds).eraseIdx ix.toNat))) (by simp) with h' | ⟨_,hz',hz2⟩
  ·exact h'
  ·simp at hz';subst hz';exact absurd hz2.symm hnew
 have vi:=(hvs (i',.d (.lit (.int .i64 ix))) (by simp) i hi).lit.1
 have vj:=(hvs (j',.d (.lit (.int .i64 (ix+1)))) (by simp) j hj).lit.1
 obtain⟨bn,cn',hbn,hn1,hn2,hn3,hroom,vx⟩:=bslv (hvs (x',.bsl n 0 sz l l) (by simp) x hx)
 have hn:hp n=some (.box ag cs):=hin (n,.box ag cs) (by simp)
 have hqnn:¬ n=qn:=fun e=>hnew e.symm
 obtain⟨arn,tyn,us,f1,f2,f3,f4,f5,f6,f7⟩:=box_cells H hn hbn hds (l*sz) hld
 obtain⟨t1,t2,t3⟩:=elsD_spec (z:=sz) (len:=l) (ds:=ds) hld f7
 obtain⟨k,hk⟩:∃ k:Nat,ix=k:=⟨ix.toNat,by omega⟩
 subst hk
 have hkl:k<l:=by omega
 obtain⟨g1,_⟩:=flat_take' (elsD sz l ds) k t2
 obtain⟨_,g2⟩:=flat_take' (elsD sz l ds) (k+1) t2
 have happ:∀ a b:List D,D.flat (a++b)=D.flat a++D.flat b:=fun a b=>by simp [D.flat]
 have her:(elsD sz l ds).eraseIdx k=(elsD sz l ds).take k++(elsD sz l ds).drop (k+1):=List.eraseIdx_eq_take_drop_succ _ _
 have hwr:wr ((elsD sz l ds).eraseIdx k)=((ds.take (l*sz)).take (k*sz)++(ds.take (l*sz)).drop ((k+1)*sz)).map .d:=by unfold wr;rw [her,happ,g1,g2,t3]
 have hrl:RL G.I w ((ds.take (l*sz)).take (k*sz)++(ds.take (l*sz)).drop ((k+1)*sz)) (us.take (k*sz)++us.drop ((k+1)*sz)):=(f4.take _).app (f4.drop _)
 have hone:∀ c∈(ds.take (l*sz)).take (k*sz)++(ds.take (l*sz)).drop ((k+1)*sz),c.one=true:=fun c hc=>by
  rcases List.mem_append.1 hc with hc | hc
  ·exact f7 c (List.mem_of_mem_take (List.mem_of_mem_take hc))
  ·exact f7 c (List.mem_of_mem_take (List.mem_of_mem_drop hc))
 have hsz0:l*sz<=arn.size:=by
  rcases Nat.eq_zero_or_pos (l*sz) with h0 | h0
  ·omega
  ·have:=(f5 (l*sz-1) _ (List.getElem?_eq_getElem (by omega))).1
   have:=(Array.getElem?_eq_some_iff.1 this).1
   omega
 have hcap:cn'*sz<=arn.size:=by
  rcases hroom with hr | hr
  ·rw [hr];exact hsz0
  ·rw [Nat.zero_add] at hr;omega
 have hKK:=hK
 simp only [Int.toNat_natCast] at hKK
 rw [hwr] at hKK
 have hcall:=hl.run w bn l cn' k us arn tyn hkl (by omega) hn3 f1 f3 hsz0 (fun j u hj=>(f5 j u hj).1) f6
 refine wpIn_call (f:=.func f) h (x:=#[]) (y:=#[]) (by rfl) hl.call (R:=_) (by simp only [vx,vi,vj,List.map_cons,List.map_nil,Array.toList_empty,List.nil_append,List.append_nil];exact hcall) (fun u w' hR=>?_) (fun ch w' hR=>?_) (fun w' hR=>?_)
 ·obtain⟨hA,hw,hblk,arr',hnew',hsz,hval⟩:=hR
  injection hA with hA;subst hA
  have hlenb:(us.take (k*sz)++us.drop ((k+1)*sz)).length<=arr'.size:=by
   rcases Nat.lt_or_ge arr'.size (us.take (k*sz)++us.drop ((k+1)*sz)).length with h' | h'
   ·have:=hval arr'.size _ (List.getElem?_eq_getElem h')
    simp at this
   ·exact h'
  obtain⟨l1,l2⟩:=H.setWhole hn hbn (cs':=((ds.take (l*sz)).take (k*sz)++(ds.take (l*sz)).drop ((k+1)*sz)).map .d) f1 hw hblk hnew' hsz ⟨by rw [List.length_map,<- hrl.1];exact hlenb,fun j c v hj hv=>by
    simp only [List.getElem?_map,Option.map_eq_some_iff] at hj
    obtain⟨d,hd,rfl⟩:=hj
    have hlt:j<(us.take (k*sz)++us.drop ((k+1)*sz)).length:=by rw [hrl.1];exact(List.getElem?_eq_some_iff.1 hd).1
    have h2:=hval j _ (List.getElem?_eq_getElem hlt)
    rw [hv] at h2;injection h2 with h2;subst h2
    exact .d (hrl.2 j d _ hd (List.getElem?_eq_getElem hlt))⟩ (fun c hc=>by
    simp only [List.mem_map] at hc
    obtain⟨d,hd,rfl⟩:=hc
    exact hone d hd)
  obtain⟨m1,m2⟩:=l2.move (q:=qn) (n:=n) (by rw [upd_one,if_pos rfl]) hbn (by rw [Hp.upd_ne hnew];exact hqn) {(default:Loop) with defers:=cn'*sz} (fun arr ty hh=>by rw [hnew'] at hh;injection hh with hh;injection hh with hh;subst hh;rw [hsz];exact hcap)
  rw [upd_move] at m2
  exact hKK _ w' _ (l1.trans m1) m2 (.bsl (by simp) (Nat.le_refl _) (by omega) hn3 (.inr (by simp)))
 ·cases hR.1
 ·cases hR.1
end
theorem putObj_put{w:World}{b:Nat}{o x:Obj}(h:w.heap[b]?=some o):(w.putObj b x).putObj b o=w:=by
 unfold World.putObj
 cases w with
 | mk heap tape drawn os output =>
  simp only at h ⊢
  congr 1
  apply Array.ext_getElem?
  intro k
  obtain⟨hlt,_⟩:=Array.getElem?_eq_some_iff.1 h
  by_cases e:b=k
  ·subst e
   rw [Array.getElem?_setIfInBounds_self_of_lt (by simpa using hlt),h]
  ·rw [Array.getElem?_setIfInBounds_ne e,Array.getElem?_setIfInBounds_ne e]
section
variable {E:Env}{P:Program}{ro:Option Nat}{o:Oper}
theorem sound_mapClone{f x x' ts n qn} {es:List (Value×AV)}(h:o.op=.call {callee:=.value (.func f),args:=#[x],argTypes:=ts}) (hx:CO x x') (hl:MapCloneOk P f) (hnew:¬ qn=n) (p:Prop) :
  OpLoc E P ro o [(x',.mp n)] {c:=p,v:=.mp qn,hin:=[(n,.mapo es)],up:=[(qn,.mapo es)]}:=by
 intro G a w hp H hvs hin hf K Q hK
 have hqn:hp qn=none:=by
  rcases hf (qn,.mapo es) (by simp) with h' | ⟨_,hz',hz2⟩
  ·exact h'
  ·simp at hz';subst hz';exact absurd hz2.symm hnew
 have vx:=hvs (x',.mp n) (by simp) x hx
 obtain⟨b,arr,ck,f1,f2,f3⟩:=H.mapo n es (hin (n,.mapo es) (by simp))
 have vx:a.eval x=.map (some b):=by
  generalize a.eval x=ux at vx
  cases vx
  rename_i b' hb'
  rw [hb'] at f1;injection f1 with f1;rw [f1]
 refine wpIn_call (f:=.func f) h (x:=#[]) (y:=#[]) (by rfl) hl.call (R:=_) (by simp only [vx,List.map_cons,List.map_nil,Array.toList_empty,List.nil_append,List.append_nil];exact hl.run w b arr ck f2) (fun u w' hR=>?_) (fun ch w' hR=>?_) (fun w' hR=>?_)
 ·obtain⟨hA,rfl⟩:=hR
  injection hA with hA;subst hA
  obtain⟨l1,l2⟩:=H.newAny hqn default (.map arr ck) (.mapo es) (.inr ⟨es,arr,ck,rfl,rfl,f3⟩)
  exact hK _ _ _ l1 l2 (.mp (by simp))
 ·cases hR.1
 ·cases hR.1
theorem sound_mapKeys{f g x x' ts n qn} {es:List (Value×AV)}(h:o.op=.call {callee:=.value (.func f),args:=#[x],argTypes:=ts}) (hx:CO x x') (hl:MapKeysOk P f g) (hnew:¬ qn=n) (p:Prop) :
  OpLoc E P ro o [(x',.mp n)] {c:=p,v:=.fn (.func g) [] [.ptr qn 0],hin:=[(n,.mapo es)],up:=[(qn,.box false [.mp n])]}:=by
 intro G a w hp H hvs hin hf K Q hK
 have hqn:hp qn=none:=by
  rcases hf (qn,.box false [.mp n]) (by simp) with h' | ⟨_,hz',hz2⟩
  ·exact h'
  ·simp at hz';subst hz';exact absurd hz2.symm hnew
 have vx:=hvs (x',.mp n) (by simp) x hx
 obtain⟨b,arr,ck,f1,f2,f3⟩:=H.mapo n es (hin (n,.mapo es) (by simp))
 have vx:a.eval x=.map (some b):=by
  generalize a.eval x=ux at vx
  cases vx
  rename_i b' hb'
  rw [hb'] at f1;injection f1 with f1;rw [f1]
 refine wpIn_call (f:=.func f) h (x:=#[]) (y:=#[]) (by rfl) hl.call (R:=_) (by simp only [vx,List.map_cons,List.map_nil,Array.toList_empty,List.nil_append,List.append_nil];exact hl.run w b) (fun u w' hR=>?_) (fun ch w' hR=>?_) (fun w' hR=>?_)
 ·obtain⟨ty,hA,rfl⟩:=hR
  injection hA with hA;subst hA
  obtain⟨l1,l2⟩:=H.newBox hqn false (cs:=[.mp n]) (arr:=#[.map (some b)]) ty ⟨rfl,fun k c v hk hv=>by
   cases k <;> simp at hk hv;subst hk;subst hv;exact .mp f1⟩ (fun c hc=>by simp at hc;subst hc;rfl)
  refine hK _ _ _ l1 l2 (.fn rfl rfl (fun k c v hk=>by simp at hk) (fun k c v hk hv=>?_))
  cases k <;> simp at hk hv
  subst hk;subst hv
  exact .ptr (by simp)
 ·obtain⟨_,hA,_⟩:=hR;cases hA
 ·obtain⟨_,hA,_⟩:=hR;cases hA
theorem repE_keys{G:Gh}{w:World}{es:List (Value×AV)}{arr:Array MapEntry}{ck:Nat}(h:RepE G w es arr ck) (v:Value):v∈(keysOf es).map (·.1)↔∃ x∈arr.toList,x.key=v:=by
 unfold keysOf
 cases hm:mkd es with
 | true =>
  have h2:=h.2
  rw [if_pos hm] at h2
  simpa using h2 v
 | false =>
  have f3:=h.pos hm
  simp only [Bool.false_eq_true,if_false]
  constructor
  ·intro hv
   obtain⟨e,he,rfl⟩:=List.mem_map.1 hv
   obtain⟨k,hk,rfl⟩:=List.mem_iff_getElem.1 he
   have hk2:k<arr.size:=by rw [f3.1];exact hk
   exact⟨arr[k],Array.getElem_mem_toList hk2,(f3.2 k _ _ (List.getElem?_eq_getElem hk) (Array.getElem?_eq_getElem hk2)).1⟩
  ·rintro⟨x,hx,rfl⟩
   obtain⟨k,hk,rfl⟩:=List.mem_iff_getElem.1 hx
   have hk1:k<arr.size:=by simpa using hk
   have hk2:k<es.length:=by rw [<- f3.1];exact hk1
   refine List.mem_map.2 ⟨es[k],List.getElem_mem hk2,?_⟩
   rw [<- (f3.2 k _ arr[k] (List.getElem?_eq_getElem hk2) (Array.getElem?_eq_getElem hk1)).1]
   simp
theorem repE_size{G:Gh}{w:World}{es:List (Value×AV)}{arr:Array MapEntry}{ck:Nat}(h:RepE G w es arr ck) (hm:mkd es=false):arr.size=es.length:=(h.pos hm).1
theorem sound_mapCopy{f x x' y y' ts n m sz} {es fs:List (Value×AV)}(h:o.op=.call {callee:=.value (.func f),args:=#[x,y],argTypes:=ts}) (hx:CO x x') (hy:CO y y') (hl:MapCopyOk P f sz)
  (hc:(n≠m∧mkd es=false∧mkd fs=false)∧(∀ e∈es++fs,∃ a,e.1=.int .i64 a∧-9223372036854775808<=a∧a<9223372036854775808)∧(∀ e∈fs,∃ cs,e.2=.d (.agg cs)∧cs.length=sz)∧es.length+fs.length<=1000000) (p:Prop) :
  OpLoc E P ro o [(x',.mp n),(y',.mp m)] {c:=p,v:=.d (.tup []),hin:=[(n,.mapo es),(m,.mapo fs)],up:=[(n,.mapo ((.tuple #[],.tup [])::(es++fs).map fun e=>(e.1,.tup [])))]}:=by
 intro G a w hp H hvs hin hf K Q hK
 obtain⟨⟨hnm,hm1,hm2⟩,hks,hvl,hlen⟩:=hc
 have hn:=hin (n,.mapo es) (by simp)
 have hm:=hin (m,.mapo fs) (by simp)
 simp only at hn hm
 have vx:=hvs (x',.mp n) (by simp) x hx
 have vy:=hvs (y',.mp m) (by simp) y hy
 obtain⟨b,arr,ck,f1,f2,f3⟩:=H.mapo n es hn
 obtain⟨c,brr,dk,g1,g2,g3⟩:=H.mapo m fs hm
 have vx:a.eval x=.map (some b):=by
  generalize a.eval x=ux at vx
  cases vx
  rename_i b' hb'
  rw [hb'] at f1;injection f1 with f1;rw [f1]
 have vy:a.eval y=.map (some c):=by
  generalize a.eval y=ux at vy
  cases vy
  rename_i b' hb'
  rw [hb'] at g1;injection g1 with g1;rw [g1]
 have hbc:b≠c:=fun e=>hnm (H.binj1 f1 (e ▸ g1) hn (fun q=>by cases q) hm (fun q=>by cases q))
 have hkey:∀ z∈arr.toList++brr.toList,∃ t,z.key=.int .i64 t∧-9223372036854775808<=t∧t<9223372036854775808:=fun z hz=>by
  rcases List.mem_append.1 hz with hz | hz
  ·have:=(repE_keys f3 z.key).2 ⟨z,hz,rfl⟩
   unfold keysOf at this;rw [hm1] at this
   obtain⟨e,he,hk⟩:=List.mem_map.1 this
   obtain⟨t,ht⟩:=hks e (List.mem_append.2 (.inl he))
   exact⟨t,by rw [<- hk];exact ht.1,ht.2⟩
  ·have:=(repE_keys g3 z.key).2 ⟨z,hz,rfl⟩
   unfold keysOf at this;rw [hm2] at this
   obtain⟨e,he,hk⟩:=List.mem_map.1 this
   obtain⟨t,ht⟩:=hks e (List.mem_append.2 (.inr he))
   exact⟨t,by rw [<- hk];exact ht.1,ht.2⟩
 have hval:∀ z∈brr.toList,∃ vs:Array Value,z.val=.agg vs∧vs.size=sz∧∀ v∈vs.toList,v.oneCell'=true:=fun z hz=>by
  have p3:=g3.pos hm2
  obtain⟨k,hk,rfl⟩:=List.mem_iff_getElem.1 hz
  have hk1:k<brr.size:=by simpa using hk
  have hk2:k<fs.length:=by rw [<- p3.1];exact hk1
  have q:=(p3.2 k _ brr[k] (List.getElem?_eq_getElem hk2) (Array.getElem?_eq_getElem hk1)).2
  obtain⟨cs,hcs,hl⟩:=hvl fs[k] (List.getElem_mem hk2)
  rw [hcs] at q
  have q:=q.of_d
  simp only [Array.getElem_toList]
  generalize brr[k].val=V at q
  cases q
  rename_i hl' h1 hrep
  refine⟨_,rfl,by rw [hl',hl],fun v hv=>?_⟩
  obtain⟨j,hj,rfl⟩:=List.mem_iff_getElem.1 hv
  have hj1:j<cs.length:=by rw [<- hl'];simpa using hj
  exact((hrep j _ _ (List.getElem?_eq_getElem hj1) (by rw [<- Array.getElem?_toList];exact List.getElem?_eq_getElem hj)).oneCell (h1 _ (List.getElem_mem hj1))).2
 refine wpIn_call (f:=.func f) h (x:=#[]) (y:=#[]) (by rfl) hl.call (R:=_) (by simp only [vx,vy,List.map_cons,List.map_nil,Array.toList_empty,List.nil_append,List.append_nil];exact hl.run w b c arr ck brr dk hbc f2 g2 f3.1 g3.1 hkey hval (by rw [repE_size f3 hm1,repE_size g3 hm2];exact hlen)) (fun u w' hR=>?_) (fun ch w' hR=>?_) (fun w' hR=>?_)
 ·obtain⟨hA,⟨r1,r2,r3,r4⟩,r5,arr',ck',r6,r7,r8⟩:=hR
  injection hA with hA;subst hA
  have hblt:b<w.heap.size:=(Array.getElem?_eq_some_iff.1 f2).1
  have hblt':b<w'.heap.size:=by omega
  have g0:Grow w (w'.putObj b (.map arr ck)):=⟨r1,r2,r3,by simpa using r4,fun k hk=>by
   by_cases e:k=b
   ·subst e;rw [World.putObj_heap_same hblt',f2]
   ·rw [World.putObj_heap_other e];exact r5 k hk e⟩
  obtain⟨l1,l2⟩:=H.grow g0 G.I (fun _ h=>h) (fun _ h=>.inl h) (fun ad ha=>by rw [g0.cell (H.ilt ha)];exact H.icell ad ha)
  have hE:RepE G (w'.putObj b (.map arr ck)) ((.tuple #[],.tup [])::(es++fs).map fun e=>(e.1,.tup [])) arr' ck':=by
   have hmk:mkd ((Value.tuple #[],AV.tup [])::(es++fs).map fun e=>(e.1,AV.tup []))=true:=rfl
   refine⟨r7,?_⟩
   rw [if_pos hmk]
   intro v
   rw [r8 v,<- repE_keys f3 v,<- repE_keys g3 v]
   unfold keysOf
   rw [hm1,hm2]
   simp only [List.tail_cons,List.map_map,Bool.false_eq_true,if_false,Function.comp_def,List.map_append,List.mem_append]
  obtain⟨m1,m2⟩:=l2.putAny (n:=n) (b:=b) (by rw [hn];simp) f1 (.map arr' ck') (.mapo ((.tuple #[],.tup [])::(es++fs).map fun e=>(e.1,.tup []))) (.inr (.inr ⟨_,_,_,rfl,rfl,hE⟩))
  have hw:(w'.putObj b (.map arr ck)).putObj b (.map arr' ck')=w':=putObj_put r6
  rw [hw] at m1 m2
  exact hK _ w' _ (l1.trans m1) m2 (.d (.tup rfl (fun k c v hk=>by simp at hk)))
 ·cases hR.1
 ·cases hR.1
theorem mem_insU{x z:Int}:∀ {l:List Int},z∈insU x l↔z=x∨z∈l
 | []=>by simp [insU]
 | y::r=>by
  rw [insU]
  split
  ·simp
  ·split
   ·rename_i e;subst e;simp
   ·rw [List.mem_cons,mem_insU,List.mem_cons]
    constructor
    ·rintro(h | h | h)
     ·exact .inr (.inl h)
     ·exact .inl h
     ·exact .inr (.inr h)
    ·rintro(h | h | h)
     ·exact .inr (.inl h)
     ·exact .inl h
     ·exact .inr (.inr h)
theorem insU_lt{x:Int}:∀ {l:List Int},l.Pairwise (· < ·)->(insU x l).Pairwise (· < ·)
 | [],_=>by simp [insU]
 | y::r,h=>by
  rw [List.pairwise_cons] at h
  rw [insU]
  split
  ·rename_i hx
   refine List.pairwise_cons.2 ⟨fun z hz=>?_,List.pairwise_cons.2 h⟩
   rcases List.mem_cons.1 hz with rfl | hz
   ·exact hx
   ·have:=h.1 z hz;omega
  ·split
   ·exact List.pairwise_cons.2 h
   ·refine List.pairwise_cons.2 ⟨fun z hz=>?_,insU_lt h.2⟩
    rcases mem_insU.1 hz with rfl | hz
    ·omega
    ·exact h.1 z hz
theorem mem_sortU{z:Int}:∀ {l:List Int},z∈sortU l↔z∈l
 | []=>by simp [sortU]
 | x::r=>by
  show z∈insU x (sortU r)↔_
  rw [mem_insU,mem_sortU,List.mem_cons]
theorem sortU_lt:∀ l:List Int,(sortU l).Pairwise (· < ·)
 | []=>.nil
 | x::r=>insU_lt (sortU_lt r)
theorem lt_ext:∀ {a b:List Int},a.Pairwise (· < ·)->b.Pairwise (· < ·)->(∀ z,z∈a↔z∈b)->a=b
 | [],[],_,_,_=>rfl
 | [],y::b,_,_,h=>absurd ((h y).2 (by simp)) (by simp)
 | x::a,[],_,_,h=>absurd ((h x).1 (by simp)) (by simp)
 | x::a,y::b,ha,hb,h=>by
  rw [List.pairwise_cons] at ha hb
  have hxy:x=y:=by
   rcases List.mem_cons.1 ((h x).1 (by simp)) with h1 | h1
   ·exact h1
   ·rcases List.mem_cons.1 ((h y).2 (by simp)) with h2 | h2
    ·exact h2.symm
    ·have:=ha.1 y h2;have:=hb.1 x h1;omega
  subst hxy
  rw [lt_ext ha.2 hb.2 (fun z=>?_)]
  have hz:=h z
  simp only [List.mem_cons] at hz
  constructor
  ·intro q
   rcases hz.1 (.inr q) with e | q'
   ·subst e;have:=ha.1 z q;omega
   ·exact q'
  ·intro q
   rcases hz.2 (.inr q) with e | q'
   ·subst e;have:=hb.1 z q;omega
   ·exact q'
theorem nodup_leV(a:List Value):∀ b:List Value,a.Nodup->(∀ x∈a,x∈b)->a.length<=b.length:=by
 induction a with
 | nil=>intro b _ _;simp
 | cons x r ih =>
  intro b h1 h2
  rw [List.nodup_cons] at h1
  obtain⟨s,t,rfl⟩:=List.append_of_mem (h2 x (by simp))
  have h3:=ih (s++t) h1.2 fun y hy=>by
   have hyx:y≠x:=fun e=>h1.1 (e ▸ hy)
   rcases List.mem_append.1 (h2 y (by simp [hy])) with q | q
   ·exact List.mem_append.2 (.inl q)
   ·rcases List.mem_cons.1 q with q | q
    ·exact absurd q hyx
    ·exact List.mem_append.2 (.inr q)
  simp only [List.length_cons,List.length_append] at h3 ⊢
  omega
theorem flat_ints:∀ l:List Int,D.flat (l.map fun t=>D.lit (.int .i64 t))=l.map fun t=>D.lit (.int .i64 t)
 | []=>rfl
 | a::r=>by
  show (D.lit (.int .i64 a)).cells++D.flat (r.map fun t=>D.lit (.int .i64 t))=_
  rw [flat_ints r];rfl
theorem RepA.fn_inv0{G:Gh}{w:World}{f:Fn}{first caps:List AV}{u:Value}(h:RepA G w (.fn f first caps) u):∃ a b,u=.func f a b∧a.size=first.length∧b.size=caps.length∧(∀ (k:Nat) (c:AV) (v:Value),first[k]?=some c->a[k]?=some v->RepA G w c v)∧∀ (k:Nat) (c:AV) (v:Value),caps[k]?=some c->b[k]?=some v->RepA G w c v:=by
 cases h with
 | fn h1 h2 h3 h4=>exact⟨_,_,rfl,h1,h2,h3,h4⟩
theorem RepA.ptr_inv0{G:Gh}{w:World}{n k:Nat}{u:Value}(h:RepA G w (.ptr n k) u):∃ b,u=.pointer (some ⟨b,k,none⟩)∧G.box n=some b:=by
 cases h with
 | ptr hg=>exact⟨_,rfl,hg⟩
theorem sound_sorted{f g x x' ts n q ag} {es:List (Value×AV)}(h:o.op=.call {callee:=.value (.func f),args:=#[x],argTypes:=ts}) (hx:CO x x') (hl:SortedOk P f g)
  (hc:(∀ e∈keysOf es,∃ a,e.1=.int .i64 a∧-9223372036854775808<=a∧a<9223372036854775808)∧(keysOf es).length<=1000000) (p:Prop) :
  OpLoc E P ro o [(x',.fn (.func g) [] [.ptr q 0])] {c:=p,v:=.d (.sl 1 ((sortU ((keysOf es).filterMap keyZ)).map fun t=>.lit (.int .i64 t))),hin:=[(q,.box ag [.mp n]),(n,.mapo es)]}:=by
 intro G a w hp H hvs hin hf K Q hK
 obtain⟨hks,hlen⟩:=hc
 have vx:=hvs (x',.fn (.func g) [] [.ptr q 0]) (by simp) x hx
 have hq:=hin (q,.box ag [.mp n]) (by simp)
 have hn:=hin (n,.mapo es) (by simp)
 simp only at hq hn
 obtain⟨b,arr,ck,f1,f2,f3⟩:=H.mapo n es hn
 obtain⟨B,row,ty,e1,e2,e3,e4,_⟩:=H.box q ag [.mp n] hq
 have hcell:w.cell? ⟨B,0,none⟩=some (.map (some b)):=by
  rw [cell_of_row w B 0 row ty (0,0) e2]
  have h0:0<row.size:=by have:=e3.1;simp at this;omega
  have:=e3.2 0 (.mp n) row[0] rfl (Array.getElem?_eq_getElem h0)
  rw [Array.getElem?_eq_getElem h0]
  generalize row[0]=V at this
  cases this
  rename_i b' hb'
  rw [hb'] at f1;injection f1 with f1;rw [f1]
 have vx:a.eval x=.func (.func g) #[] #[.pointer (some ⟨B,0,none⟩)]:=by
  obtain⟨A,C,hu,h1,h2,_,h4⟩:=vx.fn_inv0
  rw [hu]
  obtain rfl:A=#[]:=Array.eq_empty_of_size_eq_zero h1
  have hC0:0<C.size:=by rw [h2];simp
  obtain⟨b',hb1,hb2⟩:=(h4 0 (.ptr q 0) C[0] rfl (Array.getElem?_eq_getElem hC0)).ptr_inv0
  rw [hb2] at e1;injection e1 with e1;subst e1
  have:C=#[.pointer (some ⟨b',0,none⟩)]:=by
   apply Array.ext
   ·rw [h2];rfl
   ·intro i hi1 hi2
    have:i=0:=by simp at hi2;omega
    subst this;simpa using hb1
  rw [this]
 have hkey:∀ z∈arr.toList,∃ t,z.key=.int .i64 t∧-9223372036854775808<=t∧t<9223372036854775808:=fun z hz=>by
  obtain⟨e,he,hk⟩:=List.mem_map.1 ((repE_keys f3 z.key).2 ⟨z,hz,rfl⟩)
  obtain⟨t,ht⟩:=hks e he
  exact⟨t,by rw [<- hk];exact ht.1,ht.2⟩
 have hsz:arr.size<=1000000:=by
  have:=nodup_leV (arr.toList.map (·.key)) ((keysOf es).map (·.1)) f3.1.2.2 (fun v hv=>by
   obtain⟨z,hz,rfl⟩:=List.mem_map.1 hv
   exact(repE_keys f3 z.key).2 ⟨z,hz,rfl⟩)
  simp at this;omega
 refine wpIn_call (f:=.func f) h (x:=#[]) (y:=#[]) (by rfl) hl.call (R:=_) (by simp only [vx,List.map_cons,List.map_nil,Array.toList_empty,List.nil_append,List.append_nil];exact hl.run w B b arr ck hcell f2 f3.1 hkey hsz) (fun u w' hR=>?_) (fun ch w' hR=>?_) (fun w' hR=>?_)
 ·obtain⟨g0,ss,s1,s2,s3⟩:=hR
  have hss:ss=sortU ((keysOf es).filterMap keyZ):=lt_ext s1 (sortU_lt _) fun z=>by
   rw [s2 z,mem_sortU,<- repE_keys f3,List.mem_filterMap,List.mem_map]
   constructor
   ·rintro⟨e,he,hk⟩
    exact⟨e,he,by obtain⟨e1,e2⟩:=e;simp only at hk;subst hk;rfl⟩
   ·rintro⟨e,he,hk⟩
    obtain⟨t,ht,_⟩:=hks e he
    refine⟨e,he,?_⟩
    obtain⟨e1,e2⟩:=e
    simp only at ht;subst ht
    simp only [keyZ,Option.some.injEq] at hk
    rw [hk]
  rw [<- hss] at hK
  have hrng:∀ t∈ss,-9223372036854775808<=t∧t<9223372036854775808:=fun t ht=>by
   obtain⟨z,hz,hk⟩:=(s2 t).1 ht
   obtain⟨t',ht',hr⟩:=hkey z hz
   rw [hk] at ht';injection ht' with _ ht';subst ht';exact hr
  rcases s3 with ⟨h0,hA⟩ | ⟨N,cap,row',ty',hA,q1,q2,q3,q4,q5⟩
  ·injection hA with hA;subst hA
   subst h0
   obtain⟨l1,l2⟩:=H.grow g0 G.I (fun _ h=>h) (fun _ h=>.inl h) (fun ad ha=>by rw [g0.cell (H.ilt ha)];exact H.icell ad ha)
   exact hK _ w' _ l1 l2 (.d (.sl ⟨0,0,none⟩ (fun _=>default) rfl (Nat.le_refl _) (by omega) (.inr rfl) (fun e he=>by simp at he) (fun c hc=>by simp [D.flat] at hc) (fun k c hk=>by simp [D.flat] at hk) (fun k c hk=>by simp [D.flat] at hk)))
  ·injection hA with hA;subst hA
   have hfl:=flat_ints ss
   obtain⟨G',l1,l2,_,l3⟩:=newblock H g0 q1 q2 (es:=ss.map fun t=>D.lit (.int .i64 t)) (vs:=ss.map fun t=>Value.int .i64 t) (n:=ss.length) (sz:=1) (by simp) q3 q4 (fun e he=>by
    obtain⟨t,_,rfl⟩:=List.mem_map.1 he;rfl) (fun c hc=>by
    rw [hfl] at hc
    obtain⟨t,_,rfl⟩:=List.mem_map.1 hc;rfl) (by
    rw [hfl]
    refine⟨by simp,fun k d u hd hu=>?_⟩
    simp only [List.getElem?_map,Option.map_eq_some_iff] at hd hu
    obtain⟨t,ht,rfl⟩:=hd
    obtain⟨t',ht',rfl⟩:=hu
    rw [ht] at ht';injection ht' with ht';subst ht'
    have hr:=hrng t (List.mem_of_getElem? ht)
    exact .lit ⟨by simp [IntKind.min,IntKind.signed,IntKind.bits];omega,by simp [IntKind.max,IntKind.signed,IntKind.bits];omega⟩) (fun j u hj=>by
    simp only [List.getElem?_map,Option.map_eq_some_iff] at hj
    obtain⟨t,ht,rfl⟩:=hj
    exact q5 j t ht)
   exact hK _ w' _ l1 l2 (.d l3)
 ·obtain⟨_,_,_,_,⟨_,hA⟩ | ⟨_,_,_,_,hA,_⟩⟩:=hR <;> cases hA
 ·obtain⟨_,_,_,_,⟨_,hA⟩ | ⟨_,_,_,_,hA,_⟩⟩:=hR <;> cases hA
end
def litV:SK->Value->Option Lit
 | .int k,.int k' n=>if k'=k∧(Lit.int k n).wf=true then some (.int k n) else none
 | .bool,.bool b=>some (.bool b)
 | .str,.string s=>if s.size<=maxLen then some (.string s.data.toList) else none
 | _,_=>none
def litsV:List SK->List Value->Option (List Lit)
 | [],[]=>some []
 | k::ks,v::vs=>match litV k v,litsV ks vs with
  | some l,some ls=>some (l::ls)
  | _,_=>none
 | _,_=>none
theorem litsV_append:∀ {ks1 ks2:List SK}{vs:List Value}{l:List Lit},litsV (ks1++ks2) vs=some l->∃ l1 l2,litsV ks1 (vs.take ks1.length)=some l1∧litsV ks2 (vs.drop ks1.length)=some l2∧l=l1++l2
 | [],ks2,vs,l,h=>⟨[],l,by simp [litsV],by simpa using h,rfl⟩
 | k::ks,ks2,[],l,h=>by simp [litsV] at h
 | k::ks,ks2,v::vs,l,h=>by
  simp only [List.cons_append,litsV] at h
  split at h
  ·rename_i a b h1 h2
   obtain⟨l1,l2,e1,e2,e3⟩:=litsV_append h2
   injection h with h
   exact⟨a::l1,l2,by simp [litsV,h1,e1],by simpa using e2,by simp [<- h,e3]⟩
  ·cases h
theorem litsV_len:∀ {ks:List SK}{vs:List Value}{l:List Lit},litsV ks vs=some l->vs.length=ks.length
 | [],[],_,_=>rfl
 | [],_::_,_,h=>by simp [litsV] at h
 | _::_,[],_,h=>by simp [litsV] at h
 | k::ks,v::vs,l,h=>by
  simp only [litsV] at h
  split at h
  ·rename_i h2;simp [litsV_len h2]
  ·cases h
section
variable {P:Program}
theorem fields_lits{m:Nat}{cs:List Value}(IH:∀ t ks vs l,kindsOf P m t=some ks->litsV ks vs=some l->P.keyLits m t vs=some l) :
  ∀ {fs:List Field}{off:Nat}{ks:List SK}{l:List Lit},kindsF P (kindsOf P m) off fs=some ks->litsV ks (cs.drop off)=some l ->
   ∃ as,fs.mapM (fun f=>P.keyLits m f.type ((cs.drop f.offset).take (P.cellsOf f.type)))=some as∧as.flatten=l
 | [],off,ks,l,h,hl=>by
  simp only [kindsF,Option.some.injEq] at h;subst h
  cases hd:cs.drop off with
  | nil=>rw [hd] at hl;simp [litsV] at hl;exact⟨[],by simp,by simp [hl]⟩
  | cons a b=>rw [hd] at hl;simp [litsV] at hl
 | f::r,off,ks,l,h,hl=>by
  simp only [kindsF] at h
  split at h
  ·rename_i k1 hk
   split at h
   ·rename_i hc
    obtain⟨rfl,hc2⟩:=hc
    simp only [Option.map_eq_some_iff] at h
    obtain⟨k2,h2,rfl⟩:=h
    obtain⟨l1,l2,e1,e2,rfl⟩:=litsV_append hl
    rw [List.drop_drop] at e2
    obtain⟨as,i1,i2⟩:=fields_lits IH h2 e2
    refine⟨l1::as,?_,by simp [i2]⟩
    rw [List.mapM_cons,hc2,IH _ _ _ _ hk e1,i1]
    rfl
   ·cases h
  ·cases h
theorem items_lits{m:Nat}{cs:List Value}{e:TypeId}{ks:List SK}(IH:∀ vs l,litsV ks vs=some l->P.keyLits m e vs=some l) (hc:P.cellsOf e=ks.length) :
  ∀ {n i0:Nat}{l:List Lit},litsV (List.replicate n ks).flatten (cs.drop (i0*ks.length))=some l ->
   ∃ as,(List.range' i0 n).mapM (fun i=>P.keyLits m e ((cs.drop (i*P.cellsOf e)).take (P.cellsOf e)))=some as∧as.flatten=l
 | 0,i0,l,hl=>by
  cases hd:cs.drop (i0*ks.length) with
  | nil=>rw [hd] at hl;simp [litsV] at hl;exact⟨[],by simp,by simp [hl]⟩
  | cons a b=>rw [hd] at hl;simp [litsV] at hl
 | n+1,i0,l,hl=>by
  rw [List.replicate_succ,List.flatten_cons] at hl
  obtain⟨l1,l2,e1,e2,rfl⟩:=litsV_append hl
  rw [List.drop_drop,show i0*ks.length+ks.length=(i0+1)*ks.length by rw [Nat.succ_mul]] at e2
  obtain⟨as,i1,i2⟩:=items_lits IH hc e2
  refine⟨l1::as,?_,by simp [i2]⟩
  rw [List.range'_succ,List.mapM_cons]
  rw [hc] at i1 ⊢
  rw [IH _ _ e1,i1]
  rfl
theorem keyLits_kinds:∀ (m:Nat) (t:TypeId) (ks:List SK) (vs:List Value) (l:List Lit),kindsOf P m t=some ks->litsV ks vs=some l->P.keyLits m t vs=some l
 | 0,_,_,_,_,h,_=>by simp [kindsOf] at h
 | m+1,t,ks,vs,l,h,hl=>by
  have plain:∀ k,ks=[k]->∃ v a,vs=[v]∧l=[a]∧litV k v=some a:=fun k hk=>by
   subst hk
   match vs,hl with
   | [],hl=>simp [litsV] at hl
   | [v],hl =>
    simp only [litsV] at hl
    split at hl
    ·rename_i a b h1 h2;injection hl with hl;injection h2 with h2;subst h2;exact⟨v,a,rfl,hl.symm,h1⟩
    ·cases hl
   | v::u::r,hl =>
    simp only [litsV] at hl
    split at hl
    ·rename_i h2;simp at h2
    ·cases hl
  unfold kindsOf at h
  unfold Program.keyLits
  split at h
  ·rename_i hu
   injection h with h
   obtain⟨v,a,rfl,rfl,e⟩:=plain _ h.symm
   unfold litV at e
   split at e <;> simp_all
  ·rename_i hu
   injection h with h
   obtain⟨v,a,rfl,rfl,e⟩:=plain _ h.symm
   unfold litV at e
   split at e <;> simp_all
   obtain⟨⟨e1,e2⟩,e3⟩:=e
   subst e1;simp_all
  ·rename_i hu
   injection h with h
   obtain⟨v,a,rfl,rfl,e⟩:=plain _ h.symm
   unfold litV at e
   split at e <;> simp_all
  ·rename_i n e hu
   split at h
   ·rename_i k2 hk
    split at h
    ·rename_i hc
     injection h with h
     have hlen:=litsV_len hl
     rw [<- h] at hl hlen
     obtain⟨as,i1,i2⟩:=items_lits (P:=P) (m:=m) (cs:=vs) (e:=e) (fun vs l hvl=>keyLits_kinds m e k2 vs l hk hvl) hc.1 (n:=n) (i0:=0) (by simpa using hl)
     simp only [hu]
     rw [if_pos (by rw [hlen,hc.2];simp),List.range_eq_range',i1]
     simp [i2]
    ·cases h
   ·cases h
  ·rename_i fs hu
   split at h
   ·rename_i k2 hk
    split at h
    ·rename_i hc
     injection h with h
     subst h
     have hlen:=litsV_len hl
     obtain⟨as,i1,i2⟩:=fields_lits (P:=P) (m:=m) (cs:=vs) (fun t ks vs l hkl hvl=>keyLits_kinds m t ks vs l hkl hvl) (fs:=fs.toList) (off:=0) hk (by simpa using hl)
     simp only [hu]
     rw [if_pos ⟨by rw [hlen,hc.1],hc.2⟩,i1]
     simp [i2]
    ·cases h
   ·cases h
  ·cases h
theorem eqC_lits{I:Addr->Prop}{w:World}:∀ {ks:List SK}{xs ys:List D}{us vs:List Value},eqC ks xs ys->us.length=xs.length->vs.length=ys.length ->
  (∀ (k:Nat) (c:D) (v:Value),xs[k]?=some c->us[k]?=some v->Rep I w c v)->(∀ (k:Nat) (c:D) (v:Value),ys[k]?=some c->vs[k]?=some v->Rep I w c v) ->
  ∃ la lb,litsV ks us=some la∧litsV ks vs=some lb∧(eqB xs ys=true↔la=lb)∧xs.length=ks.length∧ys.length=ks.length
 | [],[],[],us,vs,_,hu,hv,_,_=>by
  have e1:us=[]:=List.eq_nil_of_length_eq_zero (by simpa using hu)
  have e2:vs=[]:=List.eq_nil_of_length_eq_zero (by simpa using hv)
  subst e1;subst e2
  exact⟨[],[],rfl,rfl,by simp [eqB],rfl,rfl⟩
 | k::ks,x::xs,y::ys,us,vs,h,hu,hv,h1,h2=>by
  cases us with
  | nil=>simp at hu
  | cons u us =>
  cases vs with
  | nil=>simp at hv
  | cons v vs =>
   have hx:=h1 0 x u rfl rfl
   have hy:=h2 0 y v rfl rfl
   have ih:eqC ks xs ys->∃ la lb,litsV ks us=some la∧litsV ks vs=some lb∧(eqB xs ys=true↔la=lb)∧xs.length=ks.length∧ys.length=ks.length:=fun h' =>
    eqC_lits h' (by simpa using hu) (by simpa using hv) (fun k c z a b=>h1 (k+1) c z (by simpa using a) (by simpa using b)) (fun k c z a b=>h2 (k+1) c z (by simpa using a) (by simpa using b))
   unfold eqC at h
   split at h
   ·rename_i heq1 heq2 heq3
    injection heq1 with a1 a2;injection heq2 with b1 b2;injection heq3 with c1 c2
    subst a1;subst a2;subst b1;subst b2;subst c1;subst c2
    obtain⟨rfl,rfl,h⟩:=h
    obtain⟨la,lb,e1,e2,e3,e4,e5⟩:=ih h
    cases hx;cases hy
    rename_i s1 s2
    simp only [Sc] at s1 s2
    refine⟨_,_,by simp [litsV,litV,e1,Lit.wf,s1];rfl,by simp [litsV,litV,e2,Lit.wf,s2];rfl,by simp [eqB,e3],by simp [e4],by simp [e5]⟩
   ·rename_i heq1 heq2 heq3
    injection heq1 with a1 a2;injection heq2 with b1 b2;injection heq3 with c1 c2
    subst a1;subst a2;subst b1;subst b2;subst c1;subst c2
    obtain⟨la,lb,e1,e2,e3,e4,e5⟩:=ih h
    cases hx;cases hy
    refine⟨_,_,by simp [litsV,litV,e1];rfl,by simp [litsV,litV,e2];rfl,by simp [eqB,e3],by simp [e4],by simp [e5]⟩
   ·rename_i heq1 heq2 heq3
    injection heq1 with a1 a2;injection heq2 with b1 b2;injection heq3 with c1 c2
    subst a1;subst a2;subst b1;subst b2;subst c1;subst c2
    obtain⟨la,lb,e1,e2,e3,e4,e5⟩:=ih h
    cases hx;cases hy
    rename_i s t s1 s2
    simp only [Sc] at s1 s2
    refine⟨_,_,by simp [litsV,litV,e1,maxLen,s1];rfl,by simp [litsV,litV,e2,maxLen,s2];rfl,?_,by simp [e4],by simp [e5]⟩
    simp only [eqB,Bool.and_eq_true,decide_eq_true_eq,e3,List.cons.injEq,Lit.string.injEq]
    constructor
    ·rintro⟨rfl,h⟩;exact⟨rfl,h⟩
    ·rintro⟨h1,h⟩;exact⟨by cases s;cases t;simp at h1;simp [h1],h⟩
   ·rename_i heq1 _ _;cases heq1
   ·exact h.elim
 | [],_::_,_,us,vs,h,_,_,_,_=>by simp [eqC] at h
 | [],[],_::_,us,vs,h,_,_,_,_=>by simp [eqC] at h
 | k::ks,[],_,us,vs,h,_,_,_,_=>by cases k <;> simp [eqC] at h
 | k::ks,x::xs,[],us,vs,h,_,_,_,_=>by
  exfalso
  unfold eqC at h
  split at h
  ·rename_i e;cases e
  ·rename_i e;cases e
  ·rename_i e;cases e
  ·rename_i e _ _;cases e
  ·exact h
theorem toDs_all:∀ {cs:List AV}{ds:List D},toDs cs=some ds->ds.length=cs.length∧∀ (k:Nat) (d:D),ds[k]?=some d->∃ c:AV,cs[k]?=some c∧c.toD1=some d
 | [],ds,h=>by simp [toDs] at h;subst h;simp
 | c::cs,ds,h=>by
  simp only [toDs] at h
  split at h
  ·rename_i x l h1 h2
   injection h with h;subst h
   obtain⟨i1,i2⟩:=toDs_all h2
   refine⟨by simp [i1],fun k d hk=>?_⟩
   cases k with
   | zero=>simp at hk;subst hk;exact⟨c,rfl,h1⟩
   | succ k=>exact i2 k d (by simpa using hk)
  ·cases h
theorem rowD_rep{G:Gh}{w:World}{x:AV}{xs:List D}{v:Value}(h:x.rowD=some xs) (hr:RepA G w x v):∃ cs,v=.agg cs∧cs.size=xs.length∧∀ (k:Nat) (c:D) (u:Value),xs[k]?=some c->cs.toList[k]?=some u->Rep G.I w c u:=by
 unfold AV.rowD at h
 split at h
 ·injection h with h;subst h
  cases hr;rename_i hr
  cases hr;rename_i vs hl h1 hr
  exact⟨vs,rfl,hl,fun k c u hk hu=>hr k c u hk (by simpa using hu)⟩
 ·cases hr;rename_i cs vs hl h1 hr
  obtain⟨i1,i2⟩:=toDs_all h
  refine⟨vs,rfl,by rw [hl,i1],fun k c u hk hu=>?_⟩
  obtain⟨a,ha,hd⟩:=i2 k c hk
  exact toD1_rep hd (hr k a u ha (by simpa using hu))
 ·cases h
end
section
variable {E:Env}{P:Program}{ro:Option Nat}{o:Oper}
theorem sound_eqrow{neg t u x y x' y' ks} {xv yv:AV}{xs ys:List D}(h:o.op=.binOp (if neg then .neq else .eql) t x y u) (hx:CO x x') (hy:CO y y') (hk:kindsOf P 20 t=some ks) (hkey:P.keyTypeAt 20 t=true) (hg:P.eqGuardType P.depth t=false)
  (hcl:P.cellsOf t=ks.length) (hr:(match P.underlying t with | some (.array _ _) | some (.struct _)=>true | _=>false)=true) (h1:xv.rowD=some xs) (h2:yv.rowD=some ys) (hc:eqC ks xs ys) (p:Prop) :
  OpLoc E P ro o [(x',xv),(y',yv)] {c:=p,v:=.d (.lit (.bool (neg ^^ eqB xs ys)))} :=
 opLoc_pure (by simp [h]) fun G a w hp H hv=>by
  obtain⟨v1,v2⟩:=ev2 hv hx hy
  obtain⟨cs,e1,l1,r1⟩:=rowD_rep h1 v1
  obtain⟨ds,e2,l2,r2⟩:=rowD_rep h2 v2
  obtain⟨la,lb,q1,q2,q3,q4,q5⟩:=eqC_lits (us:=cs.toList) (vs:=ds.toList) hc (by simpa using l1) (by simpa using l2) r1 r2
  have fm:∀ zs:Array Value,zs.size=ks.length->(Value.agg zs).formed P t=true:=fun zs hz=>by
   unfold Value.formed
   split at hr <;> simp_all
  obtain⟨r,hrun,hiff⟩:=run_equalIn_deep (P:=P) 9980 20 t hkey w 20 20 (.agg cs) (.agg ds) la lb (fm _ (l1.trans q4)) (fm _ (l2.trans q5)) (keyLits_kinds 20 t ks _ la hk q1) (keyLits_kinds 20 t ks _ lb hk q2)
  have hre:r=eqB xs ys:=by
   cases r <;> cases hb:eqB xs ys <;> simp_all
  refine⟨.bool (neg ^^ eqB xs ys),?_,repBool _⟩
  have hrun':(Op.equalIn 10000 t (.agg cs) (.agg ds)).run P w=.ok (eqB xs ys) w:=by rw [<- hre];exact hrun
  cases neg
  ·simp [execOp,h,e1,e2,run_eqGuard_agg w .eql t x y cs ds hg,run_eql_struct w t cs ds,hrun']
  ·simp [execOp,h,e1,e2,run_eqGuard_agg w .neq t x y cs ds hg,run_neq_struct w t cs ds,hrun']
theorem run_sliceAll{t e:TypeId}{i:TypeInfo}{n:Nat}{ad:Addr}{w:World}(hu:P.underlying t=some (.array n e)) (hi:P.info? e=some i) :
  (Instr.sliceAt t (.pointer (some ad)) none none none).run P w=.ok (.slice (some (if n=0 then ad else ad.add (0*i.size))) n n) w:=by
 simp [Instr.sliceAt,Instr.sureAddr,run_underlying hu,Instr.sliceBounds,sizeOf,typeInfo,hi]
theorem sound_sliceA_box{t e n x x' i sz b off} (h:o.op=.slice t x none none none) (hx:CO x x') (hu:P.underlying t=some (.array n e)) (hi:P.info? e=some i) (hs:i.size=sz) (hm:n<=9223372036854775807)
  {hin:List (Nat×HO)}(p:Prop):OpLoc E P ro o [(x',.ptr b off)] {c:=p,v:=.bsl b off sz n n,hin:=hin}:=by
 intro G a w hp H hv _ _ K Q hK
 have hr:=ev1 hv hx
 generalize he:a.eval x=u at hr
 cases hr
 rename_i bk hb
 refine wpIn_value (by simp [h]) (v:=.slice (some ⟨bk,off,none⟩) n n) (w':=w) ?_ (hK _ w G (GLe.refl G w) H (.bsl hb (Nat.le_refl _) (Nat.le_refl _) hm (.inl rfl)))
 have hrun:=run_sliceAll (P:=P) (w:=w) (ad:=⟨bk,off,none⟩) hu hi
 have:(if n=0 then (⟨bk,off,none⟩:Addr) else (⟨bk,off,none⟩:Addr).add (0*i.size))=⟨bk,off,none⟩:=by split <;> simp [Addr.add]
 rw [this] at hrun
 simp only [execOp,h,Sem.run_bind,he,Option.map_none,hrun,Result.andThen_ok,Sem.run_pure]
theorem flat_ones:∀ {cs:List D},(∀ c∈cs,c.one=true)->D.flat cs=cs
 | [],_=>rfl
 | c::cs,h=>by
  have h1:=h c (by simp)
  have ih:=flat_ones (cs:=cs) (fun x hx=>h x (by simp [hx]))
  simp only [D.flat] at ih
  simp only [D.flat,List.flatMap_cons,ih]
  cases c <;> simp [D.one] at h1 <;> rfl
theorem one_cells{c:D}(h:c.one=true):c.cells=[c]:=by cases c <;> simp [D.one] at h <;> rfl
theorem sound_sliceA_ip{t e n x x' i} {y:D}(h:o.op=.slice t x none none none) (hx:CO x x') (hu:P.underlying t=some (.array n e)) (hi:P.info? e=some i) (hs:i.size=1) (hm:n<=9223372036854775807)
  (hc:y.cells.length=n) (p:Prop):OpLoc E P ro o [(x',.d (.ip y))] {c:=p,v:=.d (.sl 1 y.cells)} :=
 opLoc_pure (by simp [h]) fun G ac w hp H hv=>by
  have hr:=(ev1 hv hx).of_d
  generalize he:ac.eval x=u at hr
  cases hr
  rename_i ad vs h1 hI hr
  have hrun:=run_sliceAll (P:=P) (w:=w) (ad:=ad) hu hi
  have hadd:(if n=0 then ad else ad.add (0*i.size))=ad:=by simp [Addr.add]
  rw [hadd] at hrun
  refine⟨.slice (some ad) n n,by simp only [execOp,h,Sem.run_bind,he,Option.map_none,hrun,Result.andThen_ok,Sem.run_pure],.d ?_⟩
  refine .sl ad vs hc.symm (Nat.le_refl _) hm ?_ (fun e he'=>by rw [one_cells (h1 e he')];rfl) (by rw [flat_ones h1];exact h1) (by rw [flat_ones h1];exact hI) (by rw [flat_ones h1];exact hr)
  exact .inl rfl
theorem bytesStr_run{I:Addr->Prop}{w:World}{s t e:TypeId}{sz:Nat}{es:List D}{u:Value}(hs:P.underlying s=some (.slice e)) (he:P.underlying e=some (.int .u8)) (ht:P.underlying t=some .string)
  (hr:Rep I w (.sl sz es) u) (hc:∀ e∈es,e.u8.isSome=true):(convert s t u).run P w=.ok (.string (bytesOf es)) w∧(bytesOf es).size<=9223372036854775807:=by
 obtain⟨n,A,cap,ad,vs,rfl,hn,hcap,hm,hA,hz,h1,hI,hrr⟩:=hr.sl_inv
 have hones:∀ c∈es,c.one=true:=fun c hc'=>by
  have:=hc c hc'
  unfold D.u8 at this
  split at this
  ·rfl
  ·cases this
 rw [flat_ones hones] at hI hrr
 refine⟨?_,by rw [bytesOf,strOfNums_size];simp;omega⟩
 cases A with
 | none =>
  have hes:es=[]:=by
   rcases hA with h' | h'
   ·cases h'
   ·exact h'
  rw [run_convert_bytes_nil w s e hs he n cap t ht,hes];rfl
 | some a =>
  have hl:(loadCells a n).run P w=.ok ((es.map D.num).map (Value.int .u8)).toArray w:=by
   have:=run_loadCells_list (P:=P) w a ((es.map D.num).map (Value.int .u8)) (fun j u hj=>by
    simp only [List.getElem?_map,Option.map_map,Option.map_eq_some_iff] at hj
    obtain⟨c,hcj,rfl⟩:=hj
    have hne:es≠[]:=by rintro rfl;simp at hcj
    have hA':=hA.resolve_right hne
    injection hA' with hA';subst hA'
    rw [(hI j c hcj).2]
    have hr1:=hrr j c hcj
    have hu:=hc c (List.mem_of_getElem? hcj)
    unfold D.u8 at hu
    split at hu
    ·generalize vs j=z at hr1 ⊢;cases hr1;rfl
    ·cases hu)
   simpa [hn] using this
  rw [run_convert_bytes_string w s t e _ n cap hs he ht,run_bytesToString w a n cap _ hl,foldl_push_bytes]
  simp [bytesOf,strOfNums,ByteArray.empty,ByteArray.emptyWithCapacity]
  rfl
theorem sound_bytesStr{s t e x x' sz} {v:AV}{es:List D}(h:o.op=.convert s t x) (hx:CO x x') (hs:P.underlying s=some (.slice e)) (he:P.underlying e=some (.int .u8)) (ht:P.underlying t=some .string)
  (hel:v.elems=some (sz,es)) (hc:(sz=1∨es=[])∧∀ e∈es,e.u8.isSome=true) (p:Prop):OpLoc E P ro o [(x',v)] {c:=p,v:=.d (.lit (.string (bytesOf es)))} :=
 opLoc_pure (by simp [h]) fun G ac w hp H hv=>by
  have hr:=elems_rep hel G w _ (ev1 hv hx)
  generalize hev:ac.eval x=u at hr
  obtain⟨hrun,hsz⟩:=bytesStr_run hs he ht hr hc.2
  refine⟨.string (bytesOf es),?_,.d (.lit hsz)⟩
  simp only [execOp,h,Sem.run_bind,hev,hrun,Result.andThen_ok,Sem.run_pure]
theorem sound_bytesStrB{s t e x x'} {n off z l c:Nat}{ag:Bool}{cs:List AV}{ds:List D}(h:o.op=.convert s t x) (hx:CO x x') (hs:P.underlying s=some (.slice e)) (he:P.underlying e=some (.int .u8)) (ht:P.underlying t=some .string)
  (had:allD cs=some ds) (hc:z=1∧off+l<=ds.length∧∀ e∈elsD 1 l (ds.drop off),e.u8.isSome=true) (p:Prop) :
  OpLoc E P ro o [(x',.bsl n off z l c)] {c:=p,v:=.d (.lit (.string (bytesOf (elsD 1 l (ds.drop off))))),hin:=[(n,.box ag cs)]}:=by
 intro G a w hp H hvs hin _ K Q hK
 obtain⟨rfl,hle,hu8⟩:=hc
 have hn:hp n=some (.box ag cs):=hin (n,.box ag cs) (by simp)
 obtain⟨b,c',hb,hlc,hcc,hcm,_,hval⟩:=bslv (ev1 hvs hx)
 obtain⟨arr,ty,vs,e1,e2,e3,e4,e5,e6,e7⟩:=box_cells H hn hb had ds.length (Nat.le_refl _)
 rw [List.take_length] at e4
 obtain⟨q1,q2,q3⟩:=elsD_spec (z:=1) (len:=l) (ds:=ds.drop off) (by simp;omega) (fun d hd=>e7 d (List.mem_of_mem_drop hd))
 have hrep:Rep (fun ad=>(w.cell? ad).isSome=true) w (.sl 1 (elsD 1 l (ds.drop off))) (.slice (some ⟨b,off,none⟩) l c'):=by
  have hget:∀ k d,(D.flat (elsD 1 l (ds.drop off)))[k]?=some d->ds[off+k]?=some d:=fun k d hk=>by
   rw [q3,List.getElem?_take] at hk
   split at hk
   ·rw [List.getElem?_drop] at hk;exact hk
   ·cases hk
  have hvk:∀ k d,ds[k]?=some d->∃ u,vs[k]?=some u∧Rep G.I w d u:=fun k d hk=>by
   have hlt:k<vs.length:=by rw [e3];exact(List.getElem?_eq_some_iff.1 hk).1
   exact⟨vs[k],List.getElem?_eq_getElem hlt,e4.2 k d vs[k] hk (List.getElem?_eq_getElem hlt)⟩
  refine .sl ⟨b,off,none⟩ (fun k=>(vs[off+k]?).getD undef) q1.symm (Nat.le_trans hlc hcc) hcm (.inl rfl) q2 (fun d hd=>?_) (fun k d hk=>?_) (fun k d hk=>?_)
  ·rw [q3] at hd
   exact e7 d (List.mem_of_mem_drop (List.mem_of_mem_take hd))
  ·obtain⟨u,hu,_⟩:=hvk _ d (hget k d hk)
   have hcu:=(e5 _ u hu).2
   rw [add_mk,hcu,hu]
   exact⟨rfl,rfl⟩
  ·obtain⟨u,hu,hr⟩:=hvk _ d (hget k d hk)
   rw [hu]
   exact hr.mono fun ad hi=>⟨H.icell ad hi,rfl⟩
 obtain⟨hrun,hsz⟩:=bytesStr_run hs he ht hrep hu8
 exact wpIn_value (by simp [h]) (v:=.string (bytesOf (elsD 1 l (ds.drop off)))) (by simp only [execOp,h,Sem.run_bind,hval,hrun,Result.andThen_ok,Sem.run_pure]) (hK _ w G (GLe.refl G w) H (.d (.lit hsz)))
theorem stepX_sound{k:Ext}{xs:List Opd}{hl:List (Nat×HO)}{vals:List AV}{e:Eff}(hcmp:CmpX P o k xs) (hl':vals.length=xs.length) (he:stepX hl k vals=some e) (hc:e.c) :
  OpLoc E P ro o (xs.zip vals) e:=by
 cases hcmp with
 | eqrow h hx hy hk hkey hg hcl hr =>
  simp only [stepX] at he
  split at he
  ·split at he <;> simp only [Option.some.injEq,reduceCtorEq] at he
   rename_i h1 h2
   subst he;exact sound_eqrow h hx hy hk hkey hg hcl hr h1 h2 hc _
  ·cases he
 | sliceA h hx hu hi hs hm =>
  simp only [stepX] at he
  split at he
  ·split at he <;> simp only [Option.some.injEq,reduceCtorEq] at he
   subst he;exact sound_sliceA_box h hx hu hi hs hm _
  ·simp only [Option.some.injEq] at he
   subst he;exact sound_sliceA_ip h hx hu hi (by rw [hs];exact hc.1) hm hc.2.1 _
  ·cases he
 | bytesStr h hx hs he' ht =>
  simp only [stepX] at he
  split at he
  ·split at he
   ·split at he <;> simp only [Option.some.injEq,reduceCtorEq] at he
    rename_i had
    subst he;exact sound_bytesStrB h hx hs he' ht had hc _
   ·cases he
  ·split at he <;> simp only [Option.some.injEq,reduceCtorEq] at he
   rename_i hel
   subst he;exact sound_bytesStr h hx hs he' ht hel hc _
  ·cases he
 | eqBool h hx hy hu =>
  simp only [stepX] at he
  split at he <;> simp only [Option.some.injEq,reduceCtorEq] at he
  subst he;exact sound_eqBool h hx hy hu _
 | isNil h hx hu =>
  simp only [stepX] at he
  split at he <;> simp only [Option.some.injEq,reduceCtorEq] at he
  ·subst he;exact sound_isNil_n h hx hu _
  ·subst he;exact sound_isNil_i h hx hu _
 | strIdx h hx hy hu =>
  simp only [stepX] at he
  split at he <;> simp only [Option.some.injEq,reduceCtorEq] at he
  subst he;exact sound_strIdx h hx hy hu hc _
 | strBytes h hx hs ht he' =>
  simp only [stepX] at he
  split at he <;> simp only [Option.some.injEq,reduceCtorEq] at he
  subst he;exact sound_strBytes h hx hs ht he' _
 | appendS h hx hy hu hu2 hi hs hb hz hzs =>
  simp only [stepX] at he
  split at he
  ·split at he <;> simp only [Option.some.injEq,reduceCtorEq] at he
   rename_i r _ _ _ hlk
   subst he;exact sound_appendS_own h hx hy hu hu2 hi hs hb hz hzs (newName_ne hlk) hc _
  ·simp only [Option.some.injEq] at he
   subst he;exact sound_appendS_nil h hx hy hu hu2 hi hs hb hz hzs hc _
  ·cases he
 | idxB h hx hj hu hi hs =>
  simp only [stepX] at he
  split at he <;> simp only [Option.some.injEq,reduceCtorEq] at he
  subst he;exact sound_idxB h hx hj hu hi hs hc _
 | libClone h hx hl =>
  simp only [stepX] at he
  split at he
  ·split at he <;> simp only [Option.some.injEq,reduceCtorEq] at he
   ·rename_i hel
    subst he;exact sound_libClone_nil h hx hl hel _
   ·rename_i hel
    subst he;exact sound_libClone_cons h hx hl hel hc _
  ·cases he
 | libIns h hx hi hy hl =>
  simp only [stepX] at he
  split at he
  ·split at he
   ·split at he <;> simp only [Option.some.injEq,reduceCtorEq] at he
    rename_i hdv
    subst he
    obtain⟨c1,c2,c3,c4,c5⟩:=hc
    subst c2
    exact sound_libIns_e h hx hi hy hl hdv _ ⟨c1,c3,c4,c5⟩ _
   ·cases he
  ·split at he
   ·split at he <;> simp only [Option.some.injEq,reduceCtorEq] at he
    rename_i hds hdv
    subst he
    obtain⟨⟨c1,c2,c3,c4,c5,c6⟩,c7,c8⟩:=hc
    subst c3;subst c4;subst c5
    exact sound_libIns_b h hx hi hy hl hds hdv _ ⟨⟨c1,c2,c6⟩,c7,c8⟩ _
   ·cases he
  ·cases he
 | libDel h hx hi hj hl =>
  simp only [stepX] at he
  split at he
  ·split at he
   ·split at he <;> simp only [Option.some.injEq,reduceCtorEq] at he
    rename_i hds
    subst he
    obtain⟨c1,c2,c3⟩:=hc
    subst c2
    exact sound_libDel h hx hi hj hl hds _ _ ⟨c1,c3⟩ _
   ·cases he
  ·cases he
 | libInsW h hx hi hy hl =>
  simp only [stepX] at he
  split at he
  ·split at he
   ·split at he <;> simp only [Option.some.injEq,reduceCtorEq] at he
    rename_i hdv
    subst he
    obtain⟨c1,c2,c3,c4,c5⟩:=hc
    subst c2
    exact sound_libInsW_n h hx hi hy hl hdv _ ⟨c1,c3,c4,c5⟩ (newName_ne (by assumption)) _
   ·cases he
  ·split at he
   ·split at he <;> simp only [Option.some.injEq,reduceCtorEq] at he
    rename_i hds hdv
    subst he
    obtain⟨⟨c1,c2,c3,c4,c5,c6⟩,c7,c8⟩:=hc
    subst c3;subst c4;subst c5
    exact sound_libInsW_b h hx hi hy hl hds hdv _ ⟨⟨c1,c2,c6⟩,c7,c8⟩ ⟨newName_ne (by assumption),newName_ne (by assumption)⟩ _
   ·cases he
  ·cases he
 | libDelW h hx hi hj hl =>
  simp only [stepX] at he
  split at he
  ·split at he
   ·split at he <;> simp only [Option.some.injEq,reduceCtorEq] at he
    rename_i hds
    subst he
    obtain⟨c1,⟨c2,c4⟩,c3⟩:=hc
    subst c2;subst c4
    exact sound_libDelW h hx hi hj hl hds _ _ ⟨c1,c3⟩ (newName_ne (by assumption)) _
   ·cases he
  ·cases he
 | mapClone h hx hl =>
  simp only [stepX] at he
  split at he
  ·split at he <;> simp only [Option.some.injEq,reduceCtorEq] at he
   subst he;exact sound_mapClone h hx hl (newName_ne (by assumption)) _
  ·cases he
 | mapKeys h hx hl =>
  simp only [stepX] at he
  split at he
  ·split at he <;> simp only [Option.some.injEq,reduceCtorEq] at he
   subst he;exact sound_mapKeys h hx hl (newName_ne (by assumption)) _
  ·cases he
 | mapCopy h hx hy hl =>
  simp only [stepX] at he
  split at he
  ·split at he <;> simp only [Option.some.injEq,reduceCtorEq] at he
   subst he;exact sound_mapCopy h hx hy hl hc _
  ·cases he
 | sorted h hx hl =>
  simp only [stepX] at he
  split at he
  ·split at he
   ·split at he <;> simp only [Option.some.injEq,reduceCtorEq] at he
    subst he
    obtain⟨rfl,hc⟩:=hc
    exact sound_sorted h hx hl hc _
   ·cases he
  ·cases he
 | mkslW h hu hi hs hs0 hz hzs hl hps =>
  simp only [stepX] at he
  split at he <;> simp only [Option.some.injEq,reduceCtorEq] at he
  rename_i hes
  subst he;exact sound_mkslW h hu hi hs hs0 hz hzs hl hps hl' hes hc.1 hc.2 _
 | tassert1 h hx hu hd =>
  simp only [stepX] at he
  split at he <;> simp only [Option.some.injEq,reduceCtorEq] at he
  subst he;exact sound_tassert1 h hx hu hd hc _
 | lenB h hx hu =>
  simp only [stepX] at he
  split at he
  ·simp only [Option.some.injEq] at he
   subst he;exact sound_lenB h hx hu _
  ·split at he <;> simp only [Option.some.injEq,reduceCtorEq] at he
   rename_i hel
   subst he;exact sound_len h hx hu hel _
  ·cases he
 | idxV h hx hy hu hi hs hd hag =>
  simp only [stepX] at he
  split at he <;> simp only [Option.some.injEq,reduceCtorEq] at he
  ·subst he;exact sound_idxV h hx hy hu hi hs hd hag hc.1 hc.2.1 hc.2.2 _
  ·subst he;exact sound_idxVA h hx hy hu hi hs hd hag hc.1 hc.2.1 hc.2.2.1 hc.2.2.2 _
 | shift h hx hy =>
  simp only [stepX] at he
  split at he <;> simp only [Option.some.injEq,reduceCtorEq] at he
  subst he;exact sound_shift h hx hy hc _
 | uneg h hx =>
  simp only [stepX] at he
  split at he <;> simp only [Option.some.injEq,reduceCtorEq] at he
  subst he;exact sound_uneg h hx _
 | tassert h hx hu hd hi hz hzz =>
  simp only [stepX] at he
  split at he <;> simp only [Option.some.injEq,reduceCtorEq] at he
  ·subst he;exact sound_tassert_i h hx hu hd hi hz hzz _
  ·subst he;exact sound_tassert_n h hx hu hd hi hz hzz _
 | nilChk h hx =>
  simp only [stepX] at he
  split at he <;> simp only [Option.some.injEq,reduceCtorEq] at he
  ·subst he;exact sound_nilChk_p h hx _
  ·subst he;exact sound_nilChk_d h hx _
 | mkmap h =>
  simp only [stepX] at he
  split at he <;> simp only [Option.some.injEq,reduceCtorEq] at he
  subst he;exact sound_mkmap h _
 | insert h hm hk hv hu hkt =>
  simp only [stepX] at he
  split at he
  ·split at he
   ·split at he <;> simp only [Option.some.injEq,reduceCtorEq] at he
    rename_i hf
    subst he;exact sound_insert h hm hk hv hu hkt hf hc _
    rename_i hf
    subst he;exact sound_insertO h hm hk hv hu hkt hf hc _
   ·cases he
  ·cases he
 | lookup h hm hk hu hkt hi hz hzz =>
  simp only [stepX] at he
  split at he
  ·split at he
   ·split at he <;> simp only [Option.some.injEq,reduceCtorEq] at he
    ·rename_i hf
     subst he;exact sound_lookup h hm hk hu hkt hi hz hzz hf hc _
    ·rename_i hf
     subst he;exact sound_lookup h hm hk hu hkt hi hz hzz hf hc _
   ·cases he
  ·simp only [Option.some.injEq] at he
   subst he;exact sound_lookup_nil h hm hk hu hkt hi hz hzz hc _
  ·cases he
 | makeslice h hl hcc hu hi hs hb hz hzz hzs hone hs0 =>
  simp only [stepX] at he
  split at he <;> simp only [Option.some.injEq,reduceCtorEq] at he
  subst he;exact sound_makeslice h hl hcc hu hi hs hb hz hzz hzs hone hs0 hc _
end
end

end Go.Proofs.YtmmlicjkdeankaaGreatDoor.AL
