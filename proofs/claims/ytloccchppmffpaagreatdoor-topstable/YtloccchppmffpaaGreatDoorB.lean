/- Part of the proof. -/
import Derived.Laws.Strings2
import Derived.MapKept
import Derived.Lib.AppendZeros
import Derived.Laws.MakeOwn
import Derived.Lib.AppendStr
import Derived.Lib.ConvBytes
import Derived.Test.YtloccchppmffpaaGreatDoorA
set_option linter.unnecessarySimpa false
set_option linter.unusedVariables false
set_option linter.unusedSimpArgs false
set_option linter.defProp false
set_option maxRecDepth 20000
set_option maxHeartbeats 8000000
namespace Go.Proofs.YtloccchppmffpaaGreatDoor.AL
open Go
def ax:=@Bool.and_eq_true
def bu:=@List.getElem?_eq_some_iff
def bD:=@decide_eq_true_eq
def cD:=@List.mem_cons_of_mem
def dj:=@List.mem_cons_self
def du:=@Array.getD_eq_getD_getElem?
def dX:=@List.cons_append
def d':=@List.take_of_length_le
def fQ:=@List.getD_eq_getElem?_getD
def gw:=@Int.toNat_natCast
def gx:=@List.nil_append
def gV:=@Ne.symm
def hY:=@List.map_nil
def lp:=@List.length_take
def n':=@List.not_mem_nil
def oa:=@or_false
def pD:=@List.mem_iff_getElem
def qY:=@Go.MapKept.run_getObj_map
def sX:=@Array.getElem?_toList
def sY:=@List.ext_getElem?
def sZ:=@List.length_pos_iff
def vb:=@Nat.le_of_not_lt
def vd:=@getElem!_pos
def ve:=@List.range'_succ
def xC:=@List.getElem?_cons_zero
def xD:=@List.set_cons_succ
def xE:=@List.eq_of_mem_replicate
def xF:=@List.drop_drop
def xG:=@Array.ext
def xH:=@List.length_take_of_le
def AJ:=@List.mem_map_of_mem
def AM:=@beq_self_eq_true
def AN:=@List.getElem?_take_of_lt
def Hc:=@Array.getElem?_eq_none
def Hd:=@Int.le_of_lt
def He:=@Array.getElem?_push
def Hf:=@Go.MapKept.run_setObj_map
def Hg:=@Go.size_madeCells
def Hh:=@List.length_replicate
def Hi:=@Nat.succ_mul
def Hj:=@List.range_eq_range'
def Hk:=@List.mergeSort_perm
def Pu:=@Int.ediv_nonneg
def Pv:=@Int.ediv_le_self
def Pw:=@Int.mul_le_mul_of_nonneg_left
def Px:=@Go.MapKept.bytes_beq
def Py:=@List.getElem?_replicate
def Pz:=@Array.getElem_map
def PA:=@Array.getElem_range
def PB:=@Array.toList_empty
def PD:=@Nat.le_max_left
def PE:=@Nat.le_max_right
def PF:=@Int.ofNat_eq_natCast
def PG:=@List.mapM_cons
def PH:=@List.replicate_succ
def ahP:=@Int.fdiv_eq_ediv_of_nonneg
def ahQ:=@Array.getElem?_append_right
abbrev B8:=List UInt8
section
section
variable {P:Program}{w:World}
theorem QM(d:Nat){t:TypeId}(c:P.underlying t=some .bool)(a b:Bool):(Op.equalIn (d+1) t (.bool a) (.bool b)).run P w=.ok (a == b) w:=by simp [Op.equalIn,dm c]
theorem QN(d:Nat){t:TypeId}{a:Array (String×TypeId)}(b:P.underlying t=some (.interface a)):(Op.equalIn (d+1) t .nilIface .nilIface).run P w=.ok true w:=by simp [Op.equalIn,dm b]
theorem QO(d:Nat){t ty:TypeId}{v:Value}{a:Array (String×TypeId)}(b:P.underlying t=some (.interface a)):(Op.equalIn (d+1) t (.iface ty v) .nilIface).run P w=.ok false w:=by simp [Op.equalIn,dm b]
theorem QP(c:Bool){t:TypeId}(d:P.underlying t=some .bool)(a b:Bool):(binOp (if c then .neq else .eql) t (.bool a) (.bool b)).run P w=.ok (.bool (c ^^ (a == b))) w:=by have h:=QM (P:=P) (w:=w) 9999 d a b;cases c <;> simp only [binOp,hq,eM,eA] <;> simp [Op.equal,Op.maxDepth,h]
theorem QQ(a:Bool){t:TypeId}{b:Array (String×TypeId)}(c:P.underlying t=some (.interface b)):(binOp (if a then .neq else .eql) t .nilIface .nilIface).run P w=.ok (.bool !a) w:=by have h:=QN (P:=P) (w:=w) 9999 c;cases a <;> simp only [binOp,hq,eM,eA] <;> simp [Op.equal,Op.maxDepth,h]
theorem QR(a:Bool){t b:TypeId}{c:Value}{d:Array (String×TypeId)}(e:P.underlying t=some (.interface d)):(binOp (if a then .neq else .eql) t (.iface b c) .nilIface).run P w=.ok (.bool a) w:=by have h:=QO (P:=P) (w:=w) (ty:=b) (v:=c) 9999 e;cases a <;> simp only [binOp,hq,eM,eA] <;> simp [Op.equal,Op.maxDepth,h]
theorem QS(c:BinOp)(t:TypeId)(x y:Operand)(a b:Bool):(eqGuard c t x y (.bool a) (.bool b)).run P w=.ok () w:=by unfold eqGuard;cases c <;> simp
theorem QT(a:BinOp)(t:TypeId)(x:Operand):(eqGuard a t x (.const .nilIface) .nilIface .nilIface).run P w=.ok () w:=by unfold eqGuard;cases a <;> simp
theorem QU(a:BinOp)(t b:TypeId)(v:Value)(x y:Operand):(eqGuard a t x y (.iface b v) .nilIface).run P w=.ok () w:=by unfold eqGuard;cases a <;> simp
end
section
variable {E:Env}{P:Program}{ro:Option Nat}{o:Oper}
theorem QV{d t u x y e f}{a b:Bool}(h:o.op=.binOp (if d then .neq else .eql) t x y u)(g:CO x e)(i:CO y f)(j:P.underlying t=some .bool)(p:Prop) :
  a_ E P ro o [(e,.d (.lit (.bool a))),(f,.d (.lit (.bool b)))] {c:=p,v:=.d (.lit (.bool (d ^^ (a == b))))} :=
 dk (by simp [h]) fun G r w s H k=>by obtain⟨l,m⟩:=fz k g i;obtain⟨n,_⟩:=l.lit;obtain⟨q,_⟩:=m.lit;refine⟨.bool (d ^^ (a == b)),?_,lZ _⟩;simp only [execOp,h,n,q,c',QS,dt,QP d j,dV]
theorem QW{a t u x b d}(h:o.op=.binOp (if a then .neq else .eql) t x (.const .nilIface) u)(e:CO x b)(f:P.underlying t=some (.interface d))(p:Prop) :
  a_ E P ro o [(b,.d (.lit .nilIface))] {c:=p,v:=.d (.lit (.bool !a))} :=
 dk (by simp [h]) fun G g w l H i=>by obtain⟨j,_⟩:=(eO i e).lit;refine⟨.bool !a,?_,lZ _⟩;have k:g.eval (.const .nilIface)=.nilIface:=rfl;simp only [execOp,h,j,k,c',QT,dt,QQ a f,dV]
theorem QX{a t u x b g i}{d:D}(h:o.op=.binOp (if a then .neq else .eql) t x (.const .nilIface) u)(j:CO x b)(k:P.underlying t=some (.interface g))(p:Prop) :
  a_ E P ro o [(b,.d (.cQ i d))] {c:=p,v:=.d (.lit (.bool a))} :=
 dk (by simp [h]) fun G e w q H l=>by have f:=(eO l j).cw;generalize m:e.eval x=z at f;cases f;refine⟨.bool a,?_,lZ _⟩;have n:e.eval (.const .nilIface)=.nilIface:=rfl;simp only [execOp,h,m,n,c',QU,dt,QR a k,dV]
theorem QY(b:UInt8):Sc (.int .u8 b.toNat):=by have:=b.toNat_lt;simp [Sc,IntKind.min,IntKind.max,IntKind.bits,IntKind.signed];omega
theorem QZ(s:ByteArray)(i:Nat):s[i]?=s.data.toList[i]?:=by
 rw [sX];by_cases h:i<s.size
 ·rw [getElem?_pos s i h,bb (by exact h)];rfl
 ·rw [getElem?_neg s i h,Hc (by exact vb h)]
theorem Q_{t x y a b}{s:ByteArray}{k:IntKind}{i:Int}(h:o.op=.index t x y)(e:CO x a)(f:CO y b)(g:P.underlying t=some .string)(j:0<=i/\i<s.data.toList.length)(p:Prop) :
  a_ E P ro o [(a,.d (.lit (.string s))),(b,.d (.lit (.int k i)))] {c:=p,v:=.d (.lit (.int .u8 (s.data.toList.getD i.toNat 0).toNat))} :=
 dk (by simp [h]) fun G z w A H l=>by
  obtain⟨m,n⟩:=fz l e f;obtain⟨q,_⟩:=m.lit;obtain⟨r,_⟩:=n.lit;refine⟨_,?_,.d (.lit (QY _))⟩;have d:i.toNat<s.data.toList.length:=by omega
  have u:s[i.toNat]?=some (s.data.toList.getD i.toNat 0):=by rw [QZ,aI d];simp [List.getD,aI d]
  simp only [execOp,h,q,r,Instr.index,asIntOf,c',dV,dt,dm g,j.1,eA,u]
theorem Q'{t e n i d a q x y B C}{r:List D}{k:IntKind}{j:Int}(h:o.op=.index t x y)(M:CO x B)(N:CO y C)(b:P.underlying t=some (.array n e))(F:P.info? e=some i)(s:i.size=a)(O:P.underlying e=some d)(f:d.isRow=q)(I:0<=j/\j<n)(Q:j.toNat*a+a<=r.length)(J:q=false->a=1)(p:Prop) :
  a_ E P ro o [(B,.d (.agg r)),(C,.d (.lit (.int k j)))] {c:=p,v:=.d (iv (j.toNat*a) a q (.agg r))} :=
 dk (by simp [h]) fun G R S K H T=>by
  obtain⟨U,V⟩:=fz T M N;have g:=U.cw;obtain⟨W,_⟩:=V.lit;generalize X:R.eval x=u at g;cases g;rename_i l L Y g;have K:=Be (P:=P) (w:=S) (cs:=l) (off:=j.toNat*a) F O (by rw [s,L];exact Q) (fun Z=>by rw [s];exact J (by rw [<- f,Z]));refine⟨if d.isRow then .agg (l.extract (j.toNat*a) (j.toNat*a+i.size)) else l.getD (j.toNat*a) undef,by subst s;simp [execOp,h,X,W,Instr.index,asIntOf,dm b,I.1,I.2,sizeOf,typeInfo,F,K],.d ?_⟩
  cases z:q with
  | true =>
   rw [z] at f;simp only [f,eA,iv,D.cells];refine .agg (by simp [L,s];omega) (fun A a0=>Y A (iL (ir a0))) (fun k A u m b=>?_);rw [eh] at m;split at m
   ·rw [fD] at m;rw [Array.getElem?_extract] at b;split at b
    ·exact g _ A u m b
    ·cases b
   ·cases m
  | false =>
   rw [z] at f;have:=J z;subst this;have ho:j.toNat*1<r.length:=by omega
   have a1:j.toNat*1<l.size:=by omega
   simp only [f,hq,eM,iv,D.cells];exact g (j.toNat*1) _ _ (by simp only [List.getD,aI ho];rfl) (by simp [Array.getD,show j.toNat<l.size by omega])
theorem Ra{t e n i d g l x y m q}{b:List AV}{k:IntKind}{j:Int}(h:o.op=.index t x y)(B:CO x m)(C:CO y q)(D:P.underlying t=some (.array n e))(r:P.info? e=some i)(f:i.size=g)(F:P.underlying e=some d)(I:d.isRow=l)(s:0<=j/\j<n)(J:j.toNat<b.length)(K:g=1)(L:l=false)(p:Prop) :
  a_ E P ro o [(m,.agg b),(q,.d (.lit (.int k j)))] {c:=p,v:=b.getD j.toNat default} :=
 dk (by simp [h]) fun G M N z H O=>by
  obtain⟨A,Q⟩:=fz O B C;obtain⟨R,_⟩:=Q.lit;generalize S:M.eval x=u at A;cases A;rename_i a T W U;subst K;subst L;have z:=Be (P:=P) (w:=N) (cs:=a) (off:=j.toNat) r F (by rw [f,T];omega) (fun _=>by rw [f]);refine⟨if d.isRow then .agg (a.extract j.toNat (j.toNat+i.size)) else a.getD j.toNat undef,by simp [execOp,h,S,R,Instr.index,asIntOf,dm D,s.1,s.2,sizeOf,typeInfo,r,z,f],?_⟩
  simp only [I,hq,eM];have V:j.toNat<a.size:=by omega
  exact U j.toNat _ _ (by simp only [List.getD,aI J];rfl) (by simp [Array.getD,V])
theorem Rb{x g t j k n}{d:List (Value×AV)}(h:o.op=.call {callee:=.builtin .len,args:=#[x],argTypes:=#[t]})(l:CO x g)(m:P.underlying t=some (.map j k))(p:eB d=false)(C:d.length<=9223372036854775807)(q:Prop) :
  a_ E P ro o [(g,.mp n)] {c:=q,v:=.d (.lit (.int .i64 d.length)),ao:=[(n,.aA d)]}:=by
 intro G a w D H r s F K Q y;have i:=eO r l;generalize z:a.eval x=u at i;cases i;rename_i b A;obtain⟨I,J,ck,e,B,f⟩:=H.aA n d (s (n,.aA d) (by simp));have f:=f.pos p;rw [A] at e;injection e with e;subst e
 exact fk (v:=.int .i64 d.length) (by simp [h]) (w':=w) (by simp [execOp,h,resolve,invoke,builtin,z,Builtin.len_,dm m,qY B,goInt,f.1]) (y _ w G (aW.refl G w) H (.d (.lit (vy (by omega)))))
theorem Rc{t x n}{y:D}(h:o.op=.box t x)(B:CO x n)(C:(AV.d y).cg=true)(p:Prop) :
  a_ E P ro o [(n,.d y)] {c:=p,v:=.d (.ip y)}:=by
 intro G a w S H F _ _ K Q I;have J:=(eO F B).cw;obtain⟨m,L⟩:=J.cells (fun T e=>by subst e;simp [AV.cg] at C);generalize M:(a.eval x).cells=b at m;have N:(execOp a.eval o).run P w=.ok (.value (.pointer (some ⟨w.heap.size,0,none⟩))) (w.alloc (.cells b t)):=by simp [execOp,h,Instr.box,newVar,newRow,M]
 have g:=ct.alloc w (.cells b t);have O:=iK w (.cells b t);obtain⟨q,R⟩:=H.grow g (fun i=>G.I i\/(i.block=w.heap.size/\((w.alloc (.cells b t)).cell? i).isSome=true)) (fun _ h=>.inl h) (fun i d=>d.imp id (fun h=>by omega)) (fun i d=>by
  rcases d with d | d
  ·rw [g.cell (H.e_ d)];exact H.cu i d
  ·exact d.2)
 have r:∀ k,(w.alloc (.cells b t)).cell? ⟨w.heap.size,k,none⟩=b[k]?:=fun k=>hW (w.alloc (.cells b t)) w.heap.size k b t (0,0) O
 have s:∀ k f,y.cells[k]?=some f->∃ u,b[k]?=some u/\au G.I w f u:=fun k f j=>by
  have z:k<b.size:=by rw [m.1];exact(bu.1 j).1
  exact⟨b[k],bb z,m.2 k f _ j (bb z)⟩
 refine fk (by simp [h]) N (I _ _ _ q R (.d (.ip ⟨w.heap.size,0,none⟩ (fun k=>(b[k]?).getD undef) L (fun k f j=>?_) (fun k f j=>?_))))
 ·obtain⟨u,l,A⟩:=s k f j;rw [cc,bC];refine⟨.inr ⟨rfl,by rw [r,l];rfl⟩,by rw [r,l];rfl⟩
 ·obtain⟨u,l,A⟩:=s k f j;rw [l];exact A.mono q.ef
theorem Re{f first q r n g}{m s:List AV}{i C:List D}(h:o.op=.makeFunc f first q)(Y:first.toList=[])(M:bH CO q.toList r)(t:(AV.ptr n 0::s).length=r.length)(Z:cq s=some C)(he:cq m=some i)(h1:g=true\/i.length=1)(p:Prop) :
  a_ E P ro o (r.zip (.ptr n 0::s)) {c:=p,v:=.d (.fn f [] (.ip (tm g i)::C)),ao:=[(n,.box g m)],up:=[(n,.dead)]}:=by
 intro G a w a0 H a1 a2 _ K Q b0;have N:a0 n=some (.box g m):=a2 (n,.box g m) (by simp);obtain⟨b,j,ty,O,e2,R,y⟩:=H.box n g m N;obtain⟨F,l2⟩:=H.freeze N O;have S:=jL q.toList r (.ptr n 0::s) M t a1;have T:=oh Z;have z:=oh he;have b1:=gD M;have b2:(execOp a.eval o).run P w=.ok (.value (.func f (first.map a.eval) (q.map a.eval))) w:=by simp [execOp,h,Instr.makeFunc]
 have U:∀ k,w.cell? ⟨b,k,none⟩=j[k]?:=fun k=>hW w b k j ty (0,0) e2
 have y:=y.1;have I:(tm g i).cells=i:=by
  cases g with
  | true=>rfl
  | false =>
   have l:i.length=1:=h1.resolve_left (by simp)
   match i,l with
   | [x],_ =>have:=y (.d x) (by rw [z];simp);simp only [tm,List.headD];simp only [AV.one] at this;cases x <;> first | rfl | simp [D.one] at this
 have V:∀ k d,i[k]?=some d->∃ u,j[k]?=some u/\au G.I w d u:=fun k d e=>by
  have W:k<j.size:=by refine fx ?_ R.1;rw [z,db];exact(bu.1 e).1
  exact⟨j[k],bb W,(R.2 k (.d d) _ (by rw [z];simp [e]) (bb W)).cw⟩
 have b3:first.size=0:=by rw [<- AA,Y];rfl
 refine fk (by simp [h]) b2 (b0 _ _ _ F l2 (.d (.fn (by simp [b3]) (by simp at t b1 |-;rw [T] at t;simp at t;omega) (fun k d A e J=>by simp at e) (fun k d A e J=>?_))));cases k with
 | zero =>
  simp only [xC,aL] at e;subst e;have b4:=S 0 (.ptr n 0) A rfl (by simpa using J);obtain⟨L,B,rfl⟩:∃ L,G.box n=some L/\A=.pointer (some ⟨L,0,none⟩):=by cases b4;exact⟨_,by assumption,rfl⟩
  rw [O] at B;injection B with B;subst B
  refine .ip ⟨b,0,none⟩ (fun k=>(j[k]?).getD undef) (fun d X=>?_) (fun k d e=>?_) (fun k d e=>?_)
  ·rw [I] at X;have:=y (.d d) (by rw [z];exact AJ X);exact this
  ·rw [I] at e;obtain⟨u,l,_⟩:=V k d e;rw [cc,bC];exact⟨.inr ⟨rfl,by rw [U,l];rfl⟩,by rw [U,l];rfl⟩
  ·rw [I] at e;obtain⟨u,l,h3⟩:=V k d e;rw [l];exact h3.mono F.ef
 | succ k =>
  have b5:C[k]?=some d:=by simpa using e
  exact((S (k+1) (.d d) A (by rw [T];simp [b5]) (by simpa using J)).cw).mono F.ef
theorem extract_data(s:ByteArray)(l h:Nat):s.extract l h=⟨((s.data.toList.take h).drop l).toArray⟩:=by
 have:s=⟨s.data.toList.toArray⟩:=by cases s;simp
 rw [this,ByteArray.extract_mk,List.drop_take]
theorem Rf(s:ByteArray):s.extract 0 s.size=s:=by rw [extract_data,d' (by simp)];cases s;simp
theorem Rh{t x lo e f g d}{s:ByteArray}{j m:List AV}{l a:Int}(h:o.op=.slice t x lo e none)(C:CO x f)(D:gZ lo g)(F:gZ e d)(I:P.underlying t=some .string)(J:bound g j 0=some (l,m))(K:bound d m s.data.toList.length=some (a,[]))(L:0<=l/\l<=a/\a<=s.data.toList.length)(p:Prop) :
  a_ E P ro o ((f::(gz g++gz d)).zip (.d (.lit (.string s))::j)) {c:=p,v:=.d (.lit (.string ⟨((s.data.toList.take a.toNat).drop l.toNat).toArray⟩))} :=
 dk (by simp [h]) fun G n w q H r=>by
  obtain⟨u,y,c3⟩:=L;obtain⟨b,M⟩:=((r (f,.d (.lit (.string s))) (by simp) x C)).lit;have N:s.size=s.data.toList.length:=by simp
  obtain⟨O,Q⟩:=rC D J (fun p q=>r p (by simp;exact .inr q)) (rest:=gz d);obtain⟨R,_⟩:=rC F K (rest:=[]) (by simpa using Q);obtain⟨l,rfl⟩:=ht u;obtain⟨a,rfl⟩:=ht (AB u y);have S:(Instr.sliceAt t (.string s) (lo.map n.eval) (e.map n.eval) none).run P w=.ok (.string (s.extract l a)) w:=by
   have U:(l:Int)<=a:=y;have V:(a:Int)<=s.size:=by rw [N];exact c3
   rcases O with ⟨q1,z⟩ | ⟨k,q1⟩ <;> rcases R with ⟨A,B⟩ | ⟨W,A⟩ <;> rw [q1,A] <;>
    simp [Instr.sliceAt,dm I,Instr.slice,Instr.sliceBounds,Instr.sliceBound,asIntOf]
   ·have b:l=0:=by simpa using z
    have i:a=s.size:=by have:(a:Int)=_:=B;omega
    rw [b,i];exact(Rf s).symm
   ·have b:l=0:=by simpa using z
    have:a<=s.size:=by omega
    simp [b,this]
   ·have i:a=s.size:=by have:(a:Int)=_:=B;omega
    subst i;have:l<=s.size:=by omega
    simp [this]
   ·have:l<=a:=by omega
    have T:a<=s.size:=by omega
    simp [this,T]
  refine⟨.string (s.extract l a),by simp only [execOp,h,c',b,Hb,S,dt,dV],?_⟩;rw [extract_data];refine .d (.lit ?_);simp only [Sc] at M |-;show ((s.data.toList.take (a:Int).toNat).drop (l:Int).toNat).toArray.size<=_;simp only [mM,jj,lp,gw];omega
theorem Ri{k:IntKind}{d:Int}(n:Nat)(j:k.min<=d/\d<=k.max):k.min<=d.fdiv (2 ^ n)/\d.fdiv (2 ^ n)<=k.max:=by
 have e:(0:Int)<2 ^ n:=Int.pow_pos (by decide);have l:k.min<=0:=by cases k <;> simp [IntKind.min,IntKind.bits,IntKind.signed]
 have m:0<=k.max:=by cases k <;> simp [IntKind.max,IntKind.bits,IntKind.signed]
 rw [ahP _ (Hd e)];rcases Int.le_total 0 d with h | h
 ·have f:=Pu h (Hd e);have g:=Pv (2 ^ n) h;omega
 ·have f:d / 2 ^ n<=0:=by have:=Int.ediv_le_ediv e h;simpa using this
  have g:d<=d / 2 ^ n:=by rw [Int.le_ediv_iff_mul_le e];have i:=Pw (a:=1) (b:=2 ^ n) (c:=-d) (by omega) (by omega);rw [Int.neg_mul,Int.neg_mul] at i;omega
  omega
theorem Rj{left:Bool}{t u x y d e}{k f:IntKind}{a b:Int}(h:o.op=.binOp (if left then .shl else .shr) t x y u)(g:CO x d)(i:CO y e)(z:0<=b)(p:Prop) :
  a_ E P ro o [(d,.d (.lit (.int k a))),(e,.d (.lit (.int f b)))] {c:=p,v:=.d (.lit (pQ left k a b))} :=
 dk (by simp [h]) fun G A w B H j=>by
  obtain⟨l,m⟩:=fz j g i;obtain⟨n,q⟩:=l.lit;obtain⟨r,C⟩:=m.lit;have s:¬ b<0:=by omega
  refine⟨pQ left k a b,?_,.d (.lit ?_)⟩
  ·cases left <;> simp [execOp,h,n,r,HP,binOp,Op.shift,s,pQ]
  ·cases left
   ·simp only [pQ,Sc,hq,eM];exact Ri _ q
   ·simp only [pQ,Sc,eA];exact Bb _ _
theorem Rk{x n q a i g}{z:D}{b:TypeId}{d:D}{l:TypeDesc}(h:o.op=.typeAssert x q a true)(r:CO x n)(e:P.underlying a=some l)(s:∀ t,l≠.interface t)(y:P.info? a=some i)(A:i.zero=some g)(B:∀ I w,au I w z g)(p:Prop) :
  a_ E P ro o [(n,.d (.cQ b d))] {c:=p,v:=.d (.af [if b=a then d else z,.lit (.bool (decide (b=a)))])} :=
 dk (by simp [h]) fun G C w M H F=>by
  have j:=(eO F r).cw;generalize J:C.eval x=u at j;cases j;rename_i m j;refine⟨.tuple #[if b=a then m else g,.bool (decide (b=a))],?_,.d (.af rfl (fun k N u f e=>?_))⟩
  ·have K:(Instr.typeAssert (.iface b m) q a true).run P w=.ok (.tuple #[if b=a then m else g,.bool (decide (b=a))]) w:=by
    unfold Instr.typeAssert;simp only [c',dm e,dt];cases l <;> first
     | (exact absurd rfl (s _))
     | (by_cases L:b=a <;> simp [L,zeroValue,typeInfo,y,A])
   simp only [execOp,h,c',J,K,dt,dV]
  ·match k with
   | 0 =>
    simp at f e;subst f;subst e;split
    ·exact j
    ·exact B _ _
   | 1=>simp at f e;subst f;subst e;exact .lit trivial
   | k+2=>simp at f
theorem Rn{x g j d i e}{z:D}{f:TypeDesc}(h:o.op=.typeAssert x j d true)(l:CO x g)(a:P.underlying d=some f)(m:∀ n,f≠.interface n)(q:P.info? d=some i)(r:i.zero=some e)(s:∀ I w,au I w z e)(p:Prop) :
  a_ E P ro o [(g,.d (.lit .nilIface))] {c:=p,v:=.d (.af [z,.lit (.bool false)])} :=
 dk (by simp [h]) fun G B w C H t=>by
  obtain⟨y,_⟩:=(eO t l).lit;refine⟨.tuple #[e,.bool false],?_,.d (.af rfl (fun k F u b a=>?_))⟩
  ·have A:(Instr.typeAssert .nilIface j d true).run P w=.ok (.tuple #[e,.bool false]) w:=by
    unfold Instr.typeAssert;simp only [c',dm a,dt];cases f <;> first
     | (exact absurd rfl (m _))
     | (simp [zeroValue,typeInfo,q,r])
   simp only [execOp,h,c',y,A,dt,dV]
  ·match k with
   | 0=>simp at b a;subst b;subst a;exact s _ _
   | 1=>simp at b a;subst b;subst a;exact .lit trivial
   | k+2=>simp at b
theorem Ro{x d}{n a:Nat}(h:o.op=.nilCheck x)(f:CO x d)(p:Prop):a_ E P ro o [(d,.ptr n a)] {c:=p,v:=.ptr n a} :=
 dk (by simp [h]) fun G g w l H i=>by have e:=eO i f;generalize j:g.eval x=u at e;cases e;rename_i b k;exact⟨.pointer (some ⟨b,a,none⟩),by simp [execOp,h,j],.ptr k⟩
theorem Rp{x b}{d:D}(h:o.op=.nilCheck x)(e:CO x b)(p:Prop):a_ E P ro o [(b,.d (.ip d))] {c:=p,v:=.d (.ip d)} :=
 dk (by simp [h]) fun G f w l H g=>by have a:=(eO g e).cw;generalize i:f.eval x=u at a;have j:=a;cases a;rename_i k m _ _ _;exact⟨.pointer (some k),by simp [execOp,h,i],.d j⟩
theorem xU{a:SK}{k c:Value}{b:Bool}(d:fT a k=true)(h:hA k c=some b):Instr.sameNow (SK.desc a) k c=some b:=by cases a <;> cases k <;> simp [fT] at d <;> cases c <;> simp only [hA,reduceCtorEq] at h <;> simpa [Instr.sameNow,SK.desc] using h
theorem Bo{a:SK}{k:Value}{G:Gh}{w:World}(d:fT a k=true):∀ {c:List (Value×AV)}{l:List MapEntry}{i:Nat}{r:Option AV},dJ k c=some r->l.length=c.length->(∀ (j:Nat) (e:Value×AV) (x:MapEntry),c[j]?=some e->l[j]?=some x->x.key=e.1/\aC G w e.2 x.val) ->match r with
  | none=>Instr.findNow (SK.desc a) k l i=some none
  | some v=>∃ j g,Instr.findNow (SK.desc a) k l i=some (some (j,g))/\aC G w v g
 | [],[],i,r,h,_,_=>by simp only [dJ,aL] at h;subst h;rfl
 | [],_::_,i,r,h,b,_=>by simp at b
 | _::_,[],i,r,h,b,_=>by simp at b
 | e::c,x::l,i,r,h,b,m=>by
  obtain⟨n,o⟩:=m 0 e x rfl rfl;simp only [dJ] at h;split at h
  ·rename_i f;simp only [aL] at h;subst h;refine⟨i,x.val,?_,o⟩;unfold Instr.findNow;rw [n,xU d f]
  ·rename_i f;have p:=Bo (i:=i+1) d h (by simpa using b) (fun j e x q s=>m (j+1) e x (by simpa using q) (by simpa using s));have t:Instr.findNow (SK.desc a) k (x::l) i=Instr.findNow (SK.desc a) k l (i+1):=by
    conv=>lhs;unfold Instr.findNow
    rw [n,xU d f]
   rw [t];exact p
  ·cases h
theorem run_checkKey{P:Program}{w:World}{a:SK}{k:Value}{t:TypeId}(b:Bool)(c:fT a k=true)(d:P.underlying t=some (SK.desc a)):(Instr.checkKey b 10000 t k).run P w=.ok () w:=by unfold Instr.checkKey;cases a <;> cases k <;> simp [fT] at c <;> simp [dm d,SK.desc]
theorem run_findKey{P:Program}{w:World}{a:SK}{k:Value}{t:TypeId}{l:List MapEntry}{r:Option (Nat×Value)}(b:P.underlying t=some (SK.desc a))(h:Instr.findNow (SK.desc a) k l 0=some r):(Instr.findKey t k l).run P w=.ok r w:=by unfold Instr.findKey;simp [dm b,h]
theorem tq{k:Value}{a:List (Value×AV)}{r:Option AV}(h:dJ k a=some r):eB a=false:=by
 cases a with
 | nil=>rfl
 | cons e a =>obtain⟨v,x⟩:=e;cases v <;> first | rfl | (cases k <;> simp [dJ,hA] at h)
theorem H'(a:ByteArray):(a == a)=true:=by cases a;exact AM (α:=Array UInt8) _
theorem Rq{k a:Value}(h:rA k a=some true):a=k:=by
 cases k <;> cases a <;> simp only [rA,reduceCtorEq,aL] at h
 ·simp at h;rw [h]
 ·split at h
  ·rename_i e;simp at h;rw [e,h]
  ·cases h
 ·rw [Px] at h;rw [h]
theorem Ia:∀ {x y:List Value},iy x y=some true->y=x
 | [],[],_=>rfl
 | [],_::_,h=>by simp [iy] at h
 | _::_,[],h=>by simp [iy] at h
 | a::x,b::y,h=>by
  simp only [iy] at h;split at h
  ·rename_i p q c d;simp only [aL,ax] at h;rw [h.1] at c;rw [h.2] at d;rw [Rq c,Ia d]
  ·cases h
theorem Rr(k:Value):rA k k≠some false:=by
 cases k with
 | string a=>simp only [rA,H'];simp
 | _=>simp [rA]
theorem Ib:∀ x:List Value,iy x x≠some false
 | []=>by simp [iy]
 | a::x=>by
  simp only [iy];have b:=Rr a;have c:=Ib x;split
  ·rename_i p q d e;rw [d] at b;rw [e] at c;cases p <;> cases q <;> simp at *
  ·simp
theorem vz{k:Value}:∀ {d:List (Value×AV)},dJ k d=some none->∀ e∈d,e.1≠k
 | [],_,e,b=>by cases b
 | x::d,h,e,b=>by
  simp only [dJ] at h;split at h
  ·simp at h
  ·rename_i c;rcases b_.1 b with rfl | b
   ·intro f;rw [f] at c;cases k with
    | string a=>simp only [hA,aL,H'] at c;cases c
    | agg a=>exact Ib a.toList (by simpa only [hA] using c)
    | _=>simp [hA] at c
   ·exact vz h e b
  ·cases h
theorem Rs{c:SK}{b:Value}{x:AV}{a:List (Value×AV)}(d:eB a=false)(f:fT c b=true):eB (a++[(b,x)])=false:=by
 cases a with
 | nil=>cases b <;> first | rfl | (cases c <;> simp [fT] at f)
 | cons e a=>obtain⟨v,y⟩:=e;cases v <;> first | rfl | simp [eB] at d
theorem Rt{t n}(h:o.op=.makeMap t none)(b:Prop):a_ E P ro o [] {c:=b,v:=.mp n,up:=[(n,.aA [])]}:=by
 intro G a w d H r _ f K Q g;have i:d n=none:=by
  rcases f (n,.aA []) (by simp) with h | ⟨q,j,_⟩
  ·exact h
  ·simp at j
 obtain⟨l,m⟩:=H.HF i default (.map #[] 0) (.aA []) (.inr ⟨[],#[],0,rfl,rfl,fS.pK (MapKept.stamped_empty 0) ⟨rfl,fun k e x p=>by simp at p⟩ rfl⟩);exact fk (by simp [h]) (w':=w.alloc (.map #[] 0)) (v:=.map (some w.heap.size)) (by simp [execOp,h,Instr.makeMap]) (g _ _ _ l m (.mp (by simp)))
theorem Ic{mt J L m k M N O q R D z n}{s:List (Value×AV)}{t:Value}{r:Option AV}(h:o.op=.lookup mt m k q)(Y:CO m M)(f:CO k N)(g:P.underlying mt=some (.map J L))(y:P.underlying J=some (SK.desc O))(Z:P.info? L=some R)(a0:R.zero=some D)(a1:∀ I d,au I d z D)(S:dJ t s=some r)(F:fT O t=true)(T:Prop) :
  a_ E P ro o [(M,.mp n),(N,.d (.lit t))] {c:=T,v:=m_ q (r.getD (.d z)) r.isSome,ao:=[(n,.aA s)]}:=by
 intro A a d b8 H a2 b0 b9 K Q b1;obtain⟨U,v2⟩:=fz a2 Y f;obtain⟨e2,_⟩:=v2.lit;generalize he:a.eval m=u at U;cases U;rename_i b b2;obtain⟨c0,b3,ck,B,V,b4⟩:=H.aA n s (b0 (n,.aA s) (by simp));have b5:=tq S;have W:=b4.pos b5;rw [b2] at B;injection B with B;subst B
 have X:=Bo (G:=A) (w:=d) (i:=0) F S (l:=b3.toList) (by simpa using W.1) (fun j e x h1 h2=>W.2 j e x h1 (by simpa using h2));have b6:∃ p,(Instr.lookup mt (.map (some b)) t q).run P d=.ok (if q then .tuple #[p,.bool r.isSome] else p) d/\aC A d (r.getD (.d z)) p:=by
  cases r with
  | none =>refine⟨D,?_,.d (a1 _ _)⟩;unfold Instr.lookup;simp [dm g,qY V,run_checkKey _ F y,run_findKey y X,zeroValue,typeInfo,Z,a0]
  | some p =>obtain⟨j,b7,q1,C⟩:=X;refine⟨b7,?_,C⟩;unfold Instr.lookup;simp [dm g,qY V,run_checkKey _ F y,run_findKey y q1]
 obtain⟨p,q1,C⟩:=b6;refine fk (v:=if q then .tuple #[p,.bool r.isSome] else p) (by simp [h]) (w':=d) (by simp only [execOp,h,c',he,e2,q1,dt,dV]) (b1 _ d A (aW.refl A d) H ?_);cases q
 ·exact C
 ·refine .af rfl (fun k T u f g=>?_)
  match k with
  | 0=>simp at f g;subst f;subst g;exact C
  | 1=>simp at f g;subst f;subst g;exact lZ _
  | k+2=>simp at f
theorem Ru{mt l n m k p q j d i e z}{g:Value}(h:o.op=.lookup mt m k d)(x:CO m p)(b:CO k q)(f:P.underlying mt=some (.map l n))(r:P.underlying l=some (SK.desc j))(y:P.info? n=some i)(A:i.zero=some e)(s:∀ I w,au I w z e)(B:fT j g=true)(t:Prop) :
  a_ E P ro o [(p,.d (.lit (.map none))),(q,.d (.lit g))] {c:=t,v:=m_ d (.d z) false} :=
 dk (by simp [h]) fun G a w M H C=>by
  obtain⟨D,F⟩:=fz C x b;obtain⟨J,_⟩:=D.lit;obtain⟨K,_⟩:=F.lit;have L:Instr.findNow (SK.desc j) g [] 0=some none:=rfl;have q1:(Instr.lookup mt (.map none) g d).run P w=.ok (if d then .tuple #[e,.bool false] else e) w:=by unfold Instr.lookup;simp [dm f,run_checkKey _ B r,run_findKey r L,zeroValue,typeInfo,y,A]
  refine⟨if d then .tuple #[e,.bool false] else e,by simp only [execOp,h,c',J,K,q1,dt,dV],?_⟩;cases d
  ·exact .d (s _ _)
  ·refine .af rfl (fun k t u b f=>?_)
   match k with
   | 0=>simp at b f;subst b;subst f;exact .d (s _ _)
   | 1=>simp at b f;subst b;subst f;exact lZ _
   | k+2=>simp at b
theorem Rv{mt O a0 m k g C D F R n}{d:List (Value×AV)}{f:Value}{x:AV}(h:o.op=.insert mt m k g\/o.op=.mapUpdate mt m k g)(hm:CO m C)(I:CO k D)(a1:CO g F)(hu:P.underlying mt=some (.map O a0))(S:P.underlying O=some (SK.desc R))(J:dJ f d=some none)(L:fT R f=true)(T:Prop) :
  a_ E P ro o [(C,.mp n),(D,.d (.lit f)),(F,x)] {c:=T,v:=.af [],ao:=[(n,.aA d)],up:=[(n,.aA (d++[(f,x)]))]}:=by
 intro M a s b4 H N U b5 K Q a2;have V:=N (C,.mp n) (by simp) m hm;obtain⟨e2,_⟩:=(N (D,.d (.lit f)) (by simp) k I).lit;have v3:=N (F,x) (by simp) g a1;generalize he:a.eval m=u at V;cases V;rename_i b W;obtain⟨b6,t,ck,A,X,Y⟩:=H.aA n d (U (n,.aA d) (by simp));have Z:=tq J;have q:=Y.pos Z;rw [W] at A;injection A with A;subst A
 have b0:=Bo (G:=M) (w:=s) (i:=0) L J (l:=t.toList) (by simpa using q.1) (fun j e x p r=>q.2 j e x p (by simpa using r));have b1:fS M s (d++[(f,x)]) (t.push {key:=f,val:=a.eval g,born:=ck}) (ck+1):=by
  refine fS.pK (MapKept.stamped_push Y.1 (fun y b2=>?_)) ⟨by simp [q.1],fun j e y p r=>?_⟩ (Rs Z L)
  ·obtain⟨j,z,rfl⟩:=pD.1 b2;have B:j<d.length:=by have:=q.1;simp at z;omega
   rw [(q.2 j d[j] _ (aI B) (by simp at z;simp [z])).1];exact vz J _ (cN B)
  by_cases z:j<d.length
  ·rw [eY z] at p;rw [He,ab (by have:=q.1;omega)] at r;exact q.2 j e y p r
  ·by_cases B:j=d.length
   ·subst B;rw [eJ (bj _)] at p;rw [He,aj q.1.symm] at r;simp at p r;subst p;subst r;exact⟨rfl,v3⟩
   ·rw [cb (by simp;omega)] at p;cases p
 obtain⟨u1,u2⟩:=H.vu (by have:=U (n,.aA d) (by simp);simp only at this;rw [this];simp) W (.map (t.push {key:=f,val:=a.eval g,born:=ck}) (ck+1)) (.aA (d++[(f,x)])) (.inr (.inr ⟨_,_,_,rfl,rfl,b1⟩));have b3:(Instr.mapUpdate mt (.map (some b)) f (a.eval g)).run P s=.ok () (s.putObj b (.map (t.push {key:=f,val:=a.eval g,born:=ck}) (ck+1))):=by unfold Instr.mapUpdate;simp [dm hu,qY X,run_checkKey _ L S,run_findKey S b0,Hf _ X,World.putObj]
 refine vv (by rcases h with h | h <;> simp [h]) (w':=s.putObj b (.map (t.push {key:=f,val:=a.eval g,born:=ck}) (ck+1))) (by rcases h with h | h <;> simp only [execOp,h,c',he,e2,b3,dt,dV]) ?_;exact a2 undef _ M u1 u2 (.af rfl (fun k T g I=>by simp at I))
theorem Ie{k c:Value}(h:hA k c=some true):c=k:=by
 cases k <;> cases c <;> simp only [hA,reduceCtorEq,aL] at h
 ·simp at h;rw [h]
 ·split at h
  ·rename_i e;simp at h;rw [e,h]
  ·cases h
 ·rw [Px] at h;rw [h]
 ·rename_i a b;have:=Ia h;rw [va this]
theorem Ig{c:SK}{k:Value}(d:fT c k=true):∀ {a:List (Value×AV)}{l:List MapEntry}{i:Nat}{v:AV},dJ k a=some (some v)->l.length=a.length->(∀ (j:Nat) (e:Value×AV) (x:MapEntry),a[j]?=some e->l[j]?=some x->x.key=e.1) ->∃ j f,Instr.findNow (SK.desc c) k l i=some (some (i+j,f))/\(∃ e,a[j]?=some e/\e.1=k)/\∀ x,fj k x a=a.set j (k,x)
 | [],l,i,v,h,_,_=>by simp [dJ] at h
 | _::_,[],i,v,h,g,_=>by simp at g
 | e::a,x::l,i,v,h,g,m=>by
  have n:=m 0 e x rfl rfl;simp only [dJ] at h;split at h
  ·rename_i b;have o:=Ie b;refine⟨0,x.val,?_,⟨e,rfl,o⟩,fun y=>?_⟩
   ·unfold Instr.findNow;rw [n,xU d b];rfl
   ·rw [fj,b];simp [o]
  ·rename_i b;obtain⟨j,f,q1,p,q⟩:=Ig (i:=i+1) d h (by simpa using g) (fun j e x r s=>m (j+1) e x (by simpa using r) (by simpa using s));refine⟨j+1,f,?_,by simpa using p,fun y=>?_⟩
   ·have t:Instr.findNow (SK.desc c) k (x::l) i=Instr.findNow (SK.desc c) k l (i+1):=by
     conv=>lhs;unfold Instr.findNow
     rw [n,xU d b]
    rw [t,q1,Ay,Nat.add_comm 1 j]
   ·simp only [fj,b,xD,q]
  ·cases h
theorem Rw{a:SK}{k:Value}(b:fT a k=true):MapKept.IsKey (SK.desc a) k:=by cases a <;> cases k <;> simp [fT] at b <;> simp [MapKept.IsKey,SK.desc,b]
theorem Rx{mt T b2 m k f F I J U n}{g:List (Value×AV)}{d:Value}{x x0:AV}(h:o.op=.insert mt m k f\/o.op=.mapUpdate mt m k f)(hm:CO m F)(L:CO k I)(b3:CO f J)(hu:P.underlying mt=some (.map T b2))(V:P.underlying T=some (SK.desc U))(W:dJ d g=some (some x0))(M:fT U d=true)(X:Prop) :
  a_ E P ro o [(F,.mp n),(I,.d (.lit d)),(J,x)] {c:=X,v:=.af [],ao:=[(n,.aA g)],up:=[(n,.aA (fj d x g))]}:=by
 intro G a w c0 H N Y c1 K Q b4;have Z:=N (F,.mp n) (by simp) m hm;obtain⟨e2,_⟩:=(N (I,.d (.lit d)) (by simp) k L).lit;have v3:=N (J,x) (by simp) f b3;generalize he:a.eval m=u at Z;cases Z;rename_i b a0;obtain⟨c2,p,ck,A,f2,a1⟩:=H.aA n g (Y (n,.aA g) (by simp));have a2:=tq W;have t:=a1.pos a2;rw [a0] at A;injection A with A;subst A
 obtain⟨j,d0,q1,⟨e,O,b0⟩,q3⟩:=Ig (i:=0) M W (l:=p.toList) (by simpa using t.1) (fun j e x q r=>(t.2 j e x q (by simpa using r)).1);rw [bC] at q1;have R:j<g.length:=(bu.1 O).1;have b5:j<p.size:=by rw [t.1];exact R
 obtain⟨S,B⟩:∃ S,p[j]?=some S:=⟨_,bb b5⟩;have b1:S.key=d:=by rw [(t.2 j e _ O B).1,b0]
 have b6:∀ s,p[j]?=some s->({s with key:=d,val:=a.eval f}:MapEntry).key=s.key:=fun s C=>by rw [B] at C;cases C;exact b1.symm
 have b7:fS G w (fj d x g) (p.modify j fun e=>{e with key:=d,val:=a.eval f}) ck:=by
  rw [q3];refine fS.pK (MapKept.stamped_modify a1.1 _ _ (fun _ _=>rfl) (fun s _ C=>b6 s C)) ⟨by simp [t.1],fun D s y q r=>?_⟩ ?_
  ·rw [xA] at r;rw [xB] at q;by_cases z:j=D
   ·subst z;rw [aj rfl,aj R] at q;rw [aj rfl,B] at r;simp at q r;subst q;subst r;exact⟨rfl,v3⟩
   ·rw [ab z] at q r;exact t.2 D s y q r
  ·have b8:eB (g.set j (d,x))=eB g:=vq (by
    apply sY;intro D;rw [bG,bG,xB];by_cases z:j=D
    ·subst z;rw [aj rfl,aj R,O];simp [b0]
    ·rw [ab z])
   rw [b8];exact a2
 obtain⟨u1,u2⟩:=H.vu (by have:=Y (n,.aA g) (by simp);simp only at this;rw [this];simp) a0 (.map (p.modify j fun e=>{e with key:=d,val:=a.eval f}) ck) (.aA (fj d x g)) (.inr (.inr ⟨_,_,_,rfl,rfl,b7⟩));have b9:(Instr.mapUpdate mt (.map (some b)) d (a.eval f)).run P w=.ok () (w.putObj b (.map (p.modify j fun e=>{e with key:=d,val:=a.eval f}) ck)):=by unfold Instr.mapUpdate;simp [dm hu,qY f2,run_checkKey _ M V,run_findKey V q1,B,b1,MapKept.run_keyThatStays (Rw M),Hf _ f2,World.putObj]
 refine vv (by rcases h with h | h <;> simp [h]) (w':=w.putObj b (.map (p.modify j fun e=>{e with key:=d,val:=a.eval f}) ck)) (by rcases h with h | h <;> simp only [execOp,h,c',he,e2,b9,dt,dV]) ?_;exact b4 undef _ G u1 u2 (.af rfl (fun k X f L=>by simp at L))
theorem Ry{x b t e n}(h:o.op=.call {callee:=.builtin .cap,args:=#[x],argTypes:=#[t]})(f:CO x b)(g:P.underlying t=some (.slice e))(p:Prop) :
  a_ E P ro o [(b,.d (.nil n))] {c:=p,v:=.d (.lit (.int .i64 0))} :=
 dk (by simp [h]) fun G a w k H i=>by have d:=(eO i f).cw;generalize j:a.eval x=u at d;cases d;exact⟨.int .i64 0,by simp [execOp,h,resolve,invoke,builtin,j,Builtin.cap_,dm g,goInt],.d (.lit (by simp [Sc,IntKind.min,IntKind.max,IntKind.bits,IntKind.signed]))⟩
theorem Rz{t s e i j x y F I f bytes J q W}{k:IntKind}{n:Int}(h:o.op=.call {callee:=.builtin .append,args:=#[x,y],argTypes:=#[t,s]})(X:CO x F)(Y:CO y I)(Z:P.underlying t=some (.slice e))(a0:P.underlying s=some (.int J))(hi:P.info? e=some i)(d9:i.size=f)(l:i.bytes=bytes)(a1:i.zero=some j)(a2:j.cells.size=f)(e0:0<f)(L:0<n/\n.toNat*bytes<=140737488355328/\n<=9223372036854775807)(p:Prop) :
  a_ E P ro o [(F,.d (.nil W)),(I,.d (.lit (.int k n)))] {c:=p,v:=.spare q f n.toNat,up:=[(q,.row)]}:=by
 intro G a w b0 H b1 _ b2 K Q b3;obtain⟨v1,v2⟩:=fz b1 X Y;obtain⟨z,_⟩:=v2.lit;have M:=v1.cw;generalize he:a.eval x=u at M;cases M;have b4:b0 q=none:=by
  rcases b2 (q,.row) (by simp) with h | ⟨q,b5,_⟩
  ·exact h
  ·simp at b5
 obtain⟨n,rfl⟩:=ht (Hd L.1);obtain⟨c1,c2,c3⟩:=L;simp only [gw] at c2 |-;have A:=Lib.run_append_nil_zeros (P:=P) w t s o.type e i j k J Z a0 hi a1 n (by omega) (by omega) (by omega) (by rw [l];omega);generalize N:grownCap w n 0 e=g at A;have b6:n<=g:=by rw [<- N];exact u_ w n 0 e
 have b7:g<=9223372036854775807:=by rw [<- N];exact u' w n 0 e (by simp only [maxLen];omega)
 generalize b8:Builtin.zeroCells j.cells n++Builtin.zeroCells j.cells (g-n)=d at A;have e3:d.size=g*f:=by rw [<- b8,sW,pA,pA,a2,<- gh];congr 1;omega
 have O:ct w (w.drew.alloc (.cells d e)):=⟨rfl,rfl,rfl,by simp,fun b l=>by first | exact pz w.drew _ b l | exact pz w.drew _ l⟩;obtain⟨l1,l2⟩:=H.grow O G.I (fun _ h=>h) (fun _ h=>.inl h) (fun a' R=>by rw [O.cell (H.e_ R)];exact H.cu a' R);have b9:lq E G (w.drew.alloc (.cells d e)) (some ⟨w.heap.size,0,none⟩) 0 g f:=fun k e4 e5=>by
  refine⟨_,rfl,?_,?_,fun S=>?_,⟨fun c0=>?_,E.hN _ H.size⟩,fun d0 d1=>?_⟩
  ·rw [cc,bC,show (⟨w.heap.size,k,none⟩:Addr)=⟨w.drew.heap.size,k,none⟩ from rfl,hW (w.drew.alloc (.cells d e)) w.drew.heap.size k d e (0,0) (iK w.drew _)];exact eI.2 ⟨_,bb (by omega)⟩
  ·rw [cc];have d2:=iK w.drew (.cells d e);unfold World.frozen?;simp only;rw [show w.heap.size=w.drew.heap.size from rfl,d2];simp
  ·rw [cc] at S;have:=H.e_ S;simp at this
  ·have d3:=(H.kept _ c0).1;have e6:=H.size;simp only at d3;omega
  ·have:=(H.bJ d0 _ d1).1;simp at this
 obtain⟨r1,r2⟩:=l2.na b4 b9 (fun _ T A' U d4 V d5 d6 d7 ad e7 B z=>by
  injection B with B;subst B
  obtain⟨A0,e8,e9,f0,m,x2⟩:=H.row T d5;rw [show G.row T=some (A',U,d4,V) from d6] at m;injection m with m;injection m with y1 C;injection C with C D;injection D with D y4
  subst y1;subst C;subst D;subst y4;obtain⟨f1,r,z2,_⟩:=x2 (U*V) (bj _) d7;rw [z] at r;injection r with r;subst r
  obtain⟨v0,d8⟩:=eI.1 z2;have:=d_ w _ d8;rw [block_add] at this;simp only;omega)
 refine fk (by simp [h]) (w':=w.drew.alloc (.cells d e)) (v:=.slice (some ⟨w.heap.size,0,none⟩) n g) (by simp [execOp,h,resolve,invoke,builtin,he,z,A]) (b3 _ _ _ (l1.trans r1) r2 (.spare (by simp) b6 b7))
theorem Ih{t e i l c M N q z d bytes}{k1 k2:IntKind}{a b:Int}(h:o.op=.makeSlice t l c)(hl:CO l M)(a1:CO c N)(hu:P.underlying t=some (.slice e))(hi:P.info? e=some i)(O:i.size=d)(a2:i.bytes=bytes)(b0:i.zero=some q)(b1:∀ I w,au I w z q)(Q:z.cells.length=d)(b2:∀ ds,z≠.af ds)(R:0<d)(b3:a=b/\0<=a/\a.toNat*d<=16777216/\a.toNat*bytes<=281474976710656/\a<=9223372036854775807) :
  ∀ (G:Gh) (f:Act) (w:World) (h:Hp),aD E G h w->(∀ p∈[(M,AV.d (.lit (.int k1 a))),(N,.d (.lit (.int k2 b)))],iN G w f p.1 p.2)->∃ A n s x,(execOp f.eval o).run P w=.ok (.value (.slice A n n)) s/\aW G w x s/\aD E x h s/\au x.I s (.sl d (List.replicate a.toNat z)) (.slice A n n) :=
 fun G ac w b7 H b4=>by
  obtain⟨v1,v2⟩:=fz b4 hl a1;obtain⟨y,_⟩:=v1.lit;obtain⟨e2,_⟩:=v2.lit;obtain⟨rfl,c2,c3,c4,c5⟩:=b3;obtain⟨n,rfl⟩:=ht c2;simp only [gw] at c3 c4 |-;have B:=run_makeSlice (P:=P) w t e i q hu hi b0 k1 k2 n n (by omega) (by omega) (by rw [gw,O];exact c3) (by rw [a2,<- Int.natCast_mul];rw [qX] at c4;omega) c5;simp only [gw,O] at B;generalize S:madeCells q.cells (n*d)=g at B;have b8:g.size=n*d:=by rw [<- S,Hg]
  have C:=(b1 G.I w).cells b2;have T:q.cells.size=d:=by rw [C.1.1,Q]
  have F:∀ e∈List.replicate n z,e.cells.length=d:=fun e he=>by rw [xE he];exact Q
  have J:∀ k c,(D.flat (List.replicate n z))[k]?=some c->∃ v,g[k]?=some v/\au G.I w c v/\c.one=true:=fun k c j=>by
   have U:k<n*d:=by
    have:=fU F;rw [Hh] at this;rw [<- this];rcases bB k (D.flat (List.replicate n z)).length with m | m
    ·exact m
    ·rw [cb m] at j;cases j
   have b5:k / d<n:=(uY R).2 U;have V:=qW k R;have u:(List.replicate n z)[k / d]?=some z:=by rw [Py];simp [b5]
   have y:k=k / d*d+k % d:=by have:=uZ k d;rw [qX] at this;omega
   have W:z.cells[k % d]?=some c:=by
    rw [<- j];conv=>rhs;rw [y]
    exact(flat_get F u _ V).symm
   have X:k % d<q.cells.size:=by rw [T];exact V
   refine⟨q.cells[k % d],?_,C.1.2 _ c _ W (bb X),C.2 c (dh W)⟩;rw [<- S];rw [bb (by rw [Hg];exact U)];simp only [madeCells,Pz,PA,T];rw [vd q.cells (k % d) X]
  have u:=ct.alloc w (.cells g e);have Y:∀ k,(w.alloc (.cells g e)).cell? ⟨w.heap.size,k,none⟩=g[k]?:=fun k =>hW (w.alloc (.cells g e)) w.heap.size k g e (0,0) (iK w _)
  obtain⟨Z,l2⟩:=H.grow u (fun f=>G.I f\/(f.block=w.heap.size/\f.spot=none/\f.off<g.size)) (fun _ h=>.inl h) (fun f K=>by
    rcases K with m | m
    ·exact .inl m
    ·exact .inr (by omega)) (fun f K=>by
    rcases K with m | ⟨r,a0,L⟩
    ·rw [u.cell (H.e_ m)];exact H.cu f m
    ·have:f=⟨w.heap.size,f.off,none⟩:=by cases f;simp_all
     rw [this,Y];simp [L])
  refine⟨some ⟨w.heap.size,0,none⟩,n,_,_,by simp only [execOp,h,y,e2,c',B,dt,dV],Z,l2,?_⟩;refine .sl ⟨w.heap.size,0,none⟩ (fun k=>g.getD k undef) (by simp) (by omega) (by omega) (.inl rfl) F (fun c b6=>?_) (fun k c j=>?_) (fun k c j=>?_)
  ·obtain⟨k,j⟩:=hs b6;obtain⟨v,_,_,L⟩:=J k c j;exact L
  ·obtain⟨v,r,_,_⟩:=J k c j;rw [cc,bC,Y,r];refine⟨.inr ⟨rfl,rfl,(lT.1 r).1⟩,?_⟩;rw [du,r];rfl
  ·obtain⟨v,r,a0,_⟩:=J k c j;have:g.getD k undef=v:=by rw [du,r];rfl
   rw [this];exact a0.mono Z.ef
theorem RA{t e i l f g j k z d bytes q}{k1 k2:IntKind}{a b:Int}(h:o.op=.makeSlice t l f)(m:CO l g)(n:CO f j)(r:P.underlying t=some (.slice e))(s:P.info? e=some i)(u:i.size=d)(x:i.bytes=bytes)(y:i.zero=some k)(A:∀ I w,au I w z k)(B:z.cells.length=d)(C:∀ D,z≠.af D)(F:0<d)(G:a=b/\0<=a/\a.toNat*d<=16777216/\a.toNat*bytes<=281474976710656/\a<=9223372036854775807)(p:Prop) :
  a_ E P ro o [(g,.d (.lit (.int k1 a))),(j,.d (.lit (.int k2 b)))] {c:=p,v:=.own q d (List.replicate a.toNat z),up:=[(q,.row)]} :=
 Bi (by simp [h]) (Ih h m n r s u x y A B C F G)
theorem RB{t e i l f g j k z d bytes}{k1 k2:IntKind}{a b:Int}(h:o.op=.makeSlice t l f)(m:CO l g)(q:CO f j)(r:P.underlying t=some (.slice e))(s:P.info? e=some i)(u:i.size=d)(x:i.bytes=bytes)(y:i.zero=some k)(B:∀ I w,au I w z k)(C:z.cells.length=d)(D:∀ F,z≠.af F)(J:0<d)(L:a=b/\0<=a/\a.toNat*d<=16777216/\a.toNat*bytes<=281474976710656/\a<=9223372036854775807)(p:Prop) :
  a_ E P ro o [(g,.d (.lit (.int k1 a))),(j,.d (.lit (.int k2 b)))] {c:=p,v:=.d (.sl d (List.replicate a.toNat z))}:=by
 intro G M w N H O _ W K Q R;obtain⟨A,n,X,Y,S,T,U,V⟩:=Ih h m q r s u x y B C D J L G M w N H O;exact fk (by simp [h]) S (R _ _ _ T U (.d V))
theorem RC{t e i f b}(h:o.op=.buildSlice t 0 b)(g:P.underlying t=some (.slice e))(j:P.info? e=some i)(k:b=#[])(p:Prop):a_ E P ro o [] {c:=p,v:=.e0 f}:=by intro G a w r H _ _ _ K Q l;subst k;obtain⟨m,n⟩:=H.grow (ct.alloc w (.cells #[] e)) G.I (fun _ h=>h) (fun _ h=>.inl h) (fun q d=>by rw [(ct.alloc w _).cell (H.e_ d)];exact H.cu q d);refine fk (by simp [h]) (v:=.slice (some ⟨w.heap.size,0,none⟩) 0 0) (w':=w.alloc (.cells #[] e)) ?_ (l _ _ _ m n .e0);simp [execOp,h,Instr.buildSlice,dm g,sizeOf,typeInfo,j,Instr.fill,newRow];rw [show Array.range 0=#[] from AD (by simp),Array.map_empty]
theorem RD{w:World}{G:Gh}{t ty e:TypeId}{i:TypeInfo}{g:Value}{f bytes:Nat}(r:P.underlying t=some (.slice e))(s:P.info? e=some i)(v:i.size=f)(I:i.bytes=bytes)(y:i.zero=some g)(J:g.cells.size=f)(U:0<f){A:Option Addr}{u:Value}{a:List D}(z:au G.I w (.sl f a) u)(B:a≠[])(K:a.length*bytes<=140737488355328)(V:a.length<=9223372036854775807) :
  ∃ (b:List Value) (C:Array Value) (l:Nat),(Builtin.append_ #[t,t] ty #[.slice A 0 0,u]).run P w=.ok (.slice (some ⟨w.heap.size,0,none⟩) a.length l) (w.drew.alloc (.cells (b.toArray++C) e)) /\a.length<=l/\l<=9223372036854775807/\C.size=(l-a.length)*f/\b.length=a.length*f/\(∀ (j:Nat) (c:D) (u:Value),(D.flat a)[j]?=some c->b[j]?=some u->au G.I w c u)/\∀ c∈D.flat a,c.one=true:=by
 obtain⟨m,E,n,W,X,L,Y,Z,a0,_⟩:=z.gJ;subst L;obtain⟨b,o,d2,F,M,h,d6,N,O,d9,a1⟩:=l_ z;have Q:0<m:=by
  rcases n_ m with H | H
  ·exact absurd (hV (by omega)) B
  ·exact H
 obtain⟨d,R⟩:∃ d,E=some d:=by
  cases E with
  | none=>exact absurd (O rfl) B
  | some x=>exact⟨x,rfl⟩
 subst R;have S:m*i.bytes<=140737488355328:=by rw [I,h];exact K
 have p:∃ k,(Builtin.append_ #[t,t] ty #[.slice A 0 0,.slice (some d) m n]).run P w=.ok (.slice (some ⟨w.heap.size,0,none⟩) m (grownCap w m k e))
   (w.drew.alloc (.cells (b.toArray++Builtin.zeroCells g.cells (grownCap w m k e-m)) e)):=by
  cases A with
  | none =>have:=run_append_nil (P:=P) w t ty e i g r s y d m n b (by rw [v,o]) (fun j u q=>(F d rfl j u q).1) Q (by omega) (by omega);exact⟨0,by simpa using this⟩
  | some T =>have:=AH (P:=P) w t ty e i g r s y T 0 0 [] (by simp) (by simp) d m n b (by rw [v,o]) (fun j u q=>(F d rfl j u q).1) (by omega) (by omega) (AI (by omega) (by simpa using S));exact⟨0,by simpa using this⟩
 obtain⟨k,p⟩:=p;refine⟨b,_,_,by rw [<- h];exact p,by rw [<- h];exact u_ w m k e,u' w m k e (by simp only [maxLen];omega),by rw [<- h,pA,J],by rw [o,h],M,N⟩
theorem Bp{t e i B x y C F g bytes z f q}{b:List D}{I:AV}(h:o.op=.call {callee:=.builtin .append,args:=#[x,y],argTypes:=#[t,t]})(S:CO x C)(T:CO y F)(j:P.underlying t=some (.slice e))(U:P.info? e=some i)(V:i.size=g)(W:i.bytes=bytes)(X:i.zero=some B)(Y:B.cells.size=g)(Z:0<g)(a0:I.elems=some (f,b))(l:b≠[]/\f=g/\b.length*bytes<=140737488355328/\b.length<=9223372036854775807)(p:Prop) :
  a_ E P ro o [(C,.e0 z),(F,I)] {c:=p,v:=.aE q 0 g b.length b.length,up:=[(q,.box true (wr b))]}:=by
 intro G a w a1 H a2 _ b0 K Q b1;obtain⟨c1,rfl,c3,c4⟩:=l;obtain⟨J,v2⟩:=fz a2 S T;have L:=jK a0 G w _ v2;have b2:a1 q=none:=by
  rcases b0 (q,.box true (wr b)) (by simp) with b3 | ⟨_,b4,_⟩
  ·exact b3
  ·simp at b4
 generalize he:a.eval x=u at J;cases J;rename_i b5;obtain⟨s,M,m,b6,q1,q2,q6,N,q4,q5⟩:=RD (A:=b5) (ty:=o.type) j U V W X Y Z L c1 c3 c4;obtain⟨k1,k2⟩:=H.grow (w':=w.drew) (ct.refl w).drew G.I (fun _ h=>h) (fun _ h=>.inl h) H.cu;have O:(D.flat b).length=b.length*f:=by obtain⟨_,_,_,_,_,_,_,_,_,_,b7,_⟩:=L.gJ;exact fU b7
 obtain⟨l1,l2⟩:=k2.re (n:=q) b2 true (cs:=wr b) (arr:=s.toArray++M) e ⟨by simp [wr,O];omega,fun k b8 u R j=>by
  simp only [wr,bG,bZ] at R;obtain⟨d,r,rfl⟩:=R;have b9:k<s.length:=by rw [N,<- O];exact(bu.1 r).1
  rw [pC (by simpa using b9)] at j;exact .d ((q4 k d u r (by simpa using j)).mono k1.ef)⟩ (fun b8 l=>by
  simp only [wr,aS] at l;obtain⟨d,r,rfl⟩:=l;exact q5 d r) {(default:Loop) with defers:=m*f} (by
   have:m*f=b.length*f+(m-b.length)*f:=by rw [<- gh];congr 1;omega
   simp [N,q6];omega)
 refine fk (by simp [h]) (w':=w.drew.alloc (.cells (s.toArray++M) e)) (v:=.slice (some ⟨w.heap.size,0,none⟩) b.length m) (by simp [execOp,h,resolve,invoke,builtin,he,b6]) (b1 _ _ _ (k1.trans l1) l2 (.aE (by simp) (bj _) q1 q2 (.inr (by simp))))
theorem RE{t e x j q r i}{d n f z l m:Nat}{k:IntKind}{a:Int}(h:o.op=.indexAddr t x j)(A:CO x q)(B:CO j r)(C:P.underlying t=some (.slice e))(D:P.info? e=some i)(F:i.size=d)(s:z=d/\0<=a/\a<l)(p:Prop) :
  a_ E P ro o [(q,.aE n f z l m),(r,.d (.lit (.int k a)))] {c:=p,v:=.ptr n (f+a.toNat*d)} :=
 dk (by simp [h]) fun G I w T H J=>by
  obtain⟨y,K⟩:=fz J A B;have L:=K.lit.1;generalize M:I.eval x=u at y;obtain⟨b,g,N,U,V,W,rfl⟩:∃ b g,G.box n=some b/\l<=m/\m<=g/\g<=9223372036854775807/\u=.slice (some ⟨b,f,none⟩) l g:=by
   cases y with
   | aE O Q R S _=>exact⟨_,_,O,Q,R,S,rfl⟩
  exact⟨.pointer (some ⟨b,f+a.toNat*d,none⟩),by simp [execOp,h,Instr.indexAt,asIntOf,M,L,dm C,sizeOf,typeInfo,D,s.2.1,s.2.2,cc,F],.ptr N⟩
theorem RF{x g t e}{n i z l f:Nat}(h:o.op=.call {callee:=.builtin .len,args:=#[x],argTypes:=#[t]})(k:CO x g)(m:P.underlying t=some (.slice e))(p:Prop):a_ E P ro o [(g,.aE n i z l f)] {c:=p,v:=.d (.lit (.int .i64 l))} :=
 dk (by simp [h]) fun G a w C H q=>by
  have j:=eO q k;generalize r:a.eval x=u at j;obtain⟨b,d,D,F,I,J,rfl⟩:∃ b d,G.box n=some b/\l<=f/\f<=d/\d<=9223372036854775807/\u=.slice (some ⟨b,i,none⟩) l d:=by
   cases j with
   | aE s y A B _=>exact⟨_,_,s,y,A,B,rfl⟩
  exact⟨.int .i64 l,by simp [execOp,h,resolve,invoke,builtin,r,Builtin.len_,dm m,goInt],.d (.lit (vy (by omega)))⟩
theorem RG{x b t e}{z:Nat}(h:o.op=.call {callee:=.builtin .len,args:=#[x],argTypes:=#[t]})(f:CO x b)(g:P.underlying t=some (.slice e))(p:Prop):a_ E P ro o [(b,.e0 z)] {c:=p,v:=.d (.lit (.int .i64 0))} :=
 dk (by simp [h]) fun G a w k H i=>by
  have d:=eO i f;generalize j:a.eval x=u at d;obtain⟨A,rfl⟩:∃ A,u=.slice A 0 0:=by
   cases d with
   | e0=>exact⟨_,rfl⟩
  exact⟨.int .i64 0,by simp [execOp,h,resolve,invoke,builtin,j,Builtin.len_,dm g,goInt],.d (.lit (vy (n:=0) (by omega)))⟩
end
def RL(I:Addr->Prop)(w:World)(a:List D)(b:List Value):Prop:=b.length=a.length/\∀ (k:Nat) (d:D) (u:Value),a[k]?=some d->b[k]?=some u->au I w d u
theorem RL.app{I:Addr->Prop}{w:World}{a b:List D}{x y:List Value}(h:RL I w a x)(k:RL I w b y):RL I w (a++b) (x++y):=by
 refine⟨by simp [h.1,k.1],fun j d u c e=>?_⟩;by_cases f:j<a.length
 ·rw [eY f] at c;rw [eY (by rw [h.1];exact f)] at e;exact h.2 j d u c e
 ·rw [eJ (by omega)] at c;rw [eJ (by rw [h.1];omega),h.1] at e;exact k.2 _ d u c e
theorem RL.take{I:Addr->Prop}{w:World}{a:List D}{x:List Value}(h:RL I w a x)(n:Nat):RL I w (a.take n) (x.take n):=by
 refine⟨by simp [h.1],fun j d u b c=>?_⟩;rw [eh] at b c;split at b
 ·rename_i e;rw [aj e] at c;exact h.2 j d u b c
 ·cases b
theorem RL.drop{I:Addr->Prop}{w:World}{a:List D}{x:List Value}(h:RL I w a x)(n:Nat):RL I w (a.drop n) (x.drop n):=by refine⟨by simp [h.1],fun j d u b c=>?_⟩;rw [fD] at b c;exact h.2 _ d u b c
theorem RL.mono{I b:Addr->Prop}{w c:World}{a:List D}{x:List Value}(h:RL I w a x)(e:∀ a,I a->b a/\c.cell? a=w.cell? a):RL b c a x:=⟨h.1,fun k d u f g=>(h.2 k d u f g).mono e⟩
theorem Ii{E:Env}{G:Gh}{h:Hp}{w:World}(H:aD E G h w){n b:Nat}{r:Bool}{p:List AV}{e:List D}(z:h n=some (.box r p))(A:G.box n=some b)(B:cq p=some e)(k:Nat)(K:k<=e.length) :
  ∃ (a:Array Value) (i:TypeId) (l:List Value),w.heap[b]?=some (.cells a i (0,0))/\(G.rc n).defers<=a.size/\l.length=k/\RL G.I w (e.take k) l/\(∀ (j:Nat) (u:Value),l[j]?=some u->a[j]?=some u/\w.cell? ⟨b,j,none⟩=some u)/\(∀ u∈l,u.oneCell'=true)/\∀ d∈e,d.one=true:=by
 obtain⟨L,a,i,m,s,t,C,F⟩:=H.box n r p z;rw [A] at m;injection m with m;subst m
 have q:=oh B;have M:e.length<=a.size:=by have:=t.1;rw [q,db] at this;exact this
 have v:∀ d∈e,d.one=true:=fun d f=>C (.d d) (by rw [q];exact AJ f)
 have I:∀ k,w.cell? ⟨b,k,none⟩=a[k]?:=fun k=>hW w b k a i (0,0) s
 have o:∀ (j:Nat) (u:Value),(a.toList.take k)[j]?=some u->j<k/\a[j]?=some u:=fun j u c=>by
  rw [eh] at c;split at c
  ·exact⟨by assumption,by simpa using c⟩
  ·cases c
 have x:∀ (j:Nat) (d:D) (u:Value),e[j]?=some d->a[j]?=some u->au G.I w d u:=fun j d u f g=>(t.2 j (.d d) u (by rw [q];simp [f]) g).cw
 refine⟨a,i,a.toList.take k,s,F,by simp;omega,⟨by simp;omega,fun j d u f g=>?_⟩,fun j u c=>⟨(o j u c).2,by rw [I];exact(o j u c).2⟩,fun u g=>?_,v⟩
 ·rw [eh] at f;split at f
  ·exact x j d u f (o j u g).2
  ·cases f
 ·obtain⟨j,c⟩:=hs g;obtain⟨N,J⟩:=o j u c;have y:j<e.length:=by omega
  exact((x j _ u (aI y) J).pJ (v _ (cN y))).2
section
variable {E:Env}{P:Program}{ro:Option Nat}{o:Oper}
theorem RH{e l m B q bytes C}{r:AV}(h:o.op=.call {callee:=.value (.func e),args:=#[l],argTypes:=B})(D:CO l m)(s:iz P e q bytes)(F:r.elems=some (C,[]))(p:Prop) :
  a_ E P ro o [(m,r)] {c:=p,v:=.e0 q}:=by
 intro G a w a0 H I _ _ K Q J;have i:=jK F G w _ (eO I D);obtain⟨n,A,L,_,_,t,_⟩:=i.gJ;rw [t] at i;obtain⟨M,k1,k2,k3,k4,k5,k6,k7,k8,N,O⟩:=l_ i;have S:n=0:=by simpa using k5
 subst S;have T:M=[]:=hV (by simpa using k1);subst T;have U:=s.run w A 0 L [] N O (by simp) (fun _=>rfl) (fun _ _ j u V=>by simp at V) (fun u W=>by simp at W) (by simp);refine jM (f:=.func e) h (x:=#[]) (y:=#[]) (by rfl) s.call (R:=_) (by simp only [t,bo,hY,PB,gx,eN];exact U) (fun u k d=>?_) (fun ch k d=>?_) (fun k d=>?_)
 ·obtain⟨g,d⟩:=d;obtain⟨X,Y⟩:=H.grow g G.I (fun _ h=>h) (fun _ h=>.inl h) (fun Z z=>by rw [g.cell (H.e_ z)];exact H.cu Z z);rcases d with ⟨_,A',b⟩ | ⟨h0,_⟩
  ·injection b with b;subst b
   exact J _ k _ X Y .e0
  ·omega
 ·obtain⟨_,⟨_,_,b⟩ | ⟨_,_,_,_,_,b,_⟩⟩:=d <;> cases b
 ·obtain⟨_,⟨_,_,b⟩ | ⟨_,_,_,_,_,b,_⟩⟩:=d <;> cases b
theorem RI{B L M a0 C bytes r q l}{b:List D}{O:AV}(h:o.op=.call {callee:=.value (.func B),args:=#[L],argTypes:=a0})(a1:CO L M)(S:iz P B C bytes)(a2:O.elems=some (r,l::b))(m:r=C/\(b.length+1)*bytes<=140737488355328)(p:Prop) :
  a_ E P ro o [(M,O)] {c:=p,v:=.aE q 0 C (b.length+1) (b.length+1),up:=[(q,.box true (wr (l::b)))]}:=by
 intro G a w b0 H b1 _ b2 K Q b3;obtain⟨rfl,b4⟩:=m;have b5:b0 q=none:=by
  rcases b2 (q,.box true (wr (l::b))) (by simp) with b6 | ⟨_,b7,_⟩
  ·exact b6
  ·simp at b7
 have F:=jK a2 G w _ (eO b1 a1);obtain⟨I,A,b8,_,_,T,_⟩:=F.gJ;rw [T] at F;obtain⟨U,k1,k2,k3,k4,k5,k6,k7,k8,k9,b9⟩:=l_ F;have V:I=b.length+1:=by simpa using k5
 have m:=S.run w A I b8 U k9 b9 k1 (fun e=>by simpa using k8 e) (fun ad e j u c0=>(k3 ad e j u c0).1) k2 (by rw [V];exact b4);refine jM (f:=.func B) h (x:=#[]) (y:=#[]) (by rfl) S.call (R:=_) (by simp only [T,bo,hY,PB,gx,eN];exact m) (fun u J s=>?_) (fun ch J s=>?_) (fun J s=>?_)
 ·obtain⟨g,⟨h0,_⟩ | ⟨h0,N,W,c2,ty,i,q1,q2,q3,q4,q5,q6⟩⟩:=s
  ·omega
  ·injection i with i;subst i
   have X:=fU k6;obtain⟨l1,l2⟩:=H.HD g q1 (n:=q) b5 true (cs:=wr (l::b)) q2 ⟨by
     have:I*r<=W*r:=ln _ q3;rw [show (wr (l::b)).length=(D.flat (l::b)).length by simp [wr],X,<- k5];omega,fun k c1 u Y hu=>by
    simp only [wr,bG,bZ] at Y;obtain⟨d,t,rfl⟩:=Y;have Z:k<U.length:=by rw [k1,k5,<- X];exact(bu.1 t).1
    have z:=q6 k _ (aI Z);rw [hu] at z;injection z with z;subst z
    exact .d (k4 k d _ t (aI Z))⟩ (fun c1 m=>by
    simp only [wr,aS] at m;obtain⟨d,t,rfl⟩:=m;exact k7 d t) {(default:Loop) with defers:=W*r} q5
   rw [V];exact b3 _ J _ l1 l2 (.aE (by simp) (bj _) (by omega) q4 (.inr (by simp)))
 ·obtain⟨_,⟨_,_,i⟩ | ⟨_,_,_,_,_,i,_⟩⟩:=s <;> cases i
 ·obtain⟨_,⟨_,_,i⟩ | ⟨_,_,_,_,_,i,_⟩⟩:=s <;> cases i
theorem kq{G:Gh}{w:World}{n o z l c:Nat}{u:Value}(h:aC G w (.aE n o z l c) u):∃ b a,G.box n=some b/\l<=c/\c<=a/\a<=9223372036854775807/\(a=c\/o+a*z<=(G.rc n).defers)/\u=.slice (some ⟨b,o,none⟩) l a:=by
 cases h with
 | aE d e f g i=>exact⟨_,_,d,e,f,g,i,rfl⟩
theorem RJ{t e i b I m T ps q}{N:List AV}{f:List D}(h:o.op=.buildSlice t m T)(A:P.underlying t=some (.slice e))(hi:P.info? e=some i)(U:i.size=b)(J:0<b)(b7:i.zero=some I)(f2:I.cells.size=b)(O:m=ps.length)(b8:∃ g:List Operand,T.toList=(g.zipIdx 0).map (fun x=>(x.2,x.1))/\bH CO g ps)(b9:N.length=ps.length)(c0:iw N=some f)(B:(∀ e∈f,e.cells.length=b/\(∀ ds,e≠.af ds))/\f.length*b<=16777216)(d0:f≠[])(p:Prop) :
  a_ E P ro o (ps.zip N) {c:=p,v:=.aE q 0 b f.length f.length,up:=[(q,.box true (wr f))]}:=by
 intro G a w d3 H d4 _ d5 K Q d6;have d7:d3 q=none:=by
  rcases d5 (q,.box true (wr f)) (by simp) with z | ⟨_,d8,_⟩
  ·exact z
  ·simp at d8
 obtain⟨g,d9,Z⟩:=b8;obtain⟨R,d2⟩:=Bk ps N f g c0 Z b9 d4;have a0:=gD Z;have a1:∀ (k:Nat) (e:D) (x:Operand),f[k]?=some e->g[k]?=some x->gX G.I w e.cells (a.eval x).cells/\∀ r∈e.cells,r.one=true:=fun k e x C L=>(d2 k e x C L).cells (B.1 e (dh C)).2
 have V:∀ j∈g.map a.eval,j.cells.size=b:=fun j F=>by
  obtain⟨k,y⟩:=hs F;simp only [bG,bZ] at y;obtain⟨x,L,rfl⟩:=y;have f3:k<g.length:=by
   rcases bB k g.length with z | z
   ·exact z
   ·rw [cb z] at L;cases L
  have a2:f[k]?=some f[k]:=aI (by omega);rw [(a1 k _ x a2 L).1.1];exact(B.1 _ (dh a2)).1
 have e0:¬ m*i.size=0:=by
  have:0<f.length:=sZ.2 d0;have h1:m*i.size=f.length*b:=by rw [O,<- R,U]
  have:=AG this J;omega
 have e2:=Pp (s:=i.size) (by omega) (g.map a.eval) ((Array.range (m*i.size)).map (I.cells[· % I.cells.size]!)) (fun j F=>by rw [U];exact V j F) (by rw [db,Pq,Pr,a0,O]);have e3:¬ m*i.size>2 ^ 24:=by
  have h1:m*i.size=f.length*b:=by rw [O,<- R,U]
  have:=B.2;omega
 have b0:=run_buildSlice (P:=P) w t e m (T.map fun(i,x)=>(i,a.eval x)) _ i I A hi b7 e3 e0 (by
  rw [G_,d9,dA];have:(g.zipIdx 0).map ((fun(p:Nat×Operand)=>(p.1,a.eval p.2))∘fun x=>(x.2,x.1))=((g.map a.eval).zipIdx 0).map fun x=>(x.2,x.1):=by rw [Ps,dA];rfl
  exact(congrArg _ this).trans e2)
 generalize b1:((g.map a.eval).flatMap fun j=>j.cells.toList)=M at b0;have f4:M.length=f.length*b:=by
  have e4:∀ (l:List Value),(∀ j∈l,j.cells.size=b)->(l.flatMap fun j=>j.cells.toList).length=l.length*b:=by
   intro l
   induction l with
   | nil=>simp
   | cons j l e5 =>intro F;rw [ll,da,e5 (fun u A=>F u (by simp [A])),bN,gh,AA,F j (by simp)];omega
  rw [<- b1,e4 _ V,db,a0,R]
 have b2:∀ k r,(D.flat f)[k]?=some r->∃ j,M[k]?=some j/\au G.I w r j/\r.one=true:=fun k r y=>by
  have W:∀ e∈f,e.cells.length=b:=fun e C=>(B.1 e C).1
  have e6:k<f.length*b:=by
   rw [<- fU W];rcases bB k (D.flat f).length with z | z
   ·exact z
   ·rw [cb z] at y;cases y
  have e7:k / b<f.length:=(uY J).2 e6;have hm:=qW k J;have X:f[k / b]?=some f[k / b]:=aI e7;have b3:g[k / b]?=some (g[k / b]'(by omega)):=aI (by omega);have e1:k=k / b*b+k % b:=by have:=uZ k b;rw [qX] at this;omega
  have b4:f[k / b].cells[k % b]?=some r:=by
   rw [<- y];conv=>rhs;rw [e1]
   exact(flat_get W X _ hm).symm
  obtain⟨c1,c2⟩:=a1 _ _ _ X b3;have e8:M[k]?=(a.eval (g[k / b]'(by omega))).cells[k % b]?:=by rw [<- b1,Great.flat_get J _ V k,bG,b3];rfl
  have b5:k % b<(a.eval (g[k / b]'(by omega))).cells.size:=by rw [c1.1,W _ (dh X)];exact hm
  refine⟨(a.eval (g[k / b]'(by omega))).cells[k % b],by rw [e8];exact bb b5,c1.2 _ r _ b4 (bb b5),c2 r (dh b4)⟩
 have e9:=fU (sz:=b) (es:=f) (fun e C=>(B.1 e C).1);obtain⟨l1,l2⟩:=H.re (n:=q) d7 true (cs:=wr f) (arr:=M.toArray) e ⟨by rw [show (wr f).length=(D.flat f).length by simp [wr],e9];simp;omega,fun k r u y A=>by
  simp only [wr,bG,bZ] at y;obtain⟨d,Y,rfl⟩:=y;obtain⟨j,S,v2,_⟩:=b2 k d Y;simp only [qV] at A;rw [A] at S;injection S with S;subst S
  exact .d v2⟩ (fun r b6=>by
  simp only [wr,aS] at b6;obtain⟨d,Y,rfl⟩:=b6;obtain⟨k,y⟩:=hs Y;obtain⟨_,_,_,f0⟩:=b2 k d y;exact f0)
 have f1:f.length=m:=by rw [O,R]
 refine fk (by simp [h]) (v:=.slice (some ⟨w.heap.size,0,none⟩) m m) (w':=w.alloc (.cells M.toArray e)) (by simp only [execOp,h,c',b0,dt,dV]) (d6 _ _ _ l1 l2 (by rw [f1];exact .aE (by simp) (bj _) (bj _) (by have:=B.2;have:=ahN f.length J;omega) (.inl rfl)))
theorem Ij{G:Gh}{w:World}{a:Act}:∀ {ps:List aO}{e:List AV}{g:List Operand},bH CO g ps->e.length=ps.length->(∀ p∈ps.zip e,iN G w a p.1 p.2)->∀ (k:Nat) (c:AV) (u:Value),e[k]?=some c->(g.map a.eval)[k]?=some u->aC G w c u
 | [],[],[],_,_,_,k,c,u,b,_=>by simp at b
 | p::ps,v::e,_,.cons i j,d,h,k,c,u,b,f=>by
  cases k with
  | zero =>simp at b f;subst b;subst f;exact h (p,v) (by simp) _ i
  | succ k=>exact Ij j (by simpa using d) (fun q l=>h q (by simp [l])) k c u (by simpa using b) (by simpa using f)
 | [],_::_,_,_,d,_,_,_,_,_,_=>by simp at d
 | _::_,[],_,_,d,_,_,_,_,_,_=>by simp at d
theorem RM{t e i m g A ps q}{d:List AV}(h:o.op=.buildSlice t g A)(r:P.underlying t=some (.slice e))(N:P.info? e=some i)(B:i.size=1)(O:i.zero=some m)(b7:m.cells.size=1)(y:g=ps.length)(R:∃ f:List Operand,A.toList=(f.zipIdx 0).map (fun x=>(x.2,x.1))/\bH CO f ps)(C:d.length=ps.length)(D:∀ b∈d,b.one=true)(b8:d.length<=16777216)(S:d≠[])(p:Prop) :
  a_ E P ro o (ps.zip d) {c:=p,v:=.aE q 0 1 d.length d.length,up:=[(q,.box true d)]}:=by
 intro G a w T H U _ V K Q W;have X:T q=none:=by
  rcases V (q,.box true d) (by simp) with Y | ⟨_,Z,_⟩
  ·exact Y
  ·simp at Z
 obtain⟨f,a0,F⟩:=R;have a1:=gD F;have I:=Ij F C U;have J:∀ b∈f.map a.eval,b.cells=#[b]:=fun b j=>by
  obtain⟨k,z⟩:=hs j;have L:k<d.length:=by have:=(bu.1 z).1;simp at this;omega
  exact((I k d[k] b (aI L) z).pJ (D _ (cN L))).1
 have a2:¬ g*i.size=0:=by have:0<d.length:=sZ.2 S;rw [B,y];omega
 have b0:=Pp (s:=i.size) (by omega) (f.map a.eval) ((Array.range (g*i.size)).map (m.cells[· % m.cells.size]!)) (fun b j=>by rw [B,J b j];rfl) (by rw [db,Pq,Pr,a1,y]);have b1:¬ g*i.size>2 ^ 24:=by rw [B,y];omega
 have M:=run_buildSlice (P:=P) w t e g (A.map fun(i,x)=>(i,a.eval x)) _ i m r N O b1 a2 (by
  rw [G_,a0,dA];have:(f.zipIdx 0).map ((fun(p:Nat×Operand)=>(p.1,a.eval p.2))∘fun x=>(x.2,x.1))=((f.map a.eval).zipIdx 0).map fun x=>(x.2,x.1):=by rw [Ps,dA];rfl
  exact(congrArg _ this).trans b0)
 have b2:((f.map a.eval).flatMap fun b=>b.cells.toList)=f.map a.eval:=by
  have b3:∀ l:List Value,(∀ b∈l,b.cells=#[b])->(l.flatMap fun b=>b.cells.toList)=l:=fun l=>by
   induction l with
   | nil=>intro _;rfl
   | cons b l b4 =>intro j;rw [ll,b4 (fun u r=>j u (by simp [r])),j b (by simp)];rfl
  exact b3 _ J
 rw [b2] at M;obtain⟨l1,l2⟩:=H.re (n:=q) X true (cs:=d) (arr:=(f.map a.eval).toArray) e ⟨by simp;omega,fun k b5 u z r=>I k b5 u z (by simpa using r)⟩ D;have b6:d.length=g:=by rw [y,C]
 refine fk (by simp [h]) (v:=.slice (some ⟨w.heap.size,0,none⟩) g g) (w':=w.alloc (.cells (f.map a.eval).toArray e)) (by simp only [execOp,h,c',M,dt,dV]) (W _ _ _ l1 l2 (by rw [b6];exact .aE (by simp) (bj _) (bj _) (by omega) (.inl rfl)))
end
end
section
open Go.Lib (strCells strCells_length strCells_oneCell run_firstCells_string run_append_grow_string)
theorem Ik(lo:Option aO)(a:List AV)(d:Nat):bound (fl lo.isSome) a d=bound lo a d:=by
 cases lo with
 | none=>rfl
 | some x=>cases a with
  | nil=>rfl
  | cons v r =>
   simp only [fl,Option.isSome];cases v with
   | d x=>cases x with
    | lit u=>cases u <;> rfl
    | _=>rfl
   | _=>rfl
theorem Bq:∀ {a:List (Nat×HO)}{n:Nat}{x:HO},look a n=some x->n<newName a
 | [],n,x,h=>by simp [look] at h
 | (m,y)::r,n,x,h=>by
  simp only [look] at h;simp only [newName];split at h
  ·rename_i e;subst e;exact fx (Nat.lt_succ_self _) (PD _ _)
  ·exact fx (Bq h) (PE _ _)
theorem xV{a:List (Nat×HO)}{n:Nat}{x:HO}(h:look a n=some x):newName a≠n:=fun e=>by have:=Bq h;omega
theorem RN{G:Gh}{w:World}{n o z l c a b:Nat}{A:Option Addr}(f:G.box n=some b)(g:l<=c)(h:c<=a)(e:a<=9223372036854775807)(i:a=c\/o+a*z<=(G.rc n).defers)(j:c≠0->A=some ⟨b,o,none⟩) :
  aC G w (fy n o z l c) (.slice A l a):=by
 unfold fy;split
 ·rename_i d;subst d;obtain rfl:l=0:=by omega
  exact .d (.sl ⟨0,0,none⟩ (fun _=>undef) rfl (by omega) e (.inr rfl) (by simp) (by simp [D.flat]) (by simp [D.flat]) (by simp [D.flat]))
 ·rename_i d;rw [j d];exact .aE f g h e i
section
variable {E:Env}{P:Program}{ro:Option Nat}{o:Oper}
theorem RO{t e x lo C s u k i D}{b g z m r:Nat}{F I:List AV}{d f:Int}(J:o.op=.slice t x lo C none)(O:CO x s)(Q:gZ lo u)(R:gZ C k)(S:P.underlying t=some (.slice e))(T:P.info? e=some i)(U:i.size=D)(V:bound u F 0=some (d,I))(W:bound k I m=some (f,[]))(X:z=D/\0<=d/\d<=f/\f<=r)(p:Prop) :
  a_ E P ro o ((s::(gz u++gz k)).zip (.aE b g z m r::F)) {c:=p,v:=fy b (g+d.toNat*z) z (f.toNat-d.toNat) (r-d.toNat)} :=
 dk (by simp [J]) fun G a Y K H L=>by
  obtain⟨Z,M,c3,c4⟩:=X;subst Z;obtain⟨y,j,a0,a2,b0,b1,B,he⟩:=kq (L (s,.aE b g z m r) (by simp) x O);obtain⟨g1,g2⟩:=rC Q V (fun p K=>L p (by simp;exact .inr K)) (rest:=gz k);obtain⟨g3,_⟩:=rC R W (rest:=[]) (by simpa using g2);obtain⟨d,rfl⟩:=ht M;obtain⟨f,rfl⟩:=ht (AB M c3);have a1:=Bh (P:=P) (w:=Y) (A:=some ⟨y,g,none⟩) (n:=m) (cap:=j) (l:=d) (h:=f) S T (by
   rcases g1 with ⟨q1,N⟩ | q
   ·exact .inl ⟨q1,by simpa using N⟩
   ·exact .inr q) (by
   rcases g3 with ⟨q1,N⟩ | q
   ·exact .inl ⟨q1,by omega⟩
   ·exact .inr q) (by omega) (by omega)
  refine⟨.slice (if j=d then some ⟨y,g,none⟩ else (some (⟨y,g,none⟩:Addr)).map (·.add (d*i.size))) (f-d) (j-d),by simp only [execOp,J,c',he,Hb,a1,dt,dV],?_⟩;simp only [PF,gw];refine RN a0 (by omega) (by omega) (by omega) ?_ (fun h0=>?_)
  ·rcases B with B | B
   ·left;omega
   ·right;have:j*z=d*z+(j-d)*z:=by rw [<- gh];congr 1;omega
    omega
  ·rw [ab (by omega),lU,cc,U]
theorem RP{t e i l g R S r z f bytes q}{k1 k2:IntKind}{a b:Int}(h:o.op=.makeSlice t l g)(hl:CO l R)(b4:CO g S)(B:P.underlying t=some (.slice e))(hi:P.info? e=some i)(T:i.size=f)(b5:i.bytes=bytes)(b6:i.zero=some r)(b7:∀ I w,au I w z r)(U:z.cells.length=f)(b8:∀ ds,z≠.af ds)(V:0<f)(b9:0<=a/\a<=b/\b.toNat*f<=16777216/\b.toNat*bytes<=281474976710656/\b<=9223372036854775807)(p:Prop) :
  a_ E P ro o [(R,.d (.lit (.int k1 a))),(S,.d (.lit (.int k2 b)))] {c:=p,v:=.aE q 0 f a.toNat b.toNat,up:=[(q,.box true (wr (List.replicate b.toNat z)))]}:=by
 intro G ac w c0 H d0 _ d1 K Q W;have X:c0 q=none:=by
  rcases d1 (q,.box true (wr (List.replicate b.toNat z))) (by simp) with y | ⟨_,d2,_⟩
  ·exact y
  ·simp at d2
 obtain⟨x,C⟩:=fz d0 hl b4;obtain⟨F,_⟩:=x.lit;obtain⟨e2,_⟩:=C.lit;obtain⟨Y,c2,c3,c4,c5⟩:=b9;obtain⟨m,rfl⟩:=ht Y;obtain⟨j,rfl⟩:=ht (AB Y c2);simp only [PF,gw] at c3 c4 W X |-;have J:=run_makeSlice (P:=P) w t e i r B hi b6 k1 k2 m j (by omega) (by omega) (by rw [gw,T];exact c3) (by rw [b5,<- Int.natCast_mul];rw [qX] at c4;omega) c5;simp only [gw,T] at J;generalize Z:madeCells r.cells (j*f)=A at J;have d3:A.size=j*f:=by rw [<- Z,Hg]
 have L:=(b7 G.I w).cells b8;have a0:r.cells.size=f:=by rw [L.1.1,U]
 have M:∀ e∈List.replicate j z,e.cells.length=f:=fun e he=>by rw [xE he];exact U
 have a1:∀ k g,(D.flat (List.replicate j z))[k]?=some g->∃ N,A[k]?=some N/\au G.I w g N/\g.one=true:=fun k g s=>by
  have a2:k<j*f:=by
   have:=fU M;rw [Hh] at this;rw [<- this];rcases bB k (D.flat (List.replicate j z)).length with y | y
   ·exact y
   ·rw [cb y] at s;cases s
  have d4:k / f<j:=(uY V).2 a2;have hm:=qW k V;have d5:(List.replicate j z)[k / f]?=some z:=by rw [Py];simp [d4]
  have F:k=k / f*f+k % f:=by have:=uZ k f;rw [qX] at this;omega
  have b0:z.cells[k % f]?=some g:=by
   rw [<- s];conv=>rhs;rw [F]
   exact(flat_get M d5 _ hm).symm
  have b1:k % f<r.cells.size:=by rw [a0];exact hm
  refine⟨r.cells[k % f],?_,L.1.2 _ g _ b0 (bb b1),L.2 g (dh b0)⟩;rw [<- Z];rw [bb (by rw [Hg];exact a2)];simp only [madeCells,Pz,PA,a0];rw [vd r.cells (k % f) b1]
 have b2:=fU M;rw [Hh] at b2;obtain⟨l1,l2⟩:=H.re (n:=q) X true (cs:=wr (List.replicate j z)) (arr:=A) e ⟨by simp [wr,b2,d3],fun k g u s B=>by
  simp only [wr,bG,bZ] at s;obtain⟨d,O,rfl⟩:=s;obtain⟨N,x,C,_⟩:=a1 k d O;rw [B] at x;injection x with x;subst x
  exact .d C⟩ (fun g b3=>by
  simp only [wr,aS] at b3;obtain⟨d,O,rfl⟩:=b3;obtain⟨k,s⟩:=hs O;obtain⟨_,_,_,d6⟩:=a1 k d s;exact d6)
 exact fk (by simp [h]) (v:=.slice (some ⟨w.heap.size,0,none⟩) m j) (w':=w.alloc (.cells A e)) (by simp only [execOp,h,F,e2,c',J,dt,dV]) (W _ _ _ l1 l2 (.aE (by simp) (by omega) (bj _) (by omega) (.inl rfl)))
theorem RQ(a:Array Value)(n k:Nat)(c:k<n*a.size)(b:0<a.size):(Builtin.zeroCells a n)[k]?=a[k % a.size]?:=by unfold Builtin.zeroCells;rw [bb (by simpa using c)];simp only [Pz,PA];rw [vd a _ (qW _ b),bb (qW _ b)]
theorem RR{t C e i g z x y U V f bytes W q n0}{k:IntKind}{b:Int}(h:o.op=.call {callee:=.builtin .append,args:=#[x,y],argTypes:=#[t,C]})(b8:CO x U)(b9:CO y V)(F:P.underlying t=some (.slice e))(c0:P.underlying C=some (.int W))(hi:P.info? e=some i)(e4:i.size=f)(d0:i.bytes=bytes)(d1:i.zero=some g)(d2:∀ I w,au I w z g)(X:z.cells.length=f)(d3:∀ ds,z≠.af ds)(Y:0<f)(Z:0<b/\b.toNat*bytes<=140737488355328/\b<=9223372036854775807)(p:Prop) :
  a_ E P ro o [(U,.d (.nil n0)),(V,.d (.lit (.int k b)))] {c:=p,v:=.aE q 0 f b.toNat b.toNat,up:=[(q,.box true (wr (List.replicate b.toNat z)))]}:=by
 intro G a w d4 H d5 _ d6 K Q a0;obtain⟨m,J⟩:=fz d5 b8 b9;obtain⟨e2,_⟩:=J.lit;have hr:=m.cw;generalize L:a.eval x=u at hr;cases hr;have a1:d4 q=none:=by
  rcases d6 (q,.box true (wr (List.replicate b.toNat z))) (by simp) with s | ⟨_,d7,_⟩
  ·exact s
  ·simp at d7
 obtain⟨b,rfl⟩:=ht (Hd Z.1);obtain⟨c1,c2,c3⟩:=Z;simp only [PF,gw] at c2 a1 a0 |-;have M:=Lib.run_append_nil_zeros (P:=P) w t C o.type e i g k W F c0 hi d1 b (by omega) (by omega) (by omega) (by rw [d0];omega);generalize a2:grownCap w b 0 e=r at M;have b0:b<=r:=by rw [<- a2];exact u_ w b 0 e
 have d8:r<=9223372036854775807:=by rw [<- a2];exact u' w b 0 e (by simp only [maxLen];omega)
 have N:=(d2 G.I w).cells d3;have A:g.cells.size=f:=by rw [N.1.1,X]
 generalize b1:Builtin.zeroCells g.cells b++Builtin.zeroCells g.cells (r-b)=B at M;have b2:B.size=r*f:=by rw [<- b1,sW,pA,pA,A,<- gh];congr 1;omega
 have b3:∀ e∈List.replicate b z,e.cells.length=f:=fun e L=>by rw [xE L];exact X
 have O:=fU b3;rw [Hh] at O;have b4:∀ k j,(D.flat (List.replicate b z))[k]?=some j->∃ R,B[k]?=some R/\au G.I w j R/\j.one=true:=fun k j l=>by
  have S:k<b*f:=by
   rw [<- O];rcases bB k (D.flat (List.replicate b z)).length with s | s
   ·exact s
   ·rw [cb s] at l;cases l
  have d9:k / f<b:=(uY Y).2 S;have hm:=qW k Y;have e0:(List.replicate b z)[k / f]?=some z:=by rw [Py];simp [d9]
  have e1:k=k / f*f+k % f:=by have:=uZ k f;rw [qX] at this;omega
  have b5:z.cells[k % f]?=some j:=by
   rw [<- l];conv=>rhs;rw [e1]
   exact(flat_get b3 e0 _ hm).symm
  have b6:k % f<g.cells.size:=by rw [A];exact hm
  refine⟨g.cells[k % f],?_,N.1.2 _ j _ b5 (bb b6),N.2 j (dh b5)⟩;rw [<- b1,pC (by rw [pA,A];exact S),RQ g.cells b k (by rw [A];exact S) (by omega),A];exact bb b6
 obtain⟨k1,k2⟩:=H.grow (w':=w.drew) (ct.refl w).drew G.I (fun _ h=>h) (fun _ h=>.inl h) H.cu;obtain⟨l1,l2⟩:=k2.re (n:=q) a1 true (cs:=wr (List.replicate b z)) (arr:=B) e ⟨by simp only [wr,db];rw [O,b2];exact ln _ b0,fun k j u l F=>by
  simp only [wr,bG,bZ] at l;obtain⟨d,T,rfl⟩:=l;obtain⟨R,m,J,_⟩:=b4 k d T;rw [F] at m;injection m with m;subst m
  exact .d (J.mono k1.ef)⟩ (fun j b7=>by
  simp only [wr,aS] at b7;obtain⟨d,T,rfl⟩:=b7;obtain⟨k,l⟩:=hs T;obtain⟨_,_,_,e3⟩:=b4 k d l;exact e3) {(default:Loop) with defers:=r*f} (by simp [b2])
 exact fk (by simp [h]) (w':=w.drew.alloc (.cells B e)) (v:=.slice (some ⟨w.heap.size,0,none⟩) b r) (by simp [execOp,h,resolve,invoke,builtin,L,e2,M]) (a0 _ _ _ (k1.trans l1) l2 (.aE (by simp) (bj _) b0 d8 (.inr (by simp))))
theorem vA{a:Act}{w b:World}{x y:Operand}{t c:TypeId}{d:Value}(h:o.op=.call {callee:=.builtin .append,args:=#[x,y],argTypes:=#[t,c]})(e:(Builtin.append_ #[t,c] o.type #[a.eval x,a.eval y]).run P w=.ok d b) :
  (execOp a.eval o).run P w=.ok (.value d) b:=by simp [execOp,h,resolve,invoke,builtin,e]
theorem RS{G:Gh}{h:Hp}{d:World}(H:aD E G h d){t ty e:TypeId}{i:TypeInfo}{X:Value}{g bytes:Nat}(b5:P.underlying t=some (.slice e))(hi:P.info? e=some i)(S:i.size=g)(b2:i.bytes=bytes)(d9:i.zero=some X)(f7:X.cells.size=g)(b6:0<g){A:Option Addr}{f C:Nat}{es:List D}{ay:Addr}{m cy:Nat}{ys:List D}{ds:List Value}(b7:au G.I d (.sl g es) (.slice A f C))(b3:lq E G d A f C g)(Y:ds.length=m*g)(d2:∀ u∈ds,u.oneCell'=true)(d3:∀ j u,ds[j]?=some u->d.cell? (ay.add j)=some u)(d4:∀ (j:Nat) (F:D) (u:Value),(D.flat ys)[j]?=some F->ds[j]?=some u->au G.I d F u)(d5:m=ys.length)(d6:∀ e∈ys,e.cells.length=g)(d7:∀ F∈D.flat ys,F.one=true)(f8:0<m)(hd:f*g<C*g->∀ a2 A' Z a0 T,h a2=some .row->G.row a2=some (A',Z,a0,T)->Z*T<a0*T->∀ B N,A=some B->A'=some N->B.block≠N.block)(f9:(es.length+ys.length)*bytes<=140737488355328)(i4:es.length+ys.length<=9223372036854775807){q:Nat}(e4:h q=none) :
  ∃ e5 w' G',(Builtin.append_ #[t,t] ty #[.slice A f C,.slice (some ay) m cy]).run P d=.ok e5 w'/\aW G d G' w'/\aD E G' (h.ar [(q,.row)]) w'/\aC G' w' (.own q g (es++ys)) e5:=by
 obtain⟨p,k1,k2,k3,k4,k5,k6,k7,k8,k9,g0⟩:=l_ b7;by_cases e6:f+m<=C
 ·
  have M:f*g<C*g:=ahO (by omega) b6;obtain⟨B,rfl,t1,t2,t3,t4,t5⟩:=b3 (f*g) (bj _) M;obtain⟨v0,g1⟩:=eI.1 t1;have i5:f*g+m*g<=C*g:=by rw [<- gh];exact ln _ e6
  have g3:B=⟨B.block,B.off,none⟩:=by
   have e:=vx g1;unfold Addr.add at e;split at e
   ·exact e
   ·rename_i e7;have b8:0<f:=by
     rcases n_ f with U | U
     ·rw [U] at e7;simp at e7
     ·exact U
    have g4:0<p.length:=by rw [k1];exact AG b8 b6
    have:=(k3 B rfl 0 p[0] (aI g4)).1;have e0:B.add 0=B:=by simp [Addr.add]
    rw [e0] at this;exact vx this
  generalize i6:B.block=s at *;generalize i7:B.off=y at *;subst g3;have b0:∀ j,j<ds.length->(d.cell? ⟨s,y+f*g+j,none⟩).isSome=true/\d.frozen? ⟨s,y+f*g+j,none⟩=false/\¬ G.I ⟨s,y+f*g+j,none⟩:=fun j l=>by
   obtain⟨N,K,q1,q2,q3,_,_⟩:=b3 (f*g+j) (by omega) (by omega);injection K with K;subst K
   rw [cc,<- Ay] at q1 q2 q3;exact⟨q1,q2,q3⟩
  have O:=Bm (P:=P) (ty:=ty) (w:=d) (b:=s) (off:=y) (n:=f) (cap:=C) (m:=m) (c:=cy) (a':=ay) (news:=ds) b5 hi (by rw [S,Y]) (fun j u l=>d3 j u l) d2 e6 (by rw [S];exact fun j l=>(b0 j l).1) (by rw [S];exact fun j l=>(b0 j l).2.1);rw [S] at O;have i8:∀ (x:Addr),x=(⟨s,y,none⟩:Addr)->x.block=s:=fun x b7=>by rw [b7]
  obtain⟨f1,f2⟩:=H.fill (b:=s) (o:=y+f*g) (vs:=ds) (fun k J=>(b0 k J).1) (fun k J=>(b0 k J).2.2) t4.1 t5 t4.2 (fun r A' Z a0 T b9 Q c0 N K g5=>hd M r A' Z a0 T b9 Q c0 ⟨s,y,none⟩ N rfl K g5.symm);have g6:∀ j u,(p++ds)[j]?=some u->(d.setCells s (y+f*g) ds).cell? ⟨s,y+j,none⟩=some u/\(G.I ⟨s,y+j,none⟩\/∃ k,k<ds.length/\(⟨s,y+j,none⟩:Addr)=⟨s,y+f*g+k,none⟩):=fun j u l=>by
   by_cases g7:j<p.length
   ·rw [eY g7] at l;have b4:=k3 _ rfl j u l;rw [cc] at b4;refine⟨?_,.inl b4.2⟩;rw [(f1.ef _ b4.2).2];exact b4.1
   ·rw [eJ (by omega)] at l;have c1:j-p.length<ds.length:=by
     rcases bB (j-p.length) ds.length with z | z
     ·exact z
     ·rw [cb z] at l;cases l
    have g8:y+j=y+f*g+(j-p.length):=by omega
    rw [g8];refine⟨?_,.inr ⟨j-p.length,c1,rfl⟩⟩;rw [Ha s ds (y+f*g) d (fun k J=>(b0 k J).1) _ c1];rw [aI c1] at l;exact l
  have c2:lq E {G with I:=fun a=>G.I a\/(∃ k,k<ds.length/\a=⟨s,y+f*g+k,none⟩)} (d.setCells s (y+f*g) ds) (some ⟨s,y,none⟩) (f+m) C g:=fun k J e8=>by
   rw [gh] at J;obtain⟨N,K,q1,q2,q3,q4,q5⟩:=b3 k (by omega) e8;injection K with K;subst K
   rw [cc] at q1 q2 q3;refine⟨_,rfl,?_,?_,?_,q4,q5⟩
   ·rw [cc,tp s ds _ d _ (fun _=>.inr (by simp only;omega))];exact q1
   ·rw [cc,Po];exact q2
   ·rw [cc];rintro(R | ⟨j,l,R⟩)
    ·exact q3 R
    ·injection R with _ R _;omega
  obtain⟨l1,l2⟩:=f2.na e4 c2 (fun i9=>hd M);refine⟨_,_,_,O,f1.trans l1,l2,?_⟩;have b1:=xT (I:=fun a=>G.I a\/(∃ k,k<ds.length/\a=⟨s,y+f*g+k,none⟩)) (w:=d.setCells s (y+f*g) ds) (cap:=C) (b:=s) (o:=y) (cs:=p) (ds:=ds) k6 d6 k7 d7 (by rw [k1,k5]) (by rw [Y,d5]) g6
   (fun j F u l V=>(k4 j F u l V).mono f1.ef) (fun j F u l V=>(d4 j F u l V).mono f1.ef) (by omega) g0
  rw [<- k5,<- d5] at b1;exact .own (by simp) b1
 ·
  have e9:(f+m)*i.bytes<=140737488355328:=by rw [b2,k5,d5];exact f9
  have O:∃ a1,(Builtin.append_ #[t,t] ty #[.slice A f C,.slice (some ay) m cy]).run P d=.ok (.slice (some ⟨d.heap.size,0,none⟩) (f+m) (grownCap d (f+m) a1 e))
    (d.drew.alloc (.cells (p.toArray++ds.toArray++Builtin.zeroCells X.cells (grownCap d (f+m) a1 e-(f+m))) e)):=by
   cases A with
   | none =>
    have g9:=k8 rfl;subst g9;have b8:f=0:=by simpa using k5
    subst b8;have h1:p=[]:=hV (by omega);subst h1;have h2:C=0:=by
     rcases n_ C with U | U
     ·exact U
     ·obtain⟨B,K,_⟩:=b3 0 (by simp) (AG U b6);cases K
    subst h2;have:=run_append_nil (P:=P) d t ty e i X b5 hi d9 ay m cy ds (by rw [S,Y]) (fun j u l=>d3 j u l) f8 (by omega) (by simp at e9;omega);exact⟨0,by simpa using this⟩
   | some B =>exact⟨C,AH (P:=P) d t ty e i X b5 hi d9 B f C p (by rw [S,k1]) (fun j u l=>(k3 B rfl j u l).1) ay m cy ds (by rw [S,Y]) (fun j u l=>d3 j u l) (by omega) (by omega) (AI (by omega) e9)⟩
  obtain⟨a1,O⟩:=O;generalize f0:grownCap d (f+m) a1 e=W at O;have h3:f+m<=W:=by rw [<- f0];exact u_ d (f+m) a1 e
  have h4:W<=9223372036854775807:=by rw [<- f0];exact u' d (f+m) a1 e (by simp only [maxLen];omega)
  generalize h5:Builtin.zeroCells X.cells (W-(f+m))=L at O;have h6:L.size=(W-(f+m))*g:=by rw [<- h5,pA,f7]
  have f3:ct d (d.drew.alloc (.cells (p.toArray++ds.toArray++L) e)):=⟨rfl,rfl,rfl,by simp,fun s b2=>by first | exact pz d.drew _ s b2 | exact pz d.drew _ b2⟩;have f4:∀ k,(d.drew.alloc (.cells (p.toArray++ds.toArray++L) e)).cell? ⟨d.heap.size,k,none⟩=(p.toArray++ds.toArray++L)[k]?:=fun k =>hW (d.drew.alloc (.cells (p.toArray++ds.toArray++L) e)) d.heap.size k _ e (0,0) (iK d.drew _)
  have j0:p.length+ds.length=(f+m)*g:=by rw [k1,Y,gh]
  have f5:∀ k u,(p++ds)[k]?=some u->(d.drew.alloc (.cells (p.toArray++ds.toArray++L) e)).cell? ⟨d.heap.size,k,none⟩=some u:=fun k u J=>by
   have M:k<(p++ds).length:=by
    rcases bB k (p++ds).length with z | z
    ·exact z
    ·rw [cb z] at J;cases J
   rw [f4,pC (by simpa using M),<- J];simp
  obtain⟨l1,l2⟩:=H.grow f3 (fun v=>G.I v\/(v.block=d.heap.size/\v.spot=none/\v.off<(f+m)*g)) (fun _ h=>.inl h) (fun v d0=>by
    rcases d0 with z | z
    ·exact .inl z
    ·exact .inr (by omega)) (fun v d0=>by
    rcases d0 with z | ⟨f6,h7,j1⟩
    ·rw [f3.cell (H.e_ z)];exact H.cu v z
    ·have h8:v=⟨d.heap.size,v.off,none⟩:=by cases v;simp_all
     have M:v.off<(p++ds).length:=by simp;omega
     rw [h8,f5 v.off _ (aI M)];rfl)
  have c2:lq E {G with I:=fun v=>G.I v\/(v.block=d.heap.size/\v.spot=none/\v.off<(f+m)*g)} (d.drew.alloc (.cells (p.toArray++ds.toArray++L) e)) (some ⟨d.heap.size,0,none⟩) (f+m) W g:=fun k J e8=>by
   refine⟨_,rfl,?_,?_,?_,⟨fun h9=>?_,E.hN _ H.size⟩,fun i0 i1=>?_⟩
   ·rw [cc,bC,f4];have j2:(f+m)*g<=W*g:=ln _ h3;have M:k<(p.toArray++ds.toArray++L).size:=by simp only [sW,mM,h6,Nat.sub_mul];omega
    exact eI.2 ⟨_,bb M⟩
   ·rw [cc];have d8:=iK d.drew (.cells (p.toArray++ds.toArray++L) e);unfold World.frozen?;simp only;rw [show d.heap.size=d.drew.heap.size from rfl,d8];simp
   ·rw [cc];rintro(R | ⟨_,_,R⟩)
    ·have:=H.e_ R;simp at this
    ·simp at R;omega
   ·have f6:=(H.kept _ h9).1;have h7:=H.size;simp only at f6;omega
   ·have:=(H.bJ i0 _ i1).1;simp at this
  obtain⟨r1,r2⟩:=l2.na e4 c2 (fun _ a2 A' Z a0 T b9 Q c0 B N e1 e2=>by
   injection e1 with e1;subst e1;subst e2
   obtain⟨A2,n2,j3,i2,g2,T2⟩:=H.row a2 b9;have Q:G.row a2=some (some N,Z,a0,T):=Q;rw [g2] at Q;injection Q with Q;injection Q with x1 x2;injection x2 with x2 x3;injection x3 with x3 x4
   subst x1;subst x2;subst x3;subst x4;obtain⟨j4,e3,q1,_⟩:=T2 (n2*i2) (bj _) c0;injection e3 with e3;subst e3
   obtain⟨v3,i3⟩:=eI.1 q1;have:=d_ d _ i3;rw [block_add] at this;intro d8;simp at d8;omega)
  refine⟨_,_,_,O,l1.trans r1,r2,?_⟩;have b1:=xT (I:=fun v=>G.I v\/(v.block=d.heap.size/\v.spot=none/\v.off<(f+m)*g)) (w:=d.drew.alloc (.cells (p.toArray++ds.toArray++L) e)) (cap:=W) (b:=d.heap.size) (o:=0) (cs:=p) (ds:=ds) k6 d6 k7 d7 (by rw [k1,k5]) (by rw [Y,d5])
   (fun j u l=>by
    rw [bC];refine⟨f5 j u l,.inr ⟨rfl,rfl,?_⟩⟩;rcases bB j (p++ds).length with z | z
    ·simp at z;simp;omega
    ·rw [cb z] at l;cases l)
   (fun j F u l V=>(k4 j F u l V).mono l1.ef) (fun j F u l V=>(d4 j F u l V).mono l1.ef) (by omega) h4
  rw [<- k5,<- d5] at b1;exact .own (by simp) b1
theorem RT{t e i a0 x y N O b bytes r q l g f a1}{I:List D}{R:Bool}{J:List AV}{s:List D}(h:o.op=.call {callee:=.builtin .append,args:=#[x,y],argTypes:=#[t,t]})(b7:CO x N)(b8:CO y O)(B:P.underlying t=some (.slice e))(hi:P.info? e=some i)(b9:i.size=b)(c0:i.bytes=bytes)(d0:i.zero=some a0)(d1:a0.cells.size=b)(d2:0<b)(a2:q≠r)(d3:q≠l)(d4:cq J=some s)(k:0<f/\g+f*b<=s.length/\(I.length+f)*bytes<=140737488355328/\I.length+f<=9223372036854775807)(p:Prop) :
  a_ E P ro o [(N,.own r b I),(O,.aE l g b f a1)] {c:=p,v:=.own q b (I++e' b f (s.drop g)),ao:=[(r,.row),(l,.box R J)],up:=[(q,.row),(r,.dead)]}:=by
 intro G a w C H b1 b2 d5 K Q d6;obtain⟨c1,c2,c3,c4⟩:=k;have v1:=b1 (N,.own r b I) (by simp) x b7;obtain⟨d7,d8,d9,g8,g9,h0,_,e0⟩:=kq (b1 (O,.aE l g b f a1) (by simp) y b8);have e8:C q=none:=by
  rcases d5 (q,.row) (by simp) with L | ⟨h1,b3,b4⟩
  ·exact L
  ·simp at b3;rcases b3 with rfl | rfl
   ·exact absurd b4.symm a2
   ·exact absurd b4.symm d3
 have S:C r=some .row:=b2 (r,.row) (by simp);have e9:C l=some (.box R J):=b2 (l,.box R J) (by simp);obtain⟨h2,h3,vs,e1,e2,e3,e4,e5,e6,e7⟩:=Ii H e9 d9 d4 (g+f*b) c2;have f0:f*b<=(s.drop g).length:=by rw [jj];omega
 obtain⟨U,s2,s3⟩:=xP (z:=b) (len:=f) (ds:=s.drop g) f0 (fun d hd=>e7 d (iL hd));generalize he:a.eval x=u at v1;cases v1;rename_i A n h4 b5 f5;obtain⟨A2,n2,h5,h6,M,T⟩:=H.row r S;rw [b5] at M;injection M with M;injection M with x1 V;injection V with V W;injection W with W x4
 subst x1;subst V;subst W;subst x4;have f6:=H.HS S;have f7:(C.ar [(r,.dead)]) q=none:=by rw [vt,ab a2];exact e8
 obtain⟨f8,w',G',X,Y,f3,f4⟩:=RS (E:=E) (P:=P) f6 (ty:=o.type) (ay:=⟨d7,g,none⟩) (m:=f) (cy:=d8) (ys:=e' b f (s.drop g)) (ds:=vs.drop g) B hi b9 c0 d0 d1 d2 f5 T (by rw [jj,e3];omega) (fun u B=>e6 u (iL B))
  (fun j u b6=>by rw [fD] at b6;rw [cc];exact(e5 _ u b6).2)
  (fun j Z u k B=>by
   rw [s3] at k;rw [fD] at B;refine e4.2 (g+j) Z u ?_ B;have f9:j<f*b:=by
    rcases bB j (f*b) with L | L
    ·exact L
    ·rw [cb (by simp;omega)] at k;cases k
   rw [AN f9,fD] at k;rw [AN (by omega)];exact k)
  U.symm s2 (by rw [s3];exact fun Z k=>e7 Z (iL (ir k))) c1
  (fun g0 g1 A' h7 h8 h9 F g3 g4 ad g5 X Y g6=>by
   rw [vt] at F;split at F
   ·injection F with F;cases F
   ·rename_i g7;exact g7 (H.eZ r g1 _ _ _ _ _ _ _ _ S F b5 g3 g0 g4 ad g5 X Y g6).symm) (by rw [U];exact c3) (by rw [U];exact c4) f7
 refine fk (by simp [h]) (vA h (by rw [he,e0];exact X)) (d6 f8 w' G' Y ?_ f4);have:C.ar [(q,.row),(r,.dead)]=(C.ar [(r,.dead)]).ar [(q,.row)]:=by funext f;simp only [Hp.ar]
 rw [this];exact f3
end
end
section
theorem aD.move{E:Env}{G:Gh}{h:Hp}{w:World}(H:aD E G h w){n q b:Nat}{D:Bool}{F:List AV}(L:h n=some (.box D F))(M:G.box n=some b)(R:h q=none)(r:Loop)(i:∀ t I,w.heap[b]?=some (.cells t I (0,0))->r.defers<=t.size) :
  aW G w {G with box:=fun m=>if m=q then some b else G.box m,rc:=fun m=>if m=q then r else G.rc m} w /\aD E {G with box:=fun m=>if m=q then some b else G.box m,rc:=fun m=>if m=q then r else G.rc m} (h.ar [(q,.box D F),(n,.dead)]) w:=by
 obtain⟨Z,b7⟩:=H.fresh q R;have b8:¬ n=q:=fun e=>by subst e;rw [L] at R;cases R
 have N:aW G w {G with box:=fun m=>if m=q then some b else G.box m,rc:=fun m=>if m=q then r else G.rc m} w :=
  ⟨fun a a0=>⟨a0,rfl⟩,fun m c v=>by
   dsimp only;split
   ·rename_i e;subst e;rw [Z] at v;cases v
   ·exact v,fun _ _ h=>h,fun m c v=>by
   dsimp only;split
   ·rename_i e;subst e;rw [Z] at v;cases v
   ·rfl⟩
 obtain⟨g1,g2,S,g4⟩:=H.bJ n b M;have S:=S (by rw [L];simp);have u:∀ m,(h.ar [(q,.box D F),(n,.dead)]) m=if m=q then some (.box D F) else if m=n then some .dead else h m:=fun m=>rfl
 refine⟨N,⟨H.os,H.tape,H.output,H.size,H.kept,H.i0,H.eo,H.cu,fun m f=>?_,fun m a1 a2 f=>?_,fun m T J=>?_,fun k m T z y d1 d2=>?_,fun r i=>?_,fun r b0 A k U V A' b1 b3 b4 o p=>?_,fun m s f=>?_,fun m es f=>?_,H.gb.trans N,H.gB⟩⟩
 ·rw [u] at f;split at f
  ·cases f
  ·rename_i e;split at f
   ·cases f
   ·dsimp only;rw [ab e];exact H.fresh m f
 ·rw [u] at f;dsimp only;split at f
  ·rename_i e;subst e;injection f with f;injection f with O B;subst O;subst B
   obtain⟨K,t,I,g,l,C,P,f5⟩:=H.box n D F L;rw [M] at g;injection g with g;subst g
   exact⟨b,t,I,aj rfl,l,C.mono N,P,by rw [aj rfl];exact i t I l⟩
  ·rename_i e;split at f
   ·cases f
   ·obtain⟨K,t,I,g,l,C,P,f5⟩:=H.box m a1 a2 f;exact⟨K,t,I,by rw [ab e];exact g,l,C.mono N,P,by rw [ab e];exact f5⟩
 ·dsimp only at J;split at J
  ·injection J with J;subst J
   exact⟨g1,g2,fun _=>S,g4⟩
  ·rename_i e;obtain⟨g,l,C,P⟩:=H.bJ m T J;refine⟨g,l,fun hd=>?_,P⟩;by_cases em:m=n
   ·subst em;exact absurd (by rw [u,ab e,aj rfl]) hd
   ·exact C (fun he=>hd (by rw [u,ab e,ab em];exact he))
 ·dsimp only at z y;have W:∀ x,¬ x=q->(h.ar [(q,.box D F),(n,.dead)]) x≠some .dead->h x≠some .dead/\¬ x=n:=fun x e d=>by
   rw [u,ab e] at d;by_cases X:x=n
   ·rw [aj X] at d;exact absurd rfl d
   ·rw [ab X] at d;exact⟨d,X⟩
  split at z
  ·rename_i O;split at y
   ·rename_i B;rw [O,B]
   ·rename_i B;injection z with z;subst z
    obtain⟨Q,Y⟩:=W m B d2;exact absurd (H.eC m n b y M Q (by rw [L];simp)) Y
  ·rename_i O;obtain⟨Q,Y⟩:=W k O d1;split at y
   ·injection y with y;subst y
    exact absurd (H.eC k n b z M Q (by rw [L];simp)) Y
   ·rename_i B;exact H.eC k m T z y Q (W m B d2).1
 ·rw [u] at i;split at i
  ·injection i with i;cases i
  ·split at i
   ·injection i with i;cases i
   ·obtain⟨A,k,U,V,g,l⟩:=H.row r i;refine⟨A,k,U,V,g,fun j b5 b6=>?_⟩;obtain⟨ad,e,c1,c2,c3,c4,c5⟩:=l j b5 b6;refine⟨ad,e,c1,c2,c3,c4,fun m=>?_⟩;dsimp only;split
    ·exact fun v=>c5 n (by rw [M];exact v)
    ·exact c5 m
 ·rw [u] at o p;split at o
  ·injection o with o;cases o
  ·split at o
   ·injection o with o;cases o
   ·split at p
    ·injection p with p;cases p
    ·split at p
     ·injection p with p;cases p
     ·exact H.eZ r b0 A k U V A' b1 b3 b4 o p
 ·rw [u] at f;dsimp only;split at f
  ·injection f with f;cases f
  ·rename_i e;split at f
   ·injection f with f;cases f
   ·obtain⟨K,g,l⟩:=H.obj m s f;exact⟨K,by rw [ab e];exact g,by rw [ab e];exact l⟩
 ·rw [u] at f;dsimp only;split at f
  ·injection f with f;cases f
  ·rename_i e;split at f
   ·injection f with f;cases f
   ·obtain⟨K,t,ck,g,l,C⟩:=H.aA m es f;exact⟨K,t,ck,by rw [ab e];exact g,l,C.mono N⟩
section
variable {E:Env}{P:Program}{ro:Option Nat}{o:Oper}
end
section
variable {E:Env}{P:Program}{ro:Option Nat}{o:Oper}
theorem Br:∀ l:List Int,D.flat (l.map fun t=>D.lit (.int .i64 t))=l.map fun t=>D.lit (.int .i64 t)
 | []=>rfl
 | a::r=>by show (D.lit (.int .i64 a)).cells++D.flat (r.map fun t=>D.lit (.int .i64 t))=_;rw [Br r];rfl
end
def jN:SK->Value->Option Lit
 | .int k,.int a n=>if a=k/\(Lit.int k n).wf=true then some (.int k n) else none
 | .bool,.bool b=>some (.bool b)
 | .str,.string s=>if s.size<=maxLen then some (.string s.data.toList) else none
 | _,_=>none
def dK:List SK->List Value->Option (List Lit)
 | [],[]=>some []
 | k::a,v::b=>match jN k v,dK a b with
  | some l,some c=>some (l::c)
  | _,_=>none
 | _,_=>none
theorem Bs:∀ {e c:List SK}{d:List Value}{l:List Lit},dK (e++c) d=some l->∃ f g,dK e (d.take e.length)=some f/\dK c (d.drop e.length)=some g/\l=f++g
 | [],c,d,l,h=>⟨[],l,by simp [dK],by simpa using h,rfl⟩
 | k::i,c,[],l,h=>by simp [dK] at h
 | k::i,c,v::d,l,h=>by
  simp only [dX,dK] at h;split at h
  ·rename_i a b j m;obtain⟨f,g,n,o,p⟩:=Bs m;injection h with h
   exact⟨a::f,g,by simp [dK,j,n],by simpa using o,by simp [<- h,p]⟩
  ·cases h
theorem Bt:∀ {a:List SK}{b:List Value}{l:List Lit},dK a b=some l->b.length=a.length
 | [],[],_,_=>rfl
 | [],_::_,_,h=>by simp [dK] at h
 | _::_,[],_,h=>by simp [dK] at h
 | k::a,v::b,l,h=>by
  simp only [dK] at h;split at h
  ·rename_i c;simp [Bt c]
  ·cases h
section
variable {P:Program}
theorem Il{m:Nat}{cs:List Value}(e:∀ t c g l,hB P m t=some c->dK c g=some l->P.keyLits m t g=some l) :
  ∀ {fs:List Field}{off:Nat}{c:List SK}{l:List Lit},vw P (hB P m) off fs=some c->dK c (cs.drop off)=some l ->∃ as,fs.mapM (fun f=>P.keyLits m f.type ((cs.drop f.offset).take (P.cellsOf f.type)))=some as/\as.flatten=l
 | [],off,c,l,h,d=>by
  simp only [vw,aL] at h;subst h;cases i:cs.drop off with
  | nil=>rw [i] at d;simp [dK] at d;exact⟨[],by simp,by simp [d]⟩
  | cons a b=>rw [i] at d;simp [dK] at d
 | f::r,off,c,l,h,d=>by
  simp only [vw] at h;split at h
  ·rename_i k1 k;split at h
   ·rename_i n;obtain⟨rfl,o⟩:=n;simp only [bZ] at h;obtain⟨k2,p,rfl⟩:=h;obtain⟨q,w,s,j,rfl⟩:=Bs d;rw [xF] at j;obtain⟨as,u,v⟩:=Il e p j;refine⟨q::as,?_,by simp [v]⟩;rw [PG,o,e _ _ _ _ k s,u];rfl
   ·cases h
  ·cases h
theorem Im{m:Nat}{cs:List Value}{e:TypeId}{c:List SK}(f:∀ g l,dK c g=some l->P.keyLits m e g=some l)(h:P.cellsOf e=c.length) :
  ∀ {n i0:Nat}{l:List Lit},dK (List.replicate n c).flatten (cs.drop (i0*c.length))=some l ->∃ as,(List.range' i0 n).mapM (fun i=>P.keyLits m e ((cs.drop (i*P.cellsOf e)).take (P.cellsOf e)))=some as/\as.flatten=l
 | 0,i0,l,d=>by
  cases j:cs.drop (i0*c.length) with
  | nil=>rw [j] at d;simp [dK] at d;exact⟨[],by simp,by simp [d]⟩
  | cons a b=>rw [j] at d;simp [dK] at d
 | n+1,i0,l,d=>by rw [PH,List.flatten_cons] at d;obtain⟨p,s,q,k,rfl⟩:=Bs d;rw [xF,show i0*c.length+c.length=(i0+1)*c.length by rw [Hi]] at k;obtain⟨as,o,r⟩:=Im f h k;refine⟨p::as,?_,by simp [r]⟩;rw [ve,PG];rw [h] at o |-;rw [f _ _ q,o];rfl
theorem vB:∀ (m:Nat) (t:TypeId) (g:List SK) (f:List Value) (l:List Lit),hB P m t=some g->dK g f=some l->P.keyLits m t f=some l
 | 0,_,_,_,_,h,_=>by simp [hB] at h
 | m+1,t,g,f,l,h,c=>by
  have plain:∀ k,g=[k]->∃ v a,f=[v]/\l=[a]/\jN k v=some a:=fun k j=>by
   subst j
   match f,c with
   | [],c=>simp [dK] at c
   | [v],c =>
    simp only [dK] at c;split at c
    ·rename_i a b y o;injection c with c;injection o with o;subst o;exact⟨v,a,rfl,c.symm,y⟩
    ·cases c
   | v::u::r,c =>
    simp only [dK] at c;split at c
    ·rename_i o;simp at o
    ·cases c
  unfold hB at h;unfold Program.keyLits;split at h
  ·rename_i i;injection h with h
   obtain⟨v,a,rfl,rfl,d⟩:=plain _ h.symm;unfold jN at d;split at d <;> simp_all
  ·rename_i i;injection h with h
   obtain⟨v,a,rfl,rfl,d⟩:=plain _ h.symm;unfold jN at d;split at d <;> simp_all;obtain⟨⟨z,D⟩,E⟩:=d;subst z;simp_all
  ·rename_i i;injection h with h
   obtain⟨v,a,rfl,rfl,d⟩:=plain _ h.symm;unfold jN at d;split at d <;> simp_all
  ·rename_i A d i;split at h
   ·rename_i k2 j;split at h
    ·rename_i p;injection h with h
     have q:=Bt c;rw [<- h] at c q;obtain⟨as,s,w⟩:=Im (P:=P) (m:=m) (cs:=f) (e:=d) (fun f l x=>vB m d k2 f l j x) p.1 (n:=A) (i0:=0) (by simpa using c);simp only [i];rw [aj (by rw [q,p.2];simp),Hj,s];simp [w]
    ·cases h
   ·cases h
  ·rename_i B i;split at h
   ·rename_i k2 j;split at h
    ·rename_i p;injection h with h
     subst h;have q:=Bt c;obtain⟨as,s,w⟩:=Il (P:=P) (m:=m) (cs:=f) (fun t g f l C x=>vB m t g f l C x) (fs:=B.toList) (off:=0) j (by simpa using c);simp only [i];rw [aj ⟨by rw [q,p.1],p.2⟩,s];simp [w]
    ·cases h
   ·cases h
  ·cases h
theorem Io{I:Addr->Prop}{w:World}:∀ {d:List SK}{f g:List D}{us vs:List Value},hz d f g->us.length=f.length->vs.length=g.length ->(∀ (k:Nat) (c:D) (v:Value),f[k]?=some c->us[k]?=some v->au I w c v)->(∀ (k:Nat) (c:D) (v:Value),g[k]?=some c->vs[k]?=some v->au I w c v) ->∃ i j,dK d us=some i/\dK d vs=some j/\(gC f g=true↔i=j)/\f.length=d.length/\g.length=d.length
 | [],[],[],us,vs,_,M,N,_,_=>by have l:us=[]:=hV (by simpa using M);have m:vs=[]:=hV (by simpa using N);subst l;subst m;exact⟨[],[],rfl,rfl,by simp [gC],rfl,rfl⟩
 | k::d,x::f,y::g,us,vs,h,M,N,o,R=>by
  cases us with
  | nil=>simp at M
  | cons u us =>
  cases vs with
  | nil=>simp at N
  | cons v vs =>
   have O:=o 0 x u rfl rfl;have P:=R 0 y v rfl rfl;have Q:hz d f g->∃ i j,dK d us=some i/\dK d vs=some j/\(gC f g=true↔i=j)/\f.length=d.length/\g.length=d.length:=fun S =>Io S (by simpa using M) (by simpa using N) (fun k c z a b=>o (k+1) c z (by simpa using a) (by simpa using b)) (fun k c z a b=>R (k+1) c z (by simpa using a) (by simpa using b))
   unfold hz at h;split at h
   ·rename_i n p q;injection n with r A;injection p with B C;injection q with E F
    subst r;subst A;subst B;subst C;subst E;subst F;obtain⟨rfl,rfl,h⟩:=h;obtain⟨i,j,l,m,G,H,J⟩:=Q h;cases O;cases P;rename_i K L;simp only [Sc] at K L;refine⟨_,_,by simp [dK,jN,l,Lit.wf,K];rfl,by simp [dK,jN,m,Lit.wf,L];rfl,by simp [gC,G],by simp [H],by simp [J]⟩
   ·rename_i n p q;injection n with r A;injection p with B C;injection q with E F
    subst r;subst A;subst B;subst C;subst E;subst F;obtain⟨i,j,l,m,G,H,J⟩:=Q h;cases O;cases P;refine⟨_,_,by simp [dK,jN,l];rfl,by simp [dK,jN,m];rfl,by simp [gC,G],by simp [H],by simp [J]⟩
   ·rename_i n p q;injection n with r A;injection p with B C;injection q with E F
    subst r;subst A;subst B;subst C;subst E;subst F;obtain⟨i,j,l,m,G,H,J⟩:=Q h;cases O;cases P;rename_i s t K L;simp only [Sc] at K L;refine⟨_,_,by simp [dK,jN,l,maxLen,K];rfl,by simp [dK,jN,m,maxLen,L];rfl,?_,by simp [H],by simp [J]⟩;simp only [gC,ax,bD,G,xy,Lit.string.injEq];constructor
    ·rintro⟨rfl,h⟩;exact⟨rfl,h⟩
    ·rintro⟨o,h⟩;exact⟨by cases s;cases t;simp at o;simp [o],h⟩
   ·rename_i n _ _;cases n
   ·exact h.elim
 | [],_::_,_,us,vs,h,_,_,_,_=>by simp [hz] at h
 | [],[],_::_,us,vs,h,_,_,_,_=>by simp [hz] at h
 | k::d,[],_,us,vs,h,_,_,_,_=>by cases k <;> simp [hz] at h
 | k::d,x::f,[],us,vs,h,_,_,_,_=>by
  exfalso;unfold hz at h;split at h
  ·rename_i e;cases e
  ·rename_i e;cases e
  ·rename_i e;cases e
  ·rename_i e _ _;cases e
  ·exact h
theorem Ip:∀ {b:List AV}{a:List D},iw b=some a->a.length=b.length/\∀ (k:Nat) (d:D),a[k]?=some d->∃ c:AV,b[k]?=some c/\c.lu=some d
 | [],a,h=>by simp [iw] at h;subst h;simp
 | c::b,a,h=>by
  simp only [iw] at h;split at h
  ·rename_i x l f g;injection h with h;subst h
   obtain⟨i,j⟩:=Ip g;refine⟨by simp [i],fun k d e=>?_⟩;cases k with
   | zero=>simp at e;subst e;exact⟨c,rfl,f⟩
   | succ k=>exact j k d (by simpa using e)
  ·cases h
theorem xW{G:Gh}{w:World}{x:AV}{e:List D}{v:Value}(h:x.mZ=some e)(b:aC G w x v):∃ d,v=.agg d/\d.size=e.length/\∀ (k:Nat) (c:D) (u:Value),e[k]?=some c->d.toList[k]?=some u->au G.I w c u:=by
 unfold AV.mZ at h;split at h
 ·injection h with h;subst h
  cases b;rename_i b;cases b;rename_i f g l b;exact⟨f,rfl,g,fun k c u i j=>b k c u i (by simpa using j)⟩
 ·cases b;rename_i d f g l b;obtain⟨m,n⟩:=Ip h;refine⟨f,rfl,by rw [g,m],fun k c u i j=>?_⟩;obtain⟨a,o,p⟩:=n k c i;exact Bj p (b k a u o (by simpa using j))
 ·cases h
end
section
variable {E:Env}{P:Program}{ro:Option Nat}{o:Oper}
theorem Bu{I:Addr->Prop}{w:World}{x v:Value}(h:au I w (.lit x) v):v=x:=by cases h;rfl
theorem RU{N:FuncId}{g a0 a1 a2 d2}{d n m b z l s t b3 A b4:Nat}{O S:Bool}{q:List AV}{pl:AV}{i k:Int}(h:o.op=.call {callee:=.value g,args:=#[a1],argTypes:=d2})(T:CO g a0)(d3:CO a1 a2)(hl:xQ P N)(d4:pl.mZ=some [.lit (.int .i64 i),.lit (.int .i64 k)])(b5:q.getD (b+i.toNat) default=.aE m t b3 A b4)(U:(z=1/\b3=1/\b+i.toNat<q.length)/\(0<=i/\i<l)/\0<=k/\k<A)(p:Prop) :
  a_ E P ro o [(a0,.fn (.func N) [] [.ptr d 0]),(a2,pl)] {c:=p,v:=.ptr m (t+k.toNat),ao:=[(d,.box O [.aE n b z l s]),(n,.box S q)]}:=by
 intro G a w f5 H d5 b6 _ K Q d6;obtain⟨⟨rfl,rfl,V⟩,⟨c2,c3⟩,c4,c5⟩:=U;obtain⟨v1,v2⟩:=fz d5 T d3;obtain⟨C,W,d7,e1,e2,e3,e4⟩:=H.box d O _ (b6 (d,.box O [.aE n b 1 l s]) (by simp));obtain⟨D,X,d8,f1,f2,f3,f4⟩:=H.box n S q (b6 (n,.box S q) (by simp));generalize hu:a.eval g=u at v1;obtain⟨F,r,rfl,q1,q2,q3⟩:∃ F r:Array Value,u=.func (.func N) F r/\F.size=0/\r.size=1/\∀ (k:Nat) (s:AV) (b7:Value),[AV.ptr d 0][k]?=some s->r[k]?=some b7->aC G w s b7:=by
  cases v1 with
  | fn I Y h3 h4=>exact⟨_,_,rfl,by simpa using I,by simpa using Y,h4⟩
 have d9:F=#[]:=AD q1;subst d9;obtain⟨J,e0⟩:∃ J,r=#[J]:=⟨r[0],by
  apply xG
  ·simp [q2]
  ·intro i I Y;have:i=0:=by omega
   subst this;simp⟩
 subst e0;obtain⟨Z,rfl,L⟩:∃ Z,J=.pointer (some ⟨Z,0,none⟩)/\G.box d=some Z:=by
  have q4:=q3 0 _ J rfl rfl;cases q4 with
  | ptr T=>exact⟨_,rfl,T⟩
 rw [e1] at L;injection L with L;subst L
 have b8:0<W.size:=by have:=e3.1;simp at this;omega
 obtain⟨f6,b9,M,g2,g3,g4,g5,g6⟩:=kq (e3.2 0 _ W[0] rfl (bb b8));rw [f1] at M;injection M with M;subst M
 have e5:w.cell? ⟨C,0,none⟩=some (.slice (some ⟨D,b,none⟩) l b9):=by rw [hW w C 0 W d7 (0,0) e2,bb b8,g6]
 have c0:b+i.toNat<X.size:=fx V f3.1;have e6:q[b+i.toNat]?=some (.aE m t 1 A b4):=by rw [aI V];rw [fQ,aI V] at b5;simpa using b5
 obtain⟨b2,d0,k1,k2,k3,k4,k5,k6⟩:=kq (f3.2 _ _ X[b+i.toNat] e6 (bb c0));have e7:w.cell? ⟨D,b+i.toNat,none⟩=some (.slice (some ⟨b2,t,none⟩) A d0):=by rw [hW w D _ X d8 (0,0) f2,bb c0,k6]
 obtain⟨ps,p1,p2,p3⟩:=xW d4 v2;have e8:ps=#[.int .i64 i,.int .i64 k]:=by
  have h0:0<ps.size:=by rw [p2];simp
  have I:1<ps.size:=by rw [p2];simp
  have r0:=p3 0 _ ps[0] rfl (by rw [sX];exact bb h0);have r1:=p3 1 _ ps[1] rfl (by rw [sX];exact bb I);have r0:=Bu r0;have r1:=Bu r1;apply xG
  ·simp [p2]
  ·intro j Y h3;rcases j with _ | _ | j
   ·exact r0
   ·exact r1
   ·simp at h3;omega
 obtain⟨e9,rfl⟩:=ht c2;obtain⟨f0,rfl⟩:=ht c4;simp only [gw] at *;have U:=hl.run w C D b2 b t l b9 A d0 e9 f0 e5 (by omega) e7 (by omega);refine jM (f:=g) h (x:=#[]) (y:=#[.pointer (some ⟨C,0,none⟩)]) hu hl.call (R:=_) (by simp only [p1,e8,bo,hY,gx,dX];exact U) (fun u w' B=>?_) (fun ch w' B=>?_) (fun w' B=>?_)
 ·obtain⟨e,g⟩:=B;injection e with e;subst e
  obtain⟨l1,l2⟩:=H.grow g G.I (fun _ h=>h) (fun _ h=>.inl h) (fun a' d1=>by rw [g.cell (H.e_ d1)];exact H.cu a' d1);exact d6 _ w' _ l1 l2 (.ptr k1)
 ·cases B.1
 ·cases B.1
theorem Bv{X S a2 c2 l bytes q}{b:List D}{b0:AV}{ao:List (Nat×HO)}(h:o.op=.call {callee:=.value (.func X),args:=#[S],argTypes:=c2})(d0:CO S a2)(hl:iz P X l bytes)(d1:b.length*bytes<=140737488355328)(b1:∀ e∈b,e.cells.length=l)(k7:∀ r∈D.flat b,r.one=true)(d2:∀ z∈ao,z.1≠q)(p:Prop)(d3:∀ (G:Gh) (a:Act) (w:World) (J:Hp),aD E G J w->aC G w b0 (a.eval S)->(∀ p∈ao,J p.1=some p.2)->∃ (L:Option Addr) (M:Nat) (s:List Value),a.eval S=.slice L b.length M/\s.length=b.length*l/\(∀ u∈s,u.oneCell'=true)/\(∀ d,L=some d->∀ (j:Nat) (u:Value),s[j]?=some u->w.cell? (d.add j)=some u)/\(∀ (k:Nat) (r:D) (u:Value),(D.flat b)[k]?=some r->s[k]?=some u->au G.I w r u)/\(L=none->b.length=0)/\b.length<=M/\M<=9223372036854775807) :
  a_ E P ro o [(a2,b0)] {c:=p,v:=.own q l b,ao:=ao,up:=[(q,.row)]}:=by
 intro G a w J H d4 d5 d6 K Q b2;have b3:J q=none:=by
  rcases d6 (q,.row) (by simp) with d7 | ⟨z,d8,d9⟩
  ·exact d7
  ·exact absurd d9 (d2 z d8)
 obtain⟨L,M,s,e0,b4,k2,k3,k4,k8,k9,e3⟩:=d3 G a w J H (eO d4 d0) d5;have e4:=hl.run w L b.length M s k9 e3 b4 k8 k3 k2 (d1);refine jM (f:=.func X) h (x:=#[]) (y:=#[]) (by rfl) hl.call (R:=_) (by simp only [e0,bo,hY,PB,gx,eN];exact e4) (fun u B O=>?_) (fun ch B O=>?_) (fun B O=>?_)
 ·obtain⟨g,⟨h0,Y,i⟩ | ⟨h0,N,b5,C,ty,i,q1,q2,q3,q4,q5,q6⟩⟩:=O
  ·injection i with i;subst i
   obtain⟨U,Z⟩:=H.grow g G.I (fun _ h=>h) (fun _ h=>.inl h) (fun a' b6=>by rw [g.cell (H.e_ b6)];exact H.cu a' b6);obtain⟨m1,m2⟩:=Z.na (A:=Y) (n:=0) (cap:=0) (sz:=l) b3 (fun k F b7=>by simp at b7) (fun t=>by simp at t);have e5:b=[]:=hV (by omega);subst e5;refine b2 _ B _ (U.trans m1) m2 (.own (by simp) (.sl ⟨0,0,none⟩ (fun _=>undef) rfl (bj _) (by omega) (.inr rfl) (by simp) (by simp [D.flat]) (by simp [D.flat]) (by simp [D.flat])))
  ·injection i with i;subst i
   have b8:=fU b1;have a0:∀ k,B.cell? ⟨N,k,none⟩=C[k]?:=fun k=>hW B N k C ty (0,0) q2
   have f2:b.length*l<=b5*l:=ln _ q3;obtain⟨U,Z⟩:=H.grow g (fun d=>G.I d\/(d.block=N/\d.spot=none/\d.off<b.length*l)) (fun _ h=>.inl h) (fun d I=>I.imp id (fun h=>by omega)) (fun d I=>by
    rcases I with I | ⟨h1,h2,h3⟩
    ·rw [g.cell (H.e_ I)];exact H.cu d I
    ·have:d=⟨N,d.off,none⟩:=by cases d;simp_all
     rw [this,a0,bb (show d.off<C.size by omega)];rfl)
   obtain⟨m1,m2⟩:=Z.na (A:=some ⟨N,0,none⟩) (n:=b.length) (cap:=b5) (sz:=l) b3 (fun k F b7=>by
    refine⟨⟨N,0,none⟩,rfl,?_,?_,?_,⟨fun e6=>?_,E.hN _ (eX H.size q1)⟩,fun m hm=>?_⟩
    ·rw [cc,a0,bb (show 0+k<C.size by omega)];rfl
    ·rw [cc];simp [World.frozen?,q2]
    ·rw [cc];rintro(h1 | ⟨h1,h2,h3⟩)
     ·have:=H.e_ h1;simp at this;omega
     ·simp at h3;omega
    ·have:=(H.kept N e6).1;have:=H.size;omega
    ·have:=(H.bJ m N hm).1;omega) (fun t b9 Y c0 e7 c1 e8 a1 e9 d f3 e1 e2 f0=>by
    injection e1 with e1;subst e1
    obtain⟨A2,n2,f4,f5,V,T⟩:=H.row b9 e8;have a1:G.row b9=some (Y,c0,e7,c1):=a1;rw [a1] at V;injection V with V;injection V with x1 x2;injection x2 with x2 x3;injection x3 with x3 x4
    subst x1;subst x2;subst x3;subst x4;obtain⟨f6,W,y2,_⟩:=T (c0*c1) (bj _) e9;rw [e2] at W;injection W with W;subst W
    obtain⟨f7,f1⟩:=eI.1 y2;have:=d_ w _ f1;rw [block_add,<- f0] at this;simp at this;omega)
   refine b2 _ B _ (U.trans m1) m2 (.own (by simp) (.sl ⟨N,0,none⟩ (fun k=>(C[k]?).getD undef) rfl (by omega) q4 (.inl rfl) b1 k7 (fun k r F=>?_) (fun k r F=>?_)))
   ·have t:k<b.length*l:=by rw [<- b8];exact(bu.1 F).1
    rw [cc,bC,a0,bb (show k<C.size by omega)];exact⟨.inr ⟨rfl,rfl,t⟩,rfl⟩
   ·have t:k<s.length:=by rw [b4,<- b8];exact(bu.1 F).1
    have h2:=q6 k _ (aI t);rw [h2];exact((k4 k r _ F (aI t)).mono U.ef)
 ·obtain⟨_,⟨_,_,i⟩ | ⟨_,_,_,_,_,i,_⟩⟩:=O <;> cases i
 ·obtain⟨_,⟨_,_,i⟩ | ⟨_,_,_,_,_,i,_⟩⟩:=O <;> cases i
theorem RW{f x k B g bytes l q}{d:List D}{m:AV}(h:o.op=.call {callee:=.value (.func f),args:=#[x],argTypes:=B})(r:CO x k)(C:iz P f g bytes)(s:m.elems=some (l,d))(F:(l=g\/d=[])/\d.length*bytes<=140737488355328)(p:Prop) :
  a_ E P ro o [(k,m)] {c:=p,v:=.own q g d,up:=[(q,.row)]}:=by
 intro G a w t H y I J K Q L;obtain⟨z,M⟩:=F;have b:=jK s G w _ (eO y r);obtain⟨n0,A0,a0,_,_,N,_⟩:=b.gJ;rw [N] at b;obtain⟨a1,j1,j2,j3,j4,j5,O,R,j8,j9,a2⟩:=l_ b;have S:∀ e∈d,e.cells.length=g:=by
  rcases z with rfl | rfl
  ·exact O
  ·simp
 refine Bv h r C M S R (by simp) p (ao:=[]) (fun G a w t H i _=>?_) G a w t H y I J K Q L;have b:=jK s G w _ i;obtain⟨n,A,T,_,_,i,_⟩:=b.gJ;rw [i] at b;obtain⟨U,k1,k2,k3,k4,k5,k6,k7,V,W,X⟩:=l_ b;subst k5;refine⟨A,T,U,i,?_,k2,fun Y e j u Z=>(k3 Y e j u Z).1,k4,fun e=>by rw [V e];rfl,W,X⟩;rcases z with rfl | rfl
 ·exact k1
 ·simpa using k1
theorem Iq:∀ l:List D,(∀ d∈l,d.one=true)->D.flat l=l
 | [],_=>rfl
 | d::l,h=>by have a:=h d (dj ..);have b:D.flat (d::l)=d.cells++D.flat l:=rfl;rw [b,Iq l fun x c=>h x (cD _ c)];cases d <;> first | rfl | cases a
theorem RX{d:D}(h:d.one=true):d.cells.length=1:=by cases d <;> first | rfl | cases h
theorem RY{f x y F bytes q n l I A}{m:List AV}{g:List D}(h:o.op=.call {callee:=.value (.func f),args:=#[x],argTypes:=F})(J:CO x y)(K:iz P f 1 bytes)(L:cq m=some g)(r:∀ d∈g,d.one=true)(s:l<=g.length/\l*bytes<=140737488355328)(M:n≠q)(p:Prop) :
  a_ E P ro o [(y,.aE n 0 1 l I)] {c:=p,v:=.own q 1 (g.take l),ao:=[(n,.box A m)],up:=[(q,.row)]}:=by
 have t:(g.take l).length=l:=xH s.1;have B:D.flat (g.take l)=g.take l:=Iq _ fun d i=>r d (ir i)
 refine Bv h J K (by rw [t];exact s.2) (fun e N=>RX (r e (ir N))) (fun d i=>by rw [B] at i;exact r d (ir i)) (fun z C=>by simp at C;subst C;exact M) p fun G a w a0 H O Q=>?_
 obtain⟨b,R,q1,q2,q3,S,q5,T⟩:=kq O;obtain⟨a1,ty,U,w1,w2,V,W,X,Y,w7⟩:=Ii H (Q (n,.box A m) (by simp)) q1 L l s.1;refine⟨some ⟨b,0,none⟩,R,U,by rw [T,t],by rw [V,t,Nat.mul_one],Y,fun ad e j u Z=>?_,fun k d u i hu=>?_,fun e=>by simp at e,by omega,S⟩
 ·injection e with e;subst e
  rw [cc,bC];exact(X j u Z).2
 ·rw [B] at i;exact W.2 k d u i hu
theorem RZ{f x b g d bytes q z}(h:o.op=.call {callee:=.value (.func f),args:=#[x],argTypes:=g})(i:CO x b)(j:iz P f d bytes)(p:Prop) :
  a_ E P ro o [(b,.e0 z)] {c:=p,v:=.own q d [],up:=[(q,.row)]}:=by
 refine Bv h i j (by simp) (by simp) (by simp [D.flat]) (by simp) p (ao:=[]) fun G a w k H e _=>?_
 generalize a.eval x=u at e;cases e;exact⟨_,0,[],rfl,by simp,by simp,by simp,by simp,by simp,by simp,by omega⟩
theorem xX:∀ {a:List SK}{c:List Value},kp a c->(∃ l,dK a c=some l)/\c.length=a.length
 | [],[],_=>⟨⟨[],rfl⟩,rfl⟩
 | [],_::_,h=>by simp [kp] at h
 | .int k::a,v::c,h=>by cases v <;> simp only [kp] at h;rename_i g n;obtain⟨⟨rfl,e,i⟩,f⟩:=h;obtain⟨⟨l,q1⟩,d⟩:=xX f;exact⟨⟨.int g n::l,by simp [dK,jN,Lit.wf,e,i,q1]⟩,by simp [d]⟩
 | .bool::a,v::c,h=>by cases v <;> simp only [kp] at h;rename_i b;obtain⟨⟨l,q1⟩,d⟩:=xX h;exact⟨⟨.bool b::l,by simp [dK,jN,q1]⟩,by simp [d]⟩
 | .str::a,v::c,h=>by cases v <;> simp only [kp] at h;rename_i x;obtain⟨e,f⟩:=h;obtain⟨⟨l,q1⟩,d⟩:=xX f;exact⟨⟨.string x.data.toList::l,by simp [dK,jN,maxLen,e,q1]⟩,by simp [d]⟩
 | .int _::_,[],h=>by simp [kp] at h
 | .bool::_,[],h=>by simp [kp] at h
 | .str::_,[],h=>by simp [kp] at h
theorem Bw{a:TypeId}{b:List SK}(g:hB P (P.types.size+1) a=some b)(d:ox P a=true):WideMaps.KeyLaw P a/\∀ v,dN b v->∃ l,keyOf P a v=some l:=by
 unfold ox at d;simp only [ax,bD] at d;obtain⟨h,n,o,c,p⟩:=d;rw [g] at p;refine⟨deep_law (m:=20) (by omega) n o c,fun v i=>?_⟩;cases v <;> simp only [dN] at i;rename_i e;obtain⟨⟨l,q1⟩,q⟩:=xX i;have j:=vB (P.types.size+1) a b e.toList l g q1;have k:(Value.agg e).formed P a=true:=by
  unfold Value.formed;have:e.size=b.length:=by simpa using q
  split at c <;> simp_all
 refine⟨.string (keyBytes l),?_⟩;unfold keyOf;split at c
 ·rename_i f;rw [f];simp [h,k,Value.cells,j]
 ·rename_i f;rw [f];simp [h,k,Value.cells,j]
 ·cases c
theorem xY{k:Value}:∀ {c:List (Value×AV)}{v:AV},dJ k c=some (some v)->∃ j:Nat,c[j]?=some (k,v)/\∀ x,fj k x c=c.set j (k,x)
 | [],v,h=>by simp [dJ] at h
 | e::c,v,h=>by
  simp only [dJ] at h;split at h
  ·rename_i d;simp only [aL] at h;subst h;have f:=Ie d;exact⟨0,by obtain⟨a,b⟩:=e;simp at f;subst f;rfl,fun x=>by rw [fj,d];simp [f]⟩
  ·rename_i d;obtain⟨j,q1,g⟩:=xY h;exact⟨j+1,by simpa using q1,fun x=>by simp only [fj,d,xD,g]⟩
  ·cases h
theorem Ir:∀ {a:List D}{l:List Value},pT a=some l->a=l.map .lit
 | [],l,h=>by simp only [pT,aL] at h;subst h;rfl
 | d::r,l,h=>by cases d <;> simp only [pT,reduceCtorEq,bZ] at h;obtain⟨t,b,rfl⟩:=h;rw [Ir b];rfl
theorem Bx{G:Gh}{w:World}{b:AV}{c v:Value}(h:pU b=some c)(f:aC G w b v):v=c:=by
 unfold pU at h;split at h
 ·rename_i n g;simp only [bZ] at h;obtain⟨l,i,rfl⟩:=h;have k:=Ir i;subst k;obtain⟨ps,rfl,d,m⟩:=xW g f;congr 1;apply va;apply sY;intro j;rcases bB j l.length with a | a
  ·have e:j<ps.toList.length:=by simpa [d] using a
   have r:=m j (.lit l[j]) _ (by simp [a]) (aI e);rw [aI e,Bu r,aI a]
  ·rw [cb (by simpa [d] using a),cb (by simpa using a)]
 ·cases h
theorem By{G:Gh}{w:World}{kt:TypeId}{c:List SK}{a:List (Value×AV)}{d:Array MapEntry}(h:∀ v,dN c v->∃ l,keyOf P kt v=some l)(f:rb G w a d)(i:∀ e∈a,dN c e.1):∀ e∈d.toList,∃ l,keyOf P kt e.key=some l:=fun e k=>by
 obtain⟨j,b,rfl⟩:=pD.1 k;have g:j<a.length:=by have:=f.1;simp at b;omega
 rw [(f.2 j a[j] _ (aI g) (by simp at b;simp [b])).1];exact h _ (i _ (cN g))
theorem Iu{b:Array MapEntry}{ck:Nat}(h:MapKept.Stamped b ck){i j:Nat}{x y:MapEntry}(c:b.toList[i]?=some x)(d:b.toList[j]?=some y)(e:x.key=y.key):i=j:=by
 have f:=List.pairwise_iff_getElem.1 ((MapKept.stamped_iff b ck).1 h).2.2;obtain⟨g,c⟩:=bu.1 c;obtain⟨k,d⟩:=bu.1 d;rcases Nat.lt_trichotomy i j with a | a | a
 ·exact absurd (by rw [c,d];exact e) (f i j g k a)
 ·exact a
 ·exact absurd (by rw [c,d];exact e.symm) (f j i k g a)
theorem Iv{mt D T m k U V O A W R z F}{q:List (Value×AV)}{X:AV}{J:Value}{r:Option AV}(h:o.op=.lookup mt m k A)(hm:CO m U)(s:CO k V)(t:P.underlying mt=some (.map D T))(b4:hB P (P.types.size+1) D=some O)(b5:ox P D=true)(hi:P.info? T=some W)(b6:W.zero=some R)(b7:∀ I w,au I w z R)(b8:pU X=some J)(L:dJ J q=some r)(Y:dN O J/\∀ e∈q,dN O e.1)(Z:Prop) :
  a_ E P ro o [(U,.mp F),(V,X)] {c:=Z,v:=m_ A (r.getD (.d z)) r.isSome,ao:=[(F,.aA q)]}:=by
 intro G a w d4 H b9 c0 d5 K Q c1;obtain⟨v1,v2⟩:=fz b9 hm s;have e2:=Bx b8 v2;obtain⟨a0,a1⟩:=Bw (P:=P) b4 b5;obtain⟨d6,a2⟩:=a1 _ Y.1;generalize he:a.eval m=u at v1;cases v1;rename_i b c2;obtain⟨d7,g,ck,M,f2,b0⟩:=H.aA F q (c0 (F,.aA q) (by simp));have x:=b0.pos (tq L);rw [c2] at M;injection M with M;subst M
 have d0:=By (P:=P) (kt:=D) a1 x Y.2;have b1:=fun em=>a0.check w em a2
 have d1:∃ p,(Instr.lookup mt (.map (some b)) J A).run P w=.ok (if A then .tuple #[p,.bool r.isSome] else p) w/\aC G w (r.getD (.d z)) p:=by
  rcases a0.find w a2 g.toList d0 with ⟨q1,d⟩ | ⟨f,b2,q1,d,q3⟩
  ·cases r with
   | none =>refine⟨R,?_,.d (b7 _ _)⟩;unfold Instr.lookup;simp [dm t,qY f2,b1,q1,zeroValue,typeInfo,hi,b6]
   | some p =>
    exfalso;obtain⟨f,B,_⟩:=xY L;have N:f<g.size:=by rw [x.1];exact(bu.1 B).1
    exact d _ (cN (l:=g.toList) (n:=f) (by simpa using N)) (by have:=(x.2 f _ g[f] B (bb N)).1;simpa using this)
  ·cases r with
   | none =>
    exfalso;have N:=(bu.1 d).1;have b3:f<q.length:=by have:=x.1;simp at N;omega
    exact vz L _ (cN b3) (by rw [<- (x.2 f q[f] b2 (aI b3) (by simpa using d)).1,q3])
   | some p =>
    obtain⟨C,B,_⟩:=xY L;have S:C<g.size:=by rw [x.1];exact(bu.1 B).1
    obtain⟨g2,g3⟩:=x.2 C _ g[C] B (bb S);have d2:=Iu b0.1 (i:=f) (j:=C) (y:=g[C]) d (by simp [S]) (by rw [q3,g2]);subst d2;have d3:b2=g[f]:=by rw [sX,bb S] at d;injection d with d;exact d.symm
    subst d3;refine⟨g[f].val,?_,g3⟩;unfold Instr.lookup;simp [dm t,qY f2,b1,q1]
 obtain⟨p,q1,d⟩:=d1;refine fk (v:=if A then .tuple #[p,.bool r.isSome] else p) (by simp [h]) (w':=w) (by simp only [execOp,h,c',he,e2,q1,dt,dV]) (c1 _ w G (aW.refl G w) H ?_);cases A
 ·exact d
 ·refine .af rfl (fun k Z u s t=>?_)
  match k with
  | 0=>simp at s t;subst s;subst t;exact d
  | 1=>simp at s t;subst s;subst t;exact lZ _
  | k+2=>simp at s
theorem R_{c:List SK}{b:Value}{x:AV}{a:List (Value×AV)}(d:eB a=false)(f:dN c b):eB (a++[(b,x)])=false:=by
 cases a with
 | nil=>cases b <;> first | rfl | exact f.elim
 | cons e a=>obtain⟨v,y⟩:=e;cases v <;> first | rfl | simp [eB] at d
theorem R'{mt s a0 m k g A B C D n}{d:List (Value×AV)}{F:AV}{f:Value}{x:AV}(h:o.op=.insert mt m k g\/o.op=.mapUpdate mt m k g)(hm:CO m A)(I:CO k B)(a1:CO g C)(hu:P.underlying mt=some (.map s a0))(a2:hB P (P.types.size+1) s=some D)(b0:ox P s=true)(b1:pU F=some f)(J:dJ f d=some none)(L:dN D f/\∀ e∈d,dN D e.1)(O:Prop) :
  a_ E P ro o [(A,.mp n),(B,F),(C,x)] {c:=O,v:=.af [],ao:=[(n,.aA d)],up:=[(n,.aA (d++[(f,x)]))]}:=by
 intro G a w b9 H M R c0 K Q b2;have S:=M (A,.mp n) (by simp) m hm;have e2:=Bx b1 (M (B,F) (by simp) k I);have v3:=M (C,x) (by simp) g a1;obtain⟨T,U⟩:=Bw (P:=P) a2 b0;obtain⟨c1,V⟩:=U _ L.1;generalize he:a.eval m=u at S;cases S;rename_i b W;obtain⟨c2,r,ck,z,X,Y⟩:=H.aA n d (R (n,.aA d) (by simp));have Z:=tq J;have i:=Y.pos Z;rw [W] at z;injection z with z;subst z
 have b3:=By (P:=P) (kt:=s) U i L.2;have b4:=fun em=>T.check w em V
 have b5:(Instr.findKey s f r.toList).run P w=.ok none w:=by
  rcases T.find w V r.toList b3 with ⟨q1,N⟩ | ⟨j,y,q1,N,q3⟩
  ·exact q1
  ·exfalso;have l:=(bu.1 N).1;have p:j<d.length:=by have:=i.1;simp at l;omega
   exact vz J _ (cN p) (by rw [<- (i.2 j d[j] y (aI p) (by simpa using N)).1,q3])
 have b6:fS G w (d++[(f,x)]) (r.push {key:=f,val:=a.eval g,born:=ck}) (ck+1):=by
  refine fS.pK (MapKept.stamped_push Y.1 (fun y b7=>?_)) ⟨by simp [i.1],fun j e y q t=>?_⟩ (R_ Z L.1)
  ·obtain⟨j,l,rfl⟩:=pD.1 b7;have p:j<d.length:=by have:=i.1;simp at l;omega
   rw [(i.2 j d[j] _ (aI p) (by simp at l;simp [l])).1];exact vz J _ (cN p)
  by_cases l:j<d.length
  ·rw [eY l] at q;rw [He,ab (by have:=i.1;omega)] at t;exact i.2 j e y q t
  ·by_cases p:j=d.length
   ·subst p;rw [eJ (bj _)] at q;rw [He,aj i.1.symm] at t;simp at q t;subst q;subst t;exact⟨rfl,v3⟩
   ·rw [cb (by simp;omega)] at q;cases q
 obtain⟨u1,u2⟩:=H.vu (by have:=R (n,.aA d) (by simp);simp only at this;rw [this];simp) W (.map (r.push {key:=f,val:=a.eval g,born:=ck}) (ck+1)) (.aA (d++[(f,x)])) (.inr (.inr ⟨_,_,_,rfl,rfl,b6⟩));have b8:(Instr.mapUpdate mt (.map (some b)) f (a.eval g)).run P w=.ok () (w.putObj b (.map (r.push {key:=f,val:=a.eval g,born:=ck}) (ck+1))):=by unfold Instr.mapUpdate;simp [dm hu,qY X,b4,b5,Hf _ X,World.putObj]
 refine vv (by rcases h with h | h <;> simp [h]) (w':=w.putObj b (.map (r.push {key:=f,val:=a.eval g,born:=ck}) (ck+1))) (by rcases h with h | h <;> simp only [execOp,h,c',he,e2,b8,dt,dV]) ?_;exact b2 undef _ G u1 u2 (.af rfl (fun k O g I=>by simp at I))
theorem Sa{mt B b5 m k l M N O R n}{g:List (Value×AV)}{S:AV}{d:Value}{x x0:AV}(h:o.op=.insert mt m k l\/o.op=.mapUpdate mt m k l)(hm:CO m M)(T:CO k N)(b6:CO l O)(hu:P.underlying mt=some (.map B b5))(b7:hB P (P.types.size+1) B=some R)(b8:ox P B=true)(b9:pU S=some d)(a1:dJ d g=some (some x0))(a2:dN R d/\∀ e∈g,dN R e.1)(b0:Prop) :
  a_ E P ro o [(M,.mp n),(N,S),(O,x)] {c:=b0,v:=.af [],ao:=[(n,.aA g)],up:=[(n,.aA (fj d x g))]}:=by
 intro G a w d9 H U b1 e0 K Q c0;have v1:=U (M,.mp n) (by simp) m hm;have e2:=Bx b9 (U (N,S) (by simp) k T);have v3:=U (O,x) (by simp) l b6;obtain⟨V,b2⟩:=Bw (P:=P) b7 b8;obtain⟨e1,W⟩:=b2 _ a2.1;generalize he:a.eval m=u at v1;cases v1;rename_i b b3;obtain⟨e3,p,ck,F,f2,X⟩:=H.aA n g (b1 (n,.aA g) (by simp));have b4:=tq a1;have C:=X.pos b4;rw [b3] at F;injection F with F;subst F
 have c1:=By (P:=P) (kt:=B) b2 C a2.2;have c2:=fun em=>V.check w em W
 obtain⟨f,Y,q3⟩:=xY a1;have Z:f<g.length:=(bu.1 Y).1;have d0:f<p.size:=by rw [C.1];exact Z
 obtain⟨t,r⟩:∃ t,p[f]?=some t:=⟨_,bb d0⟩;have I:t.key=d:=(C.2 f _ _ Y r).1;have d1:(Instr.findKey B d p.toList).run P w=.ok (some (f,t.val)) w:=by
  rcases V.find w W p.toList c1 with ⟨g1,s⟩ | ⟨d2,a0,g1,s,g3⟩
  ·exact absurd I (s _ (dh (i:=f) (by simpa using r)))
  ·have d3:=Iu X.1 (i:=d2) (j:=f) (y:=t) s (by simpa using r) (by rw [g3,I]);subst d3;have d4:a0=t:=by rw [sX,r] at s;injection s with s;exact s.symm
   subst d4;exact g1
 have d5:∀ q,p[f]?=some q->({q with key:=d,val:=a.eval l}:MapEntry).key=q.key:=fun q J=>by rw [r] at J;cases J;exact I.symm
 have d6:fS G w (fj d x g) (p.modify f fun e=>{e with key:=d,val:=a.eval l}) ck:=by
  rw [q3];refine fS.pK (MapKept.stamped_modify X.1 _ _ (fun _ _=>rfl) (fun q _ J=>d5 q J)) ⟨by simp [C.1],fun L q a0 z A=>?_⟩ ?_
  ·rw [xA] at A;rw [xB] at z;by_cases D:f=L
   ·subst D;rw [aj rfl,aj Z] at z;rw [aj rfl,r] at A;simp at z A;subst z;subst A;exact⟨rfl,v3⟩
   ·rw [ab D] at z A;exact C.2 L q a0 z A
  ·have d7:eB (g.set f (d,x))=eB g:=vq (by
    apply sY;intro L;rw [bG,bG,xB];by_cases D:f=L
    ·subst D;rw [aj rfl,aj Z,Y];simp
    ·rw [ab D])
   rw [d7];exact b4
 obtain⟨u1,u2⟩:=H.vu (by have:=b1 (n,.aA g) (by simp);simp only at this;rw [this];simp) b3 (.map (p.modify f fun e=>{e with key:=d,val:=a.eval l}) ck) (.aA (fj d x g)) (.inr (.inr ⟨_,_,_,rfl,rfl,d6⟩));have d8:(Instr.mapUpdate mt (.map (some b)) d (a.eval l)).run P w=.ok () (w.putObj b (.map (p.modify f fun e=>{e with key:=d,val:=a.eval l}) ck)):=by unfold Instr.mapUpdate;simp [dm hu,qY f2,c2,d1,r,I,V.stays w W,Hf _ f2,World.putObj]
 refine vv (by rcases h with h | h <;> simp [h]) (w':=w.putObj b (.map (p.modify f fun e=>{e with key:=d,val:=a.eval l}) ck)) (by rcases h with h | h <;> simp only [execOp,h,c',he,e2,d8,dt,dV]) ?_;exact c0 undef _ G u1 u2 (.af rfl (fun k b0 l T=>by simp at T))
theorem Sb{G:Gh}{h:Hp}{w:World}(H:aD E G h w){n:Nat}{ag:Bool}{cs:List AV}(g:h n=some (.box ag cs)):aW G w G w/\aD E G (h.ar [(n,.dead)]) w:=by
 have b:∀ m,(h.ar [(n,.dead)]) m=if m=n then some .dead else h m:=fun m=>by simp only [Hp.ar]
 refine⟨aW.refl G w,⟨H.os,H.tape,H.output,H.size,H.kept,H.i0,H.eo,H.cu,fun m a=>?_,fun m i j a=>?_,fun m l a=>?_,H.vr g (fun q=>by cases q) _,fun r c=>?_,fun r o A k p t u v x y d f=>?_,fun m s a=>?_,fun m z a=>?_,H.gb,H.gB⟩⟩
 ·rw [b] at a;split at a
  ·cases a
  ·exact H.fresh m a
 ·rw [b] at a;split at a
  ·injection a with a;cases a
  ·exact H.box m i j a
 ·obtain⟨B,C,D,F⟩:=H.bJ m l a;refine⟨B,C,fun I=>D fun e=>I ?_,F⟩;rw [b];split
  ·rfl
  ·exact e
 ·rw [b] at c;split at c
  ·injection c with c;cases c
  ·exact H.row r c
 ·rw [b] at d f;split at d
  ·injection d with d;cases d
  ·split at f
   ·injection f with f;cases f
   ·exact H.eZ r o A k p t u v x y d f
 ·rw [b] at a;split at a
  ·injection a with a;cases a
  ·exact H.obj m s a
 ·rw [b] at a;split at a
  ·injection a with a;cases a
  ·exact H.aA m z a
theorem Iw(b:Nat):∀ (e:List Value) (o:Nat) (w:World) (a:Array Value) (c:TypeId),w.heap[b]?=some (.cells a c (0,0))->∃ d,(w.setCells b o e).heap[b]?=some (.cells d c (0,0))/\d.size=a.size
 | [],o,w,a,c,h=>⟨a,h,rfl⟩
 | v::e,o,w,a,c,h=>by
  have f:=(lT.1 h).1;have g:(w.setCell ⟨b,o,none⟩ v).heap[b]?=some (.cells (a.setIfInBounds o v) c (0,0)):=by have i:=(lT.1 h).2;simp [World.setCell,f,Array.getElem_modify,i]
  obtain⟨d,q1,j⟩:=Iw b e (o+1) (w.setCell ⟨b,o,none⟩ v) _ c g;exact⟨d,q1,by rw [j];simp⟩
theorem Sd{G:Gh}{h:Hp}{w:World}(H:aD E G h w){n q b:Nat}{S:Bool}{x:List AV}(z:h n=some (.box S x))(L:h q=none)(B:G.box n=some b)(F:Bool) :
  aW G w {G with box:=fun m=>if m=q then some b else G.box m,rc:=fun m=>if m=q then G.rc n else G.rc m} w/\aD E {G with box:=fun m=>if m=q then some b else G.box m,rc:=fun m=>if m=q then G.rc n else G.rc m} (h.ar [(q,.box F x),(n,.dead)]) w:=by
 obtain⟨T,b9⟩:=H.fresh q L;have c0:q≠n:=fun e=>by subst e;rw [z] at L;cases L
 have C:aW G w {G with box:=fun m=>if m=q then some b else G.box m,rc:=fun m=>if m=q then G.rc n else G.rc m} w :=
  ⟨fun a X=>⟨X,rfl⟩,fun m U c=>by
   dsimp only;split
   ·rename_i e;subst e;rw [T] at c;cases c
   ·exact c,fun _ _ h=>h,fun m U c=>by
   dsimp only;split
   ·rename_i e;subst e;rw [T] at c;cases c
   ·rfl⟩
 have t:∀ m,(h.ar [(q,.box F x),(n,.dead)]) m=if m=q then some (.box F x) else if m=n then some .dead else h m:=fun m=>by simp only [Hp.ar]
 obtain⟨U,Y,Z,I,e2,e3,V⟩:=H.box n S x z;rw [B] at I;injection I with I;subst I
 obtain⟨o1,o2,M,o4⟩:=H.bJ n b B;have M:=M (by rw [z];simp);refine⟨C,⟨H.os,H.tape,H.output,H.size,H.kept,H.i0,H.eo,H.cu,fun m c=>?_,fun m a0 a1 c=>?_,fun m p c=>?_,fun k m p v u d1 W=>?_,fun r i=>?_,fun r a2 A k N O A' b0 b1 b3 l o=>?_,fun m s c=>?_,fun m es c=>?_,H.gb.trans C,H.gB⟩⟩
 ·rw [t] at c;split at c
  ·cases c
  ·rename_i d;split at c
   ·cases c
   ·obtain⟨f,g⟩:=H.fresh m c;exact⟨by dsimp only;rw [ab d];exact f,g⟩
 ·rw [t] at c;split at c
  ·rename_i e;injection c with c;injection c with _ c;subst c;subst e
   exact⟨b,Y,Z,by simp,e2,e3.mono C,V.1,by dsimp only;rw [aj rfl];exact V.2⟩
  ·rename_i d;split at c
   ·injection c with c;cases c
   ·obtain⟨p,P,b4,f,g,D,J⟩:=H.box m a0 a1 c;exact⟨p,P,b4,by dsimp only;rw [ab d];exact f,g,D.mono C,J.1,by dsimp only;rw [ab d];exact J.2⟩
 ·dsimp only at c;split at c
  ·injection c with c;subst c
   exact⟨o1,o2,fun _=>M,o4⟩
  ·rename_i d;obtain⟨f,g,D,J⟩:=H.bJ m p c;refine⟨f,g,fun y=>D fun e=>y ?_,J⟩;rw [t,ab d];split
   ·rfl
   ·exact e
 ·have Q:∀ m,m≠q->(h.ar [(q,.box F x),(n,.dead)]) m≠some .dead->m≠n/\h m≠some .dead:=fun m d y=>by
   rw [t,ab d] at y;split at y
   ·exact absurd rfl y
   ·rename_i h3;exact⟨h3,y⟩
  dsimp only at v u;split at v
  ·rename_i b5;injection v with v;subst v
   split at u
   ·rename_i em;rw [b5,em]
   ·rename_i c;obtain⟨R,K⟩:=Q m c W;exact absurd (H.eC n m b B u (by rw [z];simp) K).symm R
  ·rename_i b6;obtain⟨R,K⟩:=Q k b6 d1;split at u
   ·injection u with u;subst u
    exact absurd (H.eC k n b v B K (by rw [z];simp)) R
   ·rename_i c;obtain⟨l3,l4⟩:=Q m c W;exact H.eC k m p v u K l4
 ·rw [t] at i;split at i
  ·injection i with i;cases i
  ·split at i
   ·injection i with i;cases i
   ·obtain⟨A,k,N,O,f,g⟩:=H.row r i;refine⟨A,k,N,O,f,fun j b7 b8=>?_⟩;obtain⟨ad,e,c1,c2,c3,c4,c5⟩:=g j b7 b8;refine⟨ad,e,c1,c2,c3,c4,fun m c=>?_⟩;dsimp only at c;split at c
    ·injection c with c;exact c5 n (by rw [B,c])
    ·exact c5 m c
 ·rw [t] at l o;split at l
  ·injection l with l;cases l
  ·split at l
   ·injection l with l;cases l
   ·split at o
    ·injection o with o;cases o
    ·split at o
     ·injection o with o;cases o
     ·exact H.eZ r a2 A k N O A' b0 b1 b3 l o
 ·rw [t] at c;split at c
  ·injection c with c;cases c
  ·rename_i d;split at c
   ·injection c with c;cases c
   ·obtain⟨p,f,g⟩:=H.obj m s c;exact⟨p,by dsimp only;rw [ab d];exact f,by dsimp only;rw [ab d];exact g⟩
 ·rw [t] at c;split at c
  ·injection c with c;cases c
  ·rename_i d;split at c
   ·injection c with c;cases c
   ·obtain⟨p,P,ck,f,g,D⟩:=H.aA m es c;exact⟨p,P,ck,by dsimp only;rw [ab d];exact f,g,D.mono C⟩
theorem Iy{G:Gh}{h:Hp}{w a:World}(H:aD E G h w){n b:Nat}{p:Bool}{x cs':List AV}(y:h n=some (.box p x))(z:G.box n=some b){i d:Array Value}{f:TypeId}(A:w.heap[b]?=some (.cells i f (0,0)))(j:a.os=w.os/\a.tape=w.tape/\a.output=w.output/\w.heap.size<=a.heap.size)(B:∀ k,k<w.heap.size->k≠b->a.heap[k]?=w.heap[k]?)(q:a.heap[b]?=some (.cells d f (0,0)))(C:d.size=i.size)(r:cs'.length<=d.size/\∀ (k:Nat) (c:AV) (v:Value),cs'[k]?=some c->d[k]?=some v->aC G w c v)(D:∀ c∈cs',c.one=true) :
  aW G w G a/\aD E G (h.ar [(n,.box p cs')]) a:=by
 have l:b<a.heap.size:=(lT.1 q).1
 let s:World:={a with heap:=a.heap.set b (.cells i f (0,0)) l}
 have m:∀ k,s.heap[k]?=if k=b then some (.cells i f (0,0)) else a.heap[k]?:=fun k=>by
  show (a.heap.set b _ l)[k]?=_;rw [Array.getElem?_set];by_cases e:b=k
  ·subst e;simp
  ·rw [ab e,ab (gV e)]
 have g:ct w s:=⟨j.1,j.2.1,j.2.2.1,by show _<=(a.heap.set b _ l).size;simp;exact j.2.2.2,fun k o=>by
  rw [m];split
  ·rename_i e;subst e;exact A.symm
  ·rename_i e;exact B k o e⟩
 obtain⟨t,F⟩:=H.grow g G.I (fun _ h=>h) (fun _ h=>.inl h) (fun I u=>by rw [g.cell (H.e_ u)];exact H.cu I u);obtain⟨J,K⟩:=F.H_ (w':=a) (arr':=d) (ty':=f) (cs':=cs') y z (by rw [m,aj rfl]) ⟨rfl,rfl,rfl,by show _=(a.heap.set b _ l).size;simp⟩ (fun k o=>by rw [m,ab o]) q C ⟨r.1,fun k c v L M=>(r.2 k c v L M).mono t⟩ D;exact⟨t.trans J,K⟩
theorem Se{t e i q x y d f r bytes n z l g s u}{B:List AV}{j:AV}(h:o.op=.call {callee:=.builtin .append,args:=#[x,y],argTypes:=#[t,t]})(C:CO x d)(D:CO y f)(F:P.underlying t=some (.slice e))(I:P.info? e=some i)(X:i.size=r)(Y:i.bytes=bytes)(Z:i.zero=some q)(J:j.elems=some (s,[]))(p:Prop) :
  a_ E P ro o [(d,.aE n 0 z l g),(f,j)] {c:=p,v:=.aE n 0 z l g,ao:=[(n,.box u B)]}:=by
 intro G a w a0 H k a1 _ K Q L;obtain⟨b,a2,q1,M,N,O,R,S⟩:=kq (k (d,.aE n 0 z l g) (by simp) x C);have T:=jK J G w _ (k (f,j) (by simp) y D);obtain⟨m,A,b0,_,_,U,V,_⟩:=T.gJ;have W:m=0:=by simpa using V
 subst W;exact fk (by simp [h]) (vA h (by rw [S,U];exact Bl F I (by omega))) (L _ w G (aW.refl G w) H (.aE q1 M N O R))
theorem Sf{a:List D}(e:∀ c∈D.flat a,c.one=true):∀ c∈wr a,c.one=true:=fun c b=>by simp only [wr,aS] at b;obtain⟨d,f,rfl⟩:=b;exact e d f
theorem Sg{t e i k x y f g d bytes l m q}{b:List D}{j:AV}(h:o.op=.call {callee:=.builtin .append,args:=#[x,y],argTypes:=#[t,t]})(B:CO x f)(C:CO y g)(F:P.underlying t=some (.slice e))(I:P.info? e=some i)(J:i.size=d)(L:i.bytes=bytes)(M:i.zero=some k)(N:k.cells.size=d)(O:0<d)(R:j.elems=some (m,b))(S:b≠[]/\m=d/\b.length*bytes<=140737488355328/\b.length<=9223372036854775807)(p:Prop) :
  a_ E P ro o [(f,.d (.nil l)),(g,j)] {c:=p,v:=.aE q 0 d b.length b.length,up:=[(q,.box true (wr b))]}:=by
 intro G a w T H n U V K Q W;refine Bp (z:=d) h B C F I J L M N O R S p G a w T H (fun q r=>?_) U V K Q W;simp only [b_,n',oa] at r;rcases r with rfl | rfl
 ·intro s X;have A:=(n (f,.d (.nil l)) (by simp) s X).cw;generalize a.eval s=u at A;cases A;exact .e0
 ·exact n (g,j) (by simp)
theorem Sh{t e i x y C F g n l q r z}{s:List AV}{f:List D}{I:AV}(h:o.op=.call {callee:=.builtin .append,args:=#[x,y],argTypes:=#[t,t]})(a2:CO x C)(b0:CO y F)(hu:P.underlying t=some (.slice e))(hi:P.info? e=some i)(J:i.size=g)(b1:I.elems=some (r,f))(b2:f≠[])(S:l+f.length<=q)(b3:r=g/\q*g<=s.length)(p:Prop) :
  a_ E P ro o [(C,.aE n 0 g l q),(F,I)] {c:=p,v:=.aE n 0 g (l+f.length) q,ao:=[(n,.box z s)],up:=[(n,.box z (setAt s (l*g) (wr f)))]}:=by
 intro G a w T H U b4 _ K Q b5;obtain⟨rfl,e0⟩:=b3;have b6:T n=some (.box z s):=b4 (n,.box z s) (by simp);obtain⟨b,L,V,q2,q3,q4,q5,b7⟩:=kq (U (C,.aE n 0 r l q) (by simp) x a2);have M:=jK b1 G w _ (U (F,I) (by simp) y b0);obtain⟨m,A,W,_,_,X,_⟩:=M.gJ;rw [X] at M;obtain⟨N,O,d2,d3,d4,R,d6,d7,d8,d9,e4⟩:=l_ M;obtain⟨B,rfl⟩:∃ B,A=some B:=by
  cases A with
  | none=>exact absurd (d8 rfl) b2
  | some x=>exact⟨x,rfl⟩
 have b8:=fU d6;have Y:(wr f).length=N.length:=by rw [show (wr f).length=(D.flat f).length by simp [wr],b8,O,R]
 have b9:(l+f.length)*r<=q*r:=ln _ S;rw [gh] at b9;obtain⟨Z,e1,e2,e3⟩:=aD.AZ (ag:=z) P (wr f) N (l*r) 0 T w s H b6 V Y.symm (fun k e5 u a0 c0=>by simp only [wr,bG,bZ] at a0;obtain⟨d,hd,rfl⟩:=a0;exact⟨.d (d4 k d u hd c0),d7 d (dh hd)⟩) (by rw [Y,O,R];omega)
 have a1:=run_firstCells_some (P:=P) w i.size m B m W N (by rw [J,O]) (fun j u c1=>(d3 B rfl j u c1).1);have c2:(Builtin.append_ #[t,t] o.type #[.slice (some ⟨b,0,none⟩) l L,.slice (some B) m W]).run P w=.ok (.slice (some ⟨b,0,none⟩) (l+m) L) Z:=by
  have d0:l+m<=L:=by omega
  rw [J] at a1;simp [Builtin.append_,dm hu,sizeOf,typeInfo,hi,J,Builtin.lenOf,d0,a1,cc,e1]
 refine fk (by simp [h]) (vA h (by rw [b7,X];exact c2)) (b5 _ Z G e2 (by simpa using e3) ?_);rw [R];exact .aE V S q3 q4 q5
theorem Si{t e i b4 x y b7 b8 W bytes L q l X f b1}{O:List AV}{R:List D}{r:List D}{b9:AV}(h:o.op=.call {callee:=.builtin .append,args:=#[x,y],argTypes:=#[t,t]})(g5:CO x b7)(g6:CO y b8)(hu:P.underlying t=some (.slice e))(hi:P.info? e=some i)(b2:i.size=W)(g7:i.bytes=bytes)(g8:i.zero=some b4)(g9:b4.cells.size=W)(h0:b9.elems=some (f,r))(h2:r≠[])(c0:q≠L)(h3:cq (O.take (l*W))=some R)(h4:(f=W/\X*W<=O.length/\l<=X)/\(l+r.length)*bytes<=140737488355328/\l+r.length<=9223372036854775807)(j2:¬ l+r.length<=X)(p:Prop) :
  a_ E P ro o [(b7,.aE L 0 W l X),(b8,b9)] {c:=p,v:=.aE q 0 W (l+r.length) (l+r.length),ao:=[(L,.box b1 O)],up:=[(q,.box true (R.map .d++wr r)),(L,.dead)]}:=by
 intro G a g Y H e7 h5 h6 K Q e8;obtain⟨⟨rfl,h7,h8⟩,h9,j3⟩:=h4;have c1:Y L=some (.box b1 O):=h5 (L,.box b1 O) (by simp);have e9:Y q=none:=by
  rcases h6 (q,.box true (R.map .d++wr r)) (by simp) with i0 | ⟨z,f0,i1⟩
  ·exact i0
  ·simp at f0;subst f0;exact absurd i1.symm c0
 obtain⟨B,U,f1,q2,q3,q4,q5,f2⟩:=kq (e7 (b7,.aE L 0 f l X) (by simp) x g5);have hr:=jK h0 G g _ (e7 (b8,b9) (by simp) y g6);obtain⟨N,A,f3,_,_,c2,_⟩:=hr.gJ;rw [c2] at hr;obtain⟨I,d1,d2,d3,d4,d5,d6,d7,d8,d9,j4⟩:=l_ hr;obtain⟨ay,rfl⟩:∃ ay,A=some ay:=by
  cases A with
  | none=>exact absurd (d8 rfl) h2
  | some x=>exact⟨x,rfl⟩
 have i2:=fU d6;obtain⟨j5,J,a1,e1,e2,e3,e4⟩:=H.box L b1 O c1;rw [f1] at e1;injection e1 with e1;subst e1
 have i3:l*f<=X*f:=ln _ h8;have f4:=oh h3;have V:R.length=l*f:=by have:=congrArg List.length f4;simp at this;omega
 have d0:∀ k d,R[k]?=some d->∃ u,J[k]?=some u/\au G.I g d u/\d.one=true:=fun k d s=>by
  have M:k<l*f:=by rw [<- V];exact(bu.1 s).1
  have f5:k<J.size:=fx M (eX i3 (eX h7 e3.1));have f6:O[k]?=some (.d d):=by
   have C:(O.take (l*f))[k]?=some (.d d):=by rw [f4];simp [s]
   rwa [AN M] at C
  exact⟨J[k],bb f5,(e3.2 k _ _ f6 (bb f5)).cw,e4.1 (.d d) (dh f6)⟩
 have f7:∀ b3∈R.map AV.d++wr r,b3.one=true:=fun b3 b5=>by
  rcases cV.1 b5 with C | C
  ·obtain⟨d,S,rfl⟩:=aS.1 C;obtain⟨k,s⟩:=hs S;exact(d0 k d s).choose_spec.2.2
  ·exact Sf d7 b3 C
 have b6:(wr r).length=I.length:=by rw [show (wr r).length=(D.flat r).length by simp [wr],i2,d1,d5]
 have j6:I.length=r.length*f:=by rw [d1,d5]
 by_cases e0:l+N<=U
 ·
  have b5:¬ U=X:=by omega
  have j7:U*f<=J.size:=by
   rcases q5 with C | C
   ·exact absurd C b5
   ·have:=e4.2;simp at C;omega
  have i4:(l+N)*f<=U*f:=ln _ e0;rw [gh,<- d1] at i4;have e5:∀ k,g.cell? ⟨B,k,none⟩=J[k]?:=fun k=>hW g B k J a1 (0,0) e2
  have a2:=Bm (P:=P) (ty:=o.type) (w:=g) (b:=B) (off:=0) (n:=l) (cap:=U) (m:=N) (c:=f3) (a':=ay) (news:=I) hu hi (by rw [b2,d1]) (fun j u T=>(d3 ay rfl j u T).1) d2 e0
   (by rw [b2];intro j T;rw [e5,bb (show 0+l*f+j<J.size by omega)];rfl) (by intro j T;simp [World.frozen?,e2])
  rw [b2,bC] at a2;obtain⟨p1,p2,p3,p4⟩:=Bf B I (l*f) g;obtain⟨b0,f8,f9⟩:∃ b0,(g.setCells B (l*f) I).heap[B]?=some (.cells b0 a1 (0,0))/\b0.size=J.size:=Iw B I (l*f) g J a1 e2;obtain⟨l1,l2⟩:=Sd H c1 e9 f1 true;have i5:∀ k,(g.setCells B (l*f) I).cell? ⟨B,k,none⟩=b0[k]?:=fun k=>hW _ B k b0 a1 (0,0) f8
  have i6:(Y.ar [(q,.box true O),(L,.dead)]) q=some (.box true O):=by simp [Hp.ar]
  obtain⟨m1,m2⟩:=l2.H_ (w':=g.setCells B (l*f) I) (n:=q) (b:=B) (arr':=b0) (ty':=a1) (cs':=R.map .d++wr r) i6 (by simp) e2 ⟨p1,p2,p3,p4⟩ (fun k s=>tn B I _ g k s) f8 f9
   ⟨by simp only [da,db];rw [b6,V,f9];omega,fun k b3 u s F=>by
    rw [<- i5] at F;rcases bB k (l*f) with M | M
    ·rw [eY (by simp [V];exact M)] at s;simp only [bG,bZ] at s;obtain⟨d,S,rfl⟩:=s;obtain⟨u2,g1,g2,_⟩:=d0 k d S;rw [tp B I _ g _ (fun _=>.inl (by simpa using M)),e5,g1] at F;injection F with F;subst F
     exact(aC.d g2).mono l1
    ·rw [eJ (by simp [V];exact M)] at s;simp only [wr,db,V,bG,bZ] at s;obtain⟨d,S,rfl⟩:=s;have e6:k-l*f<I.length:=by rw [<- b6];simp only [wr,db];exact(bu.1 S).1
     have:=Ha B I (l*f) g (fun j T=>by rw [e5,bb (show l*f+j<J.size by omega)];rfl) _ e6;rw [show l*f+(k-l*f)=k by omega,F] at this;injection this with this;subst this
     exact(aC.d (d4 _ d _ S (aI e6))).mono l1⟩ f7
  refine fk (by simp [h]) (vA h (by rw [f2,c2];exact a2)) (e8 _ _ _ (l1.trans m1) ?_ ?_)
  ·have:Y.ar [(q,.box true (R.map .d++wr r)),(L,.dead)]=(Y.ar [(q,.box true O),(L,.dead)]).ar [(q,.box true (R.map .d++wr r))]:=by funext k;simp only [Hp.ar];split <;> rfl
   rw [this];exact m2
  ·rw [d5];exact .aE (by simp) (bj _) (by rw [<- d5];exact e0) q4 (.inr (by
    rcases q5 with C | C
    ·exact absurd C b5
    ·simpa using C))
 ·
  have i7:(l+N)*i.bytes<=140737488355328:=by rw [g7,d5];exact h9
  have i8:∀ (j:Nat) (u:Value),(J.toList.take (l*f))[j]?=some u->g.cell? ((⟨B,0,none⟩:Addr).add j)=some u:=fun j u T=>by
   rw [cc,bC,hW g B j J a1 (0,0) e2];rw [eh] at T;split at T
   ·simpa using T
   ·cases T
  have Z:(J.toList.take (l*f)).length=l*f:=by have:=e3.1;simp;omega
  have a2:=AH (P:=P) g t o.type e i b4 hu hi g8 ⟨B,0,none⟩ l U (J.toList.take (l*f)) (by rw [b2,Z]) i8 ay N f3 I (by rw [b2,d1]) (fun j u T=>(d3 ay rfl j u T).1) (by omega) (by omega) (AI (by omega) i7);generalize g0:grownCap g (l+N) U e=a0 at a2;have g3:l+N<=a0:=by rw [<- g0];exact u_ g (l+N) U e
  have i9:a0<=9223372036854775807:=by rw [<- g0];exact u' g (l+N) U e (by simp only [maxLen];omega)
  generalize j0:Builtin.zeroCells b4.cells (a0-(l+N))=g4 at a2;have j1:g4.size=(a0-(l+N))*f:=by rw [<- j0,pA,g9]
  obtain⟨k1,k2⟩:=H.grow (w':=g.drew) (ct.refl g).drew G.I (fun _ h=>h) (fun _ h=>.inl h) H.cu;obtain⟨l1,l2⟩:=k2.re (n:=q) e9 true (cs:=R.map .d++wr r) (arr:=(J.toList.take (l*f)).toArray++I.toArray++g4) e ⟨by
    simp only [da,db,sW,mM,Z,b6,V];omega,fun k b3 u s F=>by
    rcases bB k (l*f) with M | M
    ·rw [eY (by simp [V];exact M)] at s;simp only [bG,bZ] at s;obtain⟨d,S,rfl⟩:=s;obtain⟨u2,g1,g2,_⟩:=d0 k d S;rw [Array.append_assoc,pC (by simp only [mM,Z];exact M)] at F;simp only [qV,eh,aj M,sX] at F;rw [g1] at F;injection F with F;subst F
     exact(aC.d g2).mono k1
    ·rw [eJ (by simp [V];exact M)] at s;simp only [wr,db,V,bG,bZ] at s;obtain⟨d,S,rfl⟩:=s;have e6:k-l*f<I.length:=by rw [<- b6];simp only [wr,db];exact(bu.1 S).1
     rw [pC (by simp only [sW,mM,Z];omega),ahQ (by simp only [mM,Z];exact M)] at F;simp only [mM,Z,qV] at F;exact(aC.d (d4 _ d _ S F)).mono k1⟩ f7 {(default:Loop) with defers:=a0*f} (by
    have:a0*f=(l+N)*f+(a0-(l+N))*f:=by rw [<- gh];congr 1;omega
    rw [gh,<- d1] at this;simp only [sW,mM,Z,j1];omega)
  obtain⟨m1,m2⟩:=Sb l2 (n:=L) (ag:=b1) (cs:=O) (by rw [vt,ab (gV c0)];exact c1);refine fk (by simp [h]) (vA h (by rw [f2,c2];exact a2)) (e8 _ _ _ ((k1.trans l1).trans m1) ?_ ?_)
  ·have:Y.ar [(q,.box true (R.map .d++wr r)),(L,.dead)]=(Y.ar [(q,.box true (R.map .d++wr r))]).ar [(L,.dead)]:=by
    funext k;simp only [Hp.ar];by_cases C:k=q
    ·subst C;simp [c0]
    ·simp [C]
   rw [this];exact m2
  ·rw [d5] at g3 |-;exact .aE (by simp) (bj _) g3 i9 (.inr (by simp))
theorem Iz{G:Gh}{w:World}{b:List D}{l:Nat}{f:Array Value}(h:∀ d∈b.take l,∃ a:Int,d=.lit (.int .i64 a))(s:l<=b.length)(i:∀ (k:Nat) (d:D),b[k]?=some d->∃ u,f[k]?=some u/\au G.I w d u) :
  ((b.take l).map D.num).length=l/\(∀ (j:Nat) (a:Int),((b.take l).map D.num)[j]?=some a->f[j]?=some (.int .i64 a))/\∀ a∈(b.take l).map D.num,-9223372036854775808<=a/\a<=9223372036854775807:=by
 have g:∀ (j:Nat) (a:Int),((b.take l).map D.num)[j]?=some a->f[j]?=some (.int .i64 a)/\-9223372036854775808<=a/\a<=9223372036854775807:=fun j a c=>by
  simp only [bG,bZ] at c;obtain⟨d,e,m⟩:=c;obtain⟨x,rfl⟩:=h d (dh e);have n:x=a:=m;subst n;have o:j<l:=by have:=(bu.1 e).1;simp at this;omega
  rw [AN o] at e;obtain⟨u,q1,p⟩:=i j _ e;cases p;rename_i q;exact⟨q1,by simpa [Sc,IntKind.min,IntKind.max,IntKind.bits,IntKind.signed] using q⟩
 refine⟨by simp;omega,fun j a c=>(g j a c).1,fun a r=>?_⟩;obtain⟨j,c⟩:=hs r;exact(g j a c).2
theorem Sj{J m L a0 n l M s}{q:List AV}{i:List D}(h:o.op=.call {callee:=.value (.func J),args:=#[m],argTypes:=a0})(a1:CO m L)(T:xR P J)(a2:cq q=some i)(b0:l<=1000/\l<=i.length/\∀ d∈i.take l,∃ a:Int,d=.lit (.int .i64 a))(p:Prop) :
  a_ E P ro o [(L,.aE n 0 1 l M)] {c:=p,v:=.d (.af []),ao:=[(n,.box s q)],up:=[(n,.box s (((gI ((i.take l).map D.num)).map fun a=>.d (.lit (.int .i64 a)))++(i.drop l).map .d))]}:=by
 intro G a w b1 H b2 b3 _ K Q b4;obtain⟨c1,c2,c3⟩:=b0;have U:b1 n=some (.box s q):=b3 (n,.box s q) (by simp);obtain⟨b,b5,V,q2,q3,q4,q5,b6⟩:=kq (b2 (L,.aE n 0 1 l M) (by simp) m a1);obtain⟨d0,z,ty,A,W,B,e4⟩:=H.box n s q U;rw [V] at A;injection A with A;subst A
 have N:=oh a2;have b7:q.length=i.length:=by rw [N];simp
 have X:∀ k d,i[k]?=some d->∃ u,z[k]?=some u/\au G.I w d u:=fun k d g=>by have Y:k<z.size:=fx (by rw [b7];exact(bu.1 g).1) B.1;exact⟨z[k],bb Y,(B.2 k (.d d) _ (by rw [N];simp [g]) (bb Y)).cw⟩
 obtain⟨Z,i2,i3⟩:=Iz c3 c2 X;generalize d1:(i.take l).map D.num=O at *;have C:(gI O).length=l:=by rw [gI,(Hk _ _).length_eq,Z]
 have b8:=T.run w b l b5 _ z ty Z c1 (by omega) q4 W (by have:=B.1;omega) i2 i3;refine jM (f:=.func J) h (x:=#[]) (y:=#[]) (by rfl) T.call (R:=_) (by simp only [b6,bo,hY,gx,eN];exact b8) (fun u S t=>?_) (fun ch S t=>?_) (fun S t=>?_)
 ·obtain⟨e,r1,r2,d2,r3,r4,r5,r6⟩:=t;injection e with e;subst e
  obtain⟨m1,m2⟩:=Iy H U V (cs':=((gI O).map fun a=>.d (.lit (.int .i64 a)))++(i.drop l).map .d) W r1 r2 r3 r4 ⟨by have:=B.1;simp [C];omega,fun k b9 u g r=>by
   rcases bB k l with F | F
   ·rw [eY (by simp [C];exact F)] at g;simp only [bG,bZ] at g;obtain⟨m,j,rfl⟩:=g;rw [r5 k m j] at r;injection r with r;subst r
    refine .d (.lit ?_);have hm:m∈O:=(Hk _ _).mem_iff.1 (dh j);simpa [Sc,IntKind.min,IntKind.max,IntKind.bits,IntKind.signed] using i3 m hm
   ·rw [eJ (by simp [C];exact F)] at g;simp only [db,C,bG,bZ,fD] at g;obtain⟨d,j,rfl⟩:=g;rw [show l+(k-l)=k by omega] at j;rw [r6 k F] at r;obtain⟨u2,I,g2⟩:=X k d j;rw [r] at I;injection I with I;subst I
    exact .d g2⟩ (fun b9 c0=>by
   rcases cV.1 c0 with j | j
   ·obtain⟨m,_,rfl⟩:=aS.1 j;rfl
   ·obtain⟨d,hd,rfl⟩:=aS.1 j;exact e4.1 (.d d) (by rw [N];exact AJ (iL hd)))
  exact b4 _ S _ m1 m2 (.d (.af rfl (fun k M d3 g=>by simp at g)))
 ·cases t.1
 ·cases t.1
theorem Sk{J g L b1 j l V s}{r:List AV}{m:List D}(h:o.op=.call {callee:=.value (.func J),args:=#[g],argTypes:=b1})(b2:CO g L)(W:xS P J)(b3:cq r=some m)(b4:l<=1000/\l<=m.length/\∀ d∈m.take l,∃ a:Int,d=.lit (.int .i64 a))(p:Prop) :
  a_ E P ro o [(L,.aE j 0 1 l V)] {c:=p,v:=.d (.sl 1 ((gj ((m.take l).map D.num)).map fun a=>.lit (.int .i64 a))),ao:=[(j,.box s r)],up:=[(j,.dead)]}:=by
 intro G a w b5 H b6 b7 _ K Q b8;obtain⟨c1,c2,c3⟩:=b4;have X:b5 j=some (.box s r):=b7 (j,.box s r) (by simp);obtain⟨b,b9,M,q2,q3,q4,q5,c0⟩:=kq (b6 (L,.aE j 0 1 l V) (by simp) g b2);obtain⟨d4,A,Y,B,Z,C,e4⟩:=H.box j s r X;rw [M] at B;injection B with B;subst B
 have a0:=oh b3;have d0:r.length=m.length:=by rw [a0];simp
 have d1:∀ k d,m[k]?=some d->∃ u,A[k]?=some u/\au G.I w d u:=fun k d i=>by have a1:k<A.size:=fx (by rw [d0];exact(bu.1 i).1) C.1;exact⟨A[k],bb a1,(C.2 k (.d d) _ (by rw [a0];simp [i]) (bb a1)).cw⟩
 obtain⟨i1,i2,N⟩:=Iz c3 c2 d1;have d2:=W.run w b l b9 _ A Y i1 c1 (by omega) q4 Z (by have:=C.1;omega) i2 N;generalize d5:(m.take l).map D.num=F at *;refine jM (f:=.func J) h (x:=#[]) (y:=#[]) (by rfl) W.call (R:=_) (by simp only [c0,bo,hY,gx,eN];exact d2) (fun u t z=>?_) (fun ch t z=>?_) (fun t z=>?_)
 ·obtain⟨⟨d6,e,r0,d3,d7⟩,r1,r2,O,r3,r4,S,r6⟩:=z;injection e with e;subst e
  obtain⟨m1,m2⟩:=Iy H X M (cs':=(gj F).map fun a=>.d (.lit (.int .i64 a))) Z r1 r2 r3 r4 ⟨by have:=C.1;simp;omega,fun k a2 u i I=>by
   simp only [bG,bZ] at i;obtain⟨g,q,rfl⟩:=i;rw [S k g q] at I;injection I with I;subst I
   refine .d (.lit ?_);simpa [Sc,IntKind.min,IntKind.max,IntKind.bits,IntKind.signed] using N g (r6 g (dh q))⟩ (fun a2 T=>by
   obtain⟨g,_,rfl⟩:=aS.1 T;rfl)
  obtain⟨f1,f2⟩:=m2.freeze (n:=j) (ag:=s) (cs:=(gj F).map fun a=>.d (.lit (.int .i64 a))) (by simp [Hp.ar]) M;rw [HE] at f2;have U:D.flat ((gj F).map fun a=>D.lit (.int .i64 a))=(gj F).map fun a=>D.lit (.int .i64 a):=lv _ (fun d hd=>by obtain⟨g,_,rfl⟩:=aS.1 hd;rfl)
  have b0:∀ k,t.cell? ⟨b,k,none⟩=O[k]?:=fun k=>hW t b k O Y (0,0) r3
  refine b8 _ t _ (m1.trans f1) f2 (.d (.sl ⟨b,0,none⟩ (fun k=>(O[k]?).getD undef) (by simp) r0 d3 (.inl rfl) (by intro e he;obtain⟨g,_,rfl⟩:=aS.1 he;rfl) ?_ (fun k d i=>?_) (fun k d i=>?_)))
  ·rw [U];intro a2 T;obtain⟨g,_,rfl⟩:=aS.1 T;rfl
  ·rw [U] at i;simp only [bG,bZ] at i;obtain⟨g,q,rfl⟩:=i;have h2:=S k g q;rw [cc,bC];exact⟨.inr ⟨rfl,by rw [b0,h2];rfl⟩,by rw [b0,h2];rfl⟩
  ·rw [U] at i;simp only [bG,bZ] at i;obtain⟨g,q,rfl⟩:=i;rw [S k g q];refine .lit ?_;simpa [Sc,IntKind.min,IntKind.max,IntKind.bits,IntKind.signed] using N g (r6 g (dh q))
 ·obtain⟨⟨_,e,_⟩,_⟩:=z;cases e
 ·obtain⟨⟨_,e,_⟩,_⟩:=z;cases e
end
section
variable {E:Env}{P:Program}{ro:Option Nat}{o:Oper}
theorem Sl{i t u x y k l g}{m n:AV}{b d:List D}(h:o.op=.binOp (if i then .neq else .eql) t x y u)(L:CO x k)(M:CO y l)(q:hB P 20 t=some g)(N:P.keyTypeAt 20 t=true)(s:P.eqGuardType P.depth t=false)(a2:P.cellsOf t=g.length)(O:(match P.underlying t with | some (.array _ _) | some (.struct _)=>true | _=>false)=true)(Q:m.mZ=some b)(R:n.mZ=some d)(S:hz g b d)(p:Prop) :
  a_ E P ro o [(k,m),(l,n)] {c:=p,v:=.d (.lit (.bool (i ^^ gC b d)))} :=
 dk (by simp [h]) fun G a w b0 H T=>by
  obtain⟨U,V⟩:=fz T L M;obtain⟨e,z,A,W⟩:=xW Q U;obtain⟨f,B,C,X⟩:=xW R V;obtain⟨F,I,q1,Y,q3,Z,q5⟩:=Io (us:=e.toList) (vs:=f.toList) S (by simpa using A) (by simpa using C) W X;have J:∀ j:Array Value,j.size=g.length->(Value.agg j).formed P t=true:=fun j b1=>by unfold Value.formed;split at O <;> simp_all
  obtain⟨r,a0,b2⟩:=run_equalIn_deep (P:=P) 9980 20 t N w 20 20 (.agg e) (.agg f) F I (J _ (A.trans Z)) (J _ (C.trans q5)) (vB 20 t g _ F q q1) (vB 20 t g _ I q Y);have a1:r=gC b d:=by cases r <;> cases b3:gC b d <;> simp_all
  refine⟨.bool (i ^^ gC b d),?_,lZ _⟩;have K:(Op.equalIn 10000 t (.agg e) (.agg f)).run P w=.ok (gC b d) w:=by rw [<- a1];exact a0
  cases i
  ·simp [execOp,h,z,B,run_eqGuard_agg w .eql t x y e f s,run_eql_struct w t e f,K]
  ·simp [execOp,h,z,B,run_eqGuard_agg w .neq t x y e f s,run_neq_struct w t e f,K]
theorem Sn{k:Ext}{K:List aO}{j:List (Nat×HO)}{L:List AV}{e:ry}(X:dD P o k K)(M:L.length=K.length)(a:dC j k L=some e)(d:e.c) :
  a_ E P ro o (K.zip L) e:=by
 cases X with
 | oi h c l t Y N Z hr =>
  simp only [dC] at a;split at a
  ·split at a <;> simp only [aL,reduceCtorEq] at a;rename_i z y;subst a;exact Sl h c l t Y N Z hr z y d _
  ·cases a
 | rf h c l b =>simp only [dC] at a;split at a <;> simp only [aL,reduceCtorEq] at a;subst a;exact QV h c l b _
 | isNil h c b =>
  simp only [dC] at a;split at a <;> simp only [aL,reduceCtorEq] at a
  ·subst a;exact QW h c b _
  ·subst a;exact QX h c b _
 | pL h c l b =>simp only [dC] at a;split at a <;> simp only [aL,reduceCtorEq] at a;subst a;exact Q_ h c l b d _
 | ls h c =>simp only [dC] at a;split at a <;> simp only [aL,reduceCtorEq] at a;subst a;exact Rc h c d _
 | rj h b f a0 =>simp only [dC] at a;split at a <;> simp only [aL,reduceCtorEq] at a;subst a;exact RC h b f a0 _
 | rm h c l b f i p g m q =>
  simp only [dC] at a;split at a
  ·split at a <;> simp only [aL,reduceCtorEq] at a;rename_i n;subst a;exact Bp h c l b f i p g m q n d _
  ·split at a
   ·rename_i A a1;split at a <;> simp only [aL,reduceCtorEq] at a;rename_i a2;subst a;obtain⟨⟨rfl,rfl⟩,d⟩:=d;exact RT h c l b f i p g m q (xV A) (xV a1) a2 d _
   ·cases a
  ·cases a
 | sliceB h c T U b f i b0 p =>
  subst b0;subst p;simp only [dC] at a;split at a
  ·split at a
   ·rename_i z;split at a <;> simp only [aL,reduceCtorEq] at a;rename_i y;rw [Ik] at z y;subst a;exact RO h c T U b f i z y d _
   ·cases a
  ·split at a
   ·rename_i n;split at a
    ·rename_i z;split at a <;> simp only [aL,reduceCtorEq] at a;rename_i y;rw [Ik] at z y;subst a;exact HW h c T U b f i n z y d _
    ·cases a
   ·cases a
  ·cases a
 | oo h j C b f i p g r m B q =>simp only [dC] at a;split at a <;> simp only [aL,reduceCtorEq] at a;subst a;exact RP h j C b f i p g r m B q d _
 | fG h c b1 b f i =>simp only [dC] at a;split at a <;> simp only [aL,reduceCtorEq] at a;subst a;exact RE h c b1 b f i d _
 | mX h c j =>
  simp only [dC] at a;split at a
  ·split at a <;> simp only [aL,reduceCtorEq] at a
   ·rename_i n;subst a;exact RH h c j n _
   ·rename_i n;subst a;exact RI h c j n d _
  ·cases a
 | pM h b f i q g m j J =>
  simp only [dC] at a;split at a <;> simp only [aL,reduceCtorEq] at a
  ·rename_i O;subst a;exact RJ h b f i q g m j J M O d.1 d.2 _
  ·subst a;obtain⟨⟨rfl,b2⟩,b3,b4⟩:=d;exact RM h b f i g m j J M b2 b3 b4 _
 | pN h c b =>
  simp only [dC] at a;split at a
  ·split at a
   ·rename_i V;simp only [aL] at a;subst a;exact Rb h c b d.1 d.2 _
   ·cases a
  ·cases a
 | iO h c b =>
  simp only [dC] at a;split at a
  ·simp only [aL] at a;subst a;exact RF h c b _
  ·simp only [aL] at a;subst a;exact RG h c b _
  ·split at a <;> simp only [aL,reduceCtorEq] at a;rename_i n;subst a;exact HV h c b n _
  ·cases a
 | ri h s Q =>
  simp only [dC] at a;split at a
  ·split at a
   ·rename_i z y;split at a
    ·rename_i V;simp only [aL] at a;subst a;exact Re h s Q (by assumption) y V d _
    ·cases a
   ·cases a
  ·cases a
 | rh h c l b f i D W =>
  simp only [dC] at a;split at a <;> simp only [aL,reduceCtorEq] at a
  ·subst a;exact Q' h c l b f i D W d.1 d.2.1 d.2.2 _
  ·subst a;exact Ra h c l b f i D W d.1 d.2.1 d.2.2.1 d.2.2.2 _
 | shift h c l =>simp only [dC] at a;split at a <;> simp only [aL,reduceCtorEq] at a;subst a;exact Rj h c l d _
 | lX h c b D f g r =>
  simp only [dC] at a;split at a <;> simp only [aL,reduceCtorEq] at a
  ·subst a;exact Rk h c b D f g r _
  ·subst a;exact Rn h c b D f g r _
 | eD h c =>
  simp only [dC] at a;split at a <;> simp only [aL,reduceCtorEq] at a
  ·subst a;exact Ro h c _
  ·subst a;exact Rp h c _
 | jl h =>simp only [dC] at a;split at a <;> simp only [aL,reduceCtorEq] at a;subst a;exact Rt h _
 | insert h u t F b v =>
  simp only [dC] at a;split at a
  ·split at a
   ·split at a <;> simp only [aL,reduceCtorEq] at a;rename_i s;subst a;exact Rv h u t F b v s d _;rename_i s;subst a;exact Rx h u t F b v s d _
   ·cases a
  ·cases a
 | lookup h u t b v f g r =>
  simp only [dC] at a;split at a
  ·split at a
   ·split at a <;> simp only [aL,reduceCtorEq] at a
    ·rename_i s;subst a;exact Ic h u t b v f g r s d _
    ·rename_i s;subst a;exact Ic h u t b v f g r s d _
   ·cases a
  ·simp only [aL] at a;subst a;exact Ru h u t b v f g r d _
  ·cases a
 | mW h c b =>simp only [dC] at a;split at a <;> simp only [aL,reduceCtorEq] at a;subst a;exact Ry h c b _
 | oj h c l b R f i p g m q =>simp only [dC] at a;split at a <;> simp only [aL,reduceCtorEq] at a;subst a;exact Rz h c l b R f i p g m q d _
 | rv h c l b R f i p g r m B q =>simp only [dC] at a;split at a <;> simp only [aL,reduceCtorEq] at a;subst a;exact RR h c l b R f i p g r m B q d _
 | om h j C b f i p g r m B q =>simp only [dC] at a;split at a <;> simp only [aL,reduceCtorEq] at a;subst a;exact RA h j C b f i p g r m B q d _
 | gY h N c j =>
  simp only [dC] at a;split at a
  ·split at a
   ·rename_i A b5;split at a
    ·split at a <;> simp only [aL,reduceCtorEq] at a;rename_i Q;subst a;obtain⟨⟨rfl,w,x,c3⟩,c4⟩:=d;exact RU h N c j b5 Q ⟨⟨w,x,c3⟩,c4⟩ _
    ·cases a
   ·cases a
  ·cases a
 | pO h c j =>
  simp only [dC] at a;split at a
  ·split at a
   ·rename_i A;split at a
    ·rename_i G;simp only [aL] at a;subst a;obtain⟨⟨rfl,rfl,w⟩,x⟩:=d;exact RY h c j G w x (gV (xV A)) _
    ·cases a
   ·cases a
  ·simp only [aL] at a;subst a;exact RZ h c j _
  ·split at a <;> simp only [aL,reduceCtorEq] at a;rename_i n;subst a;exact RW h c j n d _
  ·cases a
 | oq h u t F b H v =>
  simp only [dC] at a;split at a
  ·split at a
   ·rename_i I;split at a <;> simp only [aL,reduceCtorEq] at a
    ·rename_i s;subst a;exact R' h u t F b H v I s d _
    ·rename_i s;subst a;exact Sa h u t F b H v I s d _
   ·cases a
  ·cases a
 | ot h u t b H v f g r =>
  simp only [dC] at a;split at a
  ·split at a
   ·rename_i I;split at a <;> simp only [aL,reduceCtorEq] at a
    ·rename_i s;subst a;exact Iv h u t b H v f g r I s d _
    ·rename_i s;subst a;exact Iv h u t b H v f g r I s d _
   ·cases a
  ·cases a
 | pushB h c l b f i p g m q =>
  simp only [dC] at a;split at a
  ·split at a
   ·rename_i A n;split at a
    ·rename_i S;simp only [aL] at a;subst a;obtain⟨⟨rfl,w⟩,x⟩:=d;exact Sh h c l b f i n (by simp) S ⟨w,x⟩ _
    ·rename_i S;split at a <;> simp only [aL,reduceCtorEq] at a;rename_i b6;subst a;obtain⟨⟨rfl,w,x,c3⟩,c4,c5⟩:=d;exact Si h c l b f i p g m n (by simp) (xV A) b6 ⟨⟨w,x,c3⟩,c4,c5⟩ S _
   ·rename_i A n;simp only [aL] at a;subst a;exact Se h c l b f i p g n _
   ·cases a
  ·split at a <;> simp only [aL,reduceCtorEq] at a;rename_i n;subst a;exact Sg h c l b f i p g m q n ⟨by simp,d⟩ _
  ·split at a <;> simp only [aL,reduceCtorEq] at a;rename_i n;subst a;exact Bp h c l b f i p g m q n ⟨by simp,d⟩ _
  ·cases a
 | rq h c j =>
  simp only [dC] at a;split at a
  ·split at a
   ·split at a <;> simp only [aL,reduceCtorEq] at a;rename_i G;subst a;obtain⟨⟨rfl,w⟩,x⟩:=d;exact Sj h c j G ⟨w,x⟩ _
   ·cases a
  ·cases a
 | ru h c j =>
  simp only [dC] at a;split at a
  ·split at a
   ·split at a <;> simp only [aL,reduceCtorEq] at a;rename_i G;subst a;obtain⟨⟨rfl,w⟩,x⟩:=d;exact Sk h c j G ⟨w,x⟩ _
   ·cases a
  ·cases a
 | lY h b f i q g m j J =>simp only [dC] at a;split at a <;> simp only [aL,reduceCtorEq] at a;rename_i es O;subst a;exact QF h b f i q g m j J M O d _
 | rp h =>
  cases h with
  | om h j C b f i p g r m B q =>simp only [dC] at a;split at a <;> simp only [aL,reduceCtorEq] at a;subst a;exact RB h j C b f i p g r m B q d _
end
end

end Go.Proofs.YtloccchppmffpaaGreatDoor.AL
