/- Part of the proof. -/
import Derived.RangeFuncIn
import Derived.RangeFuncSeq
import Derived.Test.YtloccchppmffpaaGreatDoorB
set_option linter.unnecessarySimpa false
set_option linter.unusedVariables false
set_option linter.unusedSimpArgs false
set_option linter.defProp false
set_option maxRecDepth 20000
set_option maxHeartbeats 8000000
namespace Go.Proofs.YtloccchppmffpaaGreatDoor.AL
open Go
def bQ:=@List.all_eq_true
def gy:=@Bool.or_eq_true
def jE:=@List.any_eq_true
def km:=@List.mem_filter
def mQ:=@Go.mem_ready
def pF:=@Array.getElem?_setIfInBounds_ne
def s_:=@Nat.le_of_lt
def vf:=@Nat.sub_self
def vg:=@List.range_succ
def AO:=@List.zip_cons_cons
def Hl:=@Bool.not_true
def Hm:=@List.contains_cons
def PI:=@List.length_pos_of_mem
def PJ:=@List.countP_append
def ahR:=@Option.bind_eq_some_iff
def ahS:=@List.length_filter_lt_length_iff_exists
def ahT:=@List.countP_eq_length_filter
section
theorem pV:∀ {a:List (Nat×HO)}{n:Nat}{x:HO},look a n=some x->n<newName a
 | [],n,x,h=>by simp [look] at h
 | (m,y)::r,n,x,h=>by
  simp only [look] at h;simp only [newName];split at h
  ·rename_i e;subst e;exact fx (Nat.lt_succ_self _) (PD _ _)
  ·exact fx (pV h) (PE _ _)
section
variable {E:Env}{P:Program}{ro:Option Nat}{o:Oper}
theorem IA{x y:Operand}{t:TypeId}{a:Act}{w b:World}{v:Value}(h:o.op=.call {callee:=.builtin .append,args:=#[x,y],argTypes:=#[t,t]})(c:(Builtin.append_ #[t,t] o.type #[a.eval x,a.eval y]).run P w=.ok v b):(execOp a.eval o).run P w=.ok (.value v) b:=by simp [execOp,h,resolve,invoke,builtin,c]
theorem Sp{t e i l x y F I b bytes r J L q}{j f:List D}{M:AV}(h:o.op=.call {callee:=.builtin .append,args:=#[x,y],argTypes:=#[t,t]})(U:CO x F)(V:CO y I)(W:P.underlying t=some (.slice e))(X:P.info? e=some i)(Y:i.size=b)(Z:i.bytes=bytes)(a0:i.zero=some l)(a1:l.cells.size=b)(a2:l.cells.all (·.oneCell')=true)(b0:0<b)(b1:M.elems=some (L,f))(N:q≠r)(b2:J=b/\(f=[]\/L=b)/\(j.length+f.length)*bytes<=140737488355328/\j.length+f.length<=9223372036854775807)(p:Prop) :
  a_ E P ro o [(F,.own r J j),(I,M)] {c:=p,v:=.own q b (j++f),ao:=[(r,.row)],up:=[(q,.row),(r,.dead)]}:=by
 intro G a w g H b3 b4 b5 K Q b6;obtain⟨c1,c2,c3,c4⟩:=b2;subst c1;obtain⟨O,v2⟩:=fz b3 U V;have b7:=jK b1 G w _ v2;have b8:g q=none:=by
  rcases b5 (q,.row) (by simp) with b9 | ⟨z,R,c0⟩
  ·exact b9
  ·simp at R;subst R;exact absurd c0.symm N
 have s:g r=some .row:=b4 (r,.row) (by simp);generalize he:a.eval x=u at O;cases O;rename_i A n e5 S d0;obtain⟨A2,n2,e6,e7,k,T⟩:=H.row r s;rw [S] at k;injection k with k;injection k with x1 B;injection B with B C;injection C with C x4
 subst x1;subst B;subst C;subst x4;have d1:=H.HS s;have d2:(g.ar [(r,.dead)]) q=none:=by rw [vt,ab N];exact b8
 obtain⟨d3,w',G',e1,e2,e3,e4⟩:=HZ (E:=E) (P:=P) d1 (ty:=o.type) W X Y Z a0 a1 a2 b0 d0 T b7 c2 (fun d4 d5 A' e8 e9 f0 d d6 d7 ad d8 f1 f2 d9=>by
   rw [vt] at d;split at d
   ·injection d with d;cases d
   ·rename_i e0;exact e0 (H.eZ r d5 _ _ _ _ _ _ _ _ s d S d6 d4 d7 ad d8 f1 f2 d9).symm) c3 c4 d2
 refine fk (by simp [h]) (IA h (by rw [he];exact e1)) (b6 d3 w' G' e2 ?_ e4);have:g.ar [(q,.row),(r,.dead)]=(g.ar [(r,.dead)]).ar [(q,.row)]:=by funext m;simp only [Hp.ar]
 rw [this];exact e3
theorem Sq{t e i g x y j l b bytes r m q}{d:List D}{n:AV}(h:o.op=.call {callee:=.builtin .append,args:=#[x,y],argTypes:=#[t,t]})(s:CO x j)(A:CO y l)(B:P.underlying t=some (.slice e))(C:P.info? e=some i)(F:i.size=b)(I:i.bytes=bytes)(J:i.zero=some g)(L:g.cells.size=b)(M:g.cells.all (·.oneCell')=true)(N:0<b)(O:n.elems=some (m,d))(R:(d=[]\/m=b)/\d.length*bytes<=140737488355328/\d.length<=9223372036854775807)(p:Prop) :
  a_ E P ro o [(j,.d (.nil r)),(l,n)] {c:=p,v:=.own q b d,up:=[(q,.row)]}:=by
 intro G a w S H T _ U K Q V;obtain⟨W,c3,c4⟩:=R;obtain⟨f,X⟩:=fz T s A;have Y:=jK O G w _ X;have Z:S q=none:=by
  rcases U (q,.row) (by simp) with a0 | ⟨z,a1,_⟩
  ·exact a0
  ·simp at a1
 have f:=f.cw;generalize he:a.eval x=u at f;cases f;have a2:au G.I w (.sl b []) (.slice none 0 0):=.sl ⟨0,0,none⟩ (fun _=>undef) rfl (by simp) (by simp) (.inr rfl) (by simp) (by simp [D.flat]) (by simp [D.flat]) (by simp [D.flat]);obtain⟨b0,w',G',e1,e2,e3,e4⟩:=HZ (E:=E) (P:=P) H (ty:=o.type) B C F I J L M N a2 (fun k b3 b1=>by simp at b1) Y W (fun b2=>by simp at b2) (by simpa using c3) (by simpa using c4) Z;exact fk (by simp [h]) (IA h (by rw [he];exact e1)) (V b0 w' G' e2 e3 (by simpa using e4))
end
theorem Sr{E:Env}{P:Program}{ro:Option Nat}{o:Oper}{r:ei}{x:List (Nat×HO)}{y:List AV}{e:ry}(H:ep P o r)(s:y.length=r.gA.length)(a:dY x r y=some e)(c:e.c) :
  a_ E P ro o (r.gA.zip y) e:=by
 cases H with
 | ak h b =>simp only [dY] at a;split at a <;> simp only [aL,reduceCtorEq] at a;subst a;exact Qc h b _
 | pick h I J K =>simp only [dY] at a;split at a <;> simp only [aL,reduceCtorEq] at a;subst a;exact Qd h I J K _
 | alloc h g l z =>simp only [dY] at a;split at a <;> simp only [aL,reduceCtorEq] at a;subst a;exact Qe h g l z _
 | box h b =>simp only [dY] at a;split at a <;> simp only [aL,reduceCtorEq] at a;subst a;exact Qf h b c _
 | build h g l z L M A =>simp only [dY,aL] at a;subst a;exact Qg h z L M A c _
 | eg h d g f m l t x A =>simp only [dY] at a;split at a <;> simp only [aL,reduceCtorEq] at a;rename_i V N;subst a;exact QE h d g f m l t x A s N c _
 | load h b g f d u =>
  simp only [dY] at a;split at a
  ·split at a <;> simp only [aL,reduceCtorEq] at a;subst a;exact Qh h b g f d u c.1 c.2 _
  ·simp only [aL] at a;subst a;exact Qi h b g f d u c.1 c.2 _
  ·cases a
 | store h b j g f =>
  simp only [dY] at a;split at a
  ·split at a <;> simp only [aL,reduceCtorEq] at a;subst a;exact Qj h b j g f c.1 c.2.1 c.2.2 _
  ·cases a
 | arith h b j O =>
  simp only [dY] at a;split at a
  ·split at a <;> simp only [aL,reduceCtorEq] at a;rename_i B;subst a;exact Qm h b j O B c.1 c.2 _
  ·split at a <;> simp only [aL,reduceCtorEq] at a;rename_i B;subst a;exact Qn h b j B c _
  ·cases a
 | not h b =>simp only [dY] at a;split at a <;> simp only [aL,reduceCtorEq] at a;subst a;exact Qo h b _
 | field h b d n g f m =>
  simp only [dY] at a;split at a <;> simp only [aL,reduceCtorEq] at a
  ·subst a;exact Qp h b d n g f m _
  ·subst a;exact Qr h b d n g f m c.1 c.2 _
 | ou h b d n g f C u =>simp only [dY] at a;split at a <;> simp only [aL,reduceCtorEq] at a;subst a;exact Qs h b d n g f C u c.1 c.2 _
 | index h b v d g f =>
  simp only [dY] at a;split at a
  ·split at a <;> simp only [aL,reduceCtorEq] at a;rename_i i;subst a;exact Qv h b v d g f i c _
  ·cases a
 | pP h b v d g f =>
  simp only [dY] at a;split at a <;> simp only [aL,reduceCtorEq] at a
  ·subst a;exact Qw h b v d g f c _
  ·subst a;exact Qx h b v d g f c _
 | slice h b p k d w f =>
  simp only [dY] at a;split at a
  ·simp only [aL] at a;obtain⟨W,Q⟩:_/\_:=by subst a;exact c
   subst Q;cases p;cases k with
   | none=>simp [ei.gA,gz] at s
   | some k=>subst a;exact QA h b k d w _
  ·split at a
   ·rename_i i;split at a
    ·rename_i q;split at a <;> simp only [aL,reduceCtorEq] at a;rename_i D;subst a;exact HW h b p k d w f i q D c _
    ·cases a
   ·cases a
  ·cases a
 | ov h b p k d =>
  simp only [dY] at a;split at a
  ·split at a
   ·rename_i q;split at a <;> simp only [aL,reduceCtorEq] at a;rename_i D;subst a;exact Rh h b p k d q D c _
   ·cases a
  ·cases a
 | slice3 h b p k R d w f =>
  simp only [dY] at a;split at a
  ·split at a
   ·rename_i i;split at a <;> simp only [aL,reduceCtorEq] at a;rename_i q;subst a;exact QB h b p k R d w f i q c _
   ·cases a
  ·cases a
 | len h b d =>
  simp only [dY] at a;split at a
  ·split at a <;> simp only [aL,reduceCtorEq] at a;rename_i i;subst a;exact HV h b d i _
  ·cases a
 | dH h b d =>simp only [dY] at a;split at a <;> simp only [aL,reduceCtorEq] at a;subst a;exact Qz h b d _
 | append h b j d g f F l t G m =>
  simp only [dY] at a;split at a
  ·split at a
   ·rename_i S;split at a <;> simp only [aL,reduceCtorEq] at a;rename_i i;subst a;exact Sp h b j d g f F l t G m i (fun e=>by have:=pV S;omega) c _
   ·cases a
  ·split at a <;> simp only [aL,reduceCtorEq] at a;rename_i i;subst a;exact Sq h b j d g f F l t G m i c _
  ·cases a
 | hy h b j =>simp only [dY] at a;split at a <;> simp only [aL,reduceCtorEq] at a;subst a;exact QG h b j c _
 | func h n T =>simp only [dY,aL] at a;subst a;exact QH h n T s _
 | extract h b =>
  simp only [dY] at a;split at a <;> simp only [aL,reduceCtorEq] at a
  ·subst a;exact QI h b c _
  ·subst a;exact QJ h b c _
 | conv h b f U =>simp only [dY] at a;split at a <;> simp only [aL,reduceCtorEq] at a;subst a;exact QK h b f U _
 | cQ h b d C =>simp only [dY] at a;split at a <;> simp only [aL,reduceCtorEq] at a;subst a;exact QL h b d C _
 | ext h=>exact Sn h s a c
inductive Out where
 | ret (d:D)
 | aQ (d:D)
 | fa (es:List (Value×D))
 | fA (sz l c:Nat) (cs:List D)
 | fH (ds:List D) (es:List (Value×D))
def Out.isApp:Out->Bool
 | _=>false
def MapAt(f:Addr->Prop)(w d:World)(c:List (Value×D))(b:Nat):Prop :=
 w.heap.size<=b/\∃ a ck,d.heap[b]?=some (.map a ck)/\(MapKept.Stamped a ck/\eB (c.map fun e=>(e.1,AV.d e.2))=false)/\a.size=c.length/\∀ (k:Nat) (x:Value×D) (y:MapEntry),c[k]?=some x->a[k]?=some y->y.key=x.1/\au f d x.2 y.val
def IB(e:Addr->Prop)(w f:World)(g:List D)(j:List (Value×D))(v:Value):Prop :=
 ∃ b h i c l,v=.pointer (some ⟨b,0,none⟩)/\(w.heap.size<=b/\h≠i)/\f.heap[b]?=some (.cells c l (0,0))/\(∀ a:Addr,a.block=b->¬ e a)/\g.length+2<=c.size/\(∀ (k:Nat) (d:D) (u:Value),g[k]?=some d->c[k]?=some u->d.one=true/\au e f d u) /\c[g.length]?=some (.map (some h))/\c[g.length+1]?=some (.map (some i))/\MapAt e w f [] h/\MapAt e w f j i
def IC(g:Addr->Prop)(w h:World)(j l c:Nat)(i:List D)(v:Value):Prop :=
 ∃ b f m e,v=.slice (some ⟨b,0,none⟩) l e/\w.heap.size<=b/\h.heap[b]?=some (.cells f m (0,0))/\(∀ a:Addr,a.block=b->¬ g a)/\(l<=c/\c<=e/\e<=9223372036854775807)/\(e=c\/e*j<=f.size)/\i.length<=f.size/\∀ (k:Nat) (d:D) (u:Value),i[k]?=some d->f[k]?=some u->d.one=true/\au g h d u
def Bz(j:Out)(g:Addr->Prop)(f:World)(e:Ending)(a:Value)(w:World:=f):Prop :=
 match j with
 | .ret d=>e=.returned a/\au g f d a
 | .aQ d=>e=.panicked [{v:=a,recovered:=false}]/\au g f d a
 | .fH m h=>e=.returned a/\IB g w f m h a
 | .fA n l c o=>e=.returned a/\IC g w f n l c o a
 | .fa h=>e=.returned a/\∃ b i ck,a=.map (some b)/\w.heap.size<=b/\f.heap[b]?=some (.map i ck)/\(MapKept.Stamped i ck/\eB (h.map fun e=>(e.1,AV.d e.2))=false)/\i.size=h.length/\∀ (k:Nat) (x:Value×D) (y:MapEntry),h[k]?=some x->i[k]?=some y->y.key=x.1/\au g f x.2 y.val
def ku(P:Program)(f:FuncId)(g:List D)(h:Out):Prop :=
 m' P f/\∀ (I:Addr->Prop) (w:World) (d:Array Value),(∀ a,I a->(w.cell? a).isSome=true)->jH I w->gX I w g d ->Calls P f d w (fun e c=>∃ (b:Addr->Prop) (v:Value),(∀ a,I a->b a)/\(∀ a,b a->I a\/w.heap.size<=a.block)/\(∀ a,b a->(c.cell? a).isSome=true)/\ct w c/\Bz h b c e v w)
def rD(A:Option Addr)(n d a b:Nat):Prop:=n*a<d*a/\∃ c,A=some c/\c.block=b
def Ss(I:Addr->Prop)(w:World)(A:Option Addr)(n c b:Nat):Prop :=
 ∀ k,n*b<=k->k<c*b->∃ a,A=some a/\(w.cell? (a.add k)).isSome=true/\w.frozen? (a.add k)=false/\¬ I (a.add k)
def Su(I:Addr->Prop)(w:World)(A:Option Addr)(n j d:Nat)(k:List D)(e:Ending)(c:World):Prop :=
 ∃ (f:Addr->Prop) (g:Option Addr) (h i:Nat),e=.returned (.slice g h i)/\(∀ a,I a->f a/\c.cell? a=w.cell? a)/\(∀ a,f a->I a\/w.heap.size<=a.block\/rD A n j d a.block)/\(∀ a,f a->(c.cell? a).isSome=true) /\(c.os=w.os/\c.tape=w.tape/\c.output=w.output/\w.heap.size<=c.heap.size)/\(∀ b,b<w.heap.size->¬ rD A n j d b->c.heap[b]?=w.heap[b]?) /\au f c (.sl d k) (.slice g h i)/\Ss f c g h i d/\(∀ b,rD g h i d b->w.heap.size<=b\/rD A n j d b)
def dO(P:Program)(f:FuncId)(a:List D)(e:Out):Prop :=
 match e with
 | .ret d=>ku P f a (.ret d)
 | .aQ d=>ku P f a (.aQ d)
 | .fa b=>ku P f a (.fa b)
 | .fH g b=>ku P f a (.fH g b)
 | .fA h l c i=>ku P f a (.fA h l c i)
theorem dO.rE{P:Program}{f:FuncId}{b:List D}{a:Out}(h:dO P f b a)(c:a.isApp=false):ku P f b a:=by cases a <;> exact h
theorem ku.to{P:Program}{f:FuncId}{b:List D}{a:Out}(h:ku P f b a)(c:a.isApp=false):dO P f b a:=by cases a <;> exact h
def aB(d a:D):Prop:=∀ I w v,au I w d v->au I w a v
theorem aB.any{d:D}(h:d.one=true):aB d .any:=fun _ _ _ r=>.any (r.pJ h)
theorem aB.refl(d:D):aB d d:=fun _ _ _ h=>h
theorem aB.trans{a b c:D}(h:aB a b)(k:aB b c):aB a c:=fun I w v r=>k I w v (h I w v r)
theorem aB.nil(a:Nat):aB (.nil a) (.sl a []):=fun _ _ _ h=>by cases h;exact .sl ⟨0,0,none⟩ (fun _=>undef) rfl (by simp) (by simp) (.inr rfl) (by simp) (by simp [D.flat]) (by simp [D.flat]) (by simp [D.flat])
theorem rF{a:Type}{R:a->a->Prop}(h:∀ x,R x x):∀ l:List a,bH R l l
 | []=>.nil
 | x::l=>.cons (h x) (rF h l)
theorem pW{c b:Type}{R:c->b->Prop}{l:List c}{m:List b}(h:bH R l m):∀ {k:Nat}{y:b},m[k]?=some y->∃ x,l[k]?=some x/\R x y:=by
 induction h with
 | nil=>intro k y a;simp at a
 | cons d t e =>
  intro k y a;cases k with
  | zero=>simp at a;subst a;exact⟨_,rfl,d⟩
  | succ k=>simpa using e (by simpa using a)
theorem aB.agg{b a:List D}(h:bH aB b a)(e:∀ d∈a,d.one=true):aB (.agg b) (.agg a):=fun I w v r=>by
 cases r with
 | agg f _ g=>exact .agg (by rw [f,gD h]) e (fun k c u i j=>by obtain⟨x,l,m⟩:=pW h i;exact m I w u (g k x u l j))
theorem aB.af{a b:List D}(h:bH aB a b):aB (.af a) (.af b):=fun I w v r=>by
 cases r with
 | af d e=>exact .af (by rw [d,gD h]) (fun k c u f g=>by obtain⟨x,i,j⟩:=pW h f;exact j I w u (e k x u i g))
theorem gX.le{I:Addr->Prop}{w:World}{a b:List D}{d:Array Value}(h:gX I w a d)(e:bH aB a b):gX I w b d :=
 ⟨by rw [h.1,gD e],fun k c u f g=>by obtain⟨x,i,j⟩:=pW e f;exact j I w u (h.2 k x u i g)⟩
def Real(d:D):Prop:=∃ I w v,au I w d v
theorem Real.int{k:IntKind}{n:Int}(h:Real (.lit (.int k n))):k.min<=n/\n<=k.max:=by obtain⟨I,w,v,h⟩:=h;cases h;assumption
theorem Real.sl{b:Nat}{a:List D}(h:Real (.sl b a)):a.length<=9223372036854775807/\(∀ e∈a,e.cells.length=b)/\∀ c∈D.flat a,c.one=true/\Real c:=by obtain⟨I,w,v,h⟩:=h;obtain⟨n,A,l,m,o,e,p,q,r,s,f,g,t,i⟩:=h.gJ;refine⟨by omega,f,fun c d=>⟨g c d,?_⟩⟩;obtain⟨k,j⟩:=hs d;exact⟨_,_,_,i k c j⟩
theorem Real.agg{a:List D}(h:Real (.agg a)):∀ c∈a,c.one=true/\Real c:=by
 obtain⟨I,w,v,h⟩:=h;cases h;rename_i f g i j;intro c e;obtain⟨k,b⟩:=hs e;have l:k<f.size:=by
  rw [g];rcases bB k a.length with d | d
  ·exact d
  ·rw [cb d] at b;cases b
 exact⟨i c e,_,_,_,j k c _ b (bb l)⟩
theorem Real.str{s:ByteArray}(h:Real (.lit (.string s))):s.size<=9223372036854775807:=by obtain⟨I,w,v,h⟩:=h;cases h;assumption
inductive AK where
 | op (x:ei)
 | call (f:aO) (args:List aO)
 | bl (f:aO) (args:List aO)
 | hC (f:aO) (args:List aO)
 | defer (f:aO) (args:List aO)
 | panic (x:aO)
 deriving Inhabited
structure aF where
 dst:Option Nat
 guard:Option (Nat×Bool)
 k:AK
 deriving Inhabited
def AK.gA:AK->List aO
 | .op x=>x.gA
 | .call f a | .bl f a | .hC f a | .defer f a=>f::a
 | .panic x=>[x]
structure fI (P:Program) (ops:Array Oper) (nt:Nat) (o:Oper) (ao:aF):Prop where
 dst:ao.dst=o.dst
 lt:∀ d,o.dst=some d->d<nt
 guard:(o.guard=none/\ao.guard=none)\/∃ j b t,o.guard=some (j,b)/\(ops[j]?).bind (·.dst)=some t/\ao.guard=some (t,b)
 k:match ao.k with
  | .op x=>ep P o x
  | .panic x'=>∃ x,o.op=.panic x/\CO x x'
  | .defer f' args'=>∃ f args ts,o.op=.defer {callee:=.value f,args:=args,argTypes:=ts}/\CO f f'/\bH CO args.toList args'
  | .call f' args' | .bl f' args' | .hC f' args'=>∃ f args ts,o.op=.call {callee:=.value f,args:=args,argTypes:=ts}/\CO f f'/\bH CO args.toList args'
def bn(s:List (Nat×Bool×AV))(t:Nat):Option (Bool×AV) :=
 match s with
 | []=>none
 | (u,e)::r=>if t=u then some e else bn r t
def jm(G:Gh)(w:World)(a:Act)(t:Nat)(e:Bool×AV):Prop:=∃ b,a.tmps[t]?=some b/\(e.1=true->aC G w e.2 b)/\(e.1=false->b=undef)
theorem jm.mono{G b:Gh}{w c:World}{a:Act}{t:Nat}{e:Bool×AV}(h:jm G w a t e)(d:aW G w b c):jm b c a t e:=by obtain⟨f,g,i,j⟩:=h;exact⟨f,g,fun k=>(i k).mono d,j⟩
def fV(s:List (Nat×Bool×AV)):aO->Option (Bool×AV)
 | .tmp t=>bn s t
 | .av d=>some (true,.d d)
 | .lr g=>(AX g).map fun d=>(true,.d (.ip d))
def dd(s:List (Nat×Bool×AV)):List aO->Option (List Bool×List AV)
 | []=>some ([],[])
 | x::r=>match fV s x,dd s r with
  | some (g,v),some (a,b)=>some (g::a,v::b)
  | _,_=>none
def eP:List Bool->Prop
 | []=>True
 | g::r=>g=true/\eP r
structure Rec where
 dst:Option Nat
 rs:List (Nat×Bool×AV)
 g:Bool
 v:AV
 ao:List (Nat×HO)
 up:List (Nat×HO)
def gk(E:Env)(P:Program)(e:Option Nat)(f:Array Oper)(nt i:Nat)(r:Rec):Prop :=
 ∀ (G:Gh) (a:Act) (w:World) (h:Hp),aD E G h w->a.tmps.size=nt->(∀ p∈r.rs,jm G w a p.1 p.2)->(∀ p∈r.ao,h p.1=some p.2)->(∀ p∈r.up,h p.1=none\/∃ q∈r.ao,q.1=p.1) ->∀ (K:Act->World->Prop) (Q:Exit->Act->World->Prop),(∀ c b d,aW G w d b->aD E d (h.ar r.up) b->(r.g=true->aC d b r.v c)->(r.g=false->c=undef)->K (a.put r.dst c) b)->wpOpIn (Fr e) 0 P f Q i K a w
theorem rG{G:Gh}{w:World}{a:Act}{s:List (Nat×Bool×AV)}{b:aO}{g:Bool}{v:AV}(h:fV s b=some (g,v))(e:g=true)(f:∀ t,b=.tmp t->jm G w a t (g,v))(i:jH G.I w):iN G w a b v:=by
 intro x j;cases j with
 | tmp t =>
  obtain⟨k,l,m,_⟩:=f t rfl;have:a.eval (.tmp t)=k:=by simp [Act.eval,l]
  rw [this];exact m e
 | av x d c =>simp only [fV,aL,ee] at h;obtain⟨_,rfl⟩:=h;exact .d (c a G.I w)
 | lr g =>simp only [fV,bZ,ee] at h;obtain⟨d,c,_,rfl⟩:=h;exact .d (i.get c)
def bE(s:List (Nat×Bool×AV)):List aO->List (Nat×Bool×AV)
 | []=>[]
 | .tmp t::r=>match bn s t with
  | some e=>(t,e)::bE s r
  | none=>bE s r
 | .av _::r | .lr _::r=>bE s r
theorem oy{s:List (Nat×Bool×AV)}{t:Nat}{e:Bool×AV}(a:bn s t=some e):∀ {l:List aO},.tmp t∈l->(t,e)∈bE s l
 | .tmp u::r,h=>by
  rcases b_.1 h with h | h
  ·injection h with h;subst h;simp [bE,a]
  ·simp only [bE];split
   ·exact cD _ (oy a h)
   ·exact oy a h
 | .av d::r,h=>by
  rcases b_.1 h with h | h
  ·cases h
  ·simp only [bE];exact oy a h
 | .lr d::r,h=>by
  rcases b_.1 h with h | h
  ·cases h
  ·simp only [bE];exact oy a h
theorem lx{G:Gh}{w:World}{a:Act}{s:List (Nat×Bool×AV)}(m:jH G.I w):∀ {l:List aO}{i:List Bool}{c:List AV},dd s l=some (i,c)->eP i->(∀ p∈bE s l,jm G w a p.1 p.2) ->c.length=l.length/\∀ p∈l.zip c,iN G w a p.1 p.2
 | [],i,c,h,n,j=>by simp [dd] at h;obtain⟨rfl,rfl⟩:=h;simp
 | x::r,i,c,h,n,j=>by
  simp only [dd] at h;cases f:fV s x with
  | none=>simp [f] at h
  | some e =>
   obtain⟨g,v⟩:=e;cases k:dd s r with
   | none=>simp [f,k] at h
   | some o =>
    obtain⟨C,D⟩:=o;simp [f,k] at h;obtain⟨rfl,rfl⟩:=h;obtain⟨q,u⟩:=n;have y:∀ p∈bE s r,jm G w a p.1 p.2:=fun p b=>j p (by
     cases x with
     | tmp t =>
      simp only [bE];split
      ·exact cD _ b
      ·exact b
     | av d=>exact b
     | lr d=>exact b)
    obtain⟨z,A⟩:=lx m k u y;refine⟨by simp [z],fun p b=>?_⟩;simp only [AO,b_] at b;rcases b with rfl | b
    ·refine rG f q (fun t B=>?_) m;subst B;exact j (t,g,v) (oy f (by simp))
    ·exact A p b
theorem kv{P:Program}{c:Option Nat}{b:Array Oper}{Q:Exit->Act->World->Prop}{i:Nat}{o:Oper}{a:Act}{w:World}{K:Act->World->Prop}(d:b[i]?=some o)(e:Region.wanted o (yielded b a.tmps)=true)(h:o.wpIn (Fr c) 0 P a w K Q):wpOpIn (Fr c) 0 P b Q i K a w:=by unfold wpOpIn;simp only [d,e,eA];exact h
theorem vC{P:Program}{c:Option Nat}{b:Array Oper}{Q:Exit->Act->World->Prop}{i:Nat}{o:Oper}{a:Act}{w:World}{K:Act->World->Prop}(d:b[i]?=some o)(e:Region.wanted o (yielded b a.tmps)=false)(h:K (a.put o.dst undef) w):wpOpIn (Fr c) 0 P b Q i K a w:=by unfold wpOpIn;simp only [d,e,hq,eM];exact⟨fun f _=>trivial,h⟩
def fm(s:List (Nat×Bool×AV))(guard:Option (Nat×Bool)):Option (Bool×List (Nat×Bool×AV)) :=
 match guard with
 | none=>some (true,[])
 | some (t,b)=>match bn s t with
  | some (g,.d (.lit (.bool c)))=>some (g&&(if b then c else !c),[(t,g,.d (.lit (.bool c)))])
  | _=>none
theorem jO{P:Program}{h:Array Oper}{nt:Nat}{o:Oper}{i:aF}(m:fI P h nt o i){s:List (Nat×Bool×AV)}{g:Bool}{rs:List (Nat×Bool×AV)}(d:fm s i.guard=some (g,rs)){G:Gh}{w:World}{a:Act}(n:∀ p∈rs,jm G w a p.1 p.2):Region.wanted o (yielded h a.tmps)=g:=by
 rcases m.guard with ⟨e,f⟩ | ⟨j,b,t,e,f,q⟩
 ·rw [f] at d;simp only [fm,aL,ee] at d;unfold Region.wanted;rw [e];exact d.1
 ·rw [q] at d;simp only [fm] at d;split at d <;> simp only [aL,ee,reduceCtorEq] at d;rename_i k c v;obtain⟨rfl,rfl⟩:=d;obtain⟨x,l,r,u⟩:=n (t,k,.d (.lit (.bool c))) (by simp);unfold Region.wanted yielded;simp only [e,f,Option.bind_some];simp only at l;rw [l];cases k with
  | true =>have:=(r rfl).lit.1;subst this;cases b <;> cases c <;> simp
  | false =>have:=u rfl;subst this;simp [undef]
theorem Sv{r:Env}{P:Program}{t:Option Nat}{k:Array Oper}{nt i:Nat}{o:Oper}{l:aF}{x:ei}{s:List (Nat×Bool×AV)}{c:Bool}{u:List (Nat×Bool×AV)}{y:List Bool}{z:List AV}{e:ry}{F:List (Nat×HO)}(A:k[i]?=some o)(B:fI P k nt o l)(I:l.k=.op x)(J:fm s l.guard=some (c,u))(L:dd s x.gA=some (y,z))(M:dY F x z=some e)(N:c=true->eP y/\e.c)(O:e.up≠[]->c=true):gk r P t k nt i {dst:=o.dst,rs:=u++bE s x.gA,g:=c,v:=e.v,ao:=e.ao,up:=e.up}:=by
 intro d m f h H a1 C R S K Q D;have j:=jO B J (G:=d) (w:=f) (a:=m) (fun p n=>C p (hX _ n));cases b:c with
 | true =>
  rw [b] at j;obtain⟨T,U⟩:=N b;obtain⟨V,W⟩:=lx (G:=d) (w:=f) (a:=m) H.gl L T (fun p n=>C p (jk _ n));have X:ep P o x:=by have:=B.k;rw [I] at this;exact this
  have Y:=Sr (E:=r) (ro:=t) X V M U;refine kv A j (Y d m f h H W R S K Q (fun Z w' G' q1 q2 q3=>D Z w' G' q1 q2 (fun _=>q3) (fun q=>?_)));simp [b] at q
 | false =>
  rw [b] at j;have hu:e.up=[]:=by
   cases a0:e.up with
   | nil=>rfl
   | cons _ _=>have:=O (by rw [a0];simp);rw [b] at this;cases this
  refine vC A j (D undef f d (aW.refl d f) ?_ (fun q=>by simp [b] at q) (fun _=>rfl));simp only [hu];exact H
theorem Sw{E:Env}{P:Program}{W:Option Nat}{B:Array Oper}{nt i:Nat}{o:Oper}{C:aF}{e f j:aO}{s:List (Nat×Bool×AV)}{u:Bool}{L:List (Nat×Bool×AV)}{M N O c x y:Bool}(R:B[i]?=some o)(S:fI P B nt o C)(X:C.k=.op (.pick e f j))(Y:fm s C.guard=some (u,L))(k:dd s [e,f,j]=some ([M,N,O],[.d (.lit (.bool c)),.d (.lit (.bool x)),.d (.lit (.bool y))]))(Z:u=true->M=true/\(c=true->N=true)/\(c=false->O=true)) :
  gk E P W B nt i {dst:=o.dst,rs:=L++bE s [e,f,j],g:=u,v:=.d (.lit (.bool (bif c then x else y))),ao:=[],up:=[]}:=by
 intro d m b h H a1 T a2 b0 K Q U;have z:=jO S Y (G:=d) (w:=b) (a:=m) (fun p D=>T p (hX _ D));cases n:u with
 | false =>rw [n] at z;exact vC R z (U undef b d (aW.refl d b) H (fun F=>by simp [n] at F) (fun _=>rfl))
 | true =>
  rw [n] at z;obtain⟨c1,c2,c3⟩:=Z n;have a0:ep P o (.pick e f j):=by have:=S.k;rw [X] at this;exact this
  have I:∀ p∈bE s [e,f,j],jm d b m p.1 p.2:=fun p D=>T p (jk _ D)
  simp only [dd] at k;cases l:fV s e with
  | none=>simp [l] at k
  | some q1 =>
   cases q:fV s f with
   | none=>simp [l,q] at k
   | some q2 =>
    cases A:fV s j with
    | none=>simp [l,q,A] at k
    | some q3 =>
     obtain⟨b1,b2⟩:=q1;obtain⟨b3,b4⟩:=q2;obtain⟨b5,b6⟩:=q3;simp [l,q,A] at k;obtain⟨⟨rfl,rfl,rfl⟩,rfl,rfl,rfl⟩:=k;cases a0 with
     | pick J h1 h2 h3 =>
      have V:=(rG (G:=d) (w:=b) (a:=m) l c1 (fun t r=>by subst r;exact I _ (oy l (by simp))) H.gl _ h1).lit.1;refine kv R z (fk (by simp [J]) (v:=.bool (bif c then x else y)) (w':=b) ?_ (U _ b d (aW.refl d b) H (fun _=>lZ _) (fun F=>by simp [n] at F)));cases c with
      | true =>have v2:=(rG (G:=d) (w:=b) (a:=m) q (c2 rfl) (fun t r=>by subst r;exact I _ (oy q (by simp))) H.gl _ h2).lit.1;simp [execOp,J,V,v2,asBool]
      | false =>have v3:=(rG (G:=d) (w:=b) (a:=m) A (c3 rfl) (fun t r=>by subst r;exact I _ (oy A (by simp))) H.gl _ h3).lit.1;simp [execOp,J,V,v3,asBool]
inductive fo:D->Prop
 | lit (v:Value):fo (.lit v)
 | nil (sz:Nat):fo (.nil sz)
 | any:fo .any
 | agg {cs:List D}(h:∀ c∈cs,fo c):fo (.agg cs)
 | af {cs:List D}(h:∀ c∈cs,fo c):fo (.af cs)
 | cQ {t:TypeId}{d:D}(h:fo d):fo (.cQ t d)
theorem fo.ID{d:D}(i:fo d){I j:Addr->Prop}{w l:World}{v:Value}(h:au I w d v):au j l d v:=by
 induction i generalizing v with
 | lit u=>cases h;exact .lit (by assumption)
 | nil o=>cases h;exact .nil
 | any=>cases h;exact .any (by assumption)
 | agg m a =>
  cases h with
  | agg f n b=>exact .agg f n (fun k c u e g=>a c (dh e) (b k c u e g))
 | af m a =>
  cases h with
  | af f b=>exact .af f (fun k c u e g=>a c (dh e) (b k c u e g))
 | cQ p a =>
  cases h with
  | cQ b=>exact .cQ (a b)
def hD:List AV->Option (List D)
 | []=>some []
 | v::r=>match v.lu,hD r with
  | some x,some l=>some (x::l)
  | _,_=>none
theorem IE{z:Nat}:∀ (a:List D),(∀ e∈a,e.isAgg=true/\e.cells.length=z)->jJ z a.length (D.flat a)=a
 | [],_=>rfl
 | e::a,h=>by
  have b:=h e (by simp);have c:=IE a (fun x d=>h x (by simp [d]));cases e <;> simp [D.isAgg] at b;rename_i f;simp only [D.flat,ll,D.cells,bN,jJ] at c |- b;rw [<- b,List.take_left',List.drop_left' rfl]
  ·rw [b,c]
  ·rfl
def pX(f:List (Nat×HO)):AV->Option (D×Bool)
 | .d x=>some (x,false)
 | .own _ e h=>some (.sl e h,false)
 | .e0 e=>some (.sl e [],false)
 | .agg b=>(hD b).map fun a=>(.agg a,false)
 | .ptr n 0=>match look f n with
  | some (.box true b)=>(hD b).map fun a=>(.ip (.agg a),true)
  | some (.box false [c])=>c.lu.map fun d=>(.ip d,true)
  | _=>none
 | .aE n o z g _=>match look f n with
  | some (.box _ b)=>(hD b).bind fun a=>if o+g*z<=a.length then some (.sl z (e' z g (a.drop o)),true) else none
  | _=>none
 | _=>none
def nb(a:List (Nat×HO)):List AV->Option (List D×Bool)
 | []=>some ([],false)
 | v::r=>match pX a v,nb a r with
  | some (x,b),some (l,c)=>some (x::l,b||c)
  | _,_=>none
def dn(a:List (Nat×HO)):List AV->List (Nat×HO)
 | []=>[]
 | .ptr n _::r | .aE n _ _ _ _::r=>match look a n with
  | some o=>(n,o)::dn a r
  | none=>dn a r
 | _::r=>dn a r
def l'(b:List (Nat×HO)):AV->Option (D×Bool)
 | .fn f a c=>match nb b a,nb b c with
  | some (x,p),some (y,q)=>some (.fn f x y,p||q)
  | _,_=>none
 | v=>pX b v
def gK(a:List (Nat×HO)):List AV->Option (List D×Bool)
 | []=>some ([],false)
 | v::r=>match l' a v,gK a r with
  | some (x,b),some (l,c)=>some (x::l,b||c)
  | _,_=>none
def jn(b:List (Nat×HO)):AV->List (Nat×HO)
 | .fn _ a c=>dn b a++dn b c
 | v=>dn b [v]
def eE(a:List (Nat×HO)):List AV->List (Nat×HO)
 | []=>[]
 | v::r=>jn a v++eE a r
def oz(G:Gh)(w:World):Addr->Prop:=fun a=>G.I a\/((w.cell? a).isSome=true/\∃ n,G.box n=some a.block)
theorem BA{G:Gh}{w:World}:∀ {a:List AV}{b:List D},hD a=some b->∀ {vs:Array Value}{k0:Nat},(∀ (k:Nat) (c:AV) (v:Value),a[k]?=some c->vs[k0+k]?=some v->aC G w c v) ->b.length=a.length/\∀ (k:Nat) (d:D) (v:Value),b[k]?=some d->vs[k0+k]?=some v->au G.I w d v
 | [],b,h,vs,k0,i=>by simp [hD] at h;subst h;simp
 | c::a,b,h,vs,k0,i=>by
  simp only [hD] at h;cases f:c.lu with
  | none=>simp [f] at h
  | some x =>
   cases j:hD a with
   | none=>simp [f,j] at h
   | some l =>
    simp [f,j] at h;subst h;obtain⟨m,n⟩:=BA j (vs:=vs) (k0:=k0+1) (fun k o v e g=>i (k+1) o v (by simpa using e) (by rw [<- g];congr 1;omega));refine⟨by simp [m],fun k d v e g=>?_⟩;cases k with
    | zero=>simp at e;subst e;exact Bj f (i 0 c v (by simp) g)
    | succ k=>exact n k d v (by simpa using e) (by rw [<- g];congr 1;omega)
theorem BB:∀ {e:List AV}{f:List D},hD e=some f->(∀ c∈e,c.one=true)->∀ d∈f,d.one=true
 | [],f,h,g,d,b=>by simp [hD] at h;subst h;simp at b
 | c::e,f,h,g,d,b=>by
  simp only [hD] at h;cases a:c.lu with
  | none=>simp [a] at h
  | some x =>
   cases i:hD e with
   | none=>simp [a,i] at h
   | some l =>
    simp [a,i] at h;subst h;rcases b_.1 b with rfl | b
    ·have:=g c (by simp);unfold AV.lu at a;split at a <;> simp only [aL,bZ,reduceCtorEq] at a
     ·subst a;exact this
     ·subst a;rfl
     ·simp [AV.one] at this
    ·exact BB i (fun j k=>g j (by simp [k])) d b
theorem BC{E:Env}{i:Gh}{h:Hp}{g:World}(H:aD E i h g){n b:Nat}{u:Bool}{l:List AV}(x:h n=some (.box u l))(p:i.box n=some b){ds:List D}(q:hD l=some ds) :
  ds.length=l.length/\(∀ d∈ds,d.one=true)/\∃ f:Nat->Value,∀ k d,ds[k]?=some d->oz i g ⟨b,k,none⟩/\g.cell? ⟨b,k,none⟩=some (f k)/\au (oz i g) g d (f k):=by
 obtain⟨e,r,y,z⟩:=H.A_ x p;obtain⟨s,A⟩:=BA (G:=i) (w:=g) q (vs:=e) (k0:=0) (fun k c v j B=>r.2 k c v j (by simpa using B));refine⟨s,BB q y,fun k=>e.getD k undef,fun k d j=>?_⟩;have m:k<e.size:=by
  refine fx ?_ r.1;rw [<- s];rcases bB k ds.length with o | o
  ·exact o
  ·rw [cb o] at j;cases j
 have C:e[k]?=some e[k]:=bb m;have t:g.cell? ⟨b,k,none⟩=some e[k]:=by rw [z,C]
 refine⟨.inr ⟨by rw [t];rfl,n,p⟩,by simp [t,m],?_⟩;have F:=A k d e[k] j (by simp);have:e.getD k undef=e[k]:=by simp [m]
 show au (oz i g) g d (e.getD k undef);rw [this];exact F.mono fun a I=>⟨.inl I,rfl⟩
theorem aC.BD{G:Gh}{w:World}{n o z l c:Nat}{v:Value}(h:aC G w (.aE n o z l c) v):∃ b a,G.box n=some b/\l<=c/\c<=a/\a<=9223372036854775807/\(a=c\/o+a*z<=(G.rc n).defers)/\v=.slice (some ⟨b,o,none⟩) l a:=by
 cases h with
 | aE d e f g i=>exact⟨_,_,d,e,f,g,i,rfl⟩
theorem au.nc{I:Addr->Prop}{w:World}{f:Fn}{first d:List D}{v:Value}(h:au I w (.fn f first d) v):∃ a b:Array Value,v=.func f a b/\a.size=first.length/\b.size=d.length /\(∀ (k:Nat) (c:D) (v:Value),first[k]?=some c->a[k]?=some v->au I w c v)/\(∀ (k:Nat) (c:D) (v:Value),d[k]?=some c->b[k]?=some v->au I w c v):=by
 cases h with
 | fn e g i j=>exact⟨_,_,rfl,e,g,i,j⟩
theorem aC.nc{G:Gh}{w:World}{f:Fn}{first d:List AV}{v:Value}(h:aC G w (.fn f first d) v):∃ a b:Array Value,v=.func f a b/\a.size=first.length/\b.size=d.length /\(∀ (k:Nat) (c:AV) (v:Value),first[k]?=some c->a[k]?=some v->aC G w c v)/\(∀ (k:Nat) (c:AV) (v:Value),d[k]?=some c->b[k]?=some v->aC G w c v):=by
 cases h with
 | fn e g i j=>exact⟨_,_,rfl,e,g,i,j⟩
theorem IF{E:Env}{s:Gh}{h:Hp}{m:World}(H:aD E s h m){R:List (Nat×HO)}{v:AV}{x:D}{b:Bool}(g:pX R v=some (x,b))(N:∀ p∈dn R [v],h p.1=some p.2){u:Value}(l:aC s m v u) :
  au (oz s m) m x u/\(b=false->au s.I m x u):=by
 unfold pX at g;split at g
 ·simp only [aL,ee] at g;obtain⟨rfl,rfl⟩:=g;exact⟨l.cw.mono fun a B=>⟨.inl B,rfl⟩,fun _=>l.cw⟩
 ·simp only [aL,ee] at g;obtain⟨rfl,rfl⟩:=g;cases l;rename_i b5 l;exact⟨l.mono fun a B=>⟨.inl B,rfl⟩,fun _=>l⟩
 ·simp only [aL,ee] at g;obtain⟨rfl,rfl⟩:=g;cases l;have S:∀ (I:Addr->Prop) (T:Nat) (A:Option Addr),au I m (.sl T []) (.slice A 0 0):=fun I T A=>.sl ⟨0,0,none⟩ (fun _=>undef) rfl (bj _) (by omega) (.inr rfl) (fun e Z=>by cases Z) (fun c a0=>by cases a0) (fun k c i=>by simp [D.flat] at i) (fun k c i=>by simp [D.flat] at i)
  exact⟨S _ _ _,fun _=>S _ _ _⟩
 ·rename_i t;simp only [bZ,ee] at g;obtain⟨y,q,rfl,rfl⟩:=g;have:au s.I m (.agg y) u:=by cases l;rename_i a1 a2 b0 b1;obtain⟨K,r⟩:=BA (G:=s) (w:=m) q (vs:=a1) (k0:=0) (fun k c v i O=>b1 k c v i (by simpa using O));exact .agg (by rw [a2,K]) (BB q b0) (fun k c v i O=>r k c v i (by simpa using O))
  exact⟨this.mono fun a B=>⟨.inl B,rfl⟩,fun _=>this⟩
 ·rename_i n;cases l;rename_i L M;split at g
  ·rename_i t C;simp only [bZ,ee] at g;obtain⟨y,q,rfl,rfl⟩:=g;have F:h n=some (.box true t):=N (n,.box true t) (by simp [dn,C]);obtain⟨K,r,f,j⟩:=BC H F M q;refine⟨.ip ⟨L,0,none⟩ f r (fun k c i=>?_) (fun k c i=>(j k c i).2.2),fun J=>by cases J⟩;rw [cc,bC];exact⟨(j k c i).1,(j k c i).2.1⟩
  ·rename_i c C;simp only [bZ,ee] at g;obtain⟨d,q,rfl,rfl⟩:=g;have F:h n=some (.box false [c]):=N (n,.box false [c]) (by simp [dn,C]);obtain⟨K,r,f,j⟩:=BC H F M (ds:=[d]) (by simp [hD,q]);have U:=r d (by simp);have P:d.cells=[d]:=by cases d <;> first | rfl | simp [D.one] at U
   refine⟨.ip ⟨L,0,none⟩ f (by rw [P];simpa using U) (fun k c i=>?_) (fun k c i=>?_),fun J=>by cases J⟩
   ·rw [P] at i;rw [cc,bC];exact⟨(j k c i).1,(j k c i).2.1⟩
   ·rw [P] at i;exact(j k c i).2.2
  ·cases g
 ·rename_i n o V W b6;obtain⟨L,b7,M,b2,b3,b4,_,rfl⟩:=l.BD;split at g
  ·rename_i X t C;simp only [ahR] at g;obtain⟨y,q,g⟩:=g;split at g
   ·rename_i b8;simp only [aL,ee] at g;obtain⟨rfl,rfl⟩:=g;have F:h n=some (.box X t):=N (n,.box X t) (by simp [dn,C]);obtain⟨K,r,f,j⟩:=BC H F M q;obtain⟨q1,q2,Y⟩:=xP (z:=V) (len:=W) (ds:=y.drop o) (by simp;omega) (fun d g=>r d (iL g));have Q:∀ k d,(D.flat (e' V W (y.drop o)))[k]?=some d->y[o+k]?=some d:=fun k d i=>by
     rw [Y,eh] at i;split at i
     ·rw [fD] at i;exact i
     ·cases i
    refine⟨.sl ⟨L,o,none⟩ (fun k=>f (o+k)) q1.symm (eX b2 b3) b4 (.inl rfl) q2 (fun d g=>?_) (fun k c i=>?_) (fun k c i=>(j _ c (Q k c i)).2.2),fun J=>by cases J⟩
    ·rw [Y] at g;exact r d (iL (ir g))
    ·rw [cc];exact⟨(j _ c (Q k c i)).1,(j _ c (Q k c i)).2.1⟩
   ·cases g
  ·cases g
 ·cases g
theorem IG{g:List (Nat×HO)}{v:AV}{r:List AV}:∀ p,p∈dn g [v]\/p∈dn g r->p∈dn g (v::r):=by
 intro p e;have h:∀ n,(p∈(match look g n with | some o=>(n,o)::dn g [] | none=>dn g [])\/p∈dn g r)->p∈(match look g n with | some o=>(n,o)::dn g r | none=>dn g r):=fun n e=>by
  cases i:look g n with
  | some o =>
   simp only [i] at e |-;rcases e with e | e
   ·simp [dn] at e;subst e;simp
   ·exact cD _ e
  | none =>
   simp only [i] at e |-;rcases e with e | e
   ·simp [dn] at e
   ·exact e
 cases v with
 | ptr n o=>exact h n e
 | aE n o z l c=>exact h n e
 | mp n=>rcases e with e | e;(· simp [dn] at e);exact e
 | spare a b c=>rcases e with e | e;(· simp [dn] at e);exact e
 | e0 a=>rcases e with e | e;(· simp [dn] at e);exact e
 | d x=>rcases e with e | e;(· simp [dn] at e);exact e
 | own a b c=>rcases e with e | e;(· simp [dn] at e);exact e
 | agg j=>rcases e with e | e;(· simp [dn] at e);exact e
 | af j=>rcases e with e | e;(· simp [dn] at e);exact e
 | fn f a b=>rcases e with e | e;(· simp [dn] at e);exact e
theorem BE{E:Env}{G:Gh}{h:Hp}{w:World}(H:aD E G h w){j:List (Nat×HO)}:∀ {d:List AV}{e:List D}{b:Bool},nb j d=some (e,b)->(∀ p∈dn j d,h p.1=some p.2)->∀ {us:List Value},us.length=d.length ->(∀ (k:Nat) (c:AV) (u:Value),d[k]?=some c->us[k]?=some u->aC G w c u)->e.length=d.length/\∀ (k:Nat) (c:D) (u:Value),e[k]?=some c->us[k]?=some u->au (oz G w) w c u/\(b=false->au G.I w c u)
 | [],e,b,a,n,us,o,r=>by simp [nb] at a;obtain⟨rfl,rfl⟩:=a;simp
 | v::d,e,b,a,n,us,o,r=>by
  simp only [nb] at a;cases m:pX j v with
  | none=>simp [m] at a
  | some q =>
   obtain⟨x,I⟩:=q;cases s:nb j d with
   | none=>simp [m,s] at a
   | some B =>
    obtain⟨l,J⟩:=B;simp [m,s] at a;obtain⟨rfl,rfl⟩:=a;cases us with
    | nil=>simp at o
    | cons u us =>
     obtain⟨C,F⟩:=BE H s (fun p t=>n p (IG p (.inr t))) (us:=us) (by simpa using o) (fun k c y f g=>r (k+1) c y (by simpa using f) (by simpa using g));refine⟨by simp [C],fun k c y f g=>?_⟩;cases k with
     | zero =>simp at f g;subst f;subst g;obtain⟨z,A⟩:=IF H m (fun p t=>n p (IG p (.inl t))) (r 0 v u rfl rfl);exact⟨z,fun i=>A (by simp at i;exact i.1)⟩
     | succ k =>obtain⟨z,A⟩:=F k c y (by simpa using f) (by simpa using g);exact⟨z,fun i=>A (by simp at i;exact i.2)⟩
theorem Sx{E:Env}{G:Gh}{h:Hp}{w:World}(H:aD E G h w){l:List (Nat×HO)}{v:AV}{x:D}{b:Bool}(g:l' l v=some (x,b))(m:∀ p∈jn l v,h p.1=some p.2){u:Value}(t:aC G w v u) :
  au (oz G w) w x u/\(b=false->au G.I w x u):=by
 unfold l' at g;split at g
 ·rename_i f a c;split at g
  ·rename_i M p N q C F;simp only [aL,ee] at g;obtain⟨rfl,rfl⟩:=g;obtain⟨I,vc,rfl,n,o,J,K⟩:=t.nc;obtain⟨y,z⟩:=BE H C (fun p j=>m p (by simp only [jn];exact hX _ j)) (us:=I.toList) (by simp [n]) (fun k c u d r=>J k c u d (by simpa using r));obtain⟨A,B⟩:=BE H F (fun p j=>m p (by simp only [jn];exact jk _ j)) (us:=vc.toList) (by simp [o]) (fun k c u d r=>K k c u d (by simpa using r));refine⟨.fn (by rw [n,y]) (by rw [o,A]) (fun k c v d i=>(z k c v d (by simpa using i)).1) (fun k c v d i=>(B k c v d (by simpa using i)).1),fun s=>?_⟩;simp only [Bool.or_eq_false_iff] at s;exact .fn (by rw [n,y]) (by rw [o,A]) (fun k c v d i=>(z k c v d (by simpa using i)).2 s.1) (fun k c v d i=>(B k c v d (by simpa using i)).2 s.2)
  ·cases g
 ·rename_i L;have e:jn l v=dn l [v]:=by cases v <;> first | rfl | exact absurd rfl (L _ _ _)
  exact IF H g (fun p j=>m p (by rw [e];exact j)) t
theorem IH{a:List (Nat×HO)}{v:AV}{r:List AV}:∀ p,p∈jn a v\/p∈eE a r->p∈eE a (v::r):=fun p b=>by simp only [eE];exact cV.2 b
theorem II{E:Env}{G:Gh}{h:Hp}{w:World}(H:aD E G h w){j:List (Nat×HO)}:∀ {d:List AV}{e:List D}{b:Bool},gK j d=some (e,b)->(∀ p∈eE j d,h p.1=some p.2)->∀ {us:List Value},us.length=d.length ->(∀ (k:Nat) (c:AV) (u:Value),d[k]?=some c->us[k]?=some u->aC G w c u)->e.length=d.length/\∀ (k:Nat) (c:D) (u:Value),e[k]?=some c->us[k]?=some u->au (oz G w) w c u/\(b=false->au G.I w c u)
 | [],e,b,a,n,us,o,r=>by simp [gK] at a;obtain⟨rfl,rfl⟩:=a;simp
 | v::d,e,b,a,n,us,o,r=>by
  simp only [gK] at a;cases m:l' j v with
  | none=>simp [m] at a
  | some q =>
   obtain⟨x,I⟩:=q;cases s:gK j d with
   | none=>simp [m,s] at a
   | some B =>
    obtain⟨l,J⟩:=B;simp [m,s] at a;obtain⟨rfl,rfl⟩:=a;cases us with
    | nil=>simp at o
    | cons u us =>
     obtain⟨C,F⟩:=II H s (fun p t=>n p (IH p (.inr t))) (us:=us) (by simpa using o) (fun k c y f g=>r (k+1) c y (by simpa using f) (by simpa using g));refine⟨by simp [C],fun k c y f g=>?_⟩;cases k with
     | zero =>simp at f g;subst f;subst g;obtain⟨z,A⟩:=Sx H m (fun p t=>n p (IH p (.inl t))) (r 0 v u rfl rfl);exact⟨z,fun i=>A (by simp at i;exact i.1)⟩
     | succ k =>obtain⟨z,A⟩:=F k c y (by simpa using f) (by simpa using g);exact⟨z,fun i=>A (by simp at i;exact i.2)⟩
def fW:AV->List AV->Option (FuncId×List AV)
 | .d (.fn (.func f) first a),b=>some (f,first.map .d++(b++a.map .d))
 | .fn (.func f) first a,b=>some (f,first++(b++a))
 | _,_=>none
theorem oA{G:Gh}{w:World}{v:AV}{m:List AV}{f:FuncId}{n:List AV}(h:fW v m=some (f,n)){u:Value}(y:aC G w v u){us:List Value}(z:us.length=m.length)(A:∀ (k:Nat) (c:AV) (x:Value),m[k]?=some c->us[k]?=some x->aC G w c x) :
  ∃ a b:Array Value,u=.func (.func f) a b/\(a.toList++(us++b.toList)).length=n.length/\∀ (k:Nat) (c:AV) (x:Value),n[k]?=some c->(a.toList++(us++b.toList))[k]?=some x->aC G w c x:=by
 have j:∀ {i o:List AV}{l p:List Value},l.length=i.length->(∀ (k:Nat) (c:AV) (x:Value),i[k]?=some c->l[k]?=some x->aC G w c x)->(∀ (k:Nat) (c:AV) (x:Value),o[k]?=some c->p[k]?=some x->aC G w c x) ->∀ (k:Nat) (c:AV) (x:Value),(i++o)[k]?=some c->(l++p)[k]?=some x->aC G w c x:=by
  intro i o l p B C D k c x e g;by_cases E:k<i.length
  ·rw [eY E] at e;rw [eY (by omega)] at g;exact C k c x e g
  ·rw [eJ (by omega)] at e;rw [eJ (by omega),B] at g;exact D _ c x e g
 unfold fW at h;split at h <;> simp only [aL,ee,reduceCtorEq] at h
 ·obtain⟨rfl,rfl⟩:=h;obtain⟨a,b,rfl,q,F,r,s⟩:=y.cw.nc;refine⟨a,b,rfl,by simp;omega,j (by simpa using q) (fun k c x e g=>?_) (j z A (fun k c x e g=>?_))⟩
  ·simp only [bG,bZ] at e;obtain⟨d,t,rfl⟩:=e;exact .d (r k d x t (by simpa using g))
  ·simp only [bG,bZ] at e;obtain⟨d,t,rfl⟩:=e;exact .d (s k d x t (by simpa using g))
 ·obtain⟨rfl,rfl⟩:=h;obtain⟨a,b,rfl,q,F,r,s⟩:=y.nc;refine⟨a,b,rfl,by simp;omega,j (by simpa using q) (fun k c x e g=>r k c x e (by simpa using g)) (j z A (fun k c x e g=>s k c x e (by simpa using g)))⟩
theorem ku.le{P:Program}{f:FuncId}{a b:List D}{c:Out}(h:ku P f b c)(d:bH aB a b):ku P f a c :=
 ⟨h.1,fun I w e g i j=>h.2 I w e g i (j.le d)⟩
theorem dO.le{P:Program}{f:FuncId}{b c:List D}{a:Out}(h:dO P f c a)(e:bH aB b c)(d:a.isApp=false:=by rfl):dO P f b a :=
 ((h.rE d).le e).to d
def Sy(E:Env)(G:Gh)(h:Hp)(w:World)(t:Out)(k:Bool)(e:Ending)(i:World):Prop :=
 ∃ a f,aW G w a i/\aD E a h i/\match t with
  | .ret d=>e=.returned f/\((k=true->fo d)->au a.I i d f)
  | .aQ d=>e=.panicked [{v:=f,recovered:=false}]/\((k=true->fo d)->au a.I i d f)
  | .fH u q=>e=.returned f/\(k=false->(∃ j,IB a.I j i u q f/\E.w0.heap.size<=j.heap.size/\(∀ b,j.heap.size<=b->(¬ E.K b/\∀ m,a.box m≠some b)/\∀ r A n o g p,h r=some .row->a.row r=some (A,n,o,g)->n*g<o*g->A=some p->p.block≠b)))
  | .fA g l c x=>e=.returned f/\(k=false->(∃ j,IC a.I j i g l c x f/\E.w0.heap.size<=j.heap.size/\(∀ b,j.heap.size<=b->(¬ E.K b/\∀ m,a.box m≠some b)/\∀ r A n o g p,h r=some .row->a.row r=some (A,n,o,g)->n*g<o*g->A=some p->p.block≠b)))
  | .fa q=>e=.returned f/\(k=false->∃ b s ck,f=.map (some b)/\i.heap[b]?=some (.map s ck)/\(¬ E.K b/\E.w0.heap.size<=b)/\(∀ m,a.box m≠some b)/\fS a i (q.map fun e=>(e.1,AV.d e.2)) s ck)
theorem ts{E:Env}{P:Program}{G:Gh}{h:Hp}{w:World}(H:aD E G h w){hl:List (Nat×HO)}{K:List AV}{L:List D}{N:Bool}{a0:FuncId}{M:Out}(b0:gK hl K=some (L,N))(b1:∀ p∈eE hl K,h p.1=some p.2){F:List Value}(O:F.length=K.length)(I:∀ (k:Nat) (c:AV) (u:Value),K[k]?=some c->F[k]?=some u->aC G w c u)(a1:ku P a0 L M) :
  Calls P a0 F.toArray w (Sy E G h w M N):=by
 obtain⟨i1,i2⟩:=II H b0 b1 O I;have b2:∀ a,oz G w a->(w.cell? a).isSome=true:=fun a f=>by
  rcases f with f | ⟨f,_⟩
  ·exact H.cu a f
  ·exact f
 cases N with
 | false =>
  refine(a1.2 G.I w F.toArray H.cu H.gl ⟨by simp [i1,O],fun k c u g q=>(i2 k c u g (by simpa using q)).2 rfl⟩).mono fun e w' Q=>?_
  obtain⟨R,v,c1,c2,c3,c4,c5⟩:=Q;obtain⟨S,T⟩:=H.grow c4 R c1 c2 c3;refine⟨_,v,S,T,?_⟩;cases M with
  | ret d=>exact⟨c5.1,fun _=>c5.2⟩
  | aQ d=>exact⟨c5.1,fun _=>c5.2⟩
  | fH L U =>
   refine⟨c5.1,fun _=>⟨w,c5.2,H.size,fun b b3=>⟨⟨fun g=>?_,fun m J=>?_⟩,fun r A n V s ad I t W e b4=>?_⟩⟩⟩
   ·have:=(H.kept b g).1;have:=H.size;omega
   ·have:=(H.bJ m b J).1;omega
   ·obtain⟨A2,n2,b5,b6,i,X⟩:=H.row r I;have t:G.row r=some (A,n,V,s):=t;rw [t] at i;injection i with i;injection i with Y B;injection B with B C;injection C with C Z
    subst Y;subst B;subst C;subst Z;obtain⟨b7,j,q1,_⟩:=X (n*s) (bj _) W;rw [e] at j;injection j with j;subst j
    obtain⟨u,q⟩:=eI.1 q1;have:=d_ w _ q;rw [block_add] at this;omega
  | fA s l c cs =>
   refine⟨c5.1,fun _=>⟨w,c5.2,H.size,fun b b3=>⟨⟨fun g=>?_,fun m J=>?_⟩,fun r A n V s ad I t W e b4=>?_⟩⟩⟩
   ·have:=(H.kept b g).1;have:=H.size;omega
   ·have:=(H.bJ m b J).1;omega
   ·obtain⟨A2,n2,b5,b6,i,X⟩:=H.row r I;have t:G.row r=some (A,n,V,s):=t;rw [t] at i;injection i with i;injection i with Y B;injection B with B C;injection C with C Z
    subst Y;subst B;subst C;subst Z;obtain⟨b7,j,q1,_⟩:=X (n*s) (bj _) W;rw [e] at j;injection j with j;subst j
    obtain⟨u,q⟩:=eI.1 q1;have:=d_ w _ q;rw [block_add] at this;omega
  | fa U =>
   obtain⟨c5,b,b8,ck,m1,m2,m3,⟨b9,c0⟩,m4,m5⟩:=c5;refine⟨c5,fun _=>⟨b,b8,ck,m1,m3,⟨fun g=>?_,by have:=H.size;omega⟩,fun m J=>?_,fS.pK b9 ⟨by simpa using m4,fun k x y h1 h2=>?_⟩ c0⟩⟩
   ·have:=(H.kept b g).1;have:=H.size;omega
   ·have:=(H.bJ m b J).1;omega
   ·simp only [bG,bZ] at h1;obtain⟨z,a2,rfl⟩:=h1;exact⟨(m5 k z y a2 h2).1,.d (m5 k z y a2 h2).2⟩
 | true =>
  refine(a1.2 (oz G w) w F.toArray b2 (H.gl.mono fun a f=>⟨.inl f,rfl⟩) ⟨by simp [i1,O],fun k c u g q=>(i2 k c u g (by simpa using q)).1⟩).mono fun e w' Q=>?_
  obtain⟨R,v,c1,c2,c3,c4,c5⟩:=Q;obtain⟨S,T⟩:=H.grow c4 (fun a=>G.I a\/(R a/\w.heap.size<=a.block)) (fun _ h=>.inl h) (fun a f=>by
   rcases f with f | ⟨_,f⟩
   ·exact .inl f
   ·exact .inr f) (fun a f=>by
   rcases f with f | ⟨f,_⟩
   ·rw [c4.cell (H.e_ f)];exact H.cu a f
   ·exact c3 a f)
  refine⟨_,v,S,T,?_⟩;cases M with
  | ret d=>exact⟨c5.1,fun o=>(o rfl).ID c5.2⟩
  | aQ d=>exact⟨c5.1,fun o=>(o rfl).ID c5.2⟩
  | fa U=>exact⟨c5.1,fun o=>by cases o⟩
  | fH L U=>exact⟨c5.1,fun o=>by cases o⟩
  | fA s l c cs=>exact⟨c5.1,fun o=>by cases o⟩
theorem Sz{E:Env}{P:Program}{ro:Option Nat}{B:Array Oper}{nt i:Nat}{o:Oper}{C:aF}{c:aO}{b:List aO}{s:List (Nat×Bool×AV)}{q:Bool}{M:List (Nat×Bool×AV)}{N:List Bool}{r:AV}{t:List AV}{O:List (Nat×HO)}{R:FuncId}{F:List AV}{S:List D}{T:Bool}{d:D}(U:B[i]?=some o)(V:fI P B nt o C)(a2:C.k=.call c b)(b0:fm s C.guard=some (q,M))(b1:dd s (c::b)=some (N,r::t))(b2:fW r t=some (R,F))(b3:gK O F=some (S,T))(b4:q=true->eP N/\dO P R S (.ret d))(b5:T=true->fo d):gk E P ro B nt i {dst:=o.dst,rs:=M++bE s (c::b),g:=q,v:=.d d,ao:=eE O F,up:=[]}:=by
 intro e z j h H b9 W b6 c0 K Q X;have A:=jO V b0 (G:=e) (w:=j) (a:=z) (fun p k=>W p (hX _ k));cases l:q with
 | false =>rw [l] at A;exact vC U A (X undef j e (aW.refl e j) H (fun I=>by simp [l] at I) (fun _=>rfl))
 | true =>
  rw [l] at A;obtain⟨c1,Y⟩:=b4 l;obtain⟨l1,Z⟩:=lx (G:=e) (w:=j) (a:=z) H.gl b1 c1 (fun p k=>W p (jk _ k));obtain⟨f,m,a0,q1,q2,q3⟩:∃ f m a0,o.op=.call {callee:=.value f,args:=m,argTypes:=a0}/\CO f c/\bH CO m.toList b:=by have:=V.k;rw [a2] at this;exact this
  have a1:t.length=b.length:=by simpa using l1
  have b7:aC e j r (z.eval f):=Z (c,r) (by simp) f q2;obtain⟨x,y,e1,e2,e3⟩:=oA b2 b7 (us:=m.toList.map z.eval) (by simp [a1];have:=gD q3;simpa using this) (jL m.toList b t q3 a1 (fun p k=>Z p (by simp;exact .inr k)));have b8:=ts H b3 b6 e2 e3 (Y.rE rfl);refine kv U A (jM q1 e1 Y.1 b8 (fun d0 J n=>?_) (fun ch J n=>?_) (fun J n=>?_))
  ·obtain⟨L,u,k1,k2,k3,k4⟩:=n;injection k3 with k3;subst k3
   exact X _ J L k1 k2 (fun _=>.d (k4 b5)) (fun I=>by simp [l] at I)
  ·obtain⟨L,u,k1,k2,k3,k4⟩:=n;cases k3
  ·obtain⟨L,u,k1,k2,k3,k4⟩:=n;cases k3
theorem aD.BF{E:Env}{G:Gh}{h:Hp}{w:World}(H:aD E G h w){n:Nat}(N:h n=none){b:Nat}{s:Array MapEntry}{ck:Nat}(f:w.heap[b]?=some (.map s ck))(I:¬ E.K b/\E.w0.heap.size<=b)(J:∀ m,G.box m≠some b){es:List (Value×AV)}(O:fS G w es s ck) :
  aW G w {G with box:=fun m=>if m=n then some b else G.box m} w/\aD E {G with box:=fun m=>if m=n then some b else G.box m} (h.ar [(n,.aA es)]) w:=by
 obtain⟨P,b0⟩:=H.fresh n N;have K:∀ a:Addr,a.block=b->w.cell? a=none:=fun a t=>by simp [World.cell?,t,f]
 have u:aW G w {G with box:=fun m=>if m=n then some b else G.box m} w :=
  ⟨fun a t=>⟨t,rfl⟩,fun m b f=>by
   dsimp only;split
   ·rename_i e;subst e;rw [P] at f;cases f
   ·exact f,fun _ _ h=>h,fun m b f=>rfl⟩
 refine⟨u,⟨H.os,H.tape,H.output,H.size,H.kept,H.i0,H.eo,H.cu,fun m c=>?_,fun m Q R c=>?_,fun m y i=>?_,fun m L y c g=>?_,fun r l=>?_,fun r S A k z B T U V W o p=>?_,fun m X c=>?_,fun m Y c=>?_,H.gb.trans u,H.gB⟩⟩
 ·simp only [Hp.ar] at c;split at c
  ·cases c
  ·rename_i d;dsimp only;rw [ab d];exact H.fresh m c
 ·simp only [Hp.ar] at c;dsimp only;split at c
  ·injection c with c;cases c
  ·rename_i d;rw [ab d];obtain⟨b,Z,a0,v,x,C,e4⟩:=H.box m Q R c;exact⟨b,Z,a0,v,x,C.mono u,e4⟩
 ·dsimp only at i |-;split at i
  ·injection i with i;subst i
   refine⟨(lT.1 f).1,I.1,fun _ a e t=>?_,E.hN _ I.2⟩;have:=H.cu a t;rw [K a e] at this;cases this
  ·rename_i d;obtain⟨f1,f2,f3,f4⟩:=H.bJ m y i;exact⟨f1,f2,fun hd=>f3 (fun he=>hd (by simp [Hp.ar,d,he])),f4⟩
 ·intro q1 q2;dsimp only at c g;split at c
  ·split at g
   ·rename_i e D;rw [e,D]
   ·injection c with c;subst c;exact absurd g (J L)
  ·split at g
   ·injection g with g;subst g;exact absurd c (J m)
   ·rename_i e D;exact H.eC m L y c g (fun q=>q1 (by rw [Hp.hx e];exact q)) (fun q=>q2 (by rw [Hp.hx D];exact q))
 ·simp only [Hp.ar] at l;split at l
  ·injection l with l;cases l
  ·obtain⟨A,k,z,B,v,x⟩:=H.row r l;refine⟨A,k,z,B,v,fun j a1 a2=>?_⟩;obtain⟨M,e,F,c2,c3,c4,c5⟩:=x j a1 a2;refine⟨M,e,F,c2,c3,c4,fun m c=>?_⟩;dsimp only at c;split at c
   ·injection c with c
    rw [K (M.add j) (by rw [block_add];exact c.symm)] at F;cases F
   ·exact c5 m c
 ·simp only [Hp.ar] at o p;split at o
  ·injection o with o;cases o
  ·split at p
   ·injection p with p;cases p
   ·exact H.eZ r S A k z B T U V W o p
 ·simp only [Hp.ar] at c;dsimp only;split at c
  ·injection c with c;cases c
  ·rename_i d;rw [ab d];exact H.obj m X c
 ·simp only [Hp.ar] at c;dsimp only;split at c
  ·rename_i e;injection c with c;injection c with c;subst c
   rw [aj e];exact⟨b,s,ck,rfl,f,O.mono u⟩
  ·rename_i d;rw [ab d];obtain⟨b,s,ck,v,x,C⟩:=H.aA m Y c;exact⟨b,s,ck,v,x,C.mono u⟩
theorem xZ{hl:List (Nat×HO)}:∀ {vs:List AV},∀ p∈dn hl vs,look hl p.1=some p.2
 | [],p,h=>by simp [dn] at h
 | v::r,p,h=>by
  have a:=xZ (hl:=hl) (vs:=r);cases v <;> simp only [dn] at h <;> (first | exact a p h | skip)
  all_goals
   split at h
   ·rename_i o b;rcases b_.1 h with rfl | h
    ·exact b
    ·exact a p h
   ·exact a p h
theorem vD{hl:List (Nat×HO)}:∀ {vs:List AV},∀ p∈eE hl vs,look hl p.1=some p.2
 | [],p,h=>by simp [eE] at h
 | v::r,p,h=>by
  simp only [eE] at h;rcases cV.1 h with h | h
  ·unfold jn at h;split at h
   ·rcases cV.1 h with h | h
    ·exact xZ p h
    ·exact xZ p h
   ·exact xZ p h
  ·exact vD (hl:=hl) (vs:=r) p h
theorem SA{E:Env}{P:Program}{ro:Option Nat}{A:Array Oper}{nt i:Nat}{o:Oper}{B:aF}{d:aO}{c:List aO}{s:List (Nat×Bool×AV)}{m:Bool}{R:List (Nat×Bool×AV)}{S:List Bool}{r:AV}{t:List AV}{C:List (Nat×HO)}{T:FuncId}{F:List AV}{U:List D}{V:Bool}{I:List (Value×D)}{n:Nat}(ho:A[i]?=some o)(W:fI P A nt o B)(a2:B.k=.call d c)(b0:fm s B.guard=some (m,R))(b1:dd s (d::c)=some (S,r::t))(b2:fW r t=some (T,F))(b3:gK C F=some (U,V))(b4:m=true->eP S/\dO P T U (.fa I))(J:m=true)(b5:V=false)(b6:look C n=none):gk E P ro A nt i {dst:=o.dst,rs:=R++bE s (d::c),g:=m,v:=.mp n,ao:=eE C F,up:=[(n,.aA (I.map fun e=>(e.1,AV.d e.2)))]}:=by
 intro L z M h H d4 X b7 b8 K Q b9;have Y:=jO W b0 (G:=L) (w:=M) (a:=z) (fun p j=>X p (hX _ j));have c0:h n=none:=by
  rcases b8 (n,.aA (I.map fun e=>(e.1,AV.d e.2))) (by simp) with N | ⟨q,N,d0⟩
  ·exact N
  ·have:=vD q N;rw [show q.1=n from d0] at this;rw [b6] at this;cases this
 rw [J] at Y;obtain⟨c1,Z⟩:=b4 J;obtain⟨l1,l2⟩:=lx (G:=L) (w:=M) (a:=z) H.gl b1 c1 (fun p j=>X p (jk _ j));obtain⟨f,k,a0,q1,q2,q3⟩:∃ f k a0,o.op=.call {callee:=.value f,args:=k,argTypes:=a0}/\CO f d/\bH CO k.toList c:=by have:=W.k;rw [a2] at this;exact this
 have a1:t.length=c.length:=by simpa using l1
 have d1:aC L M r (z.eval f):=l2 (d,r) (by simp) f q2;obtain⟨x,y,e1,e2,e3⟩:=oA b2 d1 (us:=k.toList.map z.eval) (by simp [a1];have:=gD q3;simpa using this) (jL k.toList c t q3 a1 (fun p j=>l2 p (by simp;exact .inr j)));have d2:=ts H b3 b7 e2 e3 (Z.rE rfl);refine kv ho Y (jM q1 e1 Z.1 d2 (fun d5 O l=>?_) (fun ch O l=>?_) (fun O l=>?_))
 ·obtain⟨G',u,k1,k2,k3,k4⟩:=l;injection k3 with k3;subst k3
  obtain⟨b,d6,ck,rfl,m1,m2,m3,m4⟩:=k4 b5;obtain⟨n1,n2⟩:=k2.BF c0 m1 m2 m3 m4;exact b9 _ O _ (k1.trans n1) n2 (fun _=>.mp (by simp)) (fun d3=>by simp [J] at d3)
 ·obtain⟨G',u,k1,k2,k3,k4⟩:=l;cases k3
 ·obtain⟨G',u,k1,k2,k3,k4⟩:=l;cases k3
theorem aD.IJ{E:Env}{G:Gh}{h:Hp}{w:World}(H:aD E G h w){n:Nat}(R:h n=none){b:Nat}{B:Array Value}{M:TypeId}(i:w.heap[b]?=some (.cells B M (0,0)))(N:¬ E.K b/\E.w0.heap.size<=b)(O:∀ m,G.box m≠some b)(S:∀ a:Addr,a.block=b->¬ G.I a)(T:∀ r A n s o y,h r=some .row->G.row r=some (A,n,s,o)->n*o<s*o->A=some y->y.block≠b){cs:List AV}(U:og G w cs B)(V:∀ c∈cs,c.one=true)(C:Nat:=0)(W:C<=B.size:=by exact bp _) :
  aW G w {G with box:=fun m=>if m=n then some b else G.box m,rc:=fun m=>if m=n then {G.rc m with defers:=C} else G.rc m} w/\aD E {G with box:=fun m=>if m=n then some b else G.box m,rc:=fun m=>if m=n then {G.rc m with defers:=C} else G.rc m} (h.ar [(n,.box true cs)]) w:=by
 obtain⟨P,b7⟩:=H.fresh n R;have z:aW G w {G with box:=fun m=>if m=n then some b else G.box m,rc:=fun m=>if m=n then {G.rc m with defers:=C} else G.rc m} w :=
  ⟨fun a D=>⟨D,rfl⟩,fun m b i=>by
   dsimp only;split
   ·rename_i e;subst e;rw [P] at i;cases i
   ·exact i,fun _ _ h=>h,fun m b i=>by
   dsimp only;split
   ·rename_i e;subst e;rw [P] at i;cases i
   ·rfl⟩
 refine⟨z,⟨H.os,H.tape,H.output,H.size,H.kept,H.i0,H.eo,H.cu,fun m d=>?_,fun m X Y d=>?_,fun m F u=>?_,fun m Q F d p=>?_,fun r t=>?_,fun r Z A k s o A' a0 a1 a2 v x=>?_,fun m b0 d=>?_,fun m b2 d=>?_,H.gb.trans z,H.gB⟩⟩
 ·simp only [Hp.ar] at d;split at d
  ·cases d
  ·rename_i f;dsimp only;rw [ab f];exact H.fresh m d
 ·simp only [Hp.ar] at d;dsimp only;split at d
  ·rename_i e;subst e;injection d with d;injection d with g l;subst g;subst l
   rw [aj rfl];exact⟨b,B,M,rfl,i,U.mono z,V,by simpa using W⟩
  ·rename_i f;rw [ab f];obtain⟨b,I,b3,g,l,J,e4⟩:=H.box m X Y d;exact⟨b,I,b3,g,l,J.mono z,by rw [ab f];exact e4⟩
 ·dsimp only at u |-;split at u
  ·injection u with u;subst u
   exact⟨(lT.1 i).1,N.1,fun _ a e D=>S a e D,E.hN _ N.2⟩
  ·rename_i f;obtain⟨f1,f2,f3,f4⟩:=H.bJ m F u;exact⟨f1,f2,fun hd=>f3 (fun he=>hd (by simp [Hp.ar,f,he])),f4⟩
 ·intro q1 q2;dsimp only at d p;split at d
  ·split at p
   ·rename_i e K;rw [e,K]
   ·injection d with d;subst d;exact absurd p (O Q)
  ·split at p
   ·injection p with p;subst p;exact absurd d (O m)
   ·rename_i e K;exact H.eC m Q F d p (fun q=>q1 (by rw [Hp.hx e];exact q)) (fun q=>q2 (by rw [Hp.hx K];exact q))
 ·simp only [Hp.ar] at t;split at t
  ·injection t with t;cases t
  ·obtain⟨A,k,s,o,g,l⟩:=H.row r t;refine⟨A,k,s,o,g,fun j b4 b5=>?_⟩;obtain⟨y,e,c1,c2,c3,c4,c5⟩:=l j b4 b5;refine⟨y,e,c1,c2,c3,c4,fun m d=>?_⟩;dsimp only at d;split at d
   ·injection d with d
    exact T r A k s o y t g (by omega) e d.symm
   ·exact c5 m d
 ·simp only [Hp.ar] at v x;split at v
  ·injection v with v;cases v
  ·split at x
   ·injection x with x;cases x
   ·exact H.eZ r Z A k s o A' a0 a1 a2 v x
 ·simp only [Hp.ar] at d;dsimp only;split at d
  ·injection d with d;cases d
  ·rename_i f;rw [ab f];obtain⟨L,g,l⟩:=H.obj m b0 d;exact⟨L,g,by rw [ab f];exact l⟩
 ·simp only [Hp.ar] at d;dsimp only;split at d
  ·injection d with d;cases d
  ·rename_i f;rw [ab f];obtain⟨L,I,b6,g,l,J⟩:=H.aA m b2 d;exact⟨L,I,b6,g,l,J.mono z⟩
def iP(n:Nat)(a:List D)(b:List (Value×D)):List (Nat×HO):=[(n,.box true (a.map .d++[.mp (n+1),.mp (n+2)])),(n+1,.aA []),(n+2,.aA (b.map fun e=>(e.1,AV.d e.2)))]
theorem SB{E:Env}{P:Program}{ro:Option Nat}{a0:Array Oper}{nt i:Nat}{o:Oper}{b0:aF}{O:aO}{M:List aO}{s:List (Nat×Bool×AV)}{V:Bool}{d1:List (Nat×Bool×AV)}{gs:List Bool}{W:AV}{X:List AV}{hl:List (Nat×HO)}{d2:FuncId}{b3:List AV}{ds:List D}{d3:Bool}{B:List D}{N:List (Value×D)}{j:Nat}(ho:a0[i]?=some o)(F:fI P a0 nt o b0)(t:b0.k=.call O M)(b4:fm s b0.guard=some (V,d1))(e6:dd s (O::M)=some (gs,W::X))(e7:fW W X=some (d2,b3))(e8:gK hl b3=some (ds,d3))(e9:V=true->eP gs/\dO P d2 ds (.fH B N))(b5:V=true)(f0:d3=false)(f1:∀ m,j<=m->look hl m=none):gk E P ro a0 nt i {dst:=o.dst,rs:=d1++bE s (O::M),g:=V,v:=.ptr j 0,ao:=eE hl b3,up:=iP j B N}:=by
 intro b6 Y b7 h H g5 d4 f2 f3 K Q f4;have hw:=jO F b4 (G:=b6) (w:=b7) (a:=Y) (fun p R=>d4 p (hX _ R));have b8:∀ m,(m=j\/m=j+1\/m=j+2)->h m=none:=fun m l=>by
  obtain⟨x,f5⟩:∃ x,(m,x)∈iP j B N:=by rcases l with rfl | rfl | rfl <;> simp [iP]
  rcases f3 (m,x) f5 with b9 | ⟨q,b9,f6⟩
  ·exact b9
  ·have:=vD q b9;rw [show q.1=m from f6,f1 m (by omega)] at this;cases this
 rw [b5] at hw;obtain⟨c1,c2⟩:=e9 b5;obtain⟨l1,l2⟩:=lx (G:=b6) (w:=b7) (a:=Y) H.gl e6 c1 (fun p R=>d4 p (jk _ R));obtain⟨f,S,d5,q1,Z,T⟩:∃ f S d5,o.op=.call {callee:=.value f,args:=S,argTypes:=d5}/\CO f O/\bH CO S.toList M:=by have:=F.k;rw [t] at this;exact this
 have d6:X.length=M.length:=by simpa using l1
 have f7:aC b6 b7 W (Y.eval f):=l2 (O,W) (by simp) f Z;obtain⟨x,y,e1,e2,e3⟩:=oA e7 f7 (us:=S.toList.map Y.eval) (by simp [d6];have:=gD T;simpa using this) (jL S.toList M X T d6 (fun p R=>l2 p (by simp;exact .inr R)));have f8:=ts H e8 f2 e2 e3 (c2.rE rfl);refine kv ho hw (jM q1 e1 c2.1 f8 (fun g6 w' U=>?_) (fun ch w' U=>?_) (fun w' U=>?_))
 ·obtain⟨G',u,k1,k2,k3,k4⟩:=U;injection k3 with k3;subst k3
  obtain⟨w1,⟨b,b1,b2,g7,ty,rfl,⟨c0,f9⟩,I,m2,m3,m4,m5,m6,⟨d7,a1,g8,n1,⟨s1,g0⟩,z1,r1⟩,d8,a2,g9,n2,⟨s2,g1⟩,z2,r2⟩,h0,J⟩:=k4 f0;have g2:b≠b1:=fun e=>by rw [e,n1] at I;injection I with I;cases I
  have g3:b≠b2:=fun e=>by rw [e,n2] at I;injection I with I;cases I
  obtain⟨x1,H1⟩:=k2.BF (b8 (j+1) (by omega)) n1 ⟨(J b1 d7).1.1,by omega⟩ (J b1 d7).1.2 (es:=[]) (fS.pK s1 ⟨by simpa using z1,fun k x y h1 h2=>by simp at h1⟩ g0);obtain⟨x2,H2⟩:=H1.BF (n:=j+2) (by rw [Hp.hx (by omega)];exact b8 (j+2) (by omega)) n2 ⟨(J b2 d8).1.1,by omega⟩ (fun m l=>by
   dsimp only at l;split at l
   ·injection l with l;exact f9 l
   ·exact(J b2 d8).1.2 m l) (es:=N.map fun e=>(e.1,AV.d e.2)) (fS.pK s2 ⟨by simpa using z2,fun k x y h1 h2=>by simp only [bG,bZ] at h1;obtain⟨z,d9,rfl⟩:=h1;exact⟨(r2 k z y d9 h2).1,.d (r2 k z y d9 h2).2⟩⟩ g1)
  have e4:=x1.trans x2;obtain⟨x3,H3⟩:=H2.IJ (n:=j) (by rw [Hp.hx (by omega),Hp.hx (by omega)];exact b8 j (by omega)) I ⟨(J b c0).1.1,by omega⟩ (fun m l=>by
   dsimp only at l;split at l
   ·injection l with l;exact g3 l.symm
   ·split at l
    ·injection l with l;exact g2 l.symm
    ·exact(J b c0).1.2 m l) m2 (fun r A k g4 sz ad C b4 e5 e=>by
   simp only [Hp.ar] at C;split at C
   ·injection C with C;cases C
   ·split at C
    ·injection C with C;cases C
    ·exact(J b c0).2 r A k g4 sz ad C b4 e5 e) (cs:=B.map .d++[.mp (j+1),.mp (j+2)]) ⟨by simp;omega,fun k c u t L=>by
    rcases bB k B.length with d0 | d0
    ·rw [eY (by simpa using d0)] at t;simp only [bG,bZ] at t;obtain⟨d,hd,rfl⟩:=t;exact(aC.d (m4 k d u hd L).2).mono e4
    ·rw [eJ (by simpa using d0)] at t;simp only [db] at t;have h3:k-B.length<2:=by
      rcases bB (k-B.length) 2 with h | h
      ·exact h
      ·rw [cb (by simpa using h)] at t;cases t
     rcases (by omega:k=B.length\/k=B.length+1) with rfl | rfl
     ·rw [vf] at t;simp only [xC,aL] at t;rw [m5] at L;injection L with L
      subst t;subst L;exact .mp (by dsimp only;rw [ab (by omega),aj rfl])
     ·rw [show B.length+1-B.length=1 by omega] at t;simp only [GZ,xC,aL] at t;rw [m6] at L;injection L with L
      subst t;subst L;exact .mp (by dsimp only;rw [aj rfl])⟩ (fun c F=>by
    rcases cV.1 F with F | F
    ·obtain⟨d,hd,rfl⟩:=aS.1 F;obtain⟨k,t⟩:=hs hd;have e5:=(bu.1 t).1;exact(m4 k d _ t (bb (by omega))).1
    ·simp at F;rcases F with rfl | rfl <;> rfl)
  have e0:((h.ar [(j+1,HO.aA [])]).ar [(j+2,HO.aA (N.map fun e=>(e.1,AV.d e.2)))]).ar [(j,HO.box true (B.map .d++[.mp (j+1),.mp (j+2)]))]=h.ar (iP j B N):=by
   funext m;by_cases q1:m=j
   ·subst q1;simp [Hp.ar,iP]
   ·by_cases Z:m=j+1
    ·subst Z;simp [Hp.ar,iP]
    ·by_cases T:m=j+2
     ·subst T;simp [Hp.ar,iP]
     ·simp [Hp.ar,iP,q1,Z,T]
  rw [e0] at H3;exact f4 _ w' _ (k1.trans (e4.trans x3)) H3 (fun _=>.ptr (by dsimp only;rw [aj rfl])) (fun J=>by simp [b5] at J)
 ·obtain⟨G',u,k1,k2,k3,k4⟩:=U;cases k3
 ·obtain⟨G',u,k1,k2,k3,k4⟩:=U;cases k3
theorem SC{E:Env}{P:Program}{ro:Option Nat}{N:Array Oper}{nt i:Nat}{o:Oper}{O:aF}{m:aO}{j:List aO}{s:List (Nat×Bool×AV)}{C:Bool}{a0:List (Nat×Bool×AV)}{gs:List Bool}{F:AV}{I:List AV}{R:List (Nat×HO)}{a1:FuncId}{S:List AV}{ds:List D}{a2:Bool}{sz l c:Nat}{J:List D}{n:Nat}(ho:N[i]?=some o)(L:fI P N nt o O)(e:O.k=.call m j)(b3:fm s O.guard=some (C,a0))(b4:dd s (m::j)=some (gs,F::I))(b5:fW F I=some (a1,S))(b6:gK R S=some (ds,a2))(b7:C=true->eP gs/\dO P a1 ds (.fA sz l c J))(T:C=true)(b8:a2=false)(b9:look R n=none):gk E P ro N nt i {dst:=o.dst,rs:=a0++bE s (m::j),g:=C,v:=.aE n 0 sz l c,ao:=eE R S,up:=[(n,.box true (J.map .d))]}:=by
 intro U M V h H d7 b0 c0 d0 K Q d1;have hw:=jO L b3 (G:=U) (w:=V) (a:=M) (fun p r=>b0 p (hX _ r));have d2:h n=none:=by
  rcases d0 (n,.box true (J.map .d)) (by simp) with W | ⟨q,W,d3⟩
  ·exact W
  ·have:=vD q W;rw [show q.1=n from d3] at this;rw [b9] at this;cases this
 rw [T] at hw;obtain⟨c1,c2⟩:=b7 T;obtain⟨l1,l2⟩:=lx (G:=U) (w:=V) (a:=M) H.gl b4 c1 (fun p r=>b0 p (jk _ r));obtain⟨f,t,b1,q1,q2,q3⟩:∃ f t b1,o.op=.call {callee:=.value f,args:=t,argTypes:=b1}/\CO f m/\bH CO t.toList j:=by have:=L.k;rw [e] at this;exact this
 have b2:I.length=j.length:=by simpa using l1
 have d4:aC U V F (M.eval f):=l2 (m,F) (by simp) f q2;obtain⟨x,y,e1,e2,e3⟩:=oA b5 d4 (us:=t.toList.map M.eval) (by simp [b2];have:=gD q3;simpa using this) (jL t.toList j I q3 b2 (fun p r=>l2 p (by simp;exact .inr r)));have d5:=ts H b6 c0 e2 e3 (c2.rE rfl);refine kv ho hw (jM q1 e1 c2.1 d5 (fun d8 X z=>?_) (fun ch X z=>?_) (fun X z=>?_))
 ·obtain⟨G',u,k1,k2,k3,k4⟩:=z;injection k3 with k3;subst k3
  obtain⟨w1,⟨b,d6,ty,d9,rfl,Y,m1,m2,⟨x1,x2,x3⟩,A,m5,m6⟩,e0,B⟩:=k4 b8;obtain⟨n1,n2⟩:=k2.IJ d2 m1 ⟨(B b Y).1.1,by omega⟩ (B b Y).1.2 m2 (B b Y).2 (cs:=J.map .d) ⟨by simpa using m5,fun k c u e hu=>by
    simp only [bG,bZ] at e;obtain⟨d,Z,rfl⟩:=e;exact .d (m6 k d u Z hu).2⟩ (fun c L=>by
    obtain⟨d,Z,rfl⟩:=aS.1 L;obtain⟨k,e⟩:=hs Z;have e4:=(bu.1 e).1;exact(m6 k d _ e (bb (by omega))).1) d6.size (bj _)
  refine d1 _ X _ (k1.trans n1) n2 (fun _=>.aE (by dsimp only;rw [aj rfl]) x1 x2 x3 ?_) (fun B=>by simp [T] at B);rcases A with A | A
  ·exact .inl A
  ·exact .inr (by dsimp only;rw [aj rfl];simpa using A)
 ·obtain⟨G',u,k1,k2,k3,k4⟩:=z;cases k3
 ·obtain⟨G',u,k1,k2,k3,k4⟩:=z;cases k3
theorem aD.app{E:Env}{G:Gh}{h:Hp}{w x:World}(H:aD E G h w){A:Option Addr}{n R o:Nat}(b3:lq E G w A n R o)(hd:n*o<R*o->∀ j y z B Y,h j=some .row->G.row j=some (y,z,B,Y)->z*Y<B*Y->∀ d O,A=some d->y=some O->d.block≠O.block){q:Nat}(b4:h q=none){b0:List D}{e:Ending}(b5:Su G.I w A n R o b0 e x) :
  ∃ Z y z B,e=.returned (.slice y z B)/\aW G w Z x/\aD E Z (h.ar [(q,.row)]) x/\aC Z x (.own q o b0) (.slice y z B):=by
 obtain⟨a0,y,z,B,rfl,c1,c2,c3,⟨c4,c5,c6,c7⟩,c8,c9,tZ,r_⟩:=b5;have S:∀ b,rD A n R o b->¬ E.K b/\E.N b/\∀ m,G.box m≠some b:=fun b i=>by
  obtain⟨T,d,rfl,rfl⟩:=i;obtain⟨O,C,_,_,_,q4,q5⟩:=b3 (n*o) (bj _) T;injection C with C;subst C
  exact⟨q4.1,q4.2,q5⟩
 have W:aW G w {G with I:=a0} x:=⟨c1,fun _ _ h=>h,fun _ _ h=>h,fun _ _ _=>rfl⟩;have a1:∀ m b,G.box m=some b->x.heap[b]?=w.heap[b]?:=fun m b i=>c8 b (H.bJ m b i).1 (fun F=>(S b F).2.2 m i)
 have b1:∀ j p t u l,h j=some .row->G.row j=some (p,t,u,l)->lq E G w p t u l->∀ k,t*l<=k->k<u*l->∀ d,p=some d->d.block<w.heap.size/\¬ rD A n R o d.block:=fun j p t u l c f K k J P d e=>by
  obtain⟨O,C,q1,_⟩:=K k J P;rw [e] at C;injection C with C;subst C
  obtain⟨v,b6⟩:=eI.1 q1;have:=d_ w _ b6;rw [block_add] at this;refine⟨this,fun F=>?_⟩;obtain⟨T,b7,L,U⟩:=F;exact hd T j p t u l c f (by omega) b7 d L e U
 have H1:aD E {G with I:=a0} h x:=by
  refine⟨c4.trans H.os,c5.trans H.tape,c6.trans H.output,eX H.size c7,fun b i=>?_,fun a V=>?_,fun a V=>?_,c3,H.fresh,fun m ag cs M=>?_,fun m b i=>?_,H.eC,fun r F=>?_,H.eZ,fun m s M=>?_,fun m es M=>?_,H.gb.trans W,H.gB⟩
  ·obtain⟨c,f⟩:=H.kept b i;exact⟨c,(c8 b (fx c H.size) (fun F=>(S b F).1 i)).trans f⟩
  ·obtain⟨c,f⟩:=H.i0 a V;exact⟨(c1 a c).1,(c1 a c).2.trans f⟩
  ·rcases c2 a V with c | c | c
   ·exact H.eo a c
   ·exact .inr (E.hN _ (eX H.size c))
   ·exact .inr (S _ c).2.1
  ·obtain⟨b,a2,ty,c,f,K,g⟩:=H.box m ag cs M;exact⟨b,a2,ty,c,(a1 m b c).trans f,K.mono W,g⟩
  ·obtain⟨c,f,K,h5⟩:=H.bJ m b i;refine⟨fx c c7,f,fun b8 a e V=>?_,h5⟩;rcases c2 a V with g | g | g
   ·exact K b8 a e g
   ·omega
   ·exact(S _ g).2.2 m (e ▸ i)
  ·obtain⟨p,t,u,l,c,f⟩:=H.row r F;refine⟨p,t,u,l,c,fun k J P=>?_⟩;obtain⟨d,e,d1,d2,d3,d4,d5⟩:=f k J P;obtain⟨X,Q⟩:=b1 r p t u l F c f k J P d e;have i:x.heap[(d.add k).block]?=w.heap[(d.add k).block]?:=by rw [block_add];exact c8 _ X Q
   refine⟨d,e,by rw [sU i];exact d1,by rw [xz i];exact d2,fun hi=>?_,d4,d5⟩;rcases c2 _ hi with g | g | g
   ·exact d3 g
   ·rw [block_add] at g;omega
   ·rw [block_add] at g;exact Q g
  ·obtain⟨b,N,L⟩:=H.obj m s M;exact⟨b,N,(a1 m b N).trans L⟩
  ·obtain⟨b,a2,ck,N,L,U⟩:=H.aA m es M;exact⟨b,a2,ck,N,(a1 m b N).trans L,U.mono W⟩
 have b9:∀ b,rD y z B o b->¬ E.K b/\E.N b/\∀ m,G.box m≠some b:=fun b i=>by
  rcases r_ b i with c | c
  ·refine⟨fun J=>?_,E.hN _ (eX H.size c),fun m M=>?_⟩
   ·have:=(H.kept b J).1;have:=H.size;omega
   ·have:=(H.bJ m b M).1;omega
  ·exact S b c
 have c0:lq E {G with I:=a0} x y z B o:=fun k J P=>by obtain⟨d,e,d1,d2,d3⟩:=tZ k J P;obtain⟨X,Q,x3⟩:=b9 d.block ⟨by omega,d,e,rfl⟩;exact⟨d,e,d1,d2,d3,⟨X,Q⟩,x3⟩
 obtain⟨l1,l2⟩:=H1.na b4 c0 (fun T j p t u l c f K d O N L U=>by
  obtain⟨A3,n3,d0,b2,g1,g2⟩:=H.row j c;have f:G.row j=some (p,t,u,l):=f;rw [g1] at f;injection f with f;injection f with y1 y2;injection y2 with y2 y3;injection y3 with y3 y4
  subst y1;subst y2;subst y3;subst y4;obtain⟨X,Q⟩:=b1 j A3 n3 d0 b2 c g1 g2 (n3*b2) (bj _) K O L;rcases r_ d.block ⟨T,d,N,rfl⟩ with g | g
  ·omega
  ·exact Q (U ▸ g))
 exact⟨_,y,z,B,rfl,W.trans l1,l2,.own (by simp) (c9.mono l1.ef)⟩
def IK(b:List (Nat×HO)):AV->Option (Nat×List D×List (Nat×HO)×List (Nat×HO))
 | .own r a c=>match look b r with
  | some .row=>some (a,c,[(r,.row)],[(r,.dead)])
  | _=>none
 | .d (.nil a)=>some (a,[],[],[])
 | _=>none
inductive DE where
 | mark (n:Nat)
 | fn (f:FuncId) (as az:List AV)
structure St where
 s:List (Nat×Bool×AV)
 h:List (Nat×HO)
 d:List DE
inductive tt (G:Gh) (w:World):DE->Deferred->Prop
 | mark {n b} (hg:G.box n=some b):tt G w (.mark n) {target:=.collected b,args:=#[]}
 | fn {f as az} {x y:Array Value}(h1:gi G w as x) (h2:gi G w az y):tt G w (.fn f as az) {target:=.fn (.func f) y,args:=x}
theorem tt.mono{G b:Gh}{w c:World}{x:DE}{v:Deferred}(h:tt G w x v)(a:aW G w b c):tt b c x v:=by
 cases h with
 | mark d=>exact .mark (a.box _ _ d)
 | fn e f=>exact .fn (e.mono a) (f.mono a)
theorem bH.map'{a b:Type}{R S:a->b->Prop}(c:∀ x y,R x y->S x y):∀ {l:List a}{m:List b},bH R l m->bH S l m
 | _,_,.nil=>.nil
 | _,_,.cons h t=>.cons (c _ _ h) (bH.map' c t)
def pY(G:Gh)(w:World)(a:List DE)(b:List Deferred):Prop:=bH (tt G w) a b
theorem pY.mono{G a:Gh}{w b:World}{c:List DE}{d:List Deferred}(h:pY G w c d)(e:aW G w a b):pY a b c d:=bH.map' (fun _ _ h=>h.mono e) h
structure bO (E:Env) (G:Gh) (σ:St) (a:Act) (w:World) (nt:Nat):Prop where
 wr:aD E G (look σ.h) w
 sz:a.tmps.size=nt
 sr:∀ t e,bn σ.s t=some e->jm G w a t e
 defers:pY G w σ.d a.defers
def aM(a:List (Nat×HO))(n:Nat)(o:HO):List (Nat×HO) :=
 match a with
 | []=>[(n,o)]
 | (m,x)::r=>if n=m then (m,o)::r else (m,x)::aM r n o
def ea(a:List (Nat×HO)):List (Nat×HO)->List (Nat×HO)
 | []=>a
 | (n,o)::r=>aM (ea a r) n o
def bX(s:List (Nat×Bool×AV))(a:Option Nat)(e:Bool×AV):List (Nat×Bool×AV) :=
 match a with
 | some t=>(t,e)::s
 | none=>s
theorem bh:∀ (b:List (Nat×HO)) (n:Nat) (o:HO) (m:Nat),look (aM b n o) m=if m=n then some o else look b m
 | [],n,o,m=>by simp [aM,look]
 | (k,x)::r,n,o,m=>by
  simp only [aM];split
  ·rename_i e;subst e;simp only [look];split <;> rfl
  ·rename_i e;simp only [look,bh r n o m];by_cases a:m=k
   ·subst a;rw [aj rfl,ab (fun h=>e h.symm),aj rfl]
   ·rw [ab a,ab a]
theorem BG(a:List (Nat×HO)):∀ b,look (ea a b)=Hp.ar (look a) b
 | []=>rfl
 | (n,o)::r=>by funext m;rw [ea,bh,BG a r];rfl
theorem IL{G:Gh}{w:World}{a:Act}{d:Nat}{val:Value}{t:Nat}{e:Bool×AV}(h:jm G w a t e)(b:t≠d):jm G w (a.put (some d) val) t e:=by obtain⟨v,c,f,g⟩:=h;exact⟨v,by simp only [Act.put];rw [pF (fun h=>b h.symm)];exact c,f,g⟩
theorem bO.put{E:Env}{G f:Gh}{c:St}{a:Act}{w h:World}{nt:Nat}(H:bO E G c a w nt){up:List (Nat×HO)}{dst:Option Nat}{g:Bool}{v:AV}{val:Value}(i:aW G w f h)(k:aD E f (Hp.ar (look c.h) up) h)(l:∀ d,dst=some d->d<nt)(m:g=true->aC f h v val)(n:g=false->val=undef):bO E f ⟨bX c.s dst (g,v),ea c.h up,c.d⟩ (a.put dst val) h nt:=by
 refine⟨by rw [BG];exact k,?_,fun t e b=>?_,?_⟩
 ·cases dst with
  | none=>exact H.sz
  | some d=>simp only [Act.put,Array.size_setIfInBounds];exact H.sz
 ·cases dst with
  | none=>exact(H.sr t e b).mono i
  | some d =>
   simp only [bX,bn] at b;split at b
   ·rename_i j;subst j;injection b with b;subst b
    refine⟨val,?_,m,n⟩;have:=l t rfl;simp [Act.put,H.sz,this]
   ·rename_i j;exact IL ((H.sr t e b).mono i) j
 ·cases dst <;> exact H.defers.mono i
def rH(x:ei)(a:List Bool)(b:List AV):Prop :=
 match x with
 | .pick ..=>match a,b with
  | [d,e,f],.d (.lit (.bool c))::_=>d=true/\(c=true->e=true)/\(c=false->f=true)
  | _,_=>False
 | _=>eP a
def jP(C:FuncId->List D->Out->Prop)(a:St)(b:aF)(s:D->Prop)(K:Rec->St->Prop):Prop :=
 match fm a.s b.guard with
 | none=>False
 | some (g,h) =>
  match b.k with
  | .op x=>match dd a.s x.gA with
   | none=>False
   | some (p,o)=>match dY a.h x o with
    | none=>False
    | some e=>(g=true->rH x p o/\e.c)/\(e.up.isEmpty=false->g=true)/\K ⟨b.dst,h++bE a.s x.gA,g,e.v,e.ao,e.up⟩ ⟨bX a.s b.dst (g,e.v),ea a.h e.up,a.d⟩
  | .call f i=>match dd a.s (f::i) with
   | some (p,t::o)=>match fW t o with
    | some (u,j)=>match gK a.h j with
     | some (v,k)=>∃ q,(g=true->eP p/\C u v q)/\match q with
      | .ret d=>(k=true->fo d)/\K ⟨b.dst,h++bE a.s (f::i),g,.d d,eE a.h j,[]⟩ ⟨bX a.s b.dst (g,.d d),a.h,a.d⟩
      | .aQ d=>g=true/\(k=true->fo d)/\s d
      | .fA r l c m=>g=true/\k=false/\K ⟨b.dst,h++bE a.s (f::i),g,.aE (newName a.h) 0 r l c,eE a.h j,[(newName a.h,.box true (m.map .d))]⟩ ⟨bX a.s b.dst (g,.aE (newName a.h) 0 r l c),ea a.h [(newName a.h,.box true (m.map .d))],a.d⟩
      | .fH m n=>g=true/\k=false/\K ⟨b.dst,h++bE a.s (f::i),g,.ptr (newName a.h) 0,eE a.h j,iP (newName a.h) m n⟩ ⟨bX a.s b.dst (g,.ptr (newName a.h) 0),ea a.h (iP (newName a.h) m n),a.d⟩
      | .fa n=>g=true/\k=false/\K ⟨b.dst,h++bE a.s (f::i),g,.mp (newName a.h),eE a.h j,[(newName a.h,.aA (n.map fun e=>(e.1,AV.d e.2)))]⟩ ⟨bX a.s b.dst (g,.mp (newName a.h)),ea a.h [(newName a.h,.aA (n.map fun e=>(e.1,AV.d e.2)))],a.d⟩
     | none=>False
    | none=>False
   | _=>False
  | _=>False
def x_(C:FuncId->List D->Out->Prop)(c:D->St->Prop)(K:List Rec->St->Prop):List aF->St->List Rec->Prop
 | [],a,b=>K b a
 | e::r,a,b=>jP C a e (fun d=>c d a) (fun f g=>x_ C c K r g (b++[f]))
def BH(E:Env)(P:Program)(f:Option Nat)(g:Array Oper)(nt i:Nat)(j:List (Nat×Bool×AV))(k:List (Nat×HO))(d:D):Prop :=
 ∀ (G:Gh) (a:Act) (w:World) (h:Hp),aD E G h w->a.tmps.size=nt->(∀ p∈j,jm G w a p.1 p.2)->(∀ p∈k,h p.1=some p.2) ->∀ (K:Act->World->Prop) (Q:Exit->Act->World->Prop),(∀ e b c,aW G w c b->aD E c h b->au c.I b d e->Q (.panic [{v:=e,recovered:=false}]) a b)->wpOpIn (Fr f) 0 P g Q i K a w
theorem SD{E:Env}{P:Program}{Z:Option Nat}{q:Array Oper}{nt i:Nat}{o:Oper}{r:aF}{c:aO}{b:List aO}{s:List (Nat×Bool×AV)}{g:Bool}{F:List (Nat×Bool×AV)}{I:List Bool}{l:AV}{m:List AV}{J:List (Nat×HO)}{L:FuncId}{t:List AV}{M:List D}{N:Bool}{d:D}(ho:q[i]?=some o)(O:fI P q nt o r)(a0:r.k=.call c b)(a1:fm s r.guard=some (g,F))(a2:dd s (c::b)=some (I,l::m))(b0:fW l m=some (L,t))(b1:gK J t=some (M,N))(b2:g=true->eP I/\dO P L M (.aQ d))(R:g=true)(b3:N=true->fo d):BH E P Z q nt i (F++bE s (c::b)) (eE J t) d:=by
 intro z n A h H b8 S b4 K Q b5;have T:=jO O a1 (G:=z) (w:=A) (a:=n) (fun p e=>S p (hX _ e));rw [R] at T;obtain⟨c1,U⟩:=b2 R;obtain⟨l1,V⟩:=lx (G:=z) (w:=A) (a:=n) H.gl a2 c1 (fun p e=>S p (jk _ e));obtain⟨f,j,W,q1,q2,X⟩:∃ f j W,o.op=.call {callee:=.value f,args:=j,argTypes:=W}/\CO f c/\bH CO j.toList b:=by have:=O.k;rw [a0] at this;exact this
 have Y:m.length=b.length:=by simpa using l1
 have b6:aC z A l (n.eval f):=V (c,l) (by simp) f q2;obtain⟨x,y,e1,e2,e3⟩:=oA b0 b6 (us:=j.toList.map n.eval) (by simp [Y];have:=gD X;simpa using this) (jL j.toList b m X Y (fun p e=>V p (by simp;exact .inr e)));have b7:=ts H b1 b4 e2 e3 (U.rE rfl);refine kv ho T (jM q1 e1 U.1 b7 (fun v B k=>?_) (fun ch B k=>?_) (fun B k=>?_))
 ·obtain⟨C,u,k1,k2,k3,k4⟩:=k;cases k3
 ·obtain⟨C,u,k1,k2,k3,k4⟩:=k;injection k3 with k3;subst k3
  exact b5 u B C k1 k2 (k4 b3)
 ·obtain⟨C,u,k1,k2,k3,k4⟩:=k;cases k3
theorem tu(a:List (Nat×HO)):look a (newName a)=none:=by
 cases h:look a (newName a) with
 | none=>rfl
 | some x=>have:=pV h;omega
theorem IM{a:List (Nat×HO)}{m:Nat}(b:newName a<=m):look a m=none:=by
 cases h:look a m with
 | none=>rfl
 | some x=>have:=pV h;omega
theorem SE{a:List (Nat×HO)}{x:ei}{b:List AV}{e:ry}(h:dY a x b=some e):(∀ p∈e.ao,look a p.1=some p.2)/\(∀ p∈e.up,look a p.1=none\/∃ q∈e.ao,q.1=p.1):=by have c:=tu a;cases x <;> simp only [dY] at h <;> (try (rename_i k _;cases k <;> simp only [dC] at h)) <;> (repeat' split at h) <;> simp only [aL,reduceCtorEq] at h <;> subst h <;> simp_all
structure iA (σ:St) (r:Rec):Prop where
 rs:∀ p∈r.rs,bn σ.s p.1=some p.2
 ao:∀ p∈r.ao,look σ.h p.1=some p.2
 up:∀ p∈r.up,look σ.h p.1=none\/∃ q∈r.ao,q.1=p.1
theorem kx{s:List (Nat×Bool×AV)}:∀ {l:List aO},∀ p∈bE s l,bn s p.1=some p.2
 | [],p,h=>by simp [bE] at h
 | .tmp t::r,p,h=>by
  simp only [bE] at h;split at h
  ·rename_i e a;rcases b_.1 h with rfl | h
   ·exact a
   ·exact kx p h
  ·exact kx p h
 | .av _::r,p,h=>kx (l:=r) p h
 | .lr _::r,p,h=>kx (l:=r) p h
theorem tv{s:List (Nat×Bool×AV)}{c:Option (Nat×Bool)}{g:Bool}{a:List (Nat×Bool×AV)}(h:fm s c=some (g,a)):∀ p∈a,bn s p.1=some p.2:=by
 unfold fm at h;split at h
 ·simp only [aL,ee] at h;obtain⟨_,rfl⟩:=h;simp
 ·split at h <;> simp only [aL,ee,reduceCtorEq] at h;rename_i d;obtain⟨_,rfl⟩:=h;intro p b;simp at b;subst b;exact d
theorem x'{hl:List (Nat×HO)}:∀ {vs:List AV},∀ p∈dn hl vs,look hl p.1=some p.2
 | [],p,h=>by simp [dn] at h
 | v::r,p,h=>by
  have a:=x' (hl:=hl) (vs:=r);cases v <;> simp only [dn] at h <;> (first | exact a p h | skip)
  all_goals
   split at h
   ·rename_i o b;rcases b_.1 h with rfl | h
    ·exact b
    ·exact a p h
   ·exact a p h
theorem tw{hl:List (Nat×HO)}:∀ {vs:List AV},∀ p∈eE hl vs,look hl p.1=some p.2
 | [],p,h=>by simp [eE] at h
 | v::r,p,h=>by
  simp only [eE] at h;rcases cV.1 h with h | h
  ·unfold jn at h;split at h
   ·rcases cV.1 h with h | h
    ·exact x' p h
    ·exact x' p h
   ·exact x' p h
  ·exact tw (hl:=hl) (vs:=r) p h
theorem SF{E:Env}{P:Program}{S:Option Nat}{L:Array Oper}{nt i:Nat}{o:Oper}{T:aF}{q:St}{U:D->Prop}{K:Rec->St->Prop}{C:FuncId->List D->Out->Prop}(a0:∀ f M G,C f M G->dO P f M G)(A:L[i]?=some o)(r:fI P L nt o T)(j:jP C q T U K) :
  (∃ u:Rec,gk E P S L nt i u/\iA q u/\u.dst=o.dst/\K u ⟨bX q.s u.dst (u.g,u.v),ea q.h u.up,q.d⟩) \/∃ d N V,BH E P S L nt i N V d/\(∀ p∈N,bn q.s p.1=some p.2)/\(∀ p∈V,look q.h p.1=some p.2)/\U d:=by
 unfold jP at j;split at j
 ·exact j.elim
 ·rename_i g N v;have W:=tv v;split at j
  ·rename_i x w;split at j
   ·exact j.elim
   ·rename_i Q vs n;split at j
    ·exact j.elim
    ·rename_i e F;obtain⟨s,k,t⟩:=j;rw [r.dst] at t;have X:=SE F;refine .inl ⟨_,?_,⟨fun p h=>?_,X.1,X.2⟩,rfl,t⟩
     ·by_cases h:∃ c a b,x=.pick c a b
      ·obtain⟨a1,a2,b0,rfl⟩:=h;simp only [dY] at F;split at F <;> simp only [aL,reduceCtorEq] at F;rename_i c x y;subst F;have b1:∃ Y Z gb,Q=[Y,Z,gb]:=by
        simp only [ei.gA,dd] at n;cases O:fV q.s a1 with
        | none=>simp [O] at n
        | some q1 =>
         cases R:fV q.s a2 with
         | none=>simp [O,R] at n
         | some q2 =>
          cases e3:fV q.s b0 with
          | none=>simp [O,R,e3] at n
          | some q3=>simp [O,R,e3] at n;exact⟨_,_,_,n.1.symm⟩
       obtain⟨Y,Z,gb,rfl⟩:=b1;exact Sw A r w v n (fun B=>(s B).1)
      ·refine Sv A r w v n F (fun B=>⟨?_,(s B).2⟩) (fun b2=>k (by
        cases hu:e.up with
        | nil=>exact absurd hu b2
        | cons _ _=>rfl))
       have:=(s B).1;unfold rH at this;split at this
       ·exact absurd ⟨_,_,_,rfl⟩ h
       ·exact this
     ·rcases cV.1 h with h | h
      ·exact W p h
      ·exact kx p h
  ·rename_i f b3 w;split at j
   ·rename_i Q b5 vs n;split at j
    ·rename_i b4 b6 H;split at j
     ·rename_i M b7 I;have J:∀ p∈N++bE q.s (f::b3),bn q.s p.1=some p.2:=fun p h=>by
       rcases cV.1 h with h | h
       ·exact W p h
       ·exact kx p h
      obtain⟨G,s,k⟩:=j;have s:g=true->eP Q/\dO P b4 M G:=fun B=>⟨(s B).1,a0 _ _ _ (s B).2⟩
      cases G with
      | ret d =>obtain⟨k,t⟩:=k;rw [r.dst] at t;exact .inl ⟨_,Sz A r w v n H I s k,⟨J,tw,by simp⟩,rfl,t⟩
      | aQ d=>exact .inr ⟨d,_,_,SD A r w v n H I s k.1 k.2.1,J,tw,k.2.2⟩
      | fA sz l c cs =>obtain⟨k,t,z⟩:=k;rw [r.dst] at z;exact .inl ⟨_,SC A r w v n H I s k t (tu _),⟨J,tw,fun p h=>by simp at h;subst h;exact .inl (tu _)⟩,rfl,z⟩
      | fH cs es =>obtain⟨k,t,z⟩:=k;rw [r.dst] at z;exact .inl ⟨_,SB A r w v n H I s k t (fun m hm=>IM hm),⟨J,tw,fun p h=>.inl (IM (by simp only [iP,b_,n',oa] at h;rcases h with rfl | rfl | rfl <;> simp <;> omega))⟩,rfl,z⟩
      | fa es =>obtain⟨k,t,z⟩:=k;rw [r.dst] at z;exact .inl ⟨_,SA A r w v n H I s k t (tu _),⟨J,tw,fun p h=>by simp at h;subst h;exact .inl (tu _)⟩,rfl,z⟩
     ·exact j.elim
    ·exact j.elim
   ·exact j.elim
  ·exact j.elim
def BI(C:FuncId->List D->Out->Prop)(a:St)(b:aF)(d:D->Prop)(K:Rec->St->Prop):Prop :=
 (∃ c,fm a.s b.guard=some (false,c)/\K ⟨b.dst,c,false,.d (.lit (.bool false)),[],[]⟩ ⟨bX a.s b.dst (false,.d (.lit (.bool false))),a.h,a.d⟩)\/jP C a b d K
def g_(C:FuncId->List D->Out->Prop)(c:D->St->Prop)(K:List Rec->St->Prop):List aF->St->List Rec->Prop
 | [],a,b=>K b a
 | e::r,a,b=>BI C a e (fun d=>c d a) (fun f g=>g_ C c K r g (b++[f]))
theorem SG{C:FuncId->List D->Out->Prop}{j:St}{i:aF}{m:D->Prop}{K n:Rec->St->Prop}(e:∀ r s,K r s->n r s)(h:jP C j i m K):jP C j i m n:=by
 unfold jP at h |-;cases o:fm j.s i.guard with
 | none=>rw [o] at h;exact h
 | some q =>
  obtain⟨g,w⟩:=q;rw [o] at h;simp only at h |-;cases b:i.k with
  | op x =>
   rw [b] at h;simp only at h |-;split at h
   ·exact h
   ·split at h
    ·exact h
    ·exact⟨h.1,h.2.1,e _ _ h.2.2⟩
  | call f k =>
   rw [b] at h;simp only at h |-;split at h
   ·split at h
    ·split at h
     ·obtain⟨p,t,a⟩:=h;refine⟨p,t,?_⟩;cases p with
      | ret d=>exact⟨a.1,e _ _ a.2⟩
      | aQ d=>exact a
      | fa u=>exact⟨a.1,a.2.1,e _ _ a.2.2⟩
      | fH v u=>exact⟨a.1,a.2.1,e _ _ a.2.2⟩
      | fA y l c v=>exact⟨a.1,a.2.1,e _ _ a.2.2⟩
     ·exact h
    ·exact h
   ·exact h
  | bl f k=>rw [b] at h;exact h
  | hC f k=>rw [b] at h;exact h
  | defer f k=>rw [b] at h;exact h
  | panic x=>rw [b] at h;exact h
def waits:List aF->Bool
 | []=>false
 | o::r=>match o.guard with
  | some _=>true
  | none=>match o.k with
   | .call _ _=>true
   | _=>waits r
theorem BJ{E:Env}{P:Program}{ro:Option Nat}{e:Array Oper}{nt i:Nat}{o:Oper}{q:aF}{c:St}{r:D->Prop}{K:Rec->St->Prop}{C:FuncId->List D->Out->Prop}(y:∀ f s t,C f s t->dO P f s t)(u:e[i]?=some o)(g:fI P e nt o q)(j:BI C c q r K) :
  (∃ b:Rec,gk E P ro e nt i b/\iA c b/\b.dst=o.dst/\K b ⟨bX c.s b.dst (b.g,b.v),ea c.h b.up,c.d⟩) \/∃ d k l,BH E P ro e nt i k l d/\(∀ p∈k,bn c.s p.1=some p.2)/\(∀ p∈l,look c.h p.1=some p.2)/\r d:=by
 rcases j with ⟨k,v,x⟩ | j
 ·rw [g.dst] at x;refine .inl ⟨_,fun m z n h H J A l L K Q B=>?_,⟨fun p F=>tv v p F,by simp,by simp⟩,rfl,x⟩;exact vC u (jO g v (G:=m) (w:=n) (a:=z) A) (B undef n m (aW.refl m n) H (fun I=>by simp at I) (fun _=>rfl))
 ·exact SF y u g j
inductive AE where
 | normal
 | exit (id:Nat)
 | ret
 | aQ (d:D)
def gL(E:Env)(nt:Nat)(Q:AE->St->Prop):Exit->Act->World->Prop
 | .normal,a,w=>∃ G b,bO E G b a w nt/\Q .normal b
 | .exit id,a,w=>∃ G b,bO E G b a w nt/\Q (.exit id) b
 | .ret,a,w=>∃ G b,bO E G b a w nt/\Q .ret b
 | .panic e,a,w=>∃ G b c d,bO E G b a w nt/\e=[{v:=c,recovered:=false}]/\au G.I w d c/\Q (.aQ d) b
 | _,_,_=>False
theorem IN{h:Env}{P:Program}{F:Option Nat}{i:Array Oper}{nt:Nat}{Q:AE->St->Prop}{C:FuncId->List D->Out->Prop}(I:∀ f J K,C f J K->dO P f J K):∀ (l:List aF) (k:Nat) (b:St) (m:List Rec) (G:Gh) (a:Act) (w:World),
  (∀ j g,l[j]?=some g->∃ o,i[k+j]?=some o/\fI P i nt o g)->bO h G b a w nt->g_ C (fun d b=>Q (.aQ d) b) (fun _ b=>Q .normal b) l b m ->wpOpsIn (Fr F) 0 P i (gL h nt Q) (List.range' k l.length) a w
 | [],k,b,m,G,a,w,n,H,q=>⟨G,b,H,q⟩
 | g::r,k,b,m,G,a,w,n,H,q=>by
  obtain⟨o,L,M⟩:=n 0 g rfl;rw [kl] at L;rw [bN,ve,wpOpsIn_cons];rcases BJ (E:=h) (ro:=F) I L M q with ⟨Y,s,c,u,x⟩ | ⟨d,Z,a0,s,c,u,x⟩
  ·refine s G a w (look b.h) H.wr H.sz (fun p y=>H.sr _ _ (c.rs p y)) c.ao c.up _ _ (fun a1 N z q1 A B O=>?_);exact IN I r (k+1) _ _ z _ N (fun j R S=>by obtain⟨T,U,V⟩:=n (j+1) R (by simpa using S);exact⟨T,by rw [<- U];congr 1;omega,V⟩) (H.put q1 A (fun d W=>M.lt d (by rw [<- u];exact W)) B O) x
  ·refine s G a w (look b.h) H.wr H.sz (fun p y=>H.sr _ _ (c p y)) u _ _ (fun v N z q1 A B=>?_);exact⟨z,b,v,d,⟨A,H.sz,fun t e X=>(H.sr t e X).mono q1,H.defers.mono q1⟩,rfl,B,x⟩
def er(a:St)(r:Rec):St:=⟨bX a.s r.dst (r.g,r.v),ea a.h r.up,a.d⟩
def run(p:Nat->Bool):List Rec->Nat->St->St
 | [],_,a=>a
 | r::R,k,a=>run p R (k+1) (if p k then er a r else a)
theorem ly:∀ (R:List Rec) (p:Nat->Bool) (k:Nat) (a:St),(run p R k a).d=a.d
 | [],_,_,_=>rfl
 | r::R,p,k,a=>by rw [run,ly R p];split <;> rfl
def hE(r:Rec):List Nat:=r.up.map (·.1)
theorem pZ{a:St}{r:Rec}{t:Nat}:bn (er a r).s t=if r.dst=some t then some (r.g,r.v) else bn a.s t:=by
 unfold er bX;cases b:r.dst with
 | none=>simp
 | some d =>
  simp only [bn];by_cases h:t=d
  ·subst h;simp
  ·rw [ab h,ab (by simp;exact fun e=>h e.symm)]
theorem vE{h:Hp}:∀ {b:List (Nat×HO)}{n:Nat},n ∉ b.map (·.1)->Hp.ar h b n=h n
 | [],n,_=>rfl
 | (m,o)::r,n,a=>by simp at a;simp only [Hp.ar];rw [ab a.1];exact vE (by simpa using a.2)
theorem BK{h c:Hp}:∀ {a:List (Nat×HO)}{n:Nat},n∈a.map (·.1)->Hp.ar h a n=Hp.ar c a n
 | [],n,b=>by simp at b
 | (m,o)::r,n,b=>by
  simp only [Hp.ar];by_cases e:n=m
  ·rw [aj e,aj e]
  ·rw [ab e,ab e];exact BK (by simpa [e] using b)
theorem rI{a:St}{r:Rec}{n:Nat}:look (er a r).h n=Hp.ar (look a.h) r.up n:=by unfold er;simp only [BG]
theorem nd{t:Nat}{p q:Nat->Bool}:∀ (R:List Rec) (k:Nat) (a b:St),bn a.s t=bn b.s t->(∀ j r,R[j]?=some r->r.dst=some t->p (k+j)=q (k+j))->bn (run p R k a).s t=bn (run q R k b).s t
 | [],k,a,b,h,_=>h
 | r::R,k,a,b,h,d=>by
  refine nd R (k+1) _ _ ?_ (fun j e f c=>by have:=d (j+1) e (by simpa using f) c;rw [show k+1+j=k+(j+1) by omega];exact this);by_cases c:r.dst=some t
  ·have:=d 0 r rfl c;rw [kl] at this;rw [this];split
   ·rw [pZ,pZ,aj c,aj c]
   ·exact h
  ·have g:bn (if p k=true then er a r else a).s t=bn a.s t:=by split;(· rw [pZ,ab c]);rfl
   have i:bn (if q k=true then er b r else b).s t=bn b.s t:=by split;(· rw [pZ,ab c]);rfl
   rw [g,i,h]
theorem p_{n:Nat}{p q:Nat->Bool}:∀ (R:List Rec) (k:Nat) (a b:St),look a.h n=look b.h n->(∀ j r,R[j]?=some r->n∈hE r->p (k+j)=q (k+j))->look (run p R k a).h n=look (run q R k b).h n
 | [],k,a,b,h,_=>h
 | r::R,k,a,b,h,d=>by
  refine p_ R (k+1) _ _ ?_ (fun j e f c=>by have:=d (j+1) e (by simpa using f) c;rw [show k+1+j=k+(j+1) by omega];exact this);by_cases c:n∈hE r
  ·have:=d 0 r rfl c;rw [kl] at this;rw [this];split
   ·rw [rI,rI];exact BK c
   ·exact h
  ·have g:look (if p k=true then er a r else a).h n=look a.h n:=by split;(· rw [rI,vE c]);rfl
   have i:look (if q k=true then er b r else b).h n=look b.h n:=by split;(· rw [rI,vE c]);rfl
   rw [g,i,h]
theorem IP{d:Nat}{p:Nat->Bool}{i:Nat}:∀ (R:List Rec) (k:Nat) (a:St) (r:Rec),R[i]?=some r->r.dst=some d->(∀ j b,R[j]?=some b->i<j->b.dst=some d->p (k+j)=false)->p (k+i)=true->bn (run p R k a).s d=some (r.g,r.v):=by
 induction i with
 | zero =>
  intro R k a r c f g e;cases R with
  | nil=>simp at c
  | cons n R =>
   simp at c;subst c;simp only [run];rw [kl] at e;rw [aj e];rw [nd (t:=d) (q:=fun _=>false) R (k+1) _ (er a n) rfl (fun j b h l=>by rw [show k+1+j=k+(j+1) by omega];exact g (j+1) b (by simpa using h) (by omega) l)];have o:∀ (R:List Rec) (k:Nat) (a:St),run (fun _=>false) R k a=a:=fun R=>by
    induction R with
    | nil=>intro k a;rfl
    | cons r R m=>intro k a;simp only [run];exact m _ _
   rw [o,pZ,aj f]
 | succ i m =>
  intro R k a r c f g e;cases R with
  | nil=>simp at c
  | cons n R =>simp only [run];exact m R (k+1) _ r (by simpa using c) f (fun j b h s l=>by rw [show k+1+j=k+(j+1) by omega];exact g (j+1) b (by simpa using h) (by omega) l) (by rw [show k+1+i=k+(i+1) by omega];exact e)
theorem rJ:∀ (R:List Rec) (k:Nat) (a:St),run (fun _=>false) R k a=a
 | [],_,_=>rfl
 | r::R,k,a=>by simp only [run];exact rJ R _ _
theorem IQ{c:Nat}{p:Nat->Bool}{i:Nat}(o:Hp):∀ (R:List Rec) (k:Nat) (d:St) (r:Rec),R[i]?=some r->c∈hE r->(∀ j a,R[j]?=some a->i<j->c∈hE a->p (k+j)=false)->p (k+i)=true->look (run p R k d).h c=Hp.ar o r.up c:=by
 induction i with
 | zero =>
  intro R k d r b f g e;cases R with
  | nil=>simp at b
  | cons m R =>simp at b;subst b;simp only [run];rw [kl] at e;rw [aj e];rw [p_ (n:=c) (q:=fun _=>false) R (k+1) _ (er d m) rfl (fun j a h l=>by rw [show k+1+j=k+(j+1) by omega];exact g (j+1) a (by simpa using h) (by omega) l)];rw [rJ,rI];exact BK f
 | succ i s =>
  intro R k d r b f g e;cases R with
  | nil=>simp at b
  | cons m R =>simp only [run];exact s R (k+1) _ r (by simpa using b) f (fun j a h t l=>by rw [show k+1+j=k+(j+1) by omega];exact g (j+1) a (by simpa using h) (by omega) l) (by rw [show k+1+i=k+(i+1) by omega];exact e)
def fb(x y:Rec):Bool :=
 (match x.dst with | some d=>(y.rs.any fun p=>p.1 == d)||y.dst == some d | none=>false) ||
 (match y.dst with | some d=>(x.rs.any fun p=>p.1 == d) | none=>false) ||
 (hE x).any (fun n=>(hE y).contains n||(y.ao.map (·.1)).contains n) ||
 (hE y).any (fun n=>(x.ao.map (·.1)).contains n)
def gM(R:List Rec)(a:List (List Nat)):Bool :=
 (List.range R.length).all fun j=>(List.range j).all fun i =>
  match R[i]?,R[j]? with
  | some x,some y=>!fb x y||(a.getD j []).contains i
  | _,_=>true
theorem ya{R:List Rec}{c:List (List Nat)}(h:gM R c=true){i j:Nat}{x y:Rec}(e:i<j)(f:R[i]?=some x)(a:R[j]?=some y)(g:fb x y=true):i∈c.getD j []:=by
 unfold gM at h;have k:j<R.length:=by
  rcases bB j R.length with b | b
  ·exact b
  ·rw [cb b] at a;cases a
 have d:=bQ.1 (bQ.1 h j (di.2 k)) i (di.2 e);simp only [f,a,g,Hl,Bool.false_or] at d;simpa using d
theorem IS{x y:Rec}{t:Nat}{e:Bool×AV}(a:x.dst=some t)(b:(t,e)∈y.rs):fb x y=true:=by unfold fb;simp only [a];have:(y.rs.any fun p=>p.1 == t)=true:=jE.2 ⟨(t,e),b,by simp⟩;simp [this]
theorem IT{x y:Rec}{t:Nat}(a:x.dst=some t)(b:y.dst=some t):fb x y=true:=by unfold fb;simp [a,b]
theorem IU{x y:Rec}{n:Nat}{o:HO}(a:n∈hE x)(b:(n,o)∈y.ao):fb x y=true:=by
 unfold fb;have:(hE x).any (fun n=>(hE y).contains n||(y.ao.map (·.1)).contains n)=true:=jE.2 ⟨n,a,by have:n∈y.ao.map (·.1):=aS.2 ⟨(n,o),b,rfl⟩;simp [this]⟩
 simp only [this,Bool.or_true,Bool.true_or]
theorem yb{x y:Rec}{n:Nat}(a:n∈hE x)(b:n∈hE y):fb x y=true:=by unfold fb;have:(hE x).any (fun n=>(hE y).contains n||(y.ao.map (·.1)).contains n)=true:=jE.2 ⟨n,a,by simp [b]⟩;simp only [this,Bool.or_true,Bool.true_or]
inductive Reach (ops:Array Oper):Nat->Nat->Prop
 | BL {j i:Nat}{o:Oper}{e:Edge}(ho:ops[j]?=some o) (he:e∈o.after) (hb:Region.binds .any e=true) (hi:e.on=i):Reach ops j i
 | trans {j k i:Nat}(h:Reach ops j k) (h':Reach ops k i):Reach ops j i
def iQ(b:Array Oper)(a:Array Bool):Prop:=∀ j,a.getD j false=true->∀ o e,b[j]?=some o->e∈o.after->Region.binds .any e=true->a.getD e.on false=true
theorem yc{c:Array Oper}{a:Array Bool}(d:iQ c a){j i:Nat}(h:Reach c j i):a.getD j false=true->a.getD i false=true:=by
 induction h with
 | BL e f g k=>intro b;subst k;exact d _ b _ _ e f g
 | trans _ _ l m=>exact fun b=>m (l b)
theorem tz{b:Array Oper}{c:Array Bool}(d:iQ b c){i:Nat}(f:i∈Region.ready .any b c){j k:Nat}(h:Reach b j k):j=i->c.getD k false=true:=by
 induction h with
 | BL g l m n =>
  rintro rfl;obtain⟨_,r,a,o⟩:=mQ.1 f;rw [g] at a;injection a with a;subst a;subst n
  exact o _ l m
 | trans s p q _=>exact fun e=>yc d p (q e)
theorem bO.congr{E:Env}{G:Gh}{b c:St}{a:Act}{w:World}{nt:Nat}(H:bO E G b a w nt)(d:∀ t,bn c.s t=bn b.s t)(f:∀ n,look c.h n=look b.h n)(g:c.d=b.d):bO E G c a w nt :=
 ⟨by rw [show look c.h=look b.h from funext f];exact H.wr,H.sz,fun t e h=>H.sr t e (by rw [<- d];exact h),g ▸ H.defers⟩
theorem SH{E:Env}{P:Program}{ro:Option Nat}{m:Array Oper}{nt:Nat}{Q:AE->St->Prop}{R:List Rec}{σ0:St}{bf:List (List Nat)}(a0:R.length=m.size)(b4:∀ f r,R[f]?=some r->gk E P ro m nt f r/\iA (run (fun j=>decide (j<f)) R 0 σ0) r/\∀ d,r.dst=some d->d<nt)(a1:∀ j f,f∈bf.getD j []->Reach m j f)(a2:gM R bf=true)(b0:∀ j o,m[j]?=some o->∀ e∈o.after,Region.binds .any e=true->e.on<j)(b5:∀ G a w,bO E G (run (fun _=>true) R 0 σ0) a w nt->gL E nt Q .normal a w) :
  ∀ (L:Nat) (c:Array Bool) (G:Gh) (a:Act) (w:World),c.size=m.size->((List.range m.size).filter fun j=>!c.getD j false).length<=L->iQ m c ->bO E G (run (fun j=>c.getD j false) R 0 σ0) a w nt->wpAnyIn (Fr ro) 0 P .any m (gL E nt Q) L c a w:=by
 have b1:∀ (c:Array Bool) (G:Gh) (a:Act) (w:World),c.size=m.size->bO E G (run (fun j=>c.getD j false) R 0 σ0) a w nt->Region.ready .any m c=[]->gL E nt Q .normal a w:=by
  intro c G a w J H s;have b2:∀ n j,j<=n->j<m.size->c.getD j false=true:=by
   intro n
   induction n with
   | zero =>
    intro j g u;have:j=0:=by omega
    subst this;cases z:c.getD 0 false with
    | true=>rfl
    | false =>
     exfalso;have:(0:Nat)∈Region.ready .any m c:=mQ.2 ⟨by simp only [du] at z |-;rw [bb (by omega)] at z |-;simpa using z,m[0],bb u,fun e B K=>by have:=b0 0 _ (bb u) e B K;omega⟩
     rw [s] at this;simp at this
   | succ n S =>
    intro j g u;rcases bB j (n+1) with A | A
    ·exact S j (by omega) u
    ·cases z:c.getD j false with
     | true=>rfl
     | false =>
      exfalso;have:j∈Region.ready .any m c:=mQ.2 ⟨by simp only [du] at z |-;rw [bb (by omega)] at z |-;simpa using z,m[j],bb u,fun e B K=>by have:=b0 j _ (bb u) e B K;exact S e.on (by omega) (by omega)⟩
      rw [s] at this;simp at this
  refine b5 G a w (H.congr (fun t=>?_) (fun n=>?_) (by rw [ly,ly]))
  ·exact nd R 0 σ0 σ0 rfl (fun j r g _=>by
    have u:j<m.size:=by
     rw [<- a0];rcases bB j R.length with A | A
     ·exact A
     ·rw [cb A] at g;cases g
    rw [bC];exact(b2 j j (bj _) u).symm)
  ·exact p_ R 0 σ0 σ0 rfl (fun j r g _=>by
    have u:j<m.size:=by
     rw [<- a0];rcases bB j R.length with A | A
     ·exact A
     ·rw [cb A] at g;cases g
    rw [bC];exact(b2 j j (bj _) u).symm)
 intro L
 induction L with
 | zero =>
  intro c G a w J b6 T H;have s:Region.ready .any m c=[]:=by
   cases M:Region.ready .any m c with
   | nil=>rfl
   | cons f l =>
    exfalso;have U:f∈Region.ready .any m c:=by rw [M];simp
    obtain⟨F,o,V,_⟩:=mQ.1 U;have u:f<m.size:=(lT.1 V).1;have:f∈(List.range m.size).filter fun j=>!c.getD j false:=by refine km.2 ⟨di.2 u,?_⟩;simp only [du] at F |-;rw [bb (by omega)] at F |-;simpa using F
    have:=PI this;omega
  exact⟨s,b1 c G a w J H s⟩
 | succ L S =>
  intro c G a w J b6 T H;refine⟨fun s=>b1 c G a w J H s,fun f U=>?_⟩;obtain⟨F,o,V,h3⟩:=mQ.1 U;have u:f<m.size:=(lT.1 V).1;have N:c.getD f false=false:=by simp only [du] at F |-;rw [bb (by omega)] at F |-;simpa using F
  obtain⟨r,s⟩:∃ r,R[f]?=some r:=⟨R[f]'(by omega),aI (by omega)⟩;obtain⟨k1,k2,k3⟩:=b4 f r s;have W:∀ j q,R[j]?=some q->fb q r=true\/fb r q=true->j≠f->c.getD j false=decide (j<f):=by
   intro j q g b x;rcases bB j f with X | X
   ·have Y:fb q r=true:=by
     rcases b with b | b
     ·exact b
     ·
      unfold fb at b |-;simp only [gy,jE] at b |-;rcases b with ((b | b) | b) | b
      ·cases k:r.dst with
       | none=>simp [k] at b
       | some d =>
        simp only [k,gy] at b;rcases b with b | b
        ·exact .inl (.inl (.inr (by simpa [k] using b)))
        ·have:q.dst=some d:=by simpa using b
         exact .inl (.inl (.inl (by simp [this,k])))
      ·cases k:q.dst with
       | none=>simp [k] at b
       | some d =>simp only [k] at b;exact .inl (.inl (.inl (by simp only [k,gy];exact .inl b)))
      ·obtain⟨n,v,b⟩:=b;rcases b with b | b
       ·exact .inl (.inr ⟨n,by simpa using b,.inl (by simpa using v)⟩)
       ·exact .inr ⟨n,v,b⟩
      ·obtain⟨n,v,b⟩:=b;exact .inl (.inr ⟨n,v,.inr b⟩)
    have M:=a1 f j (ya a2 X g s Y);rw [tz T U M rfl];simp [X]
   ·have Z:f<j:=by omega
    have Y:fb r q=true:=by
     rcases b with b | b
     ·unfold fb at b |-;simp only [gy,jE] at b |-;rcases b with ((b | b) | b) | b
      ·cases k:q.dst with
       | none=>simp [k] at b
       | some d =>
        simp only [k,gy] at b;rcases b with b | b
        ·exact .inl (.inl (.inr (by simpa [k] using b)))
        ·have:r.dst=some d:=by simpa using b
         exact .inl (.inl (.inl (by simp [this,k])))
      ·cases k:r.dst with
       | none=>simp [k] at b
       | some d =>simp only [k] at b;exact .inl (.inl (.inl (by simp only [k,gy];exact .inl b)))
      ·obtain⟨n,v,b⟩:=b;rcases b with b | b
       ·exact .inl (.inr ⟨n,by simpa using b,.inl (by simpa using v)⟩)
       ·exact .inr ⟨n,v,b⟩
      ·obtain⟨n,v,b⟩:=b;exact .inl (.inr ⟨n,v,.inr b⟩)
     ·exact b
    have M:=a1 j f (ya a2 Z s g Y);have:c.getD j false=false:=by
     cases z:c.getD j false with
     | false=>rfl
     | true=>rw [yc T M z] at N;cases N
    rw [this];simp;omega
  have b7:∀ t,(∃ e,(t,e)∈r.rs)->bn (run (fun j=>c.getD j false) R 0 σ0).s t=bn (run (fun j=>decide (j<f)) R 0 σ0).s t:=fun t ⟨e,B⟩ =>
   nd R 0 σ0 σ0 rfl (fun j q g k=>by
    rw [bC];by_cases x:j=f
    ·subst x;rw [N];simp
    ·exact W j q g (.inl (IS k B)) x)
  have b3:∀ n,(n∈hE r\/∃ o,(n,o)∈r.ao)->look (run (fun j=>c.getD j false) R 0 σ0).h n=look (run (fun j=>decide (j<f)) R 0 σ0).h n:=fun n v =>
   p_ R 0 σ0 σ0 rfl (fun j q g k=>by
    rw [bC];by_cases x:j=f
    ·subst x;rw [N];simp
    ·refine W j q g ?_ x;rcases v with v | ⟨o,ho⟩
     ·exact .inl (yb k v)
     ·exact .inl (IU k ho))
  refine k1 G a w (look (run (fun j=>c.getD j false) R 0 σ0).h) H.wr H.sz (fun y C=>H.sr _ _ (by rw [b7 y.1 ⟨y.2,C⟩];exact k2.rs y C)) (fun y C=>by rw [b3 y.1 (.inr ⟨y.2,C⟩)];exact k2.ao y C)
   (fun y C=>by
    rcases k2.up y C with h | h
    ·exact .inl (by rw [b3 y.1 (.inl (aS.2 ⟨y,C,rfl⟩))];exact h)
    ·exact .inr h) _ _ (fun c2 w' G' q1 q2 q3 q4=>?_)
  have b8:=H.put q1 q2 k3 q3 q4;have D:∀ j,(c.setIfInBounds f true).getD j false=(c.getD j false||decide (j=f)):=fun j=>by
   by_cases e:f=j
   ·subst e;simp [J,u]
   ·rw [du,du,pF e];have:¬ j=f:=fun h=>e h.symm
    simp [this]
  refine S (c.setIfInBounds f true) G' _ w' (by simpa using J) ?_ ?_ (b8.congr (fun t=>?_) (fun n=>?_) (by simp only [ly]))
  ·
   have b9:f∈(List.range m.size).filter fun j=>!c.getD j false:=km.2 ⟨di.2 u,by rw [N];rfl⟩
   have c0:((List.range m.size).filter fun j=>!(c.setIfInBounds f true).getD j false)=((List.range m.size).filter fun j=>!c.getD j false).filter fun j=>!decide (j=f):=by rw [List.filter_filter];congr 1;funext j;rw [D j];cases c.getD j false <;> simp
   rw [c0];have z:(((List.range m.size).filter fun j=>!c.getD j false).filter fun j=>!decide (j=f)).length<((List.range m.size).filter fun j=>!c.getD j false).length:=by refine ahS.2 ⟨f,b9,by simp⟩
   omega
  ·intro j g c1 e O B K;rw [D] at g |-;simp only [gy,bD] at g |-;rcases g with g | g
   ·exact .inl (T j g c1 e O B K)
   ·subst g;rw [V] at O;injection O with O;subst O
    exact .inl (h3 e B K)
  ·have e0:bn (bX (run (fun j=>c.getD j false) R 0 σ0).s r.dst (r.g,r.v)) t=bn (er (run (fun j=>c.getD j false) R 0 σ0) r).s t:=rfl;rw [e0,pZ];split
   ·rename_i k;refine IP (p:=fun j=>(c.setIfInBounds f true).getD j false) (i:=f) R 0 σ0 r s k (fun j q g Z I=>?_) (by rw [bC,D];simp);rw [bC,D];have:=W j q g (.inr (IT k I)) (by omega);rw [this];simp;omega
   ·rename_i k;exact nd R 0 σ0 σ0 rfl (fun j q g I=>by
     rw [bC,D];by_cases x:j=f
     ·subst x;rw [s] at g;injection g with g;subst g;exact absurd I k
     ·simp [x])
  ·have e0:look (ea (run (fun j=>c.getD j false) R 0 σ0).h r.up) n=look (er (run (fun j=>c.getD j false) R 0 σ0) r).h n:=rfl;rw [e0,rI];by_cases k:n∈hE r
   ·refine IQ (p:=fun j=>(c.setIfInBounds f true).getD j false) (i:=f) _ R 0 σ0 r s k (fun j q g Z I=>?_) (by rw [bC,D];simp);rw [bC,D];have:=W j q g (.inr (yb k I)) (by omega);rw [this];simp;omega
   ·rw [vE k];exact p_ R 0 σ0 σ0 rfl (fun j q g I=>by
     rw [bC,D];by_cases x:j=f
     ·subst x;rw [s] at g;injection g with g;subst g;exact absurd I k
     ·simp [x])
theorem BM{P:Program}{C:Option Nat}{b:Array Oper}{Q:Exit->Act->World->Prop}{k:Nat}(H:∀ j,k<j->j<b.size->∀ i,i<j->Reach b j i)(D:∀ j o,b[j]?=some o->∀ e∈o.after,Region.binds .any e=true->e.on<j) :
  ∀ (q m:Nat) (c:Array Bool) (a:Act) (w:World),k<=m->m<=b.size->b.size-m<=q->c.size=b.size->(∀ j,c.getD j false=decide (j<m))->iQ b c ->wpOpsIn (Fr C) 0 P b Q (List.range' m (b.size-m)) a w->wpAnyIn (Fr C) 0 P .any b Q q c a w:=by
 have y:∀ (m:Nat) (c:Array Bool),k<=m->m<=b.size->c.size=b.size->(∀ j,c.getD j false=decide (j<m))->iQ b c->∀ i∈Region.ready .any b c,i=m:=fun m c r s g d p i f=>by
  obtain⟨t,o,u,E⟩:=mQ.1 f;have n:i<b.size:=(lT.1 u).1;have F:c.getD i false=false:=by simp only [du] at t |-;rw [bb (by omega)] at t |-;simpa using t
  rw [d] at F;have I:m<=i:=by simpa using F
  rcases bB m i with v | v
  ·have:=tz p f (H i (by omega) n m v) rfl;rw [d] at this;simp at this
  ·omega
 intro q
 induction q with
 | zero =>
  intro m c a w r s J g d p h;have z:m=b.size:=by omega
  subst z;refine⟨?_,by simpa [wpOpsIn] using h⟩;cases K:Region.ready .any b c with
  | nil=>rfl
  | cons i l =>
   exfalso;have f:i∈Region.ready .any b c:=by rw [K];simp
   have:=y _ c r s g d p i f;obtain⟨t,o,u,E⟩:=mQ.1 f;have n:i<b.size:=(lT.1 u).1;omega
 | succ q L =>
  intro m c a w r s J g d p h;rcases bB m b.size with n | I
  ·refine⟨fun M=>?_,fun i f=>?_⟩
   ·exfalso;have:m∈Region.ready .any b c:=mQ.2 ⟨by have:=d m;simp only [du] at this |-;rw [bb (by omega)] at this |-;simpa using this,b[m],bb n,fun e A B=>by have:=D m _ (bb n) e A B;rw [d];simpa using this⟩
    rw [M] at this;simp at this
   ·have N:=y m c r s g d p i f;subst N;rw [show b.size-i=(b.size-(i+1))+1 by omega,ve,wpOpsIn_cons] at h;refine wpOpIn_mono (fun O R v=>?_) h;refine L (i+1) _ O R (by omega) (by omega) (by omega) (by simpa using g) (fun j=>?_) (fun j G S e T A B=>?_) v
    ·by_cases e:i=j
     ·subst e;simp [g,n]
     ·rw [du,pF e,<- du,d];simp;omega
    ·have U:=D j S T e A B;have V:j<i+1:=by
      by_cases x:i=j
      ·omega
      ·rw [du,pF x,<- du,d] at G;simp at G;omega
     by_cases x:i=e.on
     ·rw [<- x];simp [g,n]
     ·rw [du,pF x,<- du,d];simp;omega
  ·have z:m=b.size:=by omega
   subst z;refine⟨fun _=>by simpa [wpOpsIn] using h,fun i f=>?_⟩;exfalso;have:=y _ c r s g d p i f;obtain⟨t,o,u,E⟩:=mQ.1 f;have n:i<b.size:=(lT.1 u).1;omega
theorem BN:∀ (n k:Nat),n<=(List.range n).countP (fun j=>decide (k<=j))+k
 | 0,k=>by simp
 | n+1,k=>by
  rw [vg,PJ];have:=BN n k;by_cases h:k<=n
  ·simp [h];omega
  ·have:(List.range n).countP (fun j=>decide (k<=j))=0:=by rw [List.countP_eq_zero];intro j a;simp at a;simp;omega
   simp [h,this];omega
theorem SI{E:Env}{P:Program}{q:Option Nat}{b:Array Oper}{nt:Nat}{Q:Exit->Act->World->Prop}{R:List Rec}{g:St}{k:Nat}(s:R.length=k)(u:k<=b.size)(v:∀ j o,b[j]?=some o->∀ e∈o.after,Region.binds .any e=true->e.on<j)(x:∀ j,k<=j->j<b.size->∀ i,i<j->Reach b j i)(y:∀ G a w,bO E G (run (fun _=>true) R 0 g) a w nt->wpOpsIn (Fr q) 0 P b Q (List.range' k (b.size-k)) a w)(m:Nat)(c:Array Bool)(G:Gh)(a:Act)(w:World)(z:c.size=b.size)(F:((List.range b.size).filter fun j=>!c.getD j false).length<=m)(A:iQ b c)(B:∀ j,k<=j->c.getD j false=false)(C:¬ ∃ j,j<k/\c.getD j false=false)(H:bO E G (run (fun j=>c.getD j false) R 0 g) a w nt):wpAnyIn (Fr q) 0 P .any b Q m c a w:=by
 have l:∀ j,c.getD j false=decide (j<k):=fun j=>by
  rcases bB j k with h | h
  ·cases D:c.getD j false with
   | true=>simp [h]
   | false=>exact absurd ⟨j,h,D⟩ C
  ·rw [B j h];simp;omega
 have I:b.size-k<=((List.range b.size).filter fun j=>!c.getD j false).length:=by
  have e:((List.range b.size).filter fun j=>!c.getD j false)=(List.range b.size).filter fun j=>decide (k<=j):=by congr 1;funext j;rw [l];by_cases h:j<k <;> simp [h] <;> omega
  rw [e,<- ahT];have:=BN b.size k;omega
 refine BM (fun j d=>x j (s_ d)) v m k c a w (bj _) u (by omega) z l A (y G a w (H.congr (fun t=>?_) (fun n=>?_) (by rw [ly,ly])))
 ·exact nd R 0 g g rfl (fun j r d _=>by
   have p:j<k:=by
    rw [<- s];rcases bB j R.length with f | f
    ·exact f
    ·rw [cb f] at d;cases d
   rw [bC,l];simp [p])
 ·exact p_ R 0 g g rfl (fun j r d _=>by
   have p:j<k:=by
    rw [<- s];rcases bB j R.length with f | f
    ·exact f
    ·rw [cb f] at d;cases d
   rw [bC,l];simp [p])
theorem BO{E:Env}{P:Program}{T:Option Nat}{g:Array Oper}{nt:Nat}{Q:Exit->Act->World->Prop}{R:List Rec}{s:St}{bf:List (List Nat)}{k:Nat}(e2:R.length=k)(e3:k<=g.size){p:Nat}{J:Array Bool->Prop}(d2:∀ (b:Array Bool) (f:Nat),f≠p->J b->J (b.setIfInBounds f true))(d3:∀ f r,R[f]?=some r->(f≠p->gk E P T g nt f r)/\iA (run (fun j=>decide (j<f)) R 0 s) r/\∀ d,r.dst=some d->d<nt)(d4:∀ (r:Rec) (x:Nat) (b:Array Bool) (G:Gh) (a:Act) (w:World),R[p]?=some r->J b->b.size=g.size->b.getD p false=false->((List.range g.size).filter fun j=>!(b.setIfInBounds p true).getD j false).length<=x->iQ g (b.setIfInBounds p true)->(∀ j,k<=j->(b.setIfInBounds p true).getD j false=false) ->bO E G (run (fun j=>b.getD j false) R 0 s) a w nt->(∀ q∈r.rs,bn (run (fun j=>b.getD j false) R 0 s).s q.1=some q.2)->(∀ j u,R[j]?=some u->fb u r=true\/fb r u=true->j≠p->b.getD j false=decide (j<p)) ->wpOpIn (Fr T) 0 P g Q p (fun a' Y=>wpAnyIn (Fr T) 0 P .any g Q x (b.setIfInBounds p true) a' Y) a w)(b2:∀ j f,f∈bf.getD j []->Reach g j f)(b3:gM R bf=true)(b4:∀ j o,g[j]?=some o->∀ e∈o.after,Region.binds .any e=true->e.on<j)(b5:∀ (b:Array Bool) (f:Nat),J b->iQ g b->f∈Region.ready .any g b->k<=f->f<g.size->(∃ j,j<k/\b.getD j false=false)->False)(b6:∀ (x:Nat) (b:Array Bool) (G:Gh) (a:Act) (w:World),J b->b.size=g.size->((List.range g.size).filter fun j=>!b.getD j false).length<=x->iQ g b->(∀ j,k<=j->b.getD j false=false)->(¬ ∃ j,j<k/\b.getD j false=false) ->bO E G (run (fun j=>b.getD j false) R 0 s) a w nt->wpAnyIn (Fr T) 0 P .any g Q x b a w) :
  ∀ (x:Nat) (b:Array Bool) (G:Gh) (a:Act) (w:World),J b->b.size=g.size->((List.range g.size).filter fun j=>!b.getD j false).length<=x->iQ g b->(∀ j,k<=j->b.getD j false=false) ->bO E G (run (fun j=>b.getD j false) R 0 s) a w nt->wpAnyIn (Fr T) 0 P .any g Q x b a w:=by
 intro x
 induction x with
 | zero =>
  intro b G a w L M Z I X H;by_cases N:∃ j,j<k/\b.getD j false=false
  ·exfalso;obtain⟨j,l,v⟩:=N;have:j∈(List.range g.size).filter fun j=>!b.getD j false:=km.2 ⟨di.2 (by omega),by rw [v];rfl⟩
   have:=PI this;omega
  ·exact b6 0 b G a w L M Z I X N H
 | succ x d5 =>
  intro b G a w L M Z I X H;by_cases N:∃ j,j<k/\b.getD j false=false
  case neg=>exact b6 _ b G a w L M Z I X N H
  refine⟨fun z=>?_,fun f hi=>?_⟩
  ·exfalso;obtain⟨j0,e4,b7⟩:=N;have d6:∀ n j,j<=n->j<g.size->b.getD j false=true:=by
    intro n
    induction n with
    | zero =>
     intro j l A;have:j=0:=by omega
     subst this;cases B:b.getD 0 false with
     | true=>rfl
     | false =>
      exfalso;have:(0:Nat)∈Region.ready .any g b:=mQ.2 ⟨by simp only [du] at B |-;rw [bb (by omega)] at B |-;simpa using B,g[0],bb A,fun e D O=>by have:=b4 0 _ (bb A) e D O;omega⟩
      rw [z] at this;simp at this
    | succ n b8 =>
     intro j l A;rcases bB j (n+1) with U | U
     ·exact b8 j (by omega) A
     ·cases B:b.getD j false with
      | true=>rfl
      | false =>
       exfalso;have:j∈Region.ready .any g b:=mQ.2 ⟨by simp only [du] at B |-;rw [bb (by omega)] at B |-;simpa using B,g[j],bb A,fun e D O=>by have:=b4 j _ (bb A) e D O;exact b8 e.on (by omega) (by omega)⟩
       rw [z] at this;simp at this
   rw [d6 j0 j0 (bj _) (by omega)] at b7;cases b7
  obtain⟨h1,o,h2,h3⟩:=mQ.1 hi;have A:f<g.size:=(lT.1 h2).1;have S:b.getD f false=false:=by simp only [du] at h1 |-;rw [bb (by omega)] at h1 |-;simpa using h1
  have b5:f<k:=by
   rcases bB f k with U | U
   ·exact U
   ·exact(b5 b f L I hi U A N).elim
  obtain⟨r,z⟩:∃ r,R[f]?=some r:=⟨R[f]'(by omega),aI (by omega)⟩;obtain⟨k1,k2,k3⟩:=d3 f r z;have V:∀ j u,R[j]?=some u->fb u r=true\/fb r u=true->j≠f->b.getD j false=decide (j<f):=by
   intro j u l c y;rcases bB j f with a0 | a0
   ·have a1:fb u r=true:=by
     rcases c with c | c
     ·exact c
     ·
      unfold fb at c |-;simp only [gy,jE] at c |-;rcases c with ((c | c) | c) | c
      ·cases m:r.dst with
       | none=>simp [m] at c
       | some d =>
        simp only [m,gy] at c;rcases c with c | c
        ·exact .inl (.inl (.inr (by simpa [m] using c)))
        ·have:u.dst=some d:=by simpa using c
         exact .inl (.inl (.inl (by simp [this,m])))
      ·cases m:u.dst with
       | none=>simp [m] at c
       | some d =>simp only [m] at c;exact .inl (.inl (.inl (by simp only [m,gy];exact .inl c)))
      ·obtain⟨n,v,c⟩:=c;rcases c with c | c
       ·exact .inl (.inr ⟨n,by simpa using c,.inl (by simpa using v)⟩)
       ·exact .inr ⟨n,v,c⟩
      ·obtain⟨n,v,c⟩:=c;exact .inl (.inr ⟨n,v,.inr c⟩)
    have a2:=b2 f j (ya b3 a0 l z a1);rw [tz I hi a2 rfl];simp [a0]
   ·have b0:f<j:=by omega
    have a1:fb r u=true:=by
     rcases c with c | c
     ·unfold fb at c |-;simp only [gy,jE] at c |-;rcases c with ((c | c) | c) | c
      ·cases m:u.dst with
       | none=>simp [m] at c
       | some d =>
        simp only [m,gy] at c;rcases c with c | c
        ·exact .inl (.inl (.inr (by simpa [m] using c)))
        ·have:r.dst=some d:=by simpa using c
         exact .inl (.inl (.inl (by simp [this,m])))
      ·cases m:r.dst with
       | none=>simp [m] at c
       | some d =>simp only [m] at c;exact .inl (.inl (.inl (by simp only [m,gy];exact .inl c)))
      ·obtain⟨n,v,c⟩:=c;rcases c with c | c
       ·exact .inl (.inr ⟨n,by simpa using c,.inl (by simpa using v)⟩)
       ·exact .inr ⟨n,v,c⟩
      ·obtain⟨n,v,c⟩:=c;exact .inl (.inr ⟨n,v,.inr c⟩)
     ·exact c
    have a2:=b2 j f (ya b3 b0 z l a1);have:b.getD j false=false:=by
     cases B:b.getD j false with
     | false=>rfl
     | true=>rw [yc I a2 B] at S;cases S
    rw [this];simp;omega
  have b9:∀ t,(∃ e,(t,e)∈r.rs)->bn (run (fun j=>b.getD j false) R 0 s).s t=bn (run (fun j=>decide (j<f)) R 0 s).s t:=fun t ⟨e,D⟩ =>
   nd R 0 s s rfl (fun j u l m=>by
    rw [bC];by_cases y:j=f
    ·subst y;rw [S];simp
    ·exact V j u l (.inl (IS m D)) y)
  have c0:∀ n,(n∈hE r\/∃ o,(n,o)∈r.ao)->look (run (fun j=>b.getD j false) R 0 s).h n=look (run (fun j=>decide (j<f)) R 0 s).h n:=fun n v =>
   p_ R 0 s s rfl (fun j u l m=>by
    rw [bC];by_cases y:j=f
    ·subst y;rw [S];simp
    ·refine V j u l ?_ y;rcases v with v | ⟨o,ho⟩
     ·exact .inl (yb m v)
     ·exact .inl (IU m ho))
  have C:∀ j,(b.setIfInBounds f true).getD j false=(b.getD j false||decide (j=f)):=fun j=>by
   by_cases e:f=j
   ·subst e;simp [M,A]
   ·rw [du,du,pF e];have:¬ j=f:=fun h=>e h.symm
    simp [this]
  have c1:((List.range g.size).filter fun j=>!(b.setIfInBounds f true).getD j false).length<=x:=by
   have d7:f∈(List.range g.size).filter fun j=>!b.getD j false:=km.2 ⟨di.2 A,by rw [S];rfl⟩
   have d8:((List.range g.size).filter fun j=>!(b.setIfInBounds f true).getD j false)=((List.range g.size).filter fun j=>!b.getD j false).filter fun j=>!decide (j=f):=by rw [List.filter_filter];congr 1;funext j;rw [C j];cases b.getD j false <;> simp
   rw [d8];have B:(((List.range g.size).filter fun j=>!b.getD j false).filter fun j=>!decide (j=f)).length<((List.range g.size).filter fun j=>!b.getD j false).length:=by refine ahS.2 ⟨f,d7,by simp⟩
   omega
  have c2:iQ g (b.setIfInBounds f true):=by
   intro j l d9 e W D O;rw [C] at l |-;simp only [gy,bD] at l |-;rcases l with l | l
   ·exact .inl (I j l d9 e W D O)
   ·subst l;rw [h2] at W;injection W with W;subst W
    exact .inl (h3 e D O)
  have d0:∀ j,k<=j->(b.setIfInBounds f true).getD j false=false:=fun j l=>by rw [C,X j l];simp;omega
  by_cases b1:f=p
  ·subst b1;exact d4 r x b G a w z L M S c1 c2 d0 H (fun q d1=>by rw [b9 q.1 ⟨q.2,d1⟩];exact k2.rs q d1) V
  have k1:=k1 b1;refine k1 G a w (look (run (fun j=>b.getD j false) R 0 s).h) H.wr H.sz (fun p F=>H.sr _ _ (by rw [b9 p.1 ⟨p.2,F⟩];exact k2.rs p F)) (fun p F=>by rw [c0 p.1 (.inr ⟨p.2,F⟩)];exact k2.ao p F)
   (fun p F=>by
    rcases k2.up p F with h | h
    ·exact .inl (by rw [c0 p.1 (.inl (aS.2 ⟨p,F,rfl⟩))];exact h)
    ·exact .inr h) _ _ (fun e5 Y G' q1 q2 q3 q4=>?_)
  have e1:=H.put q1 q2 k3 q3 q4;refine d5 (b.setIfInBounds f true) G' _ Y (d2 _ _ b1 L) (by simpa using M) c1 c2 d0 (e1.congr (fun t=>?_) (fun n=>?_) (by simp only [ly]))
  ·have e0:bn (bX (run (fun j=>b.getD j false) R 0 s).s r.dst (r.g,r.v)) t=bn (er (run (fun j=>b.getD j false) R 0 s) r).s t:=rfl;rw [e0,pZ];split
   ·rename_i m;refine IP (p:=fun j=>(b.setIfInBounds f true).getD j false) (i:=f) R 0 s r z m (fun j u l b0 K=>?_) (by rw [bC,C];simp);rw [bC,C];have:=V j u l (.inr (IT m K)) (by omega);rw [this];simp;omega
   ·rename_i m;exact nd R 0 s s rfl (fun j u l K=>by
     rw [bC,C];by_cases y:j=f
     ·subst y;rw [z] at l;injection l with l;subst l;exact absurd K m
     ·simp [y])
  ·have e0:look (ea (run (fun j=>b.getD j false) R 0 s).h r.up) n=look (er (run (fun j=>b.getD j false) R 0 s) r).h n:=rfl;rw [e0,rI];by_cases m:n∈hE r
   ·refine IQ (p:=fun j=>(b.setIfInBounds f true).getD j false) (i:=f) _ R 0 s r z m (fun j u l b0 K=>?_) (by rw [bC,C];simp);rw [bC,C];have:=V j u l (.inr (yb m K)) (by omega);rw [this];simp;omega
   ·rw [vE m];exact p_ R 0 s s rfl (fun j u l K=>by
     rw [bC,C];by_cases y:j=f
     ·subst y;rw [z] at l;injection l with l;subst l;exact absurd K m
     ·simp [y])
theorem IV{E:Env}{P:Program}{g:Option Nat}{c:Array Oper}{nt:Nat}{Q:Exit->Act->World->Prop}{R:List Rec}{σ0:St}{m:List (List Nat)}{k:Nat}(n:R.length=k)(s:k<=c.size){p:Nat}{J:Array Bool->Prop}(y:∀ (b:Array Bool) (i:Nat),i≠p->J b->J (b.setIfInBounds i true))(z:∀ i r,R[i]?=some r->(i≠p->gk E P g c nt i r)/\iA (run (fun j=>decide (j<i)) R 0 σ0) r/\∀ d,r.dst=some d->d<nt)(A:∀ (r:Rec) (f:Nat) (b:Array Bool) (G:Gh) (a:Act) (w:World),R[p]?=some r->J b->b.size=c.size->b.getD p false=false->((List.range c.size).filter fun j=>!(b.setIfInBounds p true).getD j false).length<=f->iQ c (b.setIfInBounds p true)->(∀ j,k<=j->(b.setIfInBounds p true).getD j false=false) ->bO E G (run (fun j=>b.getD j false) R 0 σ0) a w nt->(∀ q∈r.rs,bn (run (fun j=>b.getD j false) R 0 σ0).s q.1=some q.2)->(∀ j h,R[j]?=some h->fb h r=true\/fb r h=true->j≠p->b.getD j false=decide (j<p)) ->wpOpIn (Fr g) 0 P c Q p (fun B C=>wpAnyIn (Fr g) 0 P .any c Q f (b.setIfInBounds p true) B C) a w)(D:∀ j i,i∈m.getD j []->Reach c j i)(F:gM R m=true)(t:∀ j o,c[j]?=some o->∀ e∈o.after,Region.binds .any e=true->e.on<j)(u:∀ j,k<=j->j<c.size->∀ i,i<j->Reach c j i)(I:(∃ b:Array Bool,J b/\∀ j,j<k->b.getD j false=true)->∀ G a w,bO E G (run (fun _=>true) R 0 σ0) a w nt->wpOpsIn (Fr g) 0 P c Q (List.range' k (c.size-k)) a w) :
  ∀ (f:Nat) (b:Array Bool) (G:Gh) (a:Act) (w:World),J b->b.size=c.size->((List.range c.size).filter fun j=>!b.getD j false).length<=f->iQ c b->(∀ j,k<=j->b.getD j false=false) ->bO E G (run (fun j=>b.getD j false) R 0 σ0) a w nt->wpAnyIn (Fr g) 0 P .any c Q f b a w :=
 BO n s y z A D F t (fun b i _ l K L M ⟨N,X,v⟩=>by rw [tz l K (u i L M N (by omega)) rfl] at v;cases v)
  (fun f b G a w O S T l U x H=>SI n s t u (I ⟨b,O,fun j V=>(by
    cases W:b.getD j false with
    | true=>rfl
    | false=>exact absurd ⟨j,V,W⟩ x)⟩) f b G a w S T l U x H)
theorem SJ{E:Env}{P:Program}{l:Option Nat}{b:Array Oper}{nt:Nat}{Q:Exit->Act->World->Prop}{R:List Rec}{σ0:St}{m:List (List Nat)}{k:Nat}(q:R.length=k)(s:k<=b.size)(n:∀ i r,R[i]?=some r->gk E P l b nt i r/\iA (run (fun j=>decide (j<i)) R 0 σ0) r/\∀ d,r.dst=some d->d<nt)(t:∀ j i,i∈m.getD j []->Reach b j i)(u:gM R m=true)(v:∀ j o,b[j]?=some o->∀ e∈o.after,Region.binds .any e=true->e.on<j)(x:∀ j,k<=j->j<b.size->∀ i,i<j->Reach b j i)(y:∀ G a w,bO E G (run (fun _=>true) R 0 σ0) a w nt->wpOpsIn (Fr l) 0 P b Q (List.range' k (b.size-k)) a w) :
  ∀ (f:Nat) (c:Array Bool) (G:Gh) (a:Act) (w:World),c.size=b.size->((List.range b.size).filter fun j=>!c.getD j false).length<=f->iQ b c->(∀ j,k<=j->c.getD j false=false) ->bO E G (run (fun j=>c.getD j false) R 0 σ0) a w nt->wpAnyIn (Fr l) 0 P .any b Q f c a w:=fun f c G a w=>by
 have h:=IV (J:=fun _=>True) (p:=b.size+k) q s (fun _ _ _ h=>h) (fun i r g=>⟨fun _=>(n i r g).1,(n i r g).2⟩) (fun r f c G a w g _ z A _ _ B _ _ _=>by exfalso;rw [cb (by omega)] at g;cases g) t u v x (fun _=>y) f c G a w trivial
 exact h
def aq(d:Nat->Nat)(N:Nat->Option Nat)(e:Nat->Bool):Nat->AV->AV->Prop
 | _,.d x,.d y=>aB x y
 | _,.own r j p,.own i q C=>r=d i/\j=q/\p=C/\e i=true/\N i=none
 | _,.d (.nil j),.own r q p=>j=q/\p=[]/\N r=some j
 | _,.own _ j p,.d y=>aB (.sl j p) y
 | _,.ptr n o,.ptr g t=>n=d g/\o=t/\e g=true
 | _,.mp n,.mp g=>n=d g/\e g=true
 | _,.spare r j n,.spare i q g=>r=d i/\j=q/\n=g/\e i=true/\N i=none
 | _,.e0 z,.e0 u=>z=u
 | _,.aE n o z l c,.aE g t u D v=>n=d g/\o=t/\z=u/\l=D/\c=v/\e g=true
 | k+1,.agg h,.agg s=>ba d N e k h s/\∀ c∈s,c.one=true
 | k+1,.agg h,.d (.agg m)=>ba d N e k h (m.map .d)/\∀ c∈m,c.one=true
 | k+1,.d (.agg m),.agg h=>ba d N e k (m.map .d) h/\∀ c∈h,c.one=true
 | k+1,.af h,.af s=>ba d N e k h s
 | k+1,.af h,.d (.af m)=>ba d N e k h (m.map .d)
 | k+1,.fn f a b,.fn w A B=>f=w/\ba d N e k a A/\ba d N e k b B
 | k+1,.fn f a b,.d (.fn w A B)=>f=w/\ba d N e k a (A.map .d)/\ba d N e k b (B.map .d)
 | _,_,_=>False
where ba (d:Nat->Nat) (N:Nat->Option Nat) (e:Nat->Bool) (k:Nat):List AV->List AV->Prop
 | [],[]=>True
 | c::r,v::i=>aq d N e k c v/\ba d N e k r i
 | _,_=>False
def eb(G:Gh)(a:Nat->Nat)(N:Nat->Option Nat)(b:Nat->Bool):Gh :=
 {I:=G.I,box:=fun n=>if b n then G.box (a n) else none,row:=fun n=>match N n with
   | some c=>some (none,0,0,c)
   | none=>if b n then G.row (a n) else none,
  rc:=fun n=>G.rc (a n)}
theorem aC.tA{G:Gh}{w:World}{r a:Nat}{b:List D}{v:Value}(h:aC G w (.own r a b) v):∃ A n c,v=.slice A n c/\G.row r=some (A,n,c,a)/\au G.I w (.sl a b) v:=by
 cases h with
 | own d h=>exact⟨_,_,_,rfl,d,h⟩
theorem aC.tB{G:Gh}{w:World}{n o:Nat}{v:Value}(h:aC G w (.ptr n o) v):∃ b,v=.pointer (some ⟨b,o,none⟩)/\G.box n=some b:=by
 cases h with
 | ptr a=>exact⟨_,rfl,a⟩
theorem aC.rK{G:Gh}{w:World}{a:List AV}{v:Value}(h:aC G w (.agg a) v):∃ b:Array Value,v=.agg b/\b.size=a.length/\∀ (k:Nat) (c:AV) (v:Value),a[k]?=some c->b[k]?=some v->aC G w c v:=by
 cases h with
 | agg d _ e=>exact⟨_,rfl,d,e⟩
theorem aC.tC{G:Gh}{w:World}{a:List AV}{v:Value}(h:aC G w (.af a) v):∃ b:Array Value,v=.tuple b/\b.size=a.length/\∀ (k:Nat) (c:AV) (v:Value),a[k]?=some c->b[k]?=some v->aC G w c v:=by
 cases h with
 | af d e=>exact⟨_,rfl,d,e⟩
theorem au.rK{I:Addr->Prop}{w:World}{a:List D}{v:Value}(h:au I w (.agg a) v):∃ b:Array Value,v=.agg b/\b.size=a.length/\(∀ c∈a,c.one=true)/\∀ (k:Nat) (c:D) (v:Value),a[k]?=some c->b[k]?=some v->au I w c v:=by
 cases h with
 | agg d e f=>exact⟨_,rfl,d,e,f⟩
theorem rL{G:Gh}{w:World}{J:Nat->Nat}{N:Nat->Option Nat}{K:Nat->Bool}:∀ (k:Nat) (v u:AV),aq J N K k v u->∀ {x:Value},aC G w v x->aC (eb G J N K) w u x:=by
 intro k
 induction k with
 | zero =>
  intro v u h x a;unfold aq at h;split at h
  ·exact .d (h _ _ _ a.cw)
  ·obtain⟨rfl,rfl,rfl,f,D⟩:=h;obtain⟨A,n,M,rfl,o,z⟩:=a.tA;exact .own (by simp [eb,f,D,o]) z
  ·obtain⟨rfl,rfl,f⟩:=h;have a:=a.cw;cases a;exact .own (by simp [eb,f]) (aB.nil _ _ _ _ .nil)
  ·obtain⟨A,n,M,rfl,o,z⟩:=a.tA;exact .d (h _ _ _ z)
  ·obtain⟨rfl,rfl,f⟩:=h;obtain⟨b,rfl,o⟩:=a.tB;exact .ptr (by simp [eb,f,o])
  ·obtain⟨rfl,f⟩:=h;cases a;rename_i b o;exact .mp (by simp [eb,f,o])
  ·obtain⟨rfl,rfl,rfl,f,D⟩:=h;cases a with
   | spare o z I=>exact .spare (by simp [eb,f,D,o]) z I
  ·subst h;cases a;exact .e0
  ·obtain⟨rfl,rfl,rfl,rfl,rfl,f⟩:=h;obtain⟨b,q,o,z,I,O,P,rfl⟩:=a.BD;exact .aE (by simp [eb,f,o]) z I O P
  all_goals (first | exact h.elim | (rename_i p;cases p))
 | succ k W =>
  have E:∀ (l m:List AV),aq.ba J N K k l m->l.length=m.length/\∀ (j:Nat) (d:AV) (y:Value),m[j]?=some d->∃ c,l[j]?=some c/\∀ {x:Value},aC G w c x->aC (eb G J N K) w d x:=by
   intro l
   induction l with
   | nil =>
    intro m h;cases m with
    | nil=>exact⟨rfl,fun j d y i=>by simp at i⟩
    | cons _ _=>simp [aq.ba] at h
   | cons c r X =>
    intro m h;cases m with
    | nil=>simp [aq.ba] at h
    | cons d m =>
     simp only [aq.ba] at h;obtain⟨B,C⟩:=X m h.2;refine⟨by simp [B],fun j e y i=>?_⟩;cases j with
     | zero=>simp at i;subst i;exact⟨c,rfl,fun a=>W c d h.1 a⟩
     | succ j=>simpa using C j e y (by simpa using i)
  intro v u h x a;unfold aq at h;split at h
  ·exact .d (h _ _ _ a.cw)
  ·obtain⟨rfl,rfl,rfl,f,D⟩:=h;obtain⟨A,n,M,rfl,o,z⟩:=a.tA;exact .own (by simp [eb,f,D,o]) z
  ·obtain⟨rfl,rfl,f⟩:=h;have a:=a.cw;cases a;exact .own (by simp [eb,f]) (aB.nil _ _ _ _ .nil)
  ·obtain⟨A,n,M,rfl,o,z⟩:=a.tA;exact .d (h _ _ _ z)
  ·obtain⟨rfl,rfl,f⟩:=h;obtain⟨b,rfl,o⟩:=a.tB;exact .ptr (by simp [eb,f,o])
  ·obtain⟨rfl,f⟩:=h;cases a;rename_i b o;exact .mp (by simp [eb,f,o])
  ·obtain⟨rfl,rfl,rfl,f,D⟩:=h;cases a with
   | spare o z I=>exact .spare (by simp [eb,f,D,o]) z I
  ·subst h;cases a;exact .e0
  ·obtain⟨rfl,rfl,rfl,rfl,rfl,f⟩:=h;obtain⟨b,q,o,z,I,O,P,rfl⟩:=a.BD;exact .aE (by simp [eb,f,o]) z I O P
  ·
   rename_i g;injection g with g;subst g
   obtain⟨L,rfl,F,H⟩:=a.rK;obtain⟨B,C⟩:=E _ _ h.1;refine .agg (by rw [F,B]) h.2 (fun j c y i t=>?_);obtain⟨q,s,p⟩:=C j c y i;exact p (H j q y s t)
  ·
   rename_i g;injection g with g;subst g
   obtain⟨L,rfl,F,H⟩:=a.rK;obtain⟨B,C⟩:=E _ _ h.1;refine .d (.agg (by rw [F,B];simp) h.2 (fun j c y i t=>?_));obtain⟨q,s,p⟩:=C j (.d c) y (by simp [i]);exact(p (H j q y s t)).cw
  ·
   rename_i g;injection g with g;subst g
   obtain⟨L,rfl,F,f,H⟩:=a.cw.rK;obtain⟨B,C⟩:=E _ _ h.1;refine .agg (by rw [F,<- B];simp) h.2 (fun j c y i t=>?_);obtain⟨q,s,p⟩:=C j c y i;simp only [bG,bZ] at s;obtain⟨d,Y,rfl⟩:=s;exact p (.d (H j d y Y t))
  ·rename_i g;injection g with g;subst g
   obtain⟨L,rfl,F,H⟩:=a.tC;obtain⟨B,C⟩:=E _ _ h;refine .af (by rw [F,B]) (fun j c y i t=>?_);obtain⟨q,s,p⟩:=C j c y i;exact p (H j q y s t)
  ·rename_i g;injection g with g;subst g
   obtain⟨L,rfl,F,H⟩:=a.tC;obtain⟨B,C⟩:=E _ _ h;refine .d (.af (by rw [F,B];simp) (fun j c y i t=>?_));obtain⟨q,s,p⟩:=C j (.d c) y (by simp [i]);exact(p (H j q y s t)).cw
  ·rename_i g;injection g with g;subst g
   obtain⟨rfl,f,D⟩:=h;obtain⟨Z,x2,rfl,Q,R,S,T⟩:=a.nc;obtain⟨B,C⟩:=E _ _ f;obtain⟨U,V⟩:=E _ _ D;refine .fn (by rw [Q,B]) (by rw [R,U]) (fun j c y i t=>?_) (fun j c y i t=>?_)
   ·obtain⟨q,s,p⟩:=C j c y i;exact p (S j q y s t)
   ·obtain⟨q,s,p⟩:=V j c y i;exact p (T j q y s t)
  ·rename_i g;injection g with g;subst g
   obtain⟨rfl,f,D⟩:=h;obtain⟨Z,x2,rfl,Q,R,S,T⟩:=a.nc;obtain⟨B,C⟩:=E _ _ f;obtain⟨U,V⟩:=E _ _ D;refine .d (.fn (by rw [Q,B];simp) (by rw [R,U];simp) (fun j c y i t=>?_) (fun j c y i t=>?_))
   ·obtain⟨q,s,p⟩:=C j (.d c) y (by simp [i]);exact(p (S j q y s t)).cw
   ·obtain⟨q,s,p⟩:=V j (.d c) y (by simp [i]);exact(p (T j q y s t)).cw
  ·exact h.elim
def bc(l:List (Nat×Nat))(n:Nat):Option Nat :=
 match l with
 | []=>none
 | (m,x)::r=>if n=m then some x else bc r n
def ai(h:List (Nat×HO)):List Nat:=h.map (·.1)
def aw(a:List (Nat×Nat))(n:Nat):Nat:=(bc a n).getD n
def cj(a:List (Nat×Nat))(h:List (Nat×HO))(n:Nat):Option Nat:=if (ai h).contains n then bc a n else none
def bg(a:List (Nat×Nat))(h:List (Nat×HO))(n:Nat):Bool:=(ai h).contains n&&(bc a n).isNone
def jQ(b a:List (Nat×Nat))(c:St)(h:List (Nat×HO)):List (Nat×Bool×AV)->Prop
 | []=>True
 | (t,g,v)::r=>(match bn c.s t with
  | some (d,e)=>g=true/\d=true/\aq (aw b) (cj a h) (bg a h) 3 e v
  | none=>False)/\jQ b a c h r
def fX(b a:List (Nat×Nat))(d:St)(h:List (Nat×HO)):List (Nat×HO)->Prop
 | []=>True
 | (n,o)::r=>(match o with
  | .box _ e=>bc a n=none/\match look d.h (aw b n) with
   | some (.box _ i)=>aq.ba (aw b) (cj a h) (bg a h) 3 i e/\∀ c∈e,c.one=true
   | _=>False
  | .row=>(∃ j,bc a n=some j)\/look d.h (aw b n)=some .row
  | .obj s=>bc a n=none/\look d.h (aw b n)=some (.obj s)
  | .aA f=>bc a n=none/\match look d.h (aw b n) with
   | some (.aA g)=>g.map (·.1)=f.map (·.1)/\aq (aw b) (cj a h) (bg a h) 3 (.af (g.map (·.2))) (.af (f.map (·.2)))
   | _=>False
  | .dead=>True)/\fX b a d h r
def ma(d b:List (Nat×Nat))(h:List (Nat×HO)):List DE->List DE->Prop
 | [],[]=>True
 | .mark g::e,.mark n::r=>(g=aw d n/\bg b h n=true)/\ma d b h e r
 | .fn i j k::e,.fn f a c::r=>(i=f/\aq (aw d) (cj b h) (bg b h) 3 (.af j) (.af a)/\aq (aw d) (cj b h) (bg b h) 3 (.af k) (.af c))/\ma d b h e r
 | _,_=>False
def Sub(B:Nat)(c a:St):Prop:=∃ b d:List (Nat×Nat),((ai a.h).all fun n=>(ai a.h).all fun m=>aw b n != aw b m||n == m)=true/\jQ b d c a.h a.s/\fX b d c a.h a.h /\((List.range B).all fun n=>!(ai c.h).contains n||(aw b n == n&&((bc d n).isNone&&(ai a.h).contains n)))=true/\ma b d a.h c.d a.d
theorem BP{e d:List (Nat×Nat)}{h:List (Nat×HO)}{G:Gh}{w:World}(g:∀ x y v,aq (aw e) (cj d h) (bg d h) 3 x y->aC G w x v->aC (eb G (aw e) (cj d h) (bg d h)) w y v) :
  ∀ {p q:List DE}{s:List Deferred},ma e d h p q->pY G w p s->pY (eb G (aw e) (cj d h) (bg d h)) w q s
 | [],[],_,_,.nil=>.nil
 | .mark H::z,.mark n::r,_,b,.cons i j=>by
  obtain⟨⟨q1,k⟩,l⟩:=b;refine .cons ?_ (BP g l j);cases i with
  | mark A=>subst q1;exact .mark (by simp [eb,k,A])
 | .fn I J K::z,.fn f a c::r,_,b,.cons i j=>by
  obtain⟨⟨q1,k,l⟩,B⟩:=b;refine .cons ?_ (BP g B j);cases i with
  | fn t u =>
   subst q1;obtain⟨x,m,C,D⟩:=(g _ _ _ k (.af t.1 t.2)).tC;obtain⟨y,o,E,F⟩:=(g _ _ _ l (.af u.1 u.2)).tC;injection m with m;injection o with o;subst m;subst o
   exact .fn ⟨C,D⟩ ⟨E,F⟩
 | [],_::_,_,b,_=>b.elim
 | .mark _::_,[],_,b,_=>b.elim
 | .fn _ _ _::_,[],_,b,_=>b.elim
 | .mark _::_,.fn _ _ _::_,_,b,_=>b.elim
 | .fn _ _ _::_,.mark _::_,_,b,_=>b.elim
theorem IW{f c:List (Nat×Nat)}{i:St}{h:List (Nat×HO)}:∀ {s:List (Nat×Bool×AV)},jQ f c i h s->∀ {t e},bn s t=some e->∃ b,bn i.s t=some (true,b)/\e.1=true/\aq (aw f) (cj c h) (bg c h) 3 b e.2
 | [],_,t,e,a=>by simp [bn] at a
 | (u,g,v)::r,j,t,e,a=>by
  simp only [bn] at a;obtain⟨d,k⟩:=j;split at a
  ·rename_i l;subst l;injection a with a;subst a
   split at d
   ·rename_i p b m;obtain⟨q1,n,o⟩:=d;subst n;exact⟨b,m,q1,o⟩
   ·exact d.elim
  ·exact IW k a
theorem oB{d a:List (Nat×Nat)}{e:St}{h:List (Nat×HO)}:∀ {l:List (Nat×HO)},fX d a e h l->∀ {n o},look l n=some o->match o with
  | .box _ f=>bc a n=none/\match look e.h (aw d n) with
   | some (.box _ j)=>aq.ba (aw d) (cj a h) (bg a h) 3 j f/\∀ c∈f,c.one=true
   | _=>False
  | .row=>(∃ k,bc a n=some k)\/look e.h (aw d n)=some .row
  | .obj s=>bc a n=none/\look e.h (aw d n)=some (.obj s)
  | .aA g=>bc a n=none/\match look e.h (aw d n) with
   | some (.aA i)=>i.map (·.1)=g.map (·.1)/\aq (aw d) (cj a h) (bg a h) 3 (.af (i.map (·.2))) (.af (g.map (·.2)))
   | _=>False
  | .dead=>True
 | [],_,n,o,b=>by simp [look] at b
 | (m,x)::r,p,n,o,b=>by
  simp only [look] at b;obtain⟨q,t⟩:=p;split at b
  ·rename_i u;subst u;injection b with b;subst b
   exact q
  ·exact oB t b
theorem ng:∀ {h:List (Nat×HO)}{n:Nat}{o:HO},look h n=some o->(ai h).contains n=true
 | [],n,o,h=>by simp [look] at h
 | (m,x)::r,n,o,h=>by
  simp only [look] at h;simp only [ai,bo,Hm];split at h
  ·rename_i e;subst e;simp
  ·have:=ng h;simp only [ai] at this;rw [this];simp
theorem vF:∀ {h:List (Nat×HO)}{n:Nat},look h n=none->(ai h).contains n=false
 | [],n,h=>by simp [ai]
 | (m,x)::r,n,h=>by
  simp only [look] at h;simp only [ai,bo,Hm];split at h
  ·cases h
  ·rename_i e;have:=vF h;simp only [ai] at this;rw [this];simp [e]
theorem Sub.IX{E:Env}{G:Gh}{σ τ:St}{a:Act}{w:World}{nt:Nat}(H:bO E G σ a w nt){i f:List (Nat×Nat)}(h0:((ai τ.h).all fun n=>(ai τ.h).all fun m=>aw i n != aw i m||n == m)=true)(N:jQ i f σ τ.h τ.s)(C:fX i f σ τ.h τ.h)(h3:((List.range E.B).all fun n=>!(ai σ.h).contains n||(aw i n == n&&((bc f n).isNone&&(ai τ.h).contains n)))=true)(h4:ma i f τ.h σ.d τ.d):bO E (eb G (aw i) (cj f τ.h) (bg f τ.h)) τ a w nt:=by
 have b5:∀ n m,(ai τ.h).contains n=true->(ai τ.h).contains m=true->aw i n=aw i m->n=m:=fun n m d j p=>by
  have d6:n∈ai τ.h:=by simpa using d
  have d7:m∈ai τ.h:=by simpa using j
  have:=bQ.1 (bQ.1 h0 n d6) m d7;simpa [p] using this
 refine⟨?_,H.sz,fun t e p=>?_,BP (fun x y v S hr=>rL 3 _ _ S hr) h4 H.defers⟩
 ·have b6:∀ n,n<E.B->look σ.h n≠none->bg f τ.h n=true/\aw i n=n/\cj f τ.h n=none:=fun n d S=>by
   have a2:=bQ.1 h3 n (di.2 d);have u:(ai σ.h).contains n=true:=by
    cases L:look σ.h n with
    | none=>exact absurd L S
    | some o=>exact ng L
   rw [u] at a2;simp only [Hl,Bool.false_or,ax,dg] at a2;obtain⟨q1,g,q3⟩:=a2;have b7:bc f n=none:=by simpa using g
   exact⟨by unfold bg;rw [q3,b7];rfl,q1,by unfold cj;rw [q3,b7];rfl⟩
  have b0:∀ n,bg f τ.h n=true->look σ.h (aw i n)=some .dead->look τ.h n=some .dead:=fun n h p=>by
   cases L:look τ.h n with
   | none=>exact absurd h (by unfold bg;rw [vF L];simp)
   | some o =>
    have q:=oB C L;cases o with
    | dead=>rfl
    | box ag cs=>obtain⟨_,g⟩:=q;rw [p] at g;exact g.elim
    | row =>
     rcases q with ⟨J,q⟩ | q
     ·exfalso;unfold bg at h;rw [q] at h;simp at h
     ·rw [p] at q;cases q
    | obj s=>have g:=q.2;rw [p] at g;cases g
    | aA es=>obtain⟨_,g⟩:=q;rw [p] at g;exact g.elim
  refine⟨H.wr.os,H.wr.tape,H.wr.output,H.wr.size,H.wr.kept,H.wr.i0,H.wr.eo,H.wr.cu,fun n d=>?_,fun n ag cs d=>?_,fun n b O=>?_,fun n m b d j d1 d2=>?_,fun r hr=>?_,fun r a0 A n b8 J A' e6 e7 e8 b9 c0 D F l1 l2 ad d8 e1 e2 O=>?_,fun n s d=>?_,fun n es d=>?_,?_,H.wr.gB⟩
  ·have:=vF d;have h:bg f τ.h n=false:=by unfold bg;rw [this];rfl
   have K:cj f τ.h n=none:=by unfold cj;rw [this];rfl
   simp [eb,h,K]
  ·obtain⟨q1,g⟩:=oB C d;have u:=ng d;split at g
   ·rename_i d9 a1 b1;obtain⟨b,W,ty,P,Q,M,f4⟩:=H.wr.box (aw i n) d9 a1 b1;refine⟨b,W,ty,?_,Q,?_,g.2,f4.2⟩
    ·have h:bg f τ.h n=true:=by unfold bg;rw [u,q1];rfl
     simp [eb,h,P]
    ·have e0:aq (aw i) (cj f τ.h) (bg f τ.h) 4 (.agg a1) (.agg cs):=by unfold aq;exact g
     have b2:aC G w (.agg a1) (.agg (W.toList.take a1.length).toArray):=.agg (by have:=M.1;simp;omega) f4.1 (fun k c v B R=>by
      simp only [qV,eh] at R;split at R
      ·exact M.2 k c v B (by simpa using R)
      ·cases R)
     obtain⟨vs,T,d0,b3⟩:=(rL 4 _ _ e0 b2).rK;injection T with T;subst T
     have e9:=M.1;simp at d0;refine⟨by omega,fun k c v B R=>b3 k c v B ?_⟩;have f0:=(bu.1 B).1;simp only [qV,eh];rw [aj (by omega)];simpa using R
   ·exact g.elim
  ·simp only [eb] at O;split at O
   ·rename_i h;obtain⟨P,Q,M,f4⟩:=H.wr.bJ _ b O;exact⟨P,Q,fun u=>M (fun p=>u (b0 n h p)),f4⟩
   ·cases O
  ·simp only [eb] at d j;split at d
   ·rename_i h;split at j
    ·rename_i K;have e3:=H.wr.eC _ _ b d j (fun e=>d1 (b0 n h e)) (fun e=>d2 (b0 m K e));simp only [bg,ax] at h K;exact b5 n m h.1 K.1 e3
    ·cases j
   ·cases d
  ·have u:=ng hr;rcases oB C hr with ⟨J,I⟩ | I
   ·have K:cj f τ.h r=some J:=by unfold cj;rw [u,I];rfl
    refine⟨none,0,0,J,by simp [eb,K],fun k B X=>?_⟩;simp at X
   ·obtain⟨A,n,b8,J,P,Q⟩:=H.wr.row _ I;cases d:bc f r with
    | some J =>
     have K:cj f τ.h r=some J:=by unfold cj;rw [u,d];rfl
     exact⟨none,0,0,J,by simp [eb,K],fun k B X=>by simp at X⟩
    | none =>
     have h:bg f τ.h r=true:=by unfold bg;rw [u,d];rfl
     have K:cj f τ.h r=none:=by unfold cj;rw [u,d];rfl
     refine⟨A,n,b8,J,by simp [eb,h,K,P],fun k B X=>?_⟩;obtain⟨ad,e,c1,c2,c3,c4,c5⟩:=Q k B X;refine⟨ad,e,c1,c2,c3,c4,fun m j=>?_⟩;simp only [eb] at j;split at j
     ·exact c5 _ j
     ·cases j
  ·have d1:=ng b9;have d2:=ng c0;simp only [eb] at D F;cases Y:cj f τ.h r with
   | some z=>simp only [Y] at D;injection D with D;injection D with _ D;injection D with D U;injection U with U _;subst D;subst U;simp at l1
   | none =>
    cases Z:cj f τ.h a0 with
    | some z=>simp only [Z] at F;injection F with F;injection F with _ F;injection F with F U;injection U with U _;subst F;subst U;simp at l2
    | none =>
     simp only [Y] at D;simp only [Z] at F;split at D
     ·split at F
      ·have x1:bc f r=none:=by unfold cj at Y;rw [d1] at Y;exact Y
       have x2:bc f a0=none:=by unfold cj at Z;rw [d2] at Z;exact Z
       have y1:look σ.h (aw i r)=some .row:=by
        rcases oB C b9 with ⟨J,I⟩ | I
        ·rw [x1] at I;cases I
        ·exact I
       have y2:look σ.h (aw i a0)=some .row:=by
        rcases oB C c0 with ⟨J,I⟩ | I
        ·rw [x2] at I;cases I
        ·exact I
       exact b5 r a0 d1 d2 (H.wr.eZ _ _ _ _ _ _ _ _ _ _ y1 y2 D F l1 l2 ad d8 e1 e2 O)
      ·cases F
     ·cases D
  ·obtain⟨q1,g⟩:=oB C d;have u:=ng d;obtain⟨b,P,Q⟩:=H.wr.obj _ _ g;have h:bg f τ.h n=true:=by unfold bg;rw [u,q1];rfl
   exact⟨b,by simp [eb,h,P],Q⟩
  ·obtain⟨q1,g⟩:=oB C d;have u:=ng d;have h:bg f τ.h n=true:=by unfold bg;rw [u,q1];rfl
   split at g
   ·rename_i V b1;obtain⟨b,W,ck,P,Q,b4⟩:=H.wr.aA _ _ b1;refine⟨b,W,ck,by simp [eb,h,P],Q,b4.1,?_⟩;have d3:=vq g.1;cases j:eB V with
    | true =>
     rw [aj (by rw [<- d3,j])];have C:=b4.2;rw [aj j] at C;intro v;have e4:V.tail.map (·.1)=es.tail.map (·.1):=by have:=congrArg List.tail g.1;simpa using this
     rw [<- C v,e4]
    | false =>
     have M:=b4.pos j;rw [ab (by rw [<- d3,j];simp)];have d4:V.length=es.length:=by simpa using congrArg List.length g.1
     have b2:aC G w (.af (V.map (·.2))) (.tuple (W.map (·.val))):=.af (by simp [M.1]) (fun k c v B R=>by simp only [bG,bZ] at B;simp only [Array.getElem?_map,bZ] at R;obtain⟨e,p,rfl⟩:=B;obtain⟨x,L,rfl⟩:=R;exact(M.2 k e x p L).2)
     obtain⟨vs,T,d0,b3⟩:=(rL 3 _ _ g.2 b2).tC;injection T with T;subst T
     refine⟨M.1.trans d4,fun k e x p L=>⟨?_,?_⟩⟩
     ·have B:k<V.length:=by rw [d4];exact(bu.1 p).1
      have N:=(M.2 k V[k] x (aI B) L).1;have C:=congrArg (fun l=>l[k]?) g.1;simp only [bG,p,aI B,lU,aL] at C;rw [N,C]
     ·exact b3 k e.2 x.val (by simp [p]) (by simp [L])
   ·exact g.elim
  ·have O:∀ n b,E.Gb.box n=some b->bg f τ.h n=true/\aw i n=n:=fun n b d=>by
    have:=b6 n (H.wr.gB.1 n b d) (fun S=>by have N:=H.wr.gb.box n b d;rw [(H.wr.fresh n S).1] at N;cases N)
    exact⟨this.1,this.2.1⟩
   refine⟨H.wr.gb.ef,fun n b d=>?_,fun n r d=>?_,fun n b d=>?_⟩
   ·obtain⟨k1,k2⟩:=O n b d;simp only [eb,k1,k2,eA];exact H.wr.gb.box n b d
   ·obtain⟨k1,k2,k3⟩:=b6 n (H.wr.gB.2 n r d) (fun S=>by have N:=H.wr.gb.row n r d;rw [(H.wr.fresh n S).2] at N;cases N)
    simp only [eb,k1,k2,k3,eA];exact H.wr.gb.row n r d
   ·obtain⟨k1,k2⟩:=O n b d;simp only [eb,k2];exact H.wr.gb.rc n b d
 ·obtain⟨f5,q1,g,q3⟩:=IW N p;obtain⟨e5,x1,x2,x3⟩:=H.sr t _ q1;exact⟨e5,x1,fun _=>rL 3 _ _ q3 (x2 rfl),fun d5=>by rw [g] at d5;cases d5⟩
theorem Sub.rel{E:Env}{G:Gh}{c b:St}{a:Act}{w:World}{nt:Nat}(H:bO E G c a w nt)(f:Sub E.B c b):∃ d,d.I=G.I/\bO E d b a w nt:=by obtain⟨g,e,h,i,j,k,l⟩:=f;exact⟨eb G (aw g) (cj e b.h) (bg e b.h),rfl,Sub.IX H h i j k l⟩
inductive AC where
 | skip
 | region (bf:Option (List (List Nat))) (ops:List aF)
 | aY (ops:List aF)
 | mb (bf:List (List Nat)) (k:Nat) (ops:List aF)
 | oC (bf:List (List Nat)) (k m:Nat) (ops:List aF)
 | p' (bf:List (List Nat)) (k:Nat) (ops:List aF)
 | seq (a b:AC)
 | cond (c:aO) (a b:AC)
 | block (id:Nat) (b:AC)
 | oD (id:Nat) (b:AC)
 | qa (id:Nat) (b:AC)
 | loop (b:AC)
 | range (g:aO) (ps:List Nat) (asg b:AC)
 | exit (id:Nat)
 | ret
 deriving Inhabited
inductive ej (P:Program) (nt:Nat):Code->AC->Prop
 | skip:ej P nt .skip .skip
 | region {id ops aops} (hl:aops.length=ops.size) (hc:∀ (j:Nat) (ao:aF),aops[j]?=some ao->∃ o,ops[j]?=some o/\fI P ops nt o ao):ej P nt (.region id ops false) (.region none aops)
 | aY {id ops aops} (hl:aops.length=ops.size) (hc:∀ (j:Nat) (ao:aF),aops[j]?=some ao->∃ o,ops[j]?=some o/\fI P ops nt o ao):ej P nt (.region id ops false) (.aY aops)
 | IY {id ops aops bf} (hm:P.follows .mixedOrders=true) (hl:aops.length=ops.size) (hc:∀ (j:Nat) (ao:aF),aops[j]?=some ao->∃ o,ops[j]?=some o/\fI P ops nt o ao)
   (hbf:∀ j i,i∈bf.getD j []->Reach ops j i) (hedge:∀ j o,ops[j]?=some o->∀ e∈o.after,Region.binds .any e=true->e.on<j):ej P nt (.region id ops true) (.region (some bf) aops)
 | IZ {id ops aops bf k} (hm:P.follows .mixedOrders=true) (hl:aops.length=ops.size) (hc:∀ (j:Nat) (ao:aF),aops[j]?=some ao->∃ o,ops[j]?=some o/\fI P ops nt o ao)
   (hbf:∀ j i,i∈bf.getD j []->Reach ops j i) (hedge:∀ j o,ops[j]?=some o->∀ e∈o.after,Region.binds .any e=true->e.on<j) (hk:k<=ops.size) (hord:∀ j,k<=j->j<ops.size->∀ i,i<j->Reach ops j i):ej P nt (.region id ops true) (.mb bf k aops)
 | I_ {id ops aops bf k m} (hm:P.follows .mixedOrders=true) (hl:aops.length=ops.size) (hc:∀ (j:Nat) (ao:aF),aops[j]?=some ao->∃ o,ops[j]?=some o/\fI P ops nt o ao)
   (hbf:∀ j i,i∈bf.getD j []->Reach ops j i) (hedge:∀ j o,ops[j]?=some o->∀ e∈o.after,Region.binds .any e=true->e.on<j) (hkm:k<=m) (hk:m<=ops.size) (hreach:∀ j,k<=j->j<ops.size->Reach ops j (k-1)) (hord:∀ j,m<=j->j<ops.size->∀ i,i<j->Reach ops j i):ej P nt (.region id ops true) (.oC bf k m aops)
 | I' {id ops aops bf k} (hm:P.follows .mixedOrders=true) (hl:aops.length=ops.size) (hc:∀ (j:Nat) (ao:aF),aops[j]?=some ao->∃ o,ops[j]?=some o/\fI P ops nt o ao)
   (hbf:∀ j i,i∈bf.getD j []->Reach ops j i) (hedge:∀ j o,ops[j]?=some o->∀ e∈o.after,Region.binds .any e=true->e.on<j) (hk:k+1<=ops.size) (hcall:∀ i,i<k-1->Reach ops (k-1) i) (hord:∀ j,k+1<=j->j<ops.size->∀ i,i<j->Reach ops j i):ej P nt (.region id ops true) (.p' bf k aops)
 | seq {a b a' b'} (h1:ej P nt a a') (h2:ej P nt b b'):ej P nt (.seq a b) (.seq a' b')
 | cond {c a b c' a' b'} (h0:CO c c') (h1:ej P nt a a') (h2:ej P nt b b'):ej P nt (.cond c a b) (.cond c' a' b')
 | block {id b b'} (h:ej P nt b b'):ej P nt (.block id b) (.block id b')
 | oD {id b b'} (h:ej P nt b b'):ej P nt (.block id b) (.oD id b')
 | qa {id b b'} (h:ej P nt b b'):ej P nt (.block id b) (.qa id b')
 | loop {b b'} (h:ej P nt b b'):ej P nt (.loop b) (.loop b')
 | range {g g' asg b asg' b'} {ps:Array Tmp}{ps':List Nat}(hg:CO g g') (hps:ps.toList=ps') (hlt:∀ p∈ps',p<nt) (h1:ej P nt asg asg') (h2:ej P nt b b'):ej P nt (.rangeFunc g ps asg b) (.range g' ps' asg' b')
 | exit {id}:ej P nt (.exit id) (.exit id)
 | ret:ej P nt .ret .ret
 | scope {b b'} (h:ej P nt b b'):ej P nt (.scope b) b'
 | label {l}:ej P nt (.label l) .skip
def fp(K:St->Prop)(Q:AE->St->Prop):AE->St->Prop
 | .normal,a=>K a
 | .exit id,a=>Q (.exit id) a
 | .ret,a=>Q .ret a
 | .aQ d,a=>Q (.aQ d) a
def iR(id:Nat)(Q:AE->St->Prop):AE->St->Prop
 | .normal,a=>Q .normal a
 | .exit i,a=>if i=id then Q .normal a else Q (.exit i) a
 | .ret,a=>Q .ret a
 | .aQ d,a=>Q (.aQ d) a
def BQ(B:Nat)(Q:AE->St->Prop):AE->St->Prop:=fun e b=>∃ a,Sub B b a/\Q e a
inductive bK where
 | ret (v:AV)
 | aQ (d:D)
structure Cx where
 B:Nat:=0
 top:Bool:=true
 l:Nat:=0
 Y:List AV->List (Nat×HO)->(Bool->List (Nat×HO)->Prop)->Prop:=fun _ _ _=>False
 C:FuncId->List D->Out->Prop:=fun _ _ _=>False
def yd(G:Gh)(w:World)(a:List AV)(b:List Value):Prop:=b.length=a.length/\∀ (k:Nat) (c:AV) (u:Value),a[k]?=some c->b[k]?=some u->aC G w c u
def vG(P:Program)(E:Env)(a:Cx):Prop :=
 ∀ (j:Option Nat) (G:Gh) (h:List (Nat×HO)) (w:World) (c:List AV) (d:List Value) (K:Bool->List (Nat×HO)->Prop),aD E G (look h) w->yd G w c d->a.Y c h K ->YieldAt (Fr j) 0 P a.l d.toArray w fun e f=>∃ g i b,aW G w g f/\aD E g (look i) f/\e=.returned (.bool b)/\K b i
structure qb (P:Program) (E:Env) (cx:Cx) (ro:Option Nat):Prop where
 B:E.B=cx.B
 y:vG P E cx
 top:cx.top=true->ro=none
 c:∀ f ds out,cx.C f ds out->dO P f ds out
def cW(P:Program)(f:FuncId)(T:Cx->List AV->List (Nat×HO)->(bK->List (Nat×HO)->Prop)->Prop):Prop :=
 m' P f/\∀ (E:Env) (i:Cx) (G:Gh) (h:List (Nat×HO)) (w:World) (j:List AV) (k:List Value) (K:bK->List (Nat×HO)->Prop),
  aD E G (look h) w->qb P E i none->yd G w j k->T i j h K ->Calls P f k.toArray w fun e b=>∃ c g,aD E c (look g) b/\match e with
   | .returned a=>∃ l,aC c b l a/\K (.ret l) g
   | .panicked m=>∃ a d,m=[{v:=a,recovered:=false}]/\au c.I b d a/\K (.aQ d) g
   | .outgrown=>False
theorem aB.BR(a b:Nat):aB (.nil a) (.sl b []):=fun _ _ _ h=>by cases h;exact .sl ⟨0,0,none⟩ (fun _=>undef) rfl (by simp) (by simp) (.inr rfl) (by simp) (by simp [D.flat]) (by simp [D.flat]) (by simp [D.flat])
inductive RV where
 | tmp (t:Nat)
 | cell (t sz:Nat) (ag:Bool)
 deriving Inhabited
inductive qc (P:Program):ResultVar->RV->Prop
 | tmp {t}:qc P (.tmp t) (.tmp t)
 | cell {t ty i d sz ag} (hi:P.info? ty=some i) (hs:i.size=sz) (hu:P.underlying ty=some d) (hag:d.isRow=ag):qc P (.cell t ty) (.cell t sz ag)
structure AF where
 nt:Nat
 body:AC
 res:List RV
structure g' (P:Program) (f:FuncId) (fn:AF):Prop where
 ex:∃ F c,P.funcs[f]?=some F/\(F.name == "runtime.NumGoroutine")=false/\F.body=some c/\F.ntmps=fn.nt/\ej P fn.nt c fn.body/\bH (qc P) F.results.toList fn.res
def vH(a:St):RV->Option (Prop×AV)
 | .tmp t=>match bn a.s t with
  | some (g,v)=>some (g=true,v)
  | none=>none
 | .cell t b c=>match bn a.s t with
  | some (g,.ptr n o)=>match look a.h n with
   | some (.box _ d)=>some (g=true/\o+b<=d.length/\(c=false->b=1),ow o b c d)
   | _=>none
  | _=>none
def qd(a:St):List RV->Option (Prop×List AV)
 | []=>some (True,[])
 | x::r=>match vH a x,qd a r with
  | some (c,v),some (b,d)=>some (c/\b,v::d)
  | _,_=>none
def ky(a:St)(l:List RV):Option (Prop×AV) :=
 match qd a l with
 | some (c,[v])=>some (c,v)
 | some (c,b)=>some (c,.af b)
 | none=>none
theorem SL{P:Program}{t:TypeId}{ad:Addr}{cs:List Value}{w:World}{i:TypeInfo}{d:TypeDesc}(a:∀ j v,cs[j]?=some v->w.cell? (ad.add j)=some v)(b:P.info? t=some i)(c:i.size=cs.length)(e:P.underlying t=some d)(f:d.isRow=false->cs.length=1) :
  (loadVar t ad).run P w=.ok (if d.isRow then .agg cs.toArray else cs.headD undef) w:=by
 have:=Bd (P:=P) a b c e f;simpa [Instr.loadAt,Instr.sureAddr] using this
theorem SM{E:Env}{G:Gh}{h:Hp}{f:World}(H:aD E G h f){n b a e:Nat}{r J:Bool}{m:List AV}(K:h n=some (.box J m))(L:G.box n=some b){s:Program}{x:TypeId}{z:TypeInfo}{A:TypeDesc}(M:s.info? x=some z)(N:z.size=e)(g:s.underlying x=some A)(o:A.isRow=r)(X:a+e<=m.length)(C:r=false->e=1) :
  ∃ v,(loadVar x ⟨b,a,none⟩).run s f=.ok v f/\aC G f (ow a e r m) v:=by
 obtain⟨l,p,O,Q⟩:=H.A_ K L;have D:((l.toList.drop a).take e).length=e:=by simp;have:=p.1;omega
 have R:=SL (P:=s) (t:=x) (ad:=⟨b,a,none⟩) (cs:=(l.toList.drop a).take e) (w:=f) (i:=z) (d:=A) (fun j v y=>by
  rw [cc,Q];rw [eh] at y;split at y
  ·simpa using y
  ·cases y) M (by rw [D,N]) g (fun S=>by rw [D];exact C (by rw [<- o,S]))
 refine⟨_,R,?_⟩;have T:gi G f ((m.drop a).take e) ((l.toList.drop a).take e).toArray:=by
  refine⟨by simp;have:=p.1;omega,fun k c u q g=>?_⟩;rw [eh] at q;simp only [qV,eh] at g;split at q
  ·rename_i U;rw [aj U] at g;rw [fD] at q g;exact p.2 _ c u q (by simpa using g)
  ·cases q
 cases B:r with
 | true =>rw [B] at o;simp only [o,eA,ow];exact Ba T (fun c V=>O c (iL (ir V)))
 | false =>
  rw [B] at o;have W:=C B;subst W;simp only [o,hq,eM,ow];have F:a<m.length:=by omega
  have I:a<l.size:=fx F p.1;have q1:((l.toList.drop a).take 1).headD undef=l[a]:=by rw [fF (by simpa using I)];simp
  rw [q1];exact p.2 a _ _ (by simp [List.getD,aI F]) (by simp [I])
def oF(b:Array Value):ResultVar->Sem Value
 | .tmp t=>pure (b.getD t undef)
 | .cell a t=>do loadVar t (<- asAddr (b.getD a undef))
theorem Ja{E:Env}{G:Gh}{m:St}{a:Act}{w:World}{nt:Nat}{P:Program}(H:bO E G m a w nt):∀ {p:List ResultVar}{l:List RV}{c:Prop}{f:List AV},bH (qc P) p l->qd m l=some (c,f)->c ->∃ i:List Value,(p.mapM (oF a.tmps)).run P w=.ok i w/\i.length=f.length/\∀ (k:Nat) (x:AV) (u:Value),f[k]?=some x->i[k]?=some u->aC G w x u
 | _,_,c,f,.nil,h,e=>by simp [qd] at h;obtain⟨_,rfl⟩:=h;exact⟨[],rfl,rfl,fun k x u j=>by simp at j⟩
 | r::p,x::l,c,f,.cons C D,h,e=>by
  simp only [qd] at h;cases d:vH m x with
  | none=>simp [d] at h
  | some q1 =>
   obtain⟨W,F⟩:=q1;cases q:qd m l with
   | none=>simp [d,q] at h
   | some I =>
    obtain⟨X,Y⟩:=I;simp only [d,q,aL,ee] at h;obtain⟨rfl,rfl⟩:=h;obtain⟨i,J,K,L⟩:=Ja H D q e.2;have M:∃ u,(oF a.tmps r).run P w=.ok u w/\aC G w F u:=by
     cases C with
     | tmp =>simp only [vH] at d;split at d <;> simp only [aL,ee,reduceCtorEq] at d;rename_i t g v s;obtain⟨rfl,rfl⟩:=d;obtain⟨B,k1,k2,_⟩:=H.sr _ _ s;exact⟨B,by simp [oF,k1],k2 e.1⟩
     | cell N O Q R =>
      simp only [vH] at d;split at d <;> try (simp only [reduceCtorEq] at d)
      rename_i g n o s;split at d <;> simp only [aL,ee,reduceCtorEq] at d;rename_i Z cs S;obtain⟨rfl,rfl⟩:=d;obtain⟨B,k1,k2,_⟩:=H.sr _ _ s;obtain⟨b,rfl,T⟩:=(k2 e.1.1).tB;obtain⟨v,U,V⟩:=SM H.wr S T N O Q R e.1.2.1 e.1.2.2;exact⟨v,by simp [oF,k1,asAddr,U],V⟩
    obtain⟨u,k1,k2⟩:=M;refine⟨u::i,by simp [PG,k1,J],by simp [K],fun k y z j A=>?_⟩;cases k with
    | zero=>simp at j A;subst j;subst A;exact k2
    | succ k=>exact L k y z (by simpa using j) (by simpa using A)
theorem BS{E:Env}{G:Gh}{n:St}{a:Act}{w:World}{nt:Nat}{P:Program}(H:bO E G n a w nt){F:Func}{l:List RV}{c:Prop}{v:AV}(s:bH (qc P) F.results.toList l)(h:ky n l=some (c,v))(t:c) :
  ∃ u,(results F a.tmps).run P w=.ok u w/\aC G w v u:=by
 unfold ky at h;have p:∀ {b:List AV},qd n l=some (c,b)->∃ d:List Value,(F.results.mapM (oF a.tmps)).run P w=.ok d.toArray w/\d.length=b.length/\∀ (k:Nat) (x:AV) (u:Value),b[k]?=some x->d[k]?=some u->aC G w x u:=by
  intro b y;obtain⟨d,i,g,j⟩:=Ja H s y t;refine⟨d,?_,g,j⟩;have z:=Array.toList_mapM (m:=Sem) (xs:=F.results) (f:=oF a.tmps);have:(Functor.map Array.toList (F.results.mapM (oF a.tmps))).run P w=.ok d w:=by rw [z];exact i
  rw [Sem.run_map] at this;cases q:(F.results.mapM (oF a.tmps)).run P w with
  | ok K A =>rw [q] at this;simp only [dt,Result.ok.injEq] at this;obtain⟨rfl,rfl⟩:=this;simp
  | halt L A=>rw [q] at this;simp at this
 have r:results F a.tmps=(do let b <- F.results.mapM (oF a.tmps);pure (if h:b.size=1 then b[0] else .tuple b)):=by unfold results;congr 1
 split at h <;> simp only [aL,ee,reduceCtorEq] at h
 ·rename_i B M o;obtain⟨rfl,rfl⟩:=h;obtain⟨d,i,g,j⟩:=p o
  match d,g with
  | [u],_ =>refine⟨u,?_,j 0 _ u rfl rfl⟩;rw [r];simp [c',i,dt]
 ·rename_i B b C o;obtain⟨rfl,rfl⟩:=h;obtain⟨d,i,g,j⟩:=p o;have D:d.toArray.size≠1:=by
   intro e;have:b.length=1:=by rw [<- g];simpa using e
   match b,this with
   | [x],_=>exact C x rfl
  refine⟨.tuple d.toArray,?_,.af (by simpa using g) (fun k x u I J=>j k x u I (by simpa using J))⟩;rw [r];simp only [c',i,dt,dif_neg D,dV]
def tD:Nat->Nat:=fun n=>n
def tF:Nat->Option Nat:=fun _=>none
def tG:Nat->Bool:=fun _=>false
end

end Go.Proofs.YtloccchppmffpaaGreatDoor.AL
