/- Part of the proof. -/
import Derived.RecoverIn
import Derived.Test.YtloccchppmffpaaGreatDoorC
set_option linter.unnecessarySimpa false
set_option linter.unusedVariables false
set_option linter.unusedSimpArgs false
set_option linter.defProp false
set_option maxRecDepth 20000
set_option maxHeartbeats 8000000
namespace Go.Proofs.YtloccchppmffpaaGreatDoor.AL
open Go
def dc:=@List.map_append
def iM:=@List.mem_singleton
def ko:=@Bool.not_eq_true'
def lV:=@List.length_filter_le
def lW:=@Array.getElem?_replicate
def mR:=@List.length_nil
def ob:=@Go.wpIn_mono
def s':=@List.foldl_cons
def tc:=@Option.some.inj
def td:=@of_decide_eq_true
def vh:=@Function.comp_def
def xI:=@List.reverse_reverse
def xJ:=@Classical.choose_spec
def AP:=@List.getElem?_set_self
def AQ:=@Go.Calls.mono
def Hn:=@Go.wpIn_region_any
def Ho:=@List.reverse_append
def PK:=@List.getElem?_set_ne
def PL:=@Option.getD_some
section
theorem aD.newObj{E:Env}{G:Gh}{h:Hp}{w:World}(H:aD E G h w){n:Nat}(a:h n=none)(r:Loop)(s:Nat) :
  aW G w {G with box:=fun m=>if m=n then some w.heap.size else G.box m,rc:=fun m=>if m=n then r else G.rc m} (w.alloc (jI r s)) /\aD E {G with box:=fun m=>if m=n then some w.heap.size else G.box m,rc:=fun m=>if m=n then r else G.rc m} (h.ar [(n,.obj s)]) (w.alloc (jI r s)) :=
 H.HF a r (jI r s) (.obj s) (.inl ⟨s,rfl,rfl⟩)
theorem aD.ye{E:Env}{G:Gh}{h:Hp}{w:World}(H:aD E G h w){n b s:Nat}(c:h n=some (.obj s))(d:G.box n=some b)(o:Obj)(x:HO)(e:x=.dead\/∃ a,x=.obj a/\o=jI (G.rc n) a) :
  aW G w G (w.putObj b o)/\aD E G (h.ar [(n,x)]) (w.putObj b o) :=
 H.vu (by rw [c];simp) d o x (e.elim .inl fun h=>.inr (.inl h))
def Env.at_(E:Env)(h:List (Nat×HO))(G:Gh)(w:World):Env:={E with B:=newName h,Gb:=G,wb:=w}
theorem aD.tH{E:Env}{G:Gh}{h:List (Nat×HO)}{w:World}(H:aD E G (look h) w):aD (E.at_ h G w) G (look h) w :=
 ⟨H.os,H.tape,H.output,H.size,H.kept,H.i0,H.eo,H.cu,H.fresh,H.box,H.bJ,H.eC,H.row,H.eZ,H.obj,H.aA,aW.refl G w,
  ⟨fun n b c=>by
   show n<newName h;cases a:look h n with
   | none=>have:=(H.fresh n a).1;rw [show G.box n=some b from c] at this;cases this
   | some o=>exact pV a,fun n r c=>by
   show n<newName h;cases a:look h n with
   | none=>have:=(H.fresh n a).2;rw [show G.row n=some r from c] at this;cases this
   | some o=>exact pV a⟩⟩
theorem aD.kz{E:Env}{a G:Gh}{c:List (Nat×HO)}{h:Hp}{b w:World}(d:aD E a (look c) b)(H:aD (E.at_ c a b) G h w):aD E G h w/\aW a b G w :=
 ⟨⟨H.os,H.tape,H.output,H.size,H.kept,H.i0,H.eo,H.cu,H.fresh,H.box,H.bJ,H.eC,H.row,H.eZ,H.obj,H.aA,d.gb.trans H.gb,d.gB⟩,H.gb⟩
theorem aD.again_at{E:Env}{d G b:Gh}{e:List (Nat×HO)}{h:Hp}{f w c:World}{g:Hp}(H:aD (E.at_ e d f) G h w)(a:aD E b g c)(i:aW G w b c):aD (E.at_ e d f) b g c :=
 ⟨a.os,a.tape,a.output,a.size,a.kept,a.i0,a.eo,a.cu,a.fresh,a.box,a.bJ,a.eC,a.row,a.eZ,a.obj,a.aA,H.gb.trans i,H.gB⟩
theorem vG.at_{P:Program}{E:Env}{a:Cx}(g:vG P E a){c:Gh}{d:List (Nat×HO)}{f:World}(i:aD E c (look d) f)(j:Nat)(k:Bool):vG P (E.at_ d c f) {a with B:=j,top:=k} :=
 fun l G h w m n K H o p=>by obtain⟨q,r,s,t,u,v⟩:=g l G h w m n K (i.kz H).1 o p;refine⟨q,r,s,t,u,v.mono fun e D x=>?_⟩;obtain⟨y,z,b,q1,A,C⟩:=x;exact⟨y,z,b,q1,H.again_at A q1,C⟩
def vI:AV->List AV->Option DE
 | .d (.fn (.func f) first a),b=>some (.fn f (first.map .d++b) (a.map .d))
 | .fn (.func f) first a,b=>some (.fn f (first++b) a)
 | _,_=>none
theorem SN{G:Gh}{w:World}{z:AV}{p:List AV}{A:DE}(j:vI z p=some A){u:Value}(B:aC G w z u){us:Array Value}(C:us.size=p.length)(E:∀ (k:Nat) (c:AV) (x:Value),p[k]?=some c->us[k]?=some x->aC G w c x) :
  ∃ (f:FuncId) (a b:Array Value) (as F:List AV),u=.func (.func f) a b/\A=.fn f as F/\gi G w as (a++us)/\gi G w F b:=by
 have H:∀ {n q:List AV}{r s:Array Value},gi G w n r->gi G w q s->gi G w (n++q) (r++s):=by
  intro n q r s e g;refine⟨by simp [e.1,g.1],fun k c x h i=>?_⟩;by_cases I:k<n.length
  ·rw [eY I] at h;rw [pC (by rw [e.1];exact I)] at i;exact e.2 k c x h i
  ·rw [eJ (by omega)] at h;rw [ahQ (by rw [e.1];omega),e.1] at i;exact g.2 _ c x h i
 have o:∀ {l:List D}{m:Array Value},m.size=l.length->(∀ (k:Nat) (c:D) (v:Value),l[k]?=some c->m[k]?=some v->au G.I w c v)->gi G w (l.map .d) m:=by intro l m e g;refine⟨by simpa using e,fun k c x h i=>?_⟩;simp only [bG,bZ] at h;obtain⟨d,o,rfl⟩:=h;exact .d (g k d x o i)
 unfold vI at j;split at j <;> simp only [aL,reduceCtorEq] at j
 ·subst j;obtain⟨a,b,rfl,e,g,t,y⟩:=B.cw.nc;exact⟨_,a,b,_,_,rfl,rfl,H (o e t) ⟨C,E⟩,o g y⟩
 ·subst j;obtain⟨a,b,rfl,e,g,t,y⟩:=B.nc;exact⟨_,a,b,_,_,rfl,rfl,H ⟨e,t⟩ ⟨C,E⟩,⟨g,y⟩⟩
def BT:Option Nat->List aF->Bool
 | some t,o::_=>match o.guard with
  | some (u,_)=>t == u
  | none=>false
 | _,_=>false
def marks:List aF->List (Bool×aF)
 | []=>[]
 | o::r=>(BT o.dst r,o)::marks r
def yf(R:St->Prop)(Q:AE->St->Prop)(b:Option Nat)(s:List (Nat×Bool×AV))(d:List DE):bK->List (Nat×HO)->Prop:=fun c a=>match c with
 | .ret v=>R ⟨bX s b (true,v),a,d⟩
 | .aQ x=>Q (.aQ x) ⟨s,a,d⟩
def BU(R:St->Prop)(a:Option Nat)(s:List (Nat×Bool×AV))(d:List DE)(b:Bool)(c:List (Nat×HO)):Prop:=R ⟨bX s a (true,.d (.lit (.bool b))),c,d⟩
def yg(R:St->Prop)(Q:AE->St->Prop)(b:Option Nat)(s:List (Nat×Bool×AV))(d:List DE):bK->List (Nat×HO)->Prop:=fun c a=>match c with
 | .ret v=>R ⟨bX s b (true,v),a,d⟩
 | .aQ x=>Q (.aQ x) ⟨[],a,d⟩
def jR(P:Program)(a:Cx)(R:St->Prop)(Q:AE->St->Prop)(b:Option Nat)(s:List (Nat×Bool×AV))(h:List (Nat×HO))(d:List DE)(c:FuncId)(e:List AV):Prop :=
 ∃ T,cW P c T/\T {a with B:=newName h,top:=true} e h (yg R Q b s d)
theorem nh{P:Program}{a:Cx}{R:St->Prop}{Q:AE->St->Prop}{b:Option Nat}{s:List (Nat×Bool×AV)}{h:List (Nat×HO)}{d:List DE}{c:FuncId}{e:List AV}(T:Cx->List AV->List (Nat×HO)->(bK->List (Nat×HO)->Prop)->Prop)(f:cW P c T)(g:T {a with B:=newName h,top:=true} e h (yg R Q b s d)):jR P a R Q b s h d c e:=⟨T,f,g⟩
def vJ(P:Program)(a:Cx)(R:St->Prop)(Q:AE->St->Prop)(b:Option Nat)(s:List (Nat×Bool×AV))(h:List (Nat×HO))(d:List DE)(c:FuncId)(e:List AV):Prop :=
 ∃ T,cW P c T/\T {a with B:=newName h,top:=true} e h (yf R Q b s d)
theorem aV{P:Program}{a:Cx}{R:St->Prop}{Q:AE->St->Prop}{b:Option Nat}{s:List (Nat×Bool×AV)}{h:List (Nat×HO)}{d:List DE}{c:FuncId}{e:List AV}(T:Cx->List AV->List (Nat×HO)->(bK->List (Nat×HO)->Prop)->Prop)(f:cW P c T)(g:T {a with B:=newName h,top:=true} e h (yf R Q b s d)):vJ P a R Q b s h d c e:=⟨T,f,g⟩
def cX(P:Program)(b:Cx)(Q:AE->St->Prop):List Out->List (Bool×aF)->St->Prop
 | _,[],a=>Q .normal a
 | i,(fl,g)::r,a=>match fm a.s g.guard with
  | none=>False
  | some (false,_)=>match g.k with
   | .call _ _=>cX P b Q i.tail r ⟨bX a.s g.dst (false,.d (.lit (.bool false))),a.h,a.d⟩
   | .panic _ | .defer _ _=>False
   | _=>cX P b Q i r ⟨bX a.s g.dst (false,.d (.lit (.bool false))),a.h,a.d⟩
  | some (true,_)=>match g.k with
   | .call f k=>match i with
    | []=>False
    | o::s=>match dd a.s (f::k) with
     | some (j,m::h)=>match fW m h with
      | some (n,p)=>match gK a.h p with
       | some (u,q)=>(eP j/\b.C n u o)/\match o with
        | .ret d=>(q=true->fo d)/\cX P b Q s r ⟨bX a.s g.dst (true,.d d),a.h,a.d⟩
        | .aQ d=>(q=true->fo d)/\Q (.aQ d) a
        | .fH _ _=>False
        | .fA _ _ _ _=>False
        | .fa v=>q=false/\cX P b Q s r ⟨bX a.s g.dst (true,.mp (newName a.h)),ea a.h [(newName a.h,.aA (v.map fun e=>(e.1,AV.d e.2)))],a.d⟩
       | none=>False
      | none=>False
     | _=>False
   | .op x=>match dd a.s x.gA with
    | none=>False
    | some (j,h)=>match dY a.h x h with
     | none=>False
     | some e=>(rH x j h/\e.c)/\match fl with
      | true=>(match g.dst,e.v with
       | some t,.d (.lit (.bool c))=>(if c=true then cX P b Q i r ⟨(t,true,.d (.lit (.bool true)))::a.s,ea a.h e.up,a.d⟩ else True) /\(if c=false then cX P b Q i r ⟨(t,true,.d (.lit (.bool false)))::a.s,ea a.h e.up,a.d⟩ else True)
       | _,_=>False)
      | false=>cX P b Q i r ⟨bX a.s g.dst (true,e.v),ea a.h e.up,a.d⟩
   | .bl f k=>match dd a.s (f::k) with
    | some (j,m::h)=>eP j/\match fW m h with
     | some (n,p)=>vJ P b (cX P b Q i r) Q g.dst a.s a.h a.d n p
     | none=>False
    | _=>False
   | .hC f k=>match dd a.s (f::k) with
    | some (j,.d (.fn (.yield l) [] [])::h)=>eP j/\l=b.l/\b.Y h a.h (BU (cX P b Q i r) g.dst a.s a.d)
    | _=>False
   | .panic x=>g.guard=none/\match fV a.s x with
    | some (true,.d (.cQ t y))=>Q (.aQ (.cQ t y)) a
    | _=>False
   | .defer f k=>g.guard=none/\g.dst=none/\b.top=true/\match dd a.s (f::k) with
    | some (j,m::h)=>eP j/\match vI m h with
     | some w=>cX P b Q i r ⟨a.s,a.h,w::a.d⟩
     | none=>False
    | _=>False
theorem bO.heap{E:Env}{G b:Gh}{c:St}{a:Act}{w d:World}{nt:Nat}(H:bO E G c a w nt){f:List (Nat×HO)}(h:aD E b (look f) d)(g:aW G w b d):bO E b ⟨c.s,f,c.d⟩ a d nt :=
 ⟨h,H.sz,fun t e i=>(H.sr t e i).mono g,H.defers.mono g⟩
theorem SO{P:Program}{c:Option Nat}{o:Oper}{a:Act}{w:World}{K:Act->World->Prop}{Q:Exit->Act->World->Prop}{f:Operand}{d:Array Operand}{j:Array TypeId}(i:o.op=.call {callee:=.value f,args:=d,argTypes:=j}){l:Nat}(k:a.eval f=.func (.yield l) #[] #[]){R:Ending->World->Prop}(m:YieldAt (Fr c) 0 P l (d.toList.map a.eval).toArray w R)(n:∀ v b,R (.returned v) b->K (a.put o.dst v) b)(p:∀ g b,R (.panicked g) b->Q (.panic g) a b)(q:∀ b,¬ R .outgrown b):o.wpIn (Fr c) 0 P a w K Q:=by
 refine⟨fun f _=>trivial,?_⟩;show o.uponIn (Fr c) 0 P a K Q ((o.semAt c a.eval).run P w);rw [Az c a.eval o (by simp [i])];obtain⟨r,s,t,u,x,y⟩:=m;have z:(execOp a.eval o).run P w=.ok (.round l r s t u) w:=by
  have e:#[]++Array.map a.eval d=(d.toList.map a.eval).toArray:=by apply va;simp
  simp only [execOp,i,resolve,k,Deferred.ofValue,c',dV,dt,invoke];rw [e];exact x
 rw [z];refine⟨fun A=>by simp [Fr,Fence.wide] at A,y.mono fun e b h=>?_⟩;cases e with
 | returned v=>exact n v b h
 | panicked g=>exact p g b h
 | outgrown=>exact absurd h (q b)
theorem tI{K:Env}{P:Program}{O:Option Nat}{Z:Array Oper}{nt:Nat}{cx:Cx}{Q:AE->St->Prop}(b2:qb P K cx O):∀ (c0:List aF) (I:List Out) (k:Nat) (n:St) (q:Gh) (i:Act) (m:World),
  (∀ j a0,c0[j]?=some a0->∃ o,Z[k+j]?=some o/\fI P Z nt o a0)->bO K q n i m nt->cX P cx Q I (marks c0) n ->wpOpsIn (Fr O) 0 P Z (gL K nt Q) (List.range' k c0.length) i m
 | [],I,k,n,q,i,m,c1,H,h=>⟨q,n,H,by cases I <;> exact h⟩
 | a0::r,I,k,n,q,i,m,c1,H,h=>by
  obtain⟨o,ho,L⟩:=c1 0 a0 rfl;rw [kl] at ho;rw [bN,ve,wpOpsIn_cons];have b6:∀ (I:List Out) (b3:St) (z:Gh) (a':Act) (A:World),bO K z b3 a' A nt->cX P cx Q I (marks r) b3->wpOpsIn (Fr O) 0 P Z (gL K nt Q) (List.range' (k+1) r.length) a' A:=fun I b3 z a' A e0 e4 =>tI b2 r I (k+1) b3 z a' A (fun j e5 e6=>by obtain⟨e7,e8,e9⟩:=c1 (j+1) e5 (by simpa using e6);exact⟨e7,by rw [<- e8];congr 1;omega,e9⟩) e0 e4
  have c2:∀ (Y:List (Nat×HO)) (z:Gh) (A:World) (b7:Bool) (J:AV) (b4:Value),aD K z (look Y) A->aW q m z A->(b7=true->aC z A J b4)->(b7=false->b4=undef) ->bO K z ⟨bX n.s a0.dst (b7,J),Y,n.d⟩ (i.put o.dst b4) A nt:=fun Y z A b7 J b4 V f0 h1 D=>by have:=(H.heap V f0).put (up:=[]) (dst:=a0.dst) (g:=b7) (v:=J) (val:=b4) (aW.refl z A) V (fun d hd=>L.lt d (by rw [<- L.dst];exact hd)) h1 D;rw [L.dst] at this |-;exact this
  have d5:∀ I:List Out,BI cx.C n a0 (fun d=>Q (.aQ d) n) (fun _ b3=>cX P cx Q I (marks r) b3)->wpOpIn (Fr O) 0 P Z (gL K nt Q) k (wpOpsIn (Fr O) 0 P Z (gL K nt Q) (List.range' (k+1) r.length)) i m:=fun I h=>by
   rcases BJ (E:=K) (ro:=O) b2.c ho L h with ⟨h0,h1,D,h3,h4⟩ | ⟨d,d6,h5,h1,D,h3,h4⟩
   ·refine h1 q i m (look n.h) H.wr H.sz (fun p C=>H.sr _ _ (D.rs p C)) D.ao D.up _ _ (fun b4 A z q1 W R q4=>?_);exact b6 I _ z _ A (H.put q1 W (fun d hd=>L.lt d (by rw [<- h3];exact hd)) R q4) h4
   ·refine h1 q i m (look n.h) H.wr H.sz (fun p C=>H.sr _ _ (D p C)) h3 _ _ (fun J A z q1 W R=>?_);exact⟨z,n,J,d,⟨W,H.sz,fun t e he=>(H.sr t e he).mono q1,H.defers.mono q1⟩,rfl,R,h4⟩
  unfold marks cX at h;split at h
  ·exact h.elim
  ·rename_i d6 b1;have V:=jO L b1 (G:=q) (w:=m) (a:=i) (fun p C=>H.sr _ _ (tv b1 p C));have d7:∀ I:List Out,cX P cx Q I (marks r) ⟨bX n.s a0.dst (false,.d (.lit (.bool false))),n.h,n.d⟩->wpOpIn (Fr O) 0 P Z (gL K nt Q) k (wpOpsIn (Fr O) 0 P Z (gL K nt Q) (List.range' (k+1) r.length)) i m:=fun I h =>vC ho V (b6 I _ q _ m (c2 n.h q m false _ undef H.wr (aW.refl q m) (by simp) (fun _=>rfl)) h)
   split at h
   ·exact d7 _ h
   ·exact h.elim
   ·exact h.elim
   ·exact d7 _ h
  ·rename_i d6 b1;have V:=jO L b1 (G:=q) (w:=m) (a:=i) (fun p C=>H.sr _ _ (tv b1 p C));split at h
   ·rename_i f F M;split at h
    ·exact h.elim
    ·rename_i o f1;refine d5 f1 (.inr ?_);unfold jP;simp only [b1,M];split at h
     ·rename_i gs b5 S U;simp only [U];split at h
      ·rename_i b8 d8 d0;simp only [d0];split at h
       ·rename_i ds h6 d1;simp only [d1];refine⟨o,fun _=>h.1,?_⟩;have D:=h.2;cases o with
        | ret d=>exact⟨D.1,D.2⟩
        | aQ d=>exact⟨trivial,D⟩
        | fa es=>exact⟨trivial,D.1,D.2⟩
        | fH cs es=>exact D.elim
        | fA sz l c cs=>exact D.elim
       ·exact h.elim
      ·exact h.elim
     ·exact h.elim
   ·rename_i x M;refine d5 I (.inr ?_);unfold jP;simp only [b1,M];split at h
    ·exact h.elim
    ·rename_i gs S U;simp only [U];split at h
     ·exact h.elim
     ·rename_i e f2;simp only [f2];refine⟨fun _=>h.1,fun _=>trivial,?_⟩;have D:=h.2;split at D
      ·split at D
       ·rename_i t c hd f3;rw [hd,f3];cases c with
        | true=>simpa [bX] using D
        | false=>simpa [bX] using D
       ·exact D.elim
      ·exact D
   ·rename_i a1 X M;split at h
    ·rename_i gs b5 S U;obtain⟨b9,h⟩:=h;split at h
     ·rename_i b8 d8 d0;obtain⟨T,d9,h⟩:=h;obtain⟨l1,l2⟩:=lx (G:=q) (w:=m) (a:=i) H.wr.gl U b9 (fun p C=>H.sr _ _ (kx p C));obtain⟨f,F,a2,q1,W,R⟩:∃ f F a2,o.op=.call {callee:=.value f,args:=F,argTypes:=a2}/\CO f a1/\bH CO F.toList X:=by have:=L.k;rw [M] at this;exact this
      have b0:S.length=X.length:=by simpa using l1
      have d2:aC q m b5 (i.eval f):=l2 (a1,b5) (by simp) f W;obtain⟨x,y,e1,e2,e3⟩:=oA d0 d2 (us:=F.toList.map i.eval) (by simp [b0];have:=gD R;simpa using this) (jL F.toList X S R b0 (fun p C=>l2 p (by simp;exact .inr C)));have f4:=d9.2 (K.at_ n.h q m) {cx with B:=newName n.h,top:=true} q n.h m d8 _ _ H.wr.tH ⟨rfl,b2.y.at_ H.wr _ _,fun _=>rfl,b2.c⟩ ⟨e2,e3⟩ h;refine kv ho V (jM q1 e1 d9.1 f4 (fun J A N=>?_) (fun ch A N=>?_) (fun A N=>?_))
      ·obtain⟨z,Y,k1,f5,k2,k3⟩:=N;obtain⟨m1,m2⟩:=H.wr.kz k1;exact b6 I _ z _ A (c2 Y z A true f5 J m1 m2 (fun _=>k2) (by simp)) k3
      ·obtain⟨z,Y,k1,J,d,k2,k3,k4⟩:=N;obtain⟨m1,m2⟩:=H.wr.kz k1;exact⟨z,_,J,d,H.heap m1 m2,k2,k3,k4⟩
      ·obtain⟨_,_,_,N⟩:=N;exact N
     ·exact h.elim
    ·exact h.elim
   ·rename_i a1 X M;split at h
    ·rename_i gs l S U;obtain⟨b9,rfl,h⟩:=h;obtain⟨l1,l2⟩:=lx (G:=q) (w:=m) (a:=i) H.wr.gl U b9 (fun p C=>H.sr _ _ (kx p C));obtain⟨f,F,a2,q1,W,R⟩:∃ f F a2,o.op=.call {callee:=.value f,args:=F,argTypes:=a2}/\CO f a1/\bH CO F.toList X:=by have:=L.k;rw [M] at this;exact this
     have b0:S.length=X.length:=by simpa using l1
     obtain⟨x,y,e1,e2,e3,_⟩:=((l2 (a1,.d (.fn (.yield cx.l) [] [])) (by simp) f W).cw).nc;have f6:x=#[]:=AD (by simpa using e2);have f7:y=#[]:=AD (by simpa using e3);subst f6;subst f7;have f8:=b2.y O q n.h m S (F.toList.map i.eval) _ H.wr ⟨by simp [b0];have:=gD R;simpa using this,jL F.toList X S R b0 (fun p C=>l2 p (by simp;exact .inr C))⟩ h;refine kv ho V (SO q1 e1 f8 (fun J A N=>?_) (fun ch A N=>?_) (fun A N=>?_))
     ·obtain⟨z,Y,b,k1,k2,k3,k4⟩:=N;injection k3 with k3;subst k3
      exact b6 I _ z _ A (c2 Y z A true _ _ k2 k1 (fun _=>lZ b) (by simp)) k4
     ·obtain⟨z,Y,b,k1,k2,k3,k4⟩:=N;cases k3
     ·obtain⟨z,Y,b,k1,k2,k3,k4⟩:=N;cases k3
    ·exact h.elim
   ·rename_i f9 M;obtain⟨d3,h⟩:=h;split at h
    ·rename_i t y U;obtain⟨x,q1,W⟩:∃ x,o.op=.panic x/\CO x f9:=by have:=L.k;rw [M] at this;exact this
     have V:=jO L (s:=n.s) (g:=true) (rs:=[]) (by rw [d3];rfl) (G:=q) (w:=m) (a:=i) (fun p C=>by simp at C);have hr:=(rG (G:=q) (w:=m) (a:=i) U rfl (fun t' g0=>by subst g0;exact H.sr t' _ U) H.wr.gl x W).cw;generalize g1:i.eval x=u at hr;have g2:=hr;cases hr;rename_i J hr;refine kv ho V ⟨fun f _=>trivial,?_⟩;show o.uponIn (Fr O) 0 P i _ _ ((o.semAt O i.eval).run P m);rw [Az O i.eval o (by simp [q1])];have d4:(execOp i.eval o).run P m=.halt (.panic (.iface t J)) m:=by simp [execOp,q1,g1,Instr.panic,goPanic]
     rw [d4];exact⟨q,n,_,_,H,rfl,g2,h⟩
    ·exact h.elim
   ·rename_i a1 X M;obtain⟨d3,g3,g4,h⟩:=h;have g5:=b2.top g4;subst g5;split at h
    ·rename_i gs b5 S U;obtain⟨b9,h⟩:=h;split at h
     ·rename_i h7 g6;obtain⟨l1,l2⟩:=lx (G:=q) (w:=m) (a:=i) H.wr.gl U b9 (fun p C=>H.sr _ _ (kx p C));obtain⟨f,F,a2,q1,W,R⟩:∃ f F a2,o.op=.defer {callee:=.value f,args:=F,argTypes:=a2}/\CO f a1/\bH CO F.toList X:=by have:=L.k;rw [M] at this;exact this
      have b0:S.length=X.length:=by simpa using l1
      have d2:aC q m b5 (i.eval f):=l2 (a1,b5) (by simp) f W;have V:=jO L (s:=n.s) (g:=true) (rs:=[]) (by rw [d3];rfl) (G:=q) (w:=m) (a:=i) (fun p C=>by simp at C);have d1:=jL F.toList X S R b0 (fun p C=>l2 p (by simp;exact .inr C));have g7:(F.map i.eval).size=S.length:=by simp [b0];have:=gD R;simpa using this
      obtain⟨b8,x,y,g8,g9,e1,rfl,e2,e3⟩:=SN g6 d2 (us:=F.map i.eval) g7 (fun k c u M hu=>d1 k c u M (by simpa using hu));refine kv ho V ⟨fun f _=>trivial,?_⟩;show o.uponIn (Fr none) 0 P i _ _ ((o.semAt none i.eval).run P m);have d4:(o.semAt none i.eval).run P m=.ok (.defer {target:=.fn (.func b8) y,args:=x++F.map i.eval}) m:=by rw [Oper.semAt_none];simp [execOp,q1,resolve,e1,Deferred.ofValue]
      rw [d4];show wpOpsIn (Fr none) 0 P Z _ _ (({i with defers:=_}:Act).put o.dst undef) m;rw [<- L.dst,g3];have H2:bO K q ⟨n.s,n.h,.fn b8 g8 g9::n.d⟩ {i with defers:={target:=.fn (.func b8) y,args:=x++F.map i.eval}::i.defers} m nt:=⟨H.wr,H.sz,fun t e he=>(by obtain⟨J,k1,k2,k3⟩:=H.sr t e he;exact⟨J,k1,k2,k3⟩),.cons (.fn e2 e3) H.defers⟩
      exact b6 I _ q _ m H2 h
     ·exact h.elim
    ·exact h.elim
structure Li where
 dst:Option Nat
 rs:List Nat
 ao:List Nat
 up:List Nat
def li(r:Rec):Li:=⟨r.dst,r.rs.map (·.1),r.ao.map (·.1),r.up.map (·.1)⟩
def kA(x y:Li):Bool :=
 (match x.dst with | some d=>(y.rs.any fun p=>p == d)||y.dst == some d | none=>false) ||
 (match y.dst with | some d=>(x.rs.any fun p=>p == d) | none=>false) ||
 x.up.any (fun n=>y.up.contains n||y.ao.contains n) ||
 y.up.any (fun n=>x.ao.contains n)
def kB(R:List Li)(a:List (List Nat)):Bool :=
 (List.range R.length).all fun j=>(List.range j).all fun i =>
  match R[i]?,R[j]? with
  | some x,some y=>!kA x y||(a.getD j []).contains i
  | _,_=>true
def de(R:List Li)(a:List (List Nat)):Bool:=kB R.reverse a
theorem SP(x y:Rec):kA (li x) (li y)=fb x y:=by unfold kA fb li hE;simp only [List.any_map,vh];rfl
theorem oG(R:List Rec)(a:List (List Nat)):kB (R.map li) a=gM R a:=by unfold kB gM;rw [db];congr 1;funext j;congr 1;funext i;simp only [bG];cases R[i]? <;> cases R[j]? <;> simp [SP]
def gN(b:Bool)(c:Option Nat)(d:List (Nat×Bool×AV))(e f:List (Nat×HO))(a:List Li):List Li :=
 if b=true then ⟨c,d.map (·.1),e.map (·.1),f.map (·.1)⟩::a else a
def ec(g:Bool)(C:FuncId->List D->Out->Prop)(i:D->St->Prop)(K:List Li->St->Prop):List Out->List (Bool×aF)->St->List Li->Prop
 | _,[],a,h=>K h a
 | k,(fl,b)::r,a,h=>match fm a.s b.guard with
  | none=>False
  | some (false,j)=>match b.k with
   | .call _ _=>ec g C i K k.tail r ⟨bX a.s b.dst (false,.d (.lit (.bool false))),a.h,a.d⟩ (gN g b.dst j [] [] h)
   | _=>ec g C i K k r ⟨bX a.s b.dst (false,.d (.lit (.bool false))),a.h,a.d⟩ (gN g b.dst j [] [] h)
  | some (true,j)=>match b.k with
   | .call f m=>match k with
    | []=>False
    | o::u=>match dd a.s (f::m) with
     | some (w,y::v)=>match fW y v with
      | some (z,n)=>match gK a.h n with
       | some (A,p)=>(eP w/\C z A o)/\match o with
        | .ret d=>(p=true->fo d)/\ec g C i K u r ⟨bX a.s b.dst (true,.d d),a.h,a.d⟩ (gN g b.dst (j++bE a.s (f::m)) (eE a.h n) [] h)
        | .aQ d=>(p=true->fo d)/\i d a
        | .fA B l c q=>p=false/\ec g C i K u r ⟨bX a.s b.dst (true,.aE (newName a.h) 0 B l c),ea a.h [(newName a.h,.box true (q.map .d))],a.d⟩ (gN g b.dst (j++bE a.s (f::m)) (eE a.h n) [(newName a.h,.box true (q.map .d))] h)
        | .fH q s=>p=false/\ec g C i K u r ⟨bX a.s b.dst (true,.ptr (newName a.h) 0),ea a.h (iP (newName a.h) q s),a.d⟩ (gN g b.dst (j++bE a.s (f::m)) (eE a.h n) (iP (newName a.h) q s) h)
        | .fa s=>p=false/\ec g C i K u r ⟨bX a.s b.dst (true,.mp (newName a.h)),ea a.h [(newName a.h,.aA (s.map fun e=>(e.1,AV.d e.2)))],a.d⟩ (gN g b.dst (j++bE a.s (f::m)) (eE a.h n) [(newName a.h,.aA (s.map fun e=>(e.1,AV.d e.2)))] h)
       | none=>False
      | none=>False
     | _=>False
   | .op x=>match dd a.s x.gA with
    | none=>False
    | some (w,v)=>match dY a.h x v with
     | none=>False
     | some e=>(rH x w v/\e.c)/\match fl with
      | true=>(match b.dst,e.v with
       | some t,.d (.lit (.bool c))=>(if c=true then ec g C i K k r ⟨(t,true,.d (.lit (.bool true)))::a.s,ea a.h e.up,a.d⟩ (gN g b.dst (j++bE a.s x.gA) e.ao e.up h) else True) /\(if c=false then ec g C i K k r ⟨(t,true,.d (.lit (.bool false)))::a.s,ea a.h e.up,a.d⟩ (gN g b.dst (j++bE a.s x.gA) e.ao e.up h) else True)
       | _,_=>False)
      | false=>ec g C i K k r ⟨bX a.s b.dst (true,e.v),ea a.h e.up,a.d⟩ (gN g b.dst (j++bE a.s x.gA) e.ao e.up h)
   | _=>False
def iB(a:Bool)(b:List Rec):List Li:=if a=true then (b.map li).reverse else []
theorem qe(a:Bool)(b:List Rec)(c:Option Nat)(d:List (Nat×Bool×AV))(g:Bool)(v:AV)(e f:List (Nat×HO)):iB a (b++[⟨c,d,g,v,e,f⟩])=gN a c d e f (iB a b):=by cases a <;> simp [iB,gN,li]
theorem iS{dr:Bool}{C:FuncId->List D->Out->Prop}{m:D->St->Prop}{K:List Li->St->Prop}:∀ {n:List aF}{g:List Out}{b:St}{recs:List Rec},ec dr C m K g (marks n) b (iB dr recs)->g_ C m (fun recs b=>K (iB dr recs) b) n b recs
 | [],g,b,recs,h=>by cases g <;> exact h
 | E::r,g,b,recs,h=>by
  unfold marks ec at h;unfold g_;split at h
  ·exact h.elim
  ·rename_i p i;refine .inl ⟨p,i,?_⟩;split at h <;> exact iS (by rw [qe];exact h)
  ·rename_i p i;refine .inr ?_;unfold jP;simp only [i];split at h
   ·rename_i f F j;simp only [j];split at h
    ·exact h.elim
    ·rename_i o G;split at h
     ·rename_i q H s k;simp only [k];split at h
      ·rename_i I J u;simp only [u];split at h
       ·rename_i L M v;simp only [v];refine⟨o,fun _=>h.1,?_⟩;have a:=h.2;cases o with
        | ret d=>exact⟨a.1,iS (by rw [qe];exact a.2)⟩
        | aQ d=>exact⟨trivial,a⟩
        | fa w=>exact⟨trivial,a.1,iS (by rw [qe];exact a.2)⟩
        | fH y w=>exact⟨trivial,a.1,iS (by rw [qe];exact a.2)⟩
        | fA N l c y=>exact⟨trivial,a.1,iS (by rw [qe];exact a.2)⟩
       ·exact h.elim
      ·exact h.elim
     ·exact h.elim
   ·rename_i x j;simp only [j];split at h
    ·exact h.elim
    ·rename_i q s k;simp only [k];split at h
     ·exact h.elim
     ·rename_i e z;simp only [z];refine⟨fun _=>h.1,fun _=>trivial,?_⟩;have a:=h.2;split at a
      ·split at a
       ·rename_i t c A B;rw [A] at a |-;rw [B];cases c with
        | true=>exact iS (by rw [qe];simpa [bX] using a)
        | false=>exact iS (by rw [qe];simpa [bX] using a)
       ·exact a.elim
      ·exact iS (by rw [qe];exact a)
   ·exact h.elim
theorem rM{C:FuncId->List D->Out->Prop}{b:D->St->Prop}{K c:List Rec->St->Prop}(a:∀ r s,K r s->c r s):∀ {d:List aF}{e:St}{f:List Rec},g_ C b K d e f->g_ C b c d e f
 | [],_,_,h=>a _ _ h
 | _::_,_,_,h=>by
  rcases h with ⟨g,i,j⟩ | h
  ·exact .inl ⟨g,i,rM a j⟩
  ·exact .inr (SG (fun _ _ h=>rM a h) h)
theorem Jb{C:FuncId->List D->Out->Prop}{Q:AE->St->Prop}{a:St}{c:List Out}{b:List aF}(h:ec false C (fun d a=>Q (.aQ d) a) (fun _ a=>Q .normal a) c (marks b) a []):g_ C (fun d a=>Q (.aQ d) a) (fun _ a=>Q .normal a) b a [] :=
 iS (dr:=false) (K:=fun _ a=>Q .normal a) (recs:=[]) h
theorem Jc{C:FuncId->List D->Out->Prop}{Q:AE->St->Prop}{b:St}{e:List Out}{d:List aF}{c:List (List Nat)}(h:ec true C (fun _ _=>False) (fun R a=>de R c=true/\Q .normal a) e (marks d) b []):g_ C (fun _ _=>False) (fun R a=>gM R c=true/\Q .normal a) d b [] :=
 rM (fun R b h=>⟨by rw [<- oG,<- h.1,de,iB,aj rfl,xI],h.2⟩) (iS (dr:=true) (K:=fun R a=>de R c=true/\Q .normal a) (recs:=[]) h)
theorem Jd:∃ f:Bool->(FuncId->List D->Out->Prop)->(D->St->Prop)->(List Li->St->Prop)->List Out->List (Bool×aF)->St->List Li->Prop,f=ec:=⟨_,rfl⟩
noncomputable def eQ:Bool->(FuncId->List D->Out->Prop)->(D->St->Prop)->(List Li->St->Prop)->List Out->List (Bool×aF)->St->List Li->Prop:=Classical.choose Jd
theorem lz:eQ=ec:=xJ Jd
theorem SQ(d:Bool)(C:FuncId->List D->Out->Prop)(e:D->St->Prop)(K:List Li->St->Prop)(a:List Out)(b:St)(c:List Li):eQ d C e K a [] b c=K c b:=by rw [lz];cases a <;> rw [ec]
theorem SR(g:Bool)(C:FuncId->List D->Out->Prop)(h:D->St->Prop)(K:List Li->St->Prop)(k:List Out)(fl:Bool)(b:aF)(r:List (Bool×aF))(a:St)(i:List Li):eQ g C h K k ((fl,b)::r) a i=(match fm a.s b.guard with
  | none=>False
  | some (false,j)=>match b.k with
   | .call _ _=>eQ g C h K k.tail r ⟨bX a.s b.dst (false,.d (.lit (.bool false))),a.h,a.d⟩ (gN g b.dst j [] [] i)
   | _=>eQ g C h K k r ⟨bX a.s b.dst (false,.d (.lit (.bool false))),a.h,a.d⟩ (gN g b.dst j [] [] i)
  | some (true,j)=>match b.k with
   | .call f m=>match k with
    | []=>False
    | o::u=>match dd a.s (f::m) with
     | some (w,y::v)=>match fW y v with
      | some (z,n)=>match gK a.h n with
       | some (A,p)=>(eP w/\C z A o)/\match o with
        | .ret d=>(p=true->fo d)/\eQ g C h K u r ⟨bX a.s b.dst (true,.d d),a.h,a.d⟩ (gN g b.dst (j++bE a.s (f::m)) (eE a.h n) [] i)
        | .aQ d=>(p=true->fo d)/\h d a
        | .fA B l c q=>p=false/\eQ g C h K u r ⟨bX a.s b.dst (true,.aE (newName a.h) 0 B l c),ea a.h [(newName a.h,.box true (q.map .d))],a.d⟩ (gN g b.dst (j++bE a.s (f::m)) (eE a.h n) [(newName a.h,.box true (q.map .d))] i)
        | .fH q s=>p=false/\eQ g C h K u r ⟨bX a.s b.dst (true,.ptr (newName a.h) 0),ea a.h (iP (newName a.h) q s),a.d⟩ (gN g b.dst (j++bE a.s (f::m)) (eE a.h n) (iP (newName a.h) q s) i)
        | .fa s=>p=false/\eQ g C h K u r ⟨bX a.s b.dst (true,.mp (newName a.h)),ea a.h [(newName a.h,.aA (s.map fun e=>(e.1,AV.d e.2)))],a.d⟩ (gN g b.dst (j++bE a.s (f::m)) (eE a.h n) [(newName a.h,.aA (s.map fun e=>(e.1,AV.d e.2)))] i)
       | none=>False
      | none=>False
     | _=>False
   | .op x=>match dd a.s x.gA with
    | none=>False
    | some (w,v)=>match dY a.h x v with
     | none=>False
     | some e=>(rH x w v/\e.c)/\match fl with
      | true=>(match b.dst,e.v with
       | some t,.d (.lit (.bool c))=>(if c=true then eQ g C h K k r ⟨(t,true,.d (.lit (.bool true)))::a.s,ea a.h e.up,a.d⟩ (gN g b.dst (j++bE a.s x.gA) e.ao e.up i) else True) /\(if c=false then eQ g C h K k r ⟨(t,true,.d (.lit (.bool false)))::a.s,ea a.h e.up,a.d⟩ (gN g b.dst (j++bE a.s x.gA) e.ao e.up i) else True)
       | _,_=>False)
      | false=>eQ g C h K k r ⟨bX a.s b.dst (true,e.v),ea a.h e.up,a.d⟩ (gN g b.dst (j++bE a.s x.gA) e.ao e.up i)
   | _=>False):=by
 simp only [lz]
 conv=>lhs;unfold ec
def tJ(s:List (Nat×Bool×AV)):List Nat->List AV->List (Nat×Bool×AV)
 | t::a,v::b=>tJ ((t,true,v)::s) a b
 | _,_=>s
def rN(b:Nat)(K:Bool->List (Nat×HO)->Prop):AE->St->Prop
 | .normal,a=>look a.h b=some (.obj 2)/\K true (aM a.h b (.obj 1))
 | .ret,a=>look a.h b=some (.obj 2)/\K false (aM a.h b (.obj 3))
 | .exit id,a=>look a.h b=some (.obj 2)/\K false (aM a.h b (.obj (id+4)))
 | .aQ _,_=>False
def vK(b c:Nat)(s:List (Nat×Bool×AV))(d:List DE)(Q:AE->St->Prop):bK->List (Nat×HO)->Prop
 | .aQ x,a=>Q (.aQ x) ⟨s,a,.mark b::d⟩
 | .ret _,a=>match look a c with
  | some (.obj 1)=>Q .normal ⟨s,aM a c .dead,.mark b::d⟩
  | some (.obj 3)=>Q .ret ⟨s,aM a c .dead,.mark b::d⟩
  | some (.obj (id+4))=>Q (.exit id) ⟨s,aM a c .dead,.mark b::d⟩
  | _=>False
def vL(ps:List Nat)(a:Nat)(s:List (Nat×Bool×AV))(A B:Nat->(AE->St->Prop)->St->Prop)(c:List AV)(h:List (Nat×HO))(K:Bool->List (Nat×HO)->Prop):Prop :=
 look h a=some (.obj 1)/\c.length=ps.length/\A (newName h) (fun e b=>match e with
  | .normal=>look b.h a=some (.obj 1)/\B (newName h) (rN a K) ⟨b.s,aM b.h a (.obj 2),b.d⟩
  | _=>False) ⟨tJ s ps c,h,[]⟩
def BV(B:Nat)(d:St)(R:(St->Prop)->St->Prop):Prop :=
 ∃ (X:Type) (a:X->St) (I:X->Prop) (c:X->Nat),(∃ x,I x/\Sub B d (a x))/\∀ x,I x->R (fun e=>∃ b,I b/\c b<c x/\Sub B e (a b)) (a x)
theorem SS{B:Nat}{a b:St}{R:(St->Prop)->St->Prop}(h:a=b):BV B a R=BV B b R:=by rw [h]
def qf(R:List Li)(h a:List (Nat×HO)):Prop:=∀ l∈R,∀ n∈l.ao,look a n=look h n
def vM(C:FuncId->List D->Out->Prop)(d:Bool)(e:List Out)(f:List (Bool×aF))(R:List Li)(a b c:St)(k:List Li->Prop):Prop :=
 match d with
 | false=>qf R b.h c.h/\k R
 | true=>ec true C (fun _ _=>False) (fun L g=>g.s=b.s/\(L.all fun l=>l.up.isEmpty)=true/\L.map (·.dst)=R.map (·.dst)/\k L) e f ⟨a.s,c.h,a.d⟩ []
def rO(P:Program)(g:Cx)(h:List (List Nat))(R:List Li)(i:Option aF)(S:St->(List Li->Prop)->Prop)(K:List Li->St->Prop)(Q:AE->St->Prop)(a:St):Prop :=
 (R.all fun l=>l.up.isEmpty)=true/\match i with
 | some ⟨b,j,.bl f c⟩=>match fm a.s j with
  | some (true,d)=>de (⟨b,(d++bE a.s (f::c)).map (·.1),[],[]⟩::R) h=true/\match dd a.s (f::c) with
   | some (k,m::n)=>eP k/\match fW m n with
    | some (o,p)=>jR P g (fun e=>S e (fun L=>K (⟨b,(d++bE a.s (f::c)).map (·.1),[],[]⟩::L) e)) Q b a.s a.h a.d o p
    | none=>False
   | _=>False
  | _=>False
 | _=>False
def tK(P:Program)(b:Cx)(j:List (List Nat))(R:List Li)(k:Option aF)(m:List aF)(n o:St->Prop)(Q:AE->St->Prop)(a:St):Prop :=
 match k with
 | some ⟨c,none,.bl f e⟩=>match dd a.s (f::e) with
  | some (p,q::r)=>eP p/\match fW q r with
   | some (g,h)=>jR P b o Q c a.s a.h a.d g h /\ec true b.C (fun _ _=>False) (fun i d=>((i.head?.any fun l=>l.rs.isEmpty&&l.ao.isEmpty)=true/\de i j=true)/\jR P b n Q c d.s d.h d.d g h) [] (marks m) a (⟨c,(bE a.s (f::e)).map (·.1),[],[]⟩::R)
   | none=>False
  | _=>False
 | _=>False
def yh(m i n:Nat)(a f:St):Prop:=∃ e b g z l c d,look a.h m=some (.box e b)/\look a.h n=some (.box g (d.map AV.d))/\b[i]?=some (.aE n 0 z l c)/\m≠n/\l*z<=d.length/\f=⟨a.s,aM (aM a.h n .dead) m (.box e (b.set i (.d (.sl z (e' z l d))))),a.d⟩
theorem yh.rel{E:Env}{G:Gh}{F X:St}{a:Act}{w:World}{nt m i n:Nat}(b7:yh m i n F X)(H:bO E G F a w nt):∃ G',bO E G' X a w nt:=by
 obtain⟨B,C,b8,h,l,c,y,Y,Z,h3,h4,h5,rfl⟩:=b7;obtain⟨b,I,ty,e1,e2,e3,e4⟩:=H.wr.box n b8 _ Z;obtain⟨Q,g⟩:=H.wr.freeze Z e1;obtain⟨b2,b9,c0,f1,f2,R,f4⟩:=g.box m B C (by rw [Hp.hx h4];exact Y);have a0:∀ d∈y,d.one=true:=fun d J=>e4.1 (.d d) (AJ J)
 obtain⟨q1,q2,q3⟩:=xP (z:=h) (len:=l) (ds:=y) h5 a0;have b0:∀ k d,y[k]?=some d->∃ u,I[k]?=some u/\au G.I w d u:=fun k d f=>by
  have b1:k<I.size:=by refine fx ?_ e3.1;rw [db];exact(bu.1 f).1
  exact⟨I[k],bb b1,(e3.2 k (.d d) _ (by simp [f]) (bb b1)).cw⟩
 have b3:∀ k,w.cell? ⟨b,k,none⟩=I[k]?:=fun k=>hW _ b k I ty _ e2
 have b4:∀ k d,(D.flat (e' h l y))[k]?=some d->y[k]?=some d:=fun k d f=>by
  rw [q3,eh] at f;split at f
  ·exact f
  ·cases f
 have c1:∀ v,aC G w (.aE n 0 h l c) v->au (fun a=>G.I a\/(a.block=b/\(w.cell? a).isSome=true)) w (.sl h (e' h l y)) v:=fun v S=>by
  obtain⟨M,e7,N,d0,d1,d2,_,rfl⟩:=kq S;rw [e1] at N;injection N with N;subst N
  refine .sl ⟨b,0,none⟩ (fun k=>(I[k]?).getD undef) q1.symm (eX d0 d1) d2 (.inl rfl) q2 (fun d J=>?_) (fun k d f=>?_) (fun k d f=>?_)
  ·rw [q3] at J;exact a0 d (ir J)
  ·obtain⟨u,p,_⟩:=b0 _ d (b4 k d f);rw [cc,bC];exact⟨.inr ⟨rfl,by rw [b3,p];rfl⟩,by rw [b3,p];rfl⟩
  ·obtain⟨u,p,K⟩:=b0 _ d (b4 k d f);simp only [p,Option.getD];exact K.mono Q.ef
 have d3:look (aM (aM F.h n .dead) m (.box B (C.set i (.d (.sl h (e' h l y))))))=Hp.ar (Hp.ar (look F.h) [(n,.dead)]) [(m,.box B (C.set i (.d (.sl h (e' h l y)))))]:=by funext k;rw [bh,bh];simp [Hp.ar]
 have d4:(Hp.ar (look F.h) [(n,.dead)]) m=some (.box B C):=by rw [Hp.hx h4];exact Y
 generalize (Hp.ar (look F.h) [(n,.dead)])=O at *;refine⟨_,⟨?_,H.sz,fun t e he=>(H.sr t e he).mono Q,H.defers.mono Q⟩⟩;rw [d3];have T:∀ k,(Hp.ar O [(m,.box B (C.set i (.d (.sl h (e' h l y)))))]) k≠some .dead->O k≠some .dead:=fun k q=>by
  by_cases e:k=m
  ·subst e;rw [d4];simp
  ·rw [Hp.hx e] at q;exact q
 have L:∀ k o,(∀ B C,o≠HO.box B C)->(Hp.ar O [(m,.box B (C.set i (.d (.sl h (e' h l y)))))]) k=some o->O k=some o:=fun k o ho q=>by
  by_cases e:k=m
  ·subst e;simp [Hp.ar] at q;exact absurd q.symm (ho _ _)
  ·rw [Hp.hx e] at q;exact q
 refine⟨g.os,g.tape,g.output,g.size,g.kept,g.i0,g.eo,g.cu,fun k f=>?_,fun k d5 d6 f=>?_,fun k M d7=>?_,fun k P M x p K U=>g.eC k P M x p (T k K) (T P U),fun r hr=>g.row r (L r _ (fun _ _ q=>by cases q) hr),fun r b5 A k d8 sz A' P d9 e0 x p=>g.eZ r b5 A k d8 sz A' P d9 e0 (L r _ (fun _ _ q=>by cases q) x) (L b5 _ (fun _ _ q=>by cases q) p),fun k s f=>g.obj k s (L k _ (fun _ _ q=>by cases q) f),fun k e5 f=>g.aA k e5 (L k _ (fun _ _ q=>by cases q) f),g.gb,g.gB⟩
 ·by_cases e:k=m
  ·subst e;simp [Hp.ar] at f
  ·rw [Hp.hx e] at f;exact g.fresh k f
 ·by_cases e:k=m
  ·subst e;simp [Hp.ar] at f;obtain⟨rfl,rfl⟩:=f;refine⟨b2,b9,c0,f1,f2,⟨by rw [GY];exact R.1,fun j V W x p=>?_⟩,fun V e6=>?_,f4.2⟩
   ·by_cases b6:j=i
    ·subst b6;rw [AP (bu.1 h3).1] at x;injection x with x;subst x
     have S:=R.2 j _ W h3 p;refine .d (c1 W ?_);cases S with
     | aE a1 a2 a3 a4 a5=>exact .aE a1 a2 a3 a4 a5
    ·rw [PK (gV b6)] at x;exact R.2 j V W x p
   ·rcases uV e6 with q | q
    ·exact f4.1 V q
    ·rw [q];rfl
  ·rw [Hp.hx e] at f;exact g.box k d5 d6 f
 ·obtain⟨x,p,K,U⟩:=g.bJ k M d7;exact⟨x,p,fun J=>K (T k J),U⟩
def rP(Q:AE->St->Prop):AE->St->Prop:=fun e a=>match e with
 | .normal=>∃ m i n b,yh m i n a b/\Q .normal b
 | e=>Q e a
def vc(P:Program):Cx->AC->(AE->St->Prop)->St->Prop
 | _,.skip,Q,e=>Q .normal e
 | f,.region none h,Q,e=>if waits h=true then g_ f.C (fun d e=>Q (.aQ d) e) (fun _ e=>Q .normal e) h e [] else ec false f.C (fun d e=>Q (.aQ d) e) (fun _ e=>Q .normal e) [] (marks h) e []
 | f,.region (some j) h,Q,e=>if waits h=true then g_ f.C (fun _ _=>False) (fun R i=>gM R j=true/\Q .normal i) h e [] else ec true f.C (fun _ _=>False) (fun R i=>de R j=true/\Q .normal i) [] (marks h) e []
 | f,.aY h,Q,e=>∃ v,cX P f Q v (marks h) e
 | f,.mb j k h,Q,e=>∃ n o,ec true f.C (fun _ _=>False) (fun R i=>de R j=true/\cX P f Q o (marks (h.drop k)) i) n (marks (h.take k)) e []
 | f,.p' j k h,Q,e=>0<k/\∃ n o q,ec true f.C (fun _ _=>False) (fun R i=>tK P f j R (h[k-1]?) ((h.drop k).take 1) (fun p=>cX P f Q o (marks (h.drop (k+1))) p) (fun p=>cX P f Q q (marks (h.drop k)) p) Q i) n (marks (h.take (k-1))) e []
 | f,.oC j k m h,Q,e=>(∃ n o,ec true f.C (fun _ _=>False) (fun R i=>de R j=true/\cX P f Q o (marks (h.drop m)) i) n (marks (h.take m)) e [])\/0<k/\∃ w n o q,ec true f.C (fun _ _=>False) (fun R i=>rO P f j R (h[k-1]?) (vM f.C w n (marks (h.take (k-1))) R e i) (fun x p=>ec true f.C (fun _ _=>False) (fun y z=>de y j=true/\cX P f Q q (marks (h.drop m)) z) o (marks ((h.drop k).take (m-k))) p x) Q i) n (marks (h.take (k-1))) e []
 | f,.seq a b,Q,e=>vc P f a (fp (vc P f b Q) Q) e
 | f,.cond c a b,Q,e=>match fV e.s c with
  | some (g,.d (.lit (.bool t)))=>g=true/\(t=true->vc P f a Q e)/\(t=false->vc P f b Q e)
  | _=>False
 | f,.block id b,Q,e=>vc P f b (iR id Q) e
 | f,.oD id b,Q,e=>∃ s,Sub f.B e s/\vc P f b (BQ f.B (iR id Q)) s
 | f,.qa id b,Q,e=>vc P f b (rP (iR id Q)) e
 | f,.loop b,Q,e=>BV f.B e (fun K=>vc P f b (fp K Q))
 | f,.range g ps A b,Q,e=>f.top=true/\match fV e.s g with
  | some (true,D)=>∀ u,match fW D [.d (.fn (.yield u) [] [])] with
   | some (E,F)=>∃ T,cW P E T/\T {B:=newName e.h+2,top:=true,l:=u,C:=f.C,Y:=vL ps (newName e.h+1) e.s (fun r=>vc P {f with B:=r,top:=false} A) (fun r=>vc P {f with B:=r,top:=false} b)}
     F (aM (aM e.h (newName e.h) (.obj 0)) (newName e.h+1) (.obj 1)) (vK (newName e.h) (newName e.h+1) e.s e.d Q)
   | none=>False
  | _=>False
 | _,.exit id,Q,e=>Q (.exit id) e
 | _,.ret,Q,e=>Q .ret e
theorem yi(p:Nat->Bool):∀ (R:List Rec) (k:Nat) (a:St),AL.run p R (k+1) a=AL.run (fun j=>p (j+1)) R k a
 | [],_,_=>rfl
 | r::R,k,a=>by simp only [AL.run];exact yi p R (k+1) _
theorem qg{E:Env}{P:Program}{ro:Option Nat}{l:Array Oper}{nt:Nat}{K:List Rec->St->Prop}{C:FuncId->List D->Out->Prop}(s:∀ f t u,C f t u->dO P f t u):∀ (m:List aF) (k:Nat) (a:St) (b:List Rec),
  (∀ j g,m[j]?=some g->∃ o,l[k+j]?=some o/\fI P l nt o g)->g_ C (fun _ _=>False) K m a b ->∃ R:List Rec,R.length=m.length/\(∀ i r,R[i]?=some r->gk E P ro l nt (k+i) r/\iA (AL.run (fun j=>decide (j<i)) R 0 a) r/\∀ d,r.dst=some d->d<nt)/\K (b++R) (AL.run (fun _=>true) R 0 a)
 | [],k,a,b,n,p=>⟨[],rfl,fun i r c=>by simp at c,by simpa [AL.run,g_] using p⟩
 | g::rest,k,a,b,n,p=>by
  obtain⟨o,v,w⟩:=n 0 g rfl;rw [kl] at v;rcases BJ (E:=E) (ro:=ro) s v w p with ⟨h,x,y,z,q⟩ | ⟨d,Q,S,x,y,z,q⟩
  ·obtain⟨R,A,B,F⟩:=qg s rest (k+1) _ _ (fun j G H=>by obtain⟨I,J,L⟩:=n (j+1) G (by simpa using H);exact⟨I,by rw [<- J];congr 1;omega,L⟩) q
   refine⟨h::R,by simp [A],fun i r c=>?_,?_⟩
   ·cases i with
    | zero =>
     simp at c;subst c;refine⟨x,?_,fun d M=>w.lt d (by rw [<- z];exact M)⟩;have:AL.run (fun j=>decide (j<0)) (h::R) 0 a=a:=by
      have e:(fun j=>decide (j<0))=(fun _:Nat=>false):=by funext j;simp
      rw [e,rJ]
     rw [this];exact y
    | succ i =>
     obtain⟨q1,N,O⟩:=B i r (by simpa using c);refine⟨by rw [show k+(i+1)=k+1+i by omega];exact q1,?_,O⟩;simp only [AL.run];rw [aj (by simp),yi];have e:(fun j=>decide (j+1<i+1))=(fun j=>decide (j<i)):=by funext j;simp
     rw [e];exact N
   ·simp only [AL.run];rw [yi];rw [show b++h::R=b++[h]++R by simp];exact F
  ·exact q.elim
theorem least{p:Nat->Prop}(h:∃ n,p n):∃ n,p n/\∀ m,p m->n<=m:=by
 obtain⟨n,d⟩:=h
 induction n using Nat.strongRecOn with
 | _ n e =>
  by_cases c:∃ m,m<n/\p m
  ·obtain⟨m,a,f⟩:=c;exact e m a f
  ·refine⟨n,d,fun m a=>?_⟩;rcases bB m n with b | b
   ·exact absurd ⟨m,b,a⟩ c
   ·exact b
theorem vN:∀ (h:List (Nat×HO)) (n:Nat) (o:HO),newName h<=n->newName (aM h n o)=n+1
 | [],n,o,_=>by simp [aM,newName]
 | (m,x)::r,n,o,a=>by simp only [newName] at a;have c:m+1<=n:=eX (PD _ _) a;have b:=vN r n o (eX (PE _ _) a);simp only [aM];rw [ab (by omega)];simp only [newName,b];omega
theorem tL(h:List (Nat×HO))(n:Nat)(o:HO):look (aM h n o)=Hp.ar (look h) [(n,o)]:=by funext m;rw [bh];rfl
theorem Je:∀ (l:List (Tmp×Value)) (T:Array Value),(l.foldl (fun t (p:Tmp×Value)=>t.setIfInBounds p.1 p.2) T).size=T.size
 | [],_=>rfl
 | p::r,T=>by rw [s',Je r];simp
theorem Jf{G:Gh}{w:World}:∀ {ps:List Nat}{args:List AV}{vals:List Value}{s:List (Nat×Bool×AV)}{T:Array Value},(∀ p∈ps,p<T.size)->vals.length=args.length->args.length=ps.length ->(∀ (k:Nat) (c:AV) (u:Value),args[k]?=some c->vals[k]?=some u->aC G w c u)->(∀ t e,bn s t=some e->jm G w {tmps:=T,defers:=[]} t e) ->∀ t e,bn (tJ s ps args) t=some e->jm G w {tmps:=(ps.zip vals).foldl (fun t (p:Tmp×Value)=>t.setIfInBounds p.1 p.2) T,defers:=[]} t e
 | [],[],[],s,T,_,_,_,_,h,t,e,a=>h t e a
 | p::ps,v::args,u::vals,s,T,j,b,f,l,h,t,e,a=>by
  rw [AO,s'];refine Jf (ps:=ps) (args:=args) (vals:=vals) (s:=(p,true,v)::s) (T:=T.setIfInBounds p u) (fun q n=>by simpa using j q (by simp [n])) (by simpa using b) (by simpa using f) (fun k c x o r=>l (k+1) c x (by simpa using o) (by simpa using r)) (fun m y g=>?_) t e a;simp only [bn] at g;split at g
  ·rename_i i;subst i;obtain rfl:=tc g;exact⟨u,by simp [j m (by simp)],fun _=>l 0 v u rfl rfl,by simp⟩
  ·rename_i i;exact IL (d:=p) (val:=u) (h m y g) i
 | [],_::_,_,s,T,_,_,f,_,_,t,e,a=>by simp at f
 | _::_,[],_,s,T,_,_,f,_,_,t,e,a=>by simp at f
 | [],[],_::_,s,T,_,b,_,_,_,t,e,a=>by simp at b
 | _::_,_::_,[],s,T,_,b,_,_,_,t,e,a=>by simp at b
theorem yj{E:Env}{a G:Gh}{h:List (Nat×HO)}{g w:World}(H:aD E G (look h) w)(d:aW a g G w){n b s:Nat}(e:a.box n=some b)(i:look h n=some (.obj s)) :
  G.box n=some b/\G.rc n=a.rc n/\w.heap[b]?=some (jI (a.rc n) s):=by
 obtain⟨k,c,j⟩:=H.obj n s i;have:=d.box n b e;rw [this] at c;injection c with c;subst c
 have f:=d.rc n b e;exact⟨this,f,by rw [<- f];exact j⟩
theorem qh(p:Nat->Bool)(r:Rec):∀ (R:List Rec) (k:Nat) (a:St),run p (R++[r]) k a=if p (k+R.length)=true then er (run p R k a) r else run p R k a
 | [],k,a=>by simp only [gx,run,mR,kl]
 | x::R,k,a=>by rw [dX,run,run,qh p r R,bN,show k+1+R.length=k+(R.length+1) by omega]
theorem tM(p:Nat->Bool):∀ (R:List Rec) (k:Nat) (a:St),(∀ r∈R,r.up=[])->(run p R k a).h=a.h
 | [],_,_,_=>rfl
 | x::R,k,a,h=>by
  rw [run,tM p R _ _ fun r b=>h r (cD _ b)];split
  ·simp only [er,h x (dj ..),ea]
  ·rfl
theorem vO(p:Nat->Bool):∀ (R:List Rec) (k:Nat) (a b:St),a.s=b.s->(run p R k a).s=(run p R k b).s
 | [],_,_,_,h=>h
 | x::R,k,a,b,h=>by
  rw [run,run];refine vO p R _ _ _ ?_;split
  ·simp only [er,h]
  ·exact h
theorem SU{s a:List (Nat×Bool×AV)}:∀ {x:aO}{e:Bool×AV},fV s x=some e->(∀ t,x=.tmp t->bn a t=bn s t)->fV a x=some e
 | .tmp t,e,h,b=>by rw [fV] at h |-;rw [b t rfl];exact h
 | .av d,e,h,_=>h
 | .lr g,e,h,_=>h
theorem BW{s b:List (Nat×Bool×AV)}:∀ {l:List aO}{x:List Bool×List AV},dd s l=some x->(∀ q∈bE s l,bn b q.1=some q.2)->dd b l=some x
 | [],x,h,_=>h
 | o::r,x,h,g=>by
  rw [dd] at h |-;cases a:fV s o with
  | none=>rw [a] at h;cases h
  | some e =>
   cases f:dd s r with
   | none=>rw [a,f] at h;cases h
   | some y =>
    have j:fV b o=some e:=SU a fun t k=>by subst k;have i:bn s t=some e:=a;rw [i];exact g (t,e) (oy i (dj ..))
    have m:dd b r=some y:=BW f fun q c=>g q (by
     cases o with
     | tmp t =>
      simp only [bE];split
      ·exact cD _ c
      ·exact c
     | av d=>exact c
     | lr d=>exact c)
    rw [a,f] at h;rw [j,m];exact h
theorem vP(p:Nat->Bool):∀ (A B:List Rec) (k:Nat) (a:St),run p (A++B) k a=run p B (k+A.length) (run p A k a)
 | [],B,k,a=>rfl
 | x::A,B,k,a=>by rw [dX,run,run,vP p A B,bN,show k+1+A.length=k+(A.length+1) by omega]
theorem vQ{p q:Nat->Bool}:∀ (R:List Rec) (k:Nat) (a:St),(∀ j,k<=j->j<k+R.length->p j=q j)->run p R k a=run q R k a
 | [],_,_,_=>rfl
 | x::R,k,a,h=>by rw [run,run,h k (bj _) (by simp),vQ R (k+1) _ fun j c b=>h j (by omega) (by simp at b |-;omega)]
theorem BX(p:Nat->Bool):∀ (k:Nat) (R:List Rec) (a:St),run p R k a=run (fun j=>p (k+j)) R 0 a
 | 0,R,a=>by simp
 | k+1,R,a=>by rw [yi,BX _ k R a];congr 1;funext j;congr 1;omega
theorem Jg{p:Nat->Bool}{R:List Rec}{k:Nat}{a:St}(h:∀ j,k<=j->p j=false):run p R k a=a:=by
 rw [vQ (q:=fun _=>false) R k a fun j b _=>h j b];have:∀ (R:List Rec) (k:Nat) (a:St),run (fun _=>false) R k a=a:=fun R=>by
  induction R with
  | nil=>intro k a;rfl
  | cons x R c=>intro k a;rw [run,ab (by simp),c]
 exact this R k a
def vR(R b:List Rec):Prop:=∀ (p:Nat->Bool) (k:Nat) (a:St),run p R k a=run p b k a
theorem Jh:∀ (R c:List Rec) (d f:St) (k:Nat),R.map (·.dst)=c.map (·.dst)->(∀ r∈R,r.up=[])->(∀ r∈c,r.up=[])->(run (fun _=>true) R k d).s=(run (fun _=>true) c k f).s->d.s.length=f.s.length->d.s=f.s/\vR R c
 | [],[],d,f,k,_,_,_,h,_=>⟨h,fun _ _ _=>rfl⟩
 | [],_::_,_,_,_,h,_,_,_,_=>by simp at h
 | _::_,[],_,_,_,h,_,_,_,_=>by simp at h
 | r::R,i::c,d,f,k,b,l,m,h,s=>by
  simp only [bo,xy] at b;simp only [run,eA] at h;have n:=l r (dj ..);have o:=m i (dj ..);obtain⟨a,t⟩:=Jh R c _ _ (k+1) b.2 (fun x j=>l x (cD _ j)) (fun x j=>m x (cD _ j)) h (by simp only [er];rw [b.1];cases i.dst <;> simp [bX,s])
  simp only [er] at a;rw [b.1] at a;have q:d.s=f.s/\∀ g:St,er g r=er g i:=by
   cases e:i.dst with
   | none =>rw [e] at a b;refine⟨a,fun g=>?_⟩;simp only [er,n,o,e,b.1,bX]
   | some x =>rw [e] at a b;simp only [bX,xy,ee] at a;refine⟨a.2,fun g=>?_⟩;simp only [er,n,o,e,b.1,bX,a.1.2.1,a.1.2.2]
  refine⟨q.1,fun p k g=>?_⟩;rw [run,run,q.2 g];exact t p (k+1) _
theorem SV{s b:List (Nat×Bool×AV)}{c:Option (Nat×Bool)}{g:Bool}{a:List (Nat×Bool×AV)}(h:fm s c=some (g,a))(d:∀ q∈a,bn b q.1=some q.2):fm b c=some (g,a):=by
 unfold fm at h |-;split at h
 ·exact h
 ·split at h
  ·simp only [aL,ee] at h;obtain⟨e,rfl⟩:=h;rw [d _ (iM.2 rfl)];simp [e]
  ·cases h
theorem SW{N:Env}{P:Program}{ro:Option Nat}{s:Array Oper}{nt:Nat}{cx:Cx}{Q:AE->St->Prop}(d7:qb P N cx ro){R:List Rec}{σ0:St}{bf:List (List Nat)}{k:Nat}{O:Option Nat}{d8:Option (Nat×Bool)}{rs:List (Nat×Bool×AV)}{a0:aO}{V:List aO}{gs:List Bool}{b8:AV}{vs:List AV}{d9:FuncId}{c1:List AV}{o:Oper}{KK PP:St->Prop}{m:Nat}(b0:R.length=k)(j1:k+1<=m)(g1:m<=s.size)(g2:∀ i r,R[i]?=some r->gk N P ro s nt i r/\iA (run (fun j=>decide (j<i)) R 0 σ0) r/\∀ d,r.dst=some d->d<nt)(e0:∀ r∈R,r.up=[])(ho:s[k]?=some o)(a1:fI P s nt o ⟨O,d8,.bl a0 V⟩)(e4:fm (run (fun _=>true) R 0 σ0).s d8=some (true,rs))(g3:dd (run (fun _=>true) R 0 σ0).s (a0::V)=some (gs,b8::vs))(g4:eP gs)(g5:fW b8 vs=some (d9,c1))(e5:∀ j i,i∈bf.getD j []->Reach s j i)(bx:gM (R++[⟨O,rs++bE (run (fun _=>true) R 0 σ0).s (a0::V),true,default,[],[]⟩]) bf=true)(e6:∀ j o,s[j]?=some o->∀ e∈o.after,Region.binds .any e=true->e.on<j)(g6:∀ j,k+1<=j->j<s.size->Reach s j k)(g7:∀ j,m<=j->j<s.size->∀ i,i<j->Reach s j i)(g8:∀ b9,PP b9->∃ b:List Rec,b.length=k/\vR R b/\(∀ r∈b,r.up=[])/\(∀ i r,b[i]?=some r->gk N P ro s nt i r/\iA (run (fun j=>decide (j<i)) b 0 ⟨σ0.s,b9.h,σ0.d⟩) r/\∀ d,r.dst=some d->d<nt)/\∃ W:List Rec,W.length=m-(k+1)/\(∀ i r,W[i]?=some r->gk N P ro s nt (k+1+i) r/\iA (run (fun j=>decide (j<i)) W 0 b9) r/\∀ d,r.dst=some d->d<nt) /\gM (b++[⟨O,rs++bE (run (fun _=>true) R 0 σ0).s (a0::V),true,default,[],[]⟩]++W) bf=true/\KK (run (fun _=>true) W 0 b9))(hi:jR P cx PP Q O (run (fun _=>true) R 0 σ0).s σ0.h σ0.d d9 c1)(g9:∀ D σ A C,KK σ->bO N D σ A C nt->wpOpsIn (Fr ro) 0 P s (gL N nt Q) (List.range' m (s.size-m)) A C) :
  ∀ (X:Nat) (c:Array Bool) (D:Gh) (A:Act) (C:World),c.getD k false=false->c.size=s.size->((List.range s.size).filter fun j=>!c.getD j false).length<=X->iQ s c->(∀ j,k+1<=j->c.getD j false=false) ->bO N D (run (fun j=>c.getD j false) R 0 σ0) A C nt->wpAnyIn (Fr ro) 0 P .any s (gL N nt Q) X c A C:=by
 intro X c D A C c2 b1 e7 c0 e8 H;have h0:∀ (c:Array Bool) (i:Nat),c.size=s.size->i<s.size->∀ j,(c.setIfInBounds i true).getD j false=(c.getD j false||decide (j=i)):=fun c i b1 b4 j=>by
  by_cases e:i=j
  ·subst e;simp [b1,b4]
  ·rw [du,du,pF e];have:¬ j=i:=fun h=>e h.symm
   simp [this]
 have e9:∀ (c:Array Bool) (i:Nat),i≠k->(c.setIfInBounds i true).getD k false=c.getD k false:=fun c i b2=>by rw [du,du,pF b2]
 have h1:∀ M∈rs++bE (run (fun _=>true) R 0 σ0).s (a0::V),bn (run (fun _=>true) R 0 σ0).s M.1=some M.2:=fun M S=>(cV.1 S).elim (tv e4 M) (kx M)
 have f0:∀ (b:List Rec),b.length=k->∀ (i:Nat) (x:Rec) (σ:St),i<=k->run (fun j=>decide (j<i)) (b++[x]) 0 σ=run (fun j=>decide (j<i)) b 0 σ:=fun b hl i x σ hi=>by rw [qh,ab (by simp;omega)]
 have h2:∀ t,bn (run (fun j=>decide (j<k)) R 0 σ0).s t=bn (run (fun _=>true) R 0 σ0).s t:=fun t=>nd R 0 σ0 σ0 rfl (fun j r u _=>by
  have b4:j<k:=by rw [<- b0];exact(bu.1 u).1
  simp [b4])
 let F:AV->Rec:=fun K=>⟨O,rs++bE (run (fun _=>true) R 0 σ0).s (a0::V),true,K,[],[]⟩
 have h3:∀ K,gM (R++[F K]) bf=true:=fun K=>by rw [<- bx,<- oG,<- oG];simp [F,li]
 have f1:∀ (b:List Rec) (K:AV) (L:St),b.length=k->vR R b->(∀ r∈b,r.up=[])->L.s=σ0.s->(∀ i r,b[i]?=some r->gk N P ro s nt i r/\iA (run (fun j=>decide (j<i)) b 0 L) r/\∀ d,r.dst=some d->d<nt)->∀ i r,(b++[F K])[i]?=some r->(i≠k->gk N P ro s nt i r)/\iA (run (fun j=>decide (j<i)) (b++[F K]) 0 L) r/\∀ d,r.dst=some d->d<nt:=fun b K L hl b5 j2 h4 d0 i r z=>by
  rcases bB i b.length with I | I
  ·rw [eY I] at z;obtain⟨k1,k2,k3⟩:=d0 i r z;refine⟨fun _=>k1,?_,k3⟩;rw [f0 b hl i _ _ (by omega)];exact k2
  ·rw [eJ I] at z;have h5:i-b.length=0:=by
    rcases n_ (i-b.length) with h | h
    ·exact h
    ·rw [cb (by simp;omega)] at z;cases z
   rw [h5] at z;have d1:F K=r:=by simpa using z
   subst d1;have h6:i=k:=by omega
   refine⟨fun b2=>absurd (by omega) b2,?_,fun d hd=>a1.lt d (by rw [<- a1.dst];exact hd)⟩;rw [f0 b hl i _ _ (by omega),h6];refine⟨fun M S=>?_,fun M S=>(by cases S),fun M S=>(by cases S)⟩;rw [<- b5,vO _ R 0 L σ0 h4,h2];exact h1 M S
 refine BO (R:=R++[F default]) (k:=k+1) (p:=k) (J:=fun l=>l.getD k false=false) (by simp [b0]) (by omega) (fun c i b2 u=>by rw [e9 _ _ b2];exact u) (f1 R default σ0 b0 (fun _ _ _=>rfl) e0 rfl g2) ?_ e5 (h3 default) e6 (fun c i u c0 hi I b4 _=>by
  rw [tz c0 hi (g6 i I b4) rfl] at u;cases u) (fun X c D A C u _ _ _ _ h7 _=>absurd ⟨k,by omega,u⟩ h7) X c D A C c2 b1 e7 c0 e8 (by
  rw [qh,ab (by simp [b0,c2])];exact H)
 clear H e7 c0 e8 c2 b1 c D A C X;intro r X c D A C z u b1 h8 h9 i0 f2 H d2 j3;have d1:F default=r:=by rw [eJ (by omega)] at z;simpa [b0] using z
 subst d1;have i1:k<s.size:=by omega
 rw [qh,ab (by simp [b0,h8])] at H d2;have i2:=BW g3 fun M S=>d2 M (jk _ S)
 have f3:=SV e4 fun M S=>d2 M (hX _ S)
 have hw:=jO a1 f3 (G:=D) (w:=C) (a:=A) (fun Y Z=>H.sr _ _ (tv f3 Y Z));obtain⟨l1,l2⟩:=lx (G:=D) (w:=C) (a:=A) H.wr.gl i2 g4 (fun Y Z=>H.sr _ _ (kx Y Z));obtain⟨f,b6,f4,q1,q2,q3⟩:∃ f b6 f4,o.op=.call {callee:=.value f,args:=b6,argTypes:=f4}/\CO f a0/\bH CO b6.toList V:=a1.k;have f5:vs.length=V.length:=by simpa using l1
 have i3:aC D C b8 (A.eval f):=l2 (a0,b8) (by simp) f q2;obtain⟨x,y,e1,e2,e3⟩:=oA g5 i3 (us:=b6.toList.map A.eval) (by simp [f5];have:=gD q3;simpa using this) (jL b6.toList V vs q3 f5 (fun Y Z=>l2 Y (by simp;exact .inr Z)));have i4:(run (fun j=>c.getD j false) R 0 σ0).h=σ0.h:=tM _ _ _ _ e0;obtain⟨T,f6,hi⟩:=hi;have b7:=H.wr;rw [i4] at b7;have i5:=f6.2 (N.at_ σ0.h D C) {cx with B:=newName σ0.h,top:=true} D σ0.h C c1 _ _ b7.tH ⟨rfl,d7.y.at_ b7 _ _,fun _=>rfl,d7.c⟩ ⟨e2,e3⟩ hi;refine kv ho hw (jM q1 e1 f6.1 i5 (fun K w' b3=>?_) (fun ch w' b3=>?_) (fun w' b3=>?_))
 ·obtain⟨G',I,k1,U,k2,i6⟩:=b3;obtain⟨b,d3,b5,d4,d0,k4⟩:=g8 _ i6;obtain⟨m1,m2⟩:=b7.kz k1;have d5:=h0 c k b1 i1
  let L:St:=⟨σ0.s,I,σ0.d⟩
  obtain⟨W,r1,r2,r3,r4⟩:=k4;have i7:er (run (fun _=>true) b 0 L) (F U)=⟨bX (run (fun _=>true) R 0 σ0).s O (true,U),I,σ0.d⟩:=by unfold er;rw [tM _ _ _ _ d4,ly,<- b5,vO _ R 0 L σ0 rfl];rfl
  have a2:(b++[F U]).length=k+1:=by simp [d3]
  have i8:gM (b++[F U]++W) bf=true:=by rw [<- r3,<- oG,<- oG];simp [F,li]
  have f7:∀ (Y:Nat->Bool),(∀ j,j<k+1->Y j=true)->run Y (b++[F U]) 0 L=⟨bX (run (fun _=>true) R 0 σ0).s O (true,U),I,σ0.d⟩:=fun Y Z=>by rw [vQ (q:=fun _=>true) (b++[F U]) 0 L (fun j _ u=>Z j (by rw [a2] at u;omega)),qh,aj rfl,i7]
  refine IV (E:=N) (nt:=nt) (R:=b++[F U]++W) (k:=m) (p:=k) (σ0:=L) (J:=fun l=>l.getD k false=true) (by rw [da,a2,r1];omega) g1 (fun c i b2 u=>by rw [e9 _ _ b2];exact u) (fun i r z=>?_) (fun r X l D A C _ u _ f8 _ _ _ _ _ _=>by rw [u] at f8;cases f8) e5 i8 e6 g7 (fun _ D A C f9=>?_) X (c.setIfInBounds k true) G' (A.put o.dst K) w' (by rw [d5];simp) (by simpa using b1) h9 i0 (fun j u=>f2 j (by omega)) ?_
  ·rcases bB i (k+1) with I | I
   ·rw [eY (by rw [a2];exact I)] at z;obtain⟨x1,x2,x3⟩:=f1 b U L d3 b5 d4 rfl d0 i r z;refine⟨x1,?_,x3⟩;rw [vP,Jg (fun j u=>by simp;omega)];exact x2
   ·rw [eJ (by rw [a2];exact I),a2] at z;obtain⟨x1,x2,x3⟩:=r2 _ r z;refine⟨fun _=>by rw [show k+1+(i-(k+1))=i by omega] at x1;exact x1,?_,x3⟩;rw [vP,f7 _ (fun j u=>by simp;omega),a2,bC,BX];rw [vQ (q:=fun j=>decide (j<i-(k+1))) W 0 _ (fun j _ _=>by rw [Bool.eq_iff_iff];simp;omega)]
    exact x2
  ·refine g9 D _ A C r4 ?_;rw [vP,f7 _ (fun _ _=>rfl),a2,bC,BX] at f9;exact f9
  ·rw [vP,a2,Jg (fun j u=>by have:=f2 j (by omega);exact this)]
   have Z:=(H.heap m1 m2).put (up:=[]) (dst:=O) (g:=true) (v:=U) (val:=K) (aW.refl G' w') m1 (fun d hd=>a1.lt d (by rw [<- a1.dst];exact hd)) (fun _=>k2) (by simp);have g0:O=o.dst:=a1.dst;rw [<- g0];refine Z.congr (fun t=>?_) (fun n=>?_) (by rw [ly,ly])
   ·rw [qh,aj (by rw [d3,bC,d5];simp),<- b5];have i9:(run (fun j=>(c.setIfInBounds k true).getD j false) R 0 L).s=(run (fun j=>(c.setIfInBounds k true).getD j false) R 0 σ0).s:=vO _ R 0 L σ0 rfl;have j0:∀ t,bn (run (fun j=>(c.setIfInBounds k true).getD j false) R 0 σ0).s t=bn (run (fun j=>c.getD j false) R 0 σ0).s t:=fun t=>nd R 0 σ0 σ0 rfl (fun j r u _=>by
     have b4:j<k:=by rw [<- b0];exact(bu.1 u).1
     rw [bC,d5];simp;omega)
    rw [pZ,i9,j0];show (if O=some t then _ else _)=_;clear a1 g0;cases O with
    | none=>simp [bX]
    | some d =>
     simp only [bX,bn,aL];by_cases d6:d=t
     ·subst d6;simp [F]
     ·rw [ab d6,ab (fun e=>d6 e.symm)]
   ·rw [tM _ _ _ _ (fun r z=>by
     rcases cV.1 z with z | z
     ·exact d4 r z
     ·rw [iM.1 z])]
    rfl
 ·obtain⟨G',I,k1,K,d,k2,k3,k4⟩:=b3;obtain⟨m1,m2⟩:=b7.kz k1;refine⟨G',⟨[],I,σ0.d⟩,K,d,⟨m1,H.sz,fun t e he=>(by simp [bn] at he),?_⟩,k2,k3,k4⟩;have:=H.defers.mono m2;rw [ly] at this;exact this
 ·obtain⟨_,_,_,b3⟩:=b3;exact b3
theorem SX{E:Env}{P:Program}{V:Option Nat}{c:Array Oper}{nt:Nat}{cx:Cx}{Q:AE->St->Prop}(e0:qb P E cx V){R:List Rec}{σ0:St}{bf:List (List Nat)}{k:Nat}{N:Option Nat}{a1:aO}{Y:List aO}{gs:List Bool}{b9:AV}{vs:List AV}{c0:FuncId}{b4:List AV}{o:Oper}{u:Rec}{KA KB:St->Prop}(Z:R.length=k)(e4:k+2<=c.size)(f6:∀ i r,R[i]?=some r->gk E P V c nt i r/\iA (run (fun j=>decide (j<i)) R 0 σ0) r/\∀ d,r.dst=some d->d<nt)(ho:c[k]?=some o)(a2:fI P c nt o ⟨N,none,.bl a1 Y⟩)(f7:gk E P V c nt (k+1) u)(f8:iA (run (fun _=>true) R 0 σ0) u)(f9:∀ d,u.dst=some d->d<nt)(e5:u.rs=[]/\u.ao=[])(g0:dd (run (fun _=>true) R 0 σ0).s (a1::Y)=some (gs,b9::vs))(g1:eP gs)(g2:fW b9 vs=some (c0,b4))(g3:∀ j i,i∈bf.getD j []->Reach c j i)(bx:gM (R++[⟨N,bE (run (fun _=>true) R 0 σ0).s (a1::Y),true,default,[],[]⟩]++[u]) bf=true)(d2:∀ j o,c[j]?=some o->∀ e∈o.after,Region.binds .any e=true->e.on<j)(g4:∀ i,i<k->Reach c k i)(d3:∀ j,k+2<=j->j<c.size->∀ i,i<j->Reach c j i)(g5:jR P cx KB Q N (run (fun _=>true) R 0 σ0).s (run (fun _=>true) R 0 σ0).h (run (fun _=>true) R 0 σ0).d c0 b4)(g6:jR P cx KA Q N (er (run (fun _=>true) R 0 σ0) u).s (er (run (fun _=>true) R 0 σ0) u).h (er (run (fun _=>true) R 0 σ0) u).d c0 b4)(g7:∀ F L A z,KA L->bO E F L A z nt->wpOpsIn (Fr V) 0 P c (gL E nt Q) (List.range' (k+2) (c.size-(k+2))) A z)(g8:∀ F L A z,KB L->bO E F L A z nt->wpOpsIn (Fr V) 0 P c (gL E nt Q) (List.range' (k+1) (c.size-(k+1))) A z) :
  ∀ (W:Nat) (b:Array Bool) (F:Gh) (A:Act) (z:World),b.getD k false=false->b.size=c.size->((List.range c.size).filter fun j=>!b.getD j false).length<=W->iQ c b->(∀ j,k+2<=j->b.getD j false=false) ->bO E F (run (fun j=>b.getD j false) (R++[⟨N,bE (run (fun _=>true) R 0 σ0).s (a1::Y),true,default,[],[]⟩]++[u]) 0 σ0) A z nt->wpAnyIn (Fr V) 0 P .any c (gL E nt Q) W b A z:=by
 have d4:∀ (b:Array Bool) (i:Nat),b.size=c.size->i<c.size->∀ j,(b.setIfInBounds i true).getD j false=(b.getD j false||decide (j=i)):=fun b i b0 d5 j=>by
  by_cases e:i=j
  ·subst e;simp [b0,d5]
  ·rw [du,du,pF e];have:¬ j=i:=fun h=>e h.symm
   simp [this]
 have g9:∀ (b:Array Bool) (i:Nat),i≠k->(b.setIfInBounds i true).getD k false=b.getD k false:=fun b i b5=>by rw [du,du,pF b5]
 let X:Rec:=⟨N,bE (run (fun _=>true) R 0 σ0).s (a1::Y),true,default,[],[]⟩
 have b6:∀ (n:Nat->Bool),run n (R++[X]++[u]) 0 σ0=if n (k+1)=true then er (if n k=true then er (run n R 0 σ0) X else run n R 0 σ0) u else if n k=true then er (run n R 0 σ0) X else run n R 0 σ0:=fun n=>by rw [qh,qh,da,Z,bC,bC];rfl
 have h0:∀ i,i<k->(R++[X]++[u])[i]?=R[i]?:=fun i O=>by rw [eY (by simp [Z];omega),eY (by omega)]
 have e6:(R++[X]++[u])[k]?=some X:=by rw [eY (by simp [Z]),eJ (by omega),Z,vf];rfl
 have h3:(R++[X]++[u])[k+1]?=some u:=by rw [eJ (by simp [Z])];simp [Z]
 have c1:∀ n q:Nat->Bool,(∀ j,j<k->n j=q j)->run n R 0 σ0=run q R 0 σ0:=fun n q h=>vQ R 0 σ0 fun j _ I=>h j (by omega)
 refine BO (R:=R++[X]++[u]) (k:=k+2) (p:=k) (J:=fun l=>l.getD k false=false) (by simp [Z]) e4 (fun b i b5 I=>by rw [g9 _ _ b5];exact I) (fun i r C=>?_) ?_ g3 bx d2
  (fun b i _ h4 O a0 d5 ⟨j0,i3,e7⟩=>by rw [tz h4 O (d3 i a0 d5 j0 (by omega)) rfl] at e7;cases e7) (fun W b F A z I _ _ _ _ h5 _=>absurd ⟨k,by omega,I⟩ h5)
 ·rcases bB i k with a0 | a0
  ·rw [h0 i a0] at C;obtain⟨k1,k2,k3⟩:=f6 i r C;refine⟨fun _=>k1,?_,k3⟩;rw [b6,ab (by simp;omega),ab (by simp;omega)];exact k2
  ·rcases bB k i with h6 | h6
   ·have O:i=k+1:=by have:=(bu.1 C).1;simp [Z] at this;omega
    subst O;rw [h3] at C;injection C with C;subst C
    refine⟨fun _=>f7,?_,f9⟩;rw [b6,ab (by simp),aj (by simp),c1 _ (fun _=>true) (fun j I=>by simp;omega)];refine⟨fun q M=>(by rw [e5.1] at M;cases M),fun q M=>(by rw [e5.2] at M;cases M),fun q M=>f8.up q M⟩
   ·have O:i=k:=by omega
    subst O;rw [e6] at C;injection C with C;subst C
    refine⟨fun b5=>absurd rfl b5,?_,fun d hd=>a2.lt d (by rw [<- a2.dst];exact hd)⟩;rw [b6,ab (by simp),ab (by simp),c1 _ (fun _=>true) (fun j I=>by simp;omega)];exact⟨kx,fun q M=>(by cases M),fun q M=>(by cases M)⟩
 ·intro r W b F A z C I b0 e8 h7 d6 e9 H b3 i4;rw [e6] at C;injection C with C;subst C
  have d7:k<c.size:=by omega
  have c2:∀ j,j<k->b.getD j false=true:=fun j h8=>by
   have:=yc d6 (g4 j h8) (by rw [d4 _ _ b0 d7];simp);rw [d4 _ _ b0 d7] at this;simp only [gy,bD] at this;rcases this with h | h
   ·exact h
   ·omega
  have d0:=d4 b k b0 d7;have f0:∀ (K:St) (KK:St->Prop),bO E F K A z nt->(∀ q∈X.rs,bn K.s q.1=some q.2)->jR P cx KK Q N K.s K.h K.d c0 b4->(∀ S L U D,KK L->bO E S L U D nt->wpAnyIn (Fr V) 0 P .any c (gL E nt Q) W (b.setIfInBounds k true) U D) ->wpOpIn (Fr V) 0 P c (gL E nt Q) k (fun U D=>wpAnyIn (Fr V) 0 P .any c (gL E nt Q) W (b.setIfInBounds k true) U D) A z:=fun K KK H b3 O b7=>by
   have h9:=BW g0 b3;have hw:=jO a2 (s:=K.s) (g:=true) (rs:=[]) rfl (G:=F) (w:=z) (a:=A) (fun n b1=>by simp at b1);obtain⟨l1,l2⟩:=lx (G:=F) (w:=z) (a:=A) H.wr.gl h9 g1 (fun n b1=>H.sr _ _ (kx n b1));obtain⟨f,b8,f1,q1,q2,q3⟩:∃ f b8 f1,o.op=.call {callee:=.value f,args:=b8,argTypes:=f1}/\CO f a1/\bH CO b8.toList Y:=a2.k;have f2:vs.length=Y.length:=by simpa using l1
   have i0:aC F z b9 (A.eval f):=l2 (a1,b9) (by simp) f q2;obtain⟨x,y,e1,e2,e3⟩:=oA g2 i0 (us:=b8.toList.map A.eval) (by simp [f2];have:=gD q3;simpa using this) (jL b8.toList Y vs q3 f2 (fun n b1=>l2 n (by simp;exact .inr b1)));obtain⟨T,f3,O⟩:=O;have i1:=f3.2 (E.at_ K.h F z) {cx with B:=newName K.h,top:=true} F K.h z b4 _ _ H.wr.tH ⟨rfl,e0.y.at_ H.wr _ _,fun _=>rfl,e0.c⟩ ⟨e2,e3⟩ O;refine kv ho hw (jM q1 e1 f3.1 i1 (fun d8 D b2=>?_) (fun ch D b2=>?_) (fun D b2=>?_))
   ·obtain⟨S,a0,k1,f4,k2,k3⟩:=b2;obtain⟨m1,m2⟩:=H.wr.kz k1;refine b7 S ⟨bX K.s N (true,f4),a0,K.d⟩ _ D k3 ?_;have b1:=(H.heap m1 m2).put (up:=[]) (dst:=N) (g:=true) (v:=f4) (val:=d8) (aW.refl S D) m1 (fun d hd=>a2.lt d (by rw [<- a2.dst];exact hd)) (fun _=>k2) (by simp);have i2:N=o.dst:=a2.dst;rw [<- i2];exact b1
   ·obtain⟨S,a0,k1,d8,d,k2,k3,k4⟩:=b2;obtain⟨m1,m2⟩:=H.wr.kz k1;exact⟨S,⟨[],a0,K.d⟩,d8,d,⟨m1,H.sz,fun t e he=>(by simp [bn] at he),H.defers.mono m2⟩,k2,k3,k4⟩
   ·obtain⟨_,_,_,b2⟩:=b2;exact b2
  have f5:∀ m,m<=k+2->(∀ j,(b.setIfInBounds k true).getD j false=decide (j<m))->c.size-m<=W:=fun m hm hl=>by
   have e:((List.range c.size).filter fun j=>!(b.setIfInBounds k true).getD j false)=(List.range c.size).filter fun j=>decide (m<=j):=by congr 1;funext j;rw [hl];by_cases h:j<m <;> simp [h] <;> omega
   rw [e,<- ahT] at h7;have:=BN c.size m;omega
  cases d1:b.getD (k+1) false with
  | true =>
   rw [b6,aj d1,ab (by rw [e8];simp),c1 _ (fun _=>true) (fun j I=>c2 j I)] at H b3;have hl:∀ j,(b.setIfInBounds k true).getD j false=decide (j<k+2):=fun j=>by
    rw [d0];rcases bB j (k+2) with h | h
    ·rcases bB j k with h1 | h1
     ·rw [c2 j h1];simp;omega
     ·rcases bB k j with h2 | h2
      ·rw [show j=k+1 by omega,d1];simp
      ·rw [show j=k by omega];simp
    ·have:=e9 j h;rw [d0] at this;rw [this];simp;omega
   exact f0 _ KA H b3 g6 fun S L U D b7 d9=>BM (k:=k+2) (fun j I=>d3 j (by omega)) d2 W (k+2) _ U D (bj _) e4 (f5 _ (by omega) hl) (by simpa using b0) hl d6 (g7 S L U D b7 d9)
  | false =>
   rw [b6,ab (by rw [d1];simp),ab (by rw [e8];simp),c1 _ (fun _=>true) (fun j I=>c2 j I)] at H b3;have hl:∀ j,(b.setIfInBounds k true).getD j false=decide (j<k+1):=fun j=>by
    rw [d0];rcases bB j (k+1) with h | h
    ·rcases bB j k with h1 | h1
     ·rw [c2 j h1];simp;omega
     ·rw [show j=k by omega];simp
    ·rcases bB (k+1) j with h2 | h2
     ·have:=e9 j (by omega);rw [d0] at this;rw [this];simp;omega
     ·rw [show j=k+1 by omega,d1];simp
   exact f0 _ KB H b3 g5 fun S L U D b7 d9=>BM (k:=k+1) (fun j I=>d3 j (by omega)) d2 W (k+1) _ U D (bj _) (by omega) (f5 _ (by omega) hl) (by simpa using b0) hl d6 (g8 S L U D b7 d9)
theorem tN{P:Program}{b:Frame}{a:Act}{k:List Item}{d:List Frame}{w:World}{c:Code}:step P (lone (b.atR a (.code (.scope c)::k)) d w)=.next (lone (b.atR a (.code c::.inScope c::k)) d w) :=
 step_lone_go (by simp [stepG,stepG.exec,Frame.atR])
theorem SY{P:Program}{b:Frame}{a:Act}{k:List Item}{d:List Frame}{w:World}{c:Code}:step P (lone (b.atR a (.inScope c::k)) d w)=.next (lone (b.atR a k) d w) :=
 step_lone_go (by simp [stepG,stepG.exec,Frame.atR])
theorem SZ{F:Fence}{n:Nat}{P:Program}{c:Code}{Q:Exit->Act->World->Prop}{a:Act}{w:World}(h:c.wpIn F n P (fun e a w=>(∀ l,e≠.goto l)/\Q e a w) a w):(Code.scope c).wpIn F n P Q a w:=by
 intro b k r t m o;have d:(lone (b.atR a (.code (.scope c)::k)) r w).fenced P F:=fenced_calm m o rfl;obtain⟨e,i,j,f,g⟩:=h b (.inScope c::k) r t m o;cases e with
 | normal=>exact⟨.normal,i,j,f.2,.head d tN (StepsIn.trans g (.one (fenced_calm m o rfl) SY))⟩
 | exit p =>
  have s:exitTo p (.inScope c::k)=exitTo p k:=by simp [exitTo]
  exact⟨.exit p,i,j,f.2,fun u q=>.head d tN (g.1 u (by rw [s];exact q)),
    fun v q=>let ⟨x,y,z⟩:=g.2 v (by rw [s];exact q);⟨x,y,.head d tN z⟩⟩
 | goto l=>exact absurd rfl (f.1 l)
 | ret=>exact⟨_,i,j,f.2,.of_steps (.one d tN) g⟩
 | panic A=>exact⟨_,i,j,f.2,.of_steps (.one d tN) g⟩
 | outgrown=>exact⟨_,i,j,f.2,.of_steps (.one d tN) g⟩
theorem Ji{P:Program}{nt:Nat}{d:Array Oper}{f:List aF}{v:List (List Nat)}{b:Nat}{id:Nat}{p:Env}{x:Option Nat}{m:Cx}{Q:AE->St->Prop}{l:St}{G:Gh}{a:Act}{w:World}(F:P.follows .mixedOrders=true)(y:f.length=d.size)(z:∀ (j:Nat) (n:aF),f[j]?=some n->∃ o,d[j]?=some o/\fI P d nt o n)(I:∀ j i,i∈v.getD j []->Reach d j i)(J:∀ j o,d[j]?=some o->∀ e∈o.after,Region.binds .any e=true->e.on<j)(L:b<=d.size)(M:∀ j,b<=j->j<d.size->∀ i,i<j->Reach d j i)(A:qb P p m x)(q:∃ B s,ec true m.C (fun _ _=>False) (fun g u=>de g v=true/\cX P m Q s (marks (f.drop b)) u) B (marks (f.take b)) l [])(H:bO p G l a w nt):(Code.region id d true).wpIn (Fr x) 0 P (gL p nt Q) a w:=by
 obtain⟨B,s,q⟩:=q;have q:g_ m.C (fun _ _=>False) (fun g u=>gM g v=true/\cX P m Q s (marks (f.drop b)) u) (f.take b) l [] :=
  rM (fun g l h=>⟨by rw [<- oG,<- h.1,de,iB,aj rfl,xI],h.2⟩) (iS (dr:=true) (K:=fun g u=>de g v=true/\cX P m Q s (marks (f.drop b)) u) (recs:=[]) q)
 obtain⟨g,N,O,C,S⟩:=qg (E:=p) (ro:=x) A.c _ 0 l [] (fun j n c=>by
  rw [bC];rw [eh] at c;split at c
  ·exact z j n c
  ·cases c) q
 rw [gx] at C;have T:ct w {w with drawn:=w.drawn+1}:=⟨rfl,rfl,rfl,bj _,fun _ _=>rfl⟩;obtain⟨D,U⟩:=H.wr.grow T G.I (fun _ h=>h) (fun _ h=>.inl h) (fun a V=>H.wr.cu a V);have W:bO p G l a {w with drawn:=w.drawn+1} nt:=⟨U,H.sz,fun t e X=>(H.sr t e X).mono D,H.defers.mono D⟩;refine Hn F (SJ (R:=g) (σ0:=l) (k:=b) (by rw [N,lp,y];omega) L (fun i r Y=>by have:=O i r Y;rw [bC] at this;exact this) I C J M (fun G a w H=>by
   have:=tI A (f.drop b) s b _ G a w (fun j n c=>by rw [fD] at c;exact z (b+j) n c) H S;rw [jj,y] at this;exact this) _ _ G a _ (by simp) (by
  refine eX (lV _ _) (by simp)) (fun j c=>?_) (fun j _=>by
  simp only [du,lW];split <;> rfl) ?_)
 ·simp [du,lW] at c;split at c <;> simp at c
 ·have e:(fun j=>(Array.replicate d.size false).getD j false)=(fun _:Nat=>false):=by funext j;simp only [du,lW];split <;> rfl
  rw [e,rJ];exact W
theorem BY{a0:Program}{nt:Nat}{c:Code}{ac:AC}(f6:ej a0 nt c ac):∀ {W:Env}{ro:Option Nat}{M:Cx}{Q:AE->St->Prop}{f:St}{V:Gh}{J:Act}{A:World},qb a0 W M ro->vc a0 M ac Q f->bO W V f J A nt->c.wpIn (Fr ro) 0 a0 (gL W nt Q) J A:=by
 induction f6 with
 | skip=>intro W ro M Q f V J A U z H;exact wpIn_skip ⟨V,f,H,z⟩
 | label=>intro W ro M Q f V J A U z H;exact wpIn_label ⟨V,f,H,z⟩
 | scope h d5 =>intro W ro M Q f V J A U z H;exact SZ (ob (d5 U z H) fun e J A N=>⟨fun e5 hl=>by subst hl;exact N,N⟩)
 | region hl b5 =>
  intro W ro M Q f V J A U z H;rename_i id d6 Z;have z:g_ M.C (fun d f=>Q (.aQ d) f) (fun _ f=>Q .normal f) Z f []:=by
   simp only [vc] at z;split at z
   ·exact z
   ·exact Jb z
  refine wpIn_region ?_;rw [Hj,<- hl];exact IN U.c _ 0 f [] V J A (fun j b3 O=>by rw [bC];exact b5 j b3 O) H z
 | aY hl b5 =>intro W ro M Q f V J A U z H;refine wpIn_region ?_;rw [Hj,<- hl];simp only [vc] at z;obtain⟨os,z⟩:=z;exact tI U _ os 0 f V J A (fun j b3 O=>by rw [bC];exact b5 j b3 O) H z
 | IY hm hl b5 d8 d9 =>
  rename_i id d6 Z bf;intro W ro M Q f V J A U z H;have z:g_ M.C (fun _ _=>False) (fun S b1=>gM S bf=true/\Q .normal b1) Z f []:=by
   simp only [vc] at z;split at z
   ·exact z
   ·exact Jc z
  obtain⟨S,i1,i2,i3,i4⟩:=qg (E:=W) (ro:=ro) U.c _ 0 f [] (fun j b3 O=>by rw [bC];exact b5 j b3 O) z;rw [gx] at i3;have f7:ct A {A with drawn:=A.drawn+1}:=⟨rfl,rfl,rfl,bj _,fun _ _=>rfl⟩;obtain⟨l1,l2⟩:=H.wr.grow f7 V.I (fun _ h=>h) (fun _ h=>.inl h) (fun J f8=>H.wr.cu J f8);have f9:bO W V f J {A with drawn:=A.drawn+1} nt:=⟨l2,H.sz,fun t e he=>(H.sr t e he).mono l1,H.defers.mono l1⟩;refine Hn hm (SH (R:=S) (σ0:=f) (by rw [i1,hl]) (fun i r hr=>by have:=i2 i r hr;rw [bC] at this;exact this) d8 i3 d9 (fun V J A H=>⟨V,_,H,i4⟩) _ _ V J _ (by simp) (by refine eX (lV _ _) (by simp)) (fun j O=>?_) ?_)
  ·simp [du,lW] at O;split at O <;> simp at O
  ·have e:(fun j=>(Array.replicate d6.size false).getD j false)=(fun _:Nat=>false):=by funext j;simp only [du,lW];split <;> rfl
   rw [e,rJ];exact f9
 | IZ hm hl b5 d8 d9 b8 e8 =>intro W ro M Q f V J A U z H;exact Ji hm hl b5 d8 d9 b8 e8 U (by simpa only [vc] using z) H
 | I_ hm hl b5 d8 d9 s2 b8 n6 e8 =>
  rename_i id d6 Z bf D b4;intro W ro M Q f V J A U z H;simp only [vc] at z;rcases z with z | z
  ·exact Ji hm hl b5 d8 d9 b8 e8 U z H
  obtain⟨n7,h3,h5,c0,b7,z⟩:=z;have z:g_ M.C (fun _ _=>False) (fun S b1=>rO a0 M bf (S.map li).reverse (Z[D-1]?) (vM M.C h3 h5 (marks (Z.take (D-1))) (S.map li).reverse f b1) (fun R1 a2=>ec true M.C (fun _ _=>False) (fun R2 b6=>de R2 bf=true/\cX a0 M Q b7 (marks (Z.drop b4)) b6) c0 (marks ((Z.drop D).take (b4-D))) a2 R1) Q b1) (Z.take (D-1)) f [] :=
   rM (fun S f h=>by simpa [iB] using h) (iS (dr:=true) (K:=fun S b1=>rO a0 M bf S (Z[D-1]?) (vM M.C h3 h5 (marks (Z.take (D-1))) S f b1) (fun R1 a2=>ec true M.C (fun _ _=>False) (fun R2 b6=>de R2 bf=true/\cX a0 M Q b7 (marks (Z.drop b4)) b6) c0 (marks ((Z.drop D).take (b4-D))) a2 R1) Q b1) (recs:=[]) z)
  obtain⟨S,i1,i2,i3⟩:=qg (E:=W) (ro:=ro) U.c _ 0 f [] (fun j b3 O=>by
   rw [bC];rw [eh] at O;split at O
   ·exact b5 j b3 O
   ·cases O) z
  rw [gx] at i3;obtain⟨m1,m2⟩:=i3;split at m2
  ·rename_i op b9 s3 c1 c2 i6;split at m2
   case h_2=>exact m2.elim
   rename_i rs n8;obtain⟨m3,m2⟩:=m2;split at m2
   ·rename_i gs i7 vs g0;obtain⟨i8,m2⟩:=m2;split at m2
    ·rename_i g1 h6 g2;have e9:∀ r∈S,r.up=[]:=fun r hr=>by have:=bQ.1 m1 (li r) (by simp;exact⟨r,hr,rfl⟩);simpa [li] using this
     obtain⟨o,ho,f6⟩:=b5 (D-1) _ i6;have e6:S.length=D-1:=by rw [i1,lp,hl];omega
     have f7:ct A {A with drawn:=A.drawn+1}:=⟨rfl,rfl,rfl,bj _,fun _ _=>rfl⟩;obtain⟨l1,l2⟩:=H.wr.grow f7 V.I (fun _ h=>h) (fun _ h=>.inl h) (fun J f8=>H.wr.cu J f8);have f9:bO W V f J {A with drawn:=A.drawn+1} nt:=⟨l2,H.sz,fun t e he=>(H.sr t e he).mono l1,H.defers.mono l1⟩;have bx:gM (S++[⟨b9,rs++bE (run (fun _=>true) S 0 f).s (c1::c2),true,default,[],[]⟩]) bf=true:=by rw [<- oG,dc];have h:=m3;rw [de,List.reverse_cons,xI] at h;exact h
     have h7:D-1+1=D:=by omega
     have l4:=tM (fun _=>true) S 0 f e9;rw [l4] at m2;refine Hn hm (SW U (R:=S) (σ0:=f) (k:=D-1) (m:=b4) e6 (by omega) b8 (fun i r hr=>by have:=i2 i r hr;rw [bC] at this;exact this) e9 ho f6 n8 g0 i8 g2 d8 bx d9 (fun j O i9=>n6 j (by omega) i9) e8 (KK:=fun a2=>cX a0 M Q b7 (marks (Z.drop b4)) a2)
      (PP:=fun a2=>vM M.C h3 h5 (marks (Z.take (D-1))) (S.map li).reverse f (run (fun _=>true) S 0 f) a2 (fun L=>ec true M.C (fun _ _=>False) (fun R2 b6=>de R2 bf=true/\cX a0 M Q b7 (marks (Z.drop b4)) b6) c0 (marks ((Z.drop D).take (b4-D))) a2 (⟨b9,(rs++bE (run (fun _=>true) S 0 f).s (c1::c2)).map (·.1),[],[]⟩::L))) (fun a2 g3=>?_) ?_ (fun V f J A g4 H=>by
       have:=tI U (Z.drop b4) b7 b4 _ V J A (fun j b3 O=>by rw [fD] at O;exact b5 (b4+j) b3 O) H g4;rw [jj,hl] at this;exact this) _ _ V J _ ?_ (by simp) (by
      refine eX (lV _ _) (by simp)) (fun j O=>?_) (fun j _=>by
      simp only [du,lW];split <;> rfl) ?_)
     ·have f0:∀ b2:List Rec,b2.length=D-1->vR S b2->(∀ r∈b2,r.up=[])->(∀ i r,b2[i]?=some r->gk W a0 ro d6 nt i r/\iA (run (fun j=>decide (j<i)) b2 0 ⟨f.s,a2.h,f.d⟩) r/\∀ d,r.dst=some d->d<nt)->ec true M.C (fun _ _=>False) (fun R2 b6=>de R2 bf=true/\cX a0 M Q b7 (marks (Z.drop b4)) b6) c0 (marks ((Z.drop D).take (b4-D))) a2 (⟨b9,(rs++bE (run (fun _=>true) S 0 f).s (c1::c2)).map (·.1),[],[]⟩::(b2.map li).reverse)->∃ b2:List Rec,b2.length=D-1/\vR S b2/\(∀ r∈b2,r.up=[])/\(∀ i r,b2[i]?=some r->gk W a0 ro d6 nt i r/\iA (run (fun j=>decide (j<i)) b2 0 ⟨f.s,a2.h,f.d⟩) r/\∀ d,r.dst=some d->d<nt)/\∃ R2:List Rec,R2.length=b4-(D-1+1)/\(∀ i r,R2[i]?=some r->gk W a0 ro d6 nt (D-1+1+i) r/\iA (run (fun j=>decide (j<i)) R2 0 a2) r/\∀ d,r.dst=some d->d<nt) /\gM (b2++[⟨b9,rs++bE (run (fun _=>true) S 0 f).s (c1::c2),true,default,[],[]⟩]++R2) bf=true/\cX a0 M Q b7 (marks (Z.drop b4)) (run (fun _=>true) R2 0 a2):=fun b2 w1 w2 w3 w4 h8=>by
       refine⟨b2,w1,w2,w3,w4,?_⟩;have e1:(⟨b9,(rs++bE (run (fun _=>true) S 0 f).s (c1::c2)).map (·.1),[],[]⟩::(b2.map li).reverse:List Li)=iB true (b2++[⟨b9,rs++bE (run (fun _=>true) S 0 f).s (c1::c2),true,default,[],[]⟩]):=by simp [iB,li]
       rw [e1] at h8;obtain⟨R2,x1,x2,x3,x4⟩:=qg (E:=W) (ro:=ro) U.c _ D a2 _ (fun j b3 O=>by
        rw [eh] at O;split at O
        ·rw [fD] at O;exact b5 (D+j) b3 O
        ·cases O) (iS (dr:=true) (K:=fun R2 b6=>de R2 bf=true/\cX a0 M Q b7 (marks (Z.drop b4)) b6) h8)
       refine⟨R2,by rw [x1,lp,jj,hl];omega,fun i r hr=>by rw [h7];exact x2 i r hr,?_,x4⟩;have d0:=x3;rw [de,iB,aj rfl,xI,oG] at d0;exact d0
      cases h3 with
      | false =>
       obtain⟨l5,h8⟩:=g3;rw [l4] at l5;refine f0 S e6 (fun _ _ _=>rfl) e9 (fun i r hr=>?_) h8;have l6:=i2 i r hr;rw [bC] at l6;obtain⟨j1,j2,j3⟩:=l6;have l7:=dh hr;refine⟨j1,⟨fun q N=>?_,fun q N=>?_,fun q N=>(by rw [e9 r l7] at N;cases N)⟩,j3⟩
       ·rw [vO _ S 0 ⟨f.s,a2.h,f.d⟩ f rfl];exact j2.rs q N
       ·have:=j2.ao q N;rw [tM _ _ _ _ e9] at this |-;show look a2.h q.1=some q.2;rw [l5 (li r) (by simp;exact⟨r,l7,rfl⟩) q.1 (by simp [li];exact⟨q.2,N⟩)];exact this
      | true =>
       simp only [vM] at g3;have n9:g_ M.C (fun _ _=>False) (fun L b6=>b6.s=(run (fun _=>true) S 0 f).s/\((L.map li).reverse.all fun e5=>e5.up.isEmpty)=true/\(L.map li).reverse.map (·.dst)=(S.map li).reverse.map (·.dst)/\ec true M.C (fun _ _=>False) (fun R2 b6=>de R2 bf=true/\cX a0 M Q b7 (marks (Z.drop b4)) b6) c0 (marks ((Z.drop D).take (b4-D))) a2 (⟨b9,(rs++bE (run (fun _=>true) S 0 f).s (c1::c2)).map (·.1),[],[]⟩::(L.map li).reverse)) (Z.take (D-1)) ⟨f.s,a2.h,f.d⟩ [] :=
        rM (fun L τ h=>by simpa [iB] using h) (iS (dr:=true) (K:=fun L b6=>b6.s=(run (fun _=>true) S 0 f).s/\(L.all fun e5=>e5.up.isEmpty)=true/\L.map (·.dst)=(S.map li).reverse.map (·.dst)/\ec true M.C (fun _ _=>False) (fun R2 b6=>de R2 bf=true/\cX a0 M Q b7 (marks (Z.drop b4)) b6) c0 (marks ((Z.drop D).take (b4-D))) a2 (⟨b9,(rs++bE (run (fun _=>true) S 0 f).s (c1::c2)).map (·.1),[],[]⟩::L)) (recs:=[]) g3)
       obtain⟨b2,y1,y2,y3,y4,y5,y6⟩:=qg (E:=W) (ro:=ro) U.c _ 0 _ [] (fun j b3 O=>by
        rw [bC];rw [eh] at O;split at O
        ·exact b5 j b3 O
        ·cases O) n9
       rw [gx] at y4 y5 y6;have l8:∀ r∈b2,r.up=[]:=fun r hr=>by have:=bQ.1 y4 (li r) (by simp;exact⟨r,hr,rfl⟩);simpa [li] using this
       have o0:S.map (·.dst)=b2.map (·.dst):=by have:=congrArg List.reverse y5;simp only [List.map_reverse,xI,dA] at this;exact this.symm
       exact f0 b2 (by rw [y1,lp,hl];omega) (Jh S b2 f ⟨f.s,a2.h,f.d⟩ 0 o0 e9 l8 y3.symm rfl).2 l8 (fun i r hr=>by have:=y2 i r hr;rw [bC] at this;exact this) y6
     ·rw [ly] at m2;exact m2
     ·simp only [du,lW];split <;> rfl
     ·simp [du,lW] at O;split at O <;> simp at O
     ·have e:(fun j=>(Array.replicate d6.size false).getD j false)=(fun _:Nat=>false):=by funext j;simp only [du,lW];split <;> rfl
      rw [e,rJ];exact f9
    ·exact m2.elim
   ·exact m2.elim
  ·exact m2.elim
 | I' hm hl b5 d8 d9 b8 o4 e8 =>
  rename_i id d6 Z bf D;intro W ro M Q f V J A U z H;simp only [vc] at z;obtain⟨n7,h5,c0,b7,z⟩:=z;have z:g_ M.C (fun _ _=>False) (fun S b1=>tK a0 M bf (S.map li).reverse (Z[D-1]?) ((Z.drop D).take 1) (fun a2=>cX a0 M Q c0 (marks (Z.drop (D+1))) a2) (fun a2=>cX a0 M Q b7 (marks (Z.drop D)) a2) Q b1) (Z.take (D-1)) f [] :=
   rM (fun S f h=>by simpa [iB] using h) (iS (dr:=true) (K:=fun S b1=>tK a0 M bf S (Z[D-1]?) ((Z.drop D).take 1) (fun a2=>cX a0 M Q c0 (marks (Z.drop (D+1))) a2) (fun a2=>cX a0 M Q b7 (marks (Z.drop D)) a2) Q b1) (recs:=[]) z)
  obtain⟨S,i1,i2,i3⟩:=qg (E:=W) (ro:=ro) U.c _ 0 f [] (fun j b3 O=>by
   rw [bC];rw [eh] at O;split at O
   ·exact b5 j b3 O
   ·cases O) z
  rw [gx] at i3;have m2:=i3;unfold tK at m2;split at m2
  ·rename_i op b9 c1 c2 i6;split at m2
   ·rename_i gs i7 vs g0;obtain⟨i8,m2⟩:=m2;split at m2
    ·rename_i g1 h6 g2;obtain⟨j0,l9⟩:=m2;obtain⟨o,ho,f6⟩:=b5 (D-1) _ i6;have e6:S.length=D-1:=by rw [i1,lp,hl];omega
     have h7:D-1+1=D:=by omega
     have f7:ct A {A with drawn:=A.drawn+1}:=⟨rfl,rfl,rfl,bj _,fun _ _=>rfl⟩;obtain⟨l1,l2⟩:=H.wr.grow f7 V.I (fun _ h=>h) (fun _ h=>.inl h) (fun J f8=>H.wr.cu J f8);have f9:bO W V f J {A with drawn:=A.drawn+1} nt:=⟨l2,H.sz,fun t e he=>(H.sr t e he).mono l1,H.defers.mono l1⟩;have e1:(⟨b9,(bE (run (fun _=>true) S 0 f).s (c1::c2)).map (·.1),[],[]⟩::(S.map li).reverse:List Li)=iB true (S++[⟨b9,bE (run (fun _=>true) S 0 f).s (c1::c2),true,default,[],[]⟩]):=by simp [iB,li]
     rw [e1] at l9;obtain⟨R2,x1,x2,x3,x4⟩:=qg (E:=W) (ro:=ro) U.c _ D (run (fun _=>true) S 0 f) _ (fun j b3 O=>by
      rw [eh] at O;split at O
      ·rw [fD] at O;exact b5 (D+j) b3 O
      ·cases O) (iS (dr:=true) (K:=fun R1 j4=>((R1.head?.any fun e5=>e5.rs.isEmpty&&e5.ao.isEmpty)=true/\de R1 bf=true)/\jR a0 M (fun a2=>cX a0 M Q c0 (marks (Z.drop (D+1))) a2) Q b9 j4.s j4.h j4.d g1 h6) l9)
     obtain⟨d7,rfl⟩:∃ d7,R2=[d7]:=by
      rw [lp,jj,hl] at x1
      match R2,x1 with
      | [],h=>simp at h;omega
      | [d7],_=>exact⟨d7,rfl⟩
      | _::_::_,h=>simp at h;omega
     obtain⟨y1,y2,y3⟩:=x2 0 d7 rfl;have bx:gM (S++[⟨b9,bE (run (fun _=>true) S 0 f).s (c1::c2),true,default,[],[]⟩]++[d7]) bf=true:=by have d0:=x3.2;rw [de,iB,aj rfl,xI,oG] at d0;exact d0
     have o5:d7.rs=[]/\d7.ao=[]:=by have d0:=x3.1;rw [iB,aj rfl,dc,Ho] at d0;simpa [li] using d0
     have o6:run (fun j=>decide (j<0)) [d7] 0 (run (fun _=>true) S 0 f)=run (fun _=>true) S 0 f:=by simp [run]
     rw [o6] at y2;refine Hn hm (SX U (R:=S) (σ0:=f) (k:=D-1) e6 (by omega) (fun i r hr=>by have:=i2 i r hr;rw [bC] at this;exact this) ho f6 (by rw [h7];exact y1) y2 y3 o5 g0 i8 g2 d8 bx d9 o4 (fun j O i9=>e8 j (by omega) i9) (KA:=fun a2=>cX a0 M Q c0 (marks (Z.drop (D+1))) a2) (KB:=fun a2=>cX a0 M Q b7 (marks (Z.drop D)) a2) j0 x4
      (fun V f J A g4 H=>by have:=tI U (Z.drop (D+1)) c0 (D+1) _ V J A (fun j b3 O=>by rw [fD] at O;exact b5 (D+1+j) b3 O) H g4;rw [jj,hl] at this;rw [show D-1+2=D+1 by omega];exact this)
      (fun V f J A g4 H=>by
       have:=tI U (Z.drop D) b7 D _ V J A (fun j b3 O=>by rw [fD] at O;exact b5 (D+j) b3 O) H g4;rw [jj,hl] at this;rw [h7];exact this) _ _ V J _ ?_ (by simp) (by
      refine eX (lV _ _) (by simp)) (fun j O=>?_) (fun j _=>by
      simp only [du,lW];split <;> rfl) ?_)
     ·simp only [du,lW];split <;> rfl
     ·simp [du,lW] at O;split at O <;> simp at O
     ·have e:(fun j=>(Array.replicate d6.size false).getD j false)=(fun _:Nat=>false):=by funext j;simp only [du,lW];split <;> rfl
      rw [e,rJ];exact f9
    ·exact m2.elim
   ·exact m2.elim
  ·exact m2.elim
 | seq h1 h2 g5 g6 =>
  intro W ro M Q f V J A U z H;refine wpIn_seq (ob (g5 U z H) (fun e a' w' N=>?_));cases e <;> try exact N
  obtain⟨G',b1,q1,q2⟩:=N;exact g6 U q2 q1
 | cond h0 h1 h2 g5 g6 =>
  intro W ro M Q f V J A U z H;simp only [vc] at z;split at z
  ·rename_i g t he;obtain⟨j5,o7,j6⟩:=z;have g0:=(rG (G:=V) (w:=A) (a:=J) he j5 (fun t' j7=>by subst j7;exact H.sr t' _ he) H.wr.gl _ h0).lit.1;exact wpIn_cond_split g0 (fun e=>g5 U (o7 e) H) (fun e=>g6 U (j6 e) H)
  ·exact z.elim
 | block h d5 =>
  intro W ro M Q f V J A U z H;refine wpIn_block (ob (d5 U z H) (fun e a' w' N=>?_));cases e <;> try exact N
  obtain⟨G',b1,q1,q2⟩:=N;simp only [iR] at q2;simp only [Exit.inBlock];split
  ·rename_i e;rw [aj e] at q2;exact⟨G',b1,q1,q2⟩
  ·rename_i e;rw [ab e] at q2;exact⟨G',b1,q1,q2⟩
 | oD h d5 =>
  intro W ro M Q f V J A U z H;simp only [vc] at z;obtain⟨s4,g7,z⟩:=z;rw [<- U.B] at g7;obtain⟨G0,_,H0⟩:=g7.rel H;refine wpIn_block (ob (d5 U z H0) (fun e a' w' N=>?_));cases e with
  | panic ch =>obtain⟨G',b1,v,d,q1,q2,q3,τ,q4,q5⟩:=N;rw [<- U.B] at q4;obtain⟨G2,e2,q6⟩:=q4.rel q1;exact⟨G2,τ,v,d,q6,q2,by rw [e2];exact q3,q5⟩
  | outgrown=>exact N
  | goto t=>exact N
  | normal =>obtain⟨G',b1,q1,τ,q4,q5⟩:=N;rw [<- U.B] at q4;obtain⟨G2,_,q6⟩:=q4.rel q1;exact⟨G2,τ,q6,q5⟩
  | ret =>obtain⟨G',b1,q1,τ,q4,q5⟩:=N;rw [<- U.B] at q4;obtain⟨G2,_,q6⟩:=q4.rel q1;exact⟨G2,τ,q6,q5⟩
  | exit i =>
   obtain⟨G',b1,q1,τ,q4,q2⟩:=N;rw [<- U.B] at q4;obtain⟨G2,_,q6⟩:=q4.rel q1;simp only [iR] at q2;simp only [Exit.inBlock];split
   ·rename_i e;rw [aj e] at q2;exact⟨G2,τ,q6,q2⟩
   ·rename_i e;rw [ab e] at q2;exact⟨G2,τ,q6,q2⟩
 | qa h d5 =>
  intro W ro M Q f V J A U z H;simp only [vc] at z;refine wpIn_block (ob (d5 U z H) (fun e a' w' N=>?_));cases e with
  | panic ch=>exact N
  | outgrown=>exact N
  | goto t=>exact N
  | normal =>obtain⟨G',b1,q1,b4,i,e0,τ,q4,q5⟩:=N;obtain⟨G2,q6⟩:=q4.rel q1;exact⟨G2,τ,q6,q5⟩
  | ret=>exact N
  | exit i =>
   obtain⟨G',b1,q1,q2⟩:=N;simp only [rP] at q2;simp only [iR] at q2;simp only [Exit.inBlock];split
   ·rename_i e;rw [aj e] at q2;exact⟨G',b1,q1,q2⟩
   ·rename_i e;rw [ab e] at q2;exact⟨G',b1,q1,q2⟩
 | loop h d5 =>
  intro W ro M Q f V J A U z H;simp only [vc] at z;obtain⟨X,st,I,μ,⟨x0,o8,g7⟩,o9⟩:=z
  let p:Act->World->Nat->Prop:=fun J A e0=>∃ x V,I x/\bO W V (st x) J A nt/\μ x=e0
  let p0:Act->World->Prop:=fun J A=>∃ e0,p J A e0
  rw [<- U.B] at g7;obtain⟨G0,_,H0⟩:=g7.rel H;refine wpIn_loop p0 (fun J A=>@dite _ (∃ e0,p J A e0) (Classical.propDecidable _) (fun h=>Classical.choose (least h)) (fun _=>0)) ⟨μ x0,x0,G0,o8,H0,rfl⟩ (fun J A m0=>?_);have e7:=xJ (least m0);obtain⟨x,G1,k1,k2,k3⟩:=e7.1;refine ob (d5 U (o9 x k1) k2) (fun e a' w' N=>?_);cases e <;> try exact N
  obtain⟨G',b1,q1,h9,q2,q3,q4⟩:=N;rw [<- U.B] at q4;obtain⟨G2,_,H2⟩:=q4.rel q1;have j8:∃ e0,p a' w' e0:=⟨μ h9,h9,G2,q2,H2,rfl⟩;refine⟨j8,?_⟩;have i0:=xJ (least j8);rw [dif_pos j8,dif_pos m0];have:=i0.2 (μ h9) ⟨h9,G2,q2,H2,rfl⟩;omega
 | range j5 m4 p4 h1 h2 g5 g6 =>
  rename_i g s5 m5 b p5 p6 ps f3;intro W ro M Q f V J A U z H;simp only [vc] at z;obtain⟨p7,z⟩:=z;split at z
  case h_2=>exact z.elim
  rename_i i7 m6;have p8:=U.top p7;subst p8;refine wpIn_rangeFunc fun fn s6=>?_
  obtain⟨b0,m7⟩:∃ b0,b0=newName f.h:=⟨_,rfl⟩;rw [<- m7] at z;obtain⟨d1,j9⟩:∃ d1:Loop,d1={state:=.ready,pending:=none,fn,tmps:=J.tmps,params:=ps,assign:=m5,body:=b,defers:=A.heap.size}:=⟨_,rfl⟩;have p9:look f.h b0=none:=by rw [m7];exact tu f.h
  obtain⟨q0,W1⟩:=H.wr.newObj p9 d1 0;have q7:(Hp.ar (look f.h) [(b0,.obj 0)]) (b0+1)=none:=by
   show (if b0+1=b0 then _ else look f.h (b0+1))=none;rw [ab (by omega)];cases d0:look f.h (b0+1) with
   | none=>rfl
   | some o=>have:=pV d0;omega
  obtain⟨i5,W2⟩:=W1.newObj q7 d1 1;obtain⟨e4,k0⟩:∃ e4,e4=aM (aM f.h b0 (.obj 0)) (b0+1) (.obj 1):=⟨_,rfl⟩;rw [<- tL,<- tL,<- k0] at W2;obtain⟨G2,i5,W2,f4⟩:∃ G2:Gh,aW _ _ G2 _/\aD W G2 _ _/\(G2.box (b0+1)=some (A.heap.size+1)/\G2.rc (b0+1)=d1/\G2.box b0=some A.heap.size):=⟨_,i5,W2,by simp⟩;obtain⟨w2,m8⟩:∃ w2,w2=(A.alloc (jI d1 0)).alloc (jI d1 1):=⟨_,rfl⟩;rw [<- m8] at W2 i5;have le:aW V A G2 w2:=q0.trans i5;have j0:newName e4=b0+2:=by rw [k0,vN _ _ _ (by rw [vN _ _ _ (by omega)];exact bj _)]
  rw [<- k0] at z;have z:=z (A.heap.size+1);split at z
  case h_2=>exact z.elim
  rename_i g1 h6 g2;obtain⟨T,m9,z⟩:=z;have q8:aC G2 w2 i7 (J.eval g):=(rG (G:=V) (w:=A) (a:=J) m6 rfl (fun t' j7=>by subst j7;exact H.sr t' _ m6) H.wr.gl _ j5).mono le;obtain⟨x,y,e1,e2,e3⟩:=oA g2 q8 (us:=[.func (.yield (A.heap.size+1)) #[] #[]]) rfl (fun D c u b8 hu=>by
   cases D with
   | zero=>simp at b8 hu;subst b8;subst hu;exact .d (.fn rfl rfl (fun D c v b8=>by simp at b8) (fun D c v b8=>by simp at b8))
   | succ D=>simp at b8)
  have q9:vG a0 (W.at_ e4 G2 w2) {B:=b0+2,top:=true,l:=A.heap.size+1,C:=M.C,Y:=vL f3 (b0+1) f.s (fun k7=>vc a0 {M with B:=k7,top:=false} p5) (fun k7=>vc a0 {M with B:=k7,top:=false} p6)}:=by
   intro r0 G' h w' r4 f5 n0 n3 hr k8;obtain⟨r5,e6,k8⟩:=k8;obtain⟨g8,i0⟩:=W2.kz n3;obtain⟨o1,o2,o3⟩:=yj g8 i0 f4.1 r5;rw [f4.2.1] at o2 o3;have r6:aW V A G' w':=le.trans i0;have r7:f5.toArray.size=ps.size:=by
    have:ps.size=f3.length:=by rw [<- m4];simp
    simp [hr.1,e6,this]
   have k9:=run_yield (P:=a0) (w:=w') (args:=f5.toArray) o3 (by rw [j9];exact r7);rw [j9] at k9;have r8:(ps.zip f5.toArray).foldl (fun r9 (t,J)=>r9.setIfInBounds t J) J.tmps=(f3.zip f5).foldl (fun t (p:Tmp×Value)=>t.setIfInBounds p.1 p.2) J.tmps:=by rw [<- Array.foldl_toList];simp [m4]
   rw [r8] at k9;have H3:bO (W.at_ h G' w') G' ⟨tJ f.s f3 r4,h,[]⟩ {tmps:=(f3.zip f5).foldl (fun t (p:Tmp×Value)=>t.setIfInBounds p.1 p.2) J.tmps,defers:=[]} w' nt:=by
    refine⟨g8.tH,?_,?_,.nil⟩
    ·show ((f3.zip f5).foldl _ J.tmps).size=nt;rw [Je];exact H.sz
    ·exact Jf (fun p g3=>by rw [H.sz];exact p4 p g3) hr.1 e6 hr.2 (fun t e he=>by obtain⟨v,q1,q2,q3⟩:=(H.sr t e he).mono r6;exact⟨v,q1,q2,q3⟩)
   have n4:qb a0 (W.at_ h G' w') {M with B:=newName h,top:=false} (some (A.heap.size+1)):=⟨rfl,U.y.at_ g8 _ _,fun j6=>(by cases j6),U.c⟩;refine⟨fn,_,m5,b,k9,roundIn_of_wpIn (F:=Fr r0) trivial (ob (g5 n4 k8 H3) (fun e a1 w1 N=>?_))⟩;cases e with
   | normal =>
    obtain⟨G1,τ,H1,k1,k2⟩:=N;obtain⟨m1,m2⟩:=g8.kz H1.wr;obtain⟨p1,p2,p3⟩:=yj m1 m2 o1 k1;rw [o2] at p2 p3;have s0:=run_beginRound (P:=a0) (w:=w1) p3 rfl;obtain⟨u1,u2⟩:=H1.wr.ye k1 p1 (jI (G1.rc (b0+1)) 2) (.obj 2) (.inr ⟨2,rfl,rfl⟩);rw [<- tL,p2] at u2;rw [p2] at u1;refine⟨_,s0,ob (g6 n4 k2 (H1.heap u2 u1)) (fun e a3 w3 N=>?_)⟩;have f0:∀ (G3:Gh) (d2:St) (d3:Option Code) (s:Nat),bO (W.at_ h G' w') G3 d2 a3 w3 nt->look d2.h (b0+1)=some (.obj 2)->jI d1 s=.loop {d1 with state:=if d3.isNone then .ready else .done,pending:=d3} ->n0 d3.isNone (aM d2.h (b0+1) (.obj s))->∃ v w4,(Instr.endRound (A.heap.size+1) d3).run a0 w3=.ok v w4/\∃ (G4:Gh) (h4:List (Nat×HO)) (b:Bool),aW G' w' G4 w4/\aD (W.at_ e4 G2 w2) G4 (look h4) w4/\Ending.returned v=.returned (.bool b)/\n0 b h4:=by intro G3 d2 d3 s H4 n5 ho s1;obtain⟨n1,n2⟩:=g8.kz H4.wr;obtain⟨x1,x2,x3⟩:=yj n1 n2 o1 n5;rw [o2] at x2 x3;have l0:=run_endRound (P:=a0) (w:=w3) d3 x3;obtain⟨v1,v2⟩:=n1.ye n5 x1 (jI (G3.rc (b0+1)) s) (.obj s) (.inr ⟨s,rfl,rfl⟩);rw [<- tL,x2,ho] at v2;rw [x2,ho] at v1;exact⟨_,_,l0,G3,_,_,n2.trans v1,n3.again_at v2 (n2.trans v1),rfl,s1⟩
    cases e with
    | normal=>obtain⟨G3,d2,q1,q2,q3⟩:=N;exact f0 G3 d2 none 1 q1 q2 rfl q3
    | ret=>obtain⟨G3,d2,q1,q2,q3⟩:=N;exact f0 G3 d2 (some .ret) 3 q1 q2 rfl q3
    | exit id=>obtain⟨G3,d2,q1,q2,q3⟩:=N;exact f0 G3 d2 (some (.exit id)) (id+4) q1 q2 rfl q3
    | panic ch=>obtain⟨_,_,_,_,_,_,_,N⟩:=N;exact N.elim
    | goto t=>exact N.elim
    | outgrown=>exact N.elim
   | exit id=>obtain⟨_,_,_,N⟩:=N;exact N.elim
   | ret=>obtain⟨_,_,_,N⟩:=N;exact N.elim
   | panic ch=>obtain⟨_,_,_,_,_,_,_,N⟩:=N;exact N.elim
   | goto t=>exact N.elim
   | outgrown=>exact N.elim
  refine⟨A.heap.size+1,[{target:=.collected A.heap.size,args:=#[]}],w2,{target:=.fn (.func g1) y,args:=x++#[.func (.yield (A.heap.size+1)) #[] #[]]},w2,g1,(x.toList++(([.func (.yield (A.heap.size+1)) #[] #[]]:List Value)++y.toList)).toArray,w2,?_,?_,fun _ _=>trivial,?_,fun hd=>by simp [Fr,Fence.wide] at hd,?_⟩
  ·rw [m8,j9];exact run_enterLoop_outer _ _ _ _ _
  ·simp only [resolve,e1];simp [go_sem]
  ·have e:x++#[.func (.yield (A.heap.size+1)) #[] #[]]++y=(x.toList++(([.func (.yield (A.heap.size+1)) #[] #[]]:List Value)++y.toList)).toArray:=by apply va;simp
   simp only [invoke];rw [e];exact Bn m9.1 _ w2
  ·have l3:∀ (G3:Gh) (d4:List (Nat×HO)) (w3:World) (s:Nat) (d3:Option Code),aD (W.at_ e4 G2 w2) G3 (look d4) w3->look d4 (b0+1)=some (.obj s)->(∃ r,jI d1 s=.loop r/\r.state≠.busy/\r.pending=d3) ->∃ w4,(Instr.endLoop (A.heap.size+1)).run a0 w3=.ok d3 w4/\bO W G3 ⟨f.s,aM d4 (b0+1) .dead,.mark b0::f.d⟩ {J with defers:=[{target:=.collected A.heap.size,args:=#[]}]++J.defers} w4 nt:=by intro G3 d4 w3 s d3 k1 hl ⟨r,r1,r2,r3⟩;obtain⟨m1,m2⟩:=W2.kz k1;obtain⟨x1,x2,x3⟩:=yj m1 m2 f4.1 hl;rw [f4.2.1,r1] at x3;have l0:=run_endLoop (P:=a0) (w:=w3) x3 r2;subst r3;obtain⟨v1,v2⟩:=m1.ye hl x1 (.loop {r with state:=.exhausted}) .dead (.inl rfl);rw [<- tL] at v2;have e7:aW V A G3 _:=le.trans (m2.trans v1);exact⟨_,l0,v2,H.sz,fun t e he=>(by obtain⟨v,q1,q2,q3⟩:=(H.sr t e he).mono e7;exact⟨v,q1,q2,q3⟩),.cons (.mark ((m2.trans v1).box b0 _ f4.2.2)) (H.defers.mono e7)⟩
   refine(callsIn_wide (n:=0-1)).2 ((m9.2 (W.at_ e4 G2 w2) _ G2 e4 w2 h6 _ _ W2.tH ⟨by exact j0,q9,fun _=>rfl,U.c⟩ ⟨e2,e3⟩ z).mono fun e w3 g9=>?_);cases e with
   | returned v =>
    obtain⟨G3,d4,k1,s7,k2,k3⟩:=g9;simp only [vK] at k3;split at k3
    ·rename_i hl;obtain⟨w4,f1,f2⟩:=l3 G3 d4 w3 1 none k1 hl ⟨_,rfl,by simp,rfl⟩;exact⟨none,w4,f1,G3,_,f2,k3⟩
    ·rename_i hl;obtain⟨w4,f1,f2⟩:=l3 G3 d4 w3 3 (some .ret) k1 hl ⟨_,rfl,by simp,rfl⟩;exact⟨some .ret,w4,f1,wpIn_ret ⟨G3,_,f2,k3⟩⟩
    ·rename_i id hl;obtain⟨w4,f1,f2⟩:=l3 G3 d4 w3 (id+4) (some (.exit id)) k1 hl ⟨_,rfl,by simp,rfl⟩;exact⟨some (.exit id),w4,f1,wpIn_exit ⟨G3,_,f2,k3⟩⟩
    ·exact k3.elim
   | panicked ch =>obtain⟨G3,d4,k1,v,d,k2,k3,k4⟩:=g9;obtain⟨m1,m2⟩:=W2.kz k1;have e7:aW V A G3 w3:=le.trans m2;exact⟨G3,⟨f.s,d4,.mark b0::f.d⟩,v,d,⟨m1,H.sz,fun t e he=>(by obtain⟨v,q1,q2,q3⟩:=(H.sr t e he).mono e7;exact⟨v,q1,q2,q3⟩),.cons (.mark (m2.box b0 _ f4.2.2)) (H.defers.mono e7)⟩,k2,k3,k4⟩
   | outgrown=>obtain⟨_,_,_,g9⟩:=g9;exact g9.elim
 | exit=>intro W ro M Q f V J A U z H;exact wpIn_exit ⟨V,f,H,z⟩
 | ret=>intro W ro M Q f V J A U z H;exact wpIn_ret ⟨V,f,H,z⟩
def hZ(G:Gh)(w:World):Option D->FrameMode->Prop
 | none,m=>m=.returning
 | some d,m=>∃ a,m=.panicking [{v:=a,recovered:=false}]/\au G.I w d a
def vS(P:Program)(f:FuncId)(T:Cx->List AV->Option D->List (Nat×HO)->(Option D->List (Nat×HO)->Prop)->Prop):Prop :=
 m' P f/\∀ (E:Env) (d:Cx) (G:Gh) (h:List (Nat×HO)) (w:World) (g:List AV) (i:List Value) (u:Option D) (j:FrameMode) (K:Option D->List (Nat×HO)->Prop),
  aD E G (look h) w->qb P E d none->yd G w g i->hZ E.Gb E.wb u j->T d g u h K ->CallsDIn (Fr none) 0 P f i.toArray j w fun e k a=>∃ b l c,aD E b (look l) a/\K c l/\match e with
   | .returned _=>hZ b a c (settle k)
   | .panicked m=>hZ b a c (raised k m)
   | .outgrown=>False
def gn(P:Program)(a:FuncId->List D->Out->Prop)(b:AF)(K:bK->List (Nat×HO)->Prop):Option D->List DE->List (Nat×Bool×AV)->List (Nat×HO)->Prop
 | none,[],s,h=>match ky ⟨s,h,[]⟩ b.res with
  | some (c,v)=>c/\K (.ret v) h
  | none=>False
 | some d,[],_,h=>K (.aQ d) h
 | u,.mark n::e,s,h=>look h n=some (.obj 0)/\gn P a b K u e s (aM h n .dead)
 | u,.fn f as g::e,s,h=>∃ T,vS P f T/\T {C:=a,B:=newName h} (as++g) u h (fun i j=>gn P a b K i e s j)
def ni(P:Program)(C:FuncId->List D->Out->Prop)(b:AF)(K:bK->List (Nat×HO)->Prop):AE->St->Prop
 | .normal,a | .ret,a=>gn P C b K none a.d a.s a.h
 | .aQ d,a=>gn P C b K (some d) a.d a.s a.h
 | .exit _,_=>False
def jo:List AV->Nat->List (Nat×Bool×AV)
 | [],_=>[]
 | v::r,k=>(k,true,v)::jo r (k+1)
theorem Jj:∀ {a:List AV}{k t:Nat}{e:Bool×AV},bn (jo a k) t=some e->∃ d,k<=t/\a[t-k]?=some d/\e=(true,d)
 | [],k,t,e,h=>by simp [jo,bn] at h
 | d::r,k,t,e,h=>by
  simp only [jo,bn] at h;split at h
  ·rename_i b;subst b;injection h with h;subst h
   exact⟨d,bj _,by simp,rfl⟩
  ·obtain⟨c,i,f,g⟩:=Jj h;exact⟨c,by omega,by rw [show t-k=(t-(k+1))+1 by omega];simpa using f,g⟩
def TF(P:Program)(a:AF)(b:Cx)(c:List AV)(h:List (Nat×HO))(K:bK->List (Nat×HO)->Prop):Prop :=
 c.length<=a.nt/\vc P b a.body (ni P b.C a K) ⟨jo c 0,h,[]⟩
def Jk(E:Env)(K:bK->List (Nat×HO)->Prop)(e:Ending)(b:World):Prop :=
 ∃ c f,aD E c (look f) b/\match e with
   | .returned a=>∃ g,aC c b g a/\K (.ret g) f
   | .panicked h=>∃ a d,h=[{v:=a,recovered:=false}]/\au c.I b d a/\K (.aQ d) f
   | .outgrown=>False
theorem hZ.mono{G a:Gh}{w b:World}{u:Option D}{m:FrameMode}(h:hZ G w u m)(c:aW G w a b):hZ a b u m:=by
 cases u with
 | none=>exact h
 | some d=>obtain⟨v,e,f⟩:=h;exact⟨v,e,f.mono c.ef⟩
theorem tO{m:Program}{z:FuncId->List D->Out->Prop}(M:∀ f a a0,z f a a0->dO m f a a0){S:Func}{fn:AF}(N:bH (qc m) S.results.toList fn.res){K:bK->List (Nat×HO)->Prop}{U:Array Value}{s:List (Nat×Bool×AV)}:∀ (a:List DE) (j:List Deferred) (E:Env) (h:List (Nat×HO)) (G:Gh) (g:World) (u:Option D) (p:FrameMode),
  bO E G ⟨s,h,a⟩ {tmps:=U,defers:=j} g fn.nt->hZ G g u p->gn m z fn K u a s h ->LeavesInM (Fr none) 0 m S U (Jk E K) j p g
 | a,j,E,h,G,g,u,p,H,i,o=>by
  match a,j,H.defers with
  | [],[],_ =>
   cases u with
   | none =>
    simp only [hZ] at i;subst i;simp only [gn] at o;split at o
    ·rename_i c v b3;obtain⟨r,k1,k2⟩:=BS H (l:=fn.res) (F:=S) N (by exact b3) o.1;exact⟨r,k1,G,h,H.wr,v,k2,o.2⟩
    ·exact o.elim
   | some d =>obtain⟨v,rfl,q⟩:=i;exact⟨G,h,H.wr,v,d,rfl,q,o⟩
  | .mark n::a,_::j,.cons V W =>
   have A:look h n=some (.obj 0)/\gn m z fn K u a s (aM h n .dead):=by cases u <;> exact o
   obtain⟨q1,I⟩:=A;have X:p≠.run:=by
    cases u with
    | none=>simp only [hZ] at i;subst i;simp
    | some d=>obtain⟨v,rfl,_⟩:=i;simp
   cases V with
   | mark a1 =>
    rename_i b;obtain⟨a2,O,x2⟩:=H.wr.obj n 0 q1;have:a2=b:=by rw [a1] at O;injection O with O;exact O.symm
    subst this;have b4:=run_takeDeferred (P:=m) (w:=g) x2;obtain⟨Y,u2⟩:=H.wr.ye q1 a1 (.deferred none) .dead (.inl rfl);rw [<- tL] at u2;exact⟨X,.inl ⟨a2,_,rfl,b4,tO M N a j E _ G _ u p ⟨u2,H.sz,fun t e Z=>(by obtain⟨v,q1,I,q3⟩:=(H.sr t e Z).mono Y;exact⟨v,q1,I,q3⟩),pY.mono W Y⟩ (i.mono Y) I⟩⟩
  | .fn f as b0::a,_::j,.cons V W =>
   have A:∃ T,vS m f T/\T {C:=z,B:=newName h} (as++b0) u h (fun Q J=>gn m z fn K Q a s J):=by cases u <;> exact o
   obtain⟨T,b1,A⟩:=A;have X:p≠.run:=by
    cases u with
    | none=>simp only [hZ] at i;subst i;simp
    | some d=>obtain⟨v,rfl,_⟩:=i;simp
   cases V with
   | fn L g2 =>
    rename_i x y;have b5:=b1.2 (E.at_ h G g) {C:=z,B:=newName h} G h g (as++b0) (x.toList++y.toList) u p _ H.wr.tH ⟨rfl,fun ro G h g b9 c0 K _ _ b6=>b6.elim,fun _=>rfl,M⟩
     ⟨by simp [L.1,g2.1],fun k c v R q=>by
      by_cases b2:k<as.length
      ·rw [eY b2] at R;rw [eY (by simpa [L.1] using b2)] at q;exact L.2 k c v R (by simpa using q)
      ·rw [eJ (by omega)] at R;rw [eJ (by simp [L.1];omega)] at q;simp only [AA,L.1] at q;exact g2.2 _ c v R (by simpa using q)⟩ i A
    have b7:(invoke (.fn (.func f) y) x).run m g=.ok (.enter f (x.toList++y.toList).toArray) g:=by
     have e:x++y=(x.toList++y.toList).toArray:=by apply va;simp
     simp only [invoke];rw [e];exact Bn b1.1 _ g
    refine⟨X,.inr ⟨fun hd=>by simp [Fr,Fence.wide] at hd,_,_,f,_,rfl,b7,fun _ _=>trivial,CallsDIn.mono b5 (fun e c1 w' b8=>?_)⟩⟩;obtain⟨G',J,Q,k1,k2,k3⟩:=b8;obtain⟨m1,m2⟩:=H.wr.kz k1;have H3:bO E G' ⟨s,J,a⟩ {tmps:=U,defers:=j} w' fn.nt:=⟨m1,H.sz,fun t e Z=>(by obtain⟨v,q1,I,q3⟩:=(H.sr t e Z).mono m2;exact⟨v,q1,I,q3⟩),pY.mono W m2⟩
    cases e with
    | returned v=>exact tO M N a j E J G' w' Q _ H3 k3 k2
    | panicked ch=>exact tO M N a j E J G' w' Q _ H3 k3 k2
    | outgrown=>exact k3.elim
theorem BZ{P:Program}{E:Env}{G:Gh}{h:List (Nat×HO)}{w:World}{b:List AV}{a:List Value}{nt:Nat}(H:aD E G (look h) w)(c:yd G w b a)(k:b.length<=nt) :
  bO E G ⟨jo b 0,h,[]⟩ {tmps:=a.toArray++Array.replicate (nt-a.toArray.size) undef,defers:=[]} w nt:=by
 refine⟨H,?_,fun t e i=>?_,.nil⟩
 ·simp [c.1];omega
 ·obtain⟨d,_,k2,rfl⟩:=Jj i;rw [Nat.sub_zero] at k2;have f:t<a.length:=by
   rw [c.1];rcases bB t b.length with g | g
   ·exact g
   ·rw [cb g] at k2;cases k2
  refine⟨a[t],?_,fun _=>c.2 t d _ k2 (aI f),fun j=>by cases j⟩;simp only;rw [pC (by simpa using f)];simp [f]
def rQ(b:List RV)(K:Option D->List (Nat×HO)->Prop)(u:Option D):AE->St->Prop
 | .normal,a | .ret,a=>a.d=[]/\(match ky ⟨a.s,a.h,[]⟩ b with | some (c,_)=>c | none=>False)/\K u a.h
 | .aQ d,a=>a.d=[]/\u=none/\K (some d) a.h
 | .exit _,_=>False
def qi(b:List RV)(K:Option D->List (Nat×HO)->Prop)(u:Option D):AE->St->Prop
 | .normal,a | .ret,a=>a.d=[]/\(match ky ⟨a.s,a.h,[]⟩ b with | some (c,_)=>c | none=>False)/\K none a.h
 | .aQ d,a=>a.d=[]/\u=none/\K (some d) a.h
 | .exit _,_=>False
def TD(P:Program)(a:AF)(c:Cx)(b:List AV)(u:Option D)(h:List (Nat×HO))(K:Option D->List (Nat×HO)->Prop):Prop :=
 b.length<=a.nt/\vc P c a.body (rQ a.res K u) ⟨jo b 0,h,[]⟩
theorem S_{G:Gh}{w:World}{u:Option D}{m:FrameMode}(h:hZ G w u m):settle m=m:=by
 cases u with
 | none=>simp only [hZ] at h;subst h;rfl
 | some d=>obtain⟨v,rfl,_⟩:=h;rfl
theorem yk{E:Env}{G:Gh}{b:St}{a:Act}{w:World}{nt:Nat}(H:bO E G b a w nt)(h:b.d=[]):a.defers=[]:=by have:=H.defers;rw [h] at this;generalize a.defers=x at this;cases this;rfl
theorem jq{m:Program}{f:FuncId}{q:AF}(N:g' m f q):vS m f (TD m q):=by
 obtain⟨o,c,C,O,D,y,Q,S⟩:=N.ex;refine⟨⟨o,C,O,by rw [D];rfl⟩,fun E cx G h w a1 a2 I s K H T U t V=>?_⟩;obtain⟨W,X⟩:=V;have a:=BZ (P:=m) (nt:=o.ntmps) H U (by rw [y];exact W);rw [y] at a;have J:=BY (ro:=none) Q T X a;rw [<- y] at J;refine CallsDIn.mono (callsDIn_of_wp (F:=Fr none) (n:=0) (P:=m) (u:=s) (R:=fun e j=>∃ b p k,aD E b (look p) j/\K k p/\match e with
   | .returned _=>hZ b j k (settle s)
   | .panicked L=>hZ b j k (raised s L)
   | .outgrown=>False) C D trivial (ob J (fun e x j i=>?_)) rfl) (fun e k j z=>?_)
 ·have M:∀ (b:Gh) (g:St),bO E b g x j o.ntmps->g.d=[]/\(match ky ⟨g.s,g.h,[]⟩ q.res with | some (c,_)=>c | none=>False)/\K I g.h ->x.defers=[]/\∃ v,(results o x.tmps).run m j=.ok v j/\∃ b p k,aD E b (look p) j/\K k p/\hZ b j k (settle s):=by
   intro b g a i;obtain⟨q1,A,B⟩:=i;split at A
   ·rename_i c v Y;have Z:bO E b ⟨g.s,g.h,[]⟩ x j o.ntmps:=⟨a.wr,a.sz,a.sr,by have:=a.defers;rw [q1] at this;exact this⟩;obtain⟨r,k1,k2⟩:=BS Z (l:=q.res) (F:=o) S Y A;refine⟨yk a q1,r,k1,b,g.h,I,a.wr,B,?_⟩;rw [S_ t];exact t.mono a.wr.gb
   ·exact A.elim
  cases e with
  | normal=>obtain⟨b,g,a,i⟩:=i;exact M b g a i
  | ret=>obtain⟨b,g,a,i⟩:=i;exact M b g a i
  | panic L =>obtain⟨b,g,v,d,a,rfl,a0,q1,rfl,B⟩:=i;simp only [hZ] at t;subst t;exact⟨yk a q1,b,g.h,some d,a.wr,B,v,rfl,a0⟩
  | exit id=>obtain⟨b,g,a,i⟩:=i;exact i.elim
  | goto b0=>exact i.elim
  | outgrown=>exact i.elim
 ·obtain⟨rfl,z⟩:=z;exact z
structure AR where
 nt:Nat
 ta:Nat
 tb:Nat
 rest:AC
 res:List RV
structure rR (P:Program) (f:FuncId) (g:AR):Prop where
 ex:∃ F id o0 o1 c args ts,P.funcs[f]?=some F/\(F.name == "runtime.NumGoroutine")=false/\F.body=some (.seq (.region id #[o0,o1] false) c)/\F.ntmps=g.nt /\o0.op=.call {callee:=.builtin .recover,args:=args,argTypes:=ts}/\o0.guard=none/\o0.dst=some g.ta/\(o1.op=.assign (.tmp g.ta)\/o1.op=.move (.tmp g.ta))/\o1.guard=none/\o1.dst=some g.tb/\g.ta<g.nt/\g.tb<g.nt/\ej P g.nt c g.rest/\bH (qc P) F.results.toList g.res
def uD(u:Option D):D:=u.getD (.lit .nilIface)
def TR(P:Program)(g:AR)(b:Cx)(a:List AV)(u:Option D)(h:List (Nat×HO))(K:Option D->List (Nat×HO)->Prop):Prop :=
 a.length<=g.nt/\vc P b g.rest (qi g.res K u) ⟨(g.tb,true,.d (uD u))::(g.ta,true,.d (uD u))::jo a 0,h,[]⟩
theorem gE{k:Program}{f:FuncId}{I:AR}(b4:rR k f I):vS k f (TR k I):=by
 obtain⟨p,id,A,J,c,d6,d7,X,h2,Y,Z,r1,r2,L,B,r5,r6,M,r8,h5,h6⟩:=b4.ex;obtain⟨nt,ta,tb,rest,N⟩:=I;simp only at Z L B r6 M r8 h5 h6;subst Z;refine⟨⟨p,X,h2,by rw [Y];rfl⟩,fun E cx G h w d8 a1 u d9 K H b5 hr O b6=>?_⟩;obtain⟨b7,b8⟩:=b6;have a:=BZ (P:=k) (nt:=p.ntmps) H hr b7;refine callsDIn_of_wpSIn (F:=Fr none) (n:=0) X Y trivial (fun m q Q=>?_);obtain⟨y,b9⟩:∃ y:Act,y={tmps:=a1.toArray++Array.replicate (p.ntmps-a1.toArray.size) undef,defers:=[]}:=⟨_,rfl⟩;rw [<- b9] at a |-;obtain⟨b,t,C,D,a2⟩:∃ b t,(recoverD (m::q)=some (b,{m with mode:=t}::q)\/(recoverD (m::q)=none/\b=.nilIface/\m={m with mode:=t}))/\aC G w (.d (uD u)) b /\(settle t=.returning/\(u=none->t=.returning)):=by
  cases u with
  | none =>simp only [hZ] at O;subst O;exact⟨.nilIface,.returning,.inr ⟨by simp [recoverD,Q],rfl,by rw [<- Q]⟩,.d (.lit trivial),rfl,fun _=>rfl⟩
  | some d =>obtain⟨b,rfl,D⟩:=O;exact⟨b,_,.inl (by simp [recoverD,Q];rfl),.d (D.mono H.gb.ef),rfl,fun h=>by cases h⟩
 have H1:=a.put (up:=[]) (dst:=some ta) (g:=true) (v:=.d (uD u)) (val:=b) (aW.refl G w) a.wr (fun d z=>by injection z with z;rw [<- z];exact M) (fun _=>D) (fun S=>by cases S);have T:=H1.put (up:=[]) (dst:=some tb) (g:=true) (v:=.d (uD u)) (val:=b) (aW.refl G w) H1.wr (fun d z=>by injection z with z;rw [<- z];exact r8) (fun _=>D) (fun S=>by cases S);have c0:=BY (ro:=none) h5 b5 (by exact b8) T;have c1:∀ R:Ending->FrameMode->World->Prop,(∀ e x s,gL E p.ntmps (qi N K u) e x s->bodyPostS k p m q R e x ({m with mode:=t}::q) s) ->Code.wpSIn (Fr none) 0 k (.seq (.region id #[A,J] false) c) (bodyPostS k p m q R) y (m::q) w:=by
  intro R c2;refine wpSIn_seq (wpSIn_region ?_);have e0:(execOp y.eval A).run k w=.ok .recover w:=by simp [execOp,r1,resolve,invoke,builtin]
  have U:wpOpsSIn (Fr none) 0 k #[A,J] (Exit.thenS (c.wpSIn (Fr none) 0 k (bodyPostS k p m q R)) (bodyPostS k p m q R)) [1] (y.put A.dst b) ({m with mode:=t}::q) w:=by
   have e1:(execOp (y.put A.dst b).eval J).run k w=.ok (.value b) w:=by
    have d0:(y.put A.dst b).eval (.tmp ta)=b:=by have d1:y.tmps.size=p.ntmps:=a.sz;rw [L];simp [Act.put,Act.eval,d1,M]
    rcases B with B | B <;> simp only [execOp,B,dV,d0]
   simp only [wpOpsSIn,qV,GZ,xC,Region.wanted,r5,e1,eA];refine⟨fun _ _=>trivial,?_⟩;refine wpSIn_of_wpIn rfl (ob ?_ (fun e x s i=>c2 e x s i));rw [L,r6];exact c0
  simp only [mM,bN,mR,show List.range (0+1+1)=[0,1] from rfl];unfold wpOpsSIn;simp only [qV,xC,Region.wanted,r2,eA];refine⟨fun _ _=>trivial,?_⟩;rw [e0];rcases C with C | ⟨C,rfl,d2⟩
  ·simp only [C];exact U
  ·simp only [C];rw [<- d2] at U;exact U
 refine c1 _ (fun e x s i=>?_);have b0:∀ (o:Gh) (j:St),bO E o j x s p.ntmps->j.d=[]/\(match ky ⟨j.s,j.h,[]⟩ N with | some (c,_)=>c | none=>False)/\K none j.h ->x.defers=[]/\∃ b1,({m with mode:=t}::q:List Frame)={m with mode:=b1}::q/\∃ b,(results p x.tmps).run k s=.ok b s/\∃ o b2 b3,aD E o (look b2) s/\K b3 b2/\hZ o s b3 (settle b1):=by
  intro o j a i;obtain⟨q1,V,W⟩:=i;split at V
  ·rename_i c b d3;have T:bO E o ⟨j.s,j.h,[]⟩ x s p.ntmps:=⟨a.wr,a.sz,a.sr,by have:=a.defers;rw [q1] at this;exact this⟩;obtain⟨r,k1,k2⟩:=BS T (l:=N) (F:=p) h6 d3 V;exact⟨yk a q1,t,rfl,r,k1,o,j.h,none,a.wr,W,a2.1⟩
  ·exact V.elim
 cases e with
 | normal=>obtain⟨o,j,a,i⟩:=i;exact b0 o j a i
 | ret=>obtain⟨o,j,a,i⟩:=i;exact b0 o j a i
 | panic e2 =>obtain⟨o,j,b,d,a,rfl,d4,q1,d5,W⟩:=i;refine⟨yk a q1,t,rfl,o,j.h,some d,a.wr,W,?_⟩;rw [a2.2 d5];exact⟨b,rfl,d4⟩
 | exit id=>obtain⟨o,j,a,i⟩:=i;exact i.elim
 | goto e3=>exact i.elim
 | outgrown=>exact i.elim
theorem aR{i:Program}{f:FuncId}{r:AF}(y:g' i f r):cW i f (TF i r):=by
 obtain⟨s,c,t,z,u,j,A,o⟩:=y.ex;refine⟨⟨s,t,z,by rw [u];rfl⟩,fun E M G h w N B K H m C D=>?_⟩;obtain⟨I,J⟩:=D;have b:=BZ (P:=i) (nt:=s.ntmps) H C (by rw [j];exact I);rw [j] at b;have x:=BY (ro:=none) A m J b;rw [<- j] at x;refine(callsIn_wide (n:=0)).1 ((callsIn_of_wp_marks (F:=Fr none) (n:=0) (P:=i) (R:=Jk E K) t u trivial (ob x (fun e p q a=>?_)) rfl:CallsIn (Fr none) 0 i f B.toArray w _));cases e with
 | normal=>obtain⟨k,g,b,a⟩:=a;rw [j] at b;exact tO m.c o g.d p.defers E g.h k q none .returning b rfl a
 | ret=>obtain⟨k,g,b,a⟩:=a;rw [j] at b;exact tO m.c o g.d p.defers E g.h k q none .returning b rfl a
 | panic O =>obtain⟨k,g,v,d,b,rfl,L,a⟩:=a;rw [j] at b;exact tO m.c o g.d p.defers E g.h k q (some d) _ b ⟨v,rfl,L⟩ a
 | exit id=>obtain⟨k,g,b,a⟩:=a;exact a.elim
 | goto l=>exact a.elim
 | outgrown=>exact a.elim
def qj(i:Out):bK->List (Nat×HO)->Prop
 | .ret v,h=>match i with
  | .ret d=>aq tD tF tG 3 v (.d d)
  | .aQ _=>False
  | .fA j l c k=>match v with
   | .aE n 0 z m o=>(z=j/\m=l/\o=c)/\∃ p,look h n=some (.box p (k.map .d))
   | _=>False
  | .fH q a=>match v with
   | .ptr n 0=>∃ b f,look h n=some (.box true (q.map .d++[.mp b,.mp f]))/\b≠f/\look h b=some (.aA [])/\look h f=some (.aA (a.map fun e=>(e.1,AV.d e.2)))/\eB (a.map fun e=>(e.1,AV.d e.2))=false
   | _=>False
  | .fa a=>match v with
   | .mp n=>match look h n with
    | some (.aA g)=>(eB g=false/\g.map (·.1)=a.map (·.1))/\aq tD tF tG 3 (.af (g.map (·.2))) (.d (.af (a.map (·.2))))
    | _=>False
   | _=>False
 | .aQ x,_=>match i with
  | .aQ d=>x=d
  | _=>False
def Jl(P:Program)(a:FuncId->List D->Out->Prop)(b:AF)(c:List D)(d:Out):Prop:=vc P {C:=a} b.body (ni P a b (qj d)) ⟨jo (c.map .d) 0,[],[]⟩
theorem S'{P:Program}{f:FuncId}{T:Cx->List AV->List (Nat×HO)->(bK->List (Nat×HO)->Prop)->Prop}(d2:cW P f T){X:List D}{L:Out}{b8:FuncId->List D->Out->Prop}(e0:∀ f S L,b8 f S L->dO P f S L)(Y:(∀ d∈X,Real d)->T {C:=b8} (X.map .d) [] (qj L))(ho:L.isApp=false:=by rfl):dO P f X L:=by
 refine ku.to ?_ ho;refine⟨d2.1,fun d3 w b0 e6 e7 o=>?_⟩;have e8:∀ d∈X,Real d:=fun d F=>by
  obtain⟨k,p⟩:=hs F;have b9:k<b0.size:=by
   rw [o.1];rcases bB k X.length with b7 | b7
   ·exact b7
   ·rw [cb b7] at p;cases p
  exact⟨_,_,_,o.2 k d _ p (bb b9)⟩
 have Y:=Y e8
 let G:Gh:={I:=d3,box:=fun _=>none,row:=fun _=>none}
 let E:Env:={w0:=w,I0:=d3,K:=fun b=>b<w.heap.size,B:=0,Gb:=G,wb:=w,gl:=e7}
 have H:aD E G (look []) w:=⟨rfl,rfl,rfl,bj _,fun b q=>⟨q,rfl⟩,fun j i=>⟨i,rfl⟩,fun j i=>.inl i,e6,fun n _=>⟨rfl,rfl⟩,fun n ag cs b3=>by simp [look] at b3,fun n b q=>by simp [G] at q,fun n m b q=>by simp [G] at q,fun r o=>by simp [look] at o,fun r g5 A n g6 sz A' g7 g8 g9 o=>by simp [look] at o,fun n s b3=>by simp [look] at b3,fun n s b3=>by simp [look] at b3,aW.refl G w,fun n b q=>by simp [E,G] at q,fun n b q=>by simp [E,G] at q⟩;have d4:=d2.2 E {C:=b8} G [] w (X.map .d) b0.toList (qj L) H ⟨rfl,fun ro G h w h0 b0 h5 _ _ e9=>e9.elim,fun _=>rfl,e0⟩ ⟨by simp [o.1],fun k c u p M=>by simp only [bG,bZ] at p;obtain⟨d,F,rfl⟩:=p;exact .d (o.2 k d u F (by simpa using M))⟩ Y
 rw [show b0.toList.toArray=b0 by simp] at d4;refine AQ d4 fun e w' b4=>?_
 obtain⟨J,b7,g,b4⟩:=b4;have b5:ct w w':=⟨g.os,g.tape,g.output,g.size,fun b q=>(g.kept b q).2⟩;cases e with
 | returned v =>
  obtain⟨h6,k1,k2⟩:=b4;cases L with
  | ret d=>exact⟨J.I,v,fun j i=>(g.i0 j i).1,g.eo,g.cu,b5,rfl,(rL 3 _ _ k2 k1).cw⟩
  | aQ d=>exact k2.elim
  | fA sz l c cs =>
   simp only [qj] at k2;split at k2
   ·rename_i n z d5 c0;obtain⟨⟨rfl,rfl,rfl⟩,ag,j1⟩:=k2;obtain⟨b,N,ty,O,e2,Z,e4,e5⟩:=g.box _ _ _ j1;obtain⟨Q,U,rfl,R,h1,h2,h3,h4⟩:∃ Q U,v=.slice (some ⟨U,0,none⟩) d5 Q/\J.box n=some U/\d5<=c0/\c0<=Q/\Q<=9223372036854775807/\(Q=c0\/0+Q*z<=(J.rc n).defers):=by
     cases k1 with
     | aE R h1 h2 h3 h4=>exact⟨_,_,rfl,R,h1,h2,h3,h4⟩
    rw [R] at O;injection O with O;subst O
    refine⟨J.I,_,fun j i=>(g.i0 j i).1,g.eo,g.cu,b5,rfl,U,N,ty,Q,rfl,vb (g.bJ _ _ R).2.1,e2,fun j i=>(g.bJ _ _ R).2.2.1 (by rw [j1];simp) j i,⟨h1,h2,h3⟩,?_,by simpa using Z.1,fun k d u F M=>⟨e4 (.d d) (aS.2 ⟨d,dh F,rfl⟩),(Z.2 k (.d d) u (by simp [F]) M).cw⟩⟩;rcases h4 with h4 | h4
    ·exact .inl h4
    ·exact .inr (by omega)
   ·exact k2.elim
  | fH S es =>
   simp only [qj] at k2;split at k2
   ·rename_i n;obtain⟨m1,m2,j1,j2,j3,j4,j5⟩:=k2;obtain⟨b,N,ty,O,e2,Z,e4,e5⟩:=g.box _ _ _ j1;obtain⟨b1,a1,c1,t,f2,W⟩:=g.aA _ _ j3;obtain⟨b2,a2,Q,g1,g2,g3⟩:=g.aA _ _ j4;cases k1;rename_i U a0;rw [a0] at O;injection O with O;subst O
    have d0:∀ m c,J.box m=some c->w.heap.size<=c:=fun m c hm=>vb (g.bJ _ _ hm).2.1
    have f0:S.length+2<=N.size:=by have:=Z.1;simpa using this
    have d6:∀ (k:Nat) (c:AV),(S.map AV.d++[.mp m1,.mp m2])[k]?=some c->∃ u,N[k]?=some u/\aC J w' c u:=fun k c d7=>by have b9:=(bu.1 d7).1;simp at b9;exact⟨N[k]'(by omega),bb _,Z.2 k c _ d7 (bb _)⟩
    refine⟨J.I,_,fun j i=>(g.i0 j i).1,g.eo,g.cu,b5,rfl,U,b1,b2,N,ty,rfl,⟨d0 _ _ a0,fun e=>?_⟩,e2,fun j i=>(g.bJ _ _ a0).2.2.1 (by rw [j1];simp) j i,f0,fun k d u F M=>⟨?_,?_⟩,?_,?_,⟨d0 _ _ t,a1,c1,f2,⟨W.1,rfl⟩,by simpa using (W.pos rfl).1,fun k x y V=>by simp at V⟩,d0 _ _ g1,a2,Q,g2,⟨g3.1,j5⟩,by simpa using (g3.pos j5).1,fun k x y V f4=>?_⟩
    ·exact j2 (g.eC m1 m2 b1 t (by rw [g1,e]) (by rw [j3];simp) (by rw [j4];simp))
    ·exact e4 (.d d) (hX _ (aS.2 ⟨d,dh F,rfl⟩))
    ·exact(Z.2 k (.d d) u (by rw [eY (by simp;exact(bu.1 F).1)];simp [F]) M).cw
    ·obtain⟨u,M,o⟩:=d6 S.length (.mp m1) (by rw [eJ (by simp)];simp);cases o with
     | mp R=>rw [R] at t;injection t with t;rw [M,t]
    ·obtain⟨u,M,o⟩:=d6 (S.length+1) (.mp m2) (by rw [eJ (by simp)];simp);cases o with
     | mp R=>rw [R] at g1;injection g1 with g1;rw [M,g1]
    ·obtain⟨r1,r2⟩:=(g3.pos j5).2 k (x.1,.d x.2) y (by simp [V]) f4;exact⟨r1,r2.cw⟩
   ·exact k2.elim
  | fa es =>
   simp only [qj] at k2;split at k2
   ·rename_i n;split at k2
    ·rename_i b6 f5;obtain⟨b,N,ck,t,f2,d8⟩:=g.aA _ _ f5;obtain⟨⟨k0,d1⟩,f6⟩:=k2;have W:=d8.pos k0;cases k1;rename_i U a0;rw [a0] at t;injection t with t;subst t
     have f7:=(g.bJ _ _ a0).2.1;have d9:b6.length=es.length:=by simpa using congrArg List.length d1
     have f8:aC J w' (.af (b6.map (·.2))) (.tuple (N.map (·.val))):=.af (by simp [W.1]) (fun k c v p Y=>by simp only [bG,bZ] at p;simp only [Array.getElem?_map,bZ] at Y;obtain⟨e,he,rfl⟩:=p;obtain⟨x,V,rfl⟩:=Y;exact(W.2 k e x he V).2)
     have f9:=(rL 3 _ _ f6 f8).cw;cases f9;rename_i h7 g0;refine⟨J.I,_,fun j i=>(g.i0 j i).1,g.eo,g.cu,b5,rfl,U,N,ck,rfl,vb f7,f2,⟨d8.1,by rw [<- vq (a:=b6) (by rw [d1];simp [dA,vh]),k0]⟩,W.1.trans d9,fun k e x he V=>⟨?_,?_⟩⟩
     ·have p:k<b6.length:=by rw [d9];exact(bu.1 he).1
      have h1:=(W.2 k b6[k] x (aI p) V).1;have h2:=congrArg (fun l=>l[k]?) d1;simp only [bG,he,aI p,lU,aL] at h2;rw [h1,h2]
     ·exact g0 k e.2 x.val (by simp [he]) (by simp [V])
    ·exact k2.elim
   ·exact k2.elim
 | panicked ch =>
  obtain⟨v,d,rfl,k1,k2⟩:=b4;cases L with
  | ret d=>exact k2.elim
  | aQ g4 =>have k3:d=g4:=k2;exact⟨J.I,v,fun j i=>(g.i0 j i).1,g.eo,g.cu,b5,rfl,k3 ▸ k1⟩
  | fa es=>exact k2.elim
  | fH S es=>exact k2.elim
  | fA sz l c cs=>exact k2.elim
 | outgrown=>exact b4.elim
theorem aG{P:Program}{f:FuncId}{c:AF}{b:List D}{a:Out}{C:FuncId->List D->Out->Prop}(g:∀ f e a,C f e a->dO P f e a)(h:g' P f c)(i:b.length<=c.nt)(j:(∀ d∈b,Real d)->Jl P C c b a)(ho:a.isApp=false:=by rfl):dO P f b a :=
 S' (aR h) g (fun k=>⟨by simpa using i,j k⟩) ho
def Ta(a:Nat)(b:List D):bK->List (Nat×HO)->Prop
 | .ret (.own r z c),h=>z=a/\c=b/\look h r=some .row
 | _,_=>False
def mc:D->Value->Bool
 | .lit (.int k n),.int a c=>decide (k=a)&&(decide (n=c)&&(decide (k.min<=n)&&decide (n<=k.max)))
 | .lit (.bool b),.bool d=>b == d
 | .lit (.string s),.string e=>decide (s=e)&&decide (s.size<=9223372036854775807)
 | .lit (.pointer none),.pointer none=>true
 | .lit .nilFunc,.nilFunc=>true
 | .lit .nilIface,.nilIface=>true
 | .lit (.map none),.map none=>true
 | .nil _,.slice none 0 0=>true
 | _,_=>false
theorem oH{d:D}{v:Value}(h:mc d v=true):(∀ I w,au I w d v)/\d.one=true:=by
 unfold mc at h;split at h
 ·simp only [ax,bD] at h;obtain⟨rfl,rfl,a,b⟩:=h;exact⟨fun _ _=>.lit ⟨a,b⟩,rfl⟩
 ·obtain rfl:=eq_of_beq h;exact⟨fun _ _=>.lit trivial,rfl⟩
 ·simp only [ax,bD] at h;obtain⟨rfl,a⟩:=h;exact⟨fun _ _=>.lit a,rfl⟩
 ·exact⟨fun _ _=>.lit trivial,rfl⟩
 ·exact⟨fun _ _=>.lit trivial,rfl⟩
 ·exact⟨fun _ _=>.lit trivial,rfl⟩
 ·exact⟨fun _ _=>.lit trivial,rfl⟩
 ·exact⟨fun _ _=>.nil,rfl⟩
 ·cases h
def aU:Operand->aO->Bool
 | .tmp t,.tmp a=>t == a
 | .const v,.av d=>mc d v
 | .func f,.av (.fn (.func b) [] [])=>f == b
 | .global g,.lr c=>g == c
 | _,_=>false
theorem aT{x:Operand}{d:aO}(h:aU x d=true):CO x d:=by
 unfold aU at h;split at h
 ·obtain rfl:=eq_of_beq h;exact .tmp _
 ·exact .av _ _ (fun a I w=>(oH h).1 I w)
 ·obtain rfl:=eq_of_beq h;exact .av _ _ (fun a I w=>.fn rfl rfl (fun k c v b=>by simp at b) (fun k c v b=>by simp at b))
 ·obtain rfl:=eq_of_beq h;exact .lr _
 ·cases h
def gp{a b:Type}(f:a->b->Bool):List a->List b->Bool
 | [],[]=>true
 | x::l,y::m=>f x y&&gp f l m
 | _,_=>false
theorem jr{a b:Type}{f:a->b->Bool}{R:a->b->Prop}(c:∀ x y,f x y=true->R x y):∀ {l:List a}{m:List b},gp f l m=true->bH R l m
 | [],[],_=>.nil
 | x::l,y::m,h=>by simp only [gp,ax] at h;exact .cons (c x y h.1) (jr c h.2)
 | [],_::_,h=>by simp [gp] at h
 | _::_,[],h=>by simp [gp] at h
def rS:Option Operand->Option aO->Bool
 | none,none=>true
 | some x,some y=>aU x y
 | _,_=>false
theorem vT{x:Option Operand}{y:Option aO}(h:rS x y=true):gZ x y:=by
 unfold rS at h;split at h
 ·exact .none
 ·exact .some (aT h)
 ·cases h
def qk(z:List D)(v:Value):Bool:=gp mc z v.cells.toList
theorem rT{z:List D}{v:Value}(h:qk z v=true):Zero z v.cells:=by
 have e:=jr (R:=fun d u=>mc d u=true) (fun _ _ h=>h) h;have i:=gD e;refine⟨fun I w=>⟨by simpa using i.symm,fun k c u b j=>?_⟩,fun c l=>?_⟩
 ·have m:v.cells.toList[k]?=some u:=by simpa using j
  obtain⟨x,a,f⟩:=pW e m;rw [b] at a;injection a with a;subst a
  exact(oH f).1 I w
 ·obtain⟨k,b⟩:=hs l;have n:k<v.cells.toList.length:=by
   rw [<- i];rcases bB k z.length with g | g
   ·exact g
   ·rw [cb g] at b;cases b
  obtain⟨x,a,f⟩:=pW e (aI n);rw [b] at a;injection a with a;subst a
  exact(oH f).2
def jS(o:Op):Option (Builtin×List Operand×List TypeId) :=
 match o with
 | .call c=>match c.callee with
  | .builtin b=>some (b,c.args.toList,c.argTypes.toList)
  | _=>none
 | _=>none
theorem lA{o:Op}{b:Builtin}{a:List Operand}{d:List TypeId}(h:jS o=some (b,a,d)):o=.call {callee:=.builtin b,args:=a.toArray,argTypes:=d.toArray}:=by
 unfold jS at h;split at h
 ·rename_i c;split at h
  ·rename_i f e;simp only [aL,ee] at h;obtain⟨rfl,rfl,rfl⟩:=h;cases c;simp at e;subst e;rfl
  ·cases h
 ·cases h
section
variable (P:Program)
def iT(t:TypeId)(n:Nat):Bool:=match P.info? t with | some i=>i.size == n | none=>false
def rowIs(t:TypeId)(b:Bool):Bool:=match P.underlying t with | some d=>d.isRow == b | none=>false
def elemOf(t:TypeId):Option TypeId:=match P.underlying t with | some (.slice e)=>some e | _=>none
def ym(t:TypeId):Option (Nat×TypeId):=match P.underlying t with | some (.array n e)=>some (n,e) | _=>none
def yn(t:TypeId)(f:Nat):Option Field:=match P.underlying t with | some (.struct a)=>a[f]? | _=>none
def zeroOf(t:TypeId):Option Value:=match P.info? t with | some i=>i.zero | none=>none
def isStr(t:TypeId):Bool:=match P.underlying t with | some .string=>true | _=>false
def isInt(t:TypeId)(k:IntKind):Bool:=match P.underlying t with | some (.int a)=>decide (k=a) | _=>false
def yo(t:TypeId):Bool:=match P.underlying t with | some (.interface _)=>false | some _=>true | none=>false
def placeOf(t:TypeId)(i:Nat):Option (Nat×Nat) :=
 match P.underlying t with
 | some (.array _ e)=>(P.info? e).map fun a=>(i*a.size,a.size)
 | some (.struct fields)=>match fields.toList.mapM (fun f=>(P.info? f.type).map fun i=>(f.offset,i.size)) with
  | some b=>b.toArray[i]?
  | none=>none
 | _=>none
def B_(t:TypeId):Bool :=
 match P.underlying t with
 | some (.array _ e)=>(P.info? e).isSome
 | some (.struct fields)=>(fields.toList.mapM (fun f=>(P.info? f.type).map fun i=>(f.offset,i.size))).isSome
 | _=>false
def mapOf(t:TypeId):Option (TypeId×TypeId):=match P.underlying t with | some (.map k e)=>some (k,e) | _=>none
theorem tP{t k e:TypeId}(h:mapOf P t=some (k,e)):P.underlying t=some (.map k e):=by
 unfold mapOf at h;split at h
 ·rename_i a;simp only [aL,ee] at h;obtain⟨rfl,rfl⟩:=h;exact a
 ·cases h
def vU(t:TypeId)(a:SK):Bool:=match P.underlying t,a with
 | some (.int k),.int b=>decide (k=b)
 | some .bool,.bool=>true
 | some .string,.str=>true
 | _,_=>false
theorem B'{t:TypeId}{a:SK}(h:vU P t a=true):P.underlying t=some (SK.desc a):=by
 unfold vU at h;split at h
 ·rename_i b;simp only [bD] at h;subst h;exact b
 ·assumption
 ·assumption
 ·cases h
def Ca(x:Operand)(lo f:Option Operand)(a b:Bool)(g:List aO):Bool :=
 match g,lo,f,a,b with
 | [c],none,none,false,false=>aU x c
 | [c,d],some l,none,true,false=>aU x c&&aU l d
 | [c,e],none,some h,false,true=>aU x c&&aU h e
 | [c,d,e],some l,some h,true,true=>aU x c&&(aU l d&&aU h e)
 | _,_,_,_,_=>false
def Cb(o:Op):Ext->List aO->Bool
 | .oi q F,[d,h]=>match o with
  | .binOp j t x y _=>decide (j=if q then .neq else .eql)&&(aU x d&&(aU y h&&(decide (hB P 20 t=some F)&&(P.keyTypeAt 20 t&&(!P.eqGuardType P.depth t&&(P.cellsOf t == F.length &&
    (match P.underlying t with | some (.array _ _) | some (.struct _)=>true | _=>false)))))))
  | _=>false
 | .rf q,[d,h]=>match o with
  | .binOp j t x y _=>decide (j=if q then .neq else .eql)&&(aU x d&&(aU y h&&(match P.underlying t with | some .bool=>true | _=>false)))
  | _=>false
 | .isNil q,[d]=>match o with
  | .binOp j t x (.const .nilIface) _=>decide (j=if q then .neq else .eql)&&(aU x d&&(match P.underlying t with | some (.interface _)=>true | _=>false))
  | _=>false
 | .pL,[d,h]=>match o with
  | .index t x y=>isStr P t&&(aU x d&&aU y h)
  | _=>false
 | .shift left,[d,h]=>match o with
  | .binOp j _ x y _=>decide (j=if left then .shl else .shr)&&(aU x d&&aU y h)
  | _=>false
 | .lX t z,[d]=>match o with
  | .typeAssert x _ H true=>H == t&&(yo P t&&(aU x d&&(match zeroOf P t with
   | some v=>match z,v with
    | .agg p,.agg _=>qk p v
    | z,v=>mc z v
   | none=>false)))
  | _=>false
 | .eD,[d]=>match o with
  | .nilCheck x=>aU x d
  | _=>false
 | .jl,[]=>match o with
  | .makeMap _ none=>true
  | _=>false
 | .insert s,[u,w,G]=>match o with
  | .insert t m k v=>(match mapOf P t with | some (r,_)=>vU P r s | none=>false)&&(aU m u&&(aU k w&&aU v G))
  | .mapUpdate t m k v=>(match mapOf P t with | some (r,_)=>vU P r s | none=>false)&&(aU m u&&(aU k w&&aU v G))
  | _=>false
 | .lookup s I z,[u,w]=>match o with
  | .lookup t m k J=>decide (J=I)&&(match mapOf P t with
   | some (r,K)=>vU P r s&&(aU m u&&(aU k w&&(match zeroOf P K with
    | some v=>match z,v with
     | .agg p,.agg _=>qk p v
     | z,v=>mc z v
    | none=>false)))
   | none=>false)
  | _=>false
 | .mW,[d]=>match jS o with
  | some (.cap,[x],[t])=>(elemOf P t).isSome&&aU x d
  | _=>false
 | .oj g bytes,[d,h]=>match jS o with
  | some (.append,[x,y],[t,L])=>aU x d&&(aU y h&&((match P.underlying L with | some (.int _)=>true | _=>false)&&(match elemOf P t with
   | some e=>(match P.info? e with
    | some i=>i.size == g&&(i.bytes == bytes&&(decide (0<g)&&(match i.zero with | some B=>B.cells.size == g | none=>false)))
    | none=>false)
   | none=>false)))
  | _=>false
 | .om g bytes z,[C,D]=>match o with
  | .makeSlice t l c=>aU l C&&(aU c D&&(match elemOf P t with
   | some e=>(match P.info? e with
    | some i=>i.size == g&&(i.bytes == bytes&&(decide (0<g)&&(z.cells.length == g&&((match z with | .af _=>false | _=>true)&&(match i.zero with
     | some v=>(match z,v with
      | .agg p,.agg _=>qk p v
      | z,v=>mc z v)
     | none=>false)))))
    | none=>false)
   | none=>false))
  | _=>false
 | .ls,[d]=>match o with
  | .box _ x=>aU x d
  | _=>false
 | .rj _,[]=>match o with
  | .buildSlice t n A=>n == 0&&(A.toList.isEmpty&&(match elemOf P t with
   | some e=>(P.info? e).isSome
   | none=>false))
  | _=>false
 | .rm g bytes,[d,h]=>match jS o with
  | some (.append,[x,y],[t,M])=>M == t&&(aU x d&&(aU y h&&(match elemOf P t with
   | some e=>(match P.info? e with
    | some i=>i.size == g&&(i.bytes == bytes&&(decide (0<g)&&(match i.zero with | some B=>B.cells.size == g | none=>false)))
    | none=>false)
   | none=>false)))
  | _=>false
 | .fG g,[d,h]=>match o with
  | .indexAddr t x y=>match elemOf P t with
   | some e=>aU x d&&(aU y h&&iT P e g)
   | none=>false
  | _=>false
 | .pM g,ps=>match o with
  | .buildSlice t N A=>match elemOf P t with
   | some e=>match zeroOf P e with
    | some v=>iT P e g&&(decide (0<g)&&(v.cells.size == g&&(N == ps.length&&(A.toList.map (·.1) == List.range ps.length&&gp aU (A.toList.map (·.2)) ps))))
    | none=>false
   | none=>false
  | _=>false
 | .pN,[d]=>match jS o with
  | some (.len,[x],[t])=>(mapOf P t).isSome&&aU x d
  | _=>false
 | .iO,[d]=>match jS o with
  | some (.len,[x],[t])=>(elemOf P t).isSome&&aU x d
  | _=>false
 | .sliceB g a b,E=>match o with
  | .slice t x lo O none=>match elemOf P t with
   | some e=>iT P e g&&Ca x lo O a b E
   | none=>false
  | _=>false
 | .oo g bytes z,[C,D]=>match o with
  | .makeSlice t l c=>aU l C&&(aU c D&&(match elemOf P t with
   | some e=>(match P.info? e with
    | some i=>i.size == g&&(i.bytes == bytes&&(decide (0<g)&&(z.cells.length == g&&((match z with | .af _=>false | _=>true)&&(match i.zero with
     | some v=>(match z,v with
      | .agg p,.agg _=>qk p v
      | z,v=>mc z v)
     | none=>false)))))
    | none=>false)
   | none=>false))
  | _=>false
 | .ri f,E=>match o with
  | .makeFunc Q R S=>decide (f=Q)&&(R.toList.isEmpty&&gp aU S.toList E)
  | _=>false
 | .rh g T n,[d,h]=>match o with
  | .index t x y=>match ym P t with
   | some (U,e)=>U == n&&(aU x d&&(aU y h&&(iT P e g&&rowIs P e T)))
   | none=>false
  | _=>false
 | _,_=>false
def eL(o:Op):ei->Bool
 | .ak d=>match o with
  | .move x | .assign x=>aU x d
  | _=>false
 | .pick J C D=>match o with
  | .pick c a b=>aU c J&&(aU a C&&aU b D)
  | _=>false
 | .alloc _ z=>match o with
  | .alloc t=>match zeroOf P t with
   | some v=>qk z v
   | none=>false
  | _=>false
 | .box _ d=>match o with
  | .box _ x=>aU x d
  | _=>false
 | .build z ps=>match o with
  | .build t w=>match zeroOf P t with
   | some v=>qk z v&&(B_ P t&&gp (fun(p:Nat×Operand) (q:Nat×Nat×aO)=>placeOf P t p.1 == some (q.1,q.2.1)&&aU p.2 q.2.2) w.toList ps)
   | none=>false
  | _=>false
 | .eg g ps=>match o with
  | .buildSlice t K w=>match elemOf P t with
   | some e=>match zeroOf P e with
    | some v=>iT P e g&&(decide (0<g)&&(v.cells.size == g&&(K == ps.length&&(w.toList.map (·.1) == List.range ps.length&&gp aU (w.toList.map (·.2)) ps))))
    | none=>false
   | none=>false
  | _=>false
 | .load g E d=>match o with
  | .load t x=>aU x d&&(iT P t g&&rowIs P t E)
  | _=>false
 | .store g d h=>match o with
  | .store t x y=>aU x d&&(aU y h&&iT P t g)
  | _=>false
 | .arith F d h=>match o with
  | .binOp L _ x y _=>decide (F=L)&&(aU x d&&(aU y h&&(decide (F≠.shl)&&decide (F≠.shr))))
  | _=>false
 | .not d=>match o with
  | .unOp .not _ x=>aU x d
  | _=>false
 | .field G A _ d=>match o with
  | .fieldAddr s x f=>match yn P s f with
   | some l=>aU x d&&(l.offset == G&&(iT P l.type A&&decide (A≠0)))
   | none=>false
  | _=>false
 | .ou G A E d=>match o with
  | .field s x f=>match yn P s f with
   | some l=>aU x d&&(l.offset == G&&(iT P l.type A&&rowIs P l.type E))
   | none=>false
  | _=>false
 | .index g d H=>match o with
  | .indexAddr t x j=>match elemOf P t with
   | some e=>aU x d&&(aU j H&&iT P e g)
   | none=>false
  | _=>false
 | .pP g _ n d H=>match o with
  | .indexAddr t x j=>match ym P t with
   | some (M,e)=>aU x d&&(aU j H&&(M == n&&iT P e g))
   | none=>false
  | _=>false
 | .slice g d m r=>match o with
  | .slice t x lo u none=>match elemOf P t with
   | some e=>aU x d&&(rS lo m&&(rS u r&&iT P e g))
   | none=>false
  | _=>false
 | .ov d m r=>match o with
  | .slice t x lo u none=>isStr P t&&(aU x d&&(rS lo m&&rS u r))
  | _=>false
 | .slice3 g d m r N=>match o with
  | .slice t x lo (some u) (some B)=>match elemOf P t with
   | some e=>aU x d&&(rS lo m&&(aU u r&&(aU B N&&iT P e g)))
   | none=>false
  | _=>false
 | .len d=>match o with
  | o=>match jS o with
   | some (.len,[x],[t])=>(elemOf P t).isSome&&aU x d
   | _=>false
 | .dH d=>match o with
  | o=>match jS o with
   | some (.len,[x],[t])=>isStr P t&&aU x d
   | _=>false
 | .append g bytes d h=>match o with
  | o=>match jS o with
   | some (.append,[x,y],[t,I])=>match elemOf P t with
    | some e=>match P.info? e with
     | some i=>match i.zero with
      | some v=>t == I&&(aU x d&&(aU y h&&(i.size == g&&(i.bytes == bytes&&(v.cells.size == g&&(v.cells.all (·.oneCell')&&decide (0<g)))))))
      | none=>false
     | none=>false
    | none=>false
   | _=>false
 | .hy B d h=>match o with
  | o=>match jS o with
   | some (.max,[x,y],_)=>B&&(aU x d&&aU y h)
   | some (.min,[x,y],_)=>!B&&(aU x d&&aU y h)
   | _=>false
 | .func f a b=>match o with
  | .makeFunc O C D=>decide (f=O)&&(gp aU C.toList a&&gp aU D.toList b)
  | _=>false
 | .extract d i=>match o with
  | .extract x j=>j == i&&aU x d
  | _=>false
 | .conv k d=>match o with
  | .convert s t x=>(P.underlying s).isSome&&(isInt P t k&&aU x d)
  | _=>false
 | .cQ I d=>match o with
  | .makeInterface t x=>t == I&&(yo P t&&aU x d)
  | _=>false
 | .ext k Q=>Cb P o k Q
end
section
variable {P:Program}
theorem jT{t:TypeId}{n:Nat}(h:iT P t n=true):∃ i,P.info? t=some i/\i.size=n:=by
 unfold iT at h;split at h
 ·exact⟨_,by assumption,by simpa using h⟩
 ·cases h
theorem yp{t:TypeId}{b:Bool}(h:rowIs P t b=true):∃ d,P.underlying t=some d/\d.isRow=b:=by
 unfold rowIs at h;split at h
 ·exact⟨_,by assumption,by simpa using h⟩
 ·cases h
theorem h_{t e:TypeId}(h:elemOf P t=some e):P.underlying t=some (.slice e):=by
 unfold elemOf at h;split at h
 ·injection h with h;subst h;assumption
 ·cases h
theorem Jm{t e:TypeId}{n:Nat}(h:ym P t=some (n,e)):P.underlying t=some (.array n e):=by
 unfold ym at h;split at h
 ·injection h with h;injection h with a b;subst a;subst b;assumption
 ·cases h
theorem Jn{t:TypeId}{f:Nat}{a:Field}(h:yn P t f=some a):∃ b,P.underlying t=some (.struct b)/\b[f]?=some a:=by
 unfold yn at h;split at h
 ·exact⟨_,by assumption,h⟩
 ·cases h
theorem ql{t:TypeId}{v:Value}(h:zeroOf P t=some v):∃ i,P.info? t=some i/\i.zero=some v:=by
 unfold zeroOf at h;split at h
 ·exact⟨_,by assumption,h⟩
 ·cases h
theorem Tb{t:TypeId}{i:TypeInfo}{v:Value}(h:P.info? t=some i)(j:i.zero=some v)(a:B_ P t=true):∀ l,P.built t l=Instr.fill (placeOf P t) v.cells l:=by
 intro l;unfold B_ at a;unfold Program.built;cases b:P.underlying t with
 | none=>rw [b] at a;cases a
 | some d =>
  cases d <;> simp only [b] at a <;> try (cases a;done)
  ·rename_i n e;cases c:P.info? e with
   | none=>rw [c] at a;cases a
   | some k =>
    have:placeOf P t=fun i=>some (i*k.size,k.size):=by funext i;simp [placeOf,b,c]
    simp only [h,j,c,this]
  ·rename_i m;cases g:m.toList.mapM (fun f=>(P.info? f.type).map fun i=>(f.offset,i.size)) with
   | none=>rw [g] at a;cases a
   | some o =>
    have:placeOf P t=fun i=>o.toArray[i]?:=by funext i;simp only [placeOf,b,g]
    simp only [h,j,g,this]
theorem Cc{t:TypeId}(h:isStr P t=true):P.underlying t=some .string:=by
 unfold isStr at h;split at h
 ·assumption
 ·cases h
theorem Tc{t:TypeId}{k:IntKind}(h:isInt P t k=true):P.underlying t=some (.int k):=by
 unfold isInt at h;split at h
 ·have:=td h;subst this;assumption
 ·cases h
theorem Jo{t:TypeId}(h:yo P t=true):∃ d,P.underlying t=some d/\∀ a,d≠.interface a:=by
 unfold yo at h;split at h
 ·cases h
 ·rename_i d b c;exact⟨_,by assumption,fun a e=>by subst e;simp_all⟩
 ·cases h
theorem Td{x:Operand}{lo e:Option Operand}{a b:Bool}{f:List aO}(h:Ca x lo e a b f=true):∃ g c d,f=g::(gz c++gz d)/\CO x g/\gZ lo c/\gZ e d/\a=c.isSome/\b=d.isSome:=by
 unfold Ca at h;split at h
 ·exact⟨_,none,none,rfl,aT h,.none,.none,rfl,rfl⟩
 ·simp only [ax] at h;exact⟨_,some _,none,rfl,aT h.1,.some (aT h.2),.none,rfl,rfl⟩
 ·simp only [ax] at h;exact⟨_,none,some _,rfl,aT h.1,.none,.some (aT h.2),rfl,rfl⟩
 ·simp only [ax] at h;exact⟨_,some _,some _,rfl,aT h.1,.some (aT h.2.1),.some (aT h.2.2),rfl,rfl⟩
 ·cases h
theorem Te{o:Oper}{k:Ext}{D:List aO}(h:Cb P o.op k D=true):dD P o k D:=by
 unfold Cb at h;split at h
 ·split at h
  ·simp only [ax,bD,ko,dg] at h;obtain⟨rfl,b,c,a,f,r,s,u⟩:=h;exact .oi (by assumption) (aT b) (aT c) a f r s u
  ·cases h
 ·split at h
  ·simp only [ax,bD] at h;obtain⟨rfl,b,c,a⟩:=h;split at a
   ·exact .rf (by assumption) (aT b) (aT c) (by assumption)
   ·cases a
  ·cases h
 ·split at h
  ·simp only [ax,bD] at h;obtain⟨rfl,b,a⟩:=h;split at a
   ·exact .isNil (by assumption) (aT b) (by assumption)
   ·cases a
  ·cases h
 ·split at h
  ·simp only [ax] at h;exact .pL (by assumption) (aT h.2.1) (aT h.2.2) (Cc h.1)
  ·cases h
 ·split at h
  ·simp only [ax,bD] at h;obtain⟨rfl,b,c⟩:=h;exact .shift (by assumption) (aT b) (aT c)
  ·cases h
 ·split at h
  ·simp only [ax,dg] at h;obtain⟨rfl,b,c,a⟩:=h;obtain⟨X,z,A⟩:=Jo b;split at a
   ·rename_i v g;obtain⟨i,F,G⟩:=ql g;refine .lX (by assumption) (aT c) z A F G (fun I w=>?_);split at a
    ·have g:=rT a;exact .agg (g.1 I w).1 g.2 (g.1 I w).2
    ·exact(oH a).1 I w
   ·cases a
  ·cases h
 ·split at h
  ·exact .eD (by assumption) (aT h)
  ·cases h
 ·split at h
  ·exact .jl (by assumption)
  ·cases h
 ·split at h
  ·simp only [ax] at h;obtain⟨l,b,c,a⟩:=h;split at l
   ·exact .insert (.inl (by assumption)) (aT b) (aT c) (aT a) (tP P (by assumption)) (B' P l)
   ·cases l
  ·simp only [ax] at h;obtain⟨l,b,c,a⟩:=h;split at l
   ·exact .insert (.inr (by assumption)) (aT b) (aT c) (aT a) (tP P (by assumption)) (B' P l)
   ·cases l
  ·cases h
 ·split at h
  ·simp only [ax,bD] at h;obtain⟨rfl,l⟩:=h;split at l
   ·simp only [ax] at l;obtain⟨l,b,c,a⟩:=l;split at a
    ·rename_i v g;obtain⟨i,F,G⟩:=ql g;refine .lookup (by assumption) (aT b) (aT c) (tP P (by assumption)) (B' P l) F G (fun I w=>?_);split at a
     ·have g:=rT a;exact .agg (g.1 I w).1 g.2 (g.1 I w).2
     ·exact(oH a).1 I w
    ·cases a
   ·cases l
  ·cases h
 ·split at h
  ·rename_i x;simp only [ax] at h;obtain⟨e,j⟩:=eI.1 h.1;exact .mW (lA x) (aT h.2) (h_ j)
  ·cases h
 ·split at h
  ·rename_i x;simp only [ax] at h;obtain⟨b,c,a,f⟩:=h;split at a
   ·rename_i Y L;split at f
    ·rename_i e j;split at f
     ·rename_i i y;simp only [ax,dg,bD] at f;obtain⟨r,s,u,m⟩:=f;split at m
      ·rename_i M g;simp only [dg] at m;exact .oj (lA x) (aT b) (aT c) (h_ j) L y r s g m u
      ·cases m
     ·cases f
    ·cases f
   ·cases a
  ·cases h
 ·split at h
  ·rename_i N;simp only [ax] at h;obtain⟨b,c,f⟩:=h;split at f
   ·rename_i e j;split at f
    ·rename_i i y;simp only [ax,dg,bD] at f;obtain⟨r,s,u,m,H,n⟩:=f;split at n
     ·rename_i v g;refine .om (by assumption) (aT b) (aT c) (h_ j) y r s g (fun I w=>?_) m (fun O J=>by subst J;simp at H) u;split at n
      ·have g:=rT n;exact .agg (g.1 I w).1 g.2 (g.1 I w).2
      ·exact(oH n).1 I w
     ·cases n
    ·cases f
   ·cases f
  ·cases h
 ·split at h
  ·exact .ls (by assumption) (aT h)
  ·cases h
 ·split at h
  ·rename_i q;simp only [ax,dg] at h;obtain⟨rfl,b,c⟩:=h;split at c
   ·rename_i e j;obtain⟨i,y⟩:=eI.1 c;exact .rj q (h_ j) y (by simpa using b)
   ·cases c
  ·cases h
 ·split at h
  ·rename_i x;simp only [ax,dg] at h;obtain⟨rfl,b,c,f⟩:=h;split at f
   ·rename_i e j;split at f
    ·rename_i i y;simp only [ax,dg,bD] at f;obtain⟨r,s,u,m⟩:=f;split at m
     ·rename_i M g;simp only [dg] at m;exact .rm (lA x) (aT b) (aT c) (h_ j) y r s g m u
     ·cases m
    ·cases f
   ·cases f
  ·cases h
 ·split at h
  ·rename_i q;split at h
   ·rename_i e j;simp only [ax] at h;obtain⟨b,c,a⟩:=h;obtain⟨i,z,A⟩:=jT a;exact .fG q (aT b) (aT c) (h_ j) z A
   ·cases h
  ·cases h
 ·split at h
  ·rename_i t Z B q;split at h
   ·rename_i j;split at h
    ·rename_i g;simp only [ax,bD,dg] at h;obtain⟨q1,Q,R,S,K,T⟩:=h;obtain⟨i,b,c⟩:=ql g;obtain⟨a0,a,f⟩:=jT q1;rw [b] at a;injection a with a;subst a
     refine .pM q (h_ j) b f Q c R S ⟨B.toList.map (·.2),?_,jr (fun _ _ h=>aT h) T⟩;have a1:B.toList.length=D.length:=by have:=congrArg List.length K;simpa using this
     apply sY;intro k;by_cases E:k<B.toList.length
     ·have C:(B.toList.map (·.1))[k]?=(List.range D.length)[k]?:=by rw [K]
      rw [sV (by omega),bG,aI E] at C;simp only [lU,aL] at C;rw [aI E,bG,List.getElem?_zipIdx,bG,aI E];simp only [lU,bC];generalize B.toList[k]=p at C |-;obtain⟨p1,p2⟩:=p;simp only at C |-;rw [C]
     ·rw [cb (by omega),cb (by simp;simpa using vb E)]
    ·cases h
   ·cases h
  ·cases h
 ·split at h
  ·rename_i x;simp only [ax] at h;obtain⟨⟨k,e⟩,j⟩:=eI.1 h.1;exact .pN (lA x) (aT h.2) (tP P j)
  ·cases h
 ·split at h
  ·rename_i x;simp only [ax] at h;obtain⟨e,j⟩:=eI.1 h.1;exact .iO (lA x) (aT h.2) (h_ j)
  ·cases h
 ·split at h
  ·rename_i q;split at h
   ·rename_i j;simp only [ax] at h;obtain⟨i,z,A⟩:=jT h.1;obtain⟨a2,b0,b1,rfl,k1,k2,k3,k4,k5⟩:=Td h.2;exact .sliceB q k1 k2 k3 (h_ j) z A k4 k5
   ·cases h
  ·cases h
 ·split at h
  ·rename_i N;simp only [ax] at h;obtain⟨b,c,f⟩:=h;split at f
   ·rename_i e j;split at f
    ·rename_i i y;simp only [ax,dg,bD] at f;obtain⟨r,s,u,m,H,n⟩:=f;split at n
     ·rename_i v g;refine .oo (by assumption) (aT b) (aT c) (h_ j) y r s g (fun I w=>?_) m (fun O J=>by subst J;simp at H) u;split at n
      ·have g:=rT n;exact .agg (g.1 I w).1 g.2 (g.1 I w).2
      ·exact(oH n).1 I w
     ·cases n
    ·cases f
   ·cases f
  ·cases h
 ·split at h
  ·rename_i q;simp only [ax,bD] at h;obtain⟨rfl,b,c⟩:=h;exact .ri q (by simpa using b) (jr (fun _ _ h=>aT h) c)
  ·cases h
 ·split at h
  ·rename_i q;split at h
   ·rename_i U;simp only [ax,dg] at h;obtain⟨rfl,b,c,a,f⟩:=h;obtain⟨i,z,A⟩:=jT a;obtain⟨d,V,W⟩:=yp f;exact .rh q (aT b) (aT c) (Jm U) z A V W
   ·cases h
  ·cases h
 ·cases h
theorem yq{o:Oper}{x:ei}(h:eL P o.op x=true):ep P o x:=by
 cases x with
 | ak m =>
  simp only [eL] at h;split at h
  ·exact .ak (.inl (by assumption)) (aT h)
  ·exact .ak (.inr (by assumption)) (aT h)
  ·cases h
 | pick c a b =>
  simp only [eL] at h;split at h
  ·simp only [ax] at h;exact .pick (by assumption) (aT h.1) (aT h.2.1) (aT h.2.2)
  ·cases h
 | alloc C z =>
  simp only [eL] at h;split at h
  ·rename_i l;split at h
   ·rename_i y;obtain⟨i,g,j⟩:=ql y;exact .alloc l g j (rT h)
   ·cases h
  ·cases h
 | box C m =>
  simp only [eL] at h;split at h
  ·exact .box (by assumption) (aT h)
  ·cases h
 | build z ps =>
  simp only [eL] at h;split at h
  ·rename_i l;split at h
   ·rename_i y;simp only [ax] at h;obtain⟨i,g,j⟩:=ql y;exact .build l g j (rT h.1) _ (Tb g j h.2.1) (jr (fun p q G=>by simp only [ax,dg] at G;exact⟨G.1,aT G.2⟩) h.2.2)
   ·cases h
  ·cases h
 | eg A ps =>
  simp only [eL] at h;split at h
  ·rename_i t len D l;split at h
   ·rename_i s;split at h
    ·rename_i y;simp only [ax,bD,dg] at h;obtain⟨q1,Q,R,S,M,T⟩:=h;obtain⟨i,g,j⟩:=ql y;obtain⟨a1,r,B⟩:=jT q1;rw [g] at r;injection r with r;subst r
     refine .eg l (h_ s) g B Q j R S ⟨D.toList.map (·.2),?_,jr (fun _ _ h=>aT h) T⟩;have a2:D.toList.length=ps.length:=by have:=congrArg List.length M;simpa using this
     apply sY;intro k;by_cases F:k<D.toList.length
     ·have E:(D.toList.map (·.1))[k]?=(List.range ps.length)[k]?:=by rw [M]
      rw [sV (by omega),bG,aI F] at E;simp only [lU,aL] at E;rw [aI F,bG,List.getElem?_zipIdx,bG,aI F];simp only [lU,bC];generalize D.toList[k]=p at E |-;obtain⟨p1,p2⟩:=p;simp only at E |-;rw [E]
     ·rw [cb (by omega),cb (by simp;simpa using vb F)]
    ·cases h
   ·cases h
  ·cases h
 | load A C m =>
  simp only [eL] at h;split at h
  ·simp only [ax] at h;obtain⟨i,g,j⟩:=jT h.2.1;obtain⟨d,r,B⟩:=yp h.2.2;exact .load (by assumption) (aT h.1) g j r B
  ·cases h
 | store A m H =>
  simp only [eL] at h;split at h
  ·simp only [ax] at h;obtain⟨i,g,j⟩:=jT h.2.2;exact .store (by assumption) (aT h.1) (aT h.2.1) g j
  ·cases h
 | arith op m H =>
  simp only [eL] at h;split at h
  ·simp only [ax,bD] at h;obtain⟨rfl,g,j,r,B⟩:=h;exact .arith (by assumption) (aT g) (aT j) ⟨r,B⟩
  ·cases h
 | not m =>
  simp only [eL] at h;split at h
  ·exact .not (by assumption) (aT h)
  ·cases h
 | field U V C m =>
  simp only [eL] at h;split at h
  ·rename_i l;split at h
   ·rename_i I;simp only [ax,bD,dg] at h;obtain⟨g,rfl,j,r⟩:=h;obtain⟨W,J,K⟩:=Jn I;obtain⟨i,u,v⟩:=jT j;exact .field l (aT g) J K u v r
   ·cases h
  ·cases h
 | ou U V C m =>
  simp only [eL] at h;split at h
  ·rename_i l;split at h
   ·rename_i I;simp only [ax,dg] at h;obtain⟨g,rfl,j,r⟩:=h;obtain⟨W,J,K⟩:=Jn I;obtain⟨i,u,v⟩:=jT j;obtain⟨d,X,Y⟩:=yp r;exact .ou l (aT g) J K u v X Y
   ·cases h
  ·cases h
 | index A m Z =>
  simp only [eL] at h;split at h
  ·rename_i l;split at h
   ·rename_i s;simp only [ax] at h;obtain⟨i,u,v⟩:=jT h.2.2;exact .index l (aT h.1) (aT h.2.1) (h_ s) u v
   ·cases h
  ·cases h
 | pP A C n m Z =>
  simp only [eL] at h;split at h
  ·rename_i l;split at h
   ·rename_i s;simp only [ax,dg] at h;obtain⟨g,j,rfl,r⟩:=h;obtain⟨i,u,v⟩:=jT r;exact .pP l (aT g) (aT j) (Jm s) u v
   ·cases h
  ·cases h
 | slice A m N O =>
  simp only [eL] at h;split at h
  ·rename_i l;split at h
   ·rename_i s;simp only [ax] at h;obtain⟨i,u,v⟩:=jT h.2.2.2;exact .slice l (aT h.1) (vT h.2.1) (vT h.2.2.1) (h_ s) u v
   ·cases h
  ·cases h
 | ov m N O =>
  simp only [eL] at h;split at h
  ·simp only [ax] at h;exact .ov (by assumption) (aT h.2.1) (vT h.2.2.1) (vT h.2.2.2) (Cc h.1)
  ·cases h
 | slice3 A m N O b0 =>
  simp only [eL] at h;split at h
  ·rename_i l;split at h
   ·rename_i s;simp only [ax] at h;obtain⟨i,u,v⟩:=jT h.2.2.2.2;exact .slice3 l (aT h.1) (vT h.2.1) (aT h.2.2.1) (aT h.2.2.2.1) (h_ s) u v
   ·cases h
  ·cases h
 | len m =>
  simp only [eL] at h;split at h
  ·rename_i w;simp only [ax] at h;obtain⟨e,s⟩:=eI.1 h.1;exact .len (lA w) (aT h.2) (h_ s)
  ·cases h
 | dH m =>
  simp only [eL] at h;split at h
  ·rename_i w;simp only [ax] at h;exact .dH (lA w) (aT h.2) (Cc h.1)
  ·cases h
 | append A bytes m H =>
  simp only [eL] at h;split at h
  ·rename_i w;split at h
   ·rename_i s;split at h
    ·rename_i hi;split at h
     ·rename_i y;simp only [ax,bD,dg] at h;obtain⟨rfl,g,j,r,B,h5,h6,h7⟩:=h;exact .append (lA w) (aT g) (aT j) (h_ s) hi r B y h5 h6 h7
     ·cases h
    ·cases h
   ·cases h
  ·cases h
 | hy b1 m H =>
  simp only [eL] at h;split at h
  ·rename_i w;simp only [ax] at h;obtain⟨rfl,g,j⟩:=h;exact .hy (mx:=true) (lA w) (aT g) (aT j)
  ·rename_i w;simp only [ax,ko] at h;obtain⟨rfl,g,j⟩:=h;exact .hy (mx:=false) (lA w) (aT g) (aT j)
  ·cases h
 | func f a b =>
  simp only [eL] at h;split at h
  ·rename_i l;simp only [ax,bD] at h;obtain⟨rfl,g,j⟩:=h;exact .func l (jr (fun _ _ h=>aT h) g) (jr (fun _ _ h=>aT h) j)
  ·cases h
 | extract m i =>
  simp only [eL] at h;split at h
  ·rename_i l;simp only [ax,dg] at h;obtain⟨rfl,g⟩:=h;exact .extract l (aT g)
  ·cases h
 | conv k m =>
  simp only [eL] at h;split at h
  ·rename_i l;simp only [ax] at h;obtain⟨d,L⟩:=eI.1 h.1;exact .conv l (aT h.2.2) L (Tc h.2.1)
  ·cases h
 | cQ t m =>
  simp only [eL] at h;split at h
  ·rename_i l;simp only [ax,dg] at h;obtain⟨rfl,g,j⟩:=h;obtain⟨d,L,a0⟩:=Jo g;exact .cQ l (aT j) L a0
  ·cases h
 | ext k xs=>exact .ext (Te h)
end
def qm(o:Op):Option (Operand×List Operand) :=
 match o with
 | .call c=>match c.callee with
  | .value f=>some (f,c.args.toList)
  | _=>none
 | _=>none
def Cd(o:Op):Option (Operand×List Operand) :=
 match o with
 | .defer c=>match c.callee with
  | .value f=>some (f,c.args.toList)
  | _=>none
 | _=>none
theorem Tf{o:Op}{f:Operand}{a:List Operand}(h:Cd o=some (f,a)):∃ d,o=.defer {callee:=.value f,args:=a.toArray,argTypes:=d}:=by
 unfold Cd at h;split at h
 ·rename_i c;split at h
  ·rename_i e b;simp only [aL,ee] at h;obtain⟨rfl,rfl⟩:=h;cases c;simp at b;subst b;exact⟨_,rfl⟩
  ·cases h
 ·cases h
theorem qn{o:Op}{f:Operand}{a:List Operand}(h:qm o=some (f,a)):∃ d,o=.call {callee:=.value f,args:=a.toArray,argTypes:=d}:=by
 unfold qm at h;split at h
 ·rename_i c;split at h
  ·rename_i e b;simp only [aL,ee] at h;obtain⟨rfl,rfl⟩:=h;cases c;simp at b;subst b;exact⟨_,rfl⟩
  ·cases h
 ·cases h
def Jp(a:Array Oper):Option (Nat×Bool)->Option (Nat×Bool)->Bool
 | none,none=>true
 | some (j,b),some (t,c)=>b == c&&(match a[j]? with | some o=>o.dst == some t | none=>false)
 | _,_=>false
structure nj (P:Program) where
 cl:List (FuncId×Nat×Nat):=[]
 bU:∀ x∈cl,iz P x.1 x.2.1 x.2.2:=by simp
 Cf:List FuncId:=[]
 Cg:List FuncId:=[]
 Ch:List FuncId:=[]
 Jq:∀ x∈Cf,xQ P x:=by simp
 Jr:∀ x∈Cg,xR P x:=by simp
 Js:∀ x∈Ch,xS P x:=by simp
def vV(P:Program)(t:TypeId)(b:List SK):Bool:=match mapOf P t with
 | some (a,_)=>decide (hB P (P.types.size+1) a=some b)&&ox P a
 | none=>false
theorem Ci{P:Program}{t:TypeId}{b:List SK}(h:vV P t b=true):∃ a c,P.underlying t=some (.map a c)/\hB P (P.types.size+1) a=some b/\ox P a=true:=by
 unfold vV at h;split at h
 ·rename_i d;simp only [ax,bD] at h;exact⟨_,_,tP P d,h.1,h.2⟩
 ·cases h
def Cj{P:Program}(L:nj P)(o:Op):ei->Bool
 | .ext (.mX f a bytes) [b]=>match qm o with
  | some (.func g,[x])=>g == f&&(L.cl.contains (f,a,bytes)&&aU x b)
  | _=>false
 | .ext (.rp a bytes z) c=>eL P o (.ext (.om a bytes z) c)
 | .ext (.lY a) c=>eL P o (.eg a c)
 | .ext (.gY f) [n,b]=>match qm o with
  | some (g,[x])=>L.Cf.contains f&&(aU g n&&aU x b)
  | _=>false
 | .ext (.pO f a bytes) [b]=>match qm o with
  | some (.func g,[x])=>g == f&&(L.cl.contains (f,a,bytes)&&aU x b)
  | _=>false
 | .ext (.rq f) [b]=>match qm o with
  | some (.func g,[x])=>g == f&&(L.Cg.contains f&&aU x b)
  | _=>false
 | .ext (.ru f) [b]=>match qm o with
  | some (.func g,[x])=>g == f&&(L.Ch.contains f&&aU x b)
  | _=>false
 | .ext (.oq d) [h,j,l]=>match o with
  | .insert t m k v=>vV P t d&&(aU m h&&(aU k j&&aU v l))
  | .mapUpdate t m k v=>vV P t d&&(aU m h&&(aU k j&&aU v l))
  | _=>false
 | .ext (.ot d p z) [h,j]=>match o with
  | .lookup t m k q=>decide (q=p)&&(vV P t d&&(aU m h&&(aU k j&&(match mapOf P t with
   | some (_,r)=>(match zeroOf P r with
    | some v=>match z,v with
     | .agg s,.agg _=>qk s v
     | z,v=>mc z v
    | none=>false)
   | none=>false))))
  | _=>false
 | .ext (.rv a bytes z) c=>eL P o (.ext (.oj a bytes) c)&&(z.cells.length == a&&((match z with | .af _=>false | _=>true)&&(match jS o with
  | some (_,_,t::_)=>(match elemOf P t with
   | some e=>(match zeroOf P e with
    | some v=>mc z v
    | none=>false)
   | none=>false)
  | _=>false)))
 | .ext (.pushB a bytes) [b,u]=>match jS o with
  | some (.append,[x,y],[t,w])=>t == w&&(aU x b&&(aU y u&&(match elemOf P t with
   | some e=>match P.info? e with
    | some i=>decide (i.size=a)&&(decide (i.bytes=bytes)&&(decide (0<a)&&(match i.zero with
     | some A=>decide (A.cells.size=a)
     | none=>false)))
    | none=>false
   | none=>false)))
  | _=>false
 | _=>false
theorem Th{P:Program}{L:nj P}{o:Oper}{x:ei}(h:Cj L o.op x=true):ep P o x:=by
 unfold Cj at h;split at h
 ·split at h
  ·rename_i g;simp only [ax,dg] at h;obtain⟨rfl,b,c⟩:=h;obtain⟨u,j⟩:=qn g;exact .ext (.mX j (aT c) (L.bU _ (by simpa using b)))
  ·cases h
 ·cases yq h with
  | ext h=>exact .ext (.rp h)
 ·cases yq h with
  | eg h y n z A d E H J=>exact .ext (.lY h y n z A d E H J)
 ·split at h
  ·rename_i g;simp only [ax] at h;obtain⟨b,c,a⟩:=h;obtain⟨u,j⟩:=qn g;exact .ext (.gY j (aT c) (aT a) (L.Jq _ (by simpa using b)))
  ·cases h
 ·split at h
  ·rename_i g;simp only [ax,dg] at h;obtain⟨rfl,b,c⟩:=h;obtain⟨u,j⟩:=qn g;exact .ext (.pO j (aT c) (L.bU _ (by simpa using b)))
  ·cases h
 ·split at h
  ·rename_i g;simp only [ax,dg] at h;obtain⟨rfl,b,c⟩:=h;obtain⟨u,j⟩:=qn g;exact .ext (.rq j (aT c) (L.Jr _ (by simpa using b)))
  ·cases h
 ·split at h
  ·rename_i g;simp only [ax,dg] at h;obtain⟨rfl,b,c⟩:=h;obtain⟨u,j⟩:=qn g;exact .ext (.ru j (aT c) (L.Js _ (by simpa using b)))
  ·cases h
 ·split at h
  ·simp only [ax] at h;obtain⟨r,b,c,a⟩:=h;obtain⟨F,G,p,s,t⟩:=Ci r;exact .ext (.oq (.inl (by assumption)) (aT b) (aT c) (aT a) p s t)
  ·simp only [ax] at h;obtain⟨r,b,c,a⟩:=h;obtain⟨F,G,p,s,t⟩:=Ci r;exact .ext (.oq (.inr (by assumption)) (aT b) (aT c) (aT a) p s t)
  ·cases h
 ·split at h
  ·simp only [ax,bD] at h;obtain⟨rfl,r,b,c,a⟩:=h;obtain⟨F,G,p,s,t⟩:=Ci r;split at a
   ·rename_i q;have q:=tP P q;rw [p] at q;injection q with q;injection q with l m;subst l;subst m
    split at a
    ·rename_i v d;obtain⟨i,l,m⟩:=ql d;refine .ext (.ot (by assumption) (aT b) (aT c) p s t l m (fun I w=>?_));split at a
     ·have d:=rT a;exact .agg (d.1 I w).1 d.2 (d.1 I w).2
     ·exact(oH a).1 I w
    ·cases a
   ·cases a
  ·cases h
 ·simp only [ax,dg] at h;obtain⟨b,c,a,e⟩:=h;cases yq b with
  | ext B =>
   cases B with
   | oj h B K y M n z C d E A =>
    rw [h] at e;split at e
    ·rename_i N;have k:some (Builtin.append,[_,_],[_,_])=some (_,_,_::_):=N;injection k with k;injection k with _ k;injection k with _ k;injection k with k _
     subst k;split at e
     ·rename_i f;have f:=h_ f;rw [y] at f;injection f with f;injection f with f;subst f
      split at e
      ·rename_i v O;obtain⟨T,l,m⟩:=ql O;rw [n] at l;injection l with l;subst l
       rw [d] at m;injection m with m;subst m
       exact .ext (.rv h B K y M n z C d (fun I w=>(oH e).1 I w) c (fun U Q=>by subst Q;cases a) A)
      ·cases e
     ·cases e
    ·cases e
 ·split at h
  ·rename_i C;simp only [ax,dg] at h;obtain⟨rfl,b,c,a⟩:=h;split at a
   ·rename_i f;split at a
    ·rename_i n;simp only [ax,bD] at a;obtain⟨e,R,S,D⟩:=a;split at D
     ·rename_i d;exact .ext (.pushB (lA C) (aT b) (aT c) (h_ f) n e R d (by simpa using D) S)
     ·cases D
    ·cases a
   ·cases a
  ·cases h
 ·cases h
def oI(P:Program)(L:nj P)(g:Array Oper)(nt:Nat)(o:Oper)(c:aF):Bool :=
 c.dst == o.dst&&((match o.dst with | some d=>decide (d<nt) | none=>true)&&(Jp g o.guard c.guard &&
  match c.k with
  | .op x=>eL P o.op x||Cj L o.op x
  | .panic h=>match o.op with
   | .panic x=>aU x h
   | _=>false
  | .defer a b=>match Cd o.op with
   | some (f,e)=>aU f a&&gp aU e b
   | none=>false
  | .call a b | .bl a b | .hC a b=>match qm o.op with
   | some (f,e)=>aU f a&&gp aU e b
   | none=>false))
theorem Ti{P:Program}{L:nj P}{r:Array Oper}{nt:Nat}{o:Oper}{s:aF}(h:oI P L r nt o s=true):fI P r nt o s:=by
 unfold oI at h;simp only [ax,dg] at h;obtain⟨v,u,e,a⟩:=h;refine⟨v,fun d w=>by rw [w] at u;simpa using u,?_,?_⟩
 ·unfold Jp at e;split at e
  ·rename_i m n;exact .inl ⟨m,n⟩
  ·rename_i j b t z m n;simp only [ax,dg] at e;obtain⟨rfl,e⟩:=e;split at e
   ·rename_i A y;exact .inr ⟨j,b,t,m,by rw [y];simpa using e,n⟩
   ·cases e
  ·cases e
 ·split at a
  ·rename_i x c;rw [c];rw [gy] at a;rcases a with a | a
   ·exact yq a
   ·exact Th a
  ·rename_i B c;rw [c];split at a
   ·exact⟨_,by assumption,aT a⟩
   ·cases a
  ·rename_i p q c;rw [c];split at a
   ·rename_i f g i;simp only [ax] at a;obtain⟨k,l⟩:=Tf i;exact⟨f,g.toArray,k,l,aT a.1,jr (fun _ _ h=>aT h) a.2⟩
   ·cases a
  ·rename_i p q c;rw [c];split at a
   ·rename_i f g i;simp only [ax] at a;obtain⟨k,l⟩:=qn i;exact⟨f,g.toArray,k,l,aT a.1,jr (fun _ _ h=>aT h) a.2⟩
   ·cases a
  ·rename_i p q c;rw [c];split at a
   ·rename_i f g i;simp only [ax] at a;obtain⟨k,l⟩:=qn i;exact⟨f,g.toArray,k,l,aT a.1,jr (fun _ _ h=>aT h) a.2⟩
   ·cases a
  ·rename_i p q c;rw [c];split at a
   ·rename_i f g i;simp only [ax] at a;obtain⟨k,l⟩:=qn i;exact⟨f,g.toArray,k,l,aT a.1,jr (fun _ _ h=>aT h) a.2⟩
   ·cases a
def direct(o:Oper):List Nat:=(o.after.toList.filter fun e=>Region.binds .any e).map (·.on)
def Jt(n:Nat)(l:List Nat):List Nat:=(List.range n).filter fun x=>l.contains x
theorem Tj{n:Nat}{l:List Nat}{x:Nat}(h:x∈Jt n l):x∈l:=by have:=(km.1 h).2;simpa using this
def Ck:List Oper->List (List Nat)->List (List Nat)
 | [],a=>a
 | o::r,a=>Ck r (a++[Jt a.length (direct o++(direct o).flatMap fun k=>a.getD k [])])
def tQ(a:List Oper):List (List Nat):=Ck a []
theorem vW{d:Array Oper}:∀ (l:List Oper) (b:List (List Nat)),(∀ j o,l[j]?=some o->d[b.length+j]?=some o)->(∀ j i,i∈b.getD j []->Reach d j i)->∀ j i,i∈(Ck l b).getD j []->Reach d j i
 | [],b,_,h,j,i,g=>h j i g
 | o::r,b,n,h,j,i,g=>by
  refine vW r _ (fun c s t=>by have:=n (c+1) s (by simpa using t);rw [da,List.length_singleton,show b.length+1+c=b.length+(c+1) by omega];exact this) (fun c m a=>?_) j i g
  have p:=n 0 o rfl;rw [kl] at p;have q:∀ k,k∈direct o->Reach d b.length k:=fun k f=>by simp only [direct,aS,km] at f;obtain⟨e,⟨u,v⟩,rfl⟩:=f;exact .BL p (by simpa using u) v rfl
  by_cases w:c<b.length
  ·rw [fQ,eY w,<- fQ] at a;exact h c m a
  ·by_cases x:c=b.length
   ·subst x;rw [fQ,eJ (bj _)] at a;simp only [vf,xC,PL] at a;have a:=Tj a;simp only [cV,uX] at a;rcases a with a | ⟨k,f,a⟩
    ·exact q m a
    ·exact .trans (q k f) (h k m a)
   ·rw [fQ,cb (by simp;omega)] at a;simp at a
def rU:Nat->List Oper->Bool
 | _,[]=>true
 | j,o::r=>(direct o).all (fun k=>decide (k<j))&&rU (j+1) r
theorem vX:∀ (l:List Oper) (k:Nat),rU k l=true->∀ j o,l[j]?=some o->∀ e∈o.after,Region.binds .any e=true->e.on<k+j
 | [],k,_,j,o,h,_,_,_=>by simp at h
 | d::r,k,a,j,o,h,e,b,c=>by
  simp only [rU,ax] at a;cases j with
  | zero =>simp at h;subst h;have:=bQ.1 a.1 e.on (aS.2 ⟨e,km.2 ⟨by simpa using b,c⟩,rfl⟩);simpa using this
  | succ j =>have:=vX r (k+1) a.2 j o (by simpa using h) e b c;omega
def yr(a:List (List Nat))(k n:Nat):Bool:=(List.range n).all fun j=>decide (j<k)||(List.range j).all fun i=>(a.getD j []).contains i
theorem Cl{b:List (List Nat)}{k n:Nat}(h:yr b k n=true){j i:Nat}(e:k<=j)(c:j<n)(d:i<j):i∈b.getD j []:=by
 have a:=bQ.1 h j (di.2 c);rw [gy] at a;rcases a with a | a
 ·simp at a;omega
 ·simpa using bQ.1 a i (di.2 d)
def dL(P:Program)(L:nj P)(nt:Nat):Code->AC->Bool
 | .skip,.skip=>true
 | .region _ d false,.region none e=>e.length == d.size&&gp (oI P L d nt) d.toList e
 | .region _ d true,.region (some h) e=>e.length == d.size&&(gp (oI P L d nt) d.toList e&&(h == tQ d.toList&&rU 0 d.toList))
 | .region _ d true,.mb h k e=>e.length == d.size&&(gp (oI P L d nt) d.toList e&&(h == tQ d.toList&&(rU 0 d.toList&&(decide (k<=d.size)&&yr h k d.size))))
 | .region _ d true,.oC h k m e=>e.length == d.size&&(gp (oI P L d nt) d.toList e&&(h == tQ d.toList&&(rU 0 d.toList&&(decide (k<=m)&&(decide (m<=d.size)&&(((List.range d.size).all fun j=>decide (j<k)||(h.getD j []).contains (k-1))&&yr h m d.size))))))
 | .region _ d true,.p' h k e=>e.length == d.size&&(gp (oI P L d nt) d.toList e&&(h == tQ d.toList&&(rU 0 d.toList&&(decide (k+1<=d.size)&&(((List.range (k-1)).all fun i=>(h.getD (k-1) []).contains i)&&yr h (k+1) d.size)))))
 | .region _ d false,.aY e=>e.length == d.size&&gp (oI P L d nt) d.toList e
 | .rangeFunc g ps q b,.range r o s f=>aU g r&&(ps.toList == o&&(o.all (fun p=>decide (p<nt))&&(dL P L nt q s&&dL P L nt b f)))
 | .seq a b,.seq n f=>dL P L nt a n&&dL P L nt b f
 | .cond c a b,.cond t n f=>aU c t&&(dL P L nt a n&&dL P L nt b f)
 | .block id b,.block l f=>id == l&&dL P L nt b f
 | .block id b,.oD l f=>id == l&&dL P L nt b f
 | .block id b,.qa l f=>id == l&&dL P L nt b f
 | .loop b,.loop f=>dL P L nt b f
 | .exit id,.exit l=>id == l
 | .ret,.ret=>true
 | .scope b,f=>dL P L nt b f
 | .label _,.skip=>true
 | _,_=>false
theorem tR{P:Program}{L:nj P}{a:Array Oper}{nt:Nat}{c:List aF}(h:gp (oI P L a nt) a.toList c=true):∀ (j:Nat) (b:aF),c[j]?=some b->∃ o,a[j]?=some o/\fI P a nt o b:=fun j b d=>by have e:=jr (R:=fI P a nt) (fun _ _ h=>Ti h) h;obtain⟨o,f,g⟩:=pW e d;exact⟨o,by simpa using f,g⟩
theorem Ju{P:Program}{L:nj P}{nt:Nat}(F:P.follows .mixedOrders=true):∀ {c:Code}{d:AC},dL P L nt c d=true->ej P nt c d:=by
 intro c
 induction c with
 | skip=>intro d h;cases d <;> simp [dL] at h;exact .skip
 | region id q B =>
  intro d h;cases d <;> (try (cases B <;> simp [dL] at h;done))
  case aY aops =>
   cases B with
   | true=>simp [dL] at h
   | false =>simp only [dL,ax,dg] at h;exact .aY h.1 (tR h.2)
  case mb bf k aops =>
   cases B with
   | false=>simp [dL] at h
   | true =>simp only [dL,ax,dg,bD] at h;obtain⟨s,t,rfl,u,v,C⟩:=h;have r:=vW q.toList [] (fun j o n=>by simpa using n) (fun j i f=>by simp at f);refine .IZ F s (tR t) r (fun j o w e x y=>?_) v (fun j n z i f=>r j i (Cl C n z f));have:=vX q.toList 0 u j o (by simpa using w) e x y;omega
  case oC bf k m aops =>
   cases B with
   | false=>simp [dL] at h
   | true =>
    simp only [dL,ax,dg,bD] at h;obtain⟨s,t,rfl,u,v,J,G,C⟩:=h;have r:=vW q.toList [] (fun j o n=>by simpa using n) (fun j i f=>by simp at f);refine .I_ F s (tR t) r (fun j o w e x y=>?_) v J (fun j n z=>r j (k-1) ?_) (fun j n z i f=>r j i (Cl C n z f))
    ·have:=vX q.toList 0 u j o (by simpa using w) e x y;omega
    ·have:=bQ.1 G j (di.2 z);simp only [gy,bD] at this;rcases this with I | I
     ·omega
     ·have H:(k-1)∈(tQ q.toList).getD j []:=by simpa using I
      exact H
  case p' bf k aops =>
   cases B with
   | false=>simp [dL] at h
   | true =>
    simp only [dL,ax,dg,bD] at h;obtain⟨s,t,rfl,u,v,G,C⟩:=h;have r:=vW q.toList [] (fun j o n=>by simpa using n) (fun j i f=>by simp at f);refine .I' F s (tR t) r (fun j o w e x y=>?_) v (fun i f=>r (k-1) i ?_) (fun j n z i f=>r j i (Cl C n z f))
    ·have:=vX q.toList 0 u j o (by simpa using w) e x y;omega
    ·have H:i∈(tQ q.toList).getD (k-1) []:=by simpa using bQ.1 G i (di.2 f)
     exact H
  rename_i bf aops;cases B with
  | false =>
   cases bf with
   | some _=>simp [dL] at h
   | none =>simp only [dL,ax,dg] at h;exact .region h.1 (tR h.2)
  | true =>
   cases bf with
   | none=>simp [dL] at h
   | some bf =>simp only [dL,ax,dg] at h;obtain⟨s,t,rfl,u⟩:=h;refine .IY F s (tR t) (vW q.toList [] (fun j o n=>by simpa using n) (fun j i f=>by simp at f)) (fun j o w e x y=>?_);have:=vX q.toList 0 u j o (by simpa using w) e x y;omega
 | seq a b D E =>intro d h;cases d <;> simp [dL] at h;exact .seq (D h.1) (E h.2)
 | cond c a b D E =>intro d h;cases d <;> simp [dL] at h;exact .cond (aT h.1) (D h.2.1) (E h.2.2)
 | block id b A =>
  intro d h;cases d <;> simp [dL] at h
  ·obtain⟨rfl,h⟩:=h;exact .block (A h)
  ·obtain⟨rfl,h⟩:=h;exact .oD (A h)
  ·obtain⟨rfl,h⟩:=h;exact .qa (A h)
 | loop b A =>intro d h;cases d <;> simp [dL] at h;exact .loop (A h)
 | rangeFunc g ps N b D E =>intro d h;cases d <;> simp only [dL,hq] at h;simp only [ax,dg] at h;obtain⟨s,t,K,u,v⟩:=h;exact .range (aT s) t (fun p M=>by simpa using bQ.1 K p M) (D u) (E v)
 | exit id=>intro d h;cases d <;> simp [dL] at h;subst h;exact .exit
 | ret=>intro d h;cases d <;> simp [dL] at h;exact .ret
 | scope b A=>intro d h;simp only [dL] at h;exact .scope (A h)
 | label l=>intro d h;cases d <;> simp [dL] at h;exact .label
 | _=>intro d h;cases d <;> simp [dL] at h
def yt(P:Program):ResultVar->RV->Bool
 | .tmp t,.tmp c=>t == c
 | .cell a b,.cell d e f=>a == d&&(iT P b e&&rowIs P b f)
 | _,_=>false
theorem Jv{P:Program}{r:ResultVar}{x:RV}(h:yt P r x=true):qc P r x:=by
 unfold yt at h;split at h
 ·obtain rfl:=eq_of_beq h;exact .tmp
 ·simp only [ax,dg] at h;obtain⟨rfl,a,b⟩:=h;obtain⟨i,c,e⟩:=jT a;obtain⟨d,f,g⟩:=yp b;exact .cell c e f g
 ·cases h
def Cm(P:Program)(L:nj P)(F:Func)(a:AF):Bool :=
 !(F.name == "runtime.NumGoroutine")&&(F.ntmps == a.nt&&(gp (yt P) F.results.toList a.res&&match F.body with
  | some c=>dL P L a.nt c a.body
  | none=>false))
theorem jU{P:Program}(L:nj P){f:FuncId}{F:Func}{d:AF}(e:P.funcs[f]?=some F)(g:P.follows .mixedOrders=true)(h:Cm P L F d=true):g' P f d:=by
 unfold Cm at h;simp only [ax,ko,dg] at h;obtain⟨i,j,k,a⟩:=h;cases b:F.body with
 | none=>rw [b] at a;cases a
 | some c =>rw [b] at a;exact⟨F,c,e,i,b,j,Ju g a,jr (fun _ _ h=>Jv h) k⟩
def Jw(P:Program)(F:Func)(a:AF):Bool:=Cm P {} F a
theorem Tk{P:Program}{f:FuncId}{F:Func}{a:AF}(b:P.funcs[f]?=some F)(c:P.follows .mixedOrders=true)(h:Jw P F a=true):g' P f a:=jU {} b c h
def Jx(o:Op):Bool:=match jS o with
 | some (.recover,_,_)=>true
 | _=>false
def Jy(P:Program)(F:Func)(g:AR):Bool :=
 !(F.name == "runtime.NumGoroutine")&&(F.ntmps == g.nt&&(gp (yt P) F.results.toList g.res&&match F.body with
  | some (.seq (.region _ d false) c)=>(match d.toList with
   | [a,b]=>Jx a.op&&(a.guard == none&&(a.dst == some g.ta&&((match b.op with | .assign (.tmp t) | .move (.tmp t)=>t == g.ta | _=>false)&&(b.guard == none&&(b.dst == some g.tb&&(decide (g.ta<g.nt)&&(decide (g.tb<g.nt)&&dL P {} g.nt c g.rest)))))))
   | _=>false)
  | _=>false))
theorem vY{P:Program}{f:FuncId}{F:Func}{g:AR}(j:P.funcs[f]?=some F)(k:P.follows .mixedOrders=true)(h:Jy P F g=true):rR P f g:=by
 unfold Jy at h;simp only [ax,ko,dg] at h;obtain⟨l,m,n,a⟩:=h;split at a
 ·rename_i id o c p;split at a
  ·rename_i e i q;simp only [ax,dg,bD] at a;obtain⟨q1,r,s,b,t,u,v,w,x⟩:=a;unfold Jx at q1;split at q1
   ·rename_i B C y;have z:=lA y;have A:o=#[e,i]:=by apply va;simpa using q
    refine⟨F,id,e,i,c,_,_,j,l,by rw [p,A],m,z,r,s,?_,t,u,v,w,Ju k x,jr (fun _ _ h=>Jv h) n⟩;split at b
    ·rename_i d;rw [dg] at b;subst b;exact .inl d
    ·rename_i d;rw [dg] at b;subst b;exact .inr d
    ·cases b
   ·cases q1
  ·cases a
 ·cases a
end

end Go.Proofs.YtloccchppmffpaaGreatDoor.AL
