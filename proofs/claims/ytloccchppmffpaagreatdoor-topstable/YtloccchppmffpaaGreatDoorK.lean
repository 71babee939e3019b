/- Part of the proof. -/
import Derived.Test.YtloccchppmffpaaGreatDoorCards
import Derived.Test.YtloccchppmffpaaGreatDoorTie
import Derived.Deep.DeepHandedRow
import Derived.Deep.DeepWitnessRowRef
import Derived.Lib.LaidIn
import Derived.Lib.LaidU8
import Derived.ProofKit
import Derived.SizedLaws
import Derived.PinnedBridge
import Derived.SevenTiedAt
import Derived.Test.YtloccchppmffpaaGreatDoorJ
set_option linter.unnecessarySimpa false
set_option linter.unusedVariables false
set_option linter.unusedSimpArgs false
set_option linter.defProp false
set_option maxRecDepth 20000
set_option maxHeartbeats 8000000
namespace Go.Proofs.YtloccchppmffpaaGreatDoor
open Go Go.Proofs.YtloccchppmffpaaGreatDoor.AL
def P':=@Go.Lib.laidMet.reads
section
attribute [local simp] cK cI cJ cG cH cd bS cA nm np nq nr ns nu oS oT oU nv nw ny nz nA
attribute [local simp] wD sf sg sh yQ yR yS yT
theorem agP(n:Sm):∀ c∈(be n).cells,c.one=true:=by intro c a;simp [be,D.cells] at a;rcases a with rfl | rfl <;> rfl
theorem An(l:List Sm):∀ e∈l.map be,e.cells.length=2:=fun e a=>by obtain⟨s,_,rfl⟩:=aS.1 a;rfl
theorem OP(l:List Sm):(D.flat (l.map be)).length=l.length*2:=by rw [fU (An l),db]
theorem GQ(l:List Sm):∀ c∈wr (l.map be),c.one=true:=Cr fun c a=>by simp only [D.flat,uX] at a;obtain⟨e,b,a⟩:=a;obtain⟨s,_,rfl⟩:=aS.1 b;exact agP s c a
theorem agQ{l:List Sm}{i:Nat}(h:i<l.length):((wr (l.map be)).drop (i*2)).take 2=[.d (cB l[i].w),.d (dI l[i].x)]/\(wr (l.map be))[i*2]?=some (.d (cB l[i].w))/\(wr (l.map be))[i*2+1]?=some (.d (dI l[i].x)) :=
 Wi (An l) (by rw [bG,aI h];rfl)
theorem agR{l:List Sm}{i:Nat}(s:Sm)(h:i<l.length):((wr (l.map be)).set (i*2) (.d (cB s.w))).set (i*2+1) (.d (dI s.x))=wr ((l.set i s).map be):=by rw [JG _ _ (An l) (by simpa using h),ra];rfl
theorem agS(l:List Sm):e' 2 l.length (D.flat (l.map be))=l.map be:=by have:=IE (z:=2) (l.map be) (fun e a=>⟨by obtain⟨s,_,rfl⟩:=aS.1 a;rfl,An l e a⟩);rw [db] at this;unfold e';rw [ab (by decide),this]
structure Rm (l now:List Sm) (hd:List Bool) (p d k at_:Int):Prop where
 len:now.length=l.length
 ok:∀ j,(h:j<now.length)->bP now[j]=0
 st:∀ j,(h:j<now.length)->(h2:j<l.length)->(h3:j<hd.length)->hd[j]=true->pw ((k+1)*d) l[j].w now[j].w/\(cv ((k+1)*d) l[j].w:Int)<eu now[j] p at_
theorem Ao{s:Sm}(h:bP s=0):bP ⟨s.w,0⟩=0:=by obtain⟨a,c,d,b⟩:=hI h;exact abz a (iu _) (Int.natCast_nonneg _) b
theorem Rm.init{l:List Sm}{a:List Bool}{p t d k due:Int}(h:fP l a p t d k due=0/\gH l a p t d k due=2):Rm l l a p d k t/\a.length=l.length/\0<l.length/\l.length<=16/\gU d k=true/\(0<=p/\p<=1073741824)/\(0<=t/\t<1099511627776):=by
 obtain⟨i,m,b,y,n,o⟩:=GP.1 h;have e:0<l.length:=by
  rcases n_ l.length with f | f
  ·have:a=[]:=hV (by omega);subst this;simp [fh] at n
  ·exact f
 obtain⟨q,r⟩:=GK (b 0 e);obtain⟨_,s,u⟩:=sd q;refine⟨⟨rfl,fun j c=>(sd (GK (b j c)).1).1,fun j c v w x=>?_⟩,m,e,i,r,s,u⟩;have g:=o j v w x;simp only [pB,ax,bD] at g;refine⟨agM ?_,g.2⟩;have:=(se (GK (b j c)).1).2.2.2;omega
theorem Rm.later{l c:List Sm}{e:List Bool}{p d k t a:Int}(h:Rm l c e p d k t)(f:0<=p/\p<=1073741824)(i:0<=t/\t<1099511627776)(g:t<=a/\a<1099511627776):Rm l c e p d k a :=
 ⟨h.len,h.ok,fun j b m n o=>by obtain⟨q,r⟩:=h.st j b m n o;have:=abC (wC (h.ok j b) f i) (wC (h.ok j b) f ⟨by omega,g.2⟩) g.1;exact⟨q,by omega⟩⟩
theorem Rm.step{l a:List Sm}{g:List Bool}{p d k t:Int}(h:Rm l a g p d k t)(i:∀ j,(h:j<l.length)->bP l[j]=0){n:Nat}(m:n<a.length){o:Op}(q:hb a[n] p t o=true):Rm l (a.set n (dE a[n] o)) g p d k t:=by
 obtain⟨s,y,z,A⟩:=KU q;refine⟨by rw [GY];exact h.len,fun j b=>?_,fun j b c u v=>?_⟩
 ·rw [List.getElem_set];split
  ·exact s
  ·exact h.ok j (by simpa using b)
 ·obtain⟨f,r⟩:=h.st j (by simpa using b) c u v;rw [List.getElem_set];split
  ·rename_i e;subst e;have w:=xv (hI (i n c)).2.2.2 (hI (h.ok n m)).2.2.2 f (iu _);have x:=agN (T:=(k+1)*d) q (by rw [w];exact r);exact⟨agL (hI (i n c)).2.2.2 (hI (h.ok n m)).2.2.2 f x,by omega⟩
  ·exact⟨f,r⟩
theorem Rm.still{l b:List Sm}{c:List Bool}{p d k t due:Int}(h:Rm l b c p d k t)(f:∀ j,(h:j<l.length)->bP l[j]=0)(g:l.length<=16)(i:c.length=l.length)(m:gU d k=true)(n:0<=p/\p<=1073741824)(o:0<=t/\t<1099511627776)(q:0<=due/\due<1099511627776)(r:0<fh c) :
  fP b c p t d k due=0/\gH b c p t d k due=2:=by
 have e:∀ j,(a:j<b.length)->pE b[j] p t d k=0:=fun j a=>by unfold pE;rw [aj (wC (h.ok j a) n o),aj m]
 refine GP.2 ⟨by rw [h.len];exact g,by rw [h.len];exact i,e,q,r,fun j a s u=>?_⟩;obtain⟨v,w⟩:=h.st j a (by rw [<- h.len];exact a) s u;have x:=xv (hI (f j (by rw [<- h.len];exact a))).2.2.2 (hI (h.ok j a)).2.2.2 v (iu _);simp only [pB,ax,bD];exact⟨e j a,by rw [x];exact w⟩
structure px where
 s:Int
 a:Int
 o:Op
def nZ(e:px):D:=.agg [.lit (.int .u8 e.s),.lit (.int .u8 e.a),dI e.o.k,dI e.o.a,dI e.o.c,cB e.o.w]
theorem OQ(e:px):(nZ e).cells=[.lit (.int .u8 e.s),.lit (.int .u8 e.a),dI e.o.k,dI e.o.a,dI e.o.c,.sl 5 (e.o.w.map dW)]:=rfl
theorem OR(e:px):(nZ e).isAgg=true:=rfl
theorem OS(e:px):(AV.d (nZ e)).cg=true:=rfl
attribute [local simp] OQ OR OS
def mL(u a:Int):Int:=if 1099511627775<u+a then 1099511627775 else u+a
noncomputable def kk(p:Int):List px->List Sm->Int->List Sm×Int
 | [],x,u=>(x,u)
 | y::m,x,u=>match x[(y.s.tmod x.length).toNat]? with
  | some s=>kk p m (if hb s p (mL u y.a) y.o=true then x.set (y.s.tmod x.length).toNat (dE s y.o) else x) (mL u y.a)
  | none=>(x,u)
theorem OT{s:Int}{n:Nat}(b:0<=s)(c:0<n):∃ a:Nat,s.tmod n=(a:Int)/\a<n:=by have d:=Pm (n:Int) b;have e:=Int.tmod_lt_of_pos s (show (0:Int)<n by omega);exact⟨(s.tmod n).toNat,by omega,by omega⟩
theorem GR{l:List Sm}{r:List Bool}{p d k:Int}(f:0<=p/\p<=1073741824)(g:0<l.length)(i:∀ j,(h:j<l.length)->bP l[j]=0):∀ (m:List px) (x:List Sm) (u:Int),(∀ e∈m,(0<=e.s/\e.s<=255)/\(0<=e.a/\e.a<=255))->Rm l x r p d k u->(0<=u/\u<1099511627776)->Rm l (kk p m x u).1 r p d k (kk p m x u).2/\u<=(kk p m x u).2/\(kk p m x u).2<1099511627776
 | [],x,u,_,h,n=>⟨h,iu _,n.2⟩
 | y::m,x,u,s,h,n=>by
  have z:=s y (by simp);have A:0<x.length:=by rw [h.len];exact g
  obtain⟨B,C,t⟩:=OT z.1.1 A;have o:u<=mL u y.a/\mL u y.a<1099511627776:=by unfold mL;split <;> omega
  have v:=h.later f n o;unfold kk;rw [C,gw,aI t];simp only;have w:∀ e∈m,(0<=e.s/\e.s<=255)/\(0<=e.a/\e.a<=255):=fun e D=>s e (by simp [D])
  by_cases q:hb x[B] p (mL u y.a) y.o=true
  ·rw [aj q];obtain⟨a,b,c⟩:=GR f g i m _ (mL u y.a) w (v.step i t q) ⟨by omega,o.2⟩;exact⟨a,by omega,c⟩
  ·rw [ab q];obtain⟨a,b,c⟩:=GR f g i m _ (mL u y.a) w v ⟨by omega,o.2⟩;exact⟨a,by omega,c⟩
theorem agT(l:List Sm)(y:List Bool)(p t d k due:Int)(m:List px)(L:fP l y p t d k due=0/\gH l y p t d k due=2)(M:∀ e∈m,(0<=e.s/\e.s<=255)/\(0<=e.a/\e.a<=255))(b1:m.length<=1000) :
  PC 6 [.sl 2 (l.map be),dP p,dI t,.sl 6 (m.map nZ)] (.ret (.af [.sl 2 ((kk p m l t).1.map be),dI (kk p m l t).2,dB true])):=by
 obtain⟨D,r2,E,r4,r5,F,N⟩:=Rm.init L;have O:∀ j,(h:j<l.length)->bP l[j]=0:=fun j h=>D.ok j h
 have G:¬ l=[]:=by rintro rfl;simp at E
 generalize P:kk p m l t=R at *;refine oM aH c6 (by simp [a6]) 4 fun hr=>?_
 simp [a6];refine⟨⟨G,by omega,by omega⟩,?_⟩;refine bm [5,8,22,23] (Nat×List Sm×Int) (fun x=>[(9,true,.d (dI x.2.2)),(24,true,.d (dI x.1))]) (fun x=>[(1,.box true (wr (x.2.1.map be)))]) (fun x=>(x.1<=m.length/\kk p (m.drop x.1) x.2.1 x.2.2=R)/\Rm l x.2.1 y p d k x.2.2/\t<=x.2.2/\x.2.2<1099511627776) (fun x=>m.length-x.1) (0,l,t) ⟨⟨by simp,P⟩,D,by simp,N.2⟩ ⟨[],[],?_⟩ (fun x Q=>?_)
 ·simp;exact GQ l
 obtain⟨i,a,v⟩:=x;obtain⟨⟨S,f⟩,r,T,U⟩:=Q;simp only at S r T U f;rcases bB i m.length with o | b2
 ·have V:=M m[i] (cN o);rw [fF o,kk] at f;have W:IntKind.i64.wrap m[i].a=m[i].a:=wrap64 (by omega);have X:IntKind.i64.wrap m[i].s=m[i].s:=wrap64 (by omega);have Y:IntKind.i64.wrap (v+m[i].a)=v+m[i].a:=wrap64 (by omega);have H:=wS i (by omega);obtain⟨b,I,z⟩:=OT V.1.1 E;have A:a.length=l.length:=r.len;have s:b<a.length:=by omega
  rw [A,I,gw,aI s] at f;simp only at f;obtain⟨g,w⟩:∃ g:Int,g=mL v m[i].a:=⟨_,rfl⟩;have Z:v<=g/\g<1099511627776:=by rw [w];unfold mL;split <;> omega
  rw [<- w] at f;unfold mL at w;simp [o,G,W,X,Y];rw [I,<- w];have J:=r.later F (by omega) Z;have B:=OP a;have C:=(agQ s).1;have u:=allowed a[b] p g m[i].o;have a0:eS a[b] p g=0:=wC (r.ok b s) F (by omega);rw [a0] at u;cases q:hb a[b] p g m[i].o
  ·rw [q,ab (by decide)] at f;rw [q] at u;refine bY [.ret (.af [dB false,dI 0])] ?_;simp [z,o,B,C];refine⟨by omega,u,rfl,i+1,a,g,⟨⟨by omega,f⟩,J,by omega,by omega⟩,by omega,[],[],?_⟩;rw [H];simp;exact GQ a
  ·rw [q,aj rfl] at f;rw [q] at u;obtain⟨_,a1,_⟩:=EM q;have K:=Do a[b] m[i].o;rw [a1] at K;have j3:=J.step O s q;generalize dE a[b] m[i].o=n at *;have a2:=agR n s;refine bY [.ret (.af [dB true,dI 0])] ?_;simp [z,o,B,C];refine⟨by omega,u,rfl,?_⟩;refine bY [.ret (.af [be n,dI 0])] ?_;simp [z,o,B,C];refine⟨by omega,K,rfl,?_⟩;rw [show ((wr (a.map be)).set (b*2) (.d (.sl 5 (n.w.map dW)))).set (b*2+1) (.d (.lit (.int .i64 n.x)))=wr ((a.set b n).map be) from a2];refine⟨by omega,i+1,a.set b n,g,⟨⟨by omega,f⟩,j3,by omega,by omega⟩,by omega,[],[],?_⟩;rw [H];simp;exact fun c b0=>GQ (a.set b n) c (by rw [ra];exact b0)
 ·have e9:i=m.length:=by omega
  subst e9;rw [oc,kk] at f;subst f;have A:a.length=l.length:=r.len;simp;rw [<- A,agS,OP];exact⟨bj _,aB.refl _⟩
end
section
def py(w:Wd):Ce:=⟨w.t,w.a⟩
def dz(d k:Int):List Sm->List Bool->List (List Ce)
 | s::l,b::a=>if b=true then (hU s.w d k).map py::dz d k l a else dz d k l a
 | _,_=>[]
def iJ(d k:Int)(l:List Sm)(a:List Bool):List B8:=nN (hP (dz d k l a) 0 [])
theorem agU{x:Wd}(h:okW x=true):hL (py x)=true:=by unfold okW at h;simp only [ax,bD] at h;obtain⟨_,_,_,e,_,_,g,a⟩:=h;unfold hL py;simp only [ax,bD,ko];refine⟨e,by omega,?_⟩;rw [hv];intro b f;obtain⟨i,c,rfl⟩:=pD.1 f;unfold ud at a;have:=bQ.1 a i (by simpa using c);unfold sc at this;simp only [ko,Bool.or_eq_false_iff] at this;have d:=this.2;rw [fQ,aI c] at d;simpa using d
theorem agV{w:List Wd}{d k:Int}(h:bP ⟨w,0⟩=0):∀ c∈(hU w d k).map py,hL c=true:=by
 intro c b;obtain⟨x,a,rfl⟩:=aS.1 b;unfold hU at a;split at a
 ·exact agU (uf _ _ (hI h).2.2.2 x (ir (iL a)))
 ·cases a
theorem OU(w:List Wd)(d k:Int):(hU w d k).length<=w.length:=by
 unfold hU;split
 ·rw [jj,lp];omega
 ·simp
theorem xw{d k:Int}:∀ {l:List Sm}{f:List Bool},(∀ s∈l,bP s=0)->(∀ r∈dz d k l f,∀ c∈r,hL c=true)
 | [],_,_,r,a=>by cases a
 | s::l,[],_,r,a=>by cases a
 | s::l,b::f,h,r,a=>by
  rw [dz] at a;split at a
  ·rcases b_.1 a with rfl | a
   ·exact agV (Ao (h s (by simp)))
   ·exact xw (fun s e=>h s (by simp [e])) r a
  ·exact xw (fun s e=>h s (by simp [e])) r a
theorem Ap(d k:Int):∀ (l:List Sm) (a:List Bool),(dz d k l a).length<=l.length
 | [],_=>by simp [dz]
 | s::l,[]=>by simp [dz]
 | s::l,b::a=>by have:=Ap d k l a;rw [dz];split <;> simp only [bN] <;> omega
theorem GS(d k:Int):∀ (l:List Sm) (a:List Bool),dH (dz d k l a)<=(l.map fun s=>s.w.length).sum
 | [],_=>by simp [dz,dH]
 | s::l,[]=>by simp [dz,dH]
 | s::l,b::a=>by have c:=GS d k l a;have e:=OU s.w d k;unfold dH at *;rw [dz];split <;> simp only [bo,pH,db] <;> omega
theorem Aq{d k:Int}:∀ {l:List Sm}{hd:List Bool}{i:Nat}(h:i<l.length) (a:i<hd.length),dz d k (l.take (i+1)) (hd.take (i+1))=dz d k (l.take i) (hd.take i)++(if hd[i]=true then [(hU l[i].w d k).map py] else [])
 | s::l,b::hd,0,_,_=>by simp only [uW,Pn,dz,List.getElem_cons_zero];split <;> simp [dz]
 | s::l,b::hd,i+1,h,a=>by have:=Aq (d:=d) (k:=k) (l:=l) (hd:=hd) (i:=i) (by simpa using h) (by simpa using a);simp only [uW,dz,List.getElem_cons_succ] at this |-;rw [this];split <;> rfl
theorem agW{d k K:Int}{p t:Int}{l c:List Sm}{a:List Bool}(h:Rm l c a p d K t)(f:∀ j,(h:j<l.length)->bP l[j]=0)(s:a.length=l.length)(g:gU d K=true)(m:0<=k)(n:k<=K):dz d k c a=dz d k l a:=by
 have o:∀ i,i<=l.length->dz d k (c.take i) (a.take i)=dz d k (l.take i) (a.take i):=by
  intro i
  induction i with
  | zero=>intro _;rfl
  | succ i q =>
   intro u;have e:=h.len;rw [Aq (by omega) (by omega),Aq (by omega) (by omega),q (by omega)];by_cases b:a[i]'(by omega)=true
   ·rw [aj b,aj b];obtain⟨r,_⟩:=h.st i (by omega) (by omega) (by omega) b;rw [(agO (Ao (f i (by omega))) (Ao (h.ok i (by omega))) g r m n).2.2.2]
   ·rw [ab b,ab b]
 have e:=h.len;have:=o l.length (bj _);rwa [d' (by omega),d' (by omega),d' (by omega)] at this
theorem OV{c:Ce}:∀ i,∀ e∈ey c i,e.1∈c.al
 | 0,e,a=>by cases a
 | i+1,e,a=>by
  rw [ey] at a;rcases cV.1 a with a | a
  ·exact OV i e a
  ·split at a
   ·rename_i s b;split at a
    ·rw [iM] at a;subst a;exact dh b
    ·cases a
   ·cases a
theorem OW{l:List Ce}:∀ k,∀ e∈dw l k,∃ c∈l,e.1=c.tx\/e.1∈c.al
 | 0,e,a=>by cases a
 | k+1,e,a=>by
  rw [dw] at a;rcases cV.1 a with a | a
  ·exact OW k e a
  ·split at a
   ·rename_i c b;unfold zg at a;rcases b_.1 a with rfl | a
    ·exact⟨c,dh b,.inl rfl⟩
    ·exact⟨c,dh b,.inr (OV _ e a)⟩
   ·cases a
theorem OX(M:ew):∀ (v:ew) (r:B8×Int),(v.foldl (fun r e=>jZ M r e.1) r).1=r.1\/∃ e∈v,(v.foldl (fun r e=>jZ M r e.1) r).1=e.1
 | [],r=>.inl rfl
 | e::v,r=>by
  rcases OX M v (jZ M r e.1) with h | ⟨x,a,h⟩
  ·rw [s',h];unfold jZ;split
   ·exact .inr ⟨e,by simp,rfl⟩
   ·exact .inl rfl
  ·exact .inr ⟨x,by simp [a],by rw [s',h]⟩
theorem agX{x:List Ce}(h:x.any jY=false)(f:¬ iD x=[]):bw (iD x)=true:=by
 have b:iD x=[]\/∃ e∈dw x x.length,iD x=e.1:=by
  unfold iD;simp only;split
  ·exact .inl rfl
  ·exact OX _ _ ([],0)
 rcases b with b | ⟨e,i,b⟩
 ·exact absurd b f
 obtain⟨c,j,a⟩:=OW _ e i;have g:=hv.1 h c j;rw [<- b] at a;have d:hL c=true:=by
  unfold jY at g;rcases a with a | a
  ·rw [a] at f;simpa [f] using g
  ·have:0<c.al.length:=PI a;simpa [this] using g
 unfold hL at d;simp only [ax,bD,ko,hv] at d;rcases a with a | a
 ·rw [a];exact d.1
 ·simpa using d.2.2 _ a
theorem agY{d k:Int}{l:List Sm}{a:List Bool}(h:∀ s∈l,bP s=0)(f:dH (dz d k l a)<=64):∀ w∈iJ d k l a,bw w=true:=by intro w e;unfold iJ nN at e;obtain⟨g,i⟩:=km.1 e;obtain⟨x,b,rfl⟩:=aS.1 g;obtain⟨j,_⟩:=Fk (dz d k l a) 0 [] (xw h) (fun x b=>(by cases b)) (by simpa using f);obtain⟨_,_,m⟩:=j x b;refine agX ?_ (by simpa using i);rw [hv];intro c n;simp [m c n]
theorem agZ{d k:Int}{l:List Sm}{a:List Bool}(h:∀ s∈l,bP s=0)(e:dH (dz d k l a)<=64):(hP (dz d k l a) 0 []).length<=64/\∀ x∈hP (dz d k l a) 0 [],ur (dz d k l a).length x=true:=by obtain⟨c,f⟩:=Fk (dz d k l a) 0 [] (xw h) (fun x b=>(by cases b)) (by simpa using e);rw [bC] at c;exact⟨by simp only [mR] at f;omega,fun x b=>adl (c x b)⟩
theorem ag0{g:Gr}{l:List Tm}{c:Int}{a m:List B8}{d e:Int}(h:ff g l c a d e=0)(j:∀ w∈m,bw w=true)(k:a.length+m.length<=6)(f:qB g=true)(r:g.aN.length<=6):ff g l c (a++m) d e=0:=by
 obtain⟨⟨i,n⟩,⟨s,o⟩,t⟩:=NZ h;have u:g.es.length<=512:=(z' i).el;have v:g.es.length<=40:=by unfold qB wG at f;simp only [ax,gy,bD] at f;omega
 have p:=af0 g (kc c d e l) (a++m);rw [da] at p;have x:(a.length+m.length)*(6+g.es.length+g.aN.length)<=6*52:=Nat.mul_le_mul k (by omega);have q:(a++m).any (fun w=>!bw w)=false:=by
  rw [hv];intro w b;rcases cV.1 b with b | b
  ·simp [o w b]
  ·simp [j w b]
 unfold ff;rw [ab (by simp [i]),ab (by simp [n]),ab (by rw [da];omega),q,ab (by simp),ab (by omega)]
theorem ag1{a b:List Tg}(h:nY b a):(decide (b.length<=a.length)&&decide (a.take b.length=b))=true:=by obtain⟨r,rfl⟩:=h;simp
theorem ag2(g:Gr)(l:List Tm)(own next:List B8)(p:own.length<=4)(y:next.length<=2)(c:∀ w∈next,bw w=true)(z:ff g l 1 own 9 9=0)(A:qB g=true)(B:g.aN.length<=6) :
  ∃ (u b:List Tg) (n:Int) (i:Bool),PC 10 [bq g,.sl 8 (l.map bF),dI 1,.sl 1 (own.map dT),.sl 1 (next.map dT),dI next.length,dI 9,dI 9] (.ret (.af [.sl 3 (u.map aX),dI n,dI 0])) /\PC 11 [bq g,.sl 8 (l.map bF),dI 1,.sl 1 ((own++next).map dT),dI 9,dI 9] (.ret (.af [.sl 3 (b.map aX),dB i,dI 0]))/\nY u b:=by
 have d:∀ m:List B8,m.length<=2->(∀ w∈m,bw w=true)->∃ (b:List Tg) (i:Bool),b.length<=100000/\PC 11 [bq g,.sl 8 (l.map bF),dI 1,.sl 1 ((own++m).map dT),dI 9,dI 9] (.ret (.af [.sl 3 (b.map aX),dB i,dI 0])) /\PC 25 (.sl 1 ((own++m).map dT)::(⟨g,l,1,9,9⟩:Dr).az) (.ret (.sl 3 (b.map aX))):=fun m X C=>by obtain⟨b,i,⟨_,D⟩,q⟩:=Ag g l 1 (own++m) 9 9;rw [ag0 z C (by omega) A B] at q;exact⟨b,i,D,q,aga g l 1 (own++m) 9 9 b i q⟩
 obtain⟨k,E,r,v,j⟩:=d [] (by simp) (fun w h=>(by cases h))
 match next,y,c with
 | [],_,_ =>have e:own++[]=own:=eN own;rw [e] at v j;refine⟨_,k,1,E,agd ⟨g,l,1,9,9⟩ own p k r j,?_,Ah (by simp)⟩;rw [e];exact v
 | [a],_,c =>have e:own++[]=own:=eN own;rw [e] at j;obtain⟨o,F,s,G,t⟩:=d [a] (by simp) c;exact⟨_,o,2,F,agf ⟨g,l,1,9,9⟩ own p a (c a (by simp)) k o r s j t,G,Ah (by simp)⟩
 | [a,f],_,c =>have e:own++[]=own:=eN own;rw [e] at j;have k1:=c a (by simp);have k2:=c f (by simp);obtain⟨o,_,s,_,t⟩:=d [a] (by simp) (fun w h=>by simp at h;rw [h];exact k1);obtain⟨H,_,I,_,J⟩:=d [f] (by simp) (fun w h=>by simp at h;rw [h];exact k2);obtain⟨K,_,L,_,M⟩:=d [a,a] (by simp) (fun w h=>by simp at h;rw [h];exact k1);obtain⟨x,N,O,P,Q⟩:=d [a,f] (by simp) c;obtain⟨R,_,S,_,T⟩:=d [f,a] (by simp) (fun w h=>by simp at h;rcases h with h | h <;> rw [h] <;> assumption);obtain⟨U,_,V,_,W⟩:=d [f,f] (by simp) (fun w h=>by simp at h;rw [h];exact k2);exact⟨_,x,7,N,agp ⟨g,l,1,9,9⟩ own p a f k1 k2 k o H K x R U r s I L O S V j t J M Q T W,P,Ah (by simp)⟩
theorem ag3(g:Gr)(l:List Tm)(own next:List B8)(k:Int)(a:ff g l 1 own 9 9≠0) :
  PC 10 [bq g,.sl 8 (l.map bF),dI 1,.sl 1 (own.map dT),.sl 1 (next.map dT),dI k,dI 9,dI 9] (.ret (.af [.sl 3 [],dI 0,dI (ff g l 1 own 9 9)])):=by
 obtain⟨b,c,_,d⟩:=Ag g l 1 own 9 9;exact agc ⟨g,l,1,9,9⟩ own next k _ a (agb g l 1 own 9 9 b c _ a d)
end
section
attribute [local simp] cK cI cJ cG cH cd bS cA nm np nq nr ns nu nv nw ny nz nA wD ss ui uj wJ wK wL wM
inductive Ar (d k:Int) (l:List Sm) (hd:List Bool):FuncId->List D->Out->Prop
 | ck (s:Sm) (h:hn s.w d k=0):Ar d k l hd 18 [cB s.w,dI d,dI k] (.ret (.af [cB (hU s.w d k),dI (lS s.w d k),dI 0]))
 | fu:Ar d k l hd 19 [.sl 1 ((dz d k l hd).map b')] (.ret (.af [.sl 1 ((hP (dz d k l hd) 0 []).map b'),dI 0]))
 | ch:Ar d k l hd 20 [.sl 1 ((hP (dz d k l hd) 0 []).map b')] (.ret (.af [.sl 1 ((iJ d k l hd).map dT),.sl 1 ((i_ (hP (dz d k l hd) 0 []) 0).map fun k:Nat=>dI k),dI 0]))
theorem ag4{d k:Int}{l:List Sm}{a:List Bool}(j:l.length<=16)(e:∀ s∈l,bP s=0)(g:dH (dz d k l a)<=64):∀ f b c,Ar d k l a f b c->PC f b c:=by
 intro f b c h;cases h with
 | ck s h=>have:=chunk s.w d k;rw [h] at this;exact this
 | fu=>exact adt _ (by have:=Ap d k l a;omega) (xw e) g
 | ch =>obtain⟨m,i⟩:=agZ e g;exact acN _ _ (by omega) (by have:=Ap d k l a;omega) i
theorem GU(b a:Int)(l:List Sm)(c:List Bool)(t:l.length<=16)(A:c.length=l.length)(m:∀ s∈l,bP s=0)(p:gU b a=true)(u:dH (dz b a l c)<=64) :
  PC 7 [.sl 2 (l.map be),.sl 1 (c.map dB),dI b,dI a] (.ret (.af [.sl 1 ((iJ b a l c).map dT),dB true])):=by
 have v:∀ i (h:i<l.length),hn l[i].w b a=0:=fun i h=>by unfold hn;rw [aj (Ao (m l[i] (cN h))),aj p]
 refine aG (ag4 t m u) c7 (by simp [a7]) fun p=>?_
 simp [a7];refine bm [0,1,2,3,9,21,22] Nat (fun y=>[(23,true,.d (dI y)),(10,true,.own 1 1 ((dz b a (l.take y) (c.take y)).map b'))]) (fun y=>[(1,.row)]) (fun y=>y<=l.length) (fun y=>l.length-y) 0 (bp _) ⟨[],[(1,1)],?_⟩ (fun i B=>?_)
 ·simp [dz]
 by_cases e:i<l.length
 ·have q:=wS i (by omega);have r:i<c.length:=by omega
  have f:=Aq (d:=b) (k:=a) e r;have w:=Ap b a (l.take i) (c.take i);rw [lp] at w;simp [e,r];cases g:c[i]
  ·rw [g,ab (by decide),eN] at f;simp [g];refine⟨i+1,by omega,by omega,[],[],?_⟩;rw [f];simp [q]
  ·rw [g,aj rfl] at f;simp [g];refine ah [.ret (.af [.sl 5 ((hU l[i].w b a).map dW),dI (lS l[i].w b a),dI 0])] ?_;simp [e];refine⟨.ck l[i] (v i e),?_⟩;have C:=OU l[i].w b a;have E:=(hI (m l[i] (cN e))).1;generalize F:hU l[i].w b a=L at *;refine bm [0,1,2,3,9,10,21,22,23,44,45] Nat (fun y=>[(46,true,.d (dI y)),(16,true,.own 2 2 (((L.take y).map py).map cm))]) (fun y=>[(2,.row)]) (fun y=>y<=L.length) (fun y=>L.length-y) 0 (bp _) ⟨[],[(2,2)],?_⟩ (fun j G=>?_)
   ·simp
   by_cases n:j<L.length
   ·have x:=wS j (by omega);have z:List.take (j+1) (List.map (cm∘py) L)=List.take j (List.map (cm∘py) L)++[D.agg [dT L[j].t,D.sl 1 (List.map dT L[j].a)]]:=by rw [fR (by simpa using n),HA];rfl
    simp [n,py];refine⟨⟨by omega,by omega⟩,j+1,by omega,by omega,[(2,5)],[],?_⟩;simp [x,z]
   ·have o:j=L.length:=by omega
    subst o;rw [d' (bj _)];simp [n];refine⟨⟨by omega,by omega⟩,i+1,by omega,by omega,[(1,4)],[],?_⟩;rw [f];simp [q,b']
 ·have o:i=l.length:=by omega
  subst o;rw [d' (bj _),d' (by omega)];simp [e];refine ah [.ret (.af [.sl 1 ((hP (dz b a l c) 0 []).map b'),dI 0])] ?_;simp;refine⟨.fu,?_⟩;refine ah [.ret (.af [.sl 1 ((iJ b a l c).map dT),.sl 1 ((i_ (hP (dz b a l c) 0 []) 0).map fun a:Nat=>dI a),dI 0])] ?_;simp;exact .ch
end
section
attribute [local simp] cK cI cJ cG cH cd bS cA nm np nq nr ns nu oS oT oU nv nw ny nz nA wD sf sg sh OQ OR OS kO kP kQ qu qv qw nH nI nJ
inductive CP:FuncId->List D->Out->Prop
 | mk {f:FuncId}{ds:List D}{out:Out}(h:PC f ds out):CP f ds out
theorem hCP:∀ f a b,CP f a b->PC f a b:=fun _ _ _ h=>by
 cases h with
 | mk h=>exact h
theorem ag5(d k:Int):PC 5 [dI d,dI k] (.ret (dB (gU d k))):=by
 refine aG aH c5 (by simp [a5]) fun c=>?_
 simp [a5];refine ah [] ?_;simp [gU];refine⟨fun q1=>⟨fun a=>⟨fun b=>⟨by omega,?_⟩,fun b=>aP (by simp [show ¬ 0<=k by omega])⟩,fun a=>aP (by simp [show ¬ d<=1073741824 by omega])⟩,fun q1=>aP (by simp [show ¬ 1<=d by omega])⟩;have e:0<=Int.tdiv 1099511627776 d/\Int.tdiv 1099511627776 d<=1099511627776:=by rw [HC (by decide)];exact⟨Pu (by decide) (by omega),Pv _ (by decide)⟩
 rw [wrap64 (n:=Int.tdiv 1099511627776 d) (by omega)];refine aP ?_;have:decide (k<Int.tdiv 1099511627776 d)=decide (k<=Int.tdiv 1099511627776 d-1):=by congr 1;exact propext (by omega)
 simp [q1,a,b,this]
theorem ag6:PC 4 [.nil 0,.nil 0,.agg [dI 0],dI 0,dI 0,dI 0,dI 0] (.ret (.af [dI 0,.sl 1 [],dI 230])):=by
 have h:=state [] [] 0 0 0 0 0;have e:fP [] [] 0 0 0 0 0=230:=by decide
 rw [show gH [] [] 0 0 0 0 0=0 by decide,show ji [] [] 0 0 0 0 0=[] by decide,e] at h;exact h.le (.cons (aB.BR _ _) (.cons (aB.BR _ _) (rF aB.refl _)))
def hp(l:List Sm):Nat:=(l.map fun s=>s.w.length).sum
theorem ag7{l:List Sm}(h:∀ s∈l,s.w.length<=10):hp l<=10*l.length:=by
 unfold hp
 induction l with
 | nil=>simp
 | cons s l a =>
  have:=a fun s b=>h s (by simp [b])
  have:=h s (by simp);simp only [bo,pH,bN];omega
theorem ag8{l:List Sm}{i:Nat}(h:i<l.length):hp (l.take (i+1))=hp (l.take i)+l[i].w.length:=by unfold hp;rw [fR h,dc,List.sum_append];simp only [bo,hY,pH,List.sum_nil,kl]
theorem ag9(l:List Sm)(i:Nat):hp (l.take i)<=hp l:=by
 unfold hp
 conv=>rhs;rw [<- mP i l]
 rw [dc,List.sum_append];omega
theorem ag_(l:List Sm)(a:List Bool)(p t d b:Int)(m:List px)(g:Gr)(f:List Tm)(T:∀ e∈m,(0<=e.s/\e.s<=255)/\(0<=e.a/\e.a<=255)) :
  PC 3 [.sl 2 (l.map be),.sl 1 (a.map dB),dP p,dI t,dI d,dI b,.sl 6 (m.map nZ),bq g,.sl 8 (f.map bF)] (.ret (dB true)):=by
 refine aG hCP c3 (by simp [a3]) fun hr=>?_
 simp [a3];refine ah [.ret (.af [dI 0,.sl 1 [],dI 230])] ?_;simp;refine⟨.mk ag6,?_⟩;by_cases q:¬ (¬ l=[]/\l.length<=4/\a.length=l.length/\m.length<=8/\0<=b/\b<=6)
 ·refine ah [] ?_;simp;intro b1 b2 b3 b4 b5 b6;exact absurd ⟨b1,by omega,by omega,by omega,b5,b6⟩ q
 have q:¬ l=[]/\l.length<=4/\a.length=l.length/\m.length<=8/\0<=b/\b<=6:=Classical.not_not.1 q;obtain⟨q1,q2,q3,q4,q5,q6⟩:=q;have b7:((l.length:Int)=(a.length:Int))=True:=fi (by omega);have F:IntKind.i64.wrap (b+1)=b+1:=wrap64 (by omega);refine ah [] ?_;simp [q1,show ¬ (4:Int)<(l.length:Int) by omega,b7,show ¬ (8:Int)<(m.length:Int) by omega,show ¬ b<0 by omega,show ¬ 6<b by omega];refine bm [0,1,3,4,5,6,8,11,16,18,91,92] Nat (fun y=>[(93,true,.d (dI y))]) (fun y=>[]) (fun y=>y<=l.length/\∀ s∈l.take y,s.w.length<=10) (fun y=>l.length-y) 0 ⟨bp _,by simp⟩ ⟨[],[],?_⟩ (fun i z=>?_)
 ·simp
 obtain⟨z,P⟩:=z;by_cases r:i<l.length
 ·have u:=wS i (by omega);by_cases G:10<l[i].w.length
  ·simp [r,cB,show (10:Int)<(l[i].w.length:Int) by omega]
   done
  simp [r,cB,show ¬ (10:Int)<(l[i].w.length:Int) by omega];refine⟨i+1,⟨by omega,?_⟩,by omega,[],[],?_⟩
  ·rw [fR r];intro s c;rcases cV.1 c with c | c
   ·exact P s c
   ·simp at c;rw [c];omega
  simp [u]
 have A:i=l.length:=by omega
 subst A;rw [d' (bj _)] at P;simp [r];refine bm [0,1,3,4,5,6,8,11,16,18,102,103] Nat (fun y=>[(104,true,.d (dI y))]) (fun y=>[]) (fun y=>y<=m.length) (fun y=>m.length-y) 0 (bp _) ⟨[],[],?_⟩ (fun i z=>?_)
 ·simp
 by_cases H:i<m.length
 ·have u:=wS i (by omega);by_cases G:5<m[i].o.w.length
  ·simp [H,cB,show (5:Int)<(m[i].o.w.length:Int) by omega]
   done
  simp [H,cB,show ¬ (5:Int)<(m[i].o.w.length:Int) by omega];refine⟨i+1,by omega,by omega,[],[],?_⟩;simp [u]
 have A:i=m.length:=by omega
 subst A;simp [H];clear r H z;have o:=CP.mk (state l a p t d b 0);by_cases v:¬ fP l a p t d b 0=0
 ·generalize fP l a p t d b 0=E at *;generalize gH l a p t d b 0=V at *;generalize ji l a p t d b 0=Y at *;refine ah [.ret (.af [dI V,.sl 1 (Y.map dI),dI E])] ?_;simp;refine⟨o,?_⟩;refine ah [.ret (dB true)] ?_;simp [v]
 have v:fP l a p t d b 0=0:=by omega
 rw [v] at o;by_cases w:¬ gH l a p t d b 0=2
 ·generalize gH l a p t d b 0=V at *;generalize ji l a p t d b 0=Y at *;refine ah [.ret (.af [dI V,.sl 1 (Y.map dI),dI 0])] ?_;simp;refine⟨o,?_⟩;refine ah [.ret (dB true)] ?_;simp [w]
 have w:gH l a p t d b 0=2:=by omega
 rw [w] at o;generalize ji l a p t d b 0=Y at *;refine ah [.ret (.af [dI 2,.sl 1 (Y.map dI),dI 0])] ?_;simp;refine⟨o,?_⟩;have x:=CP.mk (ag5 d (b+1));cases Q:gU d (b+1)
 ·rw [Q] at x;refine ah [.ret (dB false)] ?_;simp [F];exact x
 rw [Q] at x;refine ah [.ret (dB true)] ?_;simp [F];refine⟨x,?_⟩;obtain⟨G,R,r3,r4,S,W,r7⟩:=Rm.init ⟨v,w⟩;obtain⟨_,_,_,r8,r9,_⟩:=GP.1 ⟨v,w⟩;have I:∀ j,(h:j<l.length)->bP l[j]=0:=fun j h=>G.ok j h
 have b8:∀ s∈l,bP s=0:=fun s c=>by obtain⟨j,J,rfl⟩:=pD.1 c;exact I j J
 have h4:=CP.mk (agT l a p t d b 0 m ⟨v,w⟩ T (by omega));obtain⟨K,g2,g3⟩:=GR W r3 I m l t T G r7;generalize (kk p m l t).1=X at *;generalize (kk p m l t).2=U at *;refine ah [.ret (.af [.sl 2 (X.map be),dI U,dB true])] ?_;simp;refine⟨h4,?_⟩;obtain⟨v1,v2⟩:=K.still I r4 R S W (by omega) r8 r9;have Z:=CP.mk (state X a p U d b 0);rw [v1,v2] at Z;generalize ji X a p U d b 0=Y2 at *;refine ah [.ret (.af [dI 2,.sl 1 (Y2.map dI),dI 0])] ?_;simp;refine⟨Z,?_⟩;have L:∀ s∈X,bP s=0:=fun s c=>by obtain⟨j,J,rfl⟩:=pD.1 c;exact K.ok j J
 have d7:=K.len;have b9:=fun j=>eX (GS d j l a) (ag7 P)
 refine ah [] ?_;simp [F];refine bm [0,1,4,5,8,16,18,29,167] Nat (fun y=>[(168,true,.d (dI y)),(35,true,.d (.sl 1 ((if y=0 then [] else iJ d ((y:Int)-1) l a).map dT)))]) (fun y=>[]) (fun y=>(y:Int)<=b+1) (fun y=>10-y) 0 (by simp;omega) ⟨[],[],?_⟩ (fun j J=>?_)
 ·simp
 by_cases r:(j:Int)<b+1
 ·have u:=wS j (by omega);have a0:gU d j=true:=by obtain⟨c1,c2,c3,c4,c5,c6⟩:=Am S;have:=PZ (show (j:Int)+1<=b+1 by omega) (show 0<=d by omega);exact Ov c1 c2 (by omega) (by omega)
  have d8:=b9 j;have e1:=agW (k:=(j:Int)) K I R S (by omega) (by omega);have k1:=CP.mk (GU d j l a (by omega) R b8 a0 (by omega));have k2:=CP.mk (GU d j X a (by omega) (by omega) L a0 (by rw [e1];omega));have e2:iJ d j X a=iJ d j l a:=by unfold iJ;rw [e1]
  rw [e2] at k2;have k3:=CP.mk (abr (iJ d j l a) (iJ d j l a));simp only [Hw] at k3;simp [r];refine ah [.ret (.af [.sl 1 ((iJ d j l a).map dT),dB true])] ?_;simp;refine⟨k1,?_⟩;refine ah [.ret (.af [.sl 1 ((iJ d j l a).map dT),dB true])] ?_;simp;refine⟨k2,?_⟩;refine ah [.ret (dB true)] ?_;simp;refine⟨k3,?_⟩;refine⟨j+1,by omega,by omega,[],[],?_⟩;simp [u]
  done
 have A:(j:Int)=b+1:=by omega
 have c0:¬ j=0:=by omega
 rw [show ((if j=0 then [] else iJ d ((j:Int)-1) l a):List B8)=iJ d b l a by rw [ab c0,A];congr 1;omega];generalize iJ d b l a=own at *;have d9:hp X<=16*4096:=by
  have:∀ l:List Sm,(∀ s∈l,bP s=0)->hp l<=l.length*4096:=by
   intro l
   induction l with
   | nil=>intro _;simp [hp]
   | cons s l d0 =>
    intro h;have B:=d0 fun s c=>h s (by simp [c])
    have o:=(hI (h s (by simp))).1;simp only [hp,bo,pH,bN] at B |-;omega
  have:=this X L;omega
 simp [r];refine bm [1,4,5,8,16,18,29,35,201,202] Nat (fun y=>[(203,true,.d (dI y)),(41,true,.d (dI (hp (X.take y))))]) (fun y=>[]) (fun y=>y<=X.length) (fun y=>X.length-y) 0 (bp _) ⟨[],[],?_⟩ (fun i z=>?_)
 ·simp [hp]
 by_cases M:i<X.length
 ·have u:=wS i (by omega);have e3:=ag8 M;have e4:=ag9 X (i+1);have d1:IntKind.i64.wrap ((hp (X.take i):Int)+(X[i].w.length:Int))=(hp (X.take (i+1)):Int):=by rw [e3,wrap64 (by omega)];omega
  simp [M,cB];refine⟨i+1,by omega,by omega,[],[],?_⟩;simp [u,d1]
 have d2:i=X.length:=by omega
 subst d2;rw [d' (bj _)];by_cases q9:64<hp X
 ·simp [M,show (64:Int)<(hp X:Int) by omega]
  done
 simp [M,show ¬ (64:Int)<(hp X:Int) by omega];have a1:dH (dz d (b+1) X a)<=64:=eX (GS d (b+1) X a) (by unfold hp at q9;omega);have k4:=CP.mk (GU d (b+1) X a (by omega) (by omega) L Q a1);have d3:=agY L a1;generalize iJ d (b+1) X a=next at *
 refine ah [.ret (.af [.sl 1 (next.map dT),dB true])] ?_;simp [F];refine⟨k4,?_⟩;by_cases e0:4<own.length
 ·refine ah [.ret (dB true)] ?_;simp [show (4:Int)<(own.length:Int) by omega]
  done
 by_cases e5:2<next.length
 ·refine ah [.ret (dB true)] ?_;simp [show ¬ (4:Int)<(own.length:Int) by omega,show (2:Int)<(next.length:Int) by omega]
  done
 have k5:=CP.mk (acp g f own next next.length (by omega) (by omega) (by omega));cases C:(next.all (leB 200)&&(su g f own&&decide (g.aN.length<=6)))
 ·rw [C] at k5;refine ah [.ret (dB false)] ?_;simp [show ¬ (4:Int)<(own.length:Int) by omega,show ¬ (2:Int)<(next.length:Int) by omega];exact k5
 rw [C] at k5;refine ah [.ret (dB true)] ?_;simp [show ¬ (4:Int)<(own.length:Int) by omega,show ¬ (2:Int)<(next.length:Int) by omega];refine⟨k5,?_⟩;simp only [su,ax,bD] at C;by_cases N:¬ ff g f 1 own 9 9=0
 ·have k6:=CP.mk (ag3 g f own next next.length N);obtain⟨t1,d4,_,B⟩:=Ag g f 1 own 9 9;have O:=CP.mk B;obtain⟨t2,d5,_,o⟩:=Ag g f 1 (own++next) 9 9;have D:=CP.mk o;generalize ff g f 1 own 9 9=E at *;generalize ff g f 1 (own++next) 9 9=E2 at *;refine ah [.ret (.af [.sl 3 [],dI 0,dI E])] ?_;simp;refine⟨k6,?_⟩;rw [dc] at D;refine bY [.ret (.af [.sl 3 (t2.map aX),dB d5,dI E2])] ?_;simp [N];refine⟨⟨by omega,by omega⟩,⟨by omega,by omega⟩,D,rfl,?_⟩;refine ah [.ret (.af [.sl 3 (t1.map aX),dB d4,dI E])] ?_;simp;exact O
 have N:ff g f 1 own 9 9=0:=by omega
 obtain⟨a2,b0,n,d6,B,o,x⟩:=ag2 g f own next (by omega) (by omega) d3 N C.2.1.1 C.2.2
 have k6:=CP.mk B;have O:=CP.mk o;have D:=CP.mk (acv b0 a2);rw [ag1 x] at D;refine ah [.ret (.af [.sl 3 (a2.map aX),dI n,dI 0])] ?_;simp;refine⟨k6,?_⟩;rw [dc] at O;refine bY [.ret (.af [.sl 3 (b0.map aX),dB d6,dI 0])] ?_;simp;refine⟨⟨by omega,by omega⟩,⟨by omega,by omega⟩,O,rfl,?_⟩;refine ah [.ret (dB true)] ?_;simp;exact D
end
section
theorem OY:Tryz.prog.underlying 5=some (.int .u8):=by kernel_rfl
theorem OZ:Tryz.prog.cellsOf 5=1:=by kernel_rfl
def Au:Type:={e:px // (0<=e.s/\e.s<=255)/\(0<=e.a/\e.a<=255)}
theorem uPt:Tryz.prog.underlying 204=some (.struct #[cZ 204 0,cZ 204 1,cZ 204 2]):=by kernel_rfl
theorem O_:Tryz.prog.cellsOf 204=3:=by kernel_rfl
theorem uGv:Tryz.prog.underlying 206=some (.struct #[cZ 206 0,cZ 206 1]):=by kernel_rfl
theorem O':Tryz.prog.cellsOf 206=2:=by kernel_rfl
theorem uRl:Tryz.prog.underlying 198=some (.struct #[cZ 198 0,cZ 198 1,cZ 198 2,cZ 198 3,cZ 198 4]):=by kernel_rfl
theorem Pb:Tryz.prog.cellsOf 198=5:=by kernel_rfl
theorem uEn:Tryz.prog.underlying 237=some (.struct #[cZ 237 0,cZ 237 1,cZ 237 2,cZ 237 3,cZ 237 4]):=by kernel_rfl
theorem Pc:Tryz.prog.cellsOf 237=5:=by kernel_rfl
theorem Pd:Tryz.prog.underlying 31=some (.struct #[cZ 31 0,cZ 31 1,cZ 31 2,cZ 31 3,cZ 31 4,cZ 31 5]):=by kernel_rfl
theorem zGr:Tryz.prog.cellsOf 31=6:=by kernel_rfl
theorem uTm:Tryz.prog.underlying 171=some (.struct #[cZ 171 0,cZ 171 1,cZ 171 2,cZ 171 3,cZ 171 4,cZ 171 5,cZ 171 6,cZ 171 7]):=by kernel_rfl
theorem Pe:Tryz.prog.cellsOf 171=8:=by kernel_rfl
theorem ag':Tryz.prog.underlying 43=some (.struct #[cZ 43 0,cZ 43 1,cZ 43 2]):=by kernel_rfl
theorem Pf:Tryz.prog.cellsOf 43=6:=by kernel_rfl
theorem aha:Tryz.prog.underlying 195=some (.slice 204):=by kernel_rfl
theorem ahb:Tryz.prog.cellsOf 195=1:=by kernel_rfl
theorem ahc:Tryz.prog.underlying 196=some (.slice 206):=by kernel_rfl
theorem ahd:Tryz.prog.cellsOf 196=1:=by kernel_rfl
theorem ahe:Tryz.prog.underlying 28=some (.slice 237):=by kernel_rfl
theorem ahf:Tryz.prog.cellsOf 28=1:=by kernel_rfl
theorem ahg:Tryz.prog.underlying 29=some (.slice 198):=by kernel_rfl
theorem ahh:Tryz.prog.cellsOf 29=1:=by kernel_rfl
theorem Pg:Tryz.prog.underlying 32=some (.slice 171):=by kernel_rfl
theorem Ph:Tryz.prog.underlying 26=some (.slice 43):=by kernel_rfl
section
variable {H:Type}{enc:TypeId×Value->H}{w:World}
theorem ahi:dR enc Tryz.prog w 4 (fun b:Bool=>dB b):=JK KG
theorem Pj{P:Program}{t:TypeId}(b:P.underlying t=some (.int .u8)):dR enc P w t (fun n:{x:Int // 0<=x/\x<=255}=>.lit (.int .u8 n.1)):=by
 intro d e x h;obtain⟨n,rfl,_,a⟩:=DataW.trod_int b h;have c:0<=n/\n<=255:=by simpa [Lit.wf,IntKind.min,IntKind.max,IntKind.signed,IntKind.bits] using a
 refine⟨⟨n,c⟩,Ct (.lit ?_)⟩;simpa [Sc,Lit.wf] using a
theorem ahj:dR enc Tryz.prog w 204 bA:=me (mg uPt (by rw [O_];kernel_rfl) (cY (t:=9) (off':=1) (by kernel_rfl) (by kernel_rfl) (by rw [ml]) mm (cY (t:=3) (off':=2) (by kernel_rfl) (by kernel_rfl) (by rw [hG]) hH (cY (t:=9) (off':=3) (by kernel_rfl) (by kernel_rfl) (by rw [ml]) mm mf)))) (fun y=>⟨⟨y.1,y.2.1,y.2.2.1⟩,rfl⟩)
theorem ahk:dR enc Tryz.prog w 206 iC:=me (mg uGv (by rw [O'];kernel_rfl) (cY (t:=3) (off':=1) (by kernel_rfl) (by kernel_rfl) (by rw [hG]) hH (cY (t:=9) (off':=2) (by kernel_rfl) (by kernel_rfl) (by rw [ml]) mm mf))) (fun y=>⟨⟨y.1,y.2.1⟩,rfl⟩)
theorem ahl:dR enc Tryz.prog w 195 (fun l:List Pt=>.sl 3 (l.map bA)):=nk aha O_ (fun _=>rfl) (fun y c a=>by simp [bA,D.cells] at a;rcases a with rfl | rfl | rfl <;> rfl) ahj
theorem ahm:dR enc Tryz.prog w 196 (fun l:List Gv=>.sl 2 (l.map iC)):=nk ahc O' (fun _=>rfl) (fun y c a=>by simp [iC,D.cells] at a;rcases a with rfl | rfl <;> rfl) ahk
theorem ahn:dR enc Tryz.prog w 198 bI:=me (mg uRl (by rw [Pb];kernel_rfl) (cY (t:=9) (off':=1) (by kernel_rfl) (by kernel_rfl) (by rw [ml]) mm (cY (t:=3) (off':=2) (by kernel_rfl) (by kernel_rfl) (by rw [hG]) hH (cY (t:=195) (off':=3) (by kernel_rfl) (by kernel_rfl) (by rw [ahb]) ahl (cY (t:=196) (off':=4) (by kernel_rfl) (by kernel_rfl) (by rw [ahd]) ahm (cY (t:=3) (off':=5) (by kernel_rfl) (by kernel_rfl) (by rw [hG]) hH mf)))))) (fun y=>⟨⟨y.1,y.2.1,y.2.2.1,y.2.2.2.1,y.2.2.2.2.1⟩,rfl⟩)
theorem aho:dR enc Tryz.prog w 237 df:=me (mg uEn (by rw [Pc];kernel_rfl) (cY (t:=9) (off':=1) (by kernel_rfl) (by kernel_rfl) (by rw [ml]) mm (cY (t:=9) (off':=2) (by kernel_rfl) (by kernel_rfl) (by rw [ml]) mm (cY (t:=3) (off':=3) (by kernel_rfl) (by kernel_rfl) (by rw [hG]) hH (cY (t:=27) (off':=4) (by kernel_rfl) (by kernel_rfl) (by rw [wy]) wz (cY (t:=3) (off':=5) (by kernel_rfl) (by kernel_rfl) (by rw [hG]) hH mf)))))) (fun y=>⟨⟨y.1,y.2.1,y.2.2.1,y.2.2.2.1,y.2.2.2.2.1⟩,rfl⟩)
theorem ahp:dR enc Tryz.prog w 29 (fun l:List Rl=>.sl 5 (l.map bI)):=nk ahg Pb (fun _=>rfl) (fun y c a=>by simp [bI,D.cells] at a;rcases a with rfl | rfl | rfl | rfl | rfl <;> rfl) ahn
theorem ahq:dR enc Tryz.prog w 28 (fun l:List En=>.sl 5 (l.map df)):=nk ahe Pc (fun _=>rfl) (fun y c a=>by simp [df,D.cells] at a;rcases a with rfl | rfl | rfl | rfl | rfl <;> rfl) aho
theorem ahr:dR enc Tryz.prog w 31 bq:=me (mg Pd (by rw [zGr];kernel_rfl) (cY (t:=9) (off':=1) (by kernel_rfl) (by kernel_rfl) (by rw [ml]) mm (cY (t:=27) (off':=2) (by kernel_rfl) (by kernel_rfl) (by rw [wy]) wz (cY (t:=9) (off':=3) (by kernel_rfl) (by kernel_rfl) (by rw [ml]) mm (cY (t:=3) (off':=4) (by kernel_rfl) (by kernel_rfl) (by rw [hG]) hH (cY (t:=28) (off':=5) (by kernel_rfl) (by kernel_rfl) (by rw [ahf]) ahq (cY (t:=29) (off':=6) (by kernel_rfl) (by kernel_rfl) (by rw [ahh]) ahp mf))))))) (fun y=>⟨⟨y.1,y.2.1,y.2.2.1,y.2.2.2.1,y.2.2.2.2.1,y.2.2.2.2.2.1⟩,rfl⟩)
theorem ahs:dR enc Tryz.prog w 171 bF:=me (mg uTm (by rw [Pe];kernel_rfl) (cY (t:=3) (off':=1) (by kernel_rfl) (by kernel_rfl) (by rw [hG]) hH (cY (t:=3) (off':=2) (by kernel_rfl) (by kernel_rfl) (by rw [hG]) hH (cY (t:=3) (off':=3) (by kernel_rfl) (by kernel_rfl) (by rw [hG]) hH (cY (t:=3) (off':=4) (by kernel_rfl) (by kernel_rfl) (by rw [hG]) hH (cY (t:=27) (off':=5) (by kernel_rfl) (by kernel_rfl) (by rw [wy]) wz (cY (t:=27) (off':=6) (by kernel_rfl) (by kernel_rfl) (by rw [wy]) wz (cY (t:=9) (off':=7) (by kernel_rfl) (by kernel_rfl) (by rw [ml]) mm (cY (t:=4) (off':=8) (by kernel_rfl) (by kernel_rfl) (by rw [K_]) ahi mf))))))))) (fun y=>⟨⟨y.1,y.2.1,y.2.2.1,y.2.2.2.1,y.2.2.2.2.1,y.2.2.2.2.2.1,y.2.2.2.2.2.2.1,y.2.2.2.2.2.2.2.1⟩,rfl⟩)
theorem aht:dR enc Tryz.prog w 32 (fun l:List Tm=>.sl 8 (l.map bF)):=nk Pg Pe (fun _=>rfl) (fun y c a=>by simp [bF,D.cells] at a;rcases a with rfl | rfl | rfl | rfl | rfl | rfl | rfl | rfl <;> rfl) ahs
theorem ahu:dR enc Tryz.prog w 43 (fun z:Au=>nZ z.1):=me (mg ag' (by rw [Pf];kernel_rfl) (cY (t:=5) (off':=1) (by kernel_rfl) (by kernel_rfl) (by rw [OZ]) (Pj OY) (cY (t:=5) (off':=2) (by kernel_rfl) (by kernel_rfl) (by rw [OZ]) (Pj OY) (cY (t:=41) (off':=6) (by kernel_rfl) (by kernel_rfl) (by rw [KL]) abp mf)))) (fun y=>⟨⟨⟨y.1.1,y.2.1.1,y.2.2.1⟩,y.1.2,y.2.1.2⟩,rfl⟩)
theorem ahv:dR enc Tryz.prog w 26 (fun l:List Au=>.sl 6 (l.map fun z=>nZ z.1)):=nk Ph Pf (fun _=>rfl) (fun y c a=>by simp [nZ,D.cells] at a;rcases a with rfl | rfl | rfl | rfl | rfl | rfl <;> rfl) ahu
end
theorem sGr:kD Tryz.prog 31 (fun x=>∃ g:Gr,x=bq g):=JL (by rw [Pd]) ahr (fun _=>rfl) (fun y c a=>by simp [bq,D.cells] at a;rcases a with rfl | rfl | rfl | rfl | rfl | rfl <;> rfl)
theorem ahw:kD Tryz.prog 32 (fun x=>∃ l:List Tm,x=.sl 8 (l.map bF)):=yw Pg aht
theorem ahx:kD Tryz.prog 26 (fun x=>∃ l:List Au,x=.sl 6 (l.map fun z=>nZ z.1)):=yw Ph ahv
theorem ahy(l:List Sm)(a:List Bool)(p t d k:Int)(m:List Au)(g:Gr)(b:List Tm):PC 3 [.sl 2 (l.map be),.sl 1 (a.map dB),dP p,dI t,dI d,dI k,.sl 6 (m.map fun z=>nZ z.1),bq g,.sl 8 (b.map bF)] (.ret (dB true)):=by
 have h:=ag_ l a p t d k (m.map fun z=>z.1) g b (fun e c=>by obtain⟨z,_,rfl⟩:=aS.1 c;exact z.2)
 rw [dA] at h;exact h
end
section
open Go Go.Proofs.YtloccchppmffpaaGreatDoor.AL Go.ChangeShapes Go.WideShapes Go.ChangeAt Go.RowKit Go.Lib Go.Shelf
theorem own:ownKnob Tryz.prog.godebug=none:=by kernel_rfl
theorem laidOut:laidOutB Tryz.prog=true:=by kernel_rfl
theorem GV{w:World}{d:List D}{g:Nat}(h:∀ (k:Nat) (c:D),d[k]?=some c->∃ v,w.cell? ⟨g,k,none⟩=some v/\c=.lit v/\Sc v):au (AL.allI w) w (.ip (.agg d)) (.pointer (some ⟨g,0,none⟩)):=by
 have e:∀ k,(⟨g,0,none⟩:Addr).add k=⟨g,k,none⟩:=fun k=>by cases k <;> simp [Addr.add]
 refine .ip ⟨g,0,none⟩ (fun k=>(w.cell? ⟨g,k,none⟩).getD (.bool false)) ?_ ?_ ?_
 ·intro c f;obtain⟨k,a⟩:=List.mem_iff_getElem?.1 f;obtain⟨v,_,rfl,_⟩:=h k c a;rfl
 ·intro k c a;obtain⟨v,b,_,_⟩:=h k c a;rw [e];exact⟨by simp [AL.allI,b],by simp [b]⟩
 ·intro k c a;obtain⟨v,b,rfl,i⟩:=h k c a;simp only [b,PL];exact .lit i
theorem ahz(c:Nat):Sc (.int .u8 (firstT c)):=by have h:=firstT_cases c;simp only [Sc,IntKind.min,IntKind.max];rcases h with h | h | h | h | h | h | h | h | h <;> rw [h] <;> decide
theorem ahA(i:Nat):Sc (.int .u8 (accLo i)):=by
 have h:accLo i<=255:=by
  unfold accLo
  repeat' split
  all_goals omega
 exact⟨by simp [IntKind.min,IntKind.signed],by simp [IntKind.max,IntKind.signed,IntKind.bits];omega⟩
theorem ahB(i:Nat):Sc (.int .u8 (accHi i)):=by
 have h:accHi i<=255:=by
  unfold accHi
  repeat' split
  all_goals omega
 exact⟨by simp [IntKind.min,IntKind.signed],by simp [IntKind.max,IntKind.signed,IntKind.bits];omega⟩
theorem Pk(lo a:Nat->D):∀ (n b k:Nat) (c:D),((List.range' b n).flatMap fun i=>[lo i,a i])[k]?=some c ->∃ i,b<=i/\i<b+n/\((k=2*(i-b)/\c=lo i)\/(k=2*(i-b)+1/\c=a i))
 | 0,b,k,c,h=>by simp at h
 | n+1,b,0,c,h=>by simp [ve] at h;exact⟨b,by omega,by omega,.inl ⟨by omega,h.symm⟩⟩
 | n+1,b,1,c,h=>by simp [ve] at h;exact⟨b,by omega,by omega,.inr ⟨by omega,h.symm⟩⟩
 | n+1,b,k+2,c,h=>by
  simp only [ve,ll,dX,gx,GZ] at h;obtain⟨i,f,g,d⟩:=Pk lo a n (b+1) k c h;refine⟨i,by omega,by omega,?_⟩;rcases d with ⟨d,e⟩ | ⟨d,e⟩
  ·exact .inl ⟨by omega,e⟩
  ·exact .inr ⟨by omega,e⟩
abbrev Av:List (String×DataW Unit):=[("unicode/utf8.acceptRanges",Rows.laid_unicode_utf8_acceptRanges),("unicode.White_Space",Rows.laid_unicode_White_Space),("strings.asciiSpace",Rows.laid_strings_asciiSpace),("unicode/utf8.first",Rows.laid_unicode_utf8_first)]
set_option maxRecDepth 1000000 in
theorem ahC{W:World}(h:laidMet Tryz.prog Av W):Lib.Utf8Tabs 0 1 W :=
 utf8Tabs_of_reads (ρ:=Tryz.Ky) {Tryz.Kz with} ⟨by kernel_rfl,by kernel_rfl,by kernel_rfl,by kernel_rfl,by kernel_rfl,by kernel_rfl,by kernel_rfl⟩ (P' h (.tail _ (.tail _ (.tail _ (.head _))))) (P' h (.head _))
theorem ahD:asciiSpaceTab=(List.range 256).map fun c=>if 9<=c/\c<=13\/c=32 then 1 else 0:=by kernel_rfl
theorem ahE(c:Nat):Sc (.int .u8 (if 9<=c/\c<=13\/c=32 then 1 else 0)):=by
 by_cases h:9<=c/\c<=13\/c=32
 ·rw [aj h];simp only [Sc,IntKind.min,IntKind.max];decide
 ·rw [ab h];simp only [Sc,IntKind.min,IntKind.max];decide
theorem ahF:(Rows.laid_strings_asciiSpace:DataW Unit)=tabData .u8 asciiSpaceTab:=by kernel_rfl
theorem ahG{W:World}(h:laidMet Tryz.prog Av W)(c:Nat)(a:c<256):W.cell? ⟨3,c,none⟩=some (.int .u8 (if 9<=c/\c<=13\/c=32 then 1 else 0)):=by
 obtain⟨i,j,k,l,p,b,br,f,d⟩:=P' h (.tail _ (.tail _ (.head _)));obtain rfl:=tc ((show Tryz.prog.globalNamed "strings.asciiSpace" = some 3 by kernel_rfl).symm.trans b);obtain rfl:=tc ((show (Tryz.prog.globals[(3:Nat)]?).map (·.type)=some 350 by kernel_rfl).symm.trans br);rw [ahF] at d;have g:TabIs Tryz.prog W "strings.asciiSpace" .u8 asciiSpaceTab:=by unfold TabIs;rw [f,<- cells_of_tab (e:=5) (n:=256) (by kernel_rfl) (by kernel_rfl) (by kernel_rfl) (by kernel_rfl) d]
 rw [g.cell b c (by rw [asciiSpaceTab_length];exact a),ahD];simp [List.getD,a]
theorem ahH{W:World}(f:laidMet Tryz.prog Av W):jH (AL.allI W) W:=by
 have h:=ahC f;intro p g;simp only [ti,b_,n',oa] at g;rcases g with rfl | rfl | rfl
 ·refine GV fun k c a=>?_
  rw [bG] at a;obtain⟨j,e,rfl⟩:=bZ.1 a;obtain⟨b,d⟩:=bu.1 e;simp at b d;subst d;exact⟨_,h.1 _ b,rfl,ahz _⟩
 ·refine GV fun k c a=>?_
  rw [Hj] at a;obtain⟨i,_,n,m⟩:=Pk _ _ 16 0 k c a;have l:=h.2 i (by omega);rcases m with ⟨rfl,rfl⟩ | ⟨rfl,rfl⟩
  ·exact⟨_,l.1,rfl,ahA _⟩
  ·exact⟨_,l.2,rfl,ahB _⟩
 ·refine GV fun k c a=>?_
  rw [bG] at a;obtain⟨j,e,rfl⟩:=bZ.1 a;obtain⟨b,d⟩:=bu.1 e;simp at b d;subst d;exact⟨_,ahG f _ b,rfl,ahE _⟩
noncomputable def Aw(b:Os):World :=
 let N:=(World.settled Tryz.prog b).heap.size
 let c:=World.holding Tryz.prog b ⟨#[.cells (Lib.whiteT.map fun(z:Nat)=>Value.int .u16 (z:Int)).toArray 383,.cells #[.slice (some ⟨N,0,none⟩) 7 7,.slice none 0 0,.int .i64 2] 380],#[],[]⟩
 let a (h:Array Obj) (g:Nat) (d:Array Value):Array Obj:=h.modify g fun
  | .cells _ t frozen=>.cells d t frozen
  | o=>o
 let e:=a c.heap 0 (Lib.firstTab.map fun z=>Value.int .u8 z).toArray
 let f:=a e 1 ((List.range 16).flatMap fun i=>[Value.int .u8 (Lib.accLo i),Value.int .u8 (Lib.accHi i)]).toArray
 let j:=a f 3 (Lib.asciiSpaceTab.map fun z=>Value.int .u8 z).toArray
 let k:=a j 4 #[.pointer (some ⟨N+1,0,none⟩)]
 {c with heap:=k}
theorem GW:kD Tryz.prog 3 (fun x=>∃ n:Int,(IntKind.i64.min<=n/\n<=IntKind.i64.max)/\x=.lit (.int .i64 n)):=Xx KF
set_option maxRecDepth 1000000 in
theorem ahI(a:Os)(b:Array Value):laidMet Tryz.prog Av ((Aw a).forCall (fun _ _=>0) ⟨#[],b,[]⟩).memory :=
 laidMet_of_run3 10 (by kernel_rfl) (by kernel_rfl) (by kernel_rfl)
end

end Go.Proofs.YtloccchppmffpaaGreatDoor
