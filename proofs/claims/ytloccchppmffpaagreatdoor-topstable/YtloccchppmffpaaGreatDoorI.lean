/- Part of the proof. -/
import Derived.WalkKit
import Derived.BigQuiet
import Derived.Maps.RangeWalk
import Derived.Shelf.SlicesQ.IndexFunc
import Derived.Ground.SlgfProg
import Derived.Shelf.LaySoft
import Derived.Test.YtloccchppmffpaaGreatDoorH
set_option linter.unnecessarySimpa false
set_option linter.unusedVariables false
set_option linter.unusedSimpArgs false
set_option linter.defProp false
set_option maxRecDepth 20000
set_option maxHeartbeats 8000000
namespace Go.Proofs.YtloccchppmffpaaGreatDoor
open Go Go.Proofs.YtloccchppmffpaaGreatDoor.AL
def mV:=@eq_false
def oe:=@Nat.max_le
def vo:=@List.nodup_append
def vp:=@List.filter_cons
def HB:=@List.set_append_right
def PX:=@List.take_add_one
section
attribute [local simp] cK cI cJ cG cH cd bS cA gP mq mr mu
structure Lc where
 c:fC
 x:Gl
 i:Nat
 r:Rl
def mB:AV:=.fn (.func 233) [] [.ptr 1010 0,.ptr 1012 0,.ptr 1013 0,.ptr 1009 0,.ptr 1014 0]
def eV(a t:List Int):AV:=if a.length+t.length=0 then .d (.nil 1) else .aE (1016+(a.length+t.length)) 0 1 a.length (a.length+t.length)
def gS(l:List Int):List (Nat×HO):=(List.range (l.length-1)).map (fun k=>(1017+k,HO.dead))++(if l.length=0 then [] else [(1016+l.length,.box true (l.map fun a=>.d (dI a)))])
def iF(m:Nat):List (Nat×HO):=(List.range m).map fun j=>(100+j,HO.obj 0)
def bz(S:Lc)(m:Nat)(b:List (Gl×Fd))(f:Fd)(a t:List Int)(z:Nat:=1):List (Nat×HO):=bx S.c b f++([(4,.box false [.ptr 0 0]),(5,.box true [.d (dI S.x.cat),.d (dI S.x.fr),.d (dI S.x.un)]),(6,.box false [.ptr 3 0])]++(iF m++([(1006,.dead),(1007,.box false [.d (dI S.i)]),(1008,.box true [.d (dT S.r.cat),.d (dI S.r.cn),.d (.sl 3 (S.r.ps.map bA)),.d (.sl 2 (S.r.gs.map iC)),.d (dI S.r.cost)]),
 (1009,.box false [.ptr 0 0]),(1010,.box false [.d (.sl 3 (S.r.ps.map bA))]),(1011,.box false [.d (dI S.x.fr)]),(1012,.box false [.d (dI S.x.un)]),(1013,.box false [eV a t]),(1014,.box false [mB]),(1015,.obj 0),(1016,.obj z)]++gS (a++t))))
theorem cp{m n:Nat}{L:List (Nat×HO)}(f:m<=500)(h:1000<=n):AL.look (iF m++L) n=AL.look L n:=by
 have b:∀ l:List Nat,(∀ i∈l,i<500)->AL.look (l.map (fun j=>(100+j,HO.obj 0))++L) n=AL.look L n:=fun l=>by
  induction l with
  | nil=>intro _;rfl
  | cons i l c =>intro a;have:=a i (by simp);rw [bo,dX,AL.look,ab (by omega)];exact c fun j d=>a j (by simp [d])
 exact b _ fun i e=>by have:=di.1 e;omega
theorem cO{m n:Nat}{L:List (Nat×HO)}{o:HO}(f:m<=500)(h:1000<=n):aM (iF m++L) n o=iF m++aM L n o:=by
 have b:∀ l:List Nat,(∀ i∈l,i<500)->aM (l.map (fun j=>(100+j,HO.obj 0))++L) n o=l.map (fun j=>(100+j,HO.obj 0))++aM L n o:=fun l=>by
  induction l with
  | nil=>intro _;rfl
  | cons i l c =>intro a;have:=a i (by simp);rw [bo,dX,aM,ab (by omega),c fun j d=>a j (by simp [d])];rfl
 exact b _ fun i e=>by have:=di.1 e;omega
theorem dZ{m:Nat}{o:HO}{r:List (Nat×HO)}(f:m<=500):newName (iF m++(1006,o)::r)=newName ((1006,o)::r):=by
 have b:∀ l:List Nat,(∀ i∈l,i<500)->newName (l.map (fun j=>(100+j,HO.obj 0))++(1006,o)::r)=newName ((1006,o)::r):=fun l=>by
  induction l with
  | nil=>intro _;rfl
  | cons i l c =>intro a;have:=a i (by simp);rw [bo,dX,newName,c fun j d=>a j (by simp [d])];simp only [newName];omega
 exact b _ fun i e=>by have:=di.1 e;omega
def Fx:AC:=.region none [⟨some 74,none,(.op (.load 1 false (.tmp 5)))⟩,⟨some 75,none,(.op (.ak (.tmp 13)))⟩,⟨some 76,none,(.op (.ext (.lY 1) [(.tmp 75)]))⟩,⟨some 77,none,(.op (.ext (.pushB 1 8) [(.tmp 74),(.tmp 76)]))⟩,⟨none,none,(.op (.store 1 (.tmp 5) (.tmp 77)))⟩]
theorem ad1{i:Cx}{Q:AE->St->Prop}{s:List (Nat×Bool×AV)}{d:List DE}{S:Lc}{m:Nat}{kn:List (Gl×Fd)}{f:Fd}{pre t:List Int}{a0:Int}(g:m<=500)(j:bn s 5=some (true,.ptr 1013 0))(k:bn s 13=some (true,.d (dI a0)))(l:pre.length<=3)(n:pre.length+t.length<=4)(h:Q .normal ⟨(77,true,eV (pre++[a0]) (t.drop 1))::(76,true,.d (.sl 1 [dI a0]))::(75,true,.d (dI a0))::(74,true,eV pre t)::s,bz S m kn f (pre++[a0]) (t.drop 1),d⟩):bL Tryz.prog i Fx Q ⟨s,bz S m kn f pre t,d⟩:=by
 rcases pre with _ | ⟨a,_ | ⟨b,_ | ⟨c,_ | ⟨e,pre⟩⟩⟩⟩ <;> rcases t with _ | ⟨x,_ | ⟨y,_ | ⟨z,_ | ⟨u,_ | ⟨v,t⟩⟩⟩⟩⟩ <;> (try (exfalso;simp only [bN,mR] at l n;omega)) <;>
  (simp [Fx,bz,bx,bk,j,k,eV,gS,wr,List.range,List.range.loop,cp g,cO g,dZ g] at h |-;exact h)
theorem Fy(i:Int):∀ a:List (Int×List B8),dJ (.int .i64 i) (a.map hf)=some ((a.find? fun e=>e.1 == i).map fun e=>.d (.sl 1 (e.2.map dT)))
 | []=>rfl
 | e::r=>by
  rw [bo,show hf e=(.int .i64 e.1,.d (.sl 1 (e.2.map dT))) from rfl,oJ,Fy i r,q_];have:hA (.int .i64 i) (.int .i64 e.1)=some (decide (i=e.1)):=by rw [Cn,aj rfl];congr 1
  rw [this];by_cases h:i=e.1
  ·subst h;simp
  ·have b:(e.1 == i)=false:=by simp;exact fun q=>h q.symm
   simp [h,b]
theorem ad2(v:B8):PC 167 [.nil 1,dT v] (.ret (dB false)):=(sb [] v).le (.cons (aB.nil 1) (.cons (aB.refl _) .nil))
def kg(N:List Nat):HO->Bool
 | .obj _=>true
 | .dead=>true
 | o=>iV N o
theorem MG{σ:St}{h0:List (Nat×HO)}:∀ {l:List (Nat×HO)},(∀ p∈l,p.2=.dead\/AL.look σ.h p.1=some p.2)->(l.all fun p=>kg (ai h0) p.2)=true->(∀ p∈l,jt p.2)->fX [] [] σ h0 l
 | [],_,_,_=>trivial
 | (n,o)::r,g,b,d=>by
  simp only [jG,ax] at b;have c:=MG (σ:=σ) (h0:=h0) (l:=r) (fun p a=>g p (cD _ a)) b.2 fun p a=>d p (cD _ a)
  have f:=g (n,o) (dj ..);cases o with
  | obj s=>exact⟨⟨rfl,by rw [fc];exact f.resolve_left fun e=>(by cases e)⟩,c⟩
  | dead=>exact⟨trivial,c⟩
  | row=>cases b.1
  | box h i =>
   have:=tX (σ:=σ) (h0:=h0) (l:=[(n,.box h i)]) (fun p a=>by rw [iM.1 a];exact f.resolve_left fun e=>(by cases e)) (by simpa [kg] using b.1) fun p a=>d p (by rw [iM.1 a];exact dj ..)
   exact⟨this.1,c⟩
  | aA j =>
   have:=tX (σ:=σ) (h0:=h0) (l:=[(n,.aA j)]) (fun p a=>by rw [iM.1 a];exact f.resolve_left fun e=>(by cases e)) (by simpa [kg] using b.1) fun p a=>d p (by rw [iM.1 a];exact dj ..)
   exact⟨this.1,c⟩
theorem zM:∀ {h:List (Nat×HO)},(ai h).Nodup->∀ p∈h,AL.look h p.1=some p.2
 | (n,o)::r,b,p,a=>by
  simp only [ai,bo,vi] at b;rcases b_.1 a with rfl | a
  ·simp [AL.look]
  ·have c:p.1≠n:=fun e=>b.1 (by rw [<- e];exact aS.2 ⟨p,a,rfl⟩)
   simp only [AL.look];rw [ab c];exact zM b.2 p a
theorem ad3{B:Nat}{s a:List (Nat×Bool×AV)}{h:List (Nat×HO)}(b:(ai h).Nodup)(c:(h.all fun p=>kg (ai h) p.2)=true)(d:∀ p∈h,jt p.2)(e:jQ [] [] ⟨s,h,[]⟩ h a):Sub B ⟨s,h,[]⟩ ⟨a,h,[]⟩:=by refine⟨[],[],rX _,e,MG (fun p f=>.inr (zM b p f)) c d,?_,trivial⟩;rw [bQ];intro n _;cases g:(ai h).contains n <;> simp [fc,bc]
theorem Fz(l:List Int):ai (gS l)=(List.range l.length).map (1017+·):=by
 unfold gS ai;cases a:l.length with
 | zero=>rfl
 | succ n =>simp only [Nat.add_sub_cancel,Nat.succ_ne_zero,eM,dc,dA,bo,hY,vg,vh];simp;omega
theorem zN(S:Lc)(m:Nat)(b:List (Gl×Fd))(f:Fd)(a t:List Int){z:Nat}:ai (bz S m b f a t z)=List.range 7++((List.range m).map (100+·)++((List.range 11).map (1006+·)++(List.range (a++t).length).map (1017+·))):=by
 have c:ai (bz S m b f a t z)=List.range 7++(ai (iF m)++((List.range 11).map (1006+·)++ai (gS (a++t)))):=by simp [bz,bx,bk,ai,List.range,List.range.loop]
 rw [c,Fz];simp [iF,ai,vh]
theorem sG{S:Lc}{m:Nat}{b:List (Gl×Fd)}{f:Fd}{a t:List Int}{z n:Nat}:n∈ai (bz S m b f a t z)↔n<7\/(100<=n/\n<100+m)\/(1006<=n/\n<1017+(a++t).length):=by
 rw [zN];simp only [cV,aS,di];constructor
 ·rintro(h | ⟨j,h,rfl⟩ | ⟨j,h,rfl⟩ | ⟨j,h,rfl⟩) <;> omega
 ·rintro(h | h | h)
  ·exact .inl h
  ·exact .inr (.inl ⟨n-100,by omega,by omega⟩)
  ·by_cases q:n<1017
   ·exact .inr (.inr (.inl ⟨n-1006,by omega,by omega⟩))
   ·exact .inr (.inr (.inr ⟨n-1017,by omega,by omega⟩))
theorem FA(a n:Nat):((List.range n).map (a+·)).Nodup:=List.Pairwise.map _ (fun x y h=>by omega) xN
theorem zO(S:Lc)(m:Nat)(h:m<=500)(e:List (Gl×Fd))(f:Fd)(g t:List Int){z:Nat}:(ai (bz S m e f g t z)).Nodup:=by
 rw [zN];refine vo.2 ⟨xN,vo.2 ⟨FA _ _,vo.2 ⟨FA _ _,FA _ _,?_⟩,?_⟩,?_⟩
 ·intro a d b c;simp only [aS,di] at d c;obtain⟨i,_,rfl⟩:=d;obtain⟨j,_,rfl⟩:=c;omega
 ·intro a d b c;simp only [cV,aS,di] at d c;obtain⟨i,_,rfl⟩:=d;rcases c with ⟨j,_,rfl⟩ | ⟨j,_,rfl⟩ <;> omega
 ·intro a d b c;simp only [cV,aS,di] at d c;rcases c with ⟨j,_,rfl⟩ | ⟨j,_,rfl⟩ | ⟨j,_,rfl⟩ <;> omega
theorem ad4(S:Lc)(m:Nat)(g:List (Gl×Fd))(f:Fd)(b t:List Int){z:Nat}{N:List Nat}(d:∀ n,(n<7\/(1006<=n/\n<1017+(b++t).length))->N.contains n=true):((bz S m g f b t z).all fun p=>kg N p.2)=true:=by
 have h:bR N 2 (eV b t)=true:=by
  unfold eV;split
  ·rfl
  ·exact d _ (.inr (by simp;omega))
 have i:((gS (b++t)).all fun p=>kg N p.2)=true:=by unfold gS;rw [vk];simp only [ax];refine⟨by simp [kg],?_⟩;split <;> simp [kg,iV,bR]
 have j:((iF m).all fun p=>kg N p.2)=true:=by simp [iF,kg]
 unfold bz;rw [vk,vk,vk,vk,i,j];have k:(g.map fN).all (fun e=>bR N 1 e.2)=true:=by simp [fN,bR]
 have l:(S.c.wd.map hf).all (fun e=>bR N 1 e.2)=true:=by simp [hf,bR]
 have c:∀ n,n<7->N.contains n=true:=fun n o=>d n (.inl o)
 have a:∀ n,1006<=n->n<1017->N.contains n=true:=fun n q r=>d n (.inr ⟨q,by omega⟩)
 simp only [bx,bk,cC,bW,mB,dX,gx,jG,AU,kg,iV,bR,h,k,l,c 0 (by omega),c 1 (by omega),c 2 (by omega),c 3 (by omega),a 1009 (by omega) (by omega),a 1010 (by omega) (by omega),a 1012 (by omega) (by omega),a 1013 (by omega) (by omega),a 1014 (by omega) (by omega),Hz,Bool.and_self]
theorem FB(S:Lc)(m:Nat)(a:List (Gl×Fd))(f:Fd)(b t:List Int){z:Nat}:((bz S m a f b t z).all fun p=>kg (ai (bz S m a f b t z)) p.2)=true :=
 ad4 S m a f b t fun n c=>od (sG.2 (c.elim .inl fun h=>.inr (.inr h)))
theorem FC(S:Lc)(m:Nat)(e:List (Gl×Fd))(f:Fd)(d t:List Int){z:Nat}:∀ p∈bz S m e f d t z,jt p.2:=by
 have g:(eV d t).one=true:=by unfold eV;split <;> rfl
 intro p b;unfold bz at b;simp only [cV] at b;rcases b with b | b | b | b | b
 ·simp only [bx,bk,dX,gx,b_,n',oa] at b;rcases b with rfl | rfl | rfl | rfl <;> simp [jt,cC,bW,AV.one,D.one,dT,dI,dB,dS]
 ·simp only [b_,n',oa] at b;rcases b with rfl | rfl | rfl <;> simp [jt,AV.one,D.one,dT,dI,dB,dS]
 ·obtain⟨k,_,rfl⟩:=aS.1 b;trivial
 ·simp only [b_,n',oa] at b;rcases b with rfl | rfl | rfl | rfl | rfl | rfl | rfl | rfl | rfl | rfl | rfl <;> first | (simp [jt,AV.one,D.one,dT,dI,dB,dS,mB];done) | (simp only [jt,iM];rintro c rfl;exact g)
 ·unfold gS at b;rcases cV.1 b with b | b
  ·obtain⟨k,_,rfl⟩:=aS.1 b;trivial
  ·split at b
   ·cases b
   ·rw [iM.1 b];intro c h;obtain⟨a,_,rfl⟩:=aS.1 h;rfl
theorem MH{B:Nat}{s c:List (Nat×Bool×AV)}(S:Lc)(m:Nat)(d:m<=500)(a:List (Gl×Fd))(f:Fd)(b t:List Int)(e:jQ [] [] ⟨s,bz S m a f b t,[]⟩ (bz S m a f b t) c):Sub B ⟨s,bz S m a f b t,[]⟩ ⟨c,bz S m a f b t,[]⟩ :=
 ad3 (zO S m d a f b t) (FB ..) (FC S m a f b t) e
theorem ad5{B:Nat}{s c:List (Nat×Bool×AV)}{h d:List (Nat×HO)}(S:Lc)(m:Nat)(g:m<=500)(a:List (Gl×Fd))(f:Fd)(b t:List Int)(e:h=bz S m a f b t)(i:d=bz S m a f b t)(j:jQ [] [] ⟨s,bz S m a f b t,[]⟩ (bz S m a f b t) c):Sub B ⟨s,h,[]⟩ ⟨c,d,[]⟩:=by subst e;subst i;exact MH S m g a f b t j
def ad6(S:Lc)(m:Nat)(F:Gl->Fd)(d:List (Gl×Fd)->Prop)(done ps:List Pt)(g:Cx)(l:List AV)(h:List (Nat×HO))(K:bK->List (Nat×HO)->Prop):Prop :=
 ∃ (b:List (Gl×Fd)) (f:Fd) (a t:List Int) (i:Int),l=[.d (dI done.length),.d (dI i),.d (.fn (.yield g.l) [] []),.ptr 1010 0,.ptr 1012 0,.ptr 1013 0,.ptr 1009 0,.ptr 1014 0]/\h=bz S m b f a t/\d b/\(a.length<=done.length/\a.length+t.length<=4)/\(0<=i/\i<=1000) /\(∀ e∈dU (c_ S.c) S.x.un ps i a,∀ (b:List (Gl×Fd)) (f:Fd) (t:List Int) (j:Bool->List (Nat×HO)->Prop),d b->e.length+t.length<=4->(∀ c,d c->j true (bz S m c (jz F S.x S.i S.r f e) e t))->g.Y [eV e t] (bz S m b f e t) j) /\∀ c k,d c->a.length+k.length<=4->K (.ret (.d (dB true))) (bz S m c ((dU (c_ S.c) S.x.un ps i a).foldl (jz F S.x S.i S.r) f) a k)
theorem MI(S:Lc)(m:Nat)(a:List (Gl×Fd))(f:Fd)(b t:List Int){n:Nat}(h:n<7\/(1006<=n/\n<1017)):(∃ x,(n,x)∈bz S m a f b t)=True:=fi (by have c:n∈ai (bz S m a f b t):=sG.2 (h.elim .inl fun h=>.inr (.inr ⟨h.1,by omega⟩));obtain⟨p,d,e⟩:=aS.1 c;exact⟨p.2,by rw [<- e];exact d⟩)
theorem MJ{a:Int}:∀ {n j:Nat},j<n->a+j∈dM a n
 | n+1,0,_=>by rw [dM];simp
 | n+1,j+1,h=>by rw [dM];refine cD _ ?_;have:=MJ (a:=a+1) (n:=n) (j:=j) (by omega);rwa [show a+((j+1:Nat):Int)=a+1+j by omega]
theorem MK(a:Lc)(g:Nat)(b:g<=500)(F:Gl->Fd)(N:List (Gl×Fd)->Prop)(h4:a.r.ps.length<=4)(hu:0<=a.x.un/\a.x.un<=1000):∀ (ps done:List Pt),a.r.ps=done++ps->cW Tryz.prog 233 (ad6 a g F N done ps)
 | [],done,x=>by
  refine((aR Kx).qp aH).mono fun cx b7 h K z=>?_
  obtain⟨p,u,c,l,i,rfl,rfl,s,⟨b8,r⟩,hi,k,d⟩:=z;have a1:a.r.ps.length=done.length:=by rw [x];simp
  have A:IntKind.i64.wrap ((a.r.ps.length:Int)-(done.length:Int))=0:=by rw [a1,Int.sub_self];rfl
  simp [a233,bz,bx,bk,cp b,A];by_cases I:i=a.x.un
  ·have O:dU (c_ a.c) a.x.un [] i c=[c]:=by unfold dU;rw [aj I]
   rw [O] at k d;refine aK [] ?_;simp [I,cp b];refine k c (iM.2 rfl) p u l _ s r fun v b9=>?_
   simp;exact d v l b9 r
  ·have O:dU (c_ a.c) a.x.un [] i c=[]:=by unfold dU;rw [ab I]
   rw [O] at d;refine aK [] ?_;simp [I,cp b];exact d p l s r
 | q::ps,done,x=>by
  refine((aR Kx).qp aH).mono fun cx b7 h K z=>?_
  obtain⟨p,u,c,l,i,rfl,rfl,s,⟨b8,r⟩,hi,k,d⟩:=z;have a1:a.r.ps.length=done.length+(ps.length+1):=by rw [x];simp
  have A:IntKind.i64.wrap ((a.r.ps.length:Int)-(done.length:Int))=(ps.length:Int)+1:=by rw [show (a.r.ps.length:Int)-(done.length:Int)=(ps.length:Int)+1 by omega];exact wrap64 (by omega)
  have P:IntKind.i64.wrap (a.x.un-i)=a.x.un-i:=wrap64 (by omega);have a2:IntKind.i64.wrap ((done.length:Int)+1)=(done.length:Int)+1:=wrap64 (by omega);have b0:IntKind.i64.wrap (i+1)=i+1:=wrap64 (by omega);have Q:¬ (ps.length:Int)+1=0:=by omega
  have b1:=MK a g b F N h4 hu ps (done++[q]) (by rw [x];simp);have w:done.length<a.r.ps.length:=by omega
  have B:a.r.ps[done.length]=q:=by
   have:a.r.ps[done.length]?=some q:=by rw [x];simp
   rw [aI w] at this;exact tc this
  have b2:dU (c_ a.c) a.x.un (q::ps) i c=if a.x.un-i<(ps.length+1:Nat) then [] else if ¬ q.tx=[] then (if q.tx∈c_ a.c i then dU (c_ a.c) a.x.un ps (i+1) c else []) else (dM (i+1) (a.x.un-ps.length-i).toNat).flatMap fun g=>dU (c_ a.c) a.x.un ps g (c++[g]):=by rw [dU]
  simp only [a233,YtloccchppmffpaaGreatDoor.T,YtloccchppmffpaaGreatDoor.Y,YtloccchppmffpaaGreatDoor.F,YtloccchppmffpaaGreatDoor.L,YtloccchppmffpaaGreatDoor.N,YtloccchppmffpaaGreatDoor.I,YtloccchppmffpaaGreatDoor.S,YtloccchppmffpaaGreatDoor.A,YtloccchppmffpaaGreatDoor.B,YtloccchppmffpaaGreatDoor.V,YtloccchppmffpaaGreatDoor.O,YtloccchppmffpaaGreatDoor.G,YtloccchppmffpaaGreatDoor.Q,YtloccchppmffpaaGreatDoor.C,YtloccchppmffpaaGreatDoor.J,YtloccchppmffpaaGreatDoor.M,YtloccchppmffpaaGreatDoor.K];generalize b3:AC.region none [⟨some 74,none,(AK.op (ei.load 1 false (.tmp 5)))⟩,⟨some 75,none,(AK.op (ei.ak (.tmp 13)))⟩,⟨some 76,none,(AK.op (ei.ext (.lY 1) [(.tmp 75)]))⟩,⟨some 77,none,(AK.op (ei.ext (.pushB 1 8) [(.tmp 74),(.tmp 76)]))⟩,⟨none,none,(AK.op (ei.store 1 (.tmp 5) (.tmp 77)))⟩]=R;have c0:R=Fx:=b3.symm;clear b3;by_cases b4:a.x.un-i<(ps.length+1:Nat)
  ·rw [b2,aj b4] at d;have J:a.x.un-i<(ps.length:Int)+1:=by omega
   simp [bz,bx,bk,cp b,cO b,A,Q,P,J];exact d p l s r
  rw [b2,ab b4] at d k;have J:¬ a.x.un-i<(ps.length:Int)+1:=by omega
  by_cases C:q.tx=[]
  ·rw [ab (by simpa using C)] at d k;simp [bz,bx,bk,cp b,cO b,A,Q,P,J,w,B,bA,C,dT,b0];obtain⟨n,d7⟩:∃ n:Nat,(n:Int)=a.x.un-ps.length-i:=⟨(a.x.un-ps.length-i).toNat,by omega⟩;have c1:(a.x.un-ps.length-i).toNat=n:=by omega
   rw [c1] at d k;have b5:IntKind.i64.wrap (a.x.un-((ps.length:Int)+1))=a.x.un-((ps.length:Int)+1):=wrap64 (by omega);have b6:IntKind.i64.wrap (a.x.un-((ps.length:Int)+1)+1)=a.x.un-ps.length:=by rw [show a.x.un-((ps.length:Int)+1)+1=a.x.un-ps.length by omega];exact wrap64 (by omega)
   generalize z:((dM (i+1) n).flatMap fun g=>dU (c_ a.c) a.x.un ps g (c++[g])).foldl (jz F a.x a.i a.r) u=c2 at d;refine jx (Nat×List (Gl×Fd)×Fd×List Int) (fun y=>⟨[(13,true,.d (dI (i+1+y.1))),(0,true,.d (dI done.length)),(1,true,.d (dI i)),(2,true,.d (.fn (.yield cx.l) [] [])),(3,true,.ptr 1010 0),(4,true,.ptr 1012 0),(5,true,.ptr 1013 0),(6,true,.ptr 1009 0),(7,true,.ptr 1014 0),(12,true,.d (dI ((ps.length:Int)+1)))],bz a g y.2.1 y.2.2.1 c y.2.2.2,[]⟩)
    (fun y=>y.1<=n/\N y.2.1/\c.length+y.2.2.2.length<=4/\((dM (i+1+y.1) (n-y.1)).flatMap fun g=>dU (c_ a.c) a.x.un ps g (c++[g])).foldl (jz F a.x a.i a.r) y.2.2.1=c2) (fun y=>n-y.1) (0,p,u,l) ⟨bp _,s,r,by simpa using z⟩ (MH a g b p u c l (by simp [MI])) (fun y d0=>?_)
   obtain⟨j,T,U,V⟩:=y;obtain⟨d1,W,X,D⟩:=d0;simp only at d1 W X D;by_cases d2:j<n
   ·have Y:i+1+(j:Int)<=a.x.un-ps.length:=by omega
    have d8:IntKind.i64.wrap (i+1+(j:Int))=i+1+j:=wrap64 (by omega);have E:IntKind.i64.wrap (i+1+(j:Int)+1)=i+1+((j+1:Nat):Int):=by rw [show i+1+(j:Int)+1=i+1+((j+1:Nat):Int) by omega];exact wrap64 (by omega)
    have d3:i+1+(j:Int)∈dM (i+1) n:=MJ d2;rw [show n-j=(n-(j+1))+1 by omega,dM,ll,Hv] at D;simp [bz,bx,bk,cp b,cO b,b5,b6,Y];rw [c0];refine ad1 (S:=a) (m:=g) (kn:=T) (f:=U) (pre:=c) (t:=V) (a0:=i+1+j) b (by simp) (by simp) (by omega) X ?_;simp;refine aK [] ?_;simp [bz,bx,bk,cp b,cO b,mB,a2];refine aV _ b1 ?_;refine⟨T,U,c++[i+1+j],V.tail,i+1+j,by simp,by simp [bz,bx,bk,cp b,cO b,mB],W,⟨by simp;omega,by simp;omega⟩,by omega,fun e he=>k e (uX.2 ⟨_,d3,he⟩),fun v o Z h2=>?_⟩;have d4:IntKind.i64.wrap (c.length:Int)=c.length:=wrap64 (by omega);have d5:c.length+1+o.length=c.length+(o.length+1):=by omega
    have d6:fy (1016+(c.length+(o.length+1))) 0 1 c.length (c.length+(o.length+1))=.aE (1016+(c.length+(o.length+1))) 0 1 c.length (c.length+(o.length+1)):=by unfold fy;rw [ab (by omega)]
    simp [bz,bx,bk,cp b,cO b,eV,d4,d5,d6,E];refine⟨by omega,j+1,v,_,(i+1+j)::o,⟨by omega,Z,by simp at h2 |-;omega,by rw [show i+1+((j+1:Nat):Int)=i+1+(j:Int)+1 by omega];exact D⟩,by omega,?_⟩;exact ad5 a g b v ((dU (c_ a.c) a.x.un ps (i+1+j) (c++[i+1+(j:Int)])).foldl (jz F a.x a.i a.r) U) c ((i+1+j)::o) (by simp [bz,bx,bk,cp b,cO b,eV,mB,dT]) (by simp [bz,bx,bk,cp b,cO b,eV,mB,dT]) (by simp [MI])
   ·have e9:j=n:=by omega
    subst e9;have Y:¬ i+1+(j:Int)<=a.x.un-ps.length:=by omega
    simp [dM] at D;subst D;simp [bz,bx,bk,cp b,cO b,b5,b6,Y];exact d T V W X
  ·have e1:=nS C;rw [aj C] at d k;simp [bz,bx,bk,cp b,cO b,A,Q,P,J,w,B,bA,C,e1,dT];have G:=Fy i a.c.wd;cases L:a.c.wd.find? (fun e=>e.1 == i) with
   | none =>
    rw [L] at G;have E:c_ a.c i=[]:=by simp [c_,L]
    rw [E,ab (by simp)] at d;refine oL [.ret (dB false)] [] ?_;simp [cp b,G,w,B,bA,cC];exact⟨ad2 q.tx,rfl,d p l s r⟩
   | some e =>
    rw [L] at G;have E:c_ a.c i=e.2:=by simp [c_,L]
    rw [E] at d k;by_cases M:q.tx∈e.2
    ·rw [aj M] at d k;have H:=sb e.2 q.tx;rw [tf M] at H;refine oL [.ret (dB true)] [] ?_;simp [cp b,G,w,B,bA,cC,mB,a2,b0];refine⟨H,rfl,?_⟩;refine aV _ b1 ?_;refine⟨p,u,c,l,i+1,by simp,rfl,s,⟨by simp;omega,r⟩,by omega,k,fun v o Z h2=>?_⟩;simp;exact d v o Z h2
    ·rw [ab M] at d;have H:=sb e.2 q.tx;rw [xM M] at H;refine oL [.ret (dB false)] [] ?_;simp [cp b,G,w,B,bA,cC];exact⟨H,rfl,d p l s r⟩
end
section
attribute [local simp] cK cI cJ cG cH cd bS cA gP mq mr mu zF zG zH zC zD zE qL qJ qK nE nF nG zI zJ
theorem FD{m j:Nat}{L:List (Nat×HO)}(a:j<m):AL.look (iF m++L) (100+j)=some (.obj 0):=by
 have b:∀ l:List Nat,j∈l->AL.look (l.map (fun j=>(100+j,HO.obj 0))++L) (100+j)=some (.obj 0):=fun l=>by
  induction l with
  | nil=>intro h;cases h
  | cons i l c =>
   intro h;rw [bo,dX,AL.look];by_cases e:100+j=100+i
   ·rw [aj e]
   ·rw [ab e];exact c ((b_.1 h).resolve_left fun q=>e (by rw [q]))
 exact b _ (di.2 a)
theorem FE{l:List Int}(d:l.length<=4){p:Nat×HO}(b:p∈gS l):p.1<2000:=by have a:p.1∈ai (gS l):=aS.2 ⟨p,b,rfl⟩;rw [Fz] at a;obtain⟨j,c,e⟩:=aS.1 a;have:=di.1 c;omega
theorem fw{l:List Int}{L:List (Nat×HO)}{n:Nat}(b:l.length<=4)(h:2000<=n):AL.look (gS l++L) n=AL.look L n:=by
 have c:∀ H:List (Nat×HO),(∀ p∈H,p.1<2000)->AL.look (H++L) n=AL.look L n:=fun H=>by
  induction H with
  | nil=>intro _;rfl
  | cons p H d =>intro a;have:=a p (dj ..);rw [dX,AL.look,ab (by omega)];exact d fun q e=>a q (cD _ e)
 refine c _ fun p f=>?_
 exact FE b f
theorem fY{l:List Int}{L:List (Nat×HO)}{n:Nat}{o:HO}(b:l.length<=4)(h:2000<=n):aM (gS l++L) n o=gS l++aM L n o:=by
 have c:∀ H:List (Nat×HO),(∀ p∈H,p.1<2000)->aM (H++L) n o=H++aM L n o:=fun H=>by
  induction H with
  | nil=>intro _;rfl
  | cons p H d =>intro a;have:=a p (dj ..);rw [dX,aM,ab (by omega),d fun q e=>a q (cD _ e)];rfl
 refine c _ fun p f=>?_
 exact FE b f
theorem fZ{l:List Int}{r:List (Nat×HO)}{o:HO}(b:l.length<=4):newName (gS l++(2000,o)::r)=newName ((2000,o)::r):=by
 have c:∀ H:List (Nat×HO),(∀ p∈H,p.1<2000)->newName (H++(2000,o)::r)=newName ((2000,o)::r):=fun H=>by
  induction H with
  | nil=>intro _;rfl
  | cons p H d =>intro a;have:=a p (dj ..);rw [dX,newName,d fun q e=>a q (cD _ e)];simp only [newName];omega
 refine c _ fun p f=>?_
 exact FE b f
theorem ad7{l:List Int}{L:List (Nat×HO)}(c:¬ l.length=0):AL.look (gS l++L) (1016+l.length)=some (.box true (l.map fun a=>.d (dI a))):=by
 have d:∀ H:List Nat,(∀ k∈H,k<l.length-1)->AL.look ((H.map (fun k=>(1017+k,HO.dead))++[(1016+l.length,HO.box true (l.map fun a=>.d (dI a)))])++L) (1016+l.length)=some (.box true (l.map fun a=>.d (dI a))):=fun H=>by
  induction H with
  | nil=>intro _;simp [AL.look]
  | cons k H e =>intro b;have:=b k (dj ..);rw [bo,dX,dX,AL.look,ab (by omega)];exact e fun q f=>b q (cD _ f)
 unfold gS;rw [ab c];exact d _ fun k g=>di.1 g
def kZ(m:Nat):List DE:=(List.range m).reverse.map fun j=>DE.mark (100+j)
def il(c:fC)(x:Gl)(m:Nat)(a:List (Gl×Fd))(f:Fd):List (Nat×HO):=bx c a f++([(4,.box false [.ptr 0 0]),(5,.box true [.d (dI x.cat),.d (dI x.fr),.d (dI x.un)]),(6,.box false [.ptr 3 0])]++(iF m++[(1006,.dead)]))
theorem FF{c:fC}{x:Gl}{m:Nat}{a:List (Gl×Fd)}{f:Fd}{n:Nat}:n∈ai (il c x m a f)↔n<7\/(100<=n/\n<100+m)\/n=1006:=by
 have b:ai (il c x m a f)=List.range 7++((List.range m).map (100+·)++[1006]):=by simp [il,bx,bk,ai,List.range,List.range.loop,iF,vh]
 rw [b];simp only [cV,aS,di,iM];constructor
 ·rintro(h | ⟨j,h,rfl⟩ | h) <;> omega
 ·rintro(h | h | h)
  ·exact .inl h
  ·exact .inr (.inl ⟨n-100,by omega,by omega⟩)
  ·exact .inr (.inr h)
theorem FG(c:fC)(x:Gl)(m:Nat)(a:List (Gl×Fd))(f:Fd){n:Nat}(h:n<7):(∃ z,(n,z)∈il c x m a f)=True:=fi (by have b:n∈ai (il c x m a f):=FF.2 (.inl h);obtain⟨p,d,e⟩:=aS.1 b;exact⟨p.2,by rw [<- e];exact d⟩)
theorem FH{c:fC}{x:Gl}{m:Nat}{a:List (Gl×Fd)}{f:Fd}{n:Nat}(h:n<7\/(100<=n/\n<100+m)\/n=1006):(ai (il c x m a f)).contains n=true:=od (FF.2 h)
theorem ML{c:fC}{x:Gl}{m:Nat}{t:List (Gl×Fd)}{f:Fd}{s B:List (Nat×Bool×AV)}{i:List (Nat×HO)}{d:List DE}(r:Nat->Nat)(o:List (Nat×Nat))(u:∀ n,aw o n=r n)(k:∀ n,n<7\/n=1006->r n=n)(D:∀ a b,100<=a->a<100+m->100<=b->b<100+m->r a=r b->a=b)(v:∀ a,100<=a->a<100+m->7<=r a/\r a≠1006)(E:AL.look i 0=some (cC c))(F:AL.look i 1=some (.aA (t.map fN)))(G:AL.look i 2=some (.aA (c.wd.map hf)))(I:AL.look i 3=some (bW f))(J:AL.look i 4=some (.box false [.ptr 0 0]))(K:AL.look i 5=some (.box true [.d (dI x.cat),.d (dI x.fr),.d (dI x.un)]))(M:AL.look i 6=some (.box false [.ptr 3 0]))(em:∀ j,j<m->AL.look i (r (100+j))=some (.obj 0))(N:jQ o [] ⟨s,i,d⟩ (il c x m t f) B)(O:ma o [] (il c x m t f) d (kZ m)):Sub 4 ⟨s,i,d⟩ ⟨B,il c x m t f,kZ m⟩:=by
 have q:∀ n,n<7->aw o n=n:=fun n w=>by rw [u,k n (.inl w)]
 refine⟨o,[],?_,N,?_,?_,O⟩
 ·simp only [bQ];intro a g b h;rw [FF] at g h;by_cases e:a=b
  ·subst e;simp
  ·have:r a≠r b:=fun l=>by
    rcases g with g | g | g <;> rcases h with h | h | h
    ·rw [k a (.inl g),k b (.inl h)] at l;exact e l
    ·have:=(v b h.1 h.2).1;rw [k a (.inl g)] at l;omega
    ·rw [k a (.inl g),k b (.inr h)] at l;exact e l
    ·have:=(v a g.1 g.2).1;rw [k b (.inl h)] at l;omega
    ·exact e (D a b g.1 g.2 h.1 h.2 l)
    ·have:=(v a g.1 g.2).2;rw [k b (.inr h)] at l;omega
    ·rw [k a (.inr g),k b (.inl h)] at l;exact e l
    ·have:=(v b h.1 h.2).2;rw [k a (.inr g)] at l;omega
    ·omega
   rw [u,u];simp [this,e]
 ·have P:∀ L:List (Nat×HO),(∀ p∈L,∃ j,j<m/\p=(100+j,HO.obj 0))->fX o [] ⟨s,i,d⟩ (il c x m t f) (L++[(1006,HO.dead)]):=fun L=>by
   induction L with
   | nil=>intro _;exact⟨trivial,trivial⟩
   | cons p L Q =>intro C;obtain⟨j,y,rfl⟩:=C p (dj ..);exact⟨⟨rfl,by rw [u];exact em j y⟩,Q fun p A=>C p (cD _ A)⟩
  have R:=P (iF m) (fun p A=>by obtain⟨j,y,rfl⟩:=aS.1 A;exact⟨j,di.1 y,rfl⟩);have S:∀ H:List (Nat×HO),H=il c x m t f->fX o [] ⟨s,i,d⟩ H (iF m++[(1006,HO.dead)])->fX o [] ⟨s,i,d⟩ H (il c x m t f):=fun H T U=>by
   have V:∀ n,n<7->(∃ z,(n,z)∈H)=True:=fun n w=>by rw [T];exact FG c x m t f w
   unfold il;have W:∀ n,n<7->(bc o n).getD n=n:=q;simp [bx,bk,W,E,F,G,I,J,K,M,cC,bW,V];exact U
  exact S _ rfl R
 ·simp only [bQ,di];intro n w;rw [q n (by omega),FH (.inl (by omega))];simp [bc]
theorem FI{c:fC}{x:Gl}{M:Nat}{d:List (Gl×Fd)}{f:Fd}{a:List (Nat×Nat)}:∀ {m:Nat},m<=M->(∀ j,j<m->aw a (100+j)=100+j)->ma a [] (il c x M d f) (kZ m) (kZ m)
 | 0,_,_=>trivial
 | m+1,h,b=>by unfold kZ;rw [vg,Ho];refine⟨⟨(b m (by omega)).symm,?_⟩,FI (by omega) fun j e=>b j (by omega)⟩;unfold bg;rw [FH (.inr (.inl ⟨by omega,by omega⟩))];rfl
theorem MM{P:Program}{C:FuncId->List D->Out->Prop}{b:AF}{K:bK->List (Nat×HO)->Prop}{s:List (Nat×Bool×AV)}:∀ (m:Nat){h:List (Nat×HO)},(∀ j,j<m->AL.look h (100+j)=some (.obj 0))->(∀ a,(∀ n,n<100->AL.look a n=AL.look h n)->gn P C b K none [] s a)->gn P C b K none (kZ m) s h
 | 0,h,_,c=>c h fun _ _=>rfl
 | m+1,h,d,c=>by
  unfold kZ;rw [vg,Ho];show gn P C b K none (.mark (100+m)::kZ m) s h;rw [JD];refine⟨d m (by omega),MM m (fun j g=>?_) fun a e=>c a fun n f=>?_⟩
  ·rw [bh,ab (by omega)];exact d j (by omega)
  ·rw [e n f,bh,ab (by omega)]
theorem MN{N:Nat}:∀ {h:List (Nat×HO)},(∀ n∈ai h,n<N)->newName h<=N
 | [],_=>bp _
 | (m,o)::r,a=>by
  have c:=a m (dj ..);have d:=MN (h:=r) fun n b=>a n (cD _ b)
  simp only [newName];omega
def cU(S:Lc)(m:Nat)(b:List (Gl×Fd))(f:Fd)(a t:List Int)(z:Nat)(L:List (Nat×HO)):List (Nat×HO):=bx S.c b f++([(4,.box false [.ptr 0 0]),(5,.box true [.d (dI S.x.cat),.d (dI S.x.fr),.d (dI S.x.un)]),(6,.box false [.ptr 3 0])]++(iF m++([(1006,.dead),(1007,.box false [.d (dI S.i)]),(1008,.box true [.d (dT S.r.cat),.d (dI S.r.cn),.d (.sl 3 (S.r.ps.map bA)),.d (.sl 2 (S.r.gs.map iC)),.d (dI S.r.cost)]),
 (1009,.box false [.ptr 0 0]),(1010,.box false [.d (.sl 3 (S.r.ps.map bA))]),(1011,.box false [.d (dI S.x.fr)]),(1012,.box false [.d (dI S.x.un)]),(1013,.box false [eV a t]),(1014,.box false [mB]),(1015,.obj 0),(1016,.obj z)]++(gS (a++t)++L))))
theorem mC(S:Lc)(m:Nat)(a:List (Gl×Fd))(f:Fd)(b t:List Int)(z:Nat)(L:List (Nat×HO)):cU S m a f b t z L=bz S m a f b t z++L:=by unfold cU bz;simp
theorem MO{a b:List (Nat×HO)}{n:Nat}{o:HO}:AL.look a n=some o->AL.look (a++b) n=some o:=by
 induction a with
 | nil=>intro h;cases h
 | cons p a c =>
  intro h;rw [dX];simp only [AL.look] at h |-;split at h
  ·rename_i e;rw [aj e];exact h
  ·rename_i e;rw [ab e];exact c h
theorem FJ{N:List Nat}{i:Nat->Bool}{m:Nat->Option Nat}{j:Nat->Nat}(e:∀ n,N.contains n=true->i n=true/\j n=n):∀ (k:Nat) (v:AV),bR N k v=true->aq j m i (k+1) v v
 | 0,v,h=>by
  cases v <;> (try cases h)
  ·unfold aq;exact aB.refl _
  ·unfold aq;exact⟨(e _ h).2.symm,rfl,(e _ h).1⟩
  ·unfold aq;exact⟨(e _ h).2.symm,rfl,rfl,rfl,rfl,(e _ h).1⟩
  ·unfold aq;exact⟨(e _ h).2.symm,(e _ h).1⟩
  ·unfold aq;rfl
 | k+1,v,h=>by
  have g:∀ l:List AV,l.all (bR N k)=true->aq.ba j m i (k+1) l l:=fun l=>by
   induction l with
   | nil=>intro _;unfold aq.ba;trivial
   | cons a l p =>intro g;simp only [jG,ax] at g;unfold aq.ba;exact⟨FJ e k a g.1,p g.2⟩
  cases v with
  | fn f a b =>simp only [bR,ax] at h;unfold aq;exact⟨rfl,g a h.1,g b h.2⟩
  | d x=>unfold aq;exact aB.refl _
  | ptr n o=>unfold aq;exact⟨(e _ h).2.symm,rfl,(e _ h).1⟩
  | aE n o z l c=>unfold aq;exact⟨(e _ h).2.symm,rfl,rfl,rfl,rfl,(e _ h).1⟩
  | mp n=>unfold aq;exact⟨(e _ h).2.symm,(e _ h).1⟩
  | e0 z=>unfold aq;rfl
  | own r z s=>cases h
  | spare r z n=>cases h
  | agg q=>cases h
  | af q=>cases h
theorem FK{N:List Nat}{c:Nat->Bool}{f:Nat->Option Nat}{d:Nat->Nat}(e:∀ n,N.contains n=true->c n=true/\d n=n)(k:Nat):∀ l:List AV,l.all (bR N k)=true->aq.ba d f c (k+1) l l
 | [],_=>by unfold aq.ba;trivial
 | a::l,b=>by simp only [jG,ax] at b;unfold aq.ba;exact⟨FJ e k a b.1,FK e k l b.2⟩
theorem FL{e:St}{a:List (Nat×HO)}{N:List Nat}{b:List (Nat×Nat)}(i:∀ n,N.contains n=true->(ai a).contains n=true/\aw b n=n):∀ {l:List (Nat×HO)},(∀ p∈l,aw b p.1=p.1/\AL.look e.h p.1=some p.2)->(l.all fun p=>kg N p.2)=true->(∀ p∈l,jt p.2)->fX b [] e a l
 | [],_,_,_=>trivial
 | (n,o)::r,q,d,t=>by
  simp only [jG,ax] at d;have u:∀ k,N.contains k=true->bg [] a k=true/\aw b k=k:=fun k v=>⟨by unfold bg;rw [(i k v).1];rfl,(i k v).2⟩
  obtain⟨f,g⟩:=q (n,o) (dj ..);refine⟨?_,FL i (fun p j=>q p (cD _ j)) d.2 fun p j=>t p (cD _ j)⟩;simp only at f g;cases o with
  | obj s=>exact⟨rfl,by rw [f];exact g⟩
  | dead=>trivial
  | row=>cases d.1
  | box y h =>
   refine⟨rfl,?_⟩;rw [f];show match AL.look e.h n with
    | some (.box _ z)=>aq.ba (aw b) (cj [] a) (bg [] a) 3 z h/\∀ c∈h,c.one=true
    | _=>False
   rw [g];exact⟨FK u 2 h d.1,t (n,.box y h) (dj ..)⟩
  | aA m =>
   refine⟨rfl,?_⟩;rw [f];show match AL.look e.h n with
    | some (.aA w)=>w.map (·.1)=m.map (·.1)/\aq (aw b) (cj [] a) (bg [] a) 3 (.af (w.map (·.2))) (.af (m.map (·.2)))
    | _=>False
   rw [g];refine⟨rfl,?_⟩;unfold aq;have x:=d.1;simp only [kg,iV] at x;exact FK u 1 (m.map (·.2)) (by rw [Hq];exact x)
theorem uH{B:Nat}{s x:List (Nat×Bool×AV)}(S:Lc){m:Nat}(D:m<=500)(d:List (Gl×Fd))(f:Fd)(c t:List Int)(O:(c++t).length<=4)(z:Nat)(i:List (Nat×Nat))(L o:List (Nat×HO)){u h:List (Nat×HO)}(E:u=cU S m d f c t z o)(e:h=cU S m d f c t z L)(P:B<=2000)(F:∀ n∈ai o,2000<=n)(l:∀ n,n<2000->aw i n=n)(v:∀ a∈ai L,2000<=a/\2000<=aw i a/\∀ b∈ai L,aw i a=aw i b->a=b)(G:fX i [] ⟨s,u,[]⟩ h L)(H:jQ i [] ⟨s,u,[]⟩ (cU S m d f c t z L) x):Sub B ⟨s,u,[]⟩ ⟨x,h,[]⟩:=by
 subst E;subst e;have y:∀ n,n∈ai (bz S m d f c t z)->(ai (cU S m d f c t z L)).contains n=true:=fun n j=>od (by rw [mC,ai,dc];exact hX _ j)
 have w:∀ n,n∈ai (bz S m d f c t z)->n<2000:=fun n j=>by have:=sG.1 j;omega
 have A:∀ n,n∈ai (cU S m d f c t z L)->n<2000\/n∈ai L:=fun n j=>by rw [mC,ai,dc,cV] at j;exact j.imp (w n) id
 refine⟨i,[],?_,H,?_,?_,trivial⟩
 ·simp only [bQ];intro a I b J;by_cases q:a=b
  ·subst q;simp
  ·have:aw i a≠aw i b:=fun r=>by
    rcases A a I with k | k <;> rcases A b J with g | g
    ·rw [l a k,l b g] at r;exact q r
    ·have:=(v b g).2.1;rw [l a k] at r;omega
    ·have:=(v a k).2.1;rw [l b g] at r;omega
    ·exact q ((v a k).2.2 b g r)
   rw [gy];exact .inl (bne_iff_ne.2 this)
 ·have k:fX i [] ⟨s,cU S m d f c t z o,[]⟩ (cU S m d f c t z L) (bz S m d f c t z++L):=wU (FL (N:=ai (bz S m d f c t z)) (fun n j=>⟨y n (vl j),l n (w n (vl j))⟩) (fun p C=>⟨l _ (w _ (aS.2 ⟨p,C,rfl⟩)),by show AL.look (cU S m d f c t z o) p.1=some p.2;rw [mC];exact MO (zM (zO S m D d f c t) p C)⟩) (FB S m d f c t) (FC S m d f c t)) G
  rw [<- mC] at k;exact k
 ·rw [bQ];intro n j;have K:n<2000:=by have:=di.1 j;omega
  cases M:(ai (cU S m d f c t z o)).contains n with
  | false=>rfl
  | true =>
   have g:=vl M;rw [mC,ai,dc,cV] at g;have:(ai (cU S m d f c t z L)).contains n=true:=by
    rcases g with g | g
    ·exact y n g
    ·have:=F n g;omega
   show (!true||(aw i n == n&&((bc [] n).isNone&&(ai (cU S m d f c t z L)).contains n)))=true;rw [this,l n K];simp [bc]
theorem ad8(S:Lc)(m:Nat)(b:List (Gl×Fd))(f:Fd)(a t:List Int)(z:Nat)(L:List (Nat×HO))(e:List (Nat×Nat))(g:(a++t).length<=4)(h:∀ n,n<2000->aw e n=n):aq (aw e) (cj [] (cU S m b f a t z L)) (bg [] (cU S m b f a t z L)) 3 (eV a t) (eV a t)=True:=fi (by
 have i:∀ n,(1006<=n/\n<1017+(a++t).length)->(ai (cU S m b f a t z L)).contains n=true:=fun n c=>od (by rw [mC,ai,dc];exact hX _ (sG.2 (.inr (.inr c))))
 refine FJ (N:=(ai (cU S m b f a t z L)).filter (· < 2000)) (fun n c=>?_) 2 _ ?_
 ·have d:=vl c;rw [km] at d;exact⟨by unfold bg;rw [show (ai (cU S m b f a t z L)).contains n=true from od d.1];rfl,h n (by simpa using d.2)⟩
 ·unfold eV;split
  ·rfl
  ·refine od (km.2 ⟨vl (i _ (by simp;omega)),?_⟩);simp at g |-;omega)
theorem FM{S:Lc}{m:Nat}{b:List (Gl×Fd)}{f:Fd}{a t:List Int}{z:Nat}{L:List (Nat×HO)}(c:(a++t).length<=4):aq (aw []) (cj [] (cU S m b f a t z L)) (bg [] (cU S m b f a t z L)) 3 (eV a t) (eV a t)=True:=ad8 S m b f a t z L [] c fun n _=>fc n
theorem zP(S:Lc)(m:Nat)(a:List (Gl×Fd))(f:Fd)(b t:List Int)(z:Nat)(L:List (Nat×HO)){n:Nat}(h:n<7\/(1006<=n/\n<1017)):(∃ x,(n,x)∈cU S m a f b t z L)=True:=fi (by
 have c:n∈ai (cU S m a f b t z L):=by rw [mC,ai,dc];exact hX _ (sG.2 (h.elim .inl fun h=>.inr (.inr ⟨h.1,by omega⟩)))
 obtain⟨p,d,e⟩:=aS.1 c;exact⟨p.2,by rw [<- e];exact d⟩)
theorem FN(S:Lc)(m:Nat)(a:List (Gl×Fd))(f:Fd)(b t:List Int)(z:Nat)(L:List (Nat×HO)){n:Nat}(h:∃ x,(n,x)∈L):(∃ x,(n,x)∈cU S m a f b t z L)=True:=fi (by obtain⟨x,c⟩:=h;exact⟨x,by rw [mC];exact jk _ c⟩)
theorem ad9{F:Gl->Fd}{p:Pt}{ps:List Pt}{b:List Int}{a c m:Int}{d:List Tr}(h:¬ p.tx=[]):dx F (p::ps) b a c m d=dx F ps b (a+1) c m d:=by
 conv=>lhs;unfold dx
 simp [h]
theorem ad_{F:Gl->Fd}{p:Pt}{ps:List Pt}{e:Int}{d:List Int}{a c m:Int}{b:List Tr}(h:p.tx=[])(f:(F ⟨p.cn,a,e⟩).ok=false):dx F (p::ps) (e::d) a c m b=(c,0,b):=by
 conv=>lhs;unfold dx
 simp [h,f]
theorem ad'{F:Gl->Fd}{p:Pt}{ps:List Pt}{e:Int}{b:List Int}{a c m:Int}{d:List Tr}(h:p.tx=[])(f:(F ⟨p.cn,a,e⟩).ok=true):dx F (p::ps) (e::b) a c m d=dx F ps b e (IntKind.i64.wrap (c+(F ⟨p.cn,a,e⟩).cost)) (sB m (F ⟨p.cn,a,e⟩).many) (d++[(F ⟨p.cn,a,e⟩).tr]):=by
 conv=>lhs;unfold dx
 simp [h,f]
theorem sH{S:Lc}{m:Nat}(a:m<=500){b:List (Gl×Fd)}{f:Fd}{e t:List Int}{K:Bool->List (Nat×HO)->Prop}(h:K true (bz S m b f e t)):iR 3 (rN 1016 K) .normal ⟨[],bz S m b f e t 2,[]⟩:=by simp [bz,bx,bk,cp a,cO a] at h |-;exact h
theorem xa(t:Tr):cz t=.agg [dI t.r,dI t.i,dI t.fr,dI t.un,.sl 5 (t.ks.map cz)]:=by cases t with | mk r i a b c=>rw [cz,zB];rfl
theorem xb{B:Nat}{s:List (Nat×Bool×AV)}(S:Lc){m:Nat}(G:m<=500)(a:List (Gl×Fd))(f j:Fd)(b t:List Int)(i:Nat)(u:List AV)(y:List (Nat×HO)){k:List (Nat×HO)}(A:k=aM (cU S m a j b t i y) 3 (.box true u))(Z:B<=2000)(O:∀ n∈ai y,2000<=n)(P:∀ N Q,aq.ba (aw []) N Q 3 u [.d (dB f.ok),.d (dI f.cost),.d (dI f.tr.r),.d (dI f.tr.i),.d (dI f.tr.fr),.d (dI f.tr.un),.d (.sl 5 (f.tr.ks.map cz)),.d (dI f.many)]):Sub B ⟨s,k,[]⟩ ⟨[],bz S m a f b t i,[]⟩:=by
 have R:ai k=ai (bz S m a f b t i)++ai y:=by
  rw [A,mC];have:∀ (h:List (Nat×HO)),3∈ai h->ai (aM h 3 (.box true u))=ai h:=fun h=>by
   induction h with
   | nil=>intro h;cases h
   | cons p h T =>
    intro d;simp only [aM];split
    ·rfl
    ·rename_i e;simp only [ai,bo] at d |-;rw [show List.map (fun x=>x.1) (aM h 3 (.box true u))=List.map (fun x=>x.1) h from T ((b_.1 d).resolve_left fun q=>e q)]
  rw [this _ (by rw [ai,dc];exact hX _ (sG.2 (.inl (by decide)))),ai,dc];have q:ai (bz S m a j b t i)=ai (bz S m a f b t i):=by rw [zN,zN]
  rw [show List.map (fun x=>x.1) (bz S m a j b t i)=ai (bz S m a f b t i) from q];rfl
 have U:∀ p∈bz S m a j b t i,p.1≠3->AL.look k p.1=some p.2:=fun p d v=>by rw [A,bh,ab v,mC];exact MO (zM (zO S m G a j b t) p d)
 have V:AL.look k 3=some (.box true u):=by rw [A,bh,aj rfl]
 have W:∀ n,(ai (bz S m a f b t i)).contains n=true->(ai (bz S m a f b t i)).contains n=true/\aw [] n=n:=fun n D=>⟨D,fc n⟩
 have X:=FB S m a f b t (z:=i);have H:=FC S m a f b t (z:=i);obtain⟨C,o⟩:∃ C,bz S m a f b t i=bk S.c a++(3,bW f)::C:=⟨_,by unfold bz bx;rw [List.append_assoc];rfl⟩;have E:bz S m a j b t i=bk S.c a++(3,bW j)::C:=by
  have:∀ g,bz S m a g b t i=bk S.c a++(3,bW g)::([(4,.box false [.ptr 0 0]),(5,.box true [.d (dI S.x.cat),.d (dI S.x.fr),.d (dI S.x.un)]),(6,.box false [.ptr 3 0])]++(iF m++([(1006,.dead),(1007,.box false [.d (dI S.i)]),(1008,.box true [.d (dT S.r.cat),.d (dI S.r.cn),.d (.sl 3 (S.r.ps.map bA)),.d (.sl 2 (S.r.gs.map iC)),.d (dI S.r.cost)]),
   (1009,.box false [.ptr 0 0]),(1010,.box false [.d (.sl 3 (S.r.ps.map bA))]),(1011,.box false [.d (dI S.x.fr)]),(1012,.box false [.d (dI S.x.un)]),(1013,.box false [eV b t]),(1014,.box false [mB]),(1015,.obj 0),(1016,.obj i)]++gS (b++t)))):=fun g=>by unfold bz bx;simp
  rw [this] at o |-;have r:=List.append_cancel_left o;injection r with _ r
  rw [r]
 have I:=zO S m G a j b t (z:=i);have J:∀ l:List (Nat×HO),(∀ p∈l,p∈bz S m a j b t i/\p.1≠3/\p∈bz S m a f b t i)->fX [] [] ⟨s,k,[]⟩ (bz S m a f b t i) l:=fun l w=>FL W (fun p d=>⟨fc _,U p (w p d).1 (w p d).2.1⟩) (bQ.2 fun p d=>bQ.1 X p (w p d).2.2) fun p d=>H p (w p d).2.2
 refine⟨[],[],rX _,trivial,?_,?_,trivial⟩
 ·have K:fX [] [] ⟨s,k,[]⟩ (bz S m a f b t i) (bk S.c a++(3,bW f)::C):=by
   have v:∀ p∈bk S.c a++C,p.1≠3:=fun p d L=>by
    rw [E,ai,dc,bo] at I;have M:=(vo.1 I);rcases cV.1 d with d | d
    ·exact M.2.2 _ (aS.2 ⟨p,d,rfl⟩) _ (dj ..) L
    ·exact(vi.1 M.2.1).1 (aS.2 ⟨p,d,L⟩)
   refine wU (J _ fun p d=>⟨by rw [E];exact hX _ d,v p (hX _ d),by rw [o];exact hX _ d⟩) ⟨⟨rfl,?_⟩,J _ fun p d=>⟨by rw [E];exact jk _ (cD _ d),v p (jk _ d),by rw [o];exact jk _ (cD _ d)⟩⟩;show match AL.look k (aw [] 3) with
    | some (.box _ Y)=>aq.ba (aw []) _ _ 3 Y _/\_
    | _=>False
   rw [fc,V];exact⟨P _ _,fun c F=>H (3,bW f) (by rw [o];exact jk _ (dj ..)) c F⟩
  rw [<- o] at K;exact K
 ·rw [bQ];intro n D;have a0:n<2000:=by have:=di.1 D;omega
  cases F:(ai k).contains n with
  | false=>rfl
  | true =>
   have r:=vl F;rw [R,cV] at r;have:(ai (bz S m a f b t i)).contains n=true:=r.elim (fun h=>od h) fun h=>by have:=O n h;omega
   show (!true||(aw [] n == n&&((bc [] n).isNone&&(ai (bz S m a f b t i)).contains n)))=true;rw [this,fc];simp [bc]
def kL(a:List Tr):List (Nat×HO):=[(2000,.dead),(2001,.box false [if a=[] then .d (.nil 5) else .own 2002 5 (a.map cz)]),(2002,if a=[] then .dead else .row)]
theorem xc:∀ n,n<2000->aw [] n=n:=fun n _=>fc n
theorem aea{g:Gr}{c:Int->Nat}(j:ke g c){x:Gl}{r:Rl}(k:r∈g.rs)(l:r.cn=x.cat){w:Int->List B8}{done ps:List Pt}{p:Pt}(m:r.ps=done++p::ps)(n:p.tx=[]){a t:Int}{o:List Int}(b:a<t)(e:t<=x.un-ps.length)(d:o∈dU w x.un ps t [])(f:(done=[]/\a=x.fr)\/x.fr<a):sD c x ⟨p.cn,a,t⟩:=by
 have s:=ph d;obtain⟨u,v⟩:=j;have i:t-a<x.un-x.fr->kf c ⟨p.cn,a,t⟩ < kf c x:=fun h=>by
  unfold kf;have b:(t-a).toNat+1<=(x.un-x.fr).toNat:=by omega
  have:=u p.cn;have e:=ln 64 b;simp only;omega
 rcases f with ⟨rfl,rfl⟩ | f
 ·cases ps with
  | nil =>
   have y:t=x.un:=by
    unfold dU at d;split at d
    ·assumption
    ·cases d
   have z:=(v r k).2 p (by rw [m];rfl) n;exact⟨iu _,b,by simp only;omega,by unfold kf;simp only [y];rw [l] at z;omega⟩
  | cons q ps =>simp only [bN] at e s;exact⟨iu _,b,by simp only;omega,i (by omega)⟩
 ·exact⟨by simp only;omega,b,by simp only;omega,i (by omega)⟩
theorem MP(c:fC)(v:Int->Nat)(f1:ke c.g v)(b6:∀ r∈c.g.rs,r.ps.length<=4)(F:c.g.rs.length<=400)(x:Gl)(b7:(0<=x.fr/\x.fr<=1000)/\0<=x.un/\x.un<=1000)(f4:∀ y,sD v x y->(∃ r∈c.g.rs,∃ p∈r.ps,y.cat=p.cn)->Fw c v y):ME c v x:=by
 intro kn f f5;refine yB (aR aag) aH (yF (qN c kn f)) (fun f6 f7 b8=>?_) ?_
 ·obtain⟨d5,_,rfl,rfl⟩:=b8;exact CH rfl (qN _ _ _) rfl
 simp [a156,bx,bk,cC,bW,kd];refine jx (Nat×Nat×List (Gl×Fd)×Fd) (fun y=>⟨[(23,true,.d (dI y.1)),(3,true,.ptr 4 0),(4,true,.ptr 5 0),(5,true,.ptr 6 0),(21,true,.d (.sl 5 (c.g.rs.map bI))),(22,true,.d (dI c.g.rs.length))],il c x y.2.1 y.2.2.1 y.2.2.2,kZ y.2.1⟩) (fun y=>(y.1<=c.g.rs.length/\y.2.1<=y.1)/\mA c v y.2.2.1/\kY (eH c.g c.ae (c_ c) v) (c_ c) x (c.g.rs.drop y.1) y.1 y.2.2.2=kY (eH c.g c.ae (c_ c) v) (c_ c) x c.g.rs 0 f) (fun y=>c.g.rs.length-y.1) (0,0,kn,f) ⟨⟨bp _,bj _⟩,f5,rfl⟩ ⟨[],[],?_⟩ (fun y b9=>?_)
 ·simp [il,bx,bk,cC,bW,iF,kZ];exact fun x b7=>by omega
 obtain⟨k,m,Y,f2⟩:=y;obtain⟨⟨d6,c0⟩,Z,H⟩:=b9;simp only at d6 c0 Z H;have d:m<=500:=by omega
 by_cases a0:k<c.g.rs.length
 ·have hw:=wS k (by omega);have W:c.g.rs[k]∈c.g.rs:=cN a0;rw [fF a0,kY] at H;simp [a0,il,bx,bk,cC,bW,cp d,cO d,dZ d];generalize hr:c.g.rs[k]=r at *;simp [bI,cp d,cO d,dZ d];by_cases u:r.cn=x.cat
  ·rw [aj u] at H;simp [u,cp d,cO d,dZ d];refine aK [] ?_;simp [cp d,cO d,dZ d];refine aV (TF Tryz.prog a198) (aR c198) ?_;simp [a198,cp d,cO d,dZ d];refine h' (TF Tryz.prog a234) (aR aaV) rfl (by rfl) (fun yl=>by rfl) (fun yl=>?_);simp [a234,cp d,cO d,dZ d];refine aK [] ?_;simp [cp d,cO d,dZ d];refine aV _ (MK ⟨c,x,k,r⟩ m d (eH c.g c.ae (c_ c) v) (mA c v) (b6 r W) b7.2 r.ps [] rfl) ?_;refine⟨Y,f2,[],[],x.fr,by simp,by simp [bz,bx,bk,cC,bW,mB,eV,gS,dT,u],Z,by simp,b7.1,fun e he a1 i t i1 T K h3=>?_,fun d5 t' T K=>?_⟩
   ·simp [bz,bx,bk,cC,bW,cp d,cO d,dZ d];have g:(e++t).length<=4:=by simpa using K
    have i2:newName (gS (e++t))<=1021:=MN fun n F=>by rw [Fz] at F;obtain⟨j,P,rfl⟩:=aS.1 F;have:=di.1 P;omega
    refine UO ⟨[(8,true,eV e t),(3,true,.ptr 4 0),(4,true,.ptr 5 0),(5,true,.ptr 6 0),(6,true,.ptr 1007 0),(7,true,.ptr 1008 0)],cU ⟨c,x,k,r⟩ m a1 i e t 2 [(2000,.dead)],[]⟩ ?_ ?_
    ·exact uH ⟨c,x,k,r⟩ d a1 i e t g 2 [] [(2000,.dead)] [] (by simp [cU,bx,bk,cC,bW,dT,u]) rfl (by simp [oe];omega) (by intro n F;cases F) xc (by simp [ai,fc]) ⟨trivial,trivial⟩ (by simp [zP,FM g])
    ·simp [cU,bx,bk,cC,bW,cp d,cO d,dZ d,fw g,fY g,fZ g];refine jx (Nat×Int×Nat×Int×Int×List Tr×List (Gl×Fd)) (fun y=>⟨[(49,true,.d (dI y.1)),(9,true,.d (dI y.2.2.2.1)),(10,true,.d (dI y.2.2.2.2.1)),(12,true,.d (dI y.2.1)),(13,true,.d (dI y.2.2.1)),(8,true,eV e t),(3,true,.ptr 4 0),(4,true,.ptr 5 0),(5,true,.ptr 6 0),(6,true,.ptr 1007 0),(7,true,.ptr 1008 0),(11,true,.ptr 2001 0),(47,true,.d (.sl 3 (r.ps.map bA))),(48,true,.d (dI r.ps.length))],cU ⟨c,x,k,r⟩ m y.2.2.2.2.2.2 i e t 2 (kL y.2.2.2.2.2.1),[]⟩)
      (fun y=>y.1<=r.ps.length/\mA c v y.2.2.2.2.2.2/\y.2.2.1<=y.1/\e.drop y.2.2.1∈dU (c_ c) x.un (r.ps.drop y.1) y.2.1 []/\((y.1=0/\y.2.1=x.fr)\/(0<y.1/\x.fr<y.2.1))/\y.2.2.2.2.2.1.length<=y.1/\dx (eH c.g c.ae (c_ c) v) (r.ps.drop y.1) (e.drop y.2.2.1) y.2.1 y.2.2.2.1 y.2.2.2.2.1 y.2.2.2.2.2.1=dx (eH c.g c.ae (c_ c) v) r.ps e x.fr r.cost 1 []) (fun y=>r.ps.length-y.1) (0,x.fr,0,r.cost,1,[],a1) ⟨bp _,T,bj _,he,.inl ⟨rfl,rfl⟩,bj _,rfl⟩ ?_ (fun y b9=>?_)
     ·refine uH ⟨c,x,k,r⟩ d a1 i e t g 2 [] (kL []) [(2000,.dead),(2001,.box false [.d (.nil 5)])] (by simp [cU,bx,bk,cC,bW,dT,u]) rfl (by simp [oe];omega) (by simp [ai]) xc (by simp [ai,fc,kL]) ?_ (by simp [zP,FN,FM g,kL]);simp [kL,cp d,fw g]
     obtain⟨p,Q,q,w,o,l,C⟩:=y;obtain⟨a2,b0,f8,b1,b2,f9,G⟩:=b9;simp only at a2 b0 f8 b1 b2 f9 G;by_cases X:p<r.ps.length
     ·rw [fF X] at b1 G;have g0:r.ps[p]∈r.ps:=cN X;have d7:IntKind.i64.wrap ((p:Int)+1)=((p+1:Nat):Int):=wrap64 (by have:=b6 r W;omega);simp [X,cU,kL,bx,bk,cC,bW,cp d,cO d,dZ d,fw g,fY g,fZ g];generalize g1:r.ps[p]=E at *;by_cases I:E.tx=[]
      ·rcases qO b1 with ⟨c1,_⟩ | ⟨_,t1,i3,b3,g2,g3,R⟩
       ·exact absurd I c1
       have c2:q<e.length:=by have:=congrArg List.length b3;simp at this;omega
       have d8:=b3;rw [fF c2] at d8;injection d8 with g4 d9
       have g5:x.fr<=Q:=by rcases b2 with h | h <;> omega
       have i4:=ph R;obtain⟨N,hN⟩:∃ N,N=1016+(e++t).length:=⟨_,rfl⟩;have e3:1000<=N:=by omega
       have i5:N<=1020:=by omega
       have i6:1017<=N:=by simp at hN;omega
       have e4:∀ n,n<1017->(N=n)=False:=fun n F=>mV (by omega)
       have e5:∀ L:List (Nat×HO),AL.look (gS (e++t)++L) N=some (.box true ((e++t).map fun a=>.d (dI a))):=fun L=>by rw [hN];exact ad7 (by have:(e++t).length=e.length+t.length:=da;omega)
       have M:eV e t=.aE N 0 1 e.length (e.length+t.length):=by unfold eV;rw [ab (by omega),hN];simp
       have e6:(q:Int)<e.length:=by omega
       have e7:(List.map (fun a=>AV.d (D.lit (Value.int IntKind.i64 a))) e++List.map (fun a=>AV.d (D.lit (Value.int IntKind.i64 a))) t)[q]?.getD default=.d (.lit (.int .i64 t1)):=by rw [eY (by simpa using c2),bG,aI c2,g4];rfl
       have g6:sD v x ⟨E.cn,Q,t1⟩:=aea f1 W u (done:=r.ps.take p) (ps:=r.ps.drop (p+1)) (by rw [<- g1,<- fF X,mP]) I g2 g3 R (by
        rcases b2 with ⟨rfl,h⟩ | ⟨_,h⟩
        ·exact .inl ⟨rfl,h⟩
        ·exact .inr h)
       have g7:=f4 _ g6 ⟨r,W,E,g0,rfl⟩;simp [bA,I,dT,cp d,cO d,dZ d,fw g,fY g,fZ g];refine JI [] [] [] ?_;simp [M,e3,e4,e5,e6,e7,cp d,cO d,dZ d,fw g,fY g,fZ g];have d0:∀ n,2000<=n->(N=n)=False/\(n=N)=False:=fun n F=>⟨mV (by omega),mV (by omega)⟩
       refine⟨by omega,?_,?_,?_⟩
       case refine_2=>simp [de,kB,kA,d0,List.range,List.range.loop]
       all_goals
        refine nh _ (g7 C b0) ?_;refine yG [] (sC c C) (by simp [bk,ai,aw,bc]) (by simp [bk,bg,cj,ai,bc,aw,kd]) (by simp [bk,cC,dv,cE,aw,bc,sE,sF,dT]) (fun f6 f7 b8=>?_);obtain⟨U,e8,rfl,rfl⟩:=b8;simp [bk,ha,cC,dv,cE,tV,aw,bc,sE,sF,cp d,cO d,dZ d,fw g,fY g,fZ g];generalize d1:eH c.g c.ae (c_ c) v ⟨E.cn,Q,t1⟩=y at *;cases b4:y.ok with
        | false =>
         have d2:jz (eH c.g c.ae (c_ c) v) x k r i e=i:=by unfold jz;rw [<- G,b3,ad_ I (by rw [d1];exact b4)];simp
         have B:=h3 U e8;simp only [d2] at B;simp [M];refine⟨_,?_,sH (S:=⟨c,x,k,r⟩) d B⟩;refine uH ⟨c,x,k,r⟩ d U i e t g 2 [] [] (kL l++[(2003,.box true [.d (dT E.cat),.d (dI E.cn),.d (dT [])]),(2004,bW y)]) (by simp [cU,bx,bk,cC,bW,dT,u,b4,M,kL]) (by simp [cU,bz]) (by simp [oe];omega) (by simp [ai,kL]) xc (by intro a V;cases V) trivial trivial
        | true =>
         rw [b3,ad' I (by rw [d1];exact b4),d1,<- d9] at G;rw [<- d9] at R;have g8:IntKind.i64.wrap ((q:Int)+1)=((q+1:Nat):Int):=wrap64 (by omega);have i7:=b6 r W;have g9:PC 199 [.lit (.int .i64 o),.lit (.int .i64 y.many)] (.ret (.lit (.int .i64 (sB o y.many)))):=adU o y.many;have O:∀ n,aw [(2002,2006)] n=if n=2002 then 2006 else n:=fun n=>by unfold aw bc bc;split <;> rfl
         have f0:∀ n,n<2000->aw [(2002,2006)] n=n:=fun n F=>by rw [O,ab (by omega)]
         have d3:∀ n,n<2000->(bc [(2002,2006)] n).getD n=n:=f0;simp [M];by_cases s:l=[]
         all_goals
          refine bY [.ret (dI (sB o y.many))] ?_;simp [M,s,xa,e3,e4,e5,e6,e7,d0,cp d,cO d,dZ d,fw g,fY g,fZ g];refine⟨g9,?_⟩
          try refine⟨⟨by omega,by omega⟩,?_⟩
          refine⟨rfl,by omega,p+1,t1,q+1,IntKind.i64.wrap (w+y.cost),sB o y.many,l++[y.tr],U,⟨by omega,e8,by omega,R,.inr ⟨by omega,by omega⟩,by simp;omega,G⟩,by omega,?_⟩;have h5:∀ L:List (Nat×HO),(∃ z,(N,z)∈cU ⟨c,x,k,r⟩ m U i e t 2 L)=True:=fun L=>fi (by
           have c0:N∈ai (cU ⟨c,x,k,r⟩ m U i e t 2 L):=by rw [mC,ai,dc];exact hX _ (sG.2 (.inr (.inr ⟨by omega,by omega⟩)))
           obtain⟨p0,h6,e0⟩:=aS.1 c0;exact⟨p0.2,by rw [<- e0];exact h6⟩)
          refine uH ⟨c,x,k,r⟩ d U i e t g 2 [(2002,2006)] (kL (l++[y.tr])) [(2000,.dead),(2001,.box false [.own 2006 5 ((l++[y.tr]).map cz)]),(2002,.dead),(2003,.box true [.d (dT E.cat),.d (dI E.cn),.d (dT [])]),(2004,bW y),(2005,.row),(2006,.row)] (by simp [cU,bx,bk,cC,bW,dT,u,b4,M,s,xa]) (by simp [cU,bx,bk,cC,bW,dT,u,M,kL,s,xa]) (by simp [oe];omega) (by simp [ai]) f0 ?_ ?_ (by simp [zP,FN,h5,d0,M,d7,g8,d3,kL])
          ·intro a V;simp [ai,kL] at V |-;rcases V with rfl | rfl | rfl <;> simp [O]
          ·simp [kL,O,s,xa,cp d,fw g]
      ·have e1:=nS I;simp [bA,I,e1,dT,cp d,cO d,dZ d,fw g,fY g,fZ g];rcases qO b1 with ⟨_,R⟩ | ⟨c1,_⟩
       case inr=>exact absurd c1 I
       have i8:=ph R;have g5:x.fr<=Q:=by rcases b2 with h | h <;> omega
       have h7:IntKind.i64.wrap (Q+1)=Q+1:=wrap64 (by omega);rw [ad9 I] at G;refine⟨p+1,Q+1,q,w,o,l,C,⟨by omega,b0,by omega,R,.inr ⟨by omega,by omega⟩,by omega,G⟩,by omega,?_⟩;refine uH ⟨c,x,k,r⟩ d C i e t g 2 [] (kL l) (kL l++[(2003,.box true [.d (dT E.cat),.d (dI E.cn),.d (dT E.tx)])]) (by simp [cU,bx,bk,cC,bW,dT,u,kL]) rfl (by simp [oe];omega) (by simp [ai,kL]) xc (by simp [ai,fc,kL]) ?_ (by simp [zP,FN,FM g,d7,h7,kL]);by_cases s:l=[] <;> simp [kL,s,cp d,fw g]
     ·have e9:p=r.ps.length:=by omega
      rw [e9,oc] at G;simp only [dx] at G;have d2:jz (eH c.g c.ae (c_ c) v) x k r i e=if 0<o then gR i w o (.mk k (-1) x.fr x.un l) else i:=by unfold jz;rw [<- G]
      have B:=h3 C b0;simp only [d2] at B;simp [X,cU,kL,bx,bk,cC,bW,cp d,cO d,dZ d,fw g,fY g,fZ g];by_cases b5:0<o
      ·rw [aj b5] at B;have d4:¬ o<=0:=by omega
       simp [b5,d4];refine aK [] ?_;simp [cp d,cO d,dZ d,fw g,fY g,fZ g];refine aV (TF Tryz.prog a196) (aR c196) ?_;simp [a196,cp d,cO d,dZ d,fw g,fY g,fZ g];refine ah [] ?_;have h8:(i.ok=false\/(i.ok=true/\w<i.cost))\/(i.ok=true/\¬ w<i.cost):=by
        cases d6:i.ok with
        | false=>exact .inl (.inl rfl)
        | true=>by_cases K:w<i.cost;(· exact .inl (.inr ⟨rfl,K⟩));exact .inr ⟨rfl,K⟩
       rcases h8 with (A | ⟨A,J⟩) | ⟨A,J⟩
       ·simp [A,cp d,cO d,dZ d,fw g,fY g,fZ g];refine aK [] ?_;simp [cp d,cO d,dZ d,fw g,fY g,fZ g];refine aV (TF Tryz.prog sa) (aR Ks) ?_;by_cases s:l=[]
        ·simp [sa,s,cp d,cO d,dZ d,fw g,fY g,fZ g];refine⟨_,?_,sH (S:=⟨c,x,k,r⟩) d B⟩;refine xb ⟨c,x,k,r⟩ d C (gR i w o (.mk k (-1) x.fr x.un l)) i e t 2 [.d (dB true),.d (dI w),.d (dI k),.d (dI (-1)),.d (dI x.fr),.d (dI x.un),.d (.nil 5),.d (dI (if 1099511627777<IntKind.i64.wrap (i.many+o) then 1099511627777 else IntKind.i64.wrap (i.many+o)))] (kL l++[(2003,.box true [.d (dI k),.d (dI (-1)),.d (dI x.fr),.d (dI x.un),.d (.nil 5)])]) (by simp [cU,bx,bk,cC,bW,dT,u,kL,A,s,cp d,cO d,dZ d,fw g,fY g,fZ g]) (by simp [oe];omega) (by simp [ai,kL]) (fun N ok=>by simp [gR,A,s,Tr.r,Tr.i,Tr.fr,Tr.un,Tr.ks])
        ·simp [sa,s,cp d,cO d,dZ d,fw g,fY g,fZ g];refine⟨_,?_,sH (S:=⟨c,x,k,r⟩) d B⟩;refine xb ⟨c,x,k,r⟩ d C (gR i w o (.mk k (-1) x.fr x.un l)) i e t 2 [.d (dB true),.d (dI w),.d (dI k),.d (dI (-1)),.d (dI x.fr),.d (dI x.un),.own 2002 5 (l.map cz),.d (dI (if 1099511627777<IntKind.i64.wrap (i.many+o) then 1099511627777 else IntKind.i64.wrap (i.many+o)))] (kL l++[(2003,.box true [.d (dI k),.d (dI (-1)),.d (dI x.fr),.d (dI x.un),.own 2002 5 (l.map cz)])]) (by simp [cU,bx,bk,cC,bW,dT,u,kL,A,s,cp d,cO d,dZ d,fw g,fY g,fZ g]) (by simp [oe];omega) (by simp [ai,kL]) (fun N ok=>by simp [gR,A,s,Tr.r,Tr.i,Tr.fr,Tr.un,Tr.ks])
       ·simp [A,J,cp d,cO d,dZ d,fw g,fY g,fZ g];refine aK [] ?_;simp [cp d,cO d,dZ d,fw g,fY g,fZ g];refine aV (TF Tryz.prog sa) (aR Ks) ?_;by_cases s:l=[]
        ·simp [sa,s,cp d,cO d,dZ d,fw g,fY g,fZ g];refine⟨_,?_,sH (S:=⟨c,x,k,r⟩) d B⟩;refine xb ⟨c,x,k,r⟩ d C (gR i w o (.mk k (-1) x.fr x.un l)) i e t 2 [.d (dB true),.d (dI w),.d (dI k),.d (dI (-1)),.d (dI x.fr),.d (dI x.un),.d (.nil 5),.d (dI (if 1099511627777<IntKind.i64.wrap (i.many+o) then 1099511627777 else IntKind.i64.wrap (i.many+o)))] (kL l++[(2003,.box true [.d (dI k),.d (dI (-1)),.d (dI x.fr),.d (dI x.un),.d (.nil 5)])]) (by simp [cU,bx,bk,cC,bW,dT,u,kL,A,J,s,cp d,cO d,dZ d,fw g,fY g,fZ g]) (by simp [oe];omega) (by simp [ai,kL]) (fun N ok=>by simp [gR,A,J,s,Tr.r,Tr.i,Tr.fr,Tr.un,Tr.ks])
        ·simp [sa,s,cp d,cO d,dZ d,fw g,fY g,fZ g];refine⟨_,?_,sH (S:=⟨c,x,k,r⟩) d B⟩;refine xb ⟨c,x,k,r⟩ d C (gR i w o (.mk k (-1) x.fr x.un l)) i e t 2 [.d (dB true),.d (dI w),.d (dI k),.d (dI (-1)),.d (dI x.fr),.d (dI x.un),.own 2002 5 (l.map cz),.d (dI (if 1099511627777<IntKind.i64.wrap (i.many+o) then 1099511627777 else IntKind.i64.wrap (i.many+o)))] (kL l++[(2003,.box true [.d (dI k),.d (dI (-1)),.d (dI x.fr),.d (dI x.un),.own 2002 5 (l.map cz)])]) (by simp [cU,bx,bk,cC,bW,dT,u,kL,A,J,s,cp d,cO d,dZ d,fw g,fY g,fZ g]) (by simp [oe];omega) (by simp [ai,kL]) (fun N ok=>by simp [gR,A,J,s,Tr.r,Tr.i,Tr.fr,Tr.un,Tr.ks])
       ·simp [A,J,cp d,cO d,dZ d,fw g,fY g,fZ g];refine⟨_,?_,sH (S:=⟨c,x,k,r⟩) d B⟩;refine xb ⟨c,x,k,r⟩ d C (gR i w o (.mk k (-1) x.fr x.un l)) i e t 2 [.d (dB i.ok),.d (dI i.cost),.d (dI i.tr.r),.d (dI i.tr.i),.d (dI i.tr.fr),.d (dI i.tr.un),.d (.sl 5 (i.tr.ks.map cz)),.d (dI (if 1099511627777<IntKind.i64.wrap (i.many+o) then 1099511627777 else IntKind.i64.wrap (i.many+o)))] (kL l) (by simp [cU,bx,bk,cC,bW,dT,u,kL,A,J,cp d,cO d,dZ d,fw g,fY g,fZ g]) (by simp [oe];omega) (by simp [ai,kL]) (fun N ok=>by simp [gR,A,J,Tr.r,Tr.i,Tr.fr,Tr.un,Tr.ks])
      ·rw [ab b5] at B;have d4:o<=0:=by omega
       simp [b5,d4];refine⟨_,?_,sH (S:=⟨c,x,k,r⟩) d B⟩;exact uH ⟨c,x,k,r⟩ d C i e t g 2 [] [] (kL l) (by simp [cU,bx,bk,cC,bW,dT,u,kL]) (by simp [cU,bz]) (by simp [oe];omega) (by simp [ai,kL]) xc (by intro a V;cases V) trivial trivial
   ·simp [bz,bx,bk,cC,bW,cp d,cO d,dZ d];refine⟨k+1,m+1,d5,_,⟨⟨by omega,by omega⟩,T,H⟩,by omega,?_⟩;have O:∀ n,aw [(100+m,1015)] n=if n=100+m then 1015 else n:=fun n=>by unfold aw bc bc;split <;> rfl
    have d3:∀ n,(bc [(100+m,1015)] n).getD n=if n=100+m then 1015 else n:=O
    have h9:∀ n,n<7->(n=100+m)=False:=fun n F=>mV (by omega)
    refine ML (fun n=>if n=100+m then 1015 else n) [(100+m,1015)] O (fun n F=>ab (by omega)) (fun a b T K h3 h4 h=>?_) (fun a T K=>?_) (by simp [cC]) (by simp) (by simp) (by simp [bW]) (by simp) (by simp) (by simp) (fun j P=>?_) (by simp [hw,FG,d3,h9]) ?_
    ·split at h <;> split at h <;> omega
    ·split <;> exact⟨by omega,by omega⟩
    ·by_cases e:j=m
     ·subst e;simp [AL.look,cp d]
     ·have i0:j<m:=by omega
      have e2:¬ 100+j=100+m:=by omega
      simp only [e2,eM,AL.look];rw [ab (by omega),ab (by omega),ab (by omega),ab (by omega),ab (by omega),ab (by omega),ab (by omega)];exact FD i0
    ·have e1:kZ (m+1)=.mark (100+m)::kZ m:=by unfold kZ;rw [vg,Ho];rfl
     rw [e1];refine⟨⟨by rw [O,aj rfl],?_⟩,FI (by omega) fun j P=>by rw [O,ab (by omega)]⟩;unfold bg;rw [FH (.inr (.inl ⟨by omega,by omega⟩))];rfl
  ·rw [ab u] at H;simp [u,cp d,cO d,dZ d];refine⟨k+1,m,Y,f2,⟨by omega,Z,H⟩,by omega,?_⟩;refine ML (fun n=>n) [] fc (fun _ _=>rfl) (fun _ _ _ _ _ _ h=>h) (fun a T K=>⟨by omega,by omega⟩) (by simp [cC]) (by simp) (by simp) (by simp [bW]) (by simp) (by simp) (by simp) (fun j P=>?_) (by simp [hw,FG]) (FI (bj _) fun _ _=>rfl);simp only [AL.look];rw [ab (by omega),ab (by omega),ab (by omega),ab (by omega),ab (by omega),ab (by omega),ab (by omega)];exact FD P
 ·have e9:k=c.g.rs.length:=by omega
  subst e9;rw [oc] at H;simp only [kY] at H;simp [a0,il,bx,bk,cC,bW,cp d,cO d,dZ d];refine MM m (fun j P=>?_) fun i9 hl=>?_
  ·simp only [AL.look];rw [ab (by omega),ab (by omega),ab (by omega),ab (by omega),ab (by omega),ab (by omega),ab (by omega)];exact FD P
  ·simp;refine wj (h0:=bx c kn f) (qN c Y f2) (by simp [bx,bk,newName,ai,List.range,List.range.loop]) (fun p a2=>?_) (by simp) ⟨Y,Z,rfl,by rw [H]⟩;simp only [bx,bk,dX,gx,b_,n',oa] at a2;rcases a2 with rfl | rfl | rfl | rfl <;> rw [hl _ (by show _<_;simp)] <;> simp [AL.look,cC,bW]
end
section
attribute [local simp] cK cI cJ cG cH cd bS cA gP mq mr mu zF zG zH zC zD zE qL qJ qK nE nF nG kO kP kQ so sp sq zI zJ
theorem aeb(c:fC)(a:Int->Nat)(b:ke c.g a)(h:c.ae.length<=16384)(i:∀ r∈c.g.rs,r.ps.length<=4)(j:c.g.rs.length<=400)(l:∀ r∈c.g.rs,∀ p∈r.ps,-1000000<=p.cn/\p.cn<=1000000) :
  ∀ (N:Nat) (x:Gl),kf a x<=N->(-1000000<=x.cat/\x.cat<=1000000)->(0<=x.fr/\x.fr<=1000)/\0<=x.un/\x.un<=1000->Fw c a x:=by
 intro N
 induction N with
 | zero=>exact fun x m d f=>MF c a b h x ⟨d,by omega,by omega⟩ (MP c a b i j x f fun y g k=>by have:=g.2.2.2;omega)
 | succ N n =>exact fun x m d f=>MF c a b h x ⟨d,by omega,by omega⟩ (MP c a b i j x f fun y g k=>by obtain⟨s,t,u,v⟩:=g;obtain⟨r,o,p,q,e⟩:=k;exact n y (by omega) (by rw [e];exact l r o p q) (by omega))
def sI(g:Gr)(n:Int)(y:It):Prop:=((0<=y.fr/\y.fr<y.un)/\y.un<=n/\-1<=y.term/\y.term<=1048576)/\(1<=y.cR.length/\y.cR.length<=4/\(y.cR.any fun b=>!bw b)=false)/\((y.cat=-1/\y.un=y.fr+1/\y.cost=0/\y.cR.length=1)\/(0<=y.cat/\y.cat<g.aN.length/\0<=y.cost/\y.cost<=1000))
def dy:List It->List (Int×List B8)
 | []=>[]
 | y::l=>if y.cat=-1 then (y.fr,[y.cR.headD []])::dy l else dy l
theorem uI(a b:List It):dy (a++b)=dy a++dy b:=by
 induction a with
 | nil=>rfl
 | cons y a c=>simp only [dX,dy];split <;> simp [c]
theorem aec(b:Bool)(n:Int)(h:b=true):PC 153 [dB b,dI n] (.ret (.af [])):=by
 subst h;refine aG aH aad (by simp [DZ]) fun a=>?_
 simp [DZ]
inductive FO (g:Gr):FuncId->List D->Out->Prop
 | check:PC 72 [bq g] (.ret (dI 0))->FO g 72 [bq g] (.ret (dI 0))
 | sJ (b:Bool) (n:Int):b=true->FO g 153 [dB b,dI n] (.ret (.af []))
theorem aed(g:Gr):∀ f a c,FO g f a c->PC f a c:=by
 intro f a c h;cases h with
 | check h=>exact h
 | sJ b n h=>exact aec b n h
theorem aee(c:Nat->Nat)(n o){a b:List AV}(l:List (Int×List B8))(h:aq.ba c n o 2 a b):aq.ba c n o 2 (l.map ((fun x=>x.snd)∘hf)++a) (l.map ((fun x=>x.snd)∘hf)++b):=by
 induction l with
 | nil=>exact h
 | cons e l d=>simp only [bo,dX];simp [hf] at d |-;exact d
theorem aef(g:Gr)(c:List It)(n:Int)(u:PC 72 [bq g] (.ret (dI 0)))(O:c.length<=16384)(m:1<=n/\n<=16)(v:∀ y∈c,sI g n y)(f:((dy c).map (·.1)).Nodup) :
  PC 86 [bq g,.sl 6 (c.map bT),dI n] (.fH ((bq g).cells++[.sl 6 (c.map bT),dI n]) ((dy c).map fun e=>(.int .i64 e.1,.sl 1 (e.2.map dT)))):=by
 refine aG (aed g) Zd (by simp [Dh]) fun P=>?_
 simp [Dh];refine ah [.ret (dI 0)] ?_;simp;refine⟨.check u,?_⟩;refine ah [.ret (.af [])] ?_;simp;refine⟨.sJ _ _ rfl,?_⟩;refine ah [.ret (.af [])] ?_;simp [m.1,m.2];refine⟨.sJ _ _ rfl,?_⟩;refine ah [.ret (.af [])] ?_;have w:(c.length:Int)<=16384:=by omega
 simp [w];refine⟨.sJ _ _ rfl,?_⟩;refine bm [1,2,3,8,9,37,38] Nat (fun k=>[(39,true,.d (dI k))]) (fun k=>[(2,.aA ((dy (c.take k)).map hf))]) (fun k=>k<=c.length) (fun k=>c.length-k) 0 (bp _) ⟨[],[],?_⟩ (fun k Q=>?_)
 ·simp [dy]
 have R:((dy (c.take k)).map (·.1)).Nodup:=by rw [<- mP k c,uI,dc] at f;exact(vo.1 f).1
 have o:=wS k (by omega);by_cases i:k<c.length
 ·have x:c[k]∈c:=cN i;have z:=v _ x;obtain⟨⟨⟨A,B⟩,C,D,E⟩,⟨S,T,F⟩,G⟩:=z;simp [i];have j:c.take (k+1)=c.take k++[c[k]]:=by rw [PX,aI i];rfl
  generalize U:c[k]=y at *;have H:(1:Int)<=(y.cR.length:Int):=by omega
  have I:(y.cR.length:Int)<=4:=by omega
  simp [bT];refine ah [] ?_;simp [A,B,C,D,E];refine aK [.ret (.af [])] ?_;simp [H,I];refine aV (TC [.sl 1 (y.cR.map dT),.fn (.func 154) [] []] (.ret (dB (y.cR.any fun b=>!bw b)))) (kF (anyS ab5 y.cR)) ?_;rw [F];unfold TC kE;simp;refine⟨.sJ _ _ rfl,?_⟩;rcases G with ⟨d,l,c3,c4⟩ | ⟨d,l,c3,c4⟩
  ·have J:IntKind.i64.wrap (y.fr+1)=y.fr+1:=wrap64 (by omega);have p:=Fy y.fr (dy (c.take k));have K:((dy (c.take k)).find? fun e=>e.1 == y.fr)=none:=by rw [<- mP (k+1) c,j,uI,uI,dc,dc] at f;have L:=(vo.1 (vo.1 f).1).2.2;rw [List.find?_eq_none];intro e M q;simp at q;exact L _ (aS.2 ⟨e,M,rfl⟩) y.fr (by simp [dy,d]) q
   rw [K] at p;obtain⟨t,r⟩:∃ t,y.cR=[t]:=by
    match h:y.cR,c4 with
    | [t],_=>exact⟨t,rfl⟩
   simp [d];refine ah [.ret (.af [])] ?_;simp [l,c3,c4,J];refine⟨.sJ _ _ rfl,?_⟩;simp [r,p];refine⟨by rfl,k+1,by omega,by omega,[],[],?_⟩;simp [o,j,uI,dy,d,r,hf];exact aee _ _ _ _ (by simp)
  ·have s:¬ y.cat=-1:=by omega
   simp [s];refine ah [.ret (.af [])] ?_;simp [d,l,c3,c4];refine⟨.sJ _ _ rfl,k+1,by omega,by omega,[],[],?_⟩;simp [o,j,uI,dy,s]
 ·have N:k=c.length:=by omega
  subst N;simp [i];refine⟨1,2,⟨rfl,rfl⟩,by omega,?_⟩;simp [AL.look];exact⟨fun a b _=>rfl,by cases dy c <;> rfl⟩
def k_(g:Gr)(a:List It)(n:Int):fC:=⟨g,a,n,dy a⟩
inductive MQ (g:Gr) (ae:List It) (n:Int):FuncId->List D->Out->Prop
 | begin:PC 86 [bq g,.sl 6 (ae.map bT),dI n] (.fH ((bq g).cells++[.sl 6 (ae.map bT),dI n]) ((dy ae).map fun e=>(.int .i64 e.1,.sl 1 (e.2.map dT))))->MQ g ae n 86 [bq g,.sl 6 (ae.map bT),dI n] (.fH ((bq g).cells++[.sl 6 (ae.map bT),dI n]) ((dy ae).map fun e=>(.int .i64 e.1,.sl 1 (e.2.map dT))))
theorem aeg(g:Gr)(c:List It)(n:Int):∀ f a b,MQ g c n f a b->PC f a b:=by
 intro f a b h;cases h with
 | begin h=>exact h
theorem aeh(g:Gr)(a:List It)(n:Int)(b:Int->Nat)(d:PC 72 [bq g] (.ret (dI 0)))(c:a.length<=16384)(h:1<=n/\n<=16)(i:∀ y∈a,sI g n y)(j:((dy a).map (·.1)).Nodup)(k:ke g b)(l:∀ r∈g.rs,r.ps.length<=4)(m:g.rs.length<=400)(o:∀ r∈g.rs,∀ p∈r.ps,-1000000<=p.cn/\p.cn<=1000000)(q:-1000000<=g.sn/\g.sn<=1000000)(f:Fd)(s:f=eH g a (c_ (k_ g a n)) b ⟨g.sn,0,n⟩) :
  PC 35 [bq g,.sl 6 (a.map bT),dI n] (.ret (.af [cz f.tr,dI f.cost,dB f.ok,dI 0])):=by
 have t:=aef g a n d c h i j;have u:=aeb (k_ g a n) b k c l m o _ ⟨g.sn,0,n⟩ (bj _) q (by simp only;omega) [] (fun e v=>by cases v);refine aG (aeg g a n) Yt (by simp [a35]) fun x=>?_
 simp [a35];refine aK [] ?_;simp;refine JI [.fH ((bq g).cells++[.sl 6 (a.map bT),dI n]) ((dy a).map fun e=>(.int .i64 e.1,.sl 1 (e.2.map dT)))] [] [] ?_;simp;refine⟨.begin t,?_,rfl,?_⟩
 all_goals
  refine nh _ u ?_;refine yG [(0,3),(1,4),(2,5)] (sC _ _) (by simp [bk,ai,aw,bc]) (by simp [bk,bg,cj,ai,bc,aw,kd,k_]) (by simp [bk,cC,dv,cE,aw,bc,sE,sF,dT,k_,hf]) (fun z A w=>?_);obtain⟨B,C,rfl,rfl⟩:=w;rw [show eH (k_ g a n).g (k_ g a n).ae (c_ (k_ g a n)) b ⟨g.sn,0,n⟩=f from s.symm];simp [bk,ha,cC,bW,dv,cE,tV,aw,bc,sE,sF,k_];refine⟨rfl,?_⟩;refine dQ (TR Tryz.prog a85) (gE Zc) ?_;simp [a85,xa]
end
section
open Go Go.Proofs.YtloccchppmffpaaGreatDoor.AL Go.RowKit Go.Maps Go.BigFrame
theorem below_drewN(W:World)(o:Obj)(n:Nat):Below W.heap.size W ((W.alloc o).drewN n) :=
 have h:=(Below.refl W.heap.size W).alloc (bj _) o
 ⟨h.os,h.tape,h.output,h.size,h.block⟩
theorem aei(W:World)(cat c:ByteArray)(cn co:Int)(ps gs:Value)(cb lb:Nat)(h1:W.cell? ⟨cb,0,none⟩=some (.string c))(hne:(cat.toList == c.toList)=false) :
  Calls Tryz.prog 227 #[.agg #[.string cat,.int .i64 cn,ps,gs,.int .i64 co],.pointer (some ⟨cb,0,none⟩),.pointer (some ⟨lb,0,none⟩)] W fun e w'=>e=.returned (.bool false)/\Below W.heap.size W w':=by
 have hlt:=d_ W _ h1
 go_enter Tryz.func227,Tryz.ntmps227
 go_wp2
 go_quiet (fail)
 go_wp2
 go_ret
 exact⟨rfl,below_drewN _ _ _⟩
theorem aej(W:World)(cat c:ByteArray)(cn co:Int)(ad:Option Addr)(n cap:Nat)(gs:Value)(cb lb:Nat)(h1:W.cell? ⟨cb,0,none⟩=some (.string c))(he:(cat.toList == c.toList)=true)(hn:((n:Int) == 1)=false) :
  Calls Tryz.prog 227 #[.agg #[.string cat,.int .i64 cn,.slice ad n cap,gs,.int .i64 co],.pointer (some ⟨cb,0,none⟩),.pointer (some ⟨lb,0,none⟩)] W fun e w'=>e=.returned (.bool false)/\Below W.heap.size W w':=by
 have hlt:=d_ W _ h1
 go_enter Tryz.func227,Tryz.ntmps227
 go_wp2
 go_quiet (fail)
 go_wp2
 go_ret
 exact⟨rfl,below_drewN _ _ _⟩
theorem aek(W:World)(cat c tx:ByteArray)(cn co:Int)(pb po cap:Nat)(gs:Value)(cb lb:Nat)(h1:W.cell? ⟨cb,0,none⟩=some (.string c))(he:(cat.toList == c.toList)=true)(h2:W.cell? ⟨pb,po+2,none⟩=some (.string tx))(ht:(tx.toList == [])=false) :
  Calls Tryz.prog 227 #[.agg #[.string cat,.int .i64 cn,.slice (some ⟨pb,po,none⟩) 1 cap,gs,.int .i64 co],.pointer (some ⟨cb,0,none⟩),.pointer (some ⟨lb,0,none⟩)] W fun e w'=>e=.returned (.bool false)/\Below W.heap.size W w':=by
 have hlt:=d_ W _ h1;have hlt2:=d_ W _ h2
 go_enter Tryz.func227,Tryz.ntmps227
 go_wp2
 go_quiet (fail)
 go_wp2
 go_ret
 exact⟨rfl,below_drewN _ _ _⟩
theorem ael(W:World)(cat c tx pc:ByteArray)(cn co:Int)(pb po cap mb:Nat)(gs:Value)(cb lb:Nat)(v:Bool)(h1:W.cell? ⟨cb,0,none⟩=some (.string c))(he:(cat.toList == c.toList)=true)(h2:W.cell? ⟨pb,po+2,none⟩=some (.string tx))(ht:(tx.toList == [])=true)(h3:W.cell? ⟨pb,po,none⟩=some (.string pc))(h4:W.cell? ⟨lb,0,none⟩=some (.map (some mb)))(hlk:∀ o n,(Instr.lookup 338 (.map (some mb)) (.string pc) false).run Tryz.prog ((W.alloc o).drewN n)=.ok (.bool v) ((W.alloc o).drewN n)) :
  Calls Tryz.prog 227 #[.agg #[.string cat,.int .i64 cn,.slice (some ⟨pb,po,none⟩) 1 cap,gs,.int .i64 co],.pointer (some ⟨cb,0,none⟩),.pointer (some ⟨lb,0,none⟩)] W fun e w'=>e=.returned (.bool v)/\Below W.heap.size W w':=by
 have hlt:=d_ W _ h1;have hlt2:=d_ W _ h2;have hlt4:=d_ W _ h4
 go_enter Tryz.func227,Tryz.ntmps227
 go_wp2
 go_quiet (fail)
 go_wp2
 go_ret
 exact⟨rfl,below_drewN _ _ _⟩
end
section
section
open Go Go.Proofs.YtloccchppmffpaaGreatDoor.AL Go.Proofs Go.Shelf
def Tryz.aem : Go.Shelf.Ren := ⟨fun | 8 => 228 | 6 => 250 | n => n, fun | 22 => 29 | 23 => 198 | 25 => 335 | 4 => 4 | 3 => 3 | 0 => 0 | n => n, fun | n => n⟩
theorem Tryz.aen : Go.Proofs.SlLaysH0.n8 Tryz.prog Tryz.aem := {
  mixed := by kernel_rfl
  f6 := ⟨Tryz.f250.name, by decide, Tryz.func250.trans (congrArg some (by kernel_rfl))⟩
  f8 := ⟨Tryz.f228.name, by decide, Tryz.func228.trans (congrArg some (by kernel_rfl))⟩
  t0 := Tryz.underlying0
  a0 := Tryz.isAgg0
  z0 := Tryz.sizeOf0
  v0 := Tryz.zeroValue0
  t3 := Tryz.underlying3
  a3 := Tryz.isAgg3
  z3 := Tryz.sizeOf3
  v3 := Tryz.zeroValue3
  t4 := Tryz.underlying4
  a4 := Tryz.isAgg4
  z4 := Tryz.sizeOf4
  v4 := Tryz.zeroValue4
  t22 := Tryz.underlying29
  a22 := Tryz.isAgg29
  z22 := Tryz.sizeOf29
  v22 := Tryz.zeroValue29
  t25 := Tryz.underlying335
  a25 := Tryz.isAgg335
  z25 := Tryz.sizeOf335
  v25 := Tryz.zeroValue335 }
end
open Go Go.Proofs.YtloccchppmffpaaGreatDoor.AL Go.RowKit Go.Maps Go.BigFrame
theorem aeo(W:World)(A:Option Addr)(cap:Nat)(fv:Value):Calls Tryz.prog 250 #[.slice A 0 cap,fv] W fun e w'=>e=.returned (.int .i64 (-1))/\w'=W:=by
 go_enter Tryz.func250,Tryz.ntmps250
 go_wp2
 refine wp_loop_rounds 1 ?_;rw [rounds_succ]
 go_wp2
 go_ret
 exact⟨rfl,rfl⟩
theorem aep(W:World)(A:Option Addr)(cap:Nat)(fv:Value):Calls Tryz.prog 228 #[.slice A 0 cap,fv] W fun e w'=>e=.returned (.bool false)/\w'=W:=by
 have e6:∀ args w,(callFunc 250 args).run Tryz.prog w=.ok (.enter 250 args) w:=enters_of Tryz.func250 (by kernel_rfl) rfl
 go_enter Tryz.func228,Tryz.ntmps228
 go_wp2_with (go_at_fn 250;refine(aeo _ A cap fv).mono ?_;rintro e w' ⟨rfl,rfl⟩)
 go_ret
 exact⟨rfl,rfl⟩
def nV(D:DataW Unit):Prop:=IsMap D/\∀ l:B8,D.atKey (.string l) (.lit (.bool false))=.lit (.bool (has D (.string l)))
theorem aeq:nV (.map []):=⟨isMap_empty,fun l=>rfl⟩
theorem aer{D:DataW Unit}(h:nV D)(k:B8):nV (D.put (.string k) (.lit (.bool true))):=⟨h.1.put _ _,fun l=>by
 by_cases e:Lit.string l=Lit.string k
 ·rw [e,atKey_put_same h.1 (by simp [WideAt.IsKeyLit]),has_put_same h.1 (by simp [WideAt.IsKeyLit])]
 ·rw [atKey_put_other e,has_put_other e];exact h.2 l⟩
theorem aes{D:DataW Unit}(h:nV D)(k:B8):nV (D.del (.string k)):=⟨h.1.del _,fun l=>by
 by_cases e:Lit.string l=Lit.string k
 ·rw [e,atKey_del_same,has_del_same]
 ·rw [atKey_del_other e,has_del_other e];exact h.2 l⟩
theorem u9:Tryz.prog.underlying 9=some .string:=by kernel_rfl
theorem u4:Tryz.prog.underlying 4=some .bool:=by kernel_rfl
theorem uJ:Tryz.prog.underlying 338=some (.map 9 4):=by kernel_rfl
theorem uK:Keyed Tryz.prog 9:=string_keyed u9
theorem aet(w:World):(zeroValue 4).run Tryz.prog w=.ok (.bool false) w:=by kernel_rfl
theorem FP(b:ByteArray)(h:b.size<=9223372036854775807):keyOf Tryz.prog 9 (.string b)=some (.string b.data.toList):=by simp [keyOf,u9,mapKey,maxLen,h]
theorem aeu{W:World}{c n:Nat}{D:DataW Unit}(f:W.ownsMap Tryz.prog 9 (plainElem Tryz.prog 4) c n D)(g:nV D)(b:ByteArray)(h:b.size<=9223372036854775807)(d:World)(i:d.heap[c]?=W.heap[c]?) :
  (Instr.lookup 338 (.map (some c)) (.string b) false).run Tryz.prog d=.ok (.bool (has D (.string b.data.toList))) d:=by
 have j:d.ownsMap Tryz.prog 9 (plainElem Tryz.prog 4) c n D:=by obtain⟨k,ck,e,a⟩:=f;exact⟨k,ck,i.trans e,a⟩
 obtain⟨v,ps,e,a⟩:=j.lookup uK uJ (aet d) (zd:=.lit (.bool false)) (zp:=[]) (by simp [plainElem,u4]) (FP b h);rw [g.2] at a;have:v=.bool (has D (.string b.data.toList)):=by unfold plainElem at a;rw [u4] at a;cases v <;> simp at a;rw [a.1]
 rw [e,this]
def eW(h:B8->Bool)(c:B8)(r:Rl):Bool:=decide (r.cat=c)&&match r.ps with
 | [p]=>decide (p.tx=[])&&h p.cat
 | _=>false
def ed(D:DataW Unit)(l:B8):Bool:=has D (.string l)
theorem zQ{I:Addr->Prop}{w:World}{t:B8}{v:Value}(h:au I w (dT t) v):v=.string (bs t)/\(bs t).size<=9223372036854775807:=by
 cases h with
 | lit h=>exact⟨rfl,h⟩
theorem MR{I:Addr->Prop}{w:World}{n:Int}{v:Value}(h:au I w (dI n) v):v=.int .i64 n:=by cases h;rfl
theorem zR(t:B8):(bs t).data.toList=t:=by simp [bs]
theorem zS(a b:B8):((bs a).toList == (bs b).toList)=decide (a=b):=by rw [cd,cd];by_cases e:a=b <;> simp [e]
theorem aev{I:Addr->Prop}{w0:World}(r:Rl)(i:List Value)(U:i.length=5)(j:∀ (k:Nat) (d:D) (v:Value),(bI r).cells[k]?=some d->i[k]?=some v->au I w0 d v)(W:World)(G:∀ a,I a->W.cell? a=w0.cell? a)(c:B8)(f g l n:Nat)(D:DataW Unit)(q:W.cell? ⟨f,0,none⟩=some (.string (bs c)))(V:W.cell? ⟨g,0,none⟩=some (.map (some l)))(H:W.ownsMap Tryz.prog 9 (plainElem Tryz.prog 4) l n D)(X:nV D) :
  Calls Tryz.prog 227 #[.agg i.toArray,.pointer (some ⟨f,0,none⟩),.pointer (some ⟨g,0,none⟩)] W fun e Y=>e=.returned (.bool (eW (ed D) c r))/\Below W.heap.size W Y:=by
 obtain⟨J,K,L,M,N,rfl⟩:∃ J K L M N,i=[J,K,L,M,N]:=by
  match i,U with
  | [a,b,c,d,e],_=>exact⟨a,b,c,d,e,rfl⟩
 obtain⟨rfl,_⟩:=zQ (j 0 _ _ rfl rfl);obtain rfl:=MR (j 1 _ _ rfl rfl);obtain rfl:=MR (j 4 _ _ rfl rfl);obtain⟨O,A,B,t,us,rfl,P,a2,hm,u,b0,ho,C,E⟩:=(j 2 _ _ rfl rfl).gJ;simp only [db] at P;by_cases e:r.cat=c
 case neg =>
  have:eW (ed D) c r=false:=by simp [eW,e]
  rw [this];exact aei W (bs r.cat) (bs c) _ _ _ _ f g q (by rw [zS];simp [e])
 by_cases F:r.ps.length=1
 case neg =>
  have:eW (ed D) c r=false:=by
   unfold eW
   match h:r.ps with
   | []=>simp
   | [p]=>rw [h] at F;exact absurd rfl F
   | _::_::_=>simp
  rw [this];exact aej W (bs r.cat) (bs c) _ _ A O B _ f g q (by rw [zS];simp [e]) (by simp;omega)
 obtain⟨p,w⟩:∃ p,r.ps=[p]:=by
  match h:r.ps,F with
  | [p],_=>exact⟨p,rfl⟩
 rw [w] at C E u;have x:=C 0 (dT p.cat) rfl;have y:=C 2 (dT p.tx) rfl;obtain⟨Z,s0⟩:=zQ (E 0 (dT p.cat) rfl);obtain⟨q2,_⟩:=zQ (E 2 (dT p.tx) rfl);rw [Z,show t.add 0=t by simp [Addr.add]] at x;rw [q2] at y;have u:A=some t:=u.resolve_right (by simp);obtain⟨Q,R,S⟩:=t;have a0:S=none:=by
  have:=x.2;unfold World.cell? at this;split at this
  ·cases S with
   | none=>rfl
   | some s=>simp at this
  ·cases this
 subst a0;rw [cc] at y;have k0:=(G _ x.1).trans x.2;have k2:=(G _ y.1).trans y.2;have a1:O=1:=by rw [P,w];rfl
 subst u;subst a1;by_cases z:p.tx=[]
 case neg =>
  have:eW (ed D) c r=false:=by simp [eW,w,z]
  rw [this];exact aek W (bs r.cat) (bs c) (bs p.tx) _ _ Q R B _ f g q (by rw [zS];simp [e]) k2 (by rw [cd];simp [z])
 have:eW (ed D) c r=ed D p.cat:=by simp [eW,w,z,e]
 rw [this];refine ael W (bs r.cat) (bs c) (bs p.tx) (bs p.cat) _ _ Q R B l _ f g (ed D p.cat) q (by rw [zS];simp [e]) k2 (by rw [cd];simp [z]) k0 V (fun o m=>?_);have T:=aeu H X (bs p.cat) s0 ((W.alloc o).drewN m) (Below.heap_alloc W o l H.lt);rw [zR] at T;exact T
end
section
open Go Go.Proofs.YtloccchppmffpaaGreatDoor.AL Go.RowKit Go.Maps Go.BigFrame Go.Proofs
abbrev xd(W:World)(a n:Nat)(D:DataW Unit):Prop:=W.ownsMap Tryz.prog 9 (plainElem Tryz.prog 4) a n D
abbrev FQ(I:Addr->Prop)(a:World):={x:Rl×List Value // x.2.length=5/\∀ (k:Nat) (d:D) (v:Value),(bI x.1).cells[k]?=some d->x.2[k]?=some v->au I a d v}
theorem MS{w:World}{a:Addr}{v:Value}(h:w.cell? a=some v):a.spot=none:=by
 unfold World.cell? at h;split at h
 ·cases b:a.spot with
  | none=>rfl
  | some s=>rw [b] at h;simp at h
 ·cases h
theorem MT(a:List Rl)(j i:Nat)(b:j<a.length)(d:i<5):(D.flat (a.map bI))[j*5+i]?=(bI a[j]).cells[i]?:=by
 induction a generalizing j with
 | nil=>cases b
 | cons r a c =>
  have e:(bI r).cells.length=5:=rfl;rw [bo,show D.flat (bI r::a.map bI)=(bI r).cells++D.flat (a.map bI) from by simp [D.flat]];cases j with
  | zero=>rw [eY (by omega)];simp
  | succ j =>rw [eJ (by omega),show (j+1)*5+i-(bI r).cells.length=j*5+i by omega];rw [c j (by simpa using b)];rfl
theorem aew{I:Addr->Prop}{w0:World}(g:List Rl)(S:Value)(hr:au I w0 (.sl 5 (g.map bI)) S)(W:World)(E:∀ a,I a->W.cell? a=w0.cell? a)(a1:∀ a,I a->(w0.cell? a).isSome=true)(c:B8)(y z J n:Nat)(D:DataW Unit)(K:W.cell? ⟨y,0,none⟩=some (.string (bs c)))(T:W.cell? ⟨z,0,none⟩=some (.map (some J)))(U:xd W J n D)(a2:nV D) :
  Calls Tryz.prog 228 #[S,.func (.func 227) #[] #[.pointer (some ⟨y,0,none⟩),.pointer (some ⟨z,0,none⟩)]] W fun e F=>e=.returned (.bool (g.any (eW (ed D) c)))/\Below W.heap.size W F:=by
 obtain⟨n1,A,V,s,m,rfl,X,c1,Y,L,c2,ho,b0,b1⟩:=hr.gJ;simp only [db] at X;subst X;by_cases M:g=[]
 ·subst M;refine(aep W A V _).mono ?_;rintro e F ⟨rfl,rfl⟩;exact⟨rfl,Below.refl _ _⟩
 have L:A=some s:=L.resolve_right (by simpa using M);have N:0<g.length:=by cases g with | nil=>exact absurd rfl M | cons _ _=>simp
 have G:∀ j i,j<g.length->i<5->I (s.add (j*5+i))/\w0.cell? (s.add (j*5+i))=some (m (j*5+i)):=fun j i o f=>by have H:=MT g j i o f;obtain⟨d,r⟩:∃ d,(bI (g[j]'o)).cells[i]?=some d:=⟨_,aI (show i<(bI (g[j]'o)).cells.length from f)⟩;rw [r] at H;exact b0 _ _ H
 have B:∀ j i d,(o:j<g.length)->i<5->(bI (g[j]'o)).cells[i]?=some d->au I w0 d (m (j*5+i)):=fun j i d o f r=>b1 _ _ ((MT g j i o f).trans r)
 have Z:s.spot=none:=MS (show w0.cell? s=some (m 0) from by have:=(G 0 0 N (by omega)).2;simpa [Addr.add] using this);obtain⟨b,O,d0⟩:=s;simp only at Z;subst Z;subst L;simp only [cc] at G
 let q:List (FQ I w0):=List.ofFn fun j:Fin g.length=>⟨(g[j.1]'j.2,[m (j.1*5),m (j.1*5+1),m (j.1*5+2),m (j.1*5+3),m (j.1*5+4)]),rfl,fun k d v r l=>by
  match k,l with
  | 0,l=>simp at l;rw [<- l];exact B j.1 0 d j.2 (by omega) r
  | 1,l=>simp at l;rw [<- l];exact B j.1 1 d j.2 (by omega) r
  | 2,l=>simp at l;rw [<- l];exact B j.1 2 d j.2 (by omega) r
  | 3,l=>simp at l;rw [<- l];exact B j.1 3 d j.2 (by omega) r
  | 4,l=>simp at l;rw [<- l];exact B j.1 4 d j.2 (by omega) r
  | k+5,l=>simp at l⟩
 have P:q.length=g.length:=List.length_ofFn;haveI:Inhabited (FQ I w0):=⟨q[0]'(by rw [P];exact N)⟩;have b2:∀ j,j<g.length->W.cell? ⟨b,O+j*5,none⟩=some (m (j*5)):=fun j o=>by have h:=G j 0 o (by omega);exact(E _ h.1).trans h.2
 have b3:=d_ W _ (b2 0 N);have b4:=d_ W _ K;have b5:=d_ W _ T;have b6:∀ a0 w,(callFunc 227 a0).run Tryz.prog w=.ok (.enter 227 a0) w:=enters_of Tryz.func227 (by kernel_rfl) rfl;have b7:=AnyQ.slices_ContainsFunc Tryz.aen 5 (fun w=>by kernel_rfl) (fun w=>by kernel_rfl) (fun x:FQ I w0=>x.1.2) (fun x=>x.2.1) (fun x=>eW (ed D) c x.1.1) 227 #[.pointer (some ⟨y,0,none⟩),.pointer (some ⟨z,0,none⟩)] b6 b O g.length V q W
  (fun b8 x t=>by
   have h:=aev (I:=I) (w0:=w0) x.1.1 x.1.2 x.2.1 x.2.2 b8 (fun a Q=>by obtain⟨u,hu⟩:=eI.1 (a1 a Q);exact(t.cell (d_ W _ ((E a Q).trans hu))).trans (E a Q)) c y z J n D ((t.cell (p:=⟨y,0,none⟩) b4).trans K) ((t.cell (p:=⟨z,0,none⟩) b5).trans T) (by have b9:=U;obtain⟨es,ck,k1,k2⟩:=b9;exact⟨es,ck,(t.block _ (World.ownsMap.lt U)).trans k1,k2⟩) a2
   refine h.mono ?_;rintro e F ⟨rfl,R⟩;exact⟨rfl,t.trans (R.mono t.size)⟩)
  (by omega) (by omega) b3 (fun j o i v f=>by
   rw [P] at o;have c0:(q[j]!).1.2=[m (j*5),m (j*5+1),m (j*5+2),m (j*5+3),m (j*5+4)]:=by rw [vd q j (by rw [P];exact o)];simp [q]
   rw [c0] at f;have C:∀ i,i<5->W.cell? ⟨b,O+j*5+i,none⟩=some (m (j*5+i)):=fun i H=>by have h:=G j i o H;rw [Ay];exact(E _ h.1).trans h.2
   match i,f with
   | 0,f=>simp at f;rw [<- f];exact C 0 (by omega)
   | 1,f=>simp at f;rw [<- f];exact C 1 (by omega)
   | 2,f=>simp at f;rw [<- f];exact C 2 (by omega)
   | 3,f=>simp at f;rw [<- f];exact C 3 (by omega)
   | 4,f=>simp at f;rw [<- f];exact C 4 (by omega)
   | i+5,f=>simp at f)
 refine b7.mono ?_;rintro e F ⟨rfl,R⟩;refine⟨?_,R⟩;have Y:q.map (fun x=>x.1.1)=g:=by
  apply Hy
  ·simp [q]
  ·intro j K h2;simp [q]
 have:(q.take g.length).any (fun x=>eW (ed D) c x.1.1)=g.any (eW (ed D) c):=by
  rw [d' (by omega)]
  conv=>rhs;rw [<- Y,List.any_map]
  rfl
 rw [this]
def sK(a:List Rl)(h:B8->Bool):Prop:=∀ l,h l=true->a.any (eW h l)=true
theorem aex{h b:B8->Bool}(d:∀ l,h l=true->b l=true){c:B8}{r:Rl}(q:eW h c r=true):eW b c r=true:=by
 unfold eW at q |-;simp only [ax] at q |-;refine⟨q.1,?_⟩;have a:=q.2;split at a
 ·rename_i p e;simp only [ax] at a |-;exact⟨a.1,d _ a.2⟩
 ·cases a
theorem aey{h a:B8->Bool}(d:∀ l,h l=true->a l=true){c:B8}{b:List Rl}(q:b.any (eW h c)=true):b.any (eW a c)=true:=by rw [jE] at q |-;obtain⟨r,e,f⟩:=q;exact⟨r,e,aex d f⟩
def k'(g:Gr):Prop:=∃ h:B8->Bool,(∃ l,h l=true)/\(∀ l,h l=true->l∈g.aN)/\sK g.rs h
def uL(g:Gr)(D:DataW Unit):Prop:=nV D/\(∀ l,ed D l=true->l∈g.aN)/\∀ h:B8->Bool,(∀ l,h l=true->l∈g.aN)->sK g.rs h->∀ l,h l=true->ed D l=true
theorem MU{D:DataW Unit}{x l:B8}:ed (D.del (.string x)) l=(ed D l&&!decide (l=x)):=by
 unfold ed;by_cases e:l=x
 ·subst e;rw [has_del_same];simp
 ·rw [has_del_other (by simpa using e)];simp [e]
theorem aez{g:Gr}{D:DataW Unit}(h:uL g D){x:B8}(f:g.rs.any (eW (ed D) x)=false):uL g (D.del (.string x)):=by
 refine⟨aes h.1 x,fun l a=>h.2.1 l (by rw [MU] at a;simp at a;exact a.1),fun S c b l a=>?_⟩;rw [MU,h.2.2 S c b l a];have:l≠x:=fun e=>by subst e;have d:=aey (h.2.2 S c b) (b l a);rw [f] at d;cases d
 simp [this]
def qP(g:Gr)(a D:DataW Unit)(left:Lit->Bool):Prop :=
 uL g D/\(sK g.rs (ed a)->D=a)/\((D=a/\∀ l,ed a l=true->left (.string l)=false->g.rs.any (eW (ed a) l)=true)\/size D<size a)
theorem aeA{g:Gr}{a:DataW Unit}(h:uL g a):qP g a a (has a):=⟨h,fun _=>rfl,.inl ⟨rfl,fun l b c=>by unfold ed at b;rw [b] at c;cases c⟩⟩
theorem aeB{g:Gr}{a D:DataW Unit}{left:Lit->Bool}(h:qP g a D left){x:B8}(b:g.rs.any (eW (ed D) x)=true):qP g a D (fun z=>left z&&!z.sameKey (.string x)):=by
 refine⟨h.1,h.2.1,h.2.2.imp (fun⟨e,q⟩=>⟨e,fun l f i=>?_⟩) id⟩;by_cases c:l=x
 ·subst c;rw [e] at b;exact b
 ·refine q l f ?_;have:(Lit.string l).sameKey (.string x)=false:=sameKey_ne (by simpa using c);have d:(left (.string l)&&!(Lit.string l).sameKey (.string x))=false:=i;rw [this] at d;simpa using d
theorem aeC{g:Gr}{a D:DataW Unit}{left f:Lit->Bool}(h:qP g a D left)(i:Tidy D)(j:size D<=size a){x:B8}(b:ed D x=true)(c:g.rs.any (eW (ed D) x)=false):qP g a (D.del (.string x)) f:=by
 refine⟨aez h.1 c,fun d=>?_,.inr ?_⟩
 ·have e:=h.2.1 d;subst e;rw [d x b] at c;cases c
 ·have:=size_del i (k:=.string x);unfold ed at b;rw [b] at this;simp at this;omega
theorem aeD{g:Gr}{a D:DataW Unit}{left:Lit->Bool}(h:qP g a D left):size D<=size a:=by
 rcases h.2.2 with ⟨e,_⟩ | h
 ·rw [e];exact bj _
 ·omega
theorem aeE{g:Gr}{b D:DataW Unit}{left:Lit->Bool}(h:qP g b D left)(c:∀ d,left d=false){m:Nat}(a:size b<=m\/sK g.rs (ed b)):uL g D/\(size D<=m-1\/sK g.rs (ed D)):=by
 refine⟨h.1,?_⟩;rcases h.2.2 with ⟨e,q⟩ | i
 ·right;subst e;exact fun l f=>q l f (c _)
 ·rcases a with a | a
  ·left;omega
  ·have e:=h.2.1 a;subst e;omega
structure At3 (w w3:World) (gb mb lb:Nat) (csl rsl:Value):Prop where
 low:Below w.heap.size w w3
 FR:w3.cell? ⟨lb,0,none⟩=some (.map (some mb))
 cs:w3.cell? ⟨gb,1,none⟩=some csl
 rs:w3.cell? ⟨gb,5,none⟩=some rsl
 own:xd w3 mb 0 (.map [])
 gm:gb≠mb
 lm:lb≠mb
 wm:w.heap.size<=mb
theorem MV(w:World)(c a d e f b:Value)(t g:TypeId):At3 w (((w.alloc (.cells #[c,a,d,e,f,b] t)).alloc (.map #[] 0)).alloc (.cells #[.map (some (w.heap.size+1))] g)) w.heap.size (w.heap.size+1) (w.heap.size+1+1) a b:=by
 have i:(w.alloc (.cells #[c,a,d,e,f,b] t)).heap.size=w.heap.size+1:=by simp
 have j:((w.alloc (.cells #[c,a,d,e,f,b] t)).alloc (.map #[] 0)).heap.size=w.heap.size+1+1:=by simp
 have k:(((w.alloc (.cells #[c,a,d,e,f,b] t)).alloc (.map #[] 0)).alloc (.cells #[.map (some (w.heap.size+1))] g)).heap[w.heap.size]?=some (.cells #[c,a,d,e,f,b] t (0,0)):=by rw [Below.heap_alloc _ _ _ (by rw [j];omega),Below.heap_alloc _ _ _ (by rw [i];omega)];exact iK _ _
 have l:(((w.alloc (.cells #[c,a,d,e,f,b] t)).alloc (.map #[] 0)).alloc (.cells #[.map (some (w.heap.size+1))] g)).heap[w.heap.size+1+1]?=some (.cells #[.map (some (w.heap.size+1))] g (0,0)):=by rw [<- j];exact iK _ _
 refine⟨(((Below.refl _ w).alloc (bj _) _).alloc (by rw [i];omega) _).alloc (by rw [j];omega) _,?_,?_,?_,?_,by omega,by omega,by omega⟩
 ·unfold World.cell?;rw [l];rfl
 ·unfold World.cell?;rw [k];rfl
 ·unfold World.cell?;rw [k];rfl
 ·have h:=World.ownsMap_made (H:=Unit) (w.alloc (.cells #[c,a,d,e,f,b] t)) Tryz.prog 9 (plainElem Tryz.prog 4);rw [i] at h;exact h.alloc _
theorem elT:plainElem (H:=Unit) Tryz.prog 4 (.bool true)=some (.lit (.bool true),[]):=by simp [plainElem,u4]
theorem MW{a:Value}{b:Lit}(h:keyOf Tryz.prog 9 a=some b):∃ s,a=.string s:=by cases a <;> simp [keyOf,u9,mapKey] at h;exact⟨_,rfl⟩
theorem MX{s:ByteArray}{b:Lit}(h:keyOf Tryz.prog 9 (.string s)=some b):b=.string s.data.toList/\s.size<=9223372036854775807:=by
 simp [keyOf,u9,mapKey,maxLen] at h;by_cases a:s.size<=9223372036854775807
 ·simp only [a,eA] at h;injection h with h;exact⟨h.symm,a⟩
 ·simp only [a,eM] at h;cases h
theorem aeF(x:ByteArray):∃ l,x=bs l:=⟨x.data.toList,by cases x;simp [bs]⟩
theorem aeG{v:Value}{y:DataW Unit×List MemPlace}(h:plainElem Tryz.prog 4 v=some y):∃ c,v=.bool c:=by unfold plainElem at h;rw [u4] at h;cases v <;> simp at h;exact⟨_,rfl⟩
theorem aeH{P:Program}(s:P=Tryz.prog)(w:World){g:Array Oper}{rest:List Oper}{o:Oper}{a:Act}{Q:Exit->Act->World->Prop}(t:o.guard=none)(i:Operand)(u:o.op=Op.next i false)(b r n:Nat)(D:DataW Unit)(left:Lit->Bool)(e:Nat)(hit:a.eval i=.pointer (some ⟨r,0,none⟩))(h:w.ranges P 9 (plainElem P 4) b r n D left e)(v:e=0->(∀ j,left j=false)->wpList P g Q rest (a.put o.dst (.tuple #[.bool false])) w)(A:∀ (l:B8) (k:Value) (d:World) (f:Nat),(bs l).size<=9223372036854775807->left (.string l)=true->has D (.string l)=true->d.ranges P 9 (plainElem P 4) b r n D (fun z=>left z&&!z.sameKey (.string l)) f->f<e ->w.grownBy d (some r)->d.heap.size=w.heap.size->(Instr.entry (.pointer (some ⟨r,0,none⟩))).run P d=.ok (.tuple #[.string (bs l),k]) d->wpList P g Q rest (a.put o.dst (.tuple #[.bool true,.string (bs l),k])) d) :
  wpList P g Q (o::rest) a w:=by
 subst s;refine wpList_next_ranges w t i u 9 uK (plainElem Tryz.prog 4) Value.string Value.bool (fun _ _ h=>MW h) (fun _ _ h=>aeG h) b r n D left e hit h v (fun x c j y d f B m I p q C E F G=>?_);obtain⟨rfl,H⟩:=MX B;obtain⟨l,rfl⟩:=aeF x;rw [zR] at m p q;exact A l _ d f H m (has_true_of_atKey p) q C E F G
theorem aeI{W:World}{i n:Nat}{D:DataW Unit}(h:xd W i n D)(c:0<size D):∃ l,ed D l=true:=by
 obtain⟨o,ck,q,F,r,rfl⟩:=h;rw [size_eq] at c;obtain⟨p,d⟩:=List.exists_mem_of_length_pos c;rw [mem_sorted] at d;obtain⟨x,f,rfl⟩:=aS.1 d;obtain⟨y,g⟩:=F.reads x f;have e:WideElems.rg Tryz.prog 9 (plainElem (H:=Unit) Tryz.prog 4) x=y:=by unfold WideElems.rg;rw [g];rfl
 have j:∃ l,y.1=.string l:=by have a:=g;unfold WideElems.rd at a;simp only [ahR,bZ] at a;obtain⟨t,b,z,u,rfl⟩:=a;obtain⟨s,k⟩:=MW b;rw [k] at b;exact⟨_,(MX b).1⟩
 obtain⟨l,m⟩:=j;refine⟨l,?_⟩;unfold ed;rw [has_eq,jE];exact⟨_,mem_sorted.2 (aS.2 ⟨x,f,rfl⟩),by rw [e,m];simp [Lit.sameKey]⟩
theorem below_grown{w a:World}(h:Below w.heap.size w a):w.grownBy a none:=⟨h.os,h.tape,h.output,h.size,fun i b _=>h.block i b⟩
set_option maxRecDepth 100000 in
theorem aeJ{I:Addr->Prop}(g:Gr)(w:World)(v0 v2 v3 v4:Value)(b off cap N:Nat)(rsl:Value)(hrs:au I w (.sl 5 (g.rs.map bI)) rsl)(hIs:∀ a,I a->(w.cell? a).isSome=true)(hn:g.aN.length=N)(hb:b<w.heap.size)(hN:N<=1000000)(hc:∀ j,j<N->w.cell? ⟨b,off+j,none⟩=some (.string (bs (g.aN.getD j []))))(hs:∀ j,j<N->(bs (g.aN.getD j [])).size<=9223372036854775807) :
  Calls Tryz.prog 189 #[.agg #[v0,.slice (some ⟨b,off,none⟩) N cap,v2,v3,v4,rsl]] w fun e w'=>(∃ r,e=.returned (.bool r)/\(r=true↔k' g))/\Below w.heap.size w w':=by
 have hmm:=@run_makeMap Tryz.prog
 go_enter Tryz.func189,Tryz.ntmps189
 go_wp2
 have f:=MV w v0 (.slice (some ⟨b,off,none⟩) N cap) v2 v3 v4 rsl 31 338;generalize (((w.alloc (Obj.cells #[v0,Value.slice (some {block:=b,off:=off}) N cap,v2,v3,v4,rsl] 31)).alloc (Obj.map #[] 0)).alloc (Obj.cells #[Value.map (some (w.heap.size+1))] 338))=w3 at *;generalize hgb:w.heap.size=gb at *
 go_loopw [12] (fun i wr=>∃ (k:Nat) (D:DataW Unit),k<=N/\i=.int .i64 k/\xd wr (gb+1) k D/\nV D/\(∀ l,ed D l=decide (l∈g.aN.take k))/\w3.grownBy wr (some (gb+1)))
  (fun i _=>N-(intOf i).toNat)
 case atStart=>exact⟨0,_,bp _,rfl,f.own,aeq,fun l=>by simp [ed,has],World.grownBy.refl _ _⟩
 case round =>
  obtain⟨k,D,hk,rfl,hown,hset,hD,hg⟩:=hrel;have hcx:k<N->wr.cell? ⟨b,off+k,none⟩=some (.string (bs (g.aN.getD k []))):=fun h=>hg.cell ((f.low.cell (p:=⟨b,off+k,none⟩) (by rw [hgb];exact hb)).trans (hc k h)) (by simp only [ne_eq,aL];show ¬ b=gb+1;omega)
  have hlx:wr.cell? ⟨gb+1+1,0,none⟩=some (.map (some (gb+1))):=hg.cell f.FR (by simp);by_cases hlt:k<N
  ·have hcx:=hcx hlt;have hkey:=FP (bs (g.aN.getD k [])) (hs k hlt);rw [zR] at hkey;generalize hcc:g.aN.getD k []=cc at *
   go_wp2_with (first
    | (at_mapUpdate;refine wpList_mapUpdate_own _ rfl _ _ _ 338 rfl 9 4 uK uJ (plainElem (H:=Unit) Tryz.prog 4) (gb+1) k _ rfl hown (by unfold maxLen;omega) _ _ _ rfl rfl hkey (.lit (.bool true)) [] elT ?_;intro w1 hown1 hgrow1)
    | go_in)
   refine⟨⟨k+1,_,by omega,by simp,hown1,aer hset cc,fun l=>?_,hg.andThen hgrow1 (fun j hj=>Or.inr hj)⟩,by simp [intOf];omega⟩;have htk:g.aN.take (k+1)=g.aN.take k++[cc]:=by rw [PX,<- hcc,fQ];rw [aI (by omega)];rfl
   unfold ed at hD |-;by_cases e:l=cc
   ·subst e;rw [has_put_same hset.1 (by simp [WideAt.IsKeyLit]),htk];simp
   ·rw [has_put_other (by simpa using e),hD l,htk];simp [e]
  ·have e9:k=N:=by omega
   subst e9;have hcs:wr.cell? ⟨gb,1,none⟩=some (.slice (some ⟨b,off,none⟩) k cap):=hg.cell f.cs (by simp)
   go_wp2
   generalize wr=wa at *
   go_loopw [22] (fun i wq=>∃ (m:Nat) (D:DataW Unit),m<=k/\i=.int .i64 m/\xd wq (gb+1) k D/\uL g D/\(size D<=k-m\/sK g.rs (ed D))/\w3.grownBy wq (some (gb+1)))
    (fun i _=>k-(intOf i).toNat)
   case atStart =>
    refine⟨0,D,bp _,rfl,hown,⟨hset,fun l h=>?_,fun S hS _ l hl=>?_⟩,.inl hown.size_le,hg⟩
    ·rw [hD l] at h;exact ir (by simpa using h)
    ·rw [hD l,d' (by omega)];simpa using hS l hl
   case round =>
    obtain⟨m,D1,hm,rfl,hown1,hA,hsz,hg1⟩:=hrel;have hlx1:wr.cell? ⟨gb+1+1,0,none⟩=some (.map (some (gb+1))):=hg1.cell f.FR (by simp);by_cases hmk:m<k
    ·go_wp2_with (first
      | (at_range;refine wpList_range_own _ rfl _ 338 rfl 9 4 uK uJ _ (gb+1) k _ rfl hown1 ?_;intro wi hrg0 hgi hsi)
      | go_in)
     go_frame
     generalize wr=wb at *
     go_loopw [26] (fun _ wq=>∃ (D:DataW Unit) (left:Lit->Bool) (cnt:Nat),wq.ranges Tryz.prog 9 (plainElem Tryz.prog 4) (gb+1) wb.heap.size k D left cnt/\qP g D1 D left/\w3.grownBy wq (some (gb+1)))
      (fun _ wq=>wq.rangeLeft (gb+1) wb.heap.size)
     case atStart=>exact⟨_,_,_,hrg0,aeA hA,hg1.andThen hgi (fun j hj=>by cases hj)⟩
     case round =>
      obtain⟨D2,left,cnt,hrg,hR,hgq⟩:=hrel
      go_wp2_with (first
       | (at_next;refine aeH rfl _ rfl _ rfl (gb+1) wb.heap.size k _ _ _ rfl hrg ?_ ?_)
       | go_in)
      ·intro hc0 hl0
       go_wp2
       have h9:=aeE hR hl0 hsz;refine⟨⟨m+1,D2,by omega,by simp,hrg.owns,h9.1,h9.2.imp (fun h=>by omega) id,hgq⟩,by simp [intOf];omega⟩
      ·intro lx cv w1 cnt1 hxs hlk hhas hrg1 hlt1 hgn hs1 hen;have hgq1:=hgq.andThen hgn (fun j hj=>by cases hj;exact .inl hg1.size);have hlx2:w1.cell? ⟨gb+1+1,0,none⟩=some (.map (some (gb+1))):=hgq1.cell f.FR (by simp);have hrx2:w1.cell? ⟨gb,5,none⟩=some rsl:=hgq1.cell f.rs (by simp);have hltg:gb<wr.heap.size:=by rw [<- hs1];exact d_ w1 _ hrx2
       have hltl:gb+1+1<wr.heap.size:=by rw [<- hs1];exact d_ w1 _ hlx2
       have hcb:(w1.alloc (.cells #[.string (bs lx)] 9)).cell? ⟨wr.heap.size,0,none⟩=some (.string (bs lx)):=by unfold World.cell?;rw [<- hs1,show (w1.alloc (.cells #[.string (bs lx)] 9)).heap[w1.heap.size]?=some (.cells #[.string (bs lx)] 9 (0,0)) from iK _ _];rfl
       have hlb:(w1.alloc (.cells #[.string (bs lx)] 9)).cell? ⟨gb+1+1,0,none⟩=some (.map (some (gb+1))):=(sU (Below.heap_alloc w1 _ _ (by rw [hs1];exact hltl))).trans hlx2;have hWI:∀ a,I a->(w1.alloc (.cells #[.string (bs lx)] 9)).cell? a=w.cell? a:=fun a ha=>by obtain⟨u,hu⟩:=eI.1 (hIs a ha);have ha1:=d_ w _ hu;have h3:=(f.low.cell (p:=a) ha1).trans hu;have h5:=hgq1.cell h3 (by simp;omega);rw [sU (Below.heap_alloc w1 _ _ (d_ w1 _ h5)),h5,hu]
       have hcall:=aew (I:=I) (w0:=w) g.rs rsl hrs (w1.alloc (.cells #[.string (bs lx)] 9)) hWI hIs lx wr.heap.size (gb+1+1) (gb+1) k D2 hcb hlb (hrg1.owns.alloc _) hR.1.1;have hkeyl:=FP (bs lx) hxs;rw [zR] at hkeyl;cases hq:g.rs.any (eW (ed D2) lx) with
       | true =>
        rw [hq] at hcall
        go_wp2_with (go_at_fn 228;fail)
        refine hcall.mono ?_;rintro e w4 ⟨rfl,hb4⟩;have hg4:=below_grown hb4;have hrg4:=(hrg1.alloc (.cells #[.string (bs lx)] 9)).kept hg4 (by simp) (by simp);have hl4:=hg4.cell hlb (by simp);have hc4:=hg4.cell hcb (by simp);have hgq4:=(hgq1.andThen (World.grownBy_alloc w1 (.cells #[.string (bs lx)] 9) none) (fun j hj=>by cases hj)).andThen hg4 (fun j hj=>by cases hj);dsimp only
        go_wp2
        refine⟨⟨D2,_,cnt1,hrg4,aeB hR hq,hgq4⟩,by rw [hrg4.left_eq,hrg.left_eq];exact hlt1⟩
       | false =>
        rw [hq] at hcall
        go_wp2_with (go_at_fn 228;fail)
        refine hcall.mono ?_;rintro e w4 ⟨rfl,hb4⟩;have hg4:=below_grown hb4;have hrg4:=(hrg1.alloc (.cells #[.string (bs lx)] 9)).kept hg4 (by simp) (by simp);have hl4:=hg4.cell hlb (by simp);have hc4:=hg4.cell hcb (by simp);have hgq4:=(hgq1.andThen (World.grownBy_alloc w1 (.cells #[.string (bs lx)] 9) none) (fun j hj=>by cases hj)).andThen hg4 (fun j hj=>by cases hj);dsimp only
        go_wp2_with (first
         | (at_delete;refine wpList_delete_ranges _ rfl _ _ 338 9 rfl 4 uK uJ _ (gb+1) wb.heap.size k _ _ _ rfl hrg4 _ _ rfl hkeyl ?_;intro w5 cnt5 hrg5 hle hturn;go_frame)
         | go_in)
        refine⟨⟨_,_,cnt5,hrg5,aeC hR (hrg1.owns.tidy uK) (aeD hR) hhas hq,hgq4.andThen hturn.grown (fun j hj=>by cases hj;exact Or.inr rfl)⟩,by rw [hrg5.left_eq,hrg.left_eq];omega⟩
    ·have e8:m=k:=by omega
     subst e8;have hlen:=hown1.len uJ
     go_wp2
     go_ret
     refine⟨⟨_,rfl,?_⟩,f.low.grown hg1 (by rw [hgb];have:=f.low.size;omega) (fun j hj=>by cases hj;omega)⟩;rw [bD];constructor
     ·intro hp;refine⟨ed D1,aeI hown1 hp,hA.2.1,hsz.resolve_left (by omega)⟩
     ·rintro⟨h,⟨l,hl⟩,h2,h3⟩;have h4:=hA.2.2 h h2 h3 l hl;obtain⟨es,rfl⟩:=hA.1.1;cases es with
      | nil=>cases h4
      | cons p es=>simp [size_eq]
theorem aeK(w:World)(v0 v2 v3 v4:Value)(A:Option Addr)(cap:Nat)(rsl:Value) :
  Calls Tryz.prog 189 #[.agg #[v0,.slice A 0 cap,v2,v3,v4,rsl]] w fun e w'=>e=.returned (.bool false)/\Below w.heap.size w w':=by
 have hmm:=@run_makeMap Tryz.prog
 go_enter Tryz.func189,Tryz.ntmps189
 go_wp2
 refine wp_loop_rounds 1 ?_;rw [rounds_succ]
 go_wp2
 refine wp_loop_rounds 1 ?_;rw [rounds_succ];have f:=MV w v0 (.slice A 0 cap) v2 v3 v4 rsl 31 338;have hlen:=f.own.len uJ
 go_wp2
 go_ret
 refine⟨rfl,f.low⟩
open Classical in
theorem aeL(g:Gr)(R:g.aN.length<=1000000):PC 189 [bq g] (.ret (dB (decide (k' g)))):=by
 refine⟨⟨_,Tryz.func189,by kernel_rfl,by kernel_rfl⟩,fun I w a1 E a2 S=>?_⟩;obtain⟨x,rfl,T⟩:=LA S;obtain⟨U,rfl,V,_,J⟩:=au.rK T;obtain⟨l⟩:=U;obtain⟨s,F,t,y,z,n,rfl⟩:∃ s F t y z n,l=[s,F,t,y,z,n]:=by
  match l,V with
  | [a,b,c,d,e,f],_=>exact⟨a,b,c,d,e,f,rfl⟩
 have W:=J 5 _ n rfl rfl;obtain⟨n1,A,K,o,us,rfl,L,b0,hm,G,b1,ho,X,Y⟩:=(J 1 _ F rfl rfl).gJ;simp only [db] at L;subst L;have M:∀ (r:Bool) (e:Ending) (i:World),(e=.returned (.bool r)/\(r=true↔k' g))->Below w.heap.size w i->∃ (B:Addr->Prop) (v:Value),(∀ a,I a->B a)/\(∀ a,B a->I a\/w.heap.size<=a.block)/\(∀ a,B a->(i.cell? a).isSome=true)/\ct w i/\Bz (.ret (dB (decide (k' g)))) B i e v w:=fun r e i h k=>by
  refine⟨I,.bool r,fun a h=>h,fun a h=>.inl h,fun a N=>?_,⟨k.os,k.tape,k.output,k.size,k.block⟩,h.1,?_⟩
  ·obtain⟨u,Z⟩:=eI.1 (E a N);rw [k.cell (d_ w _ Z)];exact E a N
  ·have:r=decide (k' g):=by
    cases r with
    | true=>exact(tf (h.2.1 rfl)).symm
    | false=>exact(xM fun q=>by have:=h.2.2 q;cases this).symm
   rw [this];exact .lit trivial
 by_cases C:g.aN=[]
 ·rw [C];refine(aeK w s t y z A K n).mono fun e i h=>M false e i ⟨h.1,?_⟩ h.2
  constructor
  ·intro h;cases h
  ·rintro⟨h,⟨l,hl⟩,H,_⟩;have:=H l hl;rw [C] at this;cases this
 have G:A=some o:=G.resolve_right (by simpa using C);have O:0<g.aN.length:=by
  cases h:g.aN with
  | nil=>exact absurd h C
  | cons _ _=>simp
 have p:∀ j,j<g.aN.length->w.cell? (o.add j)=some (.string (bs (g.aN.getD j [])))/\(bs (g.aN.getD j [])).size<=9223372036854775807:=fun j m=>by
  have P:(D.flat (g.aN.map dT))[j]?=some (dT (g.aN.getD j [])):=by rw [wF,bG,aI m,fQ,aI m];rfl
  obtain⟨q1,q2⟩:=zQ (Y _ _ P);exact⟨by rw [<- q1];exact(X _ _ P).2,q2⟩
 have Q:o.spot=none:=MS (show w.cell? o=some _ from by have:=(p 0 O).1;simpa [Addr.add] using this);obtain⟨b,a0,b2⟩:=o;simp only at Q;subst Q;subst G;simp only [cc] at p;refine(aeJ g w s t y z b a0 K g.aN.length n W E rfl (d_ w _ (p 0 O).1) R (fun j m=>(p j m).1) (fun j m=>(p j m).2)).mono fun e i h=>?_
 obtain⟨⟨r,h1⟩,H⟩:=h;exact M r e i h1 H
end
section
attribute [local simp] cK cI cJ cG cH cd bS cA gP sj sk sm mq mr mu nE nF nG kO kP kQ
def jA(s:B8)(i:Int):Ix->Ix
 | []=>[(s,i)]
 | e::r=>if e.1=s then (e.1,i)::r else e::jA s i r
theorem MY{s:B8}{i:Int}:∀ {a:Ix},hR s a=none->jA s i a=a++[(s,i)]
 | [],_=>rfl
 | e::r,h=>by
  unfold hR at h;rw [q_] at h;by_cases q:e.1=s
  ·have:(e.1 == s)=true:=by simpa using q
   rw [this] at h;cases h
  ·have b:(e.1 == s)=false:=by simpa using q
   rw [b] at h;rw [jA,ab q,MY h];rfl
def im(a:Ix)(l:List B8)(i:Nat):Ix:=match l with
 | []=>a
 | s::l=>im (jA s i a) l (i+1)
def aZ(g:Gr):Ix:=im [] g.aN 0
theorem aeM(a:Ix)(l:List B8)(i:Nat)(s:B8):im a (l++[s]) i=jA s (i+l.length:Nat) (im a l i):=by
 induction l generalizing a i with
 | nil=>rfl
 | cons x l b=>simp only [dX,im];rw [b];congr 2;simp;omega
def jB(g:Gr):Int:=if (32<g.aN.length\/512<g.es.length)\/128<g.rs.length then 2 else if (aZ g).length≠g.aN.length\/lI (aZ g) g=false then 260 else 0
theorem MZ(s:B8)(i:Int):∀ a:Ix,(jA s i a).length<=a.length+1
 | []=>by simp [jA]
 | e::r=>by
  rw [jA];split
  ·simp
  ·have:=MZ s i r;simp;omega
theorem aeN(a:Ix)(l:List B8)(i:Nat):(im a l i).length<=a.length+l.length:=by
 induction l generalizing a i with
 | nil=>simp [im]
 | cons x l b=>simp only [im];have:=b (jA x i a) (i+1);have:=MZ x i a;simp;omega
theorem M_(s:B8)(i:Int):∀ a:Ix,hR s a≠none->fj (.string (bs s)) (.d (dI i)) (a.map fM)=(jA s i a).map fM
 | [],h=>absurd rfl h
 | e::r,h=>by
  rw [bo,show fM e=(.string (bs e.1),.d (dI e.2)) from rfl,fj,rV,jA];by_cases q:e.1=s
  ·subst q;simp [fM,pd]
  ·have b:¬ s=e.1:=fun h=>q h.symm
   have c:(e.1 == s)=false:=by simpa using q
   unfold hR at h;rw [q_,c] at h;rw [ab q,bo,<- M_ s i r h];simp [pd,b,fM]
theorem aeO(b:Nat->Nat)(n o)(k:Nat)(a:Ix):aq.ba b n o k (a.map ((fun x=>x.snd)∘fM)) (a.map ((fun x=>x.snd)∘fM))=True:=fi (hS b n o k a)
theorem aeP(b:Nat->Nat)(n o)(k:Nat)(a:Ix)(d:D):aq.ba b n o k (a.map ((fun x=>x.snd)∘fM)++[.d d]) (a.map ((fun x=>x.snd)∘fM)++[.d d])=True:=fi (by
 have:a.map ((fun x=>x.snd)∘fM)++[AV.d d]=(a.map (fun e=>dI e.2)++[d]).map AV.d:=by rw [dc,dA];rfl
 rw [this];exact js _ _ _ _ _)
theorem aeQ(a:Ix):eB (a.map fM)=false:=by cases a <;> rfl
attribute [local simp] aeO aeP aeQ
noncomputable def hg(g:Gr):Int:=open Classical in if jB g≠0 then jB g else if k' g then 261 else 0
def gu(s:B8)(a:Ix):Int:=(hR s a).getD 0
def pj(a:Ix)(y:En):En:={y with cn:=gu y.cat a}
def kh(a:Ix)(p:Pt):Pt:={p with cn:=if p.tx=[] then gu p.cat a else 0}
def uM(a:Ix)(r:Rl):Rl:={r with cn:=gu r.cat a,ps:=r.ps.map (kh a)}
def uN:Gr:=⟨[],[],[],0,[],[]⟩
def jC(a:Ix)(g:Gr):Gr:={g with sn:=gu g.start a,es:=g.es.map (pj a),rs:=g.rs.map (uM a)}
inductive FT:FuncId->List D->Out->Prop
 | M' (g:Gr) (r:Bool):PC 189 [bq g] (.ret (dB r))->FT 189 [bq g] (.ret (dB r))
theorem aeR:∀ f a b,FT f a b->PC f a b:=by
 intro f a b h;cases h with
 | M' g r h=>exact h
theorem aeS(g:Gr)(a:g.aN.length<=1000000):∃ r:Bool,PC 189 [bq g] (.ret (dB r))/\(r=true↔k' g) :=
 ⟨@decide (k' g) (Classical.propDecidable _),aeL g a,by simp⟩
noncomputable def qQ(g:Gr):D:=.af [bq (if hg g=0 then jC (aZ g) g else uN),dI (hg g)]
theorem zT{s:B8}{a:Ix}(h:kU s a=true):hR s a=some (gu s a):=by
 unfold kU at h;unfold gu;cases q:hR s a with
 | none=>rw [q] at h;cases h
 | some j=>rfl
theorem zU{a:Ix}{g:Gr}(h:lI a g=true):hR g.start a=some (gu g.start a)/\(∀ y∈g.es,hR y.cat a=some (gu y.cat a))/\∀ r∈g.rs,hR r.cat a=some (gu r.cat a)/\r.ps≠[]/\∀ p∈r.ps,p.tx=[]->hR p.cat a=some (gu p.cat a):=by
 unfold lI at h;simp only [ax] at h;obtain⟨_,_,_,d,b,c⟩:=h;rw [bQ] at b c;refine⟨zT d,fun y f=>?_,fun r i=>?_⟩
 ·have:=b y f;unfold kV at this;simp only [ax] at this;exact zT this.2.1
 ·have:=c r i;unfold kX at this;simp only [ax] at this;obtain⟨k1,k2,_,_,k3,_⟩:=this;refine⟨zT k1,fun e=>?_,fun p j k=>?_⟩
  ·rw [e] at k2;simp [fe] at k2
  ·have k4:=bQ.1 k3 p j;unfold mz at k4;rw [aj k] at k4;exact zT k4
def f_(n:Nat)(l:Nat):AV:=if l=0 then .e0 5 else .aE n 0 5 l l
def la(g:Gr)(a:Ix)(k:Nat):List En:=(g.es.take k).map (pj a)++g.es.drop k
def iq(g:Gr)(a:Ix)(E:List En)(R:List AV)(L:List (Nat×HO)):List (Nat×HO) :=
 [(0,.box true [.d (dT g.name),.d (.sl 1 (g.aN.map dT)),.d (dT g.start),.d (dI g.sn),.d (.sl 5 (g.es.map df)),.d (.sl 5 (g.rs.map bI))]),
  (1,.box true [.d (dT g.name),.d (.sl 1 (g.aN.map dT)),.d (dT g.start),.d (dI (gu g.start a)),f_ 4 g.es.length,f_ 5 g.rs.length]),
  (2,.aA (a.map fM)),(3,.box false [.mp 2]),(4,if g.es.length=0 then .dead else .box true (wr (E.map df))),(5,if g.rs.length=0 then .dead else .box true R)]++L
theorem sL(x:D)(l:List D):wr (x::l)=x.cells.map .d++wr l:=by simp [wr,D.flat]
theorem xe{z:Nat}{a:List D}{i k:Nat}{e d:D}(b:∀ e∈a,e.cells.length=z)(h:a[i]?=some e)(c:e.cells[k]?=some d):(wr a)[i*z+k]?=some (.d d):=by have f:=b e (dh h);have g:=(bu.1 c).1;have:=flat_get b h k (by omega);rw [wr,bG,this,c];rfl
theorem uO{z:Nat}:∀ {es:List D}{i k:Nat}{cs:List D}{v:D},(∀ e∈es,e.cells.length=z)->es[i]?=some (.agg cs)->cs.length=z->k<z->(wr es).set (i*z+k) (.d v)=wr (es.set i (.agg (cs.set k v)))
 | [],i,k,cs,v,_,h,_,_=>by simp at h
 | e::es,i,k,cs,v,b,h,d,f=>by
  have a:=b e (by simp);cases i with
  | zero =>simp at h;subst h;rw [AS,sL,sL,Nat.zero_mul,bC,List.set_append_left _ _ (by simp [D.cells];omega)];simp [D.cells,ra]
  | succ i =>
   have g:=uO (es:=es) (i:=i) (k:=k) (cs:=cs) (v:=v) (fun e a=>b e (by simp [a])) (by simpa using h) d f;have c:(e.cells.map AV.d).length=z:=by simpa using a
   rw [xD,sL,sL,<- g,HB _ _ (by rw [c,Hi];omega),c];congr 2;rw [Hi];omega
theorem aeT(l:List En):(D.flat (l.map df)).length=l.length*5:=(fU (sz:=5) (fun e a=>by obtain⟨y,_,rfl⟩:=aS.1 a;rfl)).trans (by simp)
theorem zV(l:List Rl):(D.flat (l.map bI)).length=l.length*5:=(fU (sz:=5) (fun e a=>by obtain⟨y,_,rfl⟩:=aS.1 a;rfl)).trans (by simp)
theorem Na(l:List En):∀ e∈l.map df,e.cells.length=5:=fun e a=>by obtain⟨y,_,rfl⟩:=aS.1 a;rfl
theorem zW(l:List Rl):∀ e∈l.map bI,e.cells.length=5:=fun e a=>by obtain⟨y,_,rfl⟩:=aS.1 a;rfl
theorem Nb(l:List Pt):∀ e∈l.map bA,e.cells.length=3:=fun e a=>by obtain⟨y,_,rfl⟩:=aS.1 a;rfl
theorem FU(l:List En):(∀ c∈wr (l.map df),c.one=true)=True:=fi (by
 induction l with
 | nil=>intro c a;simp [wr,D.flat] at a
 | cons y l e =>
  intro c a;rw [bo,sL,cV] at a;rcases a with a | a
  ·obtain⟨d,b,rfl⟩:=aS.1 a;simp at b;rcases b with rfl | rfl | rfl | rfl | rfl <;> rfl
  ·exact e c a)
theorem zX(l:List Rl):(∀ c∈wr (l.map bI),c.one=true)=True:=fi (by
 induction l with
 | nil=>intro c a;simp [wr,D.flat] at a
 | cons y l e =>
  intro c a;rw [bo,sL,cV] at a;rcases a with a | a
  ·obtain⟨d,b,rfl⟩:=aS.1 a;simp at b;rcases b with rfl | rfl | rfl | rfl | rfl <;> rfl
  ·exact e c a)
theorem Nc(y:En)(l:List En):(∀ c∈wr (df y::l.map df),c.one=true)=True:=FU (y::l)
theorem Nf(y:Rl)(l:List Rl):(∀ c∈wr (bI y::l.map bI),c.one=true)=True:=zX (y::l)
theorem aeU(f:En->En)(l:List En):(∀ c∈wr (l.map (df∘f)),c.one=true)=True:=by rw [<- dA];exact FU _
theorem aeV(f:Rl->Rl)(l:List Rl):(∀ c∈wr (l.map (bI∘f)),c.one=true)=True:=by rw [<- dA];exact zX _
theorem aeW(f:En->En)(y:En)(l:List En):(∀ c∈wr (df y::l.map (df∘f)),c.one=true)=True:=by rw [<- dA];exact Nc y _
theorem aeX(f:Rl->Rl)(y:Rl)(l:List Rl):(∀ c∈wr (bI y::l.map (bI∘f)),c.one=true)=True:=by rw [<- dA];exact Nf y _
theorem aeY(t:B8):aB (D.lit (Value.string (bs t))) (dT t)=True:=fi (aB.refl _)
theorem aeZ(t:B8):aB (dT t) (D.lit (Value.string (bs t)))=True:=fi (aB.refl _)
attribute [local simp] aeZ aeU aeV aeW aeX FU zX Nc Nf aeY
def jc(g:Gr)(a:Ix)(k:Nat):List Rl:=(g.rs.take k).map (uM a)++g.rs.drop k
theorem zY(g:Gr)(a:Ix)(k:Nat):(jc g a k).length=g.rs.length:=by simp [jc];omega
theorem ae0(g:Gr)(a:Ix){k:Nat}(h:k<g.rs.length):(jc g a k)[k]?=some g.rs[k]:=by unfold jc;rw [eJ (by simp;omega)];simp [fD,th (s_ h),h]
theorem ae1(g:Gr)(a:Ix){k:Nat}(h:k<g.rs.length):(jc g a k).set k (uM a g.rs[k])=jc g a (k+1):=by unfold jc;rw [HB _ _ (by simp;omega),mS,fF h];simp only [db,lp,th (s_ h),vf,AS,dc,aI h,Option.toList];simp
theorem Ng{R:List Rl}{a b l:Nat}{x:D}{c:AV}(e:x.one=true)(f:c∈((wr (R.map bI)).set a (.d x)).set b (.aE 6 0 3 l l)):(∃ d:D,c=.d d/\d.one=true)\/c=.aE 6 0 3 l l:=by
 rcases uV f with h | h
 ·rcases uV h with h | h
  ·have g:=(zX R).mpr trivial c h;obtain⟨d,_,rfl⟩:=aS.1 h;exact .inl ⟨d,rfl,g⟩
  ·exact .inl ⟨x,h,e⟩
 ·exact .inr h
theorem Nh{N:Nat->Option Nat}{a:Nat->Bool}{k:Nat}:∀ l:List AV,(∀ c∈l,aq (aw []) N a k c c)->aq.ba (aw []) N a k l l
 | [],_=>by rw [Cp];trivial
 | c::l,h=>by rw [Cq];exact⟨h c (by simp),Nh l fun c b=>h c (by simp [b])⟩
theorem ae2{N:Nat->Option Nat}{e:Nat->Bool}{k:Nat}(R:List Rl)(a b l:Nat)(n:Int)(f:e 6=true):aq.ba (aw []) N e k (((wr (R.map bI)).set a (.d (.lit (.int .i64 n)))).set b (.aE 6 0 3 l l)) (((wr (R.map bI)).set a (.d (.lit (.int .i64 n)))).set b (.aE 6 0 3 l l))=True:=fi (Nh _ fun c g=>by
 rcases Ng rfl g with ⟨d,rfl,_⟩ | rfl
 ·rw [Co];exact aB.refl _
 ·rw [v_];exact⟨rfl,rfl,rfl,rfl,rfl,f⟩)
theorem ae3(R:List Rl)(a b l:Nat)(n:Int):(∀ c∈((wr (R.map bI)).set a (.d (.lit (.int .i64 n)))).set b (.aE 6 0 3 l l),c.one=true)=True:=fi fun c e=>by
 rcases Ng rfl e with ⟨d,rfl,h⟩ | rfl
 ·exact h
 ·rfl
theorem Ni(l:List Pt):(∀ c∈wr (l.map bA),c.one=true)=True:=fi (by
 induction l with
 | nil=>intro c a;simp [wr,D.flat] at a
 | cons y l e =>
  intro c a;rw [bo,sL,cV] at a;rcases a with a | a
  ·obtain⟨d,b,rfl⟩:=aS.1 a;simp at b;rcases b with rfl | rfl | rfl <;> rfl
  ·exact e c a)
theorem ae4(y:Pt)(l:List Pt):(∀ c∈wr (bA y::l.map bA),c.one=true)=True:=Ni (y::l)
attribute [local simp] ae2 ae3 Ni ae4
def hh(r:Rl)(a:Ix)(j:Nat):List Pt:=(r.ps.take j).map (kh a)++r.ps.drop j
theorem Nj(r:Rl)(a:Ix)(j:Nat):(hh r a j).length=r.ps.length:=by simp [hh];omega
theorem ae5(r:Rl)(a:Ix){j:Nat}(h:j<r.ps.length):(hh r a j)[j]?=some r.ps[j]:=by unfold hh;rw [eJ (by simp;omega)];simp [fD,th (s_ h),h]
theorem ae6(r:Rl)(a:Ix){j:Nat}(h:j<r.ps.length):(hh r a j).set j (kh a r.ps[j])=hh r a (j+1):=by unfold hh;rw [HB _ _ (by simp;omega),mS,fF h];simp only [db,lp,th (s_ h),vf,AS,dc,aI h,Option.toList];simp
theorem zZ(l:List Pt):(D.flat (l.map bA)).length=l.length*3:=(fU (sz:=3) (fun e a=>by obtain⟨y,_,rfl⟩:=aS.1 a;rfl)).trans (by simp)
theorem FV{z:Nat}(c:0<z):∀ l:List D,(∀ e∈l,∃ a,e=.agg a/\a.length=z)->jJ z l.length (D.flat l)=l
 | [],_=>rfl
 | e::l,h=>by
  obtain⟨a,rfl,b⟩:=h e (by simp);have d:=FV c l fun e f=>h e (by simp [f])
  rw [show D.flat (D.agg a::l)=a++D.flat l from by simp [D.flat,D.cells],bN,jJ];rw [List.take_left' b,List.drop_left' b,d]
theorem ae7(l:List Pt):e' 3 l.length (D.flat (l.map bA))=l.map bA:=by have:=FV (z:=3) (by omega) (l.map bA) (fun e a=>by obtain⟨x,_,rfl⟩:=aS.1 a;exact⟨_,rfl,rfl⟩);rw [db] at this;unfold e';rw [ab (by decide)];exact this
theorem ae8{h:List (Nat×HO)}{k n z l c:Nat}{L:List D}(g:AL.look h n=some (.box true (wr L)))(j:1<z)(d:∀ e∈L,∃ a,e=.agg a/\a.length=z)(f:L.length=l):cL h k (.aE n 0 z l c) (.sl z L):=by
 have i:cq (wr L)=some (D.flat L):=tS _;have m:(D.flat L).length=l*z:=by rw [<- f];exact fU fun e b=>by obtain⟨a,rfl,h⟩:=d e b;exact h
 have b:e' z l ((D.flat L).drop 0)=L:=by unfold e';rw [ab (by omega),List.drop_zero,<- f];exact FV (by omega) L d
 unfold cL;simp only [g,i];rw [b];exact⟨by omega,aB.refl _⟩
theorem Nk{a:Ix}{g:Gr}(h:lI a g=true){r:Rl}(b:r∈g.rs):r.ps.length<=4:=by unfold lI at h;simp only [ax] at h;obtain⟨_,_,_,d,e,c⟩:=h;have:=bQ.1 c r b;unfold kX at this;simp only [ax] at this;have k2:=this.2.1;simp [fe] at k2;omega
theorem ae9(g:Gr)(a:Ix)(k:Nat):(la g a k).length=g.es.length:=by simp [la];omega
theorem ae_(g:Gr)(a:Ix){k:Nat}(h:k<g.es.length):(la g a k)[k]?=some g.es[k]:=by unfold la;rw [eJ (by simp;omega)];simp [fD,th (s_ h),h]
theorem ae'(g:Gr)(a:Ix){k:Nat}(h:k<g.es.length):(la g a k).set k (pj a g.es[k])=la g a (k+1):=by unfold la;rw [HB _ _ (by simp;omega),mS,fF h];simp only [db,lp,th (s_ h),vf,AS,dc,aI h,Option.toList];simp
theorem afa(n l:Nat):(f_ n l).one=true:=by unfold f_;split <;> rfl
theorem afb(n l:Nat):(f_ n l).cg=true:=by unfold f_;split <;> rfl
theorem afc(n l:Nat)(r:List AV):cq (f_ n l::r)=none:=by unfold f_;split <;> rfl
attribute [local simp] afa afb afc
theorem Nl{h:List (Nat×HO)}{k n l:Nat}{L:List D}(d:∀ e∈L,∃ a,e=.agg a/\a.length=5)(b:L.length=l)(c:AL.look h n=some (if l=0 then .dead else .box true (wr L))):cL h k (f_ n l) (.sl 5 L):=by
 unfold f_;by_cases e:l=0
 ·rw [aj e,JO];have:L=[]:=PR.1 (b.trans e);rw [this];exact aB.refl _
 ·rw [ab e] at c |-;exact ae8 c (by omega) d b
theorem uP{h:List (Nat×HO)}{k:Nat}{e:Int}:cL h (k+1) (.af [.d (.agg [.lit (.string ⟨#[]⟩),.nil 1,.lit (.string ⟨#[]⟩),.lit (.int .i64 0),.nil 5,.nil 5]),.d (.lit (.int .i64 e))]) (.af [bq uN,dI e]):=by
 simp only [Cv,yz,yy,Cu];refine⟨?_,aB.refl _,trivial⟩;refine aB.agg (.cons (aB.refl _) (.cons (aB.nil _) (.cons (aB.refl _) (.cons (aB.refl _) (.cons (aB.nil _) (.cons (aB.nil _) .nil)))))) fun d a=>?_
 simp only [b_,n',oa] at a;rcases a with rfl | rfl | rfl | rfl | rfl | rfl <;> rfl
theorem FW{g:Gr}{e:Int}(h:hg g=e)(a:e≠0):qQ g=.af [bq uN,dI e]:=by unfold qQ;rw [h,ab a]
theorem afd(f:Gr):PC 136 [bq f] (.ret (qQ f)):=by
 refine oM aeR ZS (by simp [DS]) 4 fun hr=>?_
 simp [DS];refine ah [] ?_;by_cases q:(32<f.aN.length\/512<f.es.length)\/128<f.rs.length
 ·have n:qQ f=.af [bq uN,dI 2]:=by
   have u:jB f=2:=by unfold jB;rw [aj q]
   have Z:hg f=2:=by unfold hg;simp [u]
   unfold qQ;rw [Z];rfl
  by_cases a1:32<f.aN.length
  ·have H:(32:Int)<(f.aN.length:Int):=by omega
   simp [H];rw [n];exact uP
  have H:¬ (32:Int)<(f.aN.length:Int):=by omega
  by_cases a2:512<f.es.length
  ·have A:(512:Int)<(f.es.length:Int):=by omega
   simp [H,A];rw [n];exact uP
  have A:¬ (512:Int)<(f.es.length:Int):=by omega
  have b3:(128:Int)<(f.rs.length:Int):=by omega
  simp [H,A,b3];rw [n];exact uP
 have q1:¬ (32:Int)<(f.aN.length:Int):=by omega
 have q2:¬ (512:Int)<(f.es.length:Int):=by omega
 have q3:¬ (128:Int)<(f.rs.length:Int):=by omega
 simp [q1,q2,q3];refine bm [1,2,3,4,31,32] Nat (fun l=>[(33,true,.d (dI l))]) (fun l=>[(2,.aA ((im [] (f.aN.take l) 0).map fM))]) (fun l=>l<=f.aN.length) (fun l=>f.aN.length-l) 0 (bp _) ⟨[],[],?_⟩ (fun l e6=>?_)
 ·simp [im]
 by_cases N:l<f.aN.length
 ·have I:=wS l (by omega);have t:=sy f.aN[l] (im [] (f.aN.take l) 0);have f0:f.aN.take (l+1)=f.aN.take l++[f.aN[l]]:=by rw [PX,aI N];rfl
  have d2:im [] (f.aN.take (l+1)) 0=jA f.aN[l] l (im [] (f.aN.take l) 0):=by rw [f0,aeM];congr 1;simp;omega
  cases O:hR f.aN[l] (im [] (f.aN.take l) 0) with
  | none =>have hN:=MY (i:=(l:Int)) O;rw [O] at t;simp [N,t,dT];refine⟨l+1,by omega,by omega,[],[],?_⟩;simp [I,d2,hN,show ∀ o,fM o=(.string (bs o.1),.d (.lit (.int .i64 o.2))) from fun _=>rfl]
  | some j =>have P:=M_ f.aN[l] l (im [] (f.aN.take l) 0) (by rw [O];simp);simp only [dI] at P;rw [O] at t;simp [N,t,dT];refine⟨l+1,by omega,by omega,[],[],?_⟩;simp [I,d2,P]
 have e9:l=f.aN.length:=by omega
 subst e9;rw [eK];have g5:(aZ f).length=(im [] f.aN 0).length:=rfl;have br:=adT (aZ f) f (by omega) (by omega);rw [show im [] f.aN 0=aZ f from rfl];simp [N];refine aK [] ?_;by_cases Q:(aZ f).length=f.aN.length
 case neg =>
  have n:=FW (g:=f) (e:=260) (by
   have u:jB f=260:=by unfold jB;rw [ab q,aj (.inl Q)]
   unfold hg;simp [u]) (by omega)
  have f1:¬ ((aZ f).length:Int)=(f.aN.length:Int):=by omega
  simp [f1];refine⟨by have:=aeN [] f.aN 0;simp at this;unfold aZ;omega,?_⟩;rw [n];exact uP
 simp [Q];refine⟨by omega,?_⟩;refine aV _ br ?_;refine Kc [(0,2),(1,3)] (qI (aZ f)) (by simp [ij,ai,aw,bc]) (by simp [ij,bR,ai]) (by simp [cE,aw,bc];rfl) (by simp [ij,zz];simp [dv,cE,aw,bc]) ?_;cases B:lI (aZ f) f with
 | false =>
  have n:=FW (g:=f) (e:=260) (by
   have u:jB f=260:=by unfold jB;rw [ab q,aj (.inr B)]
   unfold hg;simp [u]) (by omega)
  simp;rw [n];exact uP
 | true =>
 simp;obtain⟨a0,b4⟩:=aeS f (by omega);have d3:=FT.M' f a0 b4.1;refine ah [.ret (dB a0)] ?_;cases a0 with
 | true =>
  have n:=FW (g:=f) (e:=261) (by
   have u:jB f=0:=by unfold jB;rw [ab q,ab (by simp [Q,B])]
   unfold hg;simp [u,b4.2.1 rfl]) (by omega)
  simp;refine⟨d3,?_⟩;rw [n];exact uP
 | false =>
 simp;have d4:=sy f.start (aZ f);rw [(zU B).1] at d4;simp [d4,dT];refine⟨d3,?_⟩;have n:qQ f=.af [bq (jC (aZ f) f),dI 0]:=by
  have u:jB f=0:=by unfold jB;rw [ab q,ab (by simp [Q,B])]
  have e2:¬ k' f:=fun h=>by have:=b4.2.2 h;cases this
  have Z:hg f=0:=by unfold hg;simp [u,e2]
  unfold qQ;rw [Z];rfl
 rcases w:f.es with _ | ⟨y0,g6⟩ <;> rcases C:f.rs with _ | ⟨r0,rr⟩
 case' nil.nil =>simp;refine⟨rfl,?_⟩
 case' nil.cons =>have K:=q3;rw [C] at K;simp at K;simp;refine⟨by omega,rfl,?_⟩
 case' cons.nil =>have L:=q2;rw [w] at L;simp at L;simp;refine⟨by omega,rfl,?_⟩
 case' cons.cons =>have L:=q2;have K:=q3;rw [w] at L;rw [C] at K;simp at L K;simp;refine⟨by omega,by omega,rfl,?_⟩
 all_goals
  refine jx Nat (fun l=>⟨[(1,true,.ptr 0 0),(2,true,.ptr 1 0),(4,true,.ptr 3 0),(75,true,.d (dI f.es.length)),(76,true,.d (dI l))],iq f (aZ f) (la f (aZ f) l) (wr (f.rs.map bI)) [],[]⟩) (fun l=>l<=f.es.length) (fun l=>f.es.length-l) 0 (bp _) (by first | (refine⟨[],[],?_⟩;simp [iq,f_,la,w,C];done) | (refine⟨[(5,4),(4,5)],[],?_⟩;simp only [iq,f_,la,w,C];refine⟨?_,?_,?_,?_,?_⟩ <;> simp [aw,bc,ai])) (fun l e6=>?_);by_cases E:l<f.es.length
  ·obtain⟨y1,g7,g8⟩:∃ a b,f.es=a::b:=by
    cases h:f.es with
    | nil=>rw [h] at E;simp at E
    | cons a b=>exact⟨a,b,rfl⟩
   have I:=wS l (by omega);have d5:¬ f.es.length=0:=by omega
   have t:=sy f.es[l].cat (aZ f);rw [(zU B).2.1 _ (cN E)] at t;have F:((la f (aZ f) l).map df)[l]?=some (df f.es[l]):=by rw [bG,ae_ f _ E];rfl
   have f2:=xe (k:=1) (d:=dT f.es[l].cat) (Na _) F rfl;have b5:=uO (k:=2) (v:=dI (gu f.es[l].cat (aZ f))) (Na _) F rfl (by omega);rw [show (D.agg ([dT f.es[l].tx,dT f.es[l].cat,dI f.es[l].cn,D.sl 1 (f.es[l].gv.map dT),dI f.es[l].cost].set 2 (dI (gu f.es[l].cat (aZ f)))))=df (pj (aZ f) f.es[l]) from rfl,<- ra,ae' f _ E] at b5;have f3:l*5+1+1<=f.es.length*5:=by omega
   have f4:l*5+2+1<=f.es.length*5:=by omega
   have g9:(0:Int)<=(l:Int):=by omega
   simp only [dI] at b5;simp [iq,f_,d5,E,aeT,ae9,f2,t,dT,f3,f4,b5];refine⟨rfl,l+1,by omega,by omega,[],[],?_⟩;simp [iq,f_,d5,I,C]
  ·have e8:l=f.es.length:=by omega
   subst e8;have f5:la f (aZ f) f.es.length=f.es.map (pj (aZ f)):=by simp [la]
   rw [f5];simp [iq,f_,E,C];refine jx Nat (fun m=>⟨[(1,true,.ptr 0 0),(2,true,.ptr 1 0),(4,true,.ptr 3 0),(95,true,.d (dI f.rs.length)),(96,true,.d (dI m))],iq f (aZ f) (f.es.map (pj (aZ f))) (wr ((jc f (aZ f) m).map bI)) [],[]⟩) (fun m=>m<=f.rs.length) (fun m=>f.rs.length-m) 0 (bp _) ⟨[],[],by simp [iq,f_,jc,w,C]⟩ (fun m hm=>?_);by_cases s:m<f.rs.length
   ·obtain⟨r1,h0,R⟩:∃ a b,f.rs=a::b:=by
     cases h:f.rs with
     | nil=>rw [h] at s;simp at s
     | cons a b=>exact⟨a,b,rfl⟩
    have I:=wS m (by omega);have f6:¬ f.rs.length=0:=by omega
    obtain⟨t1,t2,t3⟩:=(zU B).2.2 _ (cN s);have F:((jc f (aZ f) m).map bI)[m]?=some (bI f.rs[m]):=by rw [bG,ae0 f _ s];rfl
    have h3:=Nk B (cN s);have f7:=ae1 f (aZ f) s;generalize f.rs[m]=r at *;have t:=sy r.cat (aZ f);rw [t1] at t;have b6:=xe (k:=0) (d:=dT r.cat) (zW _) F rfl;have d6:=xe (k:=2) (d:=.sl 3 (r.ps.map bA)) (zW _) F rfl;simp only [kl] at b6;obtain⟨_,f8⟩:=bu.1 b6;obtain⟨_,f9⟩:=bu.1 d6;obtain⟨p0,b7,b8⟩:∃ p0 b7,r.ps=p0::b7:=by
     cases h:r.ps with
     | nil=>exact absurd h t2
     | cons a b=>exact⟨a,b,rfl⟩
    have b0:m*5+1<=f.rs.length*5:=by omega
    have H:m*5+1+1<=f.rs.length*5:=by omega
    have A:m*5+2+1<=f.rs.length*5:=by omega
    have S:∀ x y:AV,((((wr ((jc f (aZ f) m).map bI)).set (m*5+1) x).set (m*5+2) y)[m*5+2]?)=some y:=fun x y=>AP (by simp [zV,zY];omega)
    have g0:r.ps.length=b7.length+1:=by rw [b8];rfl
    simp [iq,f_,f6,s,zV,zY,b6,d6,f8,f9,t,dT,b0,H,A,b8,S];refine⟨by omega,rfl,?_⟩;refine jx Nat (fun j=>⟨[(1,true,.ptr 0 0),(2,true,.ptr 1 0),(4,true,.ptr 3 0),(10,true,.ptr 5 (m*5)),(95,true,.d (dI f.rs.length)),(96,true,.d (dI m)),(124,true,.d (dI r.ps.length)),(125,true,.d (dI j))],
     iq f (aZ f) (f.es.map (pj (aZ f))) (((wr ((jc f (aZ f) m).map bI)).set (m*5+1) (.d (dI (gu r.cat (aZ f))))).set (m*5+2) (.aE 6 0 3 r.ps.length r.ps.length)) [(6,.box true (wr ((hh r (aZ f) j).map bA)))],[]⟩) (fun j=>j<=r.ps.length) (fun j=>r.ps.length-j) 0 (bp _) ⟨[],[],by simp [iq,f_,hh,w,R,g0,b8]⟩ (fun j h4=>?_)
    by_cases M:j<r.ps.length
    ·have d7:=wS j (by omega);have g1:((hh r (aZ f) j).map bA)[j]?=some (bA r.ps[j]):=by rw [bG,ae5 r _ M];rfl
     have d8:=ae6 r (aZ f) M;have t4:=t3 _ (cN M);generalize r.ps[j]=p at *;have T:(hh r (aZ f) j).length=r.ps.length:=Nj _ _ _;have J:=uO (k:=1) (v:=dI 0) (Nb _) g1 rfl (by omega);have b9:(((hh r (aZ f) j).map bA).set j (bA {p with cn:=0}))[j]?=some (bA {p with cn:=0}):=AP (by simp [T];omega);have d0:∀ o∈((hh r (aZ f) j).map bA).set j (bA {p with cn:=0}),o.cells.length=3:=fun o h=>by
      rcases uV h with h | rfl
      ·exact Nb _ o h
      ·rfl
     have U:=xe (k:=2) (d:=dT p.tx) d0 b9 rfl;have V:=xe (k:=0) (d:=dT p.cat) d0 b9 rfl;have W:=uO (k:=1) (v:=dI (gu p.cat (aZ f))) d0 b9 rfl (by omega);simp only [kl] at V;have c1:j*3+1+1<=r.ps.length*3:=by omega
     have c2:j*3+2+1<=r.ps.length*3:=by omega
     have c0:j*3+1<=r.ps.length*3:=by omega
     have X:¬ f.rs=[]:=fun h=>by rw [h] at s;simp at s
     rw [show (D.agg ([dT p.cat,dI p.cn,dT p.tx].set 1 (dI 0)))=bA {p with cn:=0} from rfl] at J;simp only [dI] at J;have Y:(D.flat (((hh r (aZ f) j).map bA).set j (bA {p with cn:=0}))).length=r.ps.length*3:=by rw [<- ra,zZ,GY,T]
     by_cases G:p.tx=[]
     ·have d9:=sy p.cat (aZ f);rw [t4 G] at d9;have d1:(((hh r (aZ f) j).map bA).set j (bA {p with cn:=0})).set j (.agg ([dT p.cat,dI 0,dT p.tx].set 1 (dI (gu p.cat (aZ f)))))=(hh r (aZ f) (j+1)).map bA:=by rw [List.set_set,<- d8,ra];congr 1;simp [kh,G,bA]
      rw [d1] at W;simp only [dI] at W;obtain⟨_,e0⟩:=bu.1 V;simp only [G] at U J W Y V e0;simp [iq,f_,X,M,S,zV,zY,zZ,T,A,c1,c2,c0,J,W,Y,V,e0,U,G,d9,dT];refine⟨rfl,?_⟩;refine⟨j+1,by omega,by omega,[],[],?_⟩;simp [iq,f_,R,w,d7]
     ·have d1:((hh r (aZ f) j).map bA).set j (bA {p with cn:=0})=(hh r (aZ f) (j+1)).map bA:=by rw [<- d8,ra];congr 1;simp [kh,G]
      have g2:=nS G;rw [d1] at J U Y;simp [iq,f_,X,M,S,zV,zY,zZ,Nj,T,A,c1,c2,c0,J,Y,U,G,g2,dT];refine⟨j+1,by omega,by omega,[],[],?_⟩;simp [iq,f_,R,w,d7]
    ·have e7:j=r.ps.length:=by omega
     subst e7;have P:hh r (aZ f) r.ps.length=r.ps.map (kh (aZ f)):=by simp [hh]
     rw [P];have X:¬ f.rs=[]:=fun h=>by rw [h] at s;simp at s
     have h5:(D.flat ((r.ps.map (kh (aZ f))).map bA)).length=r.ps.length*3:=by rw [zZ,db]
     have g3:e' 3 r.ps.length (D.flat ((r.ps.map (kh (aZ f))).map bA))=(r.ps.map (kh (aZ f))).map bA:=by have:=ae7 (r.ps.map (kh (aZ f)));rw [db] at this;exact this
     have e4:((((wr ((jc f (aZ f) m).map bI)).set (m*5+1) (.d (dI (gu r.cat (aZ f))))).set (m*5+2) (.aE 6 0 3 r.ps.length r.ps.length)).set (m*5+2) (.d (.sl 3 ((r.ps.map (kh (aZ f))).map bA))))=wr ((jc f (aZ f) (m+1)).map bI):=by
      rw [List.set_set,uO (k:=1) (zW _) F rfl (by omega)];rw [uO (z:=5) (k:=2) (cs:=[dT r.cat,dI r.cn,.sl 3 (r.ps.map bA),.sl 2 (r.gs.map iC),dI r.cost].set 1 (dI (gu r.cat (aZ f)))) (fun o h=>by
       rcases uV h with h | rfl
       ·exact zW _ o h
       ·rfl) (AP (bu.1 F).1) rfl (by omega)]
      rw [List.set_set,<- f7,ra];rfl
     simp only [dI] at e4;simp [iq,f_,X,-List.map_map];refine⟨5,m*5+2,6,_,⟨true,_,true,3,r.ps.length,r.ps.length,D.flat ((r.ps.map (kh (aZ f))).map bA),rfl,rfl,S _ _,by omega,by omega,rfl⟩,?_⟩;rw [g3];simp [e4,-List.map_map];refine⟨m+1,by omega,by omega,[],[],?_⟩;simp [iq,f_,R,w,I]
   ·have e7:m=f.rs.length:=by omega
    subst e7;have g4:jc f (aZ f) f.rs.length=f.rs.map (uM (aZ f)):=by simp [jc]
    rw [g4];simp [iq,-List.map_map];rw [n,show bq (jC (aZ f) f)=.agg [dT f.name,.sl 1 (f.aN.map dT),dT f.start,dI (gu f.start (aZ f)),.sl 5 ((f.es.map (pj (aZ f))).map df),.sl 5 ((f.rs.map (uM (aZ f))).map bI)] from rfl];simp only [Cv,yz,yy,JQ,Cu];refine⟨⟨⟨aB.refl _,aB.refl _,aB.refl _,aB.refl _,Nl (fun o h=>by obtain⟨y,_,rfl⟩:=aS.1 h;exact⟨_,rfl,rfl⟩) (by simp) (by simp [AL.look]),Nl (fun o h=>by obtain⟨y,_,rfl⟩:=aS.1 h;exact⟨_,rfl,rfl⟩) (by simp) (by simp [AL.look]),trivial⟩,fun c e5=>?_⟩,aB.refl _,trivial⟩;simp only [b_,n',oa] at e5;rcases e5 with rfl | rfl | rfl | rfl | rfl | rfl <;> rfl
theorem afe(a b:List Pt):PC 141 [.sl 3 (a.map bA),.sl 3 (b.map bA)] (.ret (dB (decide (a=b)))):=by
 refine aG aH ZW (by simp [a141]) fun o=>?_
 have p:=(o (.sl 3 (a.map bA)) (by simp)).sl.1;simp at p;simp [a141];refine⟨fun q=>aP ?_,fun A=>?_⟩
 ·have:a≠b:=fun e=>q (by rw [e])
  simp [this]
 ·refine bm [0,1,11,12] Nat (fun k=>[(13,true,.d (dI k))]) (fun k=>[]) (fun k=>k<=a.length/\a.take k=b.take k) (fun k=>a.length-k) 0 (by simp) ⟨[],[],?_⟩ (fun k d=>?_)
  ·simp
  obtain⟨B,f⟩:=d;have r:a.length=b.length:=by omega
  by_cases g:k<a.length
  ·have h:k<b.length:=by omega
   have s:a[k]≠b[k]->a≠b:=oY g h;have t:a[k]=b[k]->a.take (k+1)=b.take (k+1):=fun e=>oX f g h e
   simp [g,h];generalize a[k]=x at *;generalize b[k]=y at *;by_cases c:x=y
   ·have:=t c;subst c;simp [bA,dT,dI];refine⟨rfl,k+1,⟨by omega,this⟩,by omega,[],[],?_⟩;rw [wrap64 (by omega)];simp
   ·have u:=s c;have l:¬ bs x.cat=bs y.cat\/¬ x.cn=y.cn\/¬ bs x.tx=bs y.tx:=by
     by_cases i:bs x.cat=bs y.cat
     ·by_cases j:x.cn=y.cn
      ·by_cases c3:bs x.tx=bs y.tx
       ·refine absurd ?_ c;cases x;cases y;simp only at i j c3;have m:=congrArg ByteArray.toList i;have n:=congrArg ByteArray.toList c3;rw [cd,cd] at m n;rw [m,j,n]
       ·exact .inr (.inr c3)
      ·exact .inr (.inl j)
     ·exact .inl i
    simp [bA,dT,dI,l,u];exact⟨rfl,fun v w z=>absurd l (by simp [v,w,z])⟩
  ·have d:k=a.length:=by omega
   subst d;rw [eK,r,eK] at f;simp [f]
theorem aff(x y:En):PC 138 [df x,df y] (.ret (dB (decide (x.cn=y.cn)))):=by
 refine aG aH c138 (by simp [a138]) fun a=>?_
 simp [a138,df];exact aP (by congr 2)
def dG(r:Rl):Int×List Pt:=(r.cn,r.ps)
theorem afg(x y:Rl):PC 140 [bI x,bI y] (.ret (dB (decide (dG x=dG y)))):=by
 refine aG aH ZV (by simp [DU]) fun a=>?_
 have k:=afe x.ps y.ps;simp [DU,bI];refine ah [.ret (dB (decide (x.ps=y.ps)))] ?_;by_cases q:x.cn=y.cn
 ·have e:decide (dG x=dG y)=decide (x.ps=y.ps):=Hr.2 (by unfold dG;simp [q]);rw [e];simp [q];exact k
 ·have e:¬ dG x=dG y:=fun h=>q (congrArg Prod.fst h)
  simp [q,e]
theorem afh(x y:En):PC 138 [df x,df y] (.ret (dB (decide (En.cn x=En.cn y)))):=aff x y
theorem afi(a b:List En):PC 137 [.sl 5 (a.map df),.sl 5 (b.map df),.fn (.func 138) [] []] (.ret (dB (decide (a.map En.cn=b.map En.cn)))):=by
 refine aG aH ZT (by simp [DT]) fun p=>?_
 have q:=(p (.sl 5 (a.map df)) (by simp)).sl.1;simp at q;simp [DT];refine⟨fun f=>aP ?_,fun s=>?_⟩
 ·have:¬ a.map En.cn=b.map En.cn:=fun e=>f (by have:=congrArg List.length e;simp at this;omega)
  simp [this]
 ·refine bm [0,1,2,15,16] Nat (fun k=>[(17,true,.d (dI k))]) (fun k=>[]) (fun k=>k<=a.length/\(a.map En.cn).take k=(b.map En.cn).take k) (fun k=>a.length-k) 0 (by simp) ⟨[],[],?_⟩ (fun k g=>?_)
  ·simp
  obtain⟨t,h⟩:=g;have r:a.length=b.length:=by omega
  by_cases i:k<a.length
  ·have j:k<b.length:=by omega
   simp [i,j];have l:k<(a.map En.cn).length:=by simpa using i
   have m:k<(b.map En.cn).length:=by simpa using j
   have n:(a.map En.cn)[k]=En.cn a[k]:=by simp
   have o:(b.map En.cn)[k]=En.cn b[k]:=by simp
   generalize a[k]=x at *;generalize b[k]=y at *;have c:=afh x y;simp [df] at c |-;refine ah [.ret (dB (decide (En.cn x=En.cn y)))] ?_;by_cases d:En.cn x=En.cn y
   ·simp [d] at c |-;refine⟨c,k+1,⟨by omega,oX h l m (by rw [n,o,d])⟩,by omega,[],[],?_⟩;rw [wrap64 (by omega)];simp
   ·have f:¬ a.map En.cn=b.map En.cn:=oY l m (by rw [n,o];exact d);simp [d,f] at c |-;exact c
  ·have g:k=a.length:=by omega
   subst g;rw [show a.length=(a.map En.cn).length by simp,eK,show (a.map En.cn).length=(b.map En.cn).length by simp [r],eK] at h;simp [h]
theorem afj(a b:List Rl):PC 139 [.sl 5 (a.map bI),.sl 5 (b.map bI),.fn (.func 140) [] []] (.ret (dB (decide (a.map dG=b.map dG)))):=by
 refine aG aH ZU (by simp [a139]) fun p=>?_
 have q:=(p (.sl 5 (a.map bI)) (by simp)).sl.1;simp at q;simp [a139];refine⟨fun f=>aP ?_,fun s=>?_⟩
 ·have:¬ a.map dG=b.map dG:=fun e=>f (by have:=congrArg List.length e;simp at this;omega)
  simp [this]
 ·refine bm [0,1,2,15,16] Nat (fun k=>[(17,true,.d (dI k))]) (fun k=>[]) (fun k=>k<=a.length/\(a.map dG).take k=(b.map dG).take k) (fun k=>a.length-k) 0 (by simp) ⟨[],[],?_⟩ (fun k g=>?_)
  ·simp
  obtain⟨t,h⟩:=g;have r:a.length=b.length:=by omega
  by_cases i:k<a.length
  ·have j:k<b.length:=by omega
   simp [i,j];have l:k<(a.map dG).length:=by simpa using i
   have m:k<(b.map dG).length:=by simpa using j
   have n:(a.map dG)[k]=dG a[k]:=by simp
   have o:(b.map dG)[k]=dG b[k]:=by simp
   generalize a[k]=x at *;generalize b[k]=y at *;have c:=afg x y;simp [bI] at c |-;refine ah [.ret (dB (decide (dG x=dG y)))] ?_;by_cases d:dG x=dG y
   ·simp [d] at c |-;refine⟨c,k+1,⟨by omega,oX h l m (by rw [n,o,d])⟩,by omega,[],[],?_⟩;rw [wrap64 (by omega)];simp
   ·have f:¬ a.map dG=b.map dG:=oY l m (by rw [n,o];exact d);simp [d,f] at c |-;exact c
  ·have g:k=a.length:=by omega
   subst g;rw [show a.length=(a.map dG).length by simp,eK,show (a.map dG).length=(b.map dG).length by simp [r],eK] at h;simp [h]
open Classical in
noncomputable def jd(g:Gr):Int:=if hg g≠0 then hg g else if (jC (aZ g) g).sn=g.sn/\(jC (aZ g) g).es.map En.cn=g.es.map En.cn/\(jC (aZ g) g).rs.map dG=g.rs.map dG then 0 else 260
theorem Nn(g:Gr):PC 72 [bq g] (.ret (dI (jd g))):=by
 refine aG aH YU (by simp [a72]) fun i=>?_
 have k1:=afd g;simp [a72];unfold qQ at k1;by_cases q:hg g=0
 case neg =>
  have e:jd g=hg g:=by unfold jd;rw [aj q]
  rw [ab q] at k1;rw [e];generalize hg g=h at *;refine ah [.ret (.af [bq uN,dI h])] ?_;simp [q,uN,bq] at k1 |-;exact k1
 have k2:=afi (jC (aZ g) g).es g.es;have k3:=afj (jC (aZ g) g).rs g.rs;rw [aj q,q] at k1;have e:jd g=if (jC (aZ g) g).sn=g.sn/\(jC (aZ g) g).es.map En.cn=g.es.map En.cn/\(jC (aZ g) g).rs.map dG=g.rs.map dG then 0 else 260:=by unfold jd;rw [ab (by simp [q])]
 rw [e];generalize j:jC (aZ g) g=x at *;generalize c:decide (x.es.map En.cn=g.es.map En.cn)=a at *;generalize d:decide (x.rs.map dG=g.rs.map dG)=b at *;have f:(if x.sn=g.sn/\x.es.map En.cn=g.es.map En.cn/\x.rs.map dG=g.rs.map dG then (0:Int) else 260)=if x.sn=g.sn/\a=true/\b=true then 0 else 260:=by subst c;subst d;simp
 rw [f];refine ah [.ret (.af [bq x,dI 0])] ?_;simp [bq] at k1 |-;refine⟨k1,?_⟩;refine ah [.ret (dB a)] ?_;simp;refine⟨k2,?_⟩;refine ah [.ret (dB b)] ?_;simp;refine⟨k3,?_⟩;clear e f k2 k3 c d;refine ah [] ?_;by_cases q1:x.sn=g.sn
 ·cases a <;> cases b <;> simp [q1]
 ·simp [q1]
end
section
theorem filter_lt{e:Type}{p q:e->Bool}:∀ {l:List e},(∀ x,p x=true->q x=true)->(∃ x∈l,q x=true/\p x=false)->(l.filter p).length<(l.filter q).length
 | [],_,h=>by obtain⟨x,b,_⟩:=h;cases b
 | y::l,d,h=>by
  have i:(l.filter p).length<=(l.filter q).length:=by
   clear h
   induction l with
   | nil=>simp
   | cons z l c =>
    rw [vp,vp];by_cases a:p z=true
    ·rw [aj a,aj (d z a)];simpa using c
    ·rw [ab a];split
     ·simp only [bN];omega
     ·exact c
  rw [vp,vp];obtain⟨x,b,f,g⟩:=h;rcases b_.1 b with rfl | b
  ·rw [f,g];simp;omega
  ·have c:=filter_lt d ⟨x,b,f,g⟩;by_cases a:p y=true
   ·rw [aj a,aj (d y a)];simpa using c
   ·rw [ab a];split
    ·simp only [bN];omega
    ·exact c
def FX(a:List Rl)(h:B8->Bool):B8->Bool:=fun l=>h l&&a.any (eW h l)
def cF(g:Gr):Nat->B8->Bool
 | 0=>fun l=>decide (l∈g.aN)
 | k+1=>FX g.rs (cF g k)
theorem xf{g:Gr}{k:Nat}{l:B8}(h:cF g (k+1) l=true):cF g k l=true:=by unfold cF FX at h;simp only [ax] at h;exact h.1
theorem FY{g:Gr}:∀ {k:Nat}{l:B8},cF g k l=true->l∈g.aN
 | 0,l,h=>by simpa [cF] using h
 | k+1,l,h=>FY (xf h)
theorem No{g:Gr}(e:¬ k' g):∀ k,(∀ a,cF g k a=false)\/(g.aN.filter (cF g k)).length+k<=g.aN.length
 | 0=>.inr (by simpa using lV ..)
 | k+1=>by
  rcases No e k with h | h
  ·exact .inl fun a=>by
    cases c:cF g (k+1) a with
    | false=>rfl
    | true=>have:=xf c;rw [h a] at this;cases this
  ·by_cases c:∃ a,cF g k a=true/\cF g (k+1) a=false
   ·obtain⟨a,f,i⟩:=c;right;have:=filter_lt (p:=cF g (k+1)) (q:=cF g k) (l:=g.aN) (fun x j=>xf j) ⟨a,FY f,f,i⟩;omega
   ·left;have m:sK g.rs (cF g k):=fun a d=>by
     cases b:cF g (k+1) a with
     | false=>exact absurd ⟨a,d,b⟩ c
     | true =>unfold cF FX at b;simp only [ax] at b;exact b.2
    intro a;cases b:cF g (k+1) a with
    | false=>rfl
    | true=>exact absurd ⟨cF g k,⟨a,xf b⟩,fun a d=>FY d,m⟩ e
def pk(g:Gr)(s:B8):Nat:=((List.range 40).filter fun k=>cF g k s).length
theorem afk(g:Gr)(s:B8):pk g s<64:=by have:=lV (fun k=>cF g k s) (List.range 40);unfold pk;rw [List.length_range] at this;omega
theorem afl{g:Gr}(f:¬ k' g)(o:g.aN.length<=32){r:Rl}(b:r∈g.rs){p:Pt}(c:r.ps=[p])(d:p.tx=[])(i:r.cat∈g.aN):pk g p.cat<pk g r.cat:=by
 have j:cF g 39 p.cat=false:=by
  rcases No f 39 with h | h
  ·exact h _
  ·omega
 have e:cF g 0 r.cat=true:=by simpa [cF] using i
 have m:∀ k,cF g k p.cat=true->cF g (k+1) r.cat=true:=fun k=>by
  induction k with
  | zero =>intro h;show (cF g 0 r.cat&&g.rs.any (eW (cF g 0) r.cat))=true;rw [e,gW,jE];exact⟨r,b,by simp [eW,c,d,h]⟩
  | succ k a =>intro h;have n:=a (xf h);show (cF g (k+1) r.cat&&g.rs.any (eW (cF g (k+1)) r.cat))=true;rw [n,gW,jE];exact⟨r,b,by simp [eW,c,d,h]⟩
 have q:pk g p.cat=((List.range 39).filter fun k=>cF g k p.cat).length:=by unfold pk;rw [show (40:Nat)=39+1 from rfl,vg,q'];simp [j]
 have s:pk g r.cat=((List.range 39).filter fun k=>cF g (k+1) r.cat).length+1:=by unfold pk;rw [show (40:Nat)=39+1 from rfl,PU,vp,e,aj rfl,List.filter_map,bN,db];rfl
 have t:((List.range 39).filter fun k=>cF g k p.cat).length<=((List.range 39).filter fun k=>cF g (k+1) r.cat).length:=by
  generalize List.range 39=l
  induction l with
  | nil=>simp
  | cons z l a =>
   rw [vp,vp];by_cases h:cF g z p.cat=true
   ·rw [aj h,aj (m z h)];simpa using a
   ·rw [ab h];split
    ·simp only [bN];omega
    ·exact a
 omega
theorem Np{s:B8}{i:Int}{e:B8×Int}:∀ {a:Ix},e∈jA s i a->e∈a\/e=(s,i)
 | [],h=>by simp [jA] at h;exact .inr h
 | x::r,h=>by
  rw [jA] at h;split at h
  ·rename_i q;rcases b_.1 h with h | h
   ·right;rw [h,q]
   ·exact .inl (cD _ h)
  ·rcases b_.1 h with h | h
   ·left;rw [h];exact dj ..
   ·exact(Np h).imp (cD _) id
theorem Nq{e:B8×Int}:∀ {l:List B8}{a:Ix}{i:Nat},e∈im a l i->e∈a\/∃ j:Nat,l[j]?=some e.1/\e.2=((i+j:Nat):Int)
 | [],a,i,h=>.inl h
 | s::l,a,i,h=>by
  rcases Nq (l:=l) h with h | ⟨j,b,c⟩
  ·rcases Np h with h | h
   ·exact .inl h
   ·exact .inr ⟨0,by rw [h];rfl,by rw [h];simp⟩
  ·exact .inr ⟨j+1,by simpa using b,by rw [c];congr 1;omega⟩
theorem xg{g:Gr}{s:B8}{v:Int}(h:hR s (aZ g)=some v):∃ j:Nat,v=j/\j<g.aN.length/\g.aN[j]?=some s:=by
 unfold hR at h;simp only [bZ] at h;obtain⟨e,b,rfl⟩:=h;have c:=Pl b;have d:=Ax b;rcases Nq d with h | ⟨j,a,f⟩
 ·cases h
 ·have:e.1=s:=by simpa using c
  rw [this] at a;exact⟨j,by rw [f];simp,(bu.1 a).1,a⟩
structure uQ (g:Gr):Prop where
 rk:∃ rk,ke g rk
 p4:∀ r∈g.rs,r.ps.length<=4
 rl:g.rs.length<=128
 el:g.es.length<=512
 cl:g.aN.length<=32
 cn:∀ r∈g.rs,∀ p∈r.ps,0<=p.cn/\p.cn<=32
 sn:0<=g.sn/\g.sn<g.aN.length
 en:∀ y∈g.es,(0<=y.cn/\y.cn<g.aN.length)/\kV (aZ g) y=true
 rn:∀ r∈g.rs,kX (aZ g) r=true
theorem afm{g:Gr}(h:hg g=0):(g.aN.length<=32/\g.es.length<=512/\g.rs.length<=128)/\lI (aZ g) g=true/\¬ k' g:=by
 have a:jB g=0:=by
  by_cases q:jB g=0
  ·exact q
  ·unfold hg at h;rw [aj q] at h;exact h
 have b:¬ k' g:=fun b=>by unfold hg at h;rw [ab (by simp [a]),aj b] at h;cases h
 unfold jB at a;by_cases q:(32<g.aN.length\/512<g.es.length)\/128<g.rs.length
 ·rw [aj q] at a;cases a
 ·rw [ab q] at a;by_cases c:(aZ g).length≠g.aN.length\/lI (aZ g) g=false
  ·rw [aj c] at a;cases a
  ·refine⟨⟨by omega,by omega,by omega⟩,?_,b⟩;cases d:lI (aZ g) g with
   | true=>rfl
   | false=>exact absurd (.inr d) c
theorem z_{b c:Type}{f:b->c}{q:b->b}:∀ {l:List b},(l.map q).map f=l.map f->∀ x∈l,f (q x)=f x
 | [],_,x,a=>by cases a
 | y::l,h,x,a=>by
  simp only [bo,xy] at h;rcases b_.1 a with rfl | a
  ·exact h.1
  ·exact z_ h.2 x a
theorem z'{g:Gr}(h:jd g=0):uQ g:=by
 have a:hg g=0:=by
  by_cases t:hg g=0
  ·exact t
  ·unfold jd at h;rw [aj t] at h;exact h
 have C:(jC (aZ g) g).sn=g.sn/\(jC (aZ g) g).es.map En.cn=g.es.map En.cn/\(jC (aZ g) g).rs.map dG=g.rs.map dG:=by
  unfold jd at h;rw [ab (by simp [a])] at h;split at h
  ·assumption
  ·cases h
 obtain⟨⟨u,D,E⟩,br,F⟩:=afm a;obtain⟨G,H,k⟩:=zU br;obtain⟨k1,k2,k3⟩:=C;have I:∀ y∈g.es,gu y.cat (aZ g)=y.cn:=fun y d=>z_ (f:=En.cn) (q:=pj (aZ g)) k2 y d
 have v:∀ r∈g.rs,gu r.cat (aZ g)=r.cn/\r.ps.map (kh (aZ g))=r.ps:=fun r a=>by have:=z_ (f:=dG) (q:=uM (aZ g)) k3 r a;exact⟨congrArg Prod.fst this,congrArg Prod.snd this⟩
 have o:=br;unfold lI at o;simp only [ax] at o;obtain⟨_,_,_,_,w,x⟩:=o;rw [bQ] at w x;have z:∀ r∈g.rs,∀ p∈r.ps,(if p.tx=[] then gu p.cat (aZ g) else 0)=p.cn:=fun r a p b=>by have:=z_ (f:=id) (q:=kh (aZ g)) (l:=r.ps) (by simpa using (v r a).2) p b;exact congrArg Pt.cn this
 refine⟨⟨fun c=>if 0<=c then pk g (g.aN.getD c.toNat []) else 0,fun c=>?_,fun r a=>⟨(k r a).2.1,fun p b e=>?_⟩⟩,fun r a=>Nk br a,E,D,u,fun r a p b=>?_,?_,fun y d=>⟨?_,w y d⟩,x⟩
 ·simp only;split
  ·exact afk _ _
  ·omega
 ·obtain⟨j,J,M,A⟩:=xg (k r a).1;have B:p∈r.ps:=by rw [b];simp
  obtain⟨i,m,s,n⟩:=xg ((k r a).2.2 p B e);have K:r.cn=j:=by rw [<- (v r a).1,J]
  have L:p.cn=i:=by rw [<- z r a p B,aj e,m]
  simp only [K,L];rw [aj (by omega),aj (by omega)];simp only [gw,fQ,n,A,Option.getD];exact afl F u a b e (dh A)
 ·rw [<- z r a p b];split
  ·rename_i e;obtain⟨i,m,s,n⟩:=xg ((k r a).2.2 p b e);omega
  ·omega
 ·obtain⟨i,m,s,n⟩:=xg G;have:gu g.start (aZ g)=g.sn:=k1;omega
 ·obtain⟨i,m,s,n⟩:=xg (H y d);have:=I y d;omega
end
section
attribute [local simp] cK cI cJ cG cH cd bS cA gP
theorem afn(g:Gr)(a:List It)(n:Int)(d:jd g=0)(h:a.length<=16384)(i:1<=n/\n<=16)(j:∀ y∈a,sI g n y)(k:((dy a).map (·.1)).Nodup) :
  ∃ b,ke g b/\PC 35 [bq g,.sl 6 (a.map bT),dI n] (.ret (.af [cz (eH g a (c_ (k_ g a n)) b ⟨g.sn,0,n⟩).tr,dI (eH g a (c_ (k_ g a n)) b ⟨g.sn,0,n⟩).cost,dB (eH g a (c_ (k_ g a n)) b ⟨g.sn,0,n⟩).ok,dI 0])):=by
 have c:=z' d;obtain⟨b,e⟩:=c.rk;have f:=Nn g;rw [d] at f;have o:=c.rl;have q:=c.sn;have s:=c.cl;exact⟨b,e,aeh g a n b f h i j k e c.p4 (by omega) (fun r l p m=>by have:=c.cn r l p m;omega) (by omega) _ rfl⟩
theorem Nr(a:Int):∀ k:Nat,dM a (k+1)=dM a k++[a+k]
 | 0=>by simp [dM]
 | k+1=>by rw [show dM a (k+1+1)=a::dM (a+1) (k+1) from rfl,Nr (a+1) k,show dM a (k+1)=a::dM (a+1) k from rfl];simp;omega
theorem Aa(a:Int):∀ k:Nat,(dM a k).length=k
 | 0=>rfl
 | k+1=>by simp [dM,Aa]
theorem afo(a b:Int)(h:0<=a/\a<=1000)(i:0<=b/\b<=1000):PC 95 [dI a,dI b] (.ret (.sl 1 ((dM a (b-a).toNat).map dI))):=by
 refine aG aH Zj (by simp [Dl]) fun j=>?_
 simp [Dl];refine jx Nat (fun k=>⟨[(1,true,.d (dI b)),(5,true,.d (dI (a+k))),(4,true,.own 0 1 ((dM a k).map dI))],[(0,.row)],[]⟩) (fun k=>k<=(b-a).toNat) (fun k=>(b-a).toNat-k) 0 (bp _) ⟨[],[(0,1)],by simp [dM]⟩ (fun k l=>?_);by_cases c:a+k<b
 ·have d:IntKind.i64.wrap (a+k+1)=a+k+1:=wrap64 (by omega);have m:=Aa a k;simp [c];refine⟨by omega,k+1,by omega,by omega,[(0,2)],[],?_⟩;have f:(dM a (k+1)).map dI=(dM a k).map dI++[.lit (.int .i64 (a+k))]:=by rw [Nr];simp
  have g:a+((k:Int)+1)=a+k+1:=by omega
  simp [d,f,g]
 ·have e:k=(b-a).toNat:=by omega
  simp [c];rw [e];exact aB.refl _
end
section
abbrev Mt:=List (B8×Tm)
def je(e:B8×Tm):Value×AV:=(.string (bs e.1),.d (bF e.2))
def mD(s:B8)(m:Mt):Option Tm:=(m.find? fun e=>e.1 == s).map (·.2)
def mF(s:B8)(x:Tm):Mt->Mt
 | []=>[(s,x)]
 | e::r=>if e.1=s then (e.1,x)::r else e::mF s x r
def f'(m:Mt):List Tm->Mt
 | []=>m
 | x::l=>f' (mF (ev x.src [32]) x m) l
theorem FZ(s:B8):∀ m:Mt,dJ (.string (bs s)) (m.map je)=some ((mD s m).map fun x=>.d (bF x))
 | []=>rfl
 | e::r=>by
  rw [bo,show je e=(.string (bs e.1),.d (bF e.2)) from rfl,oJ,FZ s r,rV,pd];unfold mD;rw [q_];by_cases h:s=e.1
  ·subst h;simp
  ·have a:(e.1 == s)=false:=by simp;exact fun q=>h q.symm
   simp [h,a]
theorem Ns{s:B8}{x:Tm}:∀ {m:Mt},mD s m=none->mF s x m=m++[(s,x)]
 | [],_=>rfl
 | e::r,h=>by
  unfold mD at h;rw [q_] at h;by_cases q:e.1=s
  ·have:(e.1 == s)=true:=by simpa using q
   rw [this] at h;cases h
  ·have a:(e.1 == s)=false:=by simpa using q
   rw [a] at h;rw [mF,ab q,Ns h];rfl
theorem Nt(s:B8)(x:Tm):∀ m:Mt,mD s m≠none->fj (.string (bs s)) (.d (bF x)) (m.map je)=(mF s x m).map je
 | [],h=>absurd rfl h
 | e::r,h=>by
  rw [bo,show je e=(.string (bs e.1),.d (bF e.2)) from rfl,fj,rV,mF];by_cases q:e.1=s
  ·subst q;simp [je,pd]
  ·have a:¬ s=e.1:=fun h=>q h.symm
   have b:(e.1 == s)=false:=by simpa using q
   unfold mD at h;rw [q_,b] at h;rw [ab q,bo,<- Nt s x r h];simp [pd,a,je]
theorem afp(m:Mt)(l:List Tm)(x:Tm):f' m (l++[x])=mF (ev x.src [32]) x (f' m l):=by
 induction l generalizing m with
 | nil=>rfl
 | cons y l a=>simp only [dX,f'];rw [a]
def jD:List B8->Nat->List It
 | [],_=>[]
 | w::l,i=>⟨-1,i,(i+1:Nat),0,[w],-1⟩::jD l (i+1)
theorem afq(l:List B8)(w:B8)(i:Nat):jD (l++[w]) i=jD l i++[⟨-1,(i+l.length:Nat),(i+l.length+1:Nat),0,[w],-1⟩]:=by
 induction l generalizing i with
 | nil=>rfl
 | cons y l a =>simp only [dX,jD];rw [a];simp only [bN];congr 4 <;> omega
def gG(g:Gr)(m:Mt)(b:List B8)(i a:Nat):List It :=
 if b.length<i+a then [] else match mD (ev ((b.drop i).take a) [32]) m with
  | none=>[]
  | some x=>if 0<=iX g.aN x.cat then [⟨iX g.aN x.cat,i,(i+a:Nat),0,x.cR,x.no⟩] else []
def mG(g:Gr)(a:List B8)(i:Nat):List It:=(g.es.filter fun y=>decide (y.tx=a.getD i [])).map fun y=>⟨y.cn,i,(i+1:Nat),y.cost,y.gv,-1⟩
def lb(g:Gr)(a:List B8)(i:Nat):List It:=(List.range g.aN.length).map fun(c:Nat)=>⟨(c:Int),i,(i+1:Nat),100,[a.getD i []],-1⟩
def bt(g:Gr)(m:Mt)(a:List B8)(i:Nat)(b:List It)(c:Nat):Nat->List It
 | 0=>b
 | 1=>bt g m a i b c 0++gG g m a i 1
 | 2=>bt g m a i b c 1++mG g a i
 | 3=>bt g m a i b c 2++if (bt g m a i b c 2).length=c then lb g a i else gG g m a i (a.length+1)
 | 4=>bt g m a i b c 3++gG g m a i 2
 | 5=>bt g m a i b c 4++gG g m a i 3
 | k+6=>bt g m a i b c 5++gG g m a i 4
def bM(g:Gr)(m:Mt)(a:List B8):Nat->List It
 | 0=>jD a 0
 | i+1=>bt g m a i (bM g m a i) (bM g m a i).length 6
def mH(g:Gr)(b:List Tm)(a:List B8):List It:=bM g (f' [] b) a a.length
noncomputable def ff(g:Gr)(l:List Tm)(a:Int)(b:List B8)(c d:Int):Int :=
 if jd g≠0 then jd g else if ig a c d l≠0 then ig a c d l else if 16<b.length then 2 else if b.any (fun w=>!bw w)=true then 280 else if 1024<(mH g (kc a c d l) b).length then 2 else 0
def cf(ps:List Pt):Nat:=(ps.filter fun p=>decide (p.tx=[])).length
def jf(ps:List Pt):Nat:=(ps.filter fun p=>!decide (p.tx=[])).length
theorem sM{p:Pt}{ps:List Pt}(h:p.tx=[]):cf (p::ps)=cf ps+1/\jf (p::ps)=jf ps:=by unfold cf jf;simp [h]
theorem sN{p:Pt}{ps:List Pt}(h:¬ p.tx=[]):cf (p::ps)=cf ps/\jf (p::ps)=jf ps+1:=by unfold cf jf;simp [h]
theorem uR:∀ ps:List Pt,cf ps+jf ps=ps.length
 | []=>rfl
 | p::ps=>by
  have c:=uR ps;by_cases h:p.tx=[]
  ·obtain⟨a,b⟩:=sM (ps:=ps) h;rw [a,b,bN];omega
  ·obtain⟨a,b⟩:=sN (ps:=ps) h;rw [a,b,bN];omega
mutual
def pn:Tr->Nat
 | .mk _ _ _ _ a=>1+lL a
def lL:List Tr->Nat
 | []=>0
 | t::a=>pn t+lL a
end
inductive lM (g:Gr) (ae:List It):Tr->Prop
 | leaf (i fr un:Int) (ks:List Tr) (y:It) (hi:0<=i/\ae[i.toNat]?=some y) (h0:0<=fr/\fr<un/\un<=16):lM g ae (.mk (-1) i fr un ks)
 | node (r:Nat) (i fr un:Int) (ks:List Tr) (x:Rl) (hr:g.rs[r]?=some x) (h0:0<=fr/\fr<un/\un<=16) (hl:ks.length=cf x.ps) (hk:∀ t∈ks,lM g ae t) (hs:∀ t∈ks,(jf x.ps:Int)+(t.un-t.fr)<=un-fr):lM g ae (.mk r i fr un ks)
theorem lM.bd{g:Gr}{b:List It}{t:Tr}(h:lM g b t):0<=t.fr/\t.fr<t.un/\t.un<=16:=by
 cases h with
 | leaf i c d e y f a=>exact a
 | node r i c d e x j a k l m=>exact a
def ld(g:Gr)(a:List It)(x:Gl)(b:Int)(f:Fd):Prop:=f.ok=true->(lM g a f.tr/\f.tr.fr=x.fr/\f.tr.un=x.un)/\(pn f.tr:Int)<=b
theorem Nu{g:Gr}{a:List It}{x:Gl}{b:Int}{f:Fd}{c m:Int}{t:Tr}(h:ld g a x b f)(d:(lM g a t/\t.fr=x.fr/\t.un=x.un)/\(pn t:Int)<=b):ld g a x b (gR f c m t):=by
 unfold gR;simp only;split
 ·exact fun _=>d
 ·exact h
theorem Nv{g:Gr}{a:List It}{x:Gl}{b:Int}(d:1<=b)(c:0<=x.fr/\x.fr<x.un/\x.un<=16):∀ (l:List It) (i:Nat) (f:Fd),l=a.drop i->ld g a x b f->ld g a x b (jy x l i f)
 | [],i,f,_,h=>h
 | y::l,i,f,e,h=>by
  unfold jy;have j:a[i]?=some y:=by have:=congrArg (fun m=>m[0]?) e;simpa using this.symm
  refine Nv d c l (i+1) _ ?_ ?_
  ·rw [<- xF,<- e];rfl
  ·split
   ·exact Nu h ⟨⟨.leaf i x.fr x.un [] y ⟨by omega,by simpa using j⟩ c,rfl,rfl⟩,by simp [pn,lL];omega⟩
   ·exact h
theorem F_{g:Gr}{ae:List It}{F:Gl->Fd}{w:Int->List B8}{q:Int}:∀ {ps:List Pt}{i:Int}{e:List Int},e∈dU w q ps i []->(∀ y:Gl,i<=y.fr->y.fr<y.un->y.un<=q->ld g ae y (128*(y.un-y.fr)-64) (F y))->∀ (c m:Int) (k:List Tr),
  0<(dx F ps e i c m k).2.1->∃ j,(dx F ps e i c m k).2.2=k++j/\j.length=cf ps/\(∀ t∈j,lM g ae t/\(jf ps:Int)+(t.un-t.fr)<=q-i)/\(lL j:Int)+64*cf ps+128*jf ps<=128*(q-i)
 | [],i,e,h,r,c,m,k,f=>by have B:=ph h;simp at B;unfold dx;exact⟨[],by simp,rfl,(fun t s=>by cases s),by simp [lL,cf,jf];omega⟩
 | p::ps,i,e,h,r,c,m,k,f=>by
  rcases qO h with ⟨l,u⟩ | ⟨l,t,L,rfl,u,M,C⟩
  ·unfold dx at f |-;simp only [l,vn,eA] at f |-;obtain⟨j,v,x,a3,a4⟩:=F_ u (fun y a b d=>r y (by omega) b d) _ _ _ f;obtain⟨n,o⟩:=sN (ps:=ps) l;refine⟨j,v,by rw [n];exact x,fun t s=>?_,by rw [n,o];omega⟩;have:=a3 t s;rw [o];exact⟨this.1,by omega⟩
  ·have B:=ph C;have H:=r ⟨p.cn,i,t⟩ (iu _) u (by simp only;omega);unfold dx at f |-;simp only [l,vm,eM] at f |-;split at f
   ·simp at f
   ·rename_i D;rw [ab D];have I:(F ⟨p.cn,i,t⟩).ok=true:=by simpa using D
    obtain⟨⟨J,E,G⟩,K⟩:=H I;obtain⟨j,v,x,a3,a4⟩:=F_ C (fun y a b d=>r y (by omega) b d) _ _ _ f;obtain⟨n,o⟩:=sM (ps:=ps) l;have N:=uR ps;simp only at E G K;refine⟨(F ⟨p.cn,i,t⟩).tr::j,by rw [v];simp,by rw [n,bN,x],fun z A=>?_,by rw [n,o,lL];omega⟩;rw [o];rcases b_.1 A with rfl | A
    ·exact⟨J,by rw [E,G];omega⟩
    ·have:=a3 z A;exact⟨this.1,by omega⟩
def lO(a:Int->Nat)(x:Gl):Int:=128*(x.un-x.fr)-127+a x.cat
theorem Nw{c:Gr}{s:List It}{j:Gl->Fd}{w:Int->List B8}{n:Int->Nat}(E:ke c n){x:Gl}(I:0<=x.fr/\x.fr<x.un/\x.un<=16)(J:∀ y:Gl,sD n x y->0<=y.fr->ld c s y (lO n y) (j y)):∀ (l:List Rl) (i:Nat) (f:Fd),l=c.rs.drop i->ld c s x (lO n x) f->ld c s x (lO n x) (kY j w x l i f)
 | [],i,f,_,h=>h
 | r::l,i,f,e,h=>by
  unfold kY;have T:c.rs[i]?=some r:=by have:=congrArg (fun m=>m[0]?) e;simpa using this.symm
  have U:r∈c.rs:=dh T;have V:=E.1;refine Nw E I J l (i+1) _ (by rw [<- xF,<- e];rfl) ?_;split
  case isFalse=>exact h
  rename_i b0;have:∀ (L:List (List Int)) (f:Fd),(∀ e∈L,e∈dU w x.un r.ps x.fr [])->ld c s x (lO n x) f->ld c s x (lO n x) (L.foldl (jz j x i r) f):=fun L=>by
   induction L with
   | nil=>intro f _ h;exact h
   | cons e L b1 =>
    intro f W h;rw [s'];refine b1 _ (fun e o=>W e (cD _ o)) ?_;have o:=W e (dj ..);have b2:0<(dx j r.ps e x.fr r.cost 1 []).2.1->∃ u,(dx j r.ps e x.fr r.cost 1 []).2.2=u/\u.length=cf r.ps/\(∀ t∈u,lM c s t/\(jf r.ps:Int)+(t.un-t.fr)<=x.un-x.fr)/\(lL u:Int)+1<=lO n x:=by
     intro k;have d4:lO n x=128*(x.un-x.fr)-127+n x.cat:=rfl;by_cases X:∃ p,r.ps=[p]/\p.tx=[]
     ·obtain⟨p,Y,v⟩:=X;rw [Y] at o k |-;rcases qO o with ⟨q,_⟩ | ⟨_,t,b3,rfl,K,q3,M⟩
      ·exact absurd v q
      ·have B:t=x.un:=by
        unfold dU at M;split at M
        ·assumption
        ·cases M
       subst B;have b4:=(E.2 r U).2 p Y v;rw [b0] at b4;have N:=J ⟨p.cn,x.fr,x.un⟩ ⟨iu _,K,iu _,by unfold kf;simp only;omega⟩ I.1;unfold dx at k |-;simp only [v,vm,eM] at k |-;split at k
       ·simp at k
       ·rename_i C;rw [ab C];have b5:(j ⟨p.cn,x.fr,x.un⟩).ok=true:=by simpa using C
        obtain⟨⟨y1,Z,y3⟩,y4⟩:=N b5;unfold lO at y4;simp only at Z y3 y4;have b6:jf [p]=0:=by unfold jf;simp [v]
        have b7:cf [p]=1:=by unfold cf;simp [v]
        unfold dx;refine⟨[(j ⟨p.cn,x.fr,x.un⟩).tr],by simp,by rw [b7];rfl,fun z b8=>?_,by simp only [lL];omega⟩;rw [iM.1 b8,b6,Z,y3];exact⟨y1,by omega⟩
     ·
      have b9:=(E.2 r U).1;have d5:=uR r.ps;have c0:1<=r.ps.length:=by
       cases c1:r.ps with
       | nil=>exact absurd c1 b9
       | cons p ps=>simp
      have c2:(∀ y:Gl,x.fr<=y.fr->y.fr<y.un->y.un<=x.un->y.un-y.fr<x.un-x.fr->ld c s y (128*(y.un-y.fr)-64) (j y)):=fun y a b d D=>by
       have N:=J y ⟨a,b,d,by
        unfold kf;have G:(y.un-y.fr).toNat+1<=(x.un-x.fr).toNat:=by omega
        have:=V y.cat;have h2:=ln 64 G;omega⟩ (by omega)
       intro C;obtain⟨q1,K⟩:=N C;have:=V y.cat;unfold lO at K;exact⟨q1,by omega⟩
      have a0:=ph o;by_cases G:r.ps.length=1
      ·
       match H:r.ps,G with
       | [p],_ =>
        have v:¬ p.tx=[]:=fun q=>X ⟨p,H,q⟩
        rw [H] at o k;unfold dx at k |-;simp only [v,vn,eA] at k |-;unfold dx;refine⟨[],rfl,by unfold cf;simp [v],fun t B=>(by cases B),by simp only [lL];omega⟩
      ·have d6:=o
       match H:r.ps,c0,G with
       | p::q::ps,_,_ =>
        rw [H] at o k a0;simp only [bN] at a0;have d0:∀ A:Gl->Fd,(∀ y:Gl,x.fr<=y.fr->y.fr<y.un->y.un<=x.un->y.un-y.fr<x.un-x.fr->A y=j y)->(∀ y:Gl,x.fr<=y.fr->y.fr<y.un->y.un<=x.un->¬ y.un-y.fr<x.un-x.fr->A y=ik)->dx A (p::q::ps) e x.fr r.cost 1 []=dx j (p::q::ps) e x.fr r.cost 1 []:=fun A O d7=>by
         rcases qO o with ⟨P,Q⟩ | ⟨P,t,b3,rfl,Q,z3,z4⟩
         ·unfold dx;simp only [P,vn,eA];exact w_ Q (fun y a b d=>O y (by omega) b d (by omega)) _ _ _
         ·simp only [bN] at z3;have d1:A ⟨p.cn,x.fr,t⟩=j ⟨p.cn,x.fr,t⟩:=O _ (iu _) Q (by simp only;omega) (by simp only;omega);unfold dx;simp only [P,vm,eM];rw [d1];split
          ·rfl
          ·exact w_ z4 (fun y a b d=>O y (by omega) b d (by omega)) _ _ _
        let A:Gl->Fd:=fun y=>if y.un-y.fr<x.un-x.fr then j y else ik
        have d2:=d0 A (fun y _ _ _ D=>aj D) (fun y _ _ _ D=>ab D);rw [<- d2] at k |-;obtain⟨u,R,S,a3,a4⟩:=F_ (g:=c) (ae:=s) (F:=A) o (fun y a b d=>by
         show ld c s y _ (if y.un-y.fr<x.un-x.fr then j y else ik);split
         ·rename_i D;exact c2 y a b d D
         ·exact fun C=>by cases C) _ _ _ k
        have d3:=uR (p::q::ps);simp only [bN] at d3;exact⟨u,by rw [R];rfl,S,a3,by omega⟩
    unfold jz;simp only;split
    ·rename_i k;obtain⟨u,R,S,a3,a4⟩:=b2 k;rw [R];exact Nu h ⟨⟨.node i (-1) x.fr x.un u r T I S (fun t B=>(a3 t B).1) (fun t B=>(a3 t B).2),rfl,rfl⟩,by simp only [pn];omega⟩
    ·exact h
  exact this _ _ (fun _ h=>h) h
theorem Ny{g:Gr}{a:List It}{w:Int->List B8}{b:Int->Nat}(c:ke g b):∀ (k:Nat) (x:Gl),(0<=x.fr/\x.fr<x.un/\x.un<=16)->ld g a x (lO b x) (qM g a w k x)
 | 0,x,_=>by intro h;cases h
 | k+1,x,h=>by unfold qM;exact Nw c h (fun y d e=>Ny c k y ⟨e,d.2.1,by have:=d.2.2.1;omega⟩) _ _ _ rfl (Nv (by unfold lO;omega) h _ _ _ rfl (by intro h;cases h))
theorem afr{g:Gr}{ae:List It}{w:Int->List B8}{c:Int->Nat}(d:ke g c){x:Gl}(h:0<=x.fr/\x.fr<x.un/\x.un<=16)(e:(eH g ae w c x).ok=true):lM g ae (eH g ae w c x).tr/\pn (eH g ae w c x).tr<=2100:=by unfold eH at e |-;obtain⟨⟨a,_,_⟩,b⟩:=Ny d _ _ h e;have:=d.1 x.cat;unfold lO at b;exact⟨a,by omega⟩
end
section
attribute [local simp] cK cI cJ cG cH cd bS cA nH nI nJ mq mr mu qL qJ qK nE nF nG
instance:Inhabited Tr:=⟨.mk 0 0 0 0 []⟩
def jg:List Pt->Int->List Tr->List Int
 | [],_,_=>[]
 | p::ps,a,b=>if p.tx=[] then jg ps (b.headD default).un b.tail else a::jg ps (a+1) b
def qR(x:Rl)(a b:Int)(c:List Int)(F:List (List Tg))(y:Gv):List Tg:=if y.tx=[] then F.getD (cf (x.ps.take y.pt.toNat)) [] else [⟨y.tx,gj (gI (dM a (b-a).toNat++c)),-1⟩]
mutual
def fg(g:Gr)(b:List It):Tr->List Int->List Tg
 | .mk r i c e d,a=>if r<0 then (match b[i.toNat]? with
   | some y=>y.cR.map fun s=>⟨s,gj (gI (dM y.fr (y.un-y.fr).toNat++a)),y.term⟩
   | none=>[]) else match g.rs[r.toNat]? with
   | some x=>x.gs.flatMap (qR x c e a (iG g b d (a++jg x.ps c d)))
   | none=>[]
def iG(g:Gr)(a:List It):List Tr->List Int->List (List Tg)
 | [],_=>[]
 | t::b,own=>fg g a t own::iG g a b own
end
theorem Nz{g:Gr}{ae:List It}{own:List Int}:∀ {ks:List Tr}{j:Nat}(h:j<ks.length),(iG g ae ks own).getD j []=fg g ae ks[j] own
 | t::ks,0,_=>by rw [iG];rfl
 | t::ks,j+1,h=>by rw [iG];have:=Nz (g:=g) (ae:=ae) (own:=own) (ks:=ks) (j:=j) (by simpa using h);simpa using this
theorem Ab:∀ (ps:List Pt) (a:Int) (b:List Tr),(jg ps a b).length=jf ps
 | [],_,_=>rfl
 | p::ps,a,b=>by
  unfold jg;by_cases h:p.tx=[]
  ·rw [aj h,Ab,(sM h).2]
  ·rw [ab h,bN,Ab,(sN h).2]
theorem afs(r:Rl)(t:Tr):PC 96 [bI r,cz t] (.ret (.fn (.func 160) [] [.ip (cz t),.ip (bI r)])):=by
 refine aG aH Zk (by simp [Dm]) fun a=>?_
 simp [Dm]
structure NA (Φ:List Int->List (Nat×HO)->Prop):Prop where
 rg:∀ acc h,Φ acc h->si h
 new:∀ acc h n o,Φ acc h->newName h<=n->gr (n::ai h) o->Φ acc (aM h n o)
def aft(b:List Int->List (Nat×HO)->Prop)(r:Rl)(t:Tr)(e:Cx)(g:List AV)(h:List (Nat×HO))(K:bK->List (Nat×HO)->Prop):Prop :=
 g=[.d (.fn (.yield e.l) [] []),.d (.ip (cz t)),.d (.ip (bI r))]/\NA b/\b [] h /\(∀ d a rest h f,jg r.ps t.fr t.ks=d++a::rest->b d h->(∀ c,b (d++[a]) c->f true c)->e.Y [.d (dI a)] h f)/\∀ c,b (jg r.ps t.fr t.ks) c->K (.ret (.af [])) c
theorem afu(n:List Int->List (Nat×HO)->Prop)(r:Rl)(t:Tr)(v:t.ks.length=cf r.ps)(T:r.ps.length<=4)(w:0<=t.fr/\t.fr<=16)(A:∀ z∈t.ks,0<=z.un/\z.un<=16):cW Tryz.prog 160 (aft n r t):=by
 refine(aR aai).mono fun B U h K C=>?_
 obtain⟨rfl,f,o,E,F⟩:=C;have V:=f;generalize G:jg r.ps t.fr t.ks=lits at *;simp [a160];refine⟨rfl,?_⟩;refine jx (Nat×Int×List Tr×List Int×List (Nat×HO)) (fun y=>⟨[(15,true,.d (dI y.1)),(4,true,.d (dI y.2.1)),(5,true,.d (.sl 5 (y.2.2.1.map cz))),(0,true,.d (.fn (.yield B.l) [] [])),(13,true,.d (.sl 3 (r.ps.map bA))),(14,true,.d (dI r.ps.length))],y.2.2.2.2,[]⟩)
  (fun y=>y.1<=r.ps.length/\(0<=y.2.1/\y.2.1<=16+y.1)/\y.2.2.1.length=cf (r.ps.drop y.1)/\(∀ z∈y.2.2.1,0<=z.un/\z.un<=16)/\lits=y.2.2.2.1++jg (r.ps.drop y.1) y.2.1 y.2.2.1/\n y.2.2.2.1 y.2.2.2.2) (fun y=>r.ps.length-y.1) (0,t.fr,t.ks,[],h) ⟨bp _,⟨w.1,by simp;omega⟩,by simpa using v,A,by simpa using G.symm,o⟩ ?_ (fun y H=>?_)
 ·simp only;refine oZ (f.rg _ _ o) ?_ trivial;simp
 obtain⟨k,a,c,i,I⟩:=y;obtain⟨J,L,d,j,b,g⟩:=H;simp only at J L d j b g;by_cases l:k<r.ps.length
 ·have q:=wS k (by omega);rw [fF l] at d b;simp [l];generalize r.ps[k]=p at *;have s:=f.new i I;simp [bA,bh,set_set];by_cases e:p.tx=[]
  ·obtain⟨m,M⟩:=sM (ps:=r.ps.drop (k+1)) e;rw [m] at d;rcases c with _ | ⟨z,c⟩
   ·simp at d
   have W:=j z (dj ..);simp only [bN] at d;have N:List.take c.length (c.map cz)=c.map cz:=by rw [d'];simp
   unfold jg at b;rw [aj e] at b;simp at b;simp [e,dT,bh,set_set,N];refine⟨by omega,rfl,k+1,z.un,c,i,_,⟨by omega,⟨by omega,by omega⟩,by omega,fun x O=>j x (cD _ O),b,s _ _ g (bj _) ?_⟩,by omega,oZ (iY (f.rg _ _ g) ?_) ?_ trivial⟩
   ·simp [gr,ib,bR,AV.one,D.one,dT]
   ·simp [gr,ib,bR,AV.one,D.one,dT]
   ·simp [q]
  ·have P:=nS e;obtain⟨m,M⟩:=sN (ps:=r.ps.drop (k+1)) e;rw [m] at d;unfold jg at b;rw [ab e] at b;have Q:IntKind.i64.wrap (a+1)=a+1:=wrap64 (by omega);simp [e,P,dT,bh,set_set];refine aK [] ?_;simp;refine E i a _ _ _ b (s _ _ g (bj _) ?_) fun R u=>?_
   ·simp [gr,ib,bR,AV.one,D.one,dT]
   ·simp;refine⟨k+1,a+1,c,i++[a],R,⟨by omega,⟨by omega,by omega⟩,d,j,by simpa using b,u⟩,by omega,oZ (f.rg _ _ u) ?_ trivial⟩;simp [q,Q]
 ·have S:k=r.ps.length:=by omega
  subst S;rw [oc] at b;simp [jg] at b;subst b;simp [l];exact F _ g
end
section
attribute [local simp] cK cI cJ cG cH cd bS cA nH nI nJ mq mr mu qL qJ qK nE nF nG so sp sq kO kP kQ
theorem dq{h:List (Nat×HO)}{n:Nat}{o:HO}(a:AL.look h n=some o):(∃ x,(n,x)∈h)=True:=fi ⟨o,yA a⟩
theorem F'{P:Program}{f:Cx}{Q:AE->St->Prop}{s:List (Nat×Bool×AV)}{a:List (Nat×HO)}{d:List DE}{b:AC}(c:Type)(e:c->List (Nat×Bool×AV))(I:c->List (Nat×HO)->Prop)(g:c->Nat)(i:c)(j:I i a)(l:∀ x h,I x h->si h)(m:jQ [] [] ⟨s,a,d⟩ a (e i))(n:ma [] [] a d d)(h:∀ x k,I x k->bL P f b (fp (fun o=>∃ y:c×List (Nat×HO),I y.1 y.2/\g y.1<g x/\Sub f.B o ⟨e y.1,y.2,d⟩) Q) ⟨e x,k,d⟩):bL P f (.loop b) Q ⟨s,a,d⟩ :=
 jx (c×List (Nat×HO)) (fun y=>⟨e y.1,y.2,d⟩) (fun y=>I y.1 y.2) (fun y=>g y.1) (i,a) j (oZ (l _ _ j) m n) fun y p=>h y.1 y.2 p
inductive xh:FuncId->List D->Out->Prop
 | span (a b:Int) (ha:0<=a/\a<=1000) (hb:0<=b/\b<=1000):xh 95 [dI a,dI b] (.ret (.sl 1 ((dM a (b-a).toNat).map dI)))
 | lit (r:Rl) (t:Tr):xh 96 [bI r,cz t] (.ret (.fn (.func 160) [] [.ip (cz t),.ip (bI r)]))
theorem Ga:∀ f c d,xh f c d->PC f c d:=by
 intro f c d h;cases h with
 | span a b e g=>exact afo a b e g
 | lit r t=>exact afs r t
def xi(S:Wz)(t:Tr)(a:List Int):List AV:=[.d (cz t),.d (.sl 1 (a.map dI)),.d (.ip (.sl 6 (S.ae.map bT))),.ptr 5 0,.d (.ip (bq S.g)),.ptr 4 0]
def sO(S:Wz)(t:Tr)(a:List Int)(b:Cx)(e:List AV)(h:List (Nat×HO))(K:bK->List (Nat×HO)->Prop):Prop :=
 ∃ R L,(ER S b/\b.top=true)/\e=xi S t a/\jv S h R L/\L.length+(fg S.g S.ae t a).length<=1000000/\b.B<=newName h /\∀ c d,jv S c d (L++fg S.g S.ae t a)->newName h<=d\/d=R->Nx h c R->K (.ret (.d (dB true))) c
def Gc(a:List It):Prop:=∀ y∈a,0<=y.fr/\y.fr<y.un/\y.un<=16
theorem NB(S:Wz)(H:Gc S.ae)(i v w:Int)(x:List Tr)(y:It)(f:0<=i/\S.ae[i.toNat]?=some y)(a:List Int)(b0:a.length<=900):cW Tryz.prog 94 (sO S (.mk (-1) i v w x) a):=by
 refine((aR Kl).qp Ga).mono fun cx b1 h K I=>?_
 obtain⟨R,L,⟨A,b2⟩,rfl,d,B,b3,C⟩:=I;obtain⟨M,o⟩:=yZ d;have b4:=H y (dh f.2);have b:i.toNat<S.ae.length:=(bu.1 f.2).1;have J:S.ae[i.toNat]=y:=by have:=f.2;rw [aI b] at this;exact tc this
 obtain⟨n,rfl⟩:=ht f.1;have N:n<S.ae.length:=b;have O:S.ae[n]=y:=J;have P:fg S.g S.ae (.mk (-1) n v w x) a=y.cR.map fun s=>⟨s,gj (gI (dM y.fr (y.un-y.fr).toNat++a)),y.term⟩:=by rw [fg,aj (by decide),f.2]
 rw [P] at B C;simp only [db] at B;have Q:∀ k:Nat,k<y.cR.length->IntKind.i64.wrap ((k:Int)+1)=(k:Int)+1:=fun k b5=>wrap64 (by omega)
 simp [Dk,xi,o,hJ,lE,bh,set_set,Tr.r,Tr.i,Tr.fr,Tr.un,Tr.ks,N,O];generalize aH:(fun s=>(⟨s,gj (gI (dM y.fr (y.un-y.fr).toNat++a)),y.term⟩:Tg))=E at *;have T:R≠M+7:=fun e=>by
  by_cases q:L=[]
  ·have:=d.lN q;omega
  ·have:=dp (d.lR q).1;omega
 refine F' (Nat×Nat) (fun z=>[(31,true,.d (dI z.1)),(1,true,.d (.sl 1 (a.map dI))),(3,true,.ptr 5 0),(9,true,.ptr (M+7) 0),(29,true,.d (.sl 1 (y.cR.map dT))),(30,true,.d (dI y.cR.length))])
  (fun z g=>z.1<=y.cR.length/\jv S g z.2 (L++(y.cR.take z.1).map E)/\(newName h<=z.2\/z.2=R)/\Nx h g R/\AL.look g (M+7)=some (.box true [.d (dI y.cat),.d (dI y.fr),.d (dI y.un),.d (dI y.cost),.d (.sl 1 (y.cR.map dT)),.d (dI y.term)])/\z.2≠M+7) (fun z=>y.cR.length-z.1) (0,R) ⟨bp _,?_,.inr rfl,?_,?_,T⟩ (fun z g U=>U.2.1.rg) ?_ trivial (fun z g V=>?_)
 ·simp only [Pn,hY,eN];refine o_ (o_ d (by omega) ?_) (by rw [hJ o];omega) ?_ <;> simp [gr,ib,bR,AV.one,D.one,dT]
 ·exact qx (by omega) (qx (by rw [hJ o];omega) ⟨bj _,fun _ _ _ _=>rfl⟩)
 ·simp [bh]
 ·simp [bh,d.l5,mo,(dq d.l5)]
 obtain⟨k,W⟩:=z;obtain⟨X,j,p,l,c,r⟩:=V;simp only at X j p l c r;by_cases b:k<y.cR.length
 ·have Y:y.cR.take (k+1)=y.cR.take k++[y.cR[k]]:=fR b;have Z:=Q k b;have F:=j.l5;unfold yY at F;simp [b];generalize y.cR[k]=t at *;refine oL [.ret (.sl 1 ((dM y.fr (y.un-y.fr).toNat).map dI))] [] ?_;simp [F,c];refine⟨.span _ _ ⟨by omega,by omega⟩ ⟨by omega,by omega⟩,?_,?_⟩
  ·simp [de,kB,kA,List.range,List.range.loop]
  have hu:=Aa y.fr (y.un-y.fr).toNat;refine aV _ (Lp S t (dM y.fr (y.un-y.fr).toNat) a y.term ⟨by omega,by omega⟩) ?_;refine⟨W,_,⟨A.1,A.2⟩,rfl,j,by simp;omega,fun a0 a1 m b6 u=>?_⟩;have a2:(⟨t,gj (gI (dM y.fr (y.un-y.fr).toNat++a)),y.term⟩:Tg)=E t:=by rw [<- aH]
  rw [a2] at m;simp;refine⟨k+1,a1,a0,⟨by omega,by rw [<- tg,Y];simpa using m,.inl (by have:=l.nn;omega),Lo l u (p.elim .inl .inr),?_,?_⟩,by omega,?_⟩
  ·have:=u.at_ (M+7) (dp c) (by omega) (fun e=>r e.symm);rw [this];exact c
  ·have:=dp c;omega
  ·have l5:=m.l5;have G:=u.at_ (M+7) (dp c) (by omega) (fun e=>r e.symm);rw [c] at G;refine oZ m.rg ?_ trivial;simp [Z,dq l5,dq G]
 ·have e9:k=y.cR.length:=by omega
  subst e9;rw [eK] at j;simp [b];exact C _ _ j p l
end
section
def gT(a:List Tr):List Pt->Nat->Nat->List (Value×AV)
 | [],_,_=>[]
 | p::ps,i,j=>if p.tx=[] then (.int .i64 i,.d (cz (a.getD j default)))::gT a ps (i+1) (j+1) else gT a ps (i+1) j
theorem Gd(a:List Tr):∀ (ps:List Pt) (i j:Nat),(gT a ps i j).length=cf ps
 | [],_,_=>rfl
 | p::ps,i,j=>by
  unfold gT;by_cases h:p.tx=[]
  ·rw [aj h,bN,Gd,(sM h).1]
  ·rw [ab h,Gd,(sN h).1]
theorem Ge(a:List Tr)(p:Pt):∀ (ps:List Pt) (i j:Nat),gT a (ps++[p]) i j=gT a ps i j++if p.tx=[] then [(.int .i64 ((i+ps.length:Nat):Int),.d (cz (a.getD (j+cf ps) default)))] else []
 | [],i,j=>by simp only [gx,gT];by_cases h:p.tx=[] <;> simp [h,cf]
 | q::ps,i,j=>by
  rw [dX];unfold gT;by_cases h:q.tx=[]
  ·rw [aj h,aj h,Ge a p ps,(sM h).1,bN,dX];rw [show i+1+ps.length=i+(ps.length+1) by omega,show j+1+cf ps=j+(cf ps+1) by omega]
  ·rw [ab h,ab h,Ge a p ps,(sN h).1,bN];rw [show i+1+ps.length=i+(ps.length+1) by omega]
theorem Gf(a b:Int):hA (.int .i64 a) (.int .i64 b)=some (decide (a=b)):=by rw [Cn,aj rfl];congr 1
theorem NC(a:List Tr)(n:Int):∀ (ps:List Pt) (i j:Nat),(i:Int)+ps.length<=n->dJ (.int .i64 n) (gT a ps i j)=some none
 | [],i,j,_=>rfl
 | p::ps,i,j,h=>by
  simp only [bN] at h;unfold gT;have b:=fun j=>NC a n ps (i+1) j (by omega)
  by_cases q:p.tx=[]
  ·rw [aj q,oJ,Gf,b];have:decide (n=(i:Int))=false:=by simp;omega
   rw [this]
  ·rw [ab q];exact b j
theorem ND(b:List Tr):∀ (ps:List Pt) (i j m:Nat) (p:Pt),ps[m]?=some p->p.tx=[]->dJ (.int .i64 ((i+m:Nat):Int)) (gT b ps i j)=some (some (.d (cz (b.getD (j+cf (ps.take m)) default))))
 | [],_,_,_,_,h,_=>by simp at h
 | q::ps,i,j,0,p,h,c=>by simp at h;subst h;unfold gT;rw [aj c,oJ,Gf];simp [cf]
 | q::ps,i,j,m+1,p,h,c=>by
  have d:=fun j=>ND b ps (i+1) j m p (by simpa using h) c
  unfold gT;rw [show i+(m+1)=i+1+m by omega,uW];by_cases a:q.tx=[]
  ·rw [aj a,oJ,Gf,d,(sM a).1];have:decide (((i+1+m:Nat):Int)=(i:Int))=false:=by simp;omega
   rw [this,show j+1+cf (ps.take m)=j+(cf (ps.take m)+1) by omega]
  ·rw [ab a,d,(sN a).1]
theorem Gg(a:List Tr)(N:List Nat):∀ (ps:List Pt) (i j:Nat),∀ e∈gT a ps i j,bR N 1 e.2=true
 | [],_,_,e,h=>by cases h
 | p::ps,i,j,e,h=>by
  unfold gT at h;split at h
  ·rcases b_.1 h with rfl | h
   ·rfl
   ·exact Gg a N ps _ _ e h
  ·exact Gg a N ps _ _ e h
theorem NF(a:List Tr):∀ (ps:List Pt) (i j:Nat),eB (gT a ps i j)=false
 | [],_,_=>rfl
 | p::ps,i,j=>by
  unfold gT;split
  ·rfl
  ·exact NF a ps _ _
end

end Go.Proofs.YtloccchppmffpaaGreatDoor
