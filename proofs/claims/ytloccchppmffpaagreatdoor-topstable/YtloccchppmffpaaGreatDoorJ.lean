/- Part of the proof. -/
import Derived.Test.YtloccchppmffpaaGreatDoorI
set_option linter.unnecessarySimpa false
set_option linter.unusedVariables false
set_option linter.unusedSimpArgs false
set_option linter.defProp false
set_option maxRecDepth 20000
set_option maxHeartbeats 40000000
namespace Go.Proofs.YtloccchppmffpaaGreatDoor
open Go Go.Proofs.YtloccchppmffpaaGreatDoor.AL
def AW:=@List.countP_cons
def HC:=@Int.tdiv_eq_ediv_of_nonneg
def PY:=@List.flatMap_append
def PZ:=@Int.mul_le_mul_of_nonneg_right
def P_:=@List.countP_le_length
section
attribute [local simp] cK cI cJ cG cH cd bS cA nH nI nJ mq mr mu qL qJ qK nE nF nG abW abX abY kO kP kQ
def xj(t:Tr):HO:=.box true [.d (dI t.r),.d (dI t.i),.d (dI t.fr),.d (dI t.un),.d (.sl 5 (t.ks.map cz))]
def Ac(x:Rl):HO:=.box true [.d (dT x.cat),.d (dI x.cn),.d (.sl 3 (x.ps.map bA)),.d (.sl 2 (x.gs.map iC)),.d (dI x.cost)]
theorem uS(t:Tr):cz t=.agg [dI t.r,dI t.i,dI t.fr,dI t.un,.sl 5 (t.ks.map cz)]:=by cases t;rw [cz,zB];rfl
theorem afv{P:Program}{a:Cx}{c:AC}{Q:AE->St->Prop}{s:List (Nat×Bool×AV)}{h:List (Nat×HO)}{d:List DE}(F:List (Nat×HO)->Prop)(e:F h)(H:∀ b,F b->bL P a c Q ⟨s,b,d⟩):bL P a c Q ⟨s,h,d⟩:=H h e
structure Nd (S:Wz) (h:List (Nat×HO)) (R M:Nat) (t:Tr) (x:Rl) (own:List Int) (hp:List (Nat×HO)) (R' ro:Nat) (L:List Tg):Prop where
 st:jv S hp R' L
 nx:Nx h hp R
 rr:newName h<=R'\/R'=R
 l6:AL.look hp (M+6)=some (xj t)
 l7:AL.look hp (M+7)=some (Ac x)
 l9:AL.look hp (M+9)=some (.box false [.own ro 1 (own.map dI)])
 lo:AL.look hp ro=some .row
 n7:R'≠M+6/\R'≠M+7/\R'≠M+9/\R'≠ro/\R'≠M+10
theorem qS{S:Wz}{h:List (Nat×HO)}{R M:Nat}{t:Tr}{x:Rl}{own:List Int}{b:List (Nat×HO)}{c d:Nat}{L:List Tg}{n:Nat}{o:HO}(a:Nd S h R M t x own b c d L)(f:newName b<=n)(g:gr (n::ai b) o):Nd S h R M t x own (aM b n o) c d L:=by
 have l:∀ m,m<newName b->AL.look (aM b n o) m=AL.look b m:=fun m k=>by rw [bh,ab (by omega)]
 refine⟨o_ a.st f g,⟨eX a.nx.nn (by rw [hK];omega),fun m e i j=>?_⟩,a.rr,?_,?_,?_,?_,a.n7⟩
 ·rw [l m (fx e a.nx.nn)];exact a.nx.at_ m e i j
 ·rw [l _ (dp a.l6)];exact a.l6
 ·rw [l _ (dp a.l7)];exact a.l7
 ·rw [l _ (dp a.l9)];exact a.l9
 ·rw [l _ (dp a.lo)];exact a.lo
theorem xk{S:Wz}{h:List (Nat×HO)}{R n:Nat}{o:HO}{L:List Tg}(c:jv S h R L)(j:6<=n)(f:n≠R)(g:gr (n::ai h) o):jv S (aM h n o) R L:=by
 have d:∀ m,m≠n->AL.look (aM h n o) m=AL.look h m:=fun m i=>by rw [bh,ab i]
 exact⟨iY c.rg g,by rw [d 0 (by omega)];exact c.l0,fun q=>by obtain⟨a,b⟩:=c.lR q;exact⟨by rw [d R (fun e=>f e.symm)];exact a,b⟩,c.lN,by rw [d 2 (by omega)];exact c.l2,by rw [d 3 (by omega)];exact c.l3,by rw [d 4 (by omega)];exact c.l4,by rw [d 5 (by omega)];exact c.l5⟩
theorem xl{h a:List (Nat×HO)}{R n:Nat}{o:HO}(b:Nx h a R)(f:newName h<=n):Nx h (aM a n o) R :=
 ⟨eX b.nn (by rw [hK];omega),fun m c d e=>by rw [bh,ab (by omega)];exact b.at_ m c d e⟩
theorem xm{S:Wz}{h:List (Nat×HO)}{R M:Nat}{t:Tr}{x:Rl}{own:List Int}{b:List (Nat×HO)}{c d:Nat}{L:List Tg}{n:Nat}{o:HO}(a:Nd S h R M t x own b c d L)(k:newName h=M+6)(e:M+6<=n/\n≠M+6/\n≠M+7/\n≠M+9/\n≠d/\n≠c)(f:gr (n::ai b) o):Nd S h R M t x own (aM b n o) c d L:=by
 have l:∀ m,m≠n->AL.look (aM b n o) m=AL.look b m:=fun m g=>by rw [bh,ab g]
 obtain⟨p,i,j,a3,a4,a5⟩:=e;exact⟨xk a.st (by omega) a5 f,xl a.nx (by omega),a.rr,by rw [l _ (gV i)];exact a.l6,by rw [l _ (gV j)];exact a.l7,by rw [l _ (gV a3)];exact a.l9,by rw [l _ (gV a4)];exact a.lo,a.n7⟩
theorem afw{S:Wz}{h:List (Nat×HO)}{R M:Nat}{t:Tr}{x:Rl}{own own':List Int}{c:List (Nat×HO)}{d b n2:Nat}{L:List Tg}(a:Nd S h R M t x own c d b L)(m:newName h=M+6)(n:M+8<=b)(o:newName c<=n2)(p:d<n2):Nd S h R M t x own' (aM (aM (aM c b .dead) n2 .row) (M+9) (.box false [.own n2 1 (own'.map dI)])) d n2 L:=by
 obtain⟨i,j,f,k,l⟩:=a.n7;have q:=dp a.l6;have r:=dp a.l7;have s:=dp a.l9;have lo:=dp a.lo;have u:b≠M+9:=fun e=>by have g:=a.l9;rw [<- e,a.lo] at g;cases g
 refine⟨xk (xk (xk a.st (by omega) (gV k) trivial) (by omega) (by omega) trivial) (by omega) (gV f) ?_,xl (xl (xl a.nx (by omega)) (by omega)) (by omega),a.rr,?_,?_,?_,?_,⟨i,j,f,by omega,l⟩⟩
 ·simp [gr,ib,bR,AV.one,mo]
 ·rw [bh,ab (by omega),bh,ab (by omega),bh,ab (by omega)];exact a.l6
 ·rw [bh,ab (by omega),bh,ab (by omega),bh,ab (by omega)];exact a.l7
 ·rw [bh,aj rfl]
 ·rw [bh,ab (by omega),bh,aj rfl]
theorem mI{a b:List (Nat×HO)}{c n:Nat}{o:HO}(e:Nx a b c)(d:AL.look a n=some o)(f:n≠0)(g:n≠c):AL.look b n=some o:=by rw [e.at_ n (dp d) f g];exact d
theorem NG{S:Wz}{h:List (Nat×HO)}{R M:Nat}{t:Tr}{x:Rl}{own:List Int}{c f:List (Nat×HO)}{g d i:Nat}{p j:List Tg}(a:Nd S h R M t x own c g i p)(v:newName h=M+6)(q:i≠0)(w:M+10<newName c)(r:jv S f d j)(k:newName c<=d\/d=g)(b:Nx c f g):Nd S h R M t x own f d i j:=by
 obtain⟨l,m,n,o,s⟩:=a.n7;have y:=dp a.l6;have z:=dp a.l7;have A:=dp a.l9;have lo:=dp a.lo;have B:=a.nx.nn;have u:=a.rr;refine⟨r,Lo a.nx b u,?_,mI b a.l6 (by omega) (gV l),mI b a.l7 (by omega) (gV m),mI b a.l9 (by omega) (gV n),mI b a.lo q (gV o),?_⟩
 ·rcases k with e | e <;> omega
 ·rcases k with e | e
  ·exact⟨by omega,by omega,by omega,by omega,by omega⟩
  ·subst e;exact⟨l,m,n,o,s⟩
def NH(S:Wz)(h:List (Nat×HO))(R M:Nat)(t:Tr)(x:Rl)(c:List Int)(L:List Tg)(d:List Int)(a:List (Nat×HO)):Prop :=
 ∃ b,Nd S h R M t x (c++d) a R b L/\(b=M+8\/M+12<=b)/\AL.look a (M+10)=some (.obj 0)/\AL.look a (M+11)=some (.obj 1)
theorem afx(S:Wz)(h:List (Nat×HO))(R M:Nat)(t:Tr)(x:Rl)(g:List Int)(L:List Tg):NA (NH S h R M t x g L):=by
 refine⟨fun i j e=>?_,fun i j n o e k l=>?_⟩
 ·obtain⟨f,a,_⟩:=e;exact a.st.rg
 ·obtain⟨f,a,b,c,d⟩:=e;have m:=dp c;have p:=dp d;exact⟨f,qS a k l,b,by rw [bh,ab (by omega)];exact c,by rw [bh,ab (by omega)];exact d⟩
def Ad(x:Rl):Prop:=x.ps.length<=4/\x.gs.length<=8/\∀ y∈x.gs,y.tx=[]->∃ m p,y.pt=(m:Nat)/\x.ps[m]?=some p/\p.tx=[]
theorem afy(S:Wz)(O:Nat)(i d s:Int)(b:List Tr)(x:Rl)(hr:S.g.rs[O]?=some x)(b3:Ad x)(h0:0<=d/\d<s/\s<=16)(hl:b.length=cf x.ps)(h9:∀ z∈b,0<=z.un/\z.un<=16)(g:List Int)(m5:g.length+jf x.ps<=900)(i0:∀ z∈b,cW Tryz.prog 94 (sO S z (g++jg x.ps d b))):cW Tryz.prog 94 (sO S (.mk O i d s b) g):=by
 refine((aR Kl).qp Ga).mono fun cx m6 h K i5=>?_
 obtain⟨R,L,⟨c1,i6⟩,rfl,T,i7,m7,g3⟩:=i5;obtain⟨M,E⟩:=yZ T;have u:O<S.g.rs.length:=(bu.1 hr).1;have i8:S.g.rs[O]=x:=by rw [aI u] at hr;exact tc hr
 have i9:fg S.g S.ae (.mk O i d s b) g=x.gs.flatMap (qR x d s g (iG S.g S.ae b (g++jg x.ps d b))):=by rw [fg,ab (by omega),gw,hr]
 rw [i9] at i7 g3;have j0:¬ (O:Int)<0:=by omega
 generalize b4:Tr.mk O i d s b=t at *;have U:t.r=O:=by rw [<- b4];rfl
 have F:t.i=i:=by rw [<- b4];rfl
 have H:t.fr=d:=by rw [<- b4];rfl
 have V:t.un=s:=by rw [<- b4];rfl
 have A:t.ks=b:=by rw [<- b4];rfl
 have d2:=xh.lit x t;simp (maxDischargeDepth:=9) [Dk,xi,E,hJ,lE,bh,set_set,U,F,H,V,A,j0,u,i8];rw [uS,U,F,H,V,A] at d2;unfold bI at d2;refine ah [.ret (.fn (.func 160) [] [.ip (cz t),.ip (bI x)])] ?_;rw [uS,U,F,H,V,A];unfold bI;simp (maxDischargeDepth:=9) [E,hJ,lE,bh,set_set];refine⟨d2,?_⟩;have b5:∀ k,R≠M+6+k:=fun k e=>by
  by_cases q:L=[]
  ·have:=T.lN q;omega
  ·have:=dp (T.lR q).1;omega
 refine afv (fun h4=>Nd S h R M t x g h4 R (M+8) L/\newName h4=M+10) ⟨⟨?_,?_,.inr rfl,?_,?_,?_,?_,⟨b5 0,b5 1,b5 3,b5 2,b5 4⟩⟩,?_⟩ (fun h4 d3=>?_)
 ·refine o_ (o_ (o_ (o_ T (by omega) ?_) (by simp only [hK];omega) ?_) (by simp only [hK];omega) ?_) (by simp only [hK];omega) ?_ <;> simp [gr,ib,bR,AV.one,D.one,dT,mo]
 ·exact qx (by omega) (qx (by simp only [hK];omega) (qx (by simp only [hK];omega) (qx (by simp only [hK];omega) ⟨bj _,fun _ _ _ _=>rfl⟩)))
 ·simp [bh,xj,U,F,H,V,A]
 ·simp [bh,Ac]
 ·simp [bh];rw [d'];simp
 ·simp [bh]
 ·simp only [hK];omega
 obtain⟨d3,j6⟩:=d3;have j7:=afu (NH S h R M t x g L) x t (by rw [A];exact hl) b3.1 (by rw [H];omega) (by rw [A];exact h9);refine h' _ j7 i6 (by rfl) (fun yl=>by rfl) (fun yl=>?_);rw [j6];refine⟨?_,afx S h R M t x g L,⟨M+8,?_,.inl rfl,?_,?_⟩,fun g4 a rest d4 m8 j8 d5 j9=>?_,fun d4 d5=>?_⟩
 ·rw [uS,U,F,H,V,A];rfl
 ·rw [eN];refine qS (qS d3 (by omega) trivial) (by rw [hK];omega) trivial
 ·simp [bh]
 ·simp [bh]
 ·obtain⟨j,r,a2,a3,a4⟩:=d5;obtain⟨P,Z⟩:∃ P,newName d4=P:=⟨_,rfl⟩;have b6:=dp a4;have c2:=dp r.lo;have q9:=dp r.l9;rw [Z] at b6 c2 q9;have l9:=r.l9;have lo:=r.lo;have f1:¬ M+11=P:=by omega
  have f2:¬ M+9=P:=by omega
  have f3:¬ M+11=P+1:=by omega
  have f4:¬ M+9=P+1:=by omega
  have f5:¬ j=P:=by omega
  have f6:¬ j=P+1:=by omega
  have f7:¬ j=M+11:=by omega
  have f8:¬ M+11=j:=by omega
  have f9:¬ j=M+9:=by omega
  have d6:¬ M+9=j:=by omega
  have k0:¬ P=j:=by omega
  have k7:¬ P+1=j:=by omega
  have k8:¬ M+6+1+1=P:=by omega
  have g5:¬ M+10=P:=by omega
  have k9:¬ M+10=j:=by omega
  have q1:M+11<P+1:=by omega
  have q2:j<P+1:=by omega
  simp (maxDischargeDepth:=9) [Z,a3,a4,l9,lo,hJ,lE,bh,set_set,f1,f2,f3,f4,f5,f6,f7,f8,f9,d6,k0,k7,k8,g5,q1,q2,b6,c2,q9];have m9:g.length+g4.length<=900:=by have:=congrArg List.length j8;rw [Ab,da,bN] at this;omega
  have n0:R<M+6:=by
   by_cases q:L=[]
   ·have:=T.lN q;omega
   ·have:=dp (T.lR q).1;omega
  refine⟨⟨by omega,by omega⟩,j9 _ ⟨P+1,?_,.inr (by omega),?_,?_⟩⟩
  ·have h1:=xm (n:=M+10+1) (o:=.obj 2) r E (by omega) trivial;have h2:=xm (n:=P) (o:=.row) h1 E (by omega) trivial;have h3:=afw (own':=g++(g4++[a])) (n2:=P+1) h2 E (by omega) (by simp only [hK,Z];omega) (by omega);have h4:=xm (n:=M+10+1) (o:=.obj 1) h3 E (by omega) trivial;simpa using h4
  ·simp [bh,a3,f2,g5,k9]
  ·simp [bh]
 ·obtain⟨j,r,a2,a3,a4⟩:=d5;rw [H,A] at r;obtain⟨P,Z⟩:∃ P,newName d4=P:=⟨_,rfl⟩;have b6:=dp a4;have c2:=dp r.lo;rw [Z] at b6 c2;have l7:=r.l7;unfold Ac at l7;have f1:¬ M+7=P:=by omega
  have n1:R<M+6:=by
   by_cases q:L=[]
   ·have:=T.lN q;omega
   ·have:=dp (T.lR q).1;omega
  generalize n3:g++jg x.ps d b=own at *;simp (maxDischargeDepth:=9) [a4,Z,l7,hJ,lE,bh,set_set,f1,b6];refine F' Nat (fun k=>[(72,true,.d (dI k)),(70,true,.d (.sl 3 (x.ps.map bA))),(71,true,.d (dI x.ps.length)),(15,true,.mp P),(13,true,.ptr (M+9) 0),(12,true,.ptr (M+7) 0),(6,true,.ptr (M+6) 0),(1,true,.d (.sl 1 (g.map dI))),(3,true,.ptr 5 0),(5,true,.ptr 4 0)])
   (fun k W=>k<=x.ps.length/\Nd S h R M t x own W R j L/\AL.look W (M+10)=some (.obj 0)/\AL.look W P=some (.aA (gT b (x.ps.take k) 0 0))) (fun k=>x.ps.length-k) 0 ⟨bp _,?_,?_,?_⟩ (fun k W a0=>a0.2.1.st.rg) ?_ ?_ (fun k W a0=>?_)
  ·have h1:=xm (n:=M+10+1) (o:=.dead) r E (by omega) trivial;exact qS h1 (by simp only [hK,Z];omega) (by simp [gr])
  ·have f2:¬ M+10=P:=by omega
   simp [bh,a3,f2]
  ·simp [bh,gT]
  ·simp [mo,dq r.l9,dq r.l7,dq r.l6,dq r.st.l4,dq r.st.l5]
  ·refine⟨⟨rfl,?_⟩,trivial⟩;simp [bg,bc,mo,dq a3]
  ·obtain⟨i1,f,X,i4⟩:=a0;obtain⟨Q,I⟩:∃ Q,newName W=Q:=⟨_,rfl⟩;have q6:=dp f.l6;have d7:=dp i4;rw [I] at q6 d7;have Y:=f.l6;unfold xj at Y;rw [U,F,H,V,A] at Y;have r1:¬ M+6=Q:=by omega
   have r2:¬ P=Q:=by omega
   have r3:¬ P=M+6:=by omega
   by_cases u:k<x.ps.length
   ·have hw:IntKind.i64.wrap ((k:Int)+1)=(k:Int)+1:=wrap64 (by have:=b3.1;omega);have b0:=Ge b x.ps[k] (x.ps.take k) 0 0;rw [<- fR u,xH i1,bC,bC] at b0;have l0:=Gd b (x.ps.take k) 0 0;have l1:=NC b k (x.ps.take k) 0 0 (by rw [xH i1];omega);have l2:(x.ps.take k++[x.ps[k]])++x.ps.drop (k+1)=x.ps:=by rw [<- fR u,mP]
    have n4:(x.ps.map bA)[k]?=some (bA x.ps[k]):=by simp [u]
    simp [u];generalize x.ps[k]=p at *;simp (maxDischargeDepth:=9) [bA,I,hJ,lE,bh,set_set];by_cases v:p.tx=[]
    ·have b2:cf (x.ps.take k)<b.length:=by have:=congrArg cf l2;unfold cf at this hl |-;rw [q',q',da,da] at this;simp [v] at this;omega
     rw [aj v] at b0;simp (maxDischargeDepth:=9) [v,dT,I,hJ,lE,bh,set_set,Y,i4,r1,r2,r3,l0,l1,b2];have l3:b.getD (cf (x.ps.take k)) default=b[cf (x.ps.take k)]:=by rw [fQ,aI b2];rfl
     rw [l3] at b0;have n5:=b3.1;have l4:=uR (x.ps.take k);rw [xH i1] at l4;have w:Nd S h R M t x own (aM (aM W Q (.box true [.d (.lit (.string (bs p.cat))),.d (.lit (.int .i64 p.cn)),.d (.lit (.string (bs [])))])) P (.aA (gT b (x.ps.take k) 0 0++[(.int .i64 k,.d (cz b[cf (x.ps.take k)]))]))) R j L:=by
      refine xm (qS f (by omega) ?_) E (by omega) ?_
      ·simp [gr,ib,bR,AV.one,D.one]
      ·rw [<- b0];exact fun e he=>Gg b _ _ _ _ e he
     refine⟨⟨NF _ _ _ _,by omega⟩,k+1,_,⟨by omega,w,?_,by rw [bh,aj rfl,b0]⟩,by omega,oZ w.st.rg ?_ ?_⟩
     ·have z1:¬ M+10=P:=by omega
      have z2:¬ M+10=Q:=by have:=dp X;omega
      simp [bh,X,z1,z2]
     ·simp [hw,mo,dq f.l9,dq f.l7,dq f.l6,dq f.st.l4,dq f.st.l5]
     ·refine⟨⟨rfl,?_⟩,trivial⟩;simp [bg,bc,mo,dq X]
    ·have d0:=nS v;rw [ab v,eN] at b0;simp (maxDischargeDepth:=9) [v,d0,dT,I,hJ,lE,bh,set_set];have w:Nd S h R M t x own (aM W Q (.box true [.d (.lit (.string (bs p.cat))),.d (.lit (.int .i64 p.cn)),.d (.lit (.string (bs p.tx)))])) R j L:=by refine qS f (by omega) ?_;simp [gr,ib,bR,AV.one,D.one]
     refine⟨k+1,_,⟨by omega,w,?_,?_⟩,by omega,oZ w.st.rg ?_ ?_⟩
     ·have z2:¬ M+10=Q:=by have:=dp X;omega
      simp [bh,X,z2]
     ·rw [bh,ab r2,b0];exact i4
     ·simp [hw,mo,dq i4,dq f.l9,dq f.l7,dq f.l6,dq f.st.l4,dq f.st.l5]
     ·refine⟨⟨rfl,?_⟩,trivial⟩;simp [bg,bc,mo,dq X]
   ·have e9:k=x.ps.length:=by omega
    subst e9;rw [eK] at i4;have l7:=f.l7;unfold Ac at l7;have d6:R≠P:=by omega
    have l5:=xh.span d s ⟨by omega,by omega⟩ ⟨by omega,by omega⟩;simp [u,l7];generalize l8:qR x d s g (iG S.g S.ae b own)=G at *;refine F' (Nat×Nat) (fun z=>[(92,true,.d (dI z.1)),(90,true,.d (.sl 2 (x.gs.map iC))),(91,true,.d (dI x.gs.length)),(15,true,.mp P),(13,true,.ptr (M+9) 0),(6,true,.ptr (M+6) 0),(1,true,.d (.sl 1 (g.map dI))),(3,true,.ptr 5 0),(5,true,.ptr 4 0)])
     (fun z J=>z.1<=x.gs.length/\Nd S h R M t x own J z.2 j (L++(x.gs.take z.1).flatMap G)/\AL.look J (M+10)=some (.obj 0)/\AL.look J P=some (.aA (gT b x.ps 0 0))/\z.2≠P) (fun z=>x.gs.length-z.1) (0,R) ⟨bp _,by simpa using f,X,i4,d6⟩ (fun k J a0=>a0.2.1.st.rg) ?_ ?_ (fun z J a0=>?_)
    ·simp [dq i4,dq f.l9,dq f.l7,dq f.l6,dq f.st.l4,dq f.st.l5]
    ·refine⟨⟨rfl,?_⟩,trivial⟩;simp [bg,bc,dq X]
    obtain⟨k,R1⟩:=z;obtain⟨j1,c,j3,j4,j5⟩:=a0;simp only at j1 c j3 j4 j5;by_cases u:k<x.gs.length
    ·have hw:IntKind.i64.wrap ((k:Int)+1)=(k:Int)+1:=wrap64 (by have:=b3.2.1;omega);have d8:x.gs.take (k+1)=x.gs.take k++[x.gs[k]]:=fR u;have d9:L.length+((x.gs.take k).flatMap G).length+(G x.gs[k]).length<=1000000:=by have e:=mP (k+1) x.gs;rw [d8] at e;have h2:=congrArg (fun l=>(l.flatMap G).length) e;simp only [PY,da,ll,List.flatMap_nil,eN] at h2;omega
     have m0:=b3.2.2 x.gs[k] (cN u);have g6:G x.gs[k]=qR x d s g (iG S.g S.ae b own) x.gs[k]:=by rw [l8]
     have e0:=c.st.l5;have e6:=c.st.l4;have Y:=c.l6;have l9:=c.l9;unfold yY at e0;unfold Ln at e6;unfold xj at Y;rw [U,F,H,V,A] at Y;obtain⟨Q,I⟩:∃ Q,newName J=Q:=⟨_,rfl⟩;have q6:=dp c.l6;have q9:=dp c.l9;have d7:=dp j4;rw [I] at q6 d7 q9;have r1:¬ M+6=Q:=by omega
     have r2:¬ P=Q:=by omega
     have r3:¬ M+9=Q:=by omega
     have r4:¬ 5=Q:=by omega
     have r5:¬ 4=Q:=by omega
     simp [u];generalize x.gs[k]=y at *;simp [iC,I,bh,set_set];by_cases v:y.tx=[]
     ·obtain⟨m,p,g7,e7,g8⟩:=m0 v;have g9:=ND b x.ps 0 0 m p e7 g8;rw [bC,bC] at g9;refine Ll fun Q2 e8=>?_
      refine WO [.ret (dI 0)] [] ?_;simp [g9,v,dT,bh,I,e6,e0,Y,l9,j4,g7,r1,r2,r3,r4,r5];have b2:cf (x.ps.take m)<b.length:=by have e:=mP (m+1) x.ps;rw [fR (bu.1 e7).1,(bu.1 e7).2] at e;have:=congrArg cf e;unfold cf at this hl |-;rw [q',q',da,da] at this;simp [g8] at this;omega
      have m1:(b[cf (x.ps.take m)]?.getD default)=b[cf (x.ps.take m)]:=by rw [aI b2];rfl
      have b7:G y=fg S.g S.ae b[cf (x.ps.take m)] own:=by rw [g6];unfold qR;rw [aj v,g7,gw,Nz b2]
      rw [m1];refine⟨?_,?_⟩
      ·simp [de,kB,kA,List.range,List.range.loop]
      refine aV _ (Lk (i0 _ (cN b2))) ?_;have w:=qS (n:=Q) (o:=.box true [.d (.lit (.int .i64 m)),.d (.lit (.string (bs [])))]) c (by omega) (by simp [gr,ib,bR,AV.one,D.one]);refine⟨xi S b[cf (x.ps.take m)] own,⟨nD _,abS _ _ _,nD _,nD _,nD _,nD _,trivial⟩,R1,_,⟨⟨c1.1,c1.2⟩,rfl⟩,rfl,w.st,by rw [<- b7,da];exact d9,?_,fun b8 f0 C d1 N=>?_⟩
      ·simp
      subst e8;simp;rw [<- b7] at C;have g0:j≠0:=by omega
      have m2:=dp j3;have b1:=NG w E g0 (by rw [hK];omega) C d1 N;have b9:AL.look b8 (M+10)=some (.obj 0):=mI N (by rw [bh,ab (by omega)];exact j3) (by omega) (gV c.n7.2.2.2.2);have c0:=mI N (show AL.look (aM J Q _) P=some _ by rw [bh,ab r2];exact j4) (by omega) (gV j5);refine⟨k+1,f0,b8,⟨by omega,by rw [d8];simpa [PY] using b1,b9,c0,?_⟩,by omega,oZ C.rg ?_ ?_⟩
      ·rcases d1 with e | e
       ·rw [hK] at e;omega
       ·rw [e];exact j5
      ·simp [hw,dq c0,dq b1.l9,dq b1.l6,dq C.l4,dq C.l5]
      ·refine⟨⟨rfl,?_⟩,trivial⟩;simp [bg,bc,dq b9]
     ·have d0:=nS v;refine Ll fun Q2 e8=>?_
      refine abV [.ret (.sl 1 ((dM d (s-d).toNat).map dI))] [] [] fun B m3=>?_
      simp [v,d0,dT,bh,I,e6,e0,Y,l9,j4,r1,r2,r3,r4,r5];refine⟨l5,?_,?_⟩
      ·simp [de,kB,kA,List.range,List.range.loop]
      have hu:=Aa d (s-d).toNat;have w:=qS (n:=Q) (o:=.box true [.d (.lit (.int .i64 y.pt)),.d (.lit (.string (bs y.tx)))]) c (by omega) (by simp [gr,ib,bR,AV.one,D.one]);have b7:G y=[⟨y.tx,gj (gI (dM d (s-d).toNat++g)),-1⟩]:=by rw [g6];unfold qR;rw [ab v]
      refine nh _ (Lp S y.tx (dM d (s-d).toNat) g (-1) ⟨by omega,by omega⟩) ?_;refine⟨R1,_,⟨c1.1,c1.2⟩,rfl,w.st,by rw [b7] at d9;simp only [bN,mR] at d9;rw [da];omega,fun b8 f0 C d1 N=>?_⟩;rw [<- b7] at C;have h6:newName (aM J Q (.box true [.d (.lit (.int .i64 y.pt)),.d (.lit (.string (bs y.tx)))]))=Q+1:=hJ I;have m4:R1≠Q:=by
       by_cases q:R1=R
       ·omega
       ·rcases c.rr with e | e
        ·intro F;by_cases q2:L++(x.gs.take k).flatMap G=[]
         ·have:=c.st.lN q2;omega
         ·have:=dp (c.st.lR q2).1;omega
        ·exact absurd e q
      have h8:=mI N w.st.l5 (by omega) (by
       intro F;by_cases q2:L++(x.gs.take k).flatMap G=[]
       ·have:=c.st.lN q2;omega
       ·have:=(c.st.lR q2).2;omega)
      have g1:=mI N w.l6 (by omega) (gV c.n7.1);have g2:=mI N (show AL.look (aM J Q _) Q=some _ by rw [bh,aj rfl]) (by omega) (gV m4);unfold yY at h8;unfold xj at g1;rw [U,F,H,V,A] at g1;rw [h6] at d1;simp;refine⟨⟨g1,g2,h8,g2⟩,?_⟩;rw [m3];simp [d0,dT,g2];refine⟨?_,?_⟩
      ·simp [de,kB,kA,List.range,List.range.loop]
      subst e8;simp;have g0:j≠0:=by omega
      have m2:=dp j3;have b1:=NG w E g0 (by rw [hK];omega) C (.inl (by rw [h6];omega)) N;have b9:AL.look b8 (M+10)=some (.obj 0):=mI N (by rw [bh,ab (by omega)];exact j3) (by omega) (gV c.n7.2.2.2.2);have c0:=mI N (show AL.look (aM J Q _) P=some _ by rw [bh,ab r2];exact j4) (by omega) (gV j5);refine⟨k+1,f0,b8,⟨by omega,by rw [d8];simpa [PY] using b1,b9,c0,?_⟩,by omega,oZ C.rg ?_ ?_⟩
      ·omega
      ·simp [hw,dq c0,dq b1.l9,dq b1.l6,dq C.l4,dq C.l5]
      ·refine⟨⟨rfl,?_⟩,trivial⟩;simp [bg,bc,dq b9]
    ·have e9:k=x.gs.length:=by omega
     subst e9;rw [eK] at c;simp [u];exact⟨j3,g3 _ R1 (xk c.st (by omega) (gV c.n7.2.2.2.2) trivial) c.rr (xl c.nx (by omega))⟩
end
section
attribute [local simp] cK cI cJ cG cH cd bS cA gP qu qv qw so sp sq kO kP kQ sj sk sm
structure Is where
 g:Gr
 m:Mt
 ws:List B8
 i:Nat
 b:Int
def cM(S:Is):HO:=.box true [.d (dT S.g.name),.d (.sl 1 (S.g.aN.map dT)),.d (dT S.g.start),.d (dI S.g.sn),.d (.sl 5 (S.g.es.map df)),.d (.sl 5 (S.g.rs.map bI)),.mp 3,.d (.sl 1 (S.ws.map dT))]
def cP(S:Is)(v:AV)(r:HO):List (Nat×HO):=[(0,.box true [.d (dT S.g.name),.d (.sl 1 (S.g.aN.map dT)),.d (dT S.g.start),.d (dI S.g.sn),.d (.sl 5 (S.g.es.map df)),.d (.sl 5 (S.g.rs.map bI))]),(1,.box false [.d (.sl 1 (S.ws.map dT))]),(2,.box false [v]),(3,.aA (S.m.map je)),(4,cM S),(5,r),(6,.box false [.d (dI S.i)]),(7,.box false [.d (dI S.b)]),(8,.box true [.fn (.func 75) [] [.ptr 4 0,.ptr 6 0],.fn (.func 77) [] [.ptr 4 0,.ptr 6 0],.fn (.func 79) [] [.ptr 2 0,.ptr 7 0,.ptr 4 0,.ptr 6 0,.ptr 1 0],.fn (.func 81) [] [.ptr 4 0,.ptr 6 0],.fn (.func 82) [] [.ptr 4 0,.ptr 6 0],.fn (.func 83) [] [.ptr 4 0,.ptr 6 0]])]
def gd:List (Nat×HO):=[(9,.dead),(10,.dead),(11,.dead)]
def Gi(S:Is)(L a:List It)(c:AV)(d:List (Nat×HO))(b:Cx)(e:List AV)(h:List (Nat×HO))(K:bK->List (Nat×HO)->Prop):Prop :=
 b.top=true/\b.B<=12/\e=[.own 5 6 (L.map bT),c]/\h=cP S (.own 5 6 (L.map bT)) .row++d/\(a=[]->K (.ret (.own 5 6 (L.map bT))) (cP S (.own 5 6 (L.map bT)) .row++gd))/\(a≠[]->K (.ret (.own 12 6 ((L++a).map bT))) (cP S (.d (.sl 6 (L.map bT))) .dead++(gd++[(12,.row)])))
theorem qT{B a:Nat}{b c:St}(m:B<=a)(h:Sub a b c):Sub B b c:=by obtain⟨e,f,g,i,j,d,k⟩:=h;refine⟨e,f,g,i,j,?_,k⟩;rw [bQ] at d |-;exact fun n l=>d n (di.2 (by have:=di.1 l;omega))
theorem Gj(a:Nat->Nat)(n o)(k:Nat)(l:Mt):aq.ba a n o k (l.map ((fun x=>x.snd)∘je)) (l.map ((fun x=>x.snd)∘je))=True:=fi (by
 have:l.map ((fun x=>x.snd)∘je)=(l.map fun e=>bF e.2).map AV.d:=by rw [dA];rfl
 rw [this];exact js _ _ _ _ _)
theorem Gk(a:Nat->Nat)(n o)(k:Nat)(l:Mt)(x:D):aq.ba a n o k (l.map ((fun x=>x.snd)∘je)++[.d x]) (l.map ((fun x=>x.snd)∘je)++[.d x])=True:=fi (by
 have:l.map ((fun x=>x.snd)∘je)++[.d x]=((l.map fun e=>bF e.2)++[x]).map AV.d:=by rw [dc,dA];rfl
 rw [this];exact js _ _ _ _ _)
attribute [local simp] Gj Gk
theorem afz{l:List B8}(d:∀ x∈l,x.length<=64):(ev l [32]).length<=65*l.length:=by
 cases l with
 | nil=>simp [ev,Lib.join]
 | cons a r =>
  unfold ev;rw [Lib.join_length];have:∀ m:List B8,(∀ x∈m,x.length<=64)->Lib.lens m<=64*m.length:=fun m=>by
   induction m with
   | nil=>intro _;simp [Lib.lens]
   | cons b m e =>
    intro c;have f:=e fun x g=>c x (cD _ g)
    have h:=c b (dj ..);simp only [Lib.lens,bo,pH,bN] at f |-;omega
  have:=this (a::r) d;simp only [bN,mR] at *;omega
theorem afA(l:List B8)(h:(ev l [32]).length<=100000/\l.length<=1000):PC 74 [.sl 1 (l.map dT),dT [32]] (.ret (dT (ev l [32]))):=ET l [32] (by omega) (by omega)
attribute [local simp] Gj Gk
theorem Ae{P:Program}{a:Cx}{b:List (List Nat)}{k:Nat}{c:List aF}{Q:AE->St->Prop}{d:St}(h:∀ e f,e=a->f=Q->oK P e b k c f d):oK P a b k c Q d:=h _ _ rfl rfl
theorem xn(S:Is)(L:List It)(a:Nat)(v:L.length<=20000)(y:S.i<=1000/\a<=1000/\S.ws.length<=1000)(r:∀ w∈S.ws,w.length<=64):cW Tryz.prog 84
  (Gi S L (gG S.g S.m S.ws S.i a) (.fn (.func 149) [] [.ptr 10 0,.ptr 11 0,.ptr 9 0]) [(9,cM S),(10,.box false [.d (dI S.i)]),(11,.box false [.d (dI a)])]):=by
 refine Cy (Cw ((aR Dg).qp aH)) fun z A h K s=>?_
 obtain⟨t,e,rfl,rfl,b,c⟩:=s;have d:IntKind.i64.wrap ((S.i:Int)+a)=(S.i:Int)+a:=wrap64 (by omega);simp [yK,cP,cM];refine h' (TF Tryz.prog yM) (aR Z') t (by rfl) (fun u=>by rfl) (fun u=>?_);unfold gG at b c;by_cases o:S.ws.length<S.i+a
 ·rw [aj o] at b;have i:(S.ws.length:Int)<(S.i:Int)+a:=by omega
  have k:¬ (S.i:Int)+a<=S.ws.length:=by omega
  simp [yM,d,i,k];refine⟨_,_,qT e ⟨[],[],?_⟩,b rfl⟩;simp [cP,cM,gd];exact fun x m=>by omega
 rw [ab o] at b c;have i:¬ (S.ws.length:Int)<(S.i:Int)+a:=by omega
 have k:(S.i:Int)+a<=S.ws.length:=by omega
 simp [yM,d,i,k];have n:=afA ((S.ws.drop S.i).take a) (by
  have q1:=afz (l:=(S.ws.drop S.i).take a) fun w h=>r w (iL (ir h))
  have B:((S.ws.drop S.i).take a).length<=a:=PW ..;omega)
 have p:List.drop S.i (List.take ((S.i:Int)+a).toNat (S.ws.map dT))=((S.ws.drop S.i).take a).map dT:=by rw [List.drop_take,<- List.map_drop,<- tg];congr 2;omega
 rw [tg,List.map_drop] at n;generalize C:ev ((S.ws.drop S.i).take a) [32]=j at *;have f:=FZ j S.m;cases q:mD j S.m with
 | none =>rw [q] at f b;refine bY [.ret (dT j)] ?_;simp [f,d,p,dT];refine⟨⟨by omega,by omega⟩,n,rfl,?_⟩;refine ah [.ret (dI (iX S.g.aN []))] ?_;simp;refine⟨yO S.g.aN [],?_⟩;refine ah [] ?_;simp;refine⟨_,_,qT e ⟨[],[],?_⟩,b rfl⟩;simp [cP,cM,gd,dT];exact fun x m=>by omega
 | some x =>
  rw [q] at f b c;simp only at b c;refine bY [.ret (dT j)] ?_;simp [f,d,p,dT];refine⟨⟨by omega,by omega⟩,n,rfl,?_⟩;simp [bF];refine ah [.ret (dI (iX S.g.aN x.cat))] ?_;by_cases g:0<=iX S.g.aN x.cat
  ·rw [aj g] at c;simp;refine⟨yO S.g.aN x.cat,?_⟩;refine ah [] ?_;simp [g];refine aK [] ?_;simp [d];refine⟨⟨by omega,by omega⟩,_,_,qT e ⟨[(12,18)],[],?_⟩,c (by simp)⟩;simp [cP,cM,gd,dT,bT,aw,bc];exact fun x m=>by rw [ab (show ¬ x=12 by omega)];simp;omega
  ·rw [ab g] at b;simp;refine⟨yO S.g.aN x.cat,?_⟩;refine ah [] ?_;simp [g];refine⟨_,_,qT e ⟨[],[],?_⟩,b rfl⟩;simp [cP,cM,gd,dT];exact fun x m=>by omega
def mJ(l:List En)(w:B8)(i:Nat):List It:=(l.filter fun y=>decide (y.tx=w)).map fun y=>⟨y.cn,i,(i+1:Nat),y.cost,y.gv,-1⟩
theorem afB(l:List En)(y:En)(w:B8)(i:Nat):mJ (l++[y]) w i=mJ l w i++if y.tx=w then [⟨y.cn,i,(i+1:Nat),y.cost,y.gv,-1⟩] else []:=by unfold mJ;rw [q',dc];congr 1;by_cases h:y.tx=w <;> simp [h]
theorem afC(l:List En)(w:B8)(i:Nat):(mJ l w i).length<=l.length:=by unfold mJ;rw [db];exact lV ..
def lP(S:Is)(L e:List It)(a:List (Nat×HO))(B:Nat):List (Nat×HO):=if e=[] then cP S (.own 5 6 (L.map bT)) .row++(a++[(B,.box false [.own 5 6 (L.map bT)]),(B+1,.obj 0),(B+2,.obj 1)]) else cP S (.d (.sl 6 (L.map bT))) .dead++(a++[(B,.box false [.own (B+3) 6 ((L++e).map bT)]),(B+1,.obj 0),(B+2,.obj 1),(B+3,.row)])
theorem afD(S:Is)(L:List It)(E:L.length<=20000)(i:S.i<S.ws.length/\S.ws.length<=1000)(F:S.g.es.length<=1000):cW Tryz.prog 84
  (Gi S L (mG S.g S.ws S.i) (.fn (.func 151) [] [.ptr 9 0,.ptr 10 0]) [(9,cM S),(10,.box false [.d (dI S.i)])]):=by
 refine Cy (Cw ((aR Dg).qp aH)) fun G H h K t=>?_
 obtain⟨u,p,rfl,rfl,q,r⟩:=t;have l:IntKind.i64.wrap ((S.i:Int)+1)=(S.i:Int)+1:=wrap64 (by omega);have v:mG S.g S.ws S.i=mJ S.g.es S.ws[S.i] S.i:=by unfold mG mJ;rw [fQ,aI i.1];rfl
 rw [v] at q r;generalize m:S.ws[S.i]=w at *;simp [yK,cP,cM];refine h' (TF Tryz.prog DY) (aR aab) u (by rfl) (fun s=>by rfl) (fun s=>?_);simp [DY];refine jx Nat (fun k=>⟨[(10,true,.d (dI k)),(0,true,.d (.fn (.yield s) [] [])),(1,true,.ptr 9 0),(2,true,.ptr 10 0),(8,true,.d (.sl 5 (S.g.es.map df))),(9,true,.d (dI S.g.es.length))],lP S L (mJ (S.g.es.take k) w S.i) [(9,cM S),(10,.box false [.d (dI S.i)])] 11,[]⟩) (fun k=>k<=S.g.es.length) (fun k=>S.g.es.length-k) 0 (bp _) ⟨[],[],?_⟩ (fun k z=>?_)
 ·simp [lP,mJ,cP,cM];exact fun x g=>by omega
 by_cases n:k<S.g.es.length
 ·have o:=wS k (by omega);have a:=afB (S.g.es.take k) S.g.es[k] w S.i;rw [<- fR n] at a;have A:=afC (S.g.es.take k) w S.i;rw [xH z] at A;generalize mJ (S.g.es.take k) w S.i=e at *;have I:(S.g.es.map df)[k]?=some (df S.g.es[k]):=by simp [n]
  by_cases c:e=[]
  ·subst c;simp [lP,cP,cM,n];generalize S.g.es[k]=y at *;simp [df];refine Ae fun B C d j=>?_
   refine oL [] [] ?_;by_cases b:y.tx=w
   ·rw [aj b] at a;have f:(y.tx == w)=true:=by simp [b]
    simp [i.1,m,f,l,dT];refine⟨rfl,by rw [d],?_⟩;subst d;subst j;simp;refine⟨⟨by omega,by omega⟩,k+1,by omega,by omega,[(14,17)],[],?_⟩;rw [a];simp [o,bT,dT,aw,bc];exact fun x g=>by rw [ab (show ¬ x=14 by omega)];simp;omega
   ·rw [ab b] at a;have f:(y.tx == w)=false:=by simp [b]
    simp [i.1,m,f,l,dT];refine⟨rfl,?_⟩;subst d;subst j;simp;refine⟨k+1,by omega,by omega,[],[],?_⟩;rw [a];simp [o,dT];exact fun x g=>by omega
  ·simp [lP,cP,cM,c,n];generalize S.g.es[k]=y at *;simp [df];refine Ae fun B C d j=>?_
   refine oL [] [] ?_;by_cases b:y.tx=w
   ·rw [aj b] at a;have f:(y.tx == w)=true:=by simp [b]
    simp [i.1,m,f,l,dT];refine⟨rfl,by rw [d],?_⟩;subst d;subst j;simp;refine⟨⟨by omega,by omega⟩,k+1,by omega,by omega,[(14,18)],[],?_⟩;rw [a];simp [o,bT,dT,aw,bc];exact fun x g=>by rw [ab (show ¬ x=14 by omega)];simp;omega
   ·rw [ab b] at a;have f:(y.tx == w)=false:=by simp [b]
    simp [i.1,m,f,l,dT];refine⟨rfl,?_⟩;subst d;subst j;simp;refine⟨k+1,by omega,by omega,[],[],?_⟩;rw [a];simp [c,o,dT];exact fun x g=>by omega
 ·have D:k=S.g.es.length:=by omega
  subst D;rw [eK];generalize mJ S.g.es w S.i=e at *;by_cases c:e=[]
  ·subst c;simp [lP,cP,cM];refine⟨_,_,qT p ⟨[],[],?_⟩,q rfl⟩;simp [cP,cM,gd,dT];exact fun x g=>by omega
  ·simp [lP,cP,cM,c];refine⟨_,_,qT p ⟨[(12,14)],[],?_⟩,r c⟩;simp [cP,cM,gd,dT,bT,aw,bc];exact fun x g=>by rw [ab (show ¬ x=12 by omega)];simp;omega
def mK(n:Nat)(w:B8)(i:Nat):List It:=(List.range n).map fun(c:Nat)=>⟨(c:Int),i,(i+1:Nat),100,[w],-1⟩
theorem afE(n:Nat)(w:B8)(i:Nat):mK (n+1) w i=mK n w i++[⟨(n:Int),i,(i+1:Nat),100,[w],-1⟩]:=by unfold mK;rw [vg,dc];rfl
theorem afF(n:Nat)(w:B8)(i:Nat):(mK n w i).length=n:=by simp [mK]
theorem afG(S:Is)(L:List It)(z:L.length<=20000)(d:S.i<S.ws.length/\S.ws.length<=1000)(A:S.g.aN.length<=1000):cW Tryz.prog 84
  (Gi S L (lb S.g S.ws S.i) (.fn (.func 152) [] [.ptr 9 0,.ptr 10 0]) [(9,cM S),(10,.box false [.d (dI S.i)])]):=by
 refine Cy (Cw ((aR Dg).qp aH)) fun B C h K r=>?_
 obtain⟨s,g,rfl,rfl,i,j⟩:=r;have l:IntKind.i64.wrap ((S.i:Int)+1)=(S.i:Int)+1:=wrap64 (by omega);have t:lb S.g S.ws S.i=mK S.g.aN.length S.ws[S.i] S.i:=by unfold lb mK;rw [fQ,aI d.1];rfl
 rw [t] at i j;generalize m:S.ws[S.i]=w at *;simp [yK,cP,cM];refine h' (TF Tryz.prog a152) (aR aac) s (by rfl) (fun n=>by rfl) (fun n=>?_);simp [a152];refine jx Nat (fun k=>⟨[(9,true,.d (dI k)),(0,true,.d (.fn (.yield n) [] [])),(1,true,.ptr 9 0),(2,true,.ptr 10 0),(8,true,.d (dI S.g.aN.length))],lP S L (mK k w S.i) [(9,cM S),(10,.box false [.d (dI S.i)])] 11,[]⟩) (fun k=>k<=S.g.aN.length) (fun k=>S.g.aN.length-k) 0 (bp _) ⟨[],[],?_⟩ (fun k D=>?_)
 ·simp [lP,mK,cP,cM];exact fun x c=>by omega
 by_cases o:k<S.g.aN.length
 ·have p:=wS k (by omega);have q:=afE k w S.i;have E:=afF k w S.i;generalize mK k w S.i=e at *;by_cases a:e=[]
  ·subst a;simp [lP,cP,cM,o];refine Ae fun u v b f=>?_
   refine oL [] [] ?_;simp [d.1,m,l,dT];refine⟨rfl,by rw [b],?_⟩;subst b;subst f;simp;refine⟨⟨by omega,by omega⟩,k+1,by omega,by omega,[(14,16)],[],?_⟩;rw [q];simp [p,bT,dT,aw,bc];exact fun x c=>by rw [ab (show ¬ x=14 by omega)];simp;omega
  ·simp [lP,cP,cM,a,o];refine Ae fun u v b f=>?_
   refine oL [] [] ?_;simp [d.1,m,l,dT];refine⟨rfl,by rw [b],?_⟩;subst b;subst f;simp;refine⟨⟨by omega,by omega⟩,k+1,by omega,by omega,[(14,17)],[],?_⟩;rw [q];simp [p,bT,dT,aw,bc];exact fun x c=>by rw [ab (show ¬ x=14 by omega)];simp;omega
 ·have y:k=S.g.aN.length:=by omega
  subst y;generalize mK S.g.aN.length w S.i=e at *;by_cases a:e=[]
  ·subst a;simp [lP,cP,cM];refine⟨_,_,qT g ⟨[],[],?_⟩,i rfl⟩;simp [cP,cM,gd,dT];exact fun x c=>by omega
  ·simp [lP,cP,cM,a];refine⟨_,_,qT g ⟨[(12,14)],[],?_⟩,j a⟩;simp [cP,cM,gd,dT,bT,aw,bc];exact fun x c=>by rw [ab (show ¬ x=12 by omega)];simp;omega
end
section
attribute [local simp] cK cI cJ cG cH cd bS cA gP qu qv qw so sp sq kO kP kQ
theorem afH(l:List B8)(h:(ev l [32]).length<=100000/\l.length<=1000):PC 74 [.sl 1 (l.map dT),dT [32]] (.ret (dT (ev l [32]))):=ET l [32] (by omega) (by omega)
theorem afI(s:B8):PC 28 [dT s] (.ret (dB (bw s))):=aH _ _ _ (oV s)
attribute [local simp] Gj Gk
theorem NI(l:List B8)(i:Nat):(jD l i).length=l.length:=by
 induction l generalizing i with
 | nil=>rfl
 | cons y l a=>simp [jD,a]
theorem afJ(g:Gr)(m:Mt)(a:List B8)(i b:Nat):(gG g m a i b).length<=1:=by
 unfold gG;split
 ·simp
 ·split
  ·simp
  ·split <;> simp
theorem sP(g:Gr)(m:Mt)(a:List B8)(i:Nat)(b:List It)(n:Nat):∀ k,(bt g m a i b n k).length<=b.length+(k+g.es.length+g.aN.length):=by
 have t:=afJ g m a i;have d:(bt g m a i b n 0).length<=b.length:=by simp [bt]
 have e:(bt g m a i b n 1).length<=b.length+1:=by have:=t 1;simp only [bt,da];omega
 have f:(mG g a i).length<=g.es.length:=by unfold mG;rw [db];exact lV ..
 have h:(lb g a i).length<=g.aN.length:=by unfold lb;simp
 have j:(bt g m a i b n 2).length<=b.length+1+g.es.length:=by simp only [bt,da] at *;omega
 have l:(bt g m a i b n 3).length<=b.length+2+g.es.length+g.aN.length:=by have:=t (a.length+1);rw [show bt g m a i b n 3=bt g m a i b n 2++if (bt g m a i b n 2).length=n then lb g a i else gG g m a i (a.length+1) by conv=>{lhs;rw [bt]},da];split <;> omega
 have o:(bt g m a i b n 4).length<=b.length+3+g.es.length+g.aN.length:=by have:=t 2;rw [show bt g m a i b n 4=bt g m a i b n 3++gG g m a i 2 by conv=>{lhs;rw [bt]},da];omega
 have p:(bt g m a i b n 5).length<=b.length+4+g.es.length+g.aN.length:=by have:=t 3;rw [show bt g m a i b n 5=bt g m a i b n 4++gG g m a i 3 by conv=>{lhs;rw [bt]},da];omega
 have c:∀ k,(bt g m a i b n (k+6)).length<=b.length+5+g.es.length+g.aN.length:=fun k=>by have:=t 4;rw [show bt g m a i b n (k+6)=bt g m a i b n 5++gG g m a i 4 by conv=>{lhs;rw [bt]},da];omega
 intro k
 match k with
 | 0=>omega
 | 1=>omega
 | 2=>omega
 | 3=>omega
 | 4=>omega
 | 5=>omega
 | k+6=>have:=c k;omega
theorem Gm(g:Gr)(m:Mt)(a:List B8):∀ k,(bM g m a k).length<=a.length+k*(6+g.es.length+g.aN.length)
 | 0=>by simp [bM,NI]
 | k+1=>by have:=Gm g m a k;have h:=sP g m a k (bM g m a k) (bM g m a k).length 6;rw [bM,Hi];omega
theorem Gn(g:Gr)(m:Mt)(a:List B8)(i:Nat){b:List It}{n:Nat}:bt g m a i b n 1=bt g m a i b n 0++gG g m a i 1:=by conv=>{lhs;rw [bt]}
theorem Gp(g:Gr)(m:Mt)(a:List B8)(i:Nat){b:List It}{n:Nat}:bt g m a i b n 4=bt g m a i b n 3++gG g m a i 2:=by conv=>{lhs;rw [bt]}
theorem Gq(g:Gr)(m:Mt)(a:List B8)(i:Nat){b:List It}{n:Nat}:bt g m a i b n 5=bt g m a i b n 4++gG g m a i 3:=by conv=>{lhs;rw [bt]}
theorem Gs(g:Gr)(m:Mt)(a:List B8)(i:Nat){b:List It}{n:Nat}:bt g m a i b n 6=bt g m a i b n 5++gG g m a i 4:=by conv=>{lhs;rw [bt]}
theorem Gt(g:Gr)(m:Mt)(a:List B8)(i:Nat){b:List It}{n:Nat}:bt g m a i b n 2=bt g m a i b n 1++mG g a i:=by conv=>{lhs;rw [bt]}
theorem Gu(g:Gr)(m:Mt)(a:List B8)(i:Nat)(b:List It)(n:Nat):bt g m a i b n 3=bt g m a i b n 2++if (bt g m a i b n 2).length=n then lb g a i else gG g m a i (a.length+1):=by conv=>{lhs;rw [bt]}
theorem afK(g:Gr)(m:Mt)(a:List B8)(i:Nat)(b:List It)(n:Nat)(h:(bt g m a i b n 2).length=n):bt g m a i b n 3=bt g m a i b n 2++lb g a i:=by rw [Gu,aj h]
theorem afL(g:Gr)(m:Mt)(a:List B8)(i:Nat)(b:List It)(n:Nat)(h:¬ (bt g m a i b n 2).length=n):bt g m a i b n 3=bt g m a i b n 2++gG g m a i (a.length+1):=by rw [Gu,ab h]
theorem xo{w:B8}(h:bw w=true):w.length<=64:=by unfold bw at h;simp only [ax,bD] at h;exact h.1.1.2
theorem NJ{l:List Tm}{a b c:Int}(h:ig a b c l=0):pb (-1) l=true:=by
 unfold ig at h;by_cases q:nK l=0
 ·unfold nK at q;split at q
  ·cases q
  ·split at q
   ·assumption
   ·cases q
 ·rw [aj q] at h;exact absurd h q
theorem afM(g:Gr)(l:List Tm)(f:Int)(a:List B8)(i n:Int) :
  PC 34 [bq g,.sl 8 (l.map bF),dI f,.sl 1 (a.map dT),dI i,dI n] (.ret (.af [if ff g l f a i n=0 then .sl 6 ((mH g (kc f i n l) a).map bT) else .nil 6,dI (ff g l f a i n)])):=by
 refine aG aH Ys (by simp [CS]) fun L=>?_
 simp [CS];have U:=(L (.sl 1 (a.map dT)) (by simp)).sl.1;simp at U;have k1:=Nn g;have k2:=adz l f i n;by_cases q:jd g=0
 case neg =>
  have e:ff g l f a i n=jd g:=by unfold ff;rw [aj q]
  rw [e,ab q];refine ah [.ret (dI (jd g))] ?_;simp [q];exact k1
 by_cases r:ig f i n l=0
 case neg =>
  have e:ff g l f a i n=ig f i n l:=by unfold ff;rw [ab (by simp [q]),aj r]
  rw [e,ab r];rw [ab r] at k2;rw [q] at k1;refine ah [.ret (dI 0)] ?_;simp;refine⟨k1,?_⟩;refine ah [.ret (.af [.sl 8 [],dI (ig f i n l)])] ?_;simp [r];exact k2
 rw [aj r,r] at k2;rw [q] at k1;refine ah [.ret (dI 0)] ?_;simp;refine⟨k1,?_⟩;refine ah [.ret (.af [.sl 8 ((kc f i n l).map bF),dI 0])] ?_;simp;refine⟨k2,?_⟩;by_cases H:16<a.length
 case pos =>
  have e:ff g l f a i n=2:=by unfold ff;rw [ab (by simp [q]),ab (by simp [r]),aj H]
  have I:¬ (a.length:Int)<=16:=by omega
  rw [e];simp [I]
 have I:¬ (16:Int)<a.length:=by omega
 have V:(a.length:Int)<=16:=by omega
 have W:∀ x∈kc f i n l,ic x=true:=fun x X=>wX (NJ r) x (km.1 X).1
 have b3:(kc f i n l).length<=9223372036854775807:=by have:=lV (sx (qF f i n [] l)) l;have Y:=(L (.sl 8 (l.map bF)) (by simp)).sl.1;simp at Y;unfold kc;omega
 generalize Z:kc f i n l=o at *;simp [I,V];refine bm [9,12,15,47,48] Nat (fun y=>[(49,true,.d (dI y))]) (fun y=>[(3,.aA ((f' [] (o.take y)).map je))]) (fun y=>y<=o.length) (fun y=>o.length-y) 0 (bp _) ⟨[],[],?_⟩ (fun k t=>?_)
 ·simp [f']
 by_cases p:k<o.length
 ·have d:=wS k (by omega);have a0:=W o[k] (cN p);have D:f' [] (o.take (k+1))=mF (ev o[k].src [32]) o[k] (f' [] (o.take k)):=by rw [fR p,afp]
  have b4:=Fm (zv a0).1 32;have M:=afH o[k].src (by omega);simp [p];generalize o[k]=y at *;generalize b5:f' [] (o.take k)=m at *;simp [bF];have E:=FZ (ev y.src [32]) m;generalize u:ev y.src [32]=j at *;refine bY [.ret (dT j)] ?_;cases s:mD j m with
  | none =>rw [s] at E;simp [E,dT];refine⟨M,rfl,k+1,by omega,by omega,[],[],?_⟩;rw [D,Ns s];simp [d,je,dT,bF]
  | some z =>have a1:=Nt j y m (by rw [s];simp);rw [s] at E;simp [E,dT];refine⟨M,rfl,k+1,by omega,by omega,[],[],?_⟩;rw [D];have N:=a1;simp only [bF,dT,dI,dB] at N;simp [d,N,dT]
 ·have A:k=o.length:=by omega
  subst A;rw [eK];generalize O:f' [] o=m;simp [p];refine bm [9,12,15,60,61] Nat (fun y=>[(62,true,.d (dI y))]) (fun y=>[(2,.box false [.own 5 6 ((jD (a.take y) 0).map bT)]),(5,.row)]) (fun y=>y<=a.length/\∀ j (u:j<a.length),j<y->bw a[j]=true) (fun y=>a.length-y) 0 ⟨bp _,fun j _ h=>by omega⟩ ⟨[],[(5,6)],?_⟩ (fun k t=>?_)
  ·simp [jD]
  obtain⟨t,P⟩:=t;by_cases p:k<a.length
  ·have d:=wS k (by omega);have D:jD (a.take (k+1)) 0=jD (a.take k) 0++[⟨-1,k,(k+1:Nat),0,[a[k]],-1⟩]:=by rw [fR p,afq];simp [th t]
   have a2:bw a[k]=true->∀ j (u:j<a.length),j<k+1->bw a[j]=true:=fun h j u b6=>by
    by_cases e:j=k
    ·subst e;exact h
    ·exact P j u (by omega)
   have F:=afI a[k];have b0:a[k]∈a:=cN p;simp [p];generalize a[k]=b at *;refine ah [.ret (dB (bw b))] ?_;cases s:bw b with
   | false =>
    rw [s] at F;have e:ff g l f a i n=280:=by unfold ff;rw [ab (by simp [q]),ab (by simp [r]),ab H,aj];rw [jE];exact⟨b,b0,by simp [s]⟩
    rw [e];simp;exact F
   | true =>rw [s] at F;simp;have hl:=NI (a.take k) 0;rw [xH t] at hl;refine⟨F,⟨by omega,by omega⟩,k+1,⟨by omega,a2 s⟩,by omega,[(5,7)],[],?_⟩;rw [D];simp [d,bT]
  ·have A:k=a.length:=by omega
   subst A;rw [eK];simp [p];have v:∀ w∈a,bw w=true:=fun w d=>by obtain⟨j,u,rfl⟩:=pD.1 d;exact P j u u
   have b1:ff g l f a i n=if 1024<(bM g m a a.length).length then 2 else 0:=by
    unfold ff;rw [ab (by simp [q]),ab (by simp [r]),ab H,ab]
    ·unfold mH;rw [Z,O]
    ·rw [jE];rintro⟨w,d,Q⟩;rw [v w d] at Q;cases Q
   rw [b1];unfold mH;rw [O];have G:=z' q;have R:∀ k,k<=a.length->(bM g m a k).length<=10000:=fun k t=>by have q1:=Gm g m a k;have q2:k*(6+g.es.length+g.aN.length)<=16*550:=Nat.mul_le_mul (by omega) (by have:=G.el;have:=G.cl;omega);omega
   refine bm [9,12,15,80,81] Nat (fun y=>[(82,true,.d (dI y))]) (fun y=>[(2,.box false [.own 5 6 ((bM g m a y).map bT)]),(5,.row)]) (fun y=>y<=a.length) (fun y=>a.length-y) 0 (bp _) ⟨[],[],?_⟩ (fun k t=>?_)
   ·simp [bM]
   by_cases p:k<a.length
   ·have d:=wS k (by omega);have b7:=R k t;have b8:=G.el;have b9:=G.cl;simp [p];refine bm [9,12,15,80,81,82,93,94] Nat (fun y=>[(95,true,.d (dI y))]) (fun y=>[(2,.box false [.own 5 6 ((bt g m a k (bM g m a k) (bM g m a k).length y).map bT)]),(5,.row)]) (fun y=>y<=6) (fun y=>6-y) 0 (bp _) ⟨[],[],?_⟩ (fun j u=>?_)
    ·simp [bt]
    rcases (by omega:j=0\/j=1\/j=2\/j=3\/j=4\/j=5\/j=6) with rfl | rfl | rfl | rfl | rfl | rfl | rfl
    ·have B:=sP g m a k (bM g m a k) (bM g m a k).length 0;simp;refine rW [] [] [] ?_;simp;refine⟨rfl,nh (TF Tryz.prog a75) (aR YW) ?_⟩;simp [a75];refine aK [] ?_;simp;refine aV (TF Tryz.prog a76) (aR wq) ?_;simp [a76];refine⟨rfl,aV _ (xn ⟨g,m,a,k,(bM g m a k).length⟩ (bt g m a k (bM g m a k) (bM g m a k).length 0) 1 (by omega) ⟨by simp only;omega,by omega,by simp only;omega⟩ (fun w d=>xo (v w d))) ?_⟩;refine⟨rfl,by simp,rfl,by simp [cP,cM],fun c=>?_,fun c=>?_⟩
     ·simp only at c;simp [cP,cM,gd];refine⟨1,by omega,by omega,[],[],?_⟩;rw [Gn g m a k,c,eN];simp [show IntKind.i64.wrap 1=1 by decide]
     ·simp [cP,cM,gd];refine⟨1,by omega,by omega,[(5,12)],[],?_⟩;rw [Gn g m a k];simp [show IntKind.i64.wrap 1=1 by decide]
    ·have B:=sP g m a k (bM g m a k) (bM g m a k).length 1;simp;refine rW [] [] [] ?_;simp;refine⟨rfl,nh (TF Tryz.prog a77) (aR YX) ?_⟩;simp [a77];refine aK [] ?_;simp;refine aV (TF Tryz.prog a78) (aR YY) ?_;simp [a78];refine⟨rfl,aV _ (afD ⟨g,m,a,k,(bM g m a k).length⟩ (bt g m a k (bM g m a k) (bM g m a k).length 1) (by omega) ⟨by simp only;omega,by simp only;omega⟩ (by simp only;omega)) ?_⟩;refine⟨rfl,by simp,rfl,by simp [cP,cM],fun c=>?_,fun c=>?_⟩
     ·simp only at c;simp [cP,cM,gd];refine⟨2,by omega,by omega,[],[],?_⟩;rw [Gt g m a k,c,eN];simp [show IntKind.i64.wrap 2=2 by decide]
     ·simp [cP,cM,gd];refine⟨2,by omega,by omega,[(5,12)],[],?_⟩;rw [Gt g m a k];simp [show IntKind.i64.wrap 2=2 by decide]
    ·have B:=sP g m a k (bM g m a k) (bM g m a k).length 2;simp;refine rW [] [] [] ?_;simp;refine⟨rfl,nh (TF Tryz.prog a79) (aR YZ) ?_⟩;simp [a79];by_cases S:(bt g m a k (bM g m a k) (bM g m a k).length 2).length=(bM g m a k).length
     ·have J:((bt g m a k (bM g m a k) (bM g m a k).length 2).length:Int)=((bM g m a k).length:Int):=by omega
      have C:=afK g m a k (bM g m a k) (bM g m a k).length S;simp [J];refine aK [] ?_;simp;refine aV (TF Tryz.prog a80) (aR Y_) ?_;simp [a80];refine⟨rfl,aV _ (afG ⟨g,m,a,k,(bM g m a k).length⟩ (bt g m a k (bM g m a k) (bM g m a k).length 2) (by omega) ⟨by simp only;omega,by simp only;omega⟩ (by simp only;omega)) ?_⟩;refine⟨rfl,by simp,rfl,by simp [cP,cM],fun c=>?_,fun c=>?_⟩
      ·simp only at c;simp [cP,cM,gd];refine⟨3,by omega,by omega,[],[],?_⟩;rw [C,c,eN];simp [show IntKind.i64.wrap 3=3 by decide]
      ·simp [cP,cM,gd];refine⟨3,by omega,by omega,[(5,12)],[],?_⟩;rw [C];simp [show IntKind.i64.wrap 3=3 by decide]
     ·have J:¬ ((bt g m a k (bM g m a k) (bM g m a k).length 2).length:Int)=((bM g m a k).length:Int):=by omega
      have C:=afL g m a k (bM g m a k) (bM g m a k).length S;have b2:IntKind.i64.wrap ((a.length:Int)+1)=((a.length+1:Nat):Int):=wrap64 (by omega);simp [J];refine aK [] ?_;simp [b2];refine aV (TF Tryz.prog a76) (aR wq) ?_;simp [a76];refine⟨rfl,aV _ (xn ⟨g,m,a,k,(bM g m a k).length⟩ (bt g m a k (bM g m a k) (bM g m a k).length 2) (a.length+1) (by omega) ⟨by simp only;omega,by omega,by simp only;omega⟩ (fun w d=>xo (v w d))) ?_⟩;refine⟨rfl,by simp,rfl,by simp [cP,cM],fun c=>?_,fun c=>?_⟩
      ·simp only at c;simp [cP,cM,gd];refine⟨3,by omega,by omega,[],[],?_⟩;rw [C,c,eN];simp [show IntKind.i64.wrap 3=3 by decide]
      ·simp [cP,cM,gd];refine⟨3,by omega,by omega,[(5,12)],[],?_⟩;rw [C];simp [show IntKind.i64.wrap 3=3 by decide]
    ·have B:=sP g m a k (bM g m a k) (bM g m a k).length 3;simp;refine rW [] [] [] ?_;simp;refine⟨rfl,nh (TF Tryz.prog De) (aR Y') ?_⟩;simp [De];refine aK [] ?_;simp;refine aV (TF Tryz.prog a76) (aR wq) ?_;simp [a76];refine⟨rfl,aV _ (xn ⟨g,m,a,k,(bM g m a k).length⟩ (bt g m a k (bM g m a k) (bM g m a k).length 3) 2 (by omega) ⟨by simp only;omega,by omega,by simp only;omega⟩ (fun w d=>xo (v w d))) ?_⟩;refine⟨rfl,by simp,rfl,by simp [cP,cM],fun c=>?_,fun c=>?_⟩
     ·simp only at c;simp [cP,cM,gd];refine⟨4,by omega,by omega,[],[],?_⟩;rw [Gp g m a k,c,eN];simp [show IntKind.i64.wrap 4=4 by decide]
     ·simp [cP,cM,gd];refine⟨4,by omega,by omega,[(5,12)],[],?_⟩;rw [Gp g m a k];simp [show IntKind.i64.wrap 4=4 by decide]
    ·have B:=sP g m a k (bM g m a k) (bM g m a k).length 4;simp;refine rW [] [] [] ?_;simp;refine⟨rfl,nh (TF Tryz.prog a82) (aR Za) ?_⟩;simp [a82];refine aK [] ?_;simp;refine aV (TF Tryz.prog a76) (aR wq) ?_;simp [a76];refine⟨rfl,aV _ (xn ⟨g,m,a,k,(bM g m a k).length⟩ (bt g m a k (bM g m a k) (bM g m a k).length 4) 3 (by omega) ⟨by simp only;omega,by omega,by simp only;omega⟩ (fun w d=>xo (v w d))) ?_⟩;refine⟨rfl,by simp,rfl,by simp [cP,cM],fun c=>?_,fun c=>?_⟩
     ·simp only at c;simp [cP,cM,gd];refine⟨5,by omega,by omega,[],[],?_⟩;rw [Gq g m a k,c,eN];simp [show IntKind.i64.wrap 5=5 by decide]
     ·simp [cP,cM,gd];refine⟨5,by omega,by omega,[(5,12)],[],?_⟩;rw [Gq g m a k];simp [show IntKind.i64.wrap 5=5 by decide]
    ·have B:=sP g m a k (bM g m a k) (bM g m a k).length 5;simp;refine rW [] [] [] ?_;simp;refine⟨rfl,nh (TF Tryz.prog Df) (aR Zb) ?_⟩;simp [Df];refine aK [] ?_;simp;refine aV (TF Tryz.prog a76) (aR wq) ?_;simp [a76];refine⟨rfl,aV _ (xn ⟨g,m,a,k,(bM g m a k).length⟩ (bt g m a k (bM g m a k) (bM g m a k).length 5) 4 (by omega) ⟨by simp only;omega,by omega,by simp only;omega⟩ (fun w d=>xo (v w d))) ?_⟩;refine⟨rfl,by simp,rfl,by simp [cP,cM],fun c=>?_,fun c=>?_⟩
     ·simp only at c;simp [cP,cM,gd];refine⟨6,by omega,by omega,[],[],?_⟩;rw [Gs g m a k,c,eN];simp [show IntKind.i64.wrap 6=6 by decide]
     ·simp [cP,cM,gd];refine⟨6,by omega,by omega,[(5,12)],[],?_⟩;rw [Gs g m a k];simp [show IntKind.i64.wrap 6=6 by decide]
    ·simp;refine⟨k+1,by omega,by omega,[],[],?_⟩;rw [bM];simp [d]
   ·have A:k=a.length:=by omega
    subst A;have:=R a.length (bj _);simp [p];by_cases T:1024<(bM g m a a.length).length
    ·have K:¬ (bM g m a a.length).length<=1024:=by omega
     rw [ab K,aj T];exact⟨fun _=>⟨aB.refl _,aB.refl _⟩,fun h=>by omega⟩
    ·have K:(bM g m a a.length).length<=1024:=by omega
     rw [aj K,ab T];exact⟨fun h=>by omega,fun _=>⟨aB.refl _,aB.refl _⟩⟩
end
section
theorem afN(b:UInt8)(t:B8)(h:b.toNat<128):Lib.decodeGo ⟨(b::t).toArray⟩=(b.toNat,1):=by
 unfold Lib.decodeGo;have a:(⟨(b::t).toArray⟩:ByteArray).size=t.length+1:=by simp [ByteArray.size]
 rw [ab (by rw [a];omega)];unfold Utf8.decode;have c:((⟨(b::t).toArray⟩:ByteArray).get! (0+0)).toNat=b.toNat:=rfl;simp only [c];rw [aj h]
theorem NK:∀ b:B8,(∀ c∈b,c.toNat<128)->rn b.length b=some (b.map fun c=>(c.toNat:Int))
 | [],_=>rfl
 | c::t,h=>by have a:=h c (dj ..);rw [KC _ (by simp),afN c t a];simp only;rw [ab (by omega)];show ((rn t.length t).map _)=_;rw [NK t fun x d=>h x (cD _ d)];rfl
theorem NL{c:UInt8}(h:mv c=true):c.toNat<128/\iW c.toNat=false:=by
 unfold mv at h;simp only [gy,bD] at h;have d:(48<=c.toNat/\c.toNat<=57)\/(65<=c.toNat/\c.toNat<=90)\/(97<=c.toNat/\c.toNat<=122)\/c.toNat=95:=by
  unfold kR at h;by_cases q1:((97:Int)<=c.toNat/\(c.toNat:Int)<=122)\/((65:Int)<=c.toNat/\(c.toNat:Int)<=90)
  ·omega
  ·simp only [ab q1] at h;by_cases a:(48:Int)<=c.toNat/\(c.toNat:Int)<=57
   ·omega
   ·simp only [ab a] at h;by_cases b:(c.toNat:Int)=95
    ·omega
    ·simp only [ab b] at h;by_cases e:(((c.toNat:Int)=32\/(c.toNat:Int)=9)\/(c.toNat:Int)=10)\/(c.toNat:Int)=13
     ·rw [aj (by omega)] at h;omega
     ·rw [ab (by omega)] at h;split at h <;> omega
 refine⟨by omega,?_⟩;unfold iW;simp only [PO];omega
theorem afO{s:B8}(h:o' s=true):bw s=true:=by
 unfold o' at h;simp only [ax,bD] at h;obtain⟨e,f,g,a⟩:=h;rw [bQ] at a;have b:=NK s fun c d=>(NL (a c d)).1
 unfold bw;rw [b];simp only [Option.isSome_some,PL,Hz,ax,bD,ko];refine⟨⟨e,by omega⟩,?_⟩;rw [hv];intro r b;obtain⟨c,d,rfl⟩:=aS.1 b;rw [(NL (a c d)).2];simp
theorem afP{s:B8}(h:hQ s=true):bw s=true:=by unfold hQ at h;simp only [ax] at h;exact afO h.1
theorem afQ{l:List B8}(h:jW l=true):1<=l.length/\l.length<=4/\(l.any fun b=>!bw b)=false:=by unfold jW at h;simp only [ax,bD,ko] at h;exact⟨h.1,h.2.1,h.2.2⟩
theorem afR{l:List B8}{v:B8}:-1<=iX l v/\iX l v<l.length:=by
 unfold iX;split
 ·rename_i i h;have:=(qZ.1 h).1;omega
 ·omega
theorem afS{l:List B8}{v:B8}(h:0<=iX l v):iX l v<l.length:=afR.2
theorem NM{s:B8}{x:Tm}{e:B8×Tm}:∀ {m:Mt},e∈mF s x m->e.2=x\/∃ a∈m,a.2=e.2
 | [],h=>by simp [mF] at h;left;rw [h]
 | y::r,h=>by
  rw [mF] at h;split at h
  ·rcases b_.1 h with rfl | h
   ·exact .inl rfl
   ·exact .inr ⟨e,cD _ h,rfl⟩
  ·rcases b_.1 h with rfl | h
   ·exact .inr ⟨e,dj ..,rfl⟩
   ·rcases NM h with h | ⟨a,b,c⟩
    ·exact .inl h
    ·exact .inr ⟨a,cD _ b,c⟩
theorem NN{e:B8×Tm}:∀ {l:List Tm}{m:Mt},e∈f' m l->e.2∈l\/∃ a∈m,a.2=e.2
 | [],m,h=>.inr ⟨e,h,rfl⟩
 | x::l,m,h=>by
  rcases NN (l:=l) h with h | ⟨a,c,b⟩
  ·exact .inl (cD _ h)
  ·rcases NM c with h | ⟨d,f,g⟩
   ·left;rw [<- b,h];exact dj ..
   ·exact .inr ⟨d,f,by rw [g,b]⟩
theorem afT{a:List Tm}{s:B8}{x:Tm}(h:mD s (f' [] a)=some x):x∈a:=by
 unfold mD at h;simp only [bZ] at h;obtain⟨e,b,rfl⟩:=h;rcases NN (Ax b) with h | ⟨c,h,_⟩
 ·exact h
 ·cases h
def xp(a:List Tm):Prop:=∀ x∈a,ic x=true/\x.gone=false
theorem afU{l:List Tm}{a b c:Int}(h:ig a b c l=0):xp (kc a b c l):=by
 intro x e;have d:=km.1 e;refine⟨wX (NJ h) x d.1,?_⟩;have:=d.2;unfold sx at this;split at this
 ·cases this
 ·simp only [ax,ko] at this;exact this.2
def lQ(g:Gr)(n:Int)(l:List It):Prop:=∀ y∈l,sI g n y
def xq(l:List It):Prop:=∀ y∈l,0<=y.cat
theorem xr{g:Gr}{b:List Tm}{ws:List B8}{i many:Nat}(e:xp b)(m:1<=many):lQ g ws.length (gG g (f' [] b) ws i many)/\xq (gG g (f' [] b) ws i many):=by
 unfold gG;split
 ·exact⟨fun y h=>(by cases h),fun y h=>(by cases h)⟩
 ·rename_i n;split
  ·exact⟨fun y h=>(by cases h),fun y h=>(by cases h)⟩
  ·rename_i x f;obtain⟨a,j⟩:=e x (afT f);have o:=zv a;have k:jW x.cR=true:=by unfold ic at a;simp only [ax,bD,j] at a;have:=a.2.2.2.2.2.2;simp at this;exact this.1
   split
   ·rename_i c;refine⟨fun y d=>?_,fun y d=>?_⟩
    ·rw [iM.1 d];have l:=afS c;exact⟨⟨⟨by simp only;omega,by simp only;omega⟩,by simp only;omega,by simp only;omega,by simp only;omega⟩,afQ k,.inr ⟨c,l,by simp,by simp⟩⟩
    ·rw [iM.1 d];exact c
   ·exact⟨fun y h=>(by cases h),fun y h=>(by cases h)⟩
theorem afV{g:Gr}{a:List B8}{i:Nat}(h:uQ g)(p:i<a.length):lQ g a.length (mG g a i)/\xq (mG g a i):=by
 have:∀ y∈mG g a i,sI g a.length y/\0<=y.cat:=fun y c=>by unfold mG at c;obtain⟨e,j,rfl⟩:=aS.1 c;have k:=(km.1 j).1;obtain⟨d,f⟩:=h.en e k;unfold kV fe at f;simp only [ax,bD] at f;obtain⟨_,_,⟨q,r⟩,l,m,n⟩:=f;refine⟨⟨⟨⟨by simp only;omega,by simp only;omega⟩,by simp only;omega,by simp,by simp⟩,⟨by simp only;omega,by simp only;omega,?_⟩,.inr ⟨d.1,d.2,m,n⟩⟩,d.1⟩;rw [hv];intro b o;rw [afP (bQ.1 l b o)];simp
 exact⟨fun y c=>(this y c).1,fun y c=>(this y c).2⟩
theorem afW{g:Gr}{a:List B8}{i:Nat}(e:i<a.length)(f:∀ w∈a,bw w=true):lQ g a.length (lb g a i)/\xq (lb g a i):=by
 have h:a.getD i []∈a:=by rw [fQ,aI e];exact cN e
 have:∀ y∈lb g a i,sI g a.length y/\0<=y.cat:=fun y d=>by unfold lb at d;obtain⟨c,j,rfl⟩:=aS.1 d;have:=di.1 j;refine⟨⟨⟨⟨by simp only;omega,by simp only;omega⟩,by simp only;omega,by simp,by simp⟩,⟨by simp,by simp,?_⟩,.inr ⟨by simp only;omega,by simp only;omega,by simp,by simp⟩⟩,by simp only;omega⟩;rw [hv];intro b k;rw [iM.1 k,f _ h];simp
 exact⟨fun y d=>(this y d).1,fun y d=>(this y d).2⟩
theorem NO{g:Gr}{n:Nat}:∀ {l:List B8}{i:Nat},i+l.length<=n->(∀ w∈l,bw w=true)->lQ g n (jD l i)
 | [],i,_,_=>by intro y h;cases h
 | w::l,i,h,c=>by
  intro y a;rcases b_.1 a with rfl | a
  ·simp only [bN] at h;refine⟨⟨⟨by simp only;omega,by simp only;omega⟩,by simp only;omega,by simp,by simp⟩,⟨by simp,by simp,?_⟩,.inl ⟨rfl,by simp,rfl,rfl⟩⟩;rw [hv];intro b d;rw [iM.1 d,c _ (dj ..)];simp
  ·exact NO (by simp only [bN] at h;omega) (fun x e=>c x (cD _ e)) y a
theorem afX{l:List It}(h:xq l):dy l=[]:=by
 induction l with
 | nil=>rfl
 | cons y l a =>have:=h y (dj ..);rw [dy,ab (by omega)];exact a fun z b=>h z (cD _ b)
theorem NP:∀ (l:List B8) (i:Nat),(dy (jD l i)).map (·.1)=(List.range l.length).map fun j=>((i+j:Nat):Int)
 | [],i=>rfl
 | w::l,i=>by rw [jD,dy,aj rfl,bo,NP l (i+1),bN,PU,bo,dA];congr 1;exact jF fun j _=>by simp;omega
theorem afY{d:Gr}{h:List Tm}{c:List B8}{f:Nat}{e:List It}{n:Nat}(l:xp h)(A:uQ d)(s:f<c.length)(B:∀ w∈c,bw w=true)(C:lQ d c.length e) :
  ∀ k,k<=6->lQ d c.length (bt d (f' [] h) c f e n k)/\dy (bt d (f' [] h) c f e n k)=dy e:=by
 have j:∀ {a b:List It},lQ d c.length a/\dy a=dy e->lQ d c.length b/\xq b->lQ d c.length (a++b)/\dy (a++b)=dy e:=fun {a b} t u=>by
  refine⟨fun y m=>?_,by rw [uI,afX u.2,eN,t.2]⟩;rcases cV.1 m with m | m
  ·exact t.1 y m
  ·exact u.1 y m
 have v:lQ d c.length (bt d (f' [] h) c f e n 0)/\dy (bt d (f' [] h) c f e n 0)=dy e:=by rw [bt];exact⟨C,rfl⟩
 have p:=j v (xr (g:=d) (ws:=c) (i:=f) l (bj 1));rw [<- Gn] at p;have o:=j p (afV A s);rw [<- Gt] at o;have x:lQ d c.length (bt d (f' [] h) c f e n 3)/\dy (bt d (f' [] h) c f e n 3)=dy e:=by
  rw [Gu];split
  ·exact j o (afW s B)
  ·exact j o (xr l (by omega))
 have q:=j x (xr (g:=d) (ws:=c) (i:=f) (many:=2) l (by omega));rw [<- Gp] at q;have r:=j q (xr (g:=d) (ws:=c) (i:=f) (many:=3) l (by omega));rw [<- Gq] at r;have z:=j r (xr (g:=d) (ws:=c) (i:=f) (many:=4) l (by omega));rw [<- Gs] at z;intro k D;rcases (by omega:k=0\/k=1\/k=2\/k=3\/k=4\/k=5\/k=6) with rfl | rfl | rfl | rfl | rfl | rfl | rfl
 ·exact v
 ·exact p
 ·exact o
 ·exact x
 ·exact q
 ·exact r
 ·exact z
theorem NQ{g:Gr}{b:List Tm}{a:List B8}(d:xp b)(e:uQ g)(c:∀ w∈a,bw w=true):∀ k,k<=a.length->lQ g a.length (bM g (f' [] b) a k)/\dy (bM g (f' [] b) a k)=dy (jD a 0)
 | 0,_=>⟨NO (by omega) c,rfl⟩
 | k+1,h=>by have f:=NQ d e c k (by omega);have:=afY (n:=(bM g (f' [] b) a k).length) d e (show k<a.length by omega) c f.1 6 (bj _);exact⟨this.1,this.2.trans f.2⟩
theorem afZ{g:Gr}{b:List Tm}{a:List B8}(c:xp b)(d:uQ g)(e:∀ w∈a,bw w=true):(∀ y∈mH g b a,sI g a.length y)/\((dy (mH g b a)).map (·.1)).Nodup:=by have h:=NQ c d e a.length (bj _);refine⟨h.1,?_⟩;unfold mH;rw [h.2,NP];exact List.Pairwise.map _ (fun x y h=>by omega) xN
theorem af0(g:Gr)(b:List Tm)(a:List B8):(mH g b a).length<=a.length+a.length*(6+g.es.length+g.aN.length):=Gm ..
theorem af1(S:Wz)(k:Gc S.ae)(l:∀ x∈S.g.rs,Ad x){t:Tr}(m:lM S.g S.ae t):∀ a:List Int,(a.length:Int)+(t.un-t.fr)<=800->cW Tryz.prog 94 (sO S t a):=by
 induction m with
 | leaf i c d e y n g =>intro a f;simp only [Tr.un,Tr.fr] at f;exact NB S k i c d e y n a (by omega)
 | node r i c d e x h g o p q s =>
  intro a f;simp only [Tr.un,Tr.fr] at f;have j:=l x (dh h);have u:=uR x.ps;have v:=j.1;refine afy S r i c d e x h j g o (fun z b=>by have:=(p z b).bd;omega) a (by omega) fun z b=>s z b _ ?_
  have:=q z b;rw [da,Ab];omega
def gf:List Nat->Nat
 | []=>0
 | a::l=>a+gf l
theorem Gw:∀ a b:List Nat,gf (a++b)=gf a+gf b
 | [],b=>by simp [gf]
 | x::a,b=>by rw [dX,gf,gf,Gw a b];omega
theorem NR{a b:Type}(f:a->List b):∀ l:List a,(l.flatMap f).length=gf (l.map fun x=>(f x).length)
 | []=>rfl
 | x::l=>by rw [ll,da,bo,gf,NR f l]
def nW(a:List Gv)(w:Nat->Nat):Nat->Nat
 | 0=>0
 | n+1=>nW a w n+ih a n*w n
theorem NS(d:List Gv)(y:Gv)(w:Nat->Nat):∀ n,nW (d++[y]) w n=nW d w n+(if y.tx=[]/\0<=y.pt/\y.pt<(n:Int) then w y.pt.toNat else 0)
 | 0=>by unfold nW;rw [ab (by omega)]
 | n+1=>by
  unfold nW;rw [NS d y w n,zy];by_cases f:y.tx=[]/\y.pt=(n:Int)
  ·obtain⟨a,b⟩:=f;rw [ab (show ¬ (y.tx=[]/\0<=y.pt/\y.pt<(n:Int)) by omega),aj (show y.tx=[]/\y.pt=(n:Int) from⟨a,b⟩),aj (show y.tx=[]/\0<=y.pt/\y.pt<((n+1:Nat):Int) from⟨a,by omega,by omega⟩),b,gw,gh];omega
  ·rw [ab f];by_cases c:y.tx=[]/\0<=y.pt/\y.pt<(n:Int)
   ·rw [aj c,aj ⟨c.1,c.2.1,by omega⟩];simp;omega
   ·have g:¬ (y.tx=[]/\0<=y.pt/\y.pt<((n+1:Nat):Int)):=fun q=>by
     have h:¬ y.pt=(n:Int):=fun e=>f ⟨q.1,e⟩
     exact c ⟨q.1,q.2.1,by omega⟩
    rw [ab c,ab g];simp
theorem af2(w:Nat->Nat)(n:Nat)(f:Gv->Nat)(h:∀ y,f y<=if y.tx=[] then w y.pt.toNat else 1):∀ c:List Gv,(∀ y∈c,y.tx=[]->0<=y.pt/\y.pt<(n:Int))->gf (c.map f)<=c.length+nW c w n:=by
 intro c;have i:∀ m,m<=c.length->(∀ y∈c,y.tx=[]->0<=y.pt/\y.pt<(n:Int))->gf ((c.take m).map f)<=m+nW (c.take m) w n:=fun m=>by
  induction m with
  | zero=>intro _ _;simp [gf]
  | succ m j =>
   intro l d;have e:m<c.length:=by omega
   rw [fR e,dc,Gw,NS];have o:=j (by omega) d;have g:=h c[m];have k:=d c[m] (cN e);simp only [bo,hY,gf];by_cases q:c[m].tx=[]
   ·rw [aj q] at g;obtain⟨a,b⟩:=k q;rw [aj ⟨q,a,b⟩];omega
   ·rw [ab q] at g;rw [ab (fun z=>q z.1)];omega
 intro d;have:=i c.length (bj _) d;rwa [eK] at this
theorem NT{g:List Gv}{ps:List Pt}(d:sA g ps=true)(F:List Nat):∀ n,n<=ps.length->nW g (fun m=>F.getD (cf (ps.take m)) 0) n<=gf ((F.take (cf (ps.take n))))
 | 0,_=>by simp [nW]
 | n+1,h=>by
  have i:=NT d F n (by omega);have e:n<ps.length:=by omega
  unfold sA at d;have c:=bQ.1 d n (di.2 e);unfold kW at c;rw [aI e] at c;simp only at c;unfold nW;rw [fR e];have k:∀ a b:List Pt,cf (a++b)=cf a+cf b:=fun a b=>by unfold cf;rw [q',da]
  rw [k];split at c
  ·rename_i q;simp only [bD] at c;have f:cf [ps[n]]=1:=by unfold cf;simp [q]
   rw [c,GX,f];by_cases j:cf (ps.take n)<F.length
   ·rw [fR j,Gw];have:F.getD (cf (ps.take n)) 0=F[cf (ps.take n)]:=by rw [fQ,aI j];rfl
    rw [this];simp only [gf];omega
   ·have:F.getD (cf (ps.take n)) 0=0:=by rw [fQ,cb (by omega)];rfl
    rw [this,d' (by omega)];rw [d' (by omega)] at i;omega
  ·rename_i q;simp only [bD] at c;have f:cf [ps[n]]=0:=by unfold cf;simp [q]
   rw [c,f];simpa using i
theorem NU:∀ (F:List Nat) (n:Nat),gf (F.take n)<=gf F
 | [],n=>by simp [gf]
 | a::F,0=>by simp [gf]
 | a::F,n+1=>by have:=NU F n;simp only [uW,gf];omega
theorem af3{g:Gr}{d:List It}(s:∀ y∈d,y.cR.length<=4)(u:∀ x∈g.rs,Ad x/\sA x.gs x.ps=true){t:Tr}(v:lM g d t):∀ e:List Int,(fg g d t e).length<=8*pn t:=by
 induction v with
 | leaf i f j c y k w =>intro e;have:=s y (dh k.2);rw [fg,aj (by decide),k.2,pn];simp only [db];omega
 | node r i f j c x n w I J K A =>
  intro e;obtain⟨⟨L,M,B⟩,C⟩:=u x (dh n);rw [fg,ab (by omega),gw,n,pn];simp only;generalize e++jg x.ps f c=own;rw [NR];have N:gf ((iG g d c own).map List.length)<=8*lL c:=by
   have:∀ l:List Tr,(∀ z∈l,z∈c)->gf ((iG g d l own).map List.length)<=8*lL l:=fun l=>by
    induction l with
    | nil=>intro _;simp [iG,gf]
    | cons z l D =>
     intro o;have a:=D fun q E=>o q (cD _ E)
     have b:=A z (o z (dj ..)) own;simp only [iG,bo,gf,lL];omega
   exact this c fun _ h=>h
  have O:=af2 (fun m=>((iG g d c own).map List.length).getD (cf (x.ps.take m)) 0) x.ps.length (fun y=>(qR x f j e (iG g d c own) y).length) (fun y=>by
   unfold qR;split
   ·rw [fQ,fQ,bG];cases (iG g d c own)[cf (x.ps.take y.pt.toNat)]? <;> simp
   ·simp) x.gs (fun y F G=>by obtain⟨m,p,P,H,_⟩:=B y F G;have:=(bu.1 H).1;omega)
  have Q:=NT C ((iG g d c own).map List.length) x.ps.length (bj _);have R:=NU ((iG g d c own).map List.length) (cf (x.ps.take x.ps.length));omega
theorem af4{g:Gr}(j:uQ g):∀ x∈g.rs,Ad x/\sA x.gs x.ps=true:=fun x k=>by
 have h:=j.rn x k;unfold kX fe at h;simp only [ax,bD] at h;obtain⟨_,⟨_,n⟩,⟨_,o⟩,_,_,l,c⟩:=h;refine⟨⟨by omega,by omega,fun y f i=>?_⟩,c⟩;have b:=bQ.1 l y f;unfold qH fe at b;rw [aj i] at b;simp only [ax,bD] at b;obtain⟨m,e⟩:=ht b.1;have d:m<x.ps.length:=by omega
 refine⟨m,x.ps[m],e,aI d,?_⟩;unfold sA at c;have a:=bQ.1 c m (di.2 d);unfold kW at a;rw [aI d] at a;simp only at a;split at a
 ·assumption
 ·simp only [bD] at a;exfalso;have:0<ih x.gs m:=by
   unfold ih;refine sZ.2 fun q=>?_
   have:y∈x.gs.filter fun y=>decide (y.tx=[])&&decide (y.pt=(m:Int)):=km.2 ⟨f,by simp [i,e]⟩
   rw [q] at this;cases this
  omega
end
section
attribute [local simp] cK cI cJ cG cH cd bS cA nH nI nJ qL qJ qK so sp sq kO kP kQ
def hj(g:Gr)(a:List It)(t:Tr):D:=.fn (.func 89) [] [.ip (.sl 6 (a.map bT)),.ip (bq g),.ip (cz t)]
theorem NV(g:Gr)(a:List It)(t:Tr):PC 37 [bq g,.sl 6 (a.map bT),cz t] (.ret (hj g a t)):=by
 refine aG aH Yv (by simp [a37]) fun b=>?_
 simp [a37,hj]
theorem af5(g:Gr)(a:List It)(t:Tr)(f:∀ b,cW Tryz.prog 94 (sO ⟨g,a,b⟩ t []))(i:(fg g a t []).length<=1000000):PC 88 [.nil 3,hj g a t] (.ret (.sl 3 ((fg g a t []).map aX))):=by
 refine aG Ga Zf (by simp [Di]) fun n=>?_
 simp [Di,hj];refine h' (TF Tryz.prog Dj) (aR Zg) rfl (by rfl) (fun b=>by rfl) (fun b=>?_);simp [Dj];refine aK [] ?_;simp;refine aV _ (Lk (f b)) ?_;refine⟨xi ⟨g,a,b⟩ t [],⟨by rw [uS];exact nD _,fun G w u h=>.d (oR 0 1 _ _ _ h.cw),nD _,nD _,nD _,nD _,trivial⟩,0,[],⟨?_,rfl⟩,rfl,?_,by simpa using i,?_,fun j o e p k=>?_⟩
 ·refine abZ ⟨g,a,b⟩ _ _ ?_ rfl rfl;rfl
 ·refine⟨⟨?_,?_⟩,rfl,fun h=>absurd rfl h,fun _=>rfl,rfl,rfl,rfl,rfl⟩
  ·simp [ai]
  simp [gr,ib,bR,ai,AV.one,D.one]
 ·simp
 have c:=e.l0;have d:AL.look j 1=some (.obj 0):=k.at_ 1 (by simp [newName]) (by omega) (by omega);have l:=e.l2;simp [l,bh,d];simp only [gx] at c;unfold uk at c;split at c
 ·rename_i m;simp [c,m,bh,d]
 ·simp [c,bh,d]
inductive NW (g:Gr) (ae:List It) (t:Tr) (L:List Tg):FuncId->List D->Out->Prop
 | app (h:PC 88 [.nil 3,hj g ae t] (.ret (.sl 3 (L.map aX)))):NW g ae t L 88 [.nil 3,hj g ae t] (.ret (.sl 3 (L.map aX)))
theorem af6(g:Gr)(c:List It)(t:Tr)(L:List Tg):∀ f a b,NW g c t L f a b->PC f a b:=by
 intro f a b h;cases h with
 | app h=>exact h
theorem NX(g:Gr)(a:List It)(t:Tr)(b:∀ c,cW Tryz.prog 94 (sO ⟨g,a,c⟩ t []))(d:(fg g a t []).length<=1000000):PC 36 [hj g a t] (.ret (.sl 3 ((fg g a t []).map aX))):=by
 have e:=af5 g a t b d;generalize fg g a t []=L at *;refine aG (af6 g a t L) Yu (by simp [a36]) fun f=>?_
 simp [a36];refine ah [.ret (.sl 3 (L.map aX))] ?_;simp;exact .app e
instance:Inhabited It:=⟨⟨0,0,0,0,[],0⟩⟩
def ki(a:List It)(i:Int):List It->Nat->Int->Int
 | [],_,b=>b
 | x::l,k,b=>ki a i l (k+1) (if 0<=x.cat/\x.fr=i/\(b<0\/(a.getD b.toNat default).un<x.un) then k else b)
theorem Gx(a:List It)(i:Int):∀ (l:List It) (k:Nat) (b:Int),l=a.drop k->(b=-1\/(0<=b/\b<a.length/\(a.getD b.toNat default).fr=i))->(ki a i l k b=-1\/(0<=ki a i l k b/\ki a i l k b<a.length/\(a.getD (ki a i l k b).toNat default).fr=i))
 | [],_,_,_,h=>h
 | x::l,k,b,e,h=>by
  unfold ki;have c:a[k]?=some x:=by have:=congrArg (fun m=>m[0]?) e;simpa using this.symm
  refine Gx a i l (k+1) _ (by rw [<- xF,<- e];rfl) ?_;split
  ·rename_i d;right;refine⟨by omega,by have:=(bu.1 c).1;omega,?_⟩;rw [gw,fQ,c];exact d.2.1
  ·exact h
def nX(g:Gr)(a:List It)(n:Nat):Nat->Nat->List Tg->List Tg
 | 0,_,b=>b
 | f+1,i,b=>if i<n then (if ki a i a 0 (-1)<0 then nX g a n f (i+1) b else nX g a n f (a.getD (ki a i a 0 (-1)).toNat default).un.toNat (b++fg g a (.mk (-1) (ki a i a 0 (-1)) 0 0 []) [])) else b
theorem af7{b:Int}:aB (.agg [dI (-1),dI b,dI 0,dI 0,.nil 5]) (cz (.mk (-1) b 0 0 [])):=by rw [uS];exact aB.agg (.cons (aB.refl _) (.cons (aB.refl _) (.cons (aB.refl _) (.cons (aB.refl _) (.cons (aB.nil 5) .nil))))) (by simp [dI,D.one])
inductive lf (g:Gr) (ae:List It) (n:Int) (f:Fd) (ir:D) (l:List Tm) (aJ:Int) (ws:List B8) (at_ kn:Int) (ok:Tr->Prop):FuncId->List D->Out->Prop
 | items:PC 34 [bq g,.sl 8 (l.map bF),dI aJ,.sl 1 (ws.map dT),dI at_,dI kn] (.ret ir)->lf g ae n f ir l aJ ws at_ kn ok 34 [bq g,.sl 8 (l.map bF),dI aJ,.sl 1 (ws.map dT),dI at_,dI kn] (.ret ir)
 | Gy:PC 35 [bq g,.sl 6 (ae.map bT),dI n] (.ret (.af [cz f.tr,dI f.cost,dB f.ok,dI 0]))->lf g ae n f ir l aJ ws at_ kn ok 35 [bq g,.sl 6 (ae.map bT),dI n] (.ret (.af [cz f.tr,dI f.cost,dB f.ok,dI 0]))
 | words (t:Tr):lf g ae n f ir l aJ ws at_ kn ok 37 [bq g,.sl 6 (ae.map bT),cz t] (.ret (hj g ae t))
 | NY (b:Int):lf g ae n f ir l aJ ws at_ kn ok 37 [bq g,.sl 6 (ae.map bT),.agg [dI (-1),dI b,dI 0,dI 0,.nil 5]] (.ret (hj g ae (.mk (-1) b 0 0 [])))
 | Gz (t:Tr) (h:PC 36 [hj g ae t] (.ret (.sl 3 ((fg g ae t []).map aX)))):lf g ae n f ir l aJ ws at_ kn ok 36 [hj g ae t] (.ret (.sl 3 ((fg g ae t []).map aX)))
theorem Af(g:Gr)(a:List It)(n:Int)(f:Fd)(i:D)(l:List Tm)(j:Int)(k:List B8)(m o:Int)(p:Tr->Prop):∀ c d e,lf g a n f i l j k m o p c d e->PC c d e:=by
 intro c d e h;cases h with
 | items h=>exact h
 | Gy h=>exact h
 | words t=>exact NV g a t
 | NY b=>exact(NV g a (.mk (-1) b 0 0 [])).le (.cons (aB.refl _) (.cons (aB.refl _) (.cons af7 .nil)))
 | Gz t h=>exact h
theorem NZ{g:Gr}{l:List Tm}{b:Int}{a:List B8}{c d:Int}(h:ff g l b a c d=0):(jd g=0/\ig b c d l=0)/\(a.length<=16/\∀ w∈a,bw w=true)/\(mH g (kc b c d l) a).length<=1024:=by
 unfold ff at h;by_cases e:jd g=0
 ·rw [ab (by simp [e])] at h;by_cases f:ig b c d l=0
  ·rw [ab (by simp [f])] at h;by_cases j:16<a.length
   ·rw [aj j] at h;cases h
   ·rw [ab j] at h;by_cases i:a.any (fun w=>!bw w)=true
    ·rw [aj i] at h;cases h
    ·rw [ab i] at h;by_cases k:1024<(mH g (kc b c d l) a).length
     ·rw [aj k] at h;cases h
     ·refine⟨⟨e,f⟩,⟨by omega,fun w m=>?_⟩,by omega⟩;have n:a.any (fun w=>!bw w)=false:=by simpa using i
      have:=hv.1 n w m;simpa using this
  ·rw [aj f] at h;exact absurd h f
 ·rw [aj e] at h;exact absurd h e
theorem Ag(j:Gr)(l:List Tm)(s:Int)(p:List B8)(t v:Int):∃ (V:List Tg) (d0:Bool),((ff j l s p t v≠0->V=[])/\V.length<=100000)/\PC 11 [bq j,.sl 8 (l.map bF),dI s,.sl 1 (p.map dT),dI t,dI v] (.ret (.af [.sl 3 (V.map aX),dB d0,dI (ff j l s p t v)])):=by
 have H:=afM j l s p t v;by_cases I:ff j l s p t v=0
 case neg =>
  rw [ab I] at H;generalize ff j l s p t v=e at *;refine⟨[],false,⟨fun _=>rfl,by simp⟩,?_⟩;refine aG (Af j [] 0 ik (.af [.nil 6,dI e]) l s p t v (fun _=>True)) r_ (by simp [oP]) fun W=>?_
  simp [oP];refine ah [.ret (.af [.nil 6,dI e])] ?_;simp [I];exact .items H
 obtain⟨⟨q1,q2⟩,⟨q3,q4⟩,q5⟩:=NZ I;rw [aj I,I] at H;rw [I];have b0:=z' q1;have J:=afZ (afU q2) b0 q4;have b1:=af4 b0;generalize e8:mH j (kc s t v l) p=d at *;by_cases O:p=[]
 ·subst O;refine⟨[],false,⟨fun h=>absurd rfl h,by simp⟩,?_⟩;refine aG (Af j d 0 ik (.af [.sl 6 (d.map bT),dI 0]) l s [] t v (fun _=>True)) r_ (by simp [oP]) fun W=>?_
  simp [oP];refine ah [.ret (.af [.sl 6 (d.map bT),dI 0])] ?_;simp;exact .items H
 have f0:1<=p.length:=sZ.2 O;have X:Gc d:=fun y B=>by obtain⟨⟨⟨a,b⟩,c,_⟩,_⟩:=J.1 y B;exact⟨a,b,by omega⟩
 have b2:∀ y∈d,y.cR.length<=4:=fun y B=>(J.1 y B).2.1.2.1
 have b3:∀ (b:Int) (y:It),0<=b->d[b.toNat]?=some y->(∀ K,cW Tryz.prog 94 (sO ⟨j,d,K⟩ (.mk (-1) b 0 0 []) []))/\(fg j d (.mk (-1) b 0 0 []) []).length<=4:=fun b y h0 B=>by refine⟨fun K=>NB ⟨j,d,K⟩ X b 0 0 [] y ⟨h0,B⟩ [] (by simp),?_⟩;rw [fg,aj (by decide),B];simp only [db];exact b2 y (dh B)
 obtain⟨rk,d1,b4⟩:=afn j d p.length q1 (by omega) ⟨by omega,by omega⟩ J.1 J.2;generalize b5:eH j d (c_ (k_ j d p.length)) rk ⟨j.sn,0,p.length⟩=r at *;cases Y:r.ok with
 | true =>
  obtain⟨P,d2⟩:=afr (g:=j) (ae:=d) (w:=c_ (k_ j d p.length)) d1 (x:=⟨j.sn,0,p.length⟩) ⟨by simp,by simp only;omega,by simp only;omega⟩ (by rw [b5];exact Y);rw [b5] at P d2;have f1:=af3 b2 b1 P [];have f2:=P.bd;have Z:=NX j d r.tr (fun K=>af1 ⟨j,d,K⟩ X (fun L d3=>(b1 L d3).1) P [] (by simp;omega)) (by omega);refine⟨fg j d r.tr [],true,⟨fun h=>absurd rfl h,by omega⟩,?_⟩;refine aG (Af j d p.length r (.af [.sl 6 (d.map bT),dI 0]) l s p t v (fun _=>True)) r_ (by simp [oP]) fun W=>?_
  simp [oP];refine ah [.ret (.af [.sl 6 (d.map bT),dI 0])] ?_;have a0:lf j d p.length r (.af [.sl 6 (d.map bT),dI 0]) l s p t v (fun _=>True) 37 [bq j,.sl 6 (d.map bT),cz r.tr] (.ret (hj j d r.tr)):=.words r.tr;have a1:lf j d p.length r (.af [.sl 6 (d.map bT),dI 0]) l s p t v (fun _=>True) 36 [hj j d r.tr] (.ret (.sl 3 ((fg j d r.tr []).map aX))):=.Gz r.tr Z;have M:lf j d p.length r (.af [.sl 6 (d.map bT),dI 0]) l s p t v (fun _=>True) 35 [bq j,.sl 6 (d.map bT),dI p.length] (.ret (.af [cz r.tr,dI r.cost,dB r.ok,dI 0])):=.Gy b4;rw [Y] at M;rw [uS] at a0;generalize f3:fg j d r.tr []=Q at *;simp [O];refine⟨.items H,?_⟩;refine ah [.ret (.af [cz r.tr,dI r.cost,dB true,dI 0])] ?_;simp;refine⟨M,?_⟩;refine ah [.ret (hj j d r.tr),.ret (.sl 3 (Q.map aX))] ?_;simp [hj];exact⟨a0,a1⟩
 | false =>
  have d4:∀ (f i:Nat) (D:List Tg),(nX j d p.length f i D).length<=D.length+4*f:=by
   intro f
   induction f with
   | zero=>intro i D;simp [nX]
   | succ f b6 =>
    intro i D;rw [nX];split
    ·split
     ·have:=b6 (i+1) D;omega
     ·rename_i h1 h2;rcases Gx d i d 0 (-1) rfl (.inl rfl) with q | ⟨d5,f4,_⟩
      ·omega
      generalize ki d i d 0 (-1)=b7 at *;obtain⟨o,rfl⟩:=ht d5;have A:o<d.length:=by omega
      obtain⟨_,d6⟩:=b3 o d[o] (by omega) (by rw [gw];exact aI A);have:=b6 (d.getD (o:Int).toNat default).un.toNat (D++fg j d (.mk (-1) o 0 0 []) []);rw [da] at this;omega
    ·omega
  refine⟨nX j d p.length (p.length+1) 0 [],false,⟨fun h=>absurd rfl h,by have:=d4 (p.length+1) 0 [];simp at this;omega⟩,?_⟩;refine aG (Af j d p.length r (.af [.sl 6 (d.map bT),dI 0]) l s p t v (fun _=>True)) r_ (by simp [oP]) fun W=>?_
  simp [oP];refine ah [.ret (.af [.sl 6 (d.map bT),dI 0])] ?_;have M:lf j d p.length r (.af [.sl 6 (d.map bT),dI 0]) l s p t v (fun _=>True) 35 [bq j,.sl 6 (d.map bT),dI p.length] (.ret (.af [cz r.tr,dI r.cost,dB r.ok,dI 0])):=.Gy b4;rw [Y] at M;simp [O];refine⟨.items H,?_⟩;refine ah [.ret (.af [cz r.tr,dI r.cost,dB false,dI 0])] ?_;simp;refine⟨M,?_⟩;generalize b8:p.length=n at *;generalize d7:nX j d n (n+1) 0 []=d8;have f5:d.length<=1024:=q5;refine bm [3,6,15] (Nat×List Tg) (fun y=>[(19,true,.d (dI y.1)),(12,true,.own 2 3 (y.2.map aX))]) (fun y=>[(2,.row)]) (fun y=>(y.1<=n/\y.2.length<=4*y.1)/\∃ f,n+1<=y.1+f/\nX j d n f y.1 y.2=d8) (fun y=>n-y.1) (0,[]) ⟨⟨bp _,by simp⟩,n+1,by omega,d7⟩ ⟨[],[(2,3)],?_⟩ (fun y B=>?_)
  ·simp
  obtain⟨i,D⟩:=y;obtain⟨⟨d9,e0⟩,f,e1,C⟩:=B;simp only at d9 e0 e1 C;by_cases R:i<n
  ·obtain⟨f,rfl⟩:∃ m,f=m+1:=⟨f-1,by omega⟩;rw [nX,aj R] at C;have e2:=Gx d i d 0 (-1) rfl (.inl rfl);generalize e3:ki d i d 0 (-1)=b7 at *;have e4:=wS i (by omega);simp [R,b8];refine bm [3,6,15,19,12,63,64] (Nat×Int) (fun y=>[(65,true,.d (dI y.1)),(20,true,.d (dI y.2))]) (fun y=>[]) (fun y=>(y.1<=d.length/\(y.2=-1\/(0<=y.2/\y.2<d.length)))/\ki d i (d.drop y.1) y.1 y.2=b7) (fun y=>d.length-y.1) (0,-1) ⟨⟨bp _,.inl rfl⟩,by simpa using e3⟩ ⟨[],[],?_⟩ (fun y B=>?_)
   ·simp
   obtain⟨k,b⟩:=y;obtain⟨⟨k1,k2⟩,k3⟩:=B;simp only at k1 k2 k3;by_cases N:k<d.length
   ·have F:=wS k (by omega);rw [fF N,ki] at k3;simp [N];have f6:=N;generalize d[k]=L at *;simp [bT];by_cases E:0<=L.cat
    case neg =>rw [ab (fun q=>E q.1)] at k3;refine bY [] ?_;simp [E];refine⟨rfl,k+1,b,⟨⟨by omega,k2⟩,k3⟩,by omega,[],[],?_⟩;simp [F]
    by_cases G:L.fr=i
    case neg =>rw [ab (fun q=>G q.2.1)] at k3;refine bY [] ?_;simp [E,G];refine⟨rfl,k+1,b,⟨⟨by omega,k2⟩,k3⟩,by omega,[],[],?_⟩;simp [F]
    by_cases c3:b<0
    ·rw [aj ⟨E,G,.inl c3⟩] at k3;refine bY [] ?_;simp [E,G,c3];refine⟨rfl,k+1,(k:Int),⟨⟨by omega,.inr ⟨by omega,by omega⟩⟩,k3⟩,by omega,[],[],?_⟩;simp [F]
    ·obtain⟨o,rfl⟩:=ht (show 0<=b by omega);have A:o<d.length:=by omega
     have S:d.getD ((o:Int)).toNat default=d[o]:=by rw [gw,fQ,aI A];rfl
     rw [S] at k3;have b9:¬ (o:Int)<0:=by omega
     have T:((o:Int)<0)=False:=mV b9;have U:(0<=(o:Int))=True:=fi (by omega);generalize a2:d[o]=z at *;by_cases c4:z.un<L.un
     ·rw [aj ⟨E,G,.inr c4⟩] at k3;refine bY [] ?_;simp [E,G,A,a2,c4,T,U];refine⟨rfl,k+1,(k:Int),⟨⟨by omega,.inr ⟨by omega,by omega⟩⟩,k3⟩,by omega,[],[],?_⟩;simp [F]
     ·rw [ab (fun q=>q.2.2.elim b9 c4)] at k3;refine bY [] ?_;simp [E,G,A,a2,c4,T,U];refine⟨rfl,k+1,(o:Int),⟨⟨by omega,.inr ⟨by omega,by omega⟩⟩,k3⟩,by omega,[],[],?_⟩;simp [F]
   ·have e9:k=d.length:=by omega
    subst e9;rw [oc,ki] at k3;subst k3;by_cases c0:b<0
    ·rw [aj c0] at C;have e5:b=-1:=by omega
     subst e5;simp [N];refine⟨i+1,D,⟨⟨by omega,by omega⟩,f,by omega,C⟩,by omega,[],[],?_⟩;simp [e4]
    ·rw [ab c0] at C;obtain⟨o,rfl⟩:=ht (show 0<=b by omega);have A:o<d.length:=by omega
     have S:d.getD ((o:Int)).toNat default=d[o]:=by rw [gw,fQ,aI A];rfl
     obtain⟨F,d6⟩:=b3 o d[o] (by omega) (by rw [gw];exact aI A);have f7:d[o].fr=i:=by
      rcases e2 with q | ⟨_,_,q⟩
      ·omega
      ·rw [S] at q;exact q
     rw [S] at C;have f8:=X d[o] (cN A);have f9:=(J.1 d[o] (cN A)).1.2.1;have Z:=NX j d (.mk (-1) o 0 0 []) F (by omega);have a0:lf j d n r (.af [.sl 6 (d.map bT),dI 0]) l s p t v (fun _=>True) 37 [bq j,.sl 6 (d.map bT),cz (.mk (-1) o 0 0 [])] (.ret (hj j d (.mk (-1) o 0 0 []))):=.words _;have a1:lf j d n r (.af [.sl 6 (d.map bT),dI 0]) l s p t v (fun _=>True) 36 [hj j d (.mk (-1) o 0 0 [])] (.ret (.sl 3 ((fg j d (.mk (-1) o 0 0 []) []).map aX))):=.Gz _ Z;have e6:d[o]?=some d[o]:=aI A;have e7:lf j d n r (.af [.sl 6 (d.map bT),dI 0]) l s p t v (fun _=>True) 37 [bq j,.sl 6 (d.map bT),.agg [dI (-1),dI o,dI 0,dI 0,.nil 5]] (.ret (hj j d (.mk (-1) o 0 0 []))):=.NY o;generalize fg j d (.mk (-1) o 0 0 []) []=Q at *;generalize a2:d[o]=z at *;have T:((o:Int)<0)=False:=mV (by omega);have U:(0<=(o:Int))=True:=fi (by omega);simp [N,T,U];refine ah [.ret (hj j d (.mk (-1) o 0 0 [])),.ret (.sl 3 (Q.map aX))] ?_;simp [hj,e6];refine⟨e7,a1,⟨by omega,by omega⟩,A,?_⟩;obtain⟨u,hu⟩:=ht (show 0<=z.un by omega);rw [hu,gw] at C;refine⟨u,D++Q,⟨⟨by omega,by simp;omega⟩,f,by omega,C⟩,by omega,[(2,4)],[],?_⟩;simp [hu]
  ·have hi:i=n:=by omega
   obtain⟨f,rfl⟩:∃ m,f=m+1:=⟨f-1,by omega⟩;rw [nX,ab R] at C;subst C;simp [R,b8]
end
section
attribute [local simp] cK cI cJ cG cH cd bS cA nH nI nJ
def iH:List Tg->List Tg->List Tg
 | a::l,b::m=>if a=b then a::iH l m else []
 | _,_=>[]
def hk:List (List Tg)->List Tg
 | []=>[]
 | l::r=>r.foldl iH l
def nY(p l:List Tg):Prop:=∃ r,l=p++r
theorem N_:∀ l m,nY (iH l m) l
 | [],m=>⟨[],rfl⟩
 | a::l,[]=>⟨a::l,rfl⟩
 | a::l,b::m=>by
  unfold iH;split
  ·obtain⟨r,e⟩:=N_ l m;exact⟨r,by rw [dX,<- e]⟩
  ·exact⟨a::l,rfl⟩
theorem N':∀ l m,nY (iH l m) m
 | [],m=>⟨m,by unfold iH;rfl⟩
 | a::l,[]=>⟨[],by unfold iH;rfl⟩
 | a::l,b::m=>by
  unfold iH;split
  ·rename_i h;subst h;obtain⟨r,e⟩:=N' l m;exact⟨r,by rw [dX,<- e]⟩
  ·exact⟨b::m,rfl⟩
theorem Oa{a b c:List Tg}(h:nY a b)(k:nY b c):nY a c:=by obtain⟨r,rfl⟩:=h;obtain⟨s,rfl⟩:=k;exact⟨r++s,by simp⟩
theorem Ob:∀ (r:List (List Tg)) (l:List Tg),nY (r.foldl iH l) l/\∀ m∈r,nY (r.foldl iH l) m
 | [],l=>⟨⟨[],by simp⟩,fun m h=>(by cases h)⟩
 | x::r,l=>by
  obtain⟨a,b⟩:=Ob r (iH l x);refine⟨Oa a (N_ l x),fun m c=>?_⟩;rcases b_.1 c with rfl | c
  ·exact Oa a (N' l m)
  ·exact b m c
theorem Ah{c:List (List Tg)}{m:List Tg}(h:m∈c):nY (hk c) m:=by
 cases c with
 | nil=>cases h
 | cons l r =>
  obtain⟨a,b⟩:=Ob r l;rcases b_.1 h with rfl | h
  ·exact a
  ·exact b m h
theorem GA:∀ (l m:List Tg) (n:Nat),n<=l.length->n<=m.length->l.take n=m.take n->(∀ (c:n<l.length) (d:n<m.length),l[n]≠m[n])->iH l m=l.take n
 | [],m,n,c,_,_,_=>by simp at c;subst c;unfold iH;rfl
 | a::l,[],n,_,d,_,_=>by simp at d;subst d;unfold iH;rfl
 | a::l,b::m,0,_,_,_,f=>by have:=f (by simp) (by simp);simp at this;unfold iH;rw [ab this];rfl
 | a::l,b::m,n+1,c,d,e,f=>by simp only [uW,xy] at e;obtain⟨rfl,e⟩:=e;unfold iH;rw [aj rfl,uW,GA l m n (by simpa using c) (by simpa using d) e fun q1 g=>?_];have:=f (by simpa using q1) (by simpa using g);simpa using this
inductive sQ:FuncId->List D->Out->Prop
 | same (x y:Tg):sQ 33 [aX x,aX y] (.ret (dB (decide (x=y))))
 | clone (l:List Tg) (h:l.length<=1000000):sQ 70 [.sl 3 (l.map aX)] (.ret (.sl 3 (l.map aX)))
 | Oc:sQ 70 [.nil 3] (.ret (.sl 3 []))
theorem af8(c:PC 70 [.sl 3 []] (.ret (.sl 3 []))/\∀ l:List Tg,l.length<=1000000->PC 70 [.sl 3 (l.map aX)] (.ret (.sl 3 (l.map aX)))):∀ f a b,sQ f a b->PC f a b:=by
 intro f a b h;cases h with
 | same x y=>exact acs x y
 | clone l h=>exact c.2 l h
 | Oc=>exact(c.1).le (.cons (aB.nil 3) .nil)
theorem af9(c:List (List Tg))(U:c.length<=1000)(o:∀ l∈c,l.length<=1000000)(G:∀ f u v,sQ f u v->PC f u v):PC 32 [.fn (.func 33) [] [],.sl 1 (c.map fun l=>.sl 3 (l.map aX))] (.ret (.sl 3 ((hk c).map aX))):=by
 refine aG G Yq (by simp [a32]) fun V=>?_
 simp [a32];refine bm [0,8,9] Nat (fun y=>[(10,true,.d (dI y)),(4,true,.d (if y=0 then .nil 3 else .sl 3 ((hk (c.take y)).map aX)))]) (fun y=>[]) (fun y=>y<=c.length) (fun y=>c.length-y) 0 (bp _) ⟨[],[],?_⟩ (fun k W=>?_)
 ·simp
 by_cases g:k<c.length
 ·have w:=wS k (by omega);have x:c.take (k+1)=c.take k++[c[k]]:=fR g;have X:=o c[k] (cN g);have H:k≠0->hk (c.take (k+1))=iH (hk (c.take k)) c[k]:=fun d=>by
   rw [x];cases I:c.take k with
   | nil=>exact absurd (List.take_eq_nil_iff.1 I) (by rintro(e | e);(· exact d e);rw [e] at g;simp at g)
   | cons a r=>simp [hk,Hv]
  have J:k=0->hk (c.take (k+1))=c[k]:=fun d=>by rw [x];subst d;rfl
  by_cases d:k=0
  ·have i:=J d;subst d;have K:hk (c.take 1)=c[0]:=i;simp [g];refine⟨1,by omega,by omega,[],[],?_⟩;rw [K];simp [show IntKind.i64.wrap 1=1 by decide]
  ·have i:=H d;simp [g,d];generalize c[k]=m at *;generalize Y:hk (c.take k)=p at *;refine bm [10,8,9,0,4,6] Nat (fun y=>[(7,true,.d (dI y))]) (fun y=>[]) (fun y=>y<=p.length/\y<=m.length/\p.take y=m.take y) (fun y=>p.length-y) 0 ⟨bp _,bp _,by simp⟩ ⟨[],[],?_⟩ (fun y L=>?_)
   ·simp
    done
   obtain⟨z,A,s⟩:=L;by_cases B:y<p.length/\y<m.length
   ·obtain⟨C,D⟩:=B;have j:=sQ.same p[y] m[y];have M:IntKind.i64.wrap ((y:Int)+1)=(y:Int)+1:=wrap64 (by have:=o;omega);have h:((y:Int)<if m.length<p.length then (m.length:Int) else p.length)=True:=fi (by split <;> omega);have N:=fR C;have O:=fR D;have t:=GA p m y z A s;simp;refine bY [.ret (dB (decide (p[y]=m[y])))] ?_;simp [C,D,h];generalize P:p[y]=a at *;generalize Q:m[y]=b at *;by_cases n:a=b
    ·subst n;simp at j;simp [h];refine⟨j,rfl,y+1,⟨by omega,by omega,by rw [N,O,s]⟩,by omega,[],[],?_⟩;simp [M]
    ·simp [n] at j;simp [h,n];refine⟨j,rfl,by omega,k+1,by omega,by omega,[],[],?_⟩;have R:=t (fun q1 E=>by rw [show p[y]=a from P,show m[y]=b from Q];exact n);rw [i,R];simp [w]
   ·have h:((y:Int)<if m.length<p.length then (m.length:Int) else p.length)=False:=mV (by split <;> omega);have t:=GA p m y z A s (fun q1 E=>absurd ⟨q1,E⟩ B);simp;refine bY [.ret (dB false)] ?_;simp [h];refine⟨rfl,by omega,k+1,by omega,by omega,[],[],?_⟩;rw [i,t];simp [w]
 ·have S:k=c.length:=by omega
  subst S;rw [eK];simp [g];refine ah [.ret (.sl 3 ((hk c).map aX))] ?_;simp;split
  ·rename_i T;subst T;exact .Oc
  ·refine .clone _ ?_;have F:c[0]'(by rename_i q;cases c with | nil=>exact absurd rfl q | cons a r=>simp)∈c:=cN _;have:=o _ F;obtain⟨r,e⟩:=Ah F;have:=congrArg List.length e;simp at this;omega
end
section
attribute [local simp] cK cI cJ cG cH cd bS cA nH nI nJ kO kP kQ
theorem af_{P:Program}{f:FuncId}{l bytes:Nat}(F:iz P f l bytes)(i:List D)(M:i.length*bytes<=140737488355328):dO P f [.sl l i] (.ret (.sl l i)):=by
 refine⟨F.call,fun I w m s _ t=>?_⟩;obtain⟨G,O⟩:=t;have x:0<m.size:=by rw [G];simp
 have y:=O 0 _ m[0] rfl (by simp [x]);have H:m=#[m[0]]:=by
  apply xG
  ·simpa using G
  ·intro j z B;simp at B;subst B;rfl
 generalize m[0]=v at y H;subst H;obtain⟨n,A,Q,_,_,rfl,_⟩:=y.gJ;obtain⟨J,k1,k2,k3,k4,k5,k6,R,S,T,U⟩:=l_ y;subst k5;have V:=F.run w A i.length Q J T U k1 (fun e=>by simp [S e]) (fun b e j u W=>(k3 b e j u W).1) k2 M;refine AQ V fun e C t=>?_
 obtain⟨g,h⟩:=t;have E:∀ a,I a->C.cell? a=w.cell? a:=fun a d=>by obtain⟨a1,X⟩:=eI.1 (s a d);exact g.cell (d_ w _ X)
 rcases h with ⟨x,A',rfl⟩ | ⟨x,N,Y,o,Z,rfl,q1,q2,q3,q4,q5,q6⟩
 ·have a0:i=[]:=hV (by omega);subst a0;exact⟨I,_,fun _ h=>h,fun _ h=>.inl h,fun a d=>by rw [E a d];exact s a d,g,rfl,.sl ⟨0,0,none⟩ (fun _=>undef) rfl (bj _) (by omega) (.inr rfl) (by simp) (by simp [D.flat]) (by simp [D.flat]) (by simp [D.flat])⟩
 ·have K:=fU k6;have L:∀ k,C.cell? ⟨N,k,none⟩=o[k]?:=fun k=>hW C N k o Z (0,0) q2
  have a2:i.length*l<=Y*l:=ln _ q3;refine⟨fun b=>I b\/(b.block=N/\b.spot=none/\b.off<i.length*l),_,fun _ h=>.inl h,fun a d=>d.imp id (fun h=>by omega),fun b p=>?_,g,rfl,.sl ⟨N,0,none⟩ (fun k=>(o[k]?).getD undef) rfl (by omega) q4 (.inl rfl) k6 R (fun k c q=>?_) (fun k c q=>?_)⟩
  ·rcases p with p | ⟨h1,z,B⟩
   ·rw [E b p];exact s b p
   ·have:b=⟨N,b.off,none⟩:=by cases b;simp_all
    rw [this,L,bb (show b.off<o.size by omega)];rfl
  ·have r:k<i.length*l:=by rw [<- K];exact(bu.1 q).1
   rw [cc,bC,L,bb (show k<o.size by omega)];exact⟨.inr ⟨rfl,rfl,r⟩,rfl⟩
  ·have r:k<J.length:=by rw [k1,<- K];exact(bu.1 q).1
   have z:=q6 k _ (aI r);rw [z];exact(k4 k c _ q (aI r)).mono fun a d=>⟨.inl d,E a d⟩
theorem Od(l:List Tg)(h:l.length<=1000000):PC 70 [.sl 3 (l.map aX)] (.ret (.sl 3 (l.map aX))):=af_ Kf _ (by simp;omega)
theorem af':∀ f a b,sQ f a b->PC f a b:=af8 ⟨Od [] (by simp),Od⟩
def qU(e:Int):D:=.cQ 34 (dI e)
theorem GB(e:Int):PC 26 [dB true,dI e] (.ret (.af [])):=by
 refine aG aH Kh (by simp [a26]) fun a=>?_
 simp [a26]
theorem Oe(e:Int):PC 26 [dB false,dI e] (.aQ (qU e)):=by
 refine aG aH Kh (by simp [a26]) fun a=>?_
 simp [a26];refine aK [] ?_;simp [qU]
inductive xt (r:D) (a:List D):FuncId->List D->Out->Prop
 | tr:xt r a 11 a (.ret r)
 | nt (e:Int):xt r a 26 [dB true,dI e] (.ret (.af []))
 | nf (e:Int):xt r a 26 [dB false,dI e] (.aQ (qU e))
theorem aga(g:Gr)(l:List Tm)(b:Int)(c:List B8)(d i:Int)(a:List Tg)(j:Bool)(k:PC 11 [bq g,.sl 8 (l.map bF),dI b,.sl 1 (c.map dT),dI d,dI i] (.ret (.af [.sl 3 (a.map aX),dB j,dI 0]))) :
  PC 25 [.sl 1 (c.map dT),.ip (bq g),.ip (.sl 8 (l.map bF)),.ip (dI b),.ip (dI d),.ip (dI i)] (.ret (.sl 3 (a.map aX))):=by
 refine aG (C:=xt (.af [.sl 3 (a.map aX),dB j,dI 0]) [bq g,.sl 8 (l.map bF),dI b,.sl 1 (c.map dT),dI d,dI i]) (fun f m n h=>by cases h with | tr=>exact k | nt e=>exact GB e | nf e=>exact Oe e) Kg (by simp [a25]) fun o=>?_
 simp [a25];refine ah [.ret (.af [.sl 3 (a.map aX),dB j,dI 0])] ?_;simp;refine⟨.tr,?_⟩;refine ah [.ret (.af [])] ?_;simp;exact .nt 0
theorem agb(g:Gr)(l:List Tm)(a:Int)(b:List B8)(c d:Int)(i:List Tg)(j:Bool)(e:Int)(k:e≠0)(m:PC 11 [bq g,.sl 8 (l.map bF),dI a,.sl 1 (b.map dT),dI c,dI d] (.ret (.af [.sl 3 (i.map aX),dB j,dI e]))) :
  PC 25 [.sl 1 (b.map dT),.ip (bq g),.ip (.sl 8 (l.map bF)),.ip (dI a),.ip (dI c),.ip (dI d)] (.aQ (qU e)):=by
 refine aG (C:=xt (.af [.sl 3 (i.map aX),dB j,dI e]) [bq g,.sl 8 (l.map bF),dI a,.sl 1 (b.map dT),dI c,dI d]) (fun f o p h=>by cases h with | tr=>exact m | nt e=>exact GB e | nf e=>exact Oe e) Kg (by simp [a25]) fun q=>?_
 simp [a25];refine ah [.ret (.af [.sl 3 (i.map aX),dB j,dI e])] ?_;simp;refine⟨.tr,?_⟩;have n:(e == 0)=false:=by simp [k]
 refine ah [.aQ (qU e)] ?_;simp [k,n];exact .nf e
def iI(B:Nat)(l:List St)(a:St):Prop:=∃ s∈l,Sub B a s
theorem hT{B:Nat}{l:List St}{s:List (Nat×Bool×AV)}{h:List (Nat×HO)}{d:List DE}(a:List Nat)(b:Sub B ⟨s,h,d⟩ ⟨hF s a,h,d⟩):iI B (⟨hF s a,h,d⟩::l) ⟨s,h,d⟩:=⟨_,by simp,b⟩
section
variable {P:Program}{cx:Cx}{Q:AE->St->Prop}{s:List (Nat×Bool×AV)}{h:List (Nat×HO)}{d:List DE}
theorem GC{b:AC}{f:St}(a:St)(l:List St)(hr:Sub cx.B f a)(h:∀ k (m:k<(a::l).length),bL P cx b (fp (iI cx.B (l.drop k)) Q) ((a::l)[k])):bL P cx (.loop b) Q f:=by
 rw [eR] at *;refine UD Nat (fun k=>(a::l).getD k a) (fun k=>k<=l.length) (fun k=>l.length-k) 0 (bp _) (by simpa using hr) (fun k m=>?_);have h1:=h k (by simp;omega);have e:(fun d=>∃ c,c<=l.length/\l.length-c<l.length-k/\Sub cx.B d ((a::l).getD c a))=iI cx.B (l.drop k):=by
  funext d;apply propext;unfold iI;constructor
  ·rintro⟨j,q,r,g⟩;obtain⟨j,rfl⟩:∃ i,j=i+1:=⟨j-1,by omega⟩;have n:j<l.length:=by omega
   rw [List.getD_cons_succ,fQ,aI n] at g;refine⟨l[j],pD.2 ⟨j-k,by simp;omega,?_⟩,g⟩;rw [List.getElem_drop];congr 1;omega
  ·rintro⟨s,o,h3⟩;obtain⟨i,p,rfl⟩:=pD.1 o;rw [jj] at p;refine⟨k+i+1,by omega,by omega,?_⟩;rw [List.getD_cons_succ,fQ,aI (by omega)];rw [List.getElem_drop] at h3;exact h3
 show vc P cx b (fp (fun d=>∃ c,c<=l.length/\l.length-c<l.length-k/\Sub cx.B d ((a::l).getD c a)) Q) ((a::l).getD k a);rw [e,fQ,aI (by simp;omega)];exact h1
theorem GD{b:AC}(c:List Nat){a:St}(hr:Sub cx.B ⟨s,h,d⟩ ⟨hF s c,h,d⟩)(h0:bL P cx b (fp (iI cx.B [a]) Q) ⟨hF s c,h,d⟩)(h1:bL P cx b (fp (iI cx.B []) Q) a):bL P cx (.loop b) Q ⟨s,h,d⟩ :=
 GC _ [a] hr fun k e=>by
  match k,e with
  | 0,_=>exact h0
  | 1,_=>exact h1
theorem uT{b:AC}(e:List Nat){c a:St}(hr:Sub cx.B ⟨s,h,d⟩ ⟨hF s e,h,d⟩)(h0:bL P cx b (fp (iI cx.B [c,a]) Q) ⟨hF s e,h,d⟩)(h1:bL P cx b (fp (iI cx.B [a]) Q) c)(h2:bL P cx b (fp (iI cx.B []) Q) a):bL P cx (.loop b) Q ⟨s,h,d⟩ :=
 GC _ [c,a] hr fun k f=>by
  match k,f with
  | 0,_=>exact h0
  | 1,_=>exact h1
  | 2,_=>exact h2
theorem Of{b:AC}(f:List Nat){e c a:St}(hr:Sub cx.B ⟨s,h,d⟩ ⟨hF s f,h,d⟩)(h0:bL P cx b (fp (iI cx.B [e,c,a]) Q) ⟨hF s f,h,d⟩)(h1:bL P cx b (fp (iI cx.B [c,a]) Q) e)(h2:bL P cx b (fp (iI cx.B [a]) Q) c)(h3:bL P cx b (fp (iI cx.B []) Q) a):bL P cx (.loop b) Q ⟨s,h,d⟩ :=
 GC _ [e,c,a] hr fun k g=>by
  match k,g with
  | 0,_=>exact h0
  | 1,_=>exact h1
  | 2,_=>exact h2
  | 3,_=>exact h3
end
structure Dr where
 g:Gr
 l:List Tm
 aJ:Int
 at_:Int
 kn:Int
def Dr.az(S:Dr):List D:=[.ip (bq S.g),.ip (.sl 8 (S.l.map bF)),.ip (dI S.aJ),.ip (dI S.at_),.ip (dI S.kn)]
def Dr.args(S:Dr)(own next:List B8)(k:Int):List D:=[bq S.g,.sl 8 (S.l.map bF),dI S.aJ,.sl 1 (own.map dT),.sl 1 (next.map dT),dI k,dI S.at_,dI S.kn]
inductive po (S:Dr):FuncId->List D->Out->Prop
 | kj (ws:List D) (r:D) (h:PC 25 (.sl 1 ws::S.az) (.ret r)):po S 25 [.sl 1 ws,.ip (bq S.g),.ip (.sl 8 (S.l.map bF)),.ip (dI S.aJ),.ip (dI S.at_),.ip (dI S.kn)] (.ret r)
 | Og (ws:List D) (r:D) (h:PC 25 (.sl 1 ws::S.az) (.aQ r)):po S 25 [.sl 1 ws,.ip (bq S.g),.ip (.sl 8 (S.l.map bF)),.ip (dI S.aJ),.ip (dI S.at_),.ip (dI S.kn)] (.aQ r)
 | nt (e:Int):po S 26 [dB true,dI e] (.ret (.af []))
 | odd (b:B8):po S 27 [dT b] (.ret (dB (!bw b)))
 | Ai (ls:List (List Tg)) (hl:ls.length<=1000) (hb:∀ l∈ls,l.length<=1000000):po S 32 [.fn (.func 33) [] [],.sl 1 (ls.map fun l=>.sl 3 (l.map aX))] (.ret (.sl 3 ((hk ls).map aX)))
theorem Aj(S:Dr):∀ f a c,po S f a c->PC f a c:=by
 intro f a c h;cases h with
 | kj d r h=>exact h
 | Og d r h=>exact h
 | nt e=>exact GB e
 | odd b=>exact y_ b
 | Ai g i j=>exact af9 g i j af'
theorem agc(S:Dr)(own next:List B8)(k e:Int)(a:e≠0)(b:PC 25 (.sl 1 (own.map dT)::S.az) (.aQ (qU e))) :
  PC 10 (S.args own next k) (.ret (.af [.sl 3 [],dI 0,dI e])):=by
 refine aG (Aj S) tZ (by simp [oO,Dr.args]) fun c=>?_
 simp [oO,Dr.args];refine aK [] ?_;simp;refine aK [] ?_;simp;refine ah [.aQ (qU e)] ?_;simp;refine⟨.Og _ _ b,?_⟩;refine dQ (TR Tryz.prog a24) (gE yI) ?_;simp [a24,qU];refine dQ (TD Tryz.prog a23) (jq yH) ?_;simp [a23,a]
 done
theorem Oh:IntKind.i64.wrap 0=0:=by decide
theorem Oi:IntKind.i64.wrap 1=1:=by decide
theorem Oj:IntKind.i64.wrap 2=2:=by decide
theorem Ol:IntKind.i64.wrap 3=3:=by decide
theorem Om:IntKind.i64.wrap 4=4:=by decide
theorem On:IntKind.i64.wrap 7=7:=by decide
attribute [local simp] Oh Oi Oj Ol Om On
theorem xu:∀ l:List B8,D.flat (l.map dT)=l.map dT
 | []=>rfl
 | w::l=>by have a:=xu l;simp only [D.flat,bo,ll] at a |-;rw [a];rfl
theorem Ak(w:B8)(l:List B8):D.flat (dT w::l.map dT)=dT w::l.map dT:=xu (w::l)
theorem GF(w:B8)(l:List B8):∀ d∈dT w::l.map dT,d.one=true:=by
 intro d a;rcases b_.1 a with rfl | a
 ·rfl
 ·obtain⟨x,_,rfl⟩:=aS.1 a;rfl
theorem fO(w:B8)(l:List B8):∀ c∈wr (dT w::l.map dT),c.one=true:=Cr (by rw [Ak];exact GF w l)
theorem agd(S:Dr)(own:List B8)(j:own.length<=4)(a:List Tg)(p:a.length<=100000)(d:PC 25 (.sl 1 (own.map dT)::S.az) (.ret (.sl 3 (a.map aX)))) :
  PC 10 (S.args own [] 0) (.ret (.af [.sl 3 ((hk [a]).map aX),dI 1,dI 0])):=by
 have k:PC 29 [.sl 1 [],.fn (.func 27) [] []] (.ret (dB false)):=anyS y_ [];have m:po S 32 [.fn (.func 33) [] [],.sl 1 ([a].map fun l=>.sl 3 (l.map aX))] (.ret (.sl 3 ((hk [a]).map aX))):=.Ai [a] (by simp) (by simp;omega);generalize q:hk [a]=n at *;rcases own with _ | ⟨e,b⟩
 case' nil =>
  have f:IntKind.i64.wrap 16=16:=by decide
  have g:((16:Int)<0)=False:=by simp
  have c:True:=trivial;have h:True:=trivial;have i:True:=trivial
 case' cons =>simp only [bN] at j;have f:IntKind.i64.wrap (16-((b.length:Int)+1))=16-((b.length:Int)+1):=wrap64 (by omega);have g:(16-((b.length:Int)+1)<0)=False:=mV (by omega);have h:=Ak e b;have i:List.take b.length (b.map dT)=b.map dT:=d' (by simp);have c:(b.length+1)*16<=140737488355328:=by omega
 all_goals
  refine aG (Aj S) tZ (by simp [oO,Dr.args]) fun hr=>?_
  simp [oO,Dr.args];refine aK [] ?_;simp;refine aK [] ?_;simp;refine ah [.ret (.sl 3 (a.map aX))] ?_;simp;refine⟨.kj _ _ d,?_⟩;refine aK [.ret (.af [])] ?_;simp;refine aV _ (kF k) ?_;simp [TC];refine⟨.nt _,?_⟩;refine ah [.ret (.af [])] ?_;simp;refine⟨.nt _,?_⟩;simp [f,g];apply GD [3,4,5,16,17,18,19,21,22,54,55]
  case' hr=>exact⟨[],[],by simp⟩
  case' h0 =>simp;refine ah [.ret (.af [])] ?_;simp;refine⟨.nt _,hT [3,4,5,16,17,18,19,54,55,21,22] ⟨[],[],?_⟩⟩;simp
  case' h1 =>
   simp;apply GD [3,4,5,16,17,18,19,23,69,70]
   case' hr=>exact⟨[],[],by simp⟩
   case' h0 =>
    simp;refine aK [] ?_;simp;refine aV (TF Tryz.prog kJ) (aR t_) ?_;simp [kJ]
    try refine⟨c,?_⟩
    refine h' (TF Tryz.prog kM) (aR ua) rfl (by rfl) (fun o=>by rfl) (fun o=>?_);simp [kM];refine aK [] ?_;simp;refine aV (TF Tryz.prog eF) (aR ju) ?_;simp [eF];refine aK [] ?_;simp;refine bY [.ret (.sl 3 (a.map aX))] ?_;simp [h,i]
    try refine⟨c,?_⟩
    refine⟨.kj _ _ d,rfl,hT [3,4,5,16,17,18,19,23,69,70] ⟨[],[],?_⟩⟩;simp
    try exact fO e b
   case' h1 =>
    simp;refine bY [.ret (.sl 3 (n.map aX))] ?_;simp;refine⟨m,rfl,?_⟩;refine dQ (TR Tryz.prog a24) (gE yI) ?_;simp [a24];refine dQ (TD Tryz.prog a23) (jq yH) ?_;simp [a23]
    done
end
section
attribute [local simp] cK cI cJ cG cH cd bS cA nH nI nJ kO kP kQ
attribute [local simp] Oh Oi Oj Ol Om On
theorem pq(l:List B8):wr (l.map dT)=l.map fun w=>AV.d (dT w):=by unfold wr;rw [xu,dA];rfl
theorem age(l:List B8):cq (l.map fun w=>AV.d (dT w))=some (l.map dT):=by
 induction l with
 | nil=>rfl
 | cons w l a=>simp [cq,a]
theorem GG(w:B8)(l:List B8):cq (List.take (l.length+1) (wr (dT w::l.map dT)))=some (dT w::l.map dT):=by have h:=pq (w::l);simp only [bo] at h;rw [h,d' (by simp)];exact age (w::l)
theorem Oo(w:B8)(l:List B8)(x:B8):AV.d (dT w)::(List.map (AV.d∘dT) l++wr [dT x])=wr (dT w::(l.map dT++[dT x])):=by have h:=pq (w::(l++[x]));simp only [bo,dc,hY] at h;rw [h];rfl
theorem Oq(w:B8)(l:List B8)(x:B8):D.flat (dT w::(l.map dT++[dT x]))=dT w::(l.map dT++[dT x]):=by have h:=xu (w::(l++[x]));simpa using h
theorem Ot(w:B8)(l:List B8)(x:B8):∀ d∈dT w::(l.map dT++[dT x]),d.one=true:=by have h:=GF w (l++[x]);simpa using h
theorem jh(w:B8)(l:List B8)(x:B8):∀ c∈wr (dT w::(l.map dT++[dT x])),c.one=true:=by have h:=fO w (l++[x]);simpa using h
theorem Ou(l:List B8)(x:B8):List.take (l.length+1) (l.map dT++[dT x])=l.map dT++[dT x]:=d' (by simp)
theorem agf(S:Dr)(own:List B8)(A:own.length<=4)(b:B8)(B:bw b=true)(c d:List Tg)(H:c.length<=100000)(I:d.length<=100000)(k:PC 25 (.sl 1 (own.map dT)::S.az) (.ret (.sl 3 (c.map aX))))(m:PC 25 (.sl 1 ((own++[b]).map dT)::S.az) (.ret (.sl 3 (d.map aX)))) :
  PC 10 (S.args own [b] 1) (.ret (.af [.sl 3 ((hk [c,d]).map aX),dI 2,dI 0])):=by
 have C:PC 29 [.sl 1 [dT b],.fn (.func 27) [] []] (.ret (dB false)):=by have:=anyS y_ [b];simpa [B] using this
 have E:po S 32 [.fn (.func 33) [] [],.sl 1 ([c,d].map fun l=>.sl 3 (l.map aX))] (.ret (.sl 3 ((hk [c,d]).map aX))):=.Ai [c,d] (by simp) (by simp;omega);have F:D.flat [dT b]=[dT b]:=rfl;generalize J:hk [c,d]=G at *;rcases own with _ | ⟨e,a⟩
 case' nil =>
  have n:IntKind.i64.wrap 16=16:=by decide
  have o:((16:Int)<1)=False:=by simp
  have h:True:=trivial;have i:True:=trivial;have p:True:=trivial;have q:True:=trivial;have r:True:=trivial;have s:True:=trivial;have t:True:=trivial;have u:True:=trivial;have v:True:=trivial;have w:True:=trivial;have g:True:=trivial;have f:True:=trivial;have y:True:=trivial
 case' cons =>
  simp only [bN] at A;have n:IntKind.i64.wrap (16-((a.length:Int)+1))=16-((a.length:Int)+1):=wrap64 (by omega);have o:(16-((a.length:Int)+1)<1)=False:=mV (by omega);have i:=Ak e a;have p:List.take a.length (a.map dT)=a.map dT:=d' (by simp);have y:=GG e a;have f:(a.length+1+1)*16<=140737488355328/\a.length<=9223372036854775805:=⟨by omega,by omega⟩;have u:=Oo e a b;have v:=Oq e a b;have w:=Ou a b;have g:=Ot e a b;have r:IntKind.i64.wrap ((a.length:Int)+1)=(a.length:Int)+1:=wrap64 (by omega);have s:((a.length:Int)+1).toNat=a.length+1:=by omega
  have t:((0:Int)<=(a.length:Int)+1/\(a.length:Int)<=(a.length:Int)+1):=⟨by omega,by omega⟩;have q:(a.length+1<=a.length)=False:=mV (by omega);have h:(a.length+1)*16<=140737488355328:=by omega
 all_goals
  simp only [dX,gx,bo,dc,hY] at m;refine aG (Aj S) tZ (by simp [oO,Dr.args]) fun hr=>?_
  simp [oO,Dr.args];refine aK [] ?_;simp;refine aK [] ?_;simp;refine ah [.ret (.sl 3 (c.map aX))] ?_;simp;refine⟨.kj _ _ k,?_⟩;refine aK [.ret (.af [])] ?_;simp;refine aV _ (kF C) ?_;simp [TC];refine⟨.nt _,?_⟩;refine ah [.ret (.af [])] ?_;simp;refine⟨.nt _,?_⟩;simp [n,o];apply uT [3,4,5,16,17,18,19,21,22,54,55]
  case' hr=>exact⟨[],[],by simp⟩
  case' h0 =>simp;refine ah [.ret (.af [])] ?_;simp;refine⟨.nt _,hT [3,4,5,16,17,18,19,54,55,21,22] ⟨[],[],?_⟩⟩;simp
  case' h1 =>simp;refine ah [.ret (.af [])] ?_;simp;refine⟨.nt _,hT [3,4,5,16,17,18,19,54,55,21,22] ⟨[],[],?_⟩⟩;simp
  case' h2 =>
   simp;apply uT [3,4,5,16,17,18,19,23,69,70]
   case' hr=>exact⟨[],[],by simp⟩
   case' h0 =>
    simp;refine aK [] ?_;simp;refine aV (TF Tryz.prog kJ) (aR t_) ?_;simp [kJ]
    try refine⟨h,?_⟩
    refine h' (TF Tryz.prog kM) (aR ua) rfl (by rfl) (fun j=>by rfl) (fun j=>?_);simp [kM];refine aK [] ?_;simp;refine aV (TF Tryz.prog eF) (aR ju) ?_;simp [eF];refine aK [] ?_;simp;refine bY [.ret (.sl 3 (c.map aX))] ?_;simp [i,p]
    try refine⟨h,?_⟩
    refine⟨.kj _ _ k,rfl,hT [3,4,5,16,17,18,19,23,69,70] ⟨[],[],?_⟩⟩;simp
    try exact fO e a
   case' h1 =>
    simp;refine aK [] ?_;simp;refine aV (TF Tryz.prog kJ) (aR t_) ?_;simp [kJ]
    try refine⟨h,?_⟩
    refine h' (TF Tryz.prog kM) (aR ua) rfl (by rfl) (fun j=>by rfl) (fun j=>?_);simp [kM];refine aK [] ?_;simp;refine aV (TF Tryz.prog eF) (aR ju) ?_;simp [eF];apply GD [0,1,2,3,4,15,16,17]
    case' hr=>exact⟨[],[],by simp;(repeat' apply And.intro) <;> first | exact fO _ _ | exact fO _ [] | exact jh _ _ _ | (intro x z;omega)⟩
    case' h0 =>
     simp [q,y,i,u]
     try refine⟨f,?_⟩
     refine aK [] ?_;simp;refine aV (TF Tryz.prog eF) (aR ju) ?_;simp [eF];refine aK [] ?_;simp;refine bY [.ret (.sl 3 (d.map aX))] ?_;simp [F,i,v,w,fy,r,s]
     try refine⟨by first | exact⟨g,f.1⟩ | exact⟨g,by simp,f.1⟩ | (simp at g;exact⟨g,f.1⟩) | exact f.1,?_⟩
     refine⟨.kj _ _ m,rfl,?_⟩
     try refine⟨t,?_⟩
     refine hT [0,1,2,3,4,15,16,17] ⟨[],[],?_⟩;simp;(repeat' apply And.intro) <;> first | exact fO _ _ | exact fO _ [] | exact jh _ _ _ | (intro x z;omega)
    case' h1 =>simp;refine hT [3,4,5,16,17,18,19,23,69,70] ⟨[],[],?_⟩;simp;(repeat' apply And.intro) <;> first | exact fO _ _ | exact fO _ [] | exact jh _ _ _ | (intro x z;omega)
   case' h2 =>simp;refine bY [.ret (.sl 3 (G.map aX))] ?_;simp;refine⟨E,rfl,?_⟩;refine dQ (TR Tryz.prog a24) (gE yI) ?_;simp [a24];refine dQ (TD Tryz.prog a23) (jq yH) ?_;simp [a23]
theorem agh(w:B8)(l:List B8)(x y:B8):setAt (wr (dT w::(l.map dT++[dT x]))) (l.length+1) (wr [dT y])=wr (dT w::(l.map dT++[dT y])):=by have a:=pq (w::(l++[x]));have b:=pq (w::(l++[y]));simp only [bo,dc,hY] at a b;rw [a,b,show wr [dT y]=[AV.d (dT y)] from rfl];simp [setAt,Hu]
theorem agi(w:B8)(l:List B8)(x:B8):cq (List.take (l.length+1+1) (wr (dT w::(l.map dT++[dT x]))))=some (dT w::(l.map dT++[dT x])):=by have h:=GG w (l++[x]);simpa using h
theorem wrB(w:B8)(l:List B8)(x y:B8):AV.d (dT w)::(List.map (AV.d∘dT) l++AV.d (dT x)::wr [dT y])=wr (dT w::(l.map dT++[dT x,dT y])):=by have h:=pq (w::(l++[x,y]));simp only [bo,dc,hY] at h;rw [h];rfl
theorem flB(w:B8)(l:List B8)(x y:B8):D.flat (dT w::(l.map dT++[dT x,dT y]))=dT w::(l.map dT++[dT x,dT y]):=by have h:=xu (w::(l++[x,y]));simpa using h
theorem agj(w:B8)(l:List B8)(x y:B8):∀ d∈dT w::(l.map dT++[dT x,dT y]),d.one=true:=by have h:=GF w (l++[x,y]);simpa using h
theorem lg(w:B8)(l:List B8)(x y:B8):∀ c∈wr (dT w::(l.map dT++[dT x,dT y])),c.one=true:=by have h:=fO w (l++[x,y]);simpa using h
theorem lh(x:B8):∀ c∈wr [dT x],c.one=true:=fO x []
theorem lj(x y:B8):∀ c∈wr [dT x,dT y],c.one=true:=fO x [y]
theorem agk(l:List B8)(x y:B8):List.take (l.length+1+1) (l.map dT++[dT x,dT y])=l.map dT++[dT x,dT y]:=d' (by simp)
theorem agl(w:B8)(l:List B8)(x y z:B8):setAt (wr (dT w::(l.map dT++[dT x,dT y]))) (l.length+1+1) (wr [dT z])=wr (dT w::(l.map dT++[dT x,dT z])):=by have a:=pq (w::(l++[x,y]));have b:=pq (w::(l++[x,z]));simp only [bo,dc,hY] at a b;rw [a,b,show wr [dT z]=[AV.d (dT z)] from rfl];simp [setAt,Hu]
theorem agm(w:B8)(l:List B8)(x y z:B8):setAt (wr (dT w::(l.map dT++[dT x,dT y]))) (l.length+1) (wr [dT z])=wr (dT w::(l.map dT++[dT z,dT y])):=by have a:=pq (w::(l++[x,y]));have b:=pq (w::(l++[z,y]));simp only [bo,dc,hY] at a b;rw [a,b,show wr [dT z]=[AV.d (dT z)] from rfl];simp [setAt,Hu]
def sR(h:List (Nat×HO))(a:List Nat):List (Nat×HO):=h.filter fun e=>a.contains e.1
attribute [local simp] sR
theorem Al{B:Nat}{l:List St}{s:List (Nat×Bool×AV)}{h:List (Nat×HO)}{d:List DE}(a b:List Nat)(c:Sub B ⟨s,h,d⟩ ⟨hF s a,sR h b,d⟩):iI B (⟨hF s a,sR h b,d⟩::l) ⟨s,h,d⟩:=⟨_,by simp,c⟩
theorem agn{P:Program}{a:Cx}{Q:AE->St->Prop}{s:List (Nat×Bool×AV)}{h:List (Nat×HO)}{d:List DE}{b:AC}(c:List Nat){f e:St}(kr:Sub a.B ⟨s,h,d⟩ ⟨hF s c,h,d⟩)(k0:bL P a b (fp (iI a.B [f,e]) Q) ⟨hF s c,h,d⟩)(k1:bL P a b (fp (iI a.B [e]) Q) f)(k2:bL P a b (fp (iI a.B []) Q) e):bL P a (.loop b) Q ⟨s,h,d⟩:=uT c kr k0 k1 k2
theorem ago(a:List B8)(b:a.length+1<=4):(IntKind.i64.wrap (16-((a.length:Int)+1))=16-((a.length:Int)+1))/\((16-((a.length:Int)+1)<2)=False)/\((a.length+1)*16<=140737488355328)/\((a.length+1+1)*16<=140737488355328/\a.length<=9223372036854775805)/\((a.length+1+1+1)*16<=140737488355328/\a.length<=9223372036854775804)/\(IntKind.i64.wrap ((a.length:Int)+1)=(a.length:Int)+1)/\(IntKind.i64.wrap ((a.length:Int)+1+1)=(a.length:Int)+1+1)/\(((a.length:Int)+1).toNat=a.length+1)/\(((a.length:Int)+1+1).toNat=a.length+1+1)/\(((0:Int)<=(a.length:Int)+1/\(a.length:Int)<=(a.length:Int)+1))/\(((0:Int)<=(a.length:Int)+1+1/\(a.length:Int)<=(a.length:Int)+1))/\(((0:Int)<=(a.length:Int)+1/\(a.length:Int)<=(a.length:Int)+1+1))/\((a.length+1<=a.length)=False):=⟨wrap64 (by omega),mV (by omega),by omega,⟨by omega,by omega⟩,⟨by omega,by omega⟩,wrap64 (by omega),wrap64 (by omega),by omega,by omega,⟨by omega,by omega⟩,⟨by omega,by omega⟩,⟨by omega,by omega⟩,mV (by omega)⟩
theorem agp(S:Dr)(own:List B8)(X:own.length<=4)(C E:B8)(b3:bw C=true)(b4:bw E=true)(L M N O P Q R:List Tg)(b8:L.length<=100000)(b9:M.length<=100000)(c0:N.length<=100000)(c1:O.length<=100000)(c2:P.length<=100000)(d0:Q.length<=100000)(d1:R.length<=100000)(V:PC 25 (.sl 1 ((own).map dT)::S.az) (.ret (.sl 3 (L.map aX))))(Y:PC 25 (.sl 1 ((own++[C]).map dT)::S.az) (.ret (.sl 3 (M.map aX))))(Z:PC 25 (.sl 1 ((own++[E]).map dT)::S.az) (.ret (.sl 3 (N.map aX))))(a0:PC 25 (.sl 1 ((own++[C,C]).map dT)::S.az) (.ret (.sl 3 (O.map aX))))(a1:PC 25 (.sl 1 ((own++[C,E]).map dT)::S.az) (.ret (.sl 3 (P.map aX))))(a2:PC 25 (.sl 1 ((own++[E,C]).map dT)::S.az) (.ret (.sl 3 (Q.map aX))))(b0:PC 25 (.sl 1 ((own++[E,E]).map dT)::S.az) (.ret (.sl 3 (R.map aX)))) :
  PC 10 (S.args own [C,E] 2) (.ret (.af [.sl 3 ((hk [L,M,N,O,P,Q,R]).map aX),dI 7,dI 0])):=by
 have b5:PC 29 [.sl 1 [dT C,dT E],.fn (.func 27) [] []] (.ret (dB false)):=by have:=anyS y_ [C,E];simpa [b3,b4] using this
 have b6:po S 32 [.fn (.func 33) [] [],.sl 1 ([L,M,N,O,P,Q,R].map fun l=>.sl 3 (l.map aX))] (.ret (.sl 3 ((hk [L,M,N,O,P,Q,R]).map aX))):=.Ai [L,M,N,O,P,Q,R] (by simp) (fun l hl=>by simp only [b_,n',oa] at hl;rcases hl with rfl | rfl | rfl | rfl | rfl | rfl | rfl <;> omega)
 have A:∀ x:B8,D.flat [dT x]=[dT x]:=fun _=>rfl
 have B:∀ x y:B8,D.flat [dT x,dT y]=[dT x,dT y]:=fun _ _=>rfl
 generalize d2:hk [L,M,N,O,P,Q,R]=b7 at *;rcases own with _ | ⟨F,b⟩
 case' nil =>
  have b1:IntKind.i64.wrap 16=16:=by decide
  have b2:((16:Int)<2)=False:=by simp
  have c:True:=trivial;have d:True:=trivial;have e:∀ x:B8,cq (List.take 1 (wr [dT x]))=some [dT x]:=fun _=>rfl
  have H:True:=trivial;have f:True:=trivial;have a:True:=trivial;have g:True:=trivial;have i:True:=trivial;have j:True:=trivial;have W:True:=trivial;have k:∀ x y:B8,setAt (wr [dT x]) 0 (wr [dT y])=wr [dT y]:=fun _ _=>rfl
  have m:True:=trivial;have n:∀ x y:B8,AV.d (dT x)::wr [dT y]=wr [dT x,dT y]:=fun _ _=>rfl
  have o:True:=trivial;have p:True:=trivial;have T:True:=trivial;have q:∀ x y z:B8,setAt (wr [dT x,dT y]) 0 (wr [dT z])=wr [dT z,dT y]:=fun _ _ _=>rfl
  have r:∀ x y z:B8,setAt (wr [dT x,dT y]) 1 (wr [dT z])=wr [dT x,dT z]:=fun _ _ _=>rfl
  have s:True:=trivial;have t:True:=trivial;have u:True:=trivial;have v:True:=trivial;have I:True:=trivial;have J:True:=trivial;have K:True:=trivial;have w:True:=trivial
 case' cons =>simp only [bN] at X;obtain⟨b1,b2,H,f,a,s,t,u,v,I,J,K,w⟩:=ago b X;have c:=Ak F b;have d:List.take b.length (b.map dT)=b.map dT:=d' (by simp);have e:=GG F b;have g:=Oo F b;have i:=Oq F b;have j:=Ou b;have W:=Ot F b;have k:=agh F b;have m:=agi F b;have n:=wrB F b;have o:=flB F b;have p:=agk b;have T:=agj F b;have q:=agm F b;have r:=agl F b
 all_goals
  simp only [dX,gx,bo,dc,hY] at V Y Z a0 a1 a2 b0;refine aG (Aj S) tZ (by simp [oO,Dr.args]) fun hr=>?_
  simp [oO,Dr.args];refine aK [] ?_;simp;refine aK [] ?_;simp;refine ah [.ret (.sl 3 (L.map aX))] ?_;simp;refine⟨.kj _ _ V,?_⟩;refine aK [.ret (.af [])] ?_;simp;refine aV _ (kF b5) ?_;simp [TC];refine⟨.nt _,?_⟩;refine ah [.ret (.af [])] ?_;simp;refine⟨.nt _,?_⟩;simp [b1,b2];apply Of [3,4,5,16,17,18,19,21,22,54,55]
  case' hr=>exact⟨[],[],by simp⟩
  case' h0 =>simp;refine ah [.ret (.af [])] ?_;simp;refine⟨.nt _,hT [3,4,5,16,17,18,19,54,55,21,22] ⟨[],[],?_⟩⟩;simp
  case' h1 =>simp;refine ah [.ret (.af [])] ?_;simp;refine⟨.nt _,hT [3,4,5,16,17,18,19,54,55,21,22] ⟨[],[],?_⟩⟩;simp
  case' h2 =>simp;refine ah [.ret (.af [])] ?_;simp;refine⟨.nt _,hT [3,4,5,16,17,18,19,54,55,21,22] ⟨[],[],?_⟩⟩;simp
  case' h3 =>
   simp;apply Of [3,4,5,16,17,18,19,23,69,70]
   case' hr=>exact⟨[],[],by simp⟩
   case' h0 =>
    simp;refine aK [] ?_;simp;refine aV (TF Tryz.prog kJ) (aR t_) ?_;simp [kJ]
    try refine⟨H,?_⟩
    refine h' (TF Tryz.prog kM) (aR ua) rfl (by rfl) (fun U=>by rfl) (fun U=>?_);simp [kM];refine aK [] ?_;simp;refine aV (TF Tryz.prog eF) (aR ju) ?_;simp [eF];refine aK [] ?_;simp;refine bY [.ret (.sl 3 (L.map aX))] ?_;simp [A,B,c,d,g,i,j,k,m,e,n,o,p,q,r,s,t,u,v,w,fy]
    try refine⟨by first | with_reducible exact H | with_reducible exact f.1 | with_reducible exact a.1,?_⟩
    refine⟨.kj _ _ V,rfl,?_⟩
    try refine⟨by first | with_reducible exact I | with_reducible exact J | with_reducible exact K,?_⟩
    first | (refine Al [3,4,5,16,17,18,19,23,69,70] [0,1,2,3,4,9,13] ⟨[],[],?_⟩;simp [sR];done) | (refine Al [3,4,5,16,17,18,19,23,69,70] [0,1,2,3,4,10,14] ⟨[],[],?_⟩;simp [sR];done)
   case' h1 =>
    simp;refine aK [] ?_;simp;refine aV (TF Tryz.prog kJ) (aR t_) ?_;simp [kJ]
    try refine⟨H,?_⟩
    refine h' (TF Tryz.prog kM) (aR ua) rfl (by rfl) (fun U=>by rfl) (fun U=>?_);simp [kM];refine aK [] ?_;simp;refine aV (TF Tryz.prog eF) (aR ju) ?_;simp [eF];apply uT [0,1,2,3,4,15,16,17]
    case' hr=>exact⟨[],[],by simp;(repeat' apply And.intro) <;> first | with_reducible exact fO _ _ | with_reducible exact lh _ | with_reducible exact lj _ _ | with_reducible exact jh _ _ _ | with_reducible exact lg _ _ _ _ | (intro x G;omega)⟩
    case' h0 =>
     simp [A,B,c,d,g,i,j,k,m,e,n,o,p,q,r,s,t,u,v,w,fy]
     try refine⟨by first | with_reducible exact f | with_reducible exact a,?_⟩
     refine aK [] ?_;simp;refine aV (TF Tryz.prog eF) (aR ju) ?_;simp [eF];refine aK [] ?_;simp;refine bY [.ret (.sl 3 (M.map aX))] ?_;simp [A,B,c,d,g,i,j,k,m,e,n,o,p,q,r,s,t,u,v,w,fy]
     try refine⟨by first | (have h:=W C;simp at h;with_reducible exact⟨h,f.1⟩) | with_reducible exact H | with_reducible exact f.1 | with_reducible exact a.1,?_⟩
     refine⟨.kj _ _ Y,rfl,?_⟩
     try refine⟨by first | with_reducible exact I | with_reducible exact J | with_reducible exact K,?_⟩
     refine hT [0,1,2,3,4,15,16,17] ⟨[],[],?_⟩;simp;(repeat' apply And.intro) <;> first | with_reducible exact fO _ _ | with_reducible exact lh _ | with_reducible exact lj _ _ | with_reducible exact jh _ _ _ | with_reducible exact lg _ _ _ _ | (intro x G;omega)
    case' h1 =>
     simp [A,B,c,d,g,i,j,k,m,e,n,o,p,q,r,s,t,u,v,w,fy]
     try refine⟨by first | with_reducible exact f | with_reducible exact a,?_⟩
     refine aK [] ?_;simp;refine aV (TF Tryz.prog eF) (aR ju) ?_;simp [eF];refine aK [] ?_;simp;refine bY [.ret (.sl 3 (N.map aX))] ?_;simp [A,B,c,d,g,i,j,k,m,e,n,o,p,q,r,s,t,u,v,w,fy]
     try refine⟨by first | (have h:=W E;simp at h;with_reducible exact⟨h,f.1⟩) | with_reducible exact H | with_reducible exact f.1 | with_reducible exact a.1,?_⟩
     refine⟨.kj _ _ Z,rfl,?_⟩
     try refine⟨by first | with_reducible exact I | with_reducible exact J | with_reducible exact K,?_⟩
     refine hT [0,1,2,3,4,15,16,17] ⟨[],[],?_⟩;simp;(repeat' apply And.intro) <;> first | with_reducible exact fO _ _ | with_reducible exact lh _ | with_reducible exact lj _ _ | with_reducible exact jh _ _ _ | with_reducible exact lg _ _ _ _ | (intro x G;omega)
    case' h2 =>
     simp
     first | (refine Al [3,4,5,16,17,18,19,23,69,70] [0,1,2,3,4,9,18,28] ⟨[],[],?_⟩;simp [sR];done) | (refine Al [3,4,5,16,17,18,19,23,69,70] [0,1,2,3,4,10,20,30] ⟨[],[],?_⟩;simp [sR];done)
   case' h2 =>
    simp;refine aK [] ?_;simp;refine aV (TF Tryz.prog kJ) (aR t_) ?_;simp [kJ]
    try refine⟨H,?_⟩
    refine h' (TF Tryz.prog kM) (aR ua) rfl (by rfl) (fun U=>by rfl) (fun U=>?_);simp [kM];refine aK [] ?_;simp;refine aV (TF Tryz.prog eF) (aR ju) ?_;simp [eF];apply agn [0,1,2,3,4,15,16,17]
    case' kr=>exact⟨[],[],by simp;(repeat' apply And.intro) <;> first | with_reducible exact fO _ _ | with_reducible exact lh _ | with_reducible exact lj _ _ | with_reducible exact jh _ _ _ | with_reducible exact lg _ _ _ _ | (intro x G;omega)⟩
    case' k0 =>
     simp [A,B,c,d,g,i,j,k,m,e,n,o,p,q,r,s,t,u,v,w,fy]
     try refine⟨by first | with_reducible exact f | with_reducible exact a,?_⟩
     refine aK [] ?_;simp;refine aV (TF Tryz.prog eF) (aR ju) ?_;simp [eF];apply uT [0,1,2,3,4,15,16,17]
     case' hr=>exact⟨[],[],by simp;(repeat' apply And.intro) <;> first | with_reducible exact fO _ _ | with_reducible exact lh _ | with_reducible exact lj _ _ | with_reducible exact jh _ _ _ | with_reducible exact lg _ _ _ _ | (intro x G;omega)⟩
     case' h0 =>
      simp [A,B,c,d,g,i,j,k,m,e,n,o,p,q,r,s,t,u,v,w,fy]
      try refine⟨by first | with_reducible exact f | with_reducible exact a,?_⟩
      refine aK [] ?_;simp;refine aV (TF Tryz.prog eF) (aR ju) ?_;simp [eF];refine aK [] ?_;simp;refine bY [.ret (.sl 3 (O.map aX))] ?_;simp [A,B,c,d,g,i,j,k,m,e,n,o,p,q,r,s,t,u,v,w,fy]
      try refine⟨by first | (have h:=T C C;simp at h;with_reducible exact⟨h,a.1⟩) | with_reducible exact H | with_reducible exact f.1 | with_reducible exact a.1,?_⟩
      refine⟨.kj _ _ a0,rfl,?_⟩
      try refine⟨by first | with_reducible exact I | with_reducible exact J | with_reducible exact K,?_⟩
      refine hT [0,1,2,3,4,15,16,17] ⟨[],[],?_⟩;simp;(repeat' apply And.intro) <;> first | with_reducible exact fO _ _ | with_reducible exact lh _ | with_reducible exact lj _ _ | with_reducible exact jh _ _ _ | with_reducible exact lg _ _ _ _ | (intro x G;omega)
     case' h1 =>
      simp [A,B,c,d,g,i,j,k,m,e,n,o,p,q,r,s,t,u,v,w,fy]
      try refine⟨by first | with_reducible exact f | with_reducible exact a,?_⟩
      refine aK [] ?_;simp;refine aV (TF Tryz.prog eF) (aR ju) ?_;simp [eF];refine aK [] ?_;simp;refine bY [.ret (.sl 3 (P.map aX))] ?_;simp [A,B,c,d,g,i,j,k,m,e,n,o,p,q,r,s,t,u,v,w,fy]
      try refine⟨by first | (have h:=T C E;simp at h;with_reducible exact⟨h,a.1⟩) | with_reducible exact H | with_reducible exact f.1 | with_reducible exact a.1,?_⟩
      refine⟨.kj _ _ a1,rfl,?_⟩
      try refine⟨by first | with_reducible exact I | with_reducible exact J | with_reducible exact K,?_⟩
      refine hT [0,1,2,3,4,15,16,17] ⟨[],[],?_⟩;simp;(repeat' apply And.intro) <;> first | with_reducible exact fO _ _ | with_reducible exact lh _ | with_reducible exact lj _ _ | with_reducible exact jh _ _ _ | with_reducible exact lg _ _ _ _ | (intro x G;omega)
     case' h2 =>
      simp [A,B,c,d,g,i,j,k,m,e,n,o,p,q,r,s,t,u,v,w,fy]
      try refine⟨by first | with_reducible exact I | with_reducible exact J | with_reducible exact K,?_⟩
      refine hT [0,1,2,3,4,15,16,17] ⟨[],[],?_⟩;simp;(repeat' apply And.intro) <;> first | with_reducible exact fO _ _ | with_reducible exact lh _ | with_reducible exact lj _ _ | with_reducible exact jh _ _ _ | with_reducible exact lg _ _ _ _ | (intro x G;omega)
    case' k1 =>
     simp [A,B,c,d,g,i,j,k,m,e,n,o,p,q,r,s,t,u,v,w,fy]
     try refine⟨by first | with_reducible exact f | with_reducible exact a,?_⟩
     refine aK [] ?_;simp;refine aV (TF Tryz.prog eF) (aR ju) ?_;simp [eF];apply uT [0,1,2,3,4,15,16,17]
     case' hr=>exact⟨[],[],by simp;(repeat' apply And.intro) <;> first | with_reducible exact fO _ _ | with_reducible exact lh _ | with_reducible exact lj _ _ | with_reducible exact jh _ _ _ | with_reducible exact lg _ _ _ _ | (intro x G;omega)⟩
     case' h0 =>
      simp [A,B,c,d,g,i,j,k,m,e,n,o,p,q,r,s,t,u,v,w,fy]
      try refine⟨by first | with_reducible exact f | with_reducible exact a,?_⟩
      refine aK [] ?_;simp;refine aV (TF Tryz.prog eF) (aR ju) ?_;simp [eF];refine aK [] ?_;simp;refine bY [.ret (.sl 3 (Q.map aX))] ?_;simp [A,B,c,d,g,i,j,k,m,e,n,o,p,q,r,s,t,u,v,w,fy]
      try refine⟨by first | (have h:=T E C;simp at h;with_reducible exact⟨h,a.1⟩) | with_reducible exact H | with_reducible exact f.1 | with_reducible exact a.1,?_⟩
      refine⟨.kj _ _ a2,rfl,?_⟩
      try refine⟨by first | with_reducible exact I | with_reducible exact J | with_reducible exact K,?_⟩
      refine hT [0,1,2,3,4,15,16,17] ⟨[],[],?_⟩;simp;(repeat' apply And.intro) <;> first | with_reducible exact fO _ _ | with_reducible exact lh _ | with_reducible exact lj _ _ | with_reducible exact jh _ _ _ | with_reducible exact lg _ _ _ _ | (intro x G;omega)
     case' h1 =>
      simp [A,B,c,d,g,i,j,k,m,e,n,o,p,q,r,s,t,u,v,w,fy]
      try refine⟨by first | with_reducible exact f | with_reducible exact a,?_⟩
      refine aK [] ?_;simp;refine aV (TF Tryz.prog eF) (aR ju) ?_;simp [eF];refine aK [] ?_;simp;refine bY [.ret (.sl 3 (R.map aX))] ?_;simp [A,B,c,d,g,i,j,k,m,e,n,o,p,q,r,s,t,u,v,w,fy]
      try refine⟨by first | (have h:=T E E;simp at h;with_reducible exact⟨h,a.1⟩) | with_reducible exact H | with_reducible exact f.1 | with_reducible exact a.1,?_⟩
      refine⟨.kj _ _ b0,rfl,?_⟩
      try refine⟨by first | with_reducible exact I | with_reducible exact J | with_reducible exact K,?_⟩
      refine hT [0,1,2,3,4,15,16,17] ⟨[],[],?_⟩;simp;(repeat' apply And.intro) <;> first | with_reducible exact fO _ _ | with_reducible exact lh _ | with_reducible exact lj _ _ | with_reducible exact jh _ _ _ | with_reducible exact lg _ _ _ _ | (intro x G;omega)
     case' h2 =>
      simp [A,B,c,d,g,i,j,k,m,e,n,o,p,q,r,s,t,u,v,w,fy]
      try refine⟨by first | with_reducible exact I | with_reducible exact J | with_reducible exact K,?_⟩
      refine hT [0,1,2,3,4,15,16,17] ⟨[],[],?_⟩;simp;(repeat' apply And.intro) <;> first | with_reducible exact fO _ _ | with_reducible exact lh _ | with_reducible exact lj _ _ | with_reducible exact jh _ _ _ | with_reducible exact lg _ _ _ _ | (intro x G;omega)
    case' k2 =>simp;refine hT [3,4,5,16,17,18,19,23,69,70] ⟨[],[],?_⟩;simp;(repeat' apply And.intro) <;> first | with_reducible exact fO _ _ | with_reducible exact lh _ | with_reducible exact lj _ _ | with_reducible exact jh _ _ _ | with_reducible exact lg _ _ _ _ | (intro x G;omega)
   case' h3 =>simp;refine bY [.ret (.sl 3 (b7.map aX))] ?_;simp;refine⟨b6,rfl,?_⟩;refine dQ (TR Tryz.prog a24) (gE yI) ?_;simp [a24];refine dQ (TD Tryz.prog a23) (jq yH) ?_;simp [a23]
end
section
def gU(d k:Int):Bool:=decide (1<=d)&&(decide (d<=1073741824)&&(decide (0<=k)&&decide (k<=(1099511627776:Int).tdiv d-1)))
theorem Am{d k:Int}(h:gU d k=true):1<=d/\d<=1073741824/\0<=k/\0<=k*d/\(k+1)*d<=1099511627776/\k*d<=(k+1)*d:=by
 simp only [gU,ax,bD] at h;obtain⟨b,c,a,e⟩:=h;rw [HC (by decide)] at e;have f:(k+1)*d<=1099511627776:=by have:=PZ (show k+1<=1099511627776 / d by omega) (show 0<=d by omega);have i:=Int.ediv_mul_le 1099511627776 (show d≠0 by omega);omega
 have g:0<=k*d:=Int.mul_nonneg a (by omega);have:(k+1)*d=k*d+d:=by rw [Int.add_mul,Int.one_mul]
 exact⟨b,c,a,g,f,by omega⟩
theorem Ov{d k:Int}(a:1<=d)(b:d<=1073741824)(c:0<=k)(e:(k+1)*d<=1099511627776):gU d k=true:=by have:k+1<=1099511627776 / d:=(Int.le_ediv_iff_mul_le (by omega)).2 e;simp only [gU,ax,bD];rw [HC (by decide)];exact⟨a,b,c,by omega⟩
def cv(T:Int)(l:List Wd):Nat:=l.findIdx fun x=>decide (T<=x.f)
theorem GH(T:Int)(l:List Wd):cv T l<=l.length:=List.findIdx_le_length
theorem uU:∀ (m:Int) (l:List Wd),gO m l=true->∀ i j,(b:i<=j)->(a:j<l.length)->m<=(l[i]'(by omega)).f/\(l[i]'(by omega)).f<=l[j].f
 | m,x::r,h,i,j,b,a=>by
  simp only [gO,ax,bD] at h
  match i,j with
  | 0,0=>exact⟨h.2.1,iu _⟩
  | 0,j+1 =>have:=uU x.f r h.2.2 j j (bj _) (by simpa using a);exact⟨h.2.1,by simpa using this.1⟩
  | i+1,j+1 =>have:=uU x.f r h.2.2 i j (by omega) (by simpa using a);simp only [List.getElem_cons_succ];omega
theorem GI{T:Int}{l:List Wd}{i:Nat}(h:i<cv T l)(a:i<l.length):l[i].f<T:=by have:=List.not_of_lt_findIdx h;simpa using this
theorem Ow{T:Int}{m:Int}{l:List Wd}(a:gO m l=true){i:Nat}(h:cv T l<=i)(b:i<l.length):T<=l[i].f:=by
 have c:cv T l<l.length:=by omega
 have d:T<=(l[cv T l]).f:=by have:=List.findIdx_getElem (p:=fun x:Wd=>decide (T<=x.f)) (xs:=l) (w:=c);exact td this
 have:=(uU m l a (cv T l) i h b).2;omega
theorem Ox{T:Int}{m:Int}{l:List Wd}(d:gO m l=true){i:Nat}(f:i<=l.length)(e:∀ j,(h:j<i)->(c:j<l.length)->l[j].f<T)(c:∀ j,i<=j->(c:j<l.length)->T<=l[j].f):cv T l=i:=by
 rcases Nat.lt_trichotomy (cv T l) i with h | h | h
 ·have a:=Ow d (bj _) (show cv T l<l.length by omega);have b:=e (cv T l) h (by omega);omega
 ·exact h
 ·have g:=GH T l;have a:=GI h (by omega);have b:=c i (bj _) (by omega);omega
theorem GJ{T U:Int}(h:T<=U){l:List Wd}:cv T l<=cv U l:=by
 rcases bB (cv U l) (cv T l) with c | d
 ·have e:=GH T l;have a:=GI c (by omega);have b:U<=(l[cv U l]'(by omega)).f:=by have:=List.findIdx_getElem (p:=fun x:Wd=>decide (U<=x.f)) (xs:=l) (w:=show cv U l<l.length by omega);exact td this
  omega
 ·exact d
def hn(w:List Wd)(d k:Int):Int:=if bP ⟨w,0⟩=0 then (if gU d k=true then 0 else 230) else bP ⟨w,0⟩
def lS(w:List Wd)(d k:Int):Int:=if hn w d k=0 then (cv (k*d) w:Nat) else 0
def hU(w:List Wd)(d k:Int):List Wd:=if hn w d k=0 then (w.take (cv ((k+1)*d) w)).drop (cv (k*d) w) else []
def pE(s:Sm)(p t d k:Int):Int:=if eS s p t=0 then (if gU d k=true then 0 else 230) else eS s p t
def pB(s:Sm)(p t d k:Int):Bool:=decide (pE s p t d k=0)&&decide ((cv ((k+1)*d) s.w:Int)<eu s p t)
def pI(s:Sm)(p t d k:Int):Int:=if pB s p t d k=true then (cv ((k+1)*d) s.w:Nat) else 0
theorem GK{s:Sm}{p t d k:Int}(h:pE s p t d k=0):eS s p t=0/\gU d k=true:=by
 unfold pE at h;split at h
 ·rename_i a;split at h
  ·rename_i b;exact⟨a,b⟩
  ·simp at h
 ·exact absurd h ‹_›
def fE(p t d k:Int):List Sm->Int
 | []=>0
 | s::r=>if pE s p t d k=0 then fE p t d k r else pE s p t d k
def GL(p t d k:Int)(x:Sm×Bool):Int:=if x.2=true/\pB x.1 p t d k=true then pI x.1 p t d k else -1
def lk(p t d k:Int)(l:List Sm)(a:List Bool):List Int:=(l.zip a).map (GL p t d k)
def fh(a:List Bool):Nat:=a.countP id
def gg(p t d k:Int)(l:List Sm)(a:List Bool):Nat:=(l.zip a).countP fun x=>x.2&&pB x.1 p t d k
def fP(l:List Sm)(a:List Bool)(p t d k due:Int):Int :=
 if 16<l.length then 2 else if a.length≠l.length then 1 else if l=[]/\pE ⟨[],0⟩ p t d k≠0 then pE ⟨[],0⟩ p t d k else if fE p t d k l≠0 then fE p t d k l else if 0<=due/\due<1099511627776 then 0 else 1
def gH(l:List Sm)(a:List Bool)(p t d k due:Int):Int :=
 if fP l a p t d k due=0 then (if 0<fh a/\fh a=gg p t d k l a then 2 else if due<=t then 1 else 0) else 0
def ji(l:List Sm)(a:List Bool)(p t d k due:Int):List Int:=if fP l a p t d k due=0 then lk p t d k l a else []
end
section
attribute [local simp] cK cI cJ cG cH cd bS cA nm np nq nr ns nu oS oT oU nv nw ny nz nA
attribute [local simp] sf sg sh
theorem Oy(s:Sm)(p t:Int):PC 43 [be s,dP p,dI t] (.ret (dI (eS s p t))):=by
 refine aG aH YB (by simp [CW]) fun g=>?_
 have b:=Check s;have a:eS s p t=if bP s=0 then (if 0<=p/\p<=1073741824 then (if 0<=t/\t<1099511627776 then 0 else 1) else 190) else bP s:=rfl
 generalize bP s=e at b a;simp [CW];refine ah [.ret (dI e)] ?_;simp;refine⟨b,fun q=>?_,fun q=>?_⟩
 ·exact aP (by rw [a,ab q])
 ·refine ah [] ?_;simp;rw [aj q] at a;refine⟨fun q1=>aP (by rw [a,ab (by omega)]),fun q1=>⟨fun c=>aP (by rw [a,ab (by omega)]),fun c=>?_⟩⟩;rw [aj ⟨q1,c⟩] at a;refine ah [] ?_;simp;exact⟨fun d=>aP (by rw [a,ab (by omega)]),fun d=>⟨fun f=>aP (by rw [a,ab (by omega)]),fun f=>aP (by rw [a,aj ⟨d,f⟩])⟩⟩
theorem GM{x:Wd}(h:okW x=true):kN x:=by simp only [okW,ax,bD] at h;unfold kN;omega
theorem agq{s:Sm}{o:Op}(h:fv s o=0):∀ x∈o.w,okW x=true:=by
 obtain⟨e,b,d,f⟩:=EK h;have c:=(hI d).2.2.2;unfold ft at b;unfold next at c
 split at c
 ·exact fun x a=>uf _ _ c x (by simp only;exact jk _ a)
 ·rename_i k1;split at c
  ·exact fun x a=>uf _ _ c x (by simp only;exact jk _ (hX _ a))
  ·rename_i k2;rw [ab k1,ab k2] at b;split at b
   ·have:=(KR b).2.2.2;intro x a;rw [this] at a;cases a
   ·cases b
theorem backward(l:List Wd):PC 162 [cB l] (.ret (.fn (.func 212) [] [.ip (cB l)])):=by
 refine oM kC aak (by simp [a162]) 4 fun a=>?_
 simp [a162]
theorem back(l:List Wd):PC 98 [cB l] (.ret (.fn (.func 212) [] [.ip (cB l)])):=by
 refine aG aH Zm (by simp [Dp]) fun a=>?_
 simp [Dp];refine ah [.ret (.fn (.func 212) [] [.ip (cB l)])] ?_;simp;exact backward l
theorem agr(s:Sm)(o:Op)(p t:Int)(a:0<=o.a/\o.a<=s.w.length)(b:∀ x∈s.w,kN x)(c:∀ x∈o.w,kN x)(d:ug p):PC 102 [be s,ek o,ia p t] (.ret (dB (!(s.w.drop o.a.toNat).any (eG p t)&&!o.w.any (eG p t)))):=abG s o p t a b c d
theorem ags{s:Sm}{o:Op}(h:ft s o=true):o.k=1\/o.k=2\/o.k=3:=by
 unfold ft at h;split at h
 ·exact .inl ‹_›
 ·split at h
  ·exact .inr (.inl ‹_›)
  ·split at h
   ·exact .inr (.inr ‹_›)
   ·cases h
theorem allowed(s:Sm)(p t:Int)(o:Op):PC 16 [be s,dP p,dI t,ek o] (.ret (.af [dB (hb s p t o),dI (eS s p t)])):=by
 refine aG aH Yi (by simp [CM]) fun y=>?_
 have f:=Oy s p t;simp [CM];by_cases q:eS s p t≠0
 ·have h:hb s p t o=false:=by simp [hb,q]
  rw [h];generalize eS s p t=e at q f;refine ah [.ret (dI e)] ?_;simp [q];exact f
 have q:eS s p t=0:=by omega
 obtain⟨h,l,z⟩:=sd q;rw [q] at f |-;refine ah [.ret (dI 0)] ?_;simp;refine⟨f,?_⟩;have c:=Do s o;by_cases g:fv s o≠0
 ·have m:hb s p t o=false:=by simp [hb,g]
  rw [m];generalize fv s o=e at g c;generalize dE s o=x at c;refine ah [.ret (.af [be x,dI e])] ?_;simp [g];exact c
 have g:fv s o=0:=by omega
 have n:=agq g;obtain⟨_,j,_,_⟩:=EK g;obtain⟨_,A,B,r⟩:=hI h;have u:∀ x∈s.w,kN x:=fun x i=>GM (uf 0 s.w r x i)
 have v:∀ x∈o.w,kN x:=fun x i=>GM (n x i)
 rw [g] at c;generalize dE s o=x at c;refine ah [.ret (.af [be x,dI 0])] ?_;simp;refine⟨c,?_⟩;rcases ags j with k | k | k
 ·have d:hb s p t o=true:=by simp [hb,q,g,k]
  have a:=free s o p t;simp [ek,k] at a;refine bY [.ret qt,.ret (ia p t),.ret (dB true)] ?_;simp [k,qt];exact⟨rules,yU p t,a,rfl,aP (by rw [d])⟩
 ·have d:hb s p t o=(!(s.w.drop o.a.toNat).any (eG p t)&&!o.w.any (eG p t)):=by simp [hb,q,g,k]
  have w:lD s o=true:=by simpa [ft,k] using j
  obtain⟨C,D,_⟩:=KQ w;have a:=agr s o p t (by omega) u v l;rw [<- d] at a;generalize hb s p t o=b at a;simp [ek,k] at a;refine bY [.ret qt,.ret (ia p t),.ret (dB b)] ?_;simp [k,qt];exact⟨rules,yU p t,a,rfl⟩
 ·have d:hb s p t o=true:=by simp [hb,q,g,k]
  have a:=free s o p t;simp [ek,k] at a;refine bY [.ret qt,.ret (ia p t),.ret (dB true)] ?_;simp [k,qt];exact⟨rules,yU p t,a,rfl,aP (by rw [d])⟩
end
section
attribute [local simp] cK cI cJ cG cH cd bS cA nm np nq nr ns nu oS oT oU nv nw ny nz nA
attribute [local simp] sf sg sh yQ yR yS yT
theorem agt(s:Sm)(p t:Int):PC 39 [be s,dP p,dI t] (.ret (.af [dI (eu s p t),dI (eS s p t)])):=by
 refine aG aH Yx (by simp [CU]) fun C=>?_
 have b:=Oy s p t;simp [CU];by_cases q:eS s p t≠0
 ·have f:eu s p t=0:=by simp [eu,q]
  rw [f];generalize eS s p t=e at q b;refine ah [.ret (dI e)] ?_;simp [q];exact⟨b,rfl⟩
 have q:eS s p t=0:=by omega
 obtain⟨f,o,D⟩:=sd q;obtain⟨r,E,F,G⟩:=se q;obtain⟨_,H,u,v⟩:=hI f;have w:∀ x∈s.w,kN x:=fun x g=>GM (uf 0 s.w v x g)
 rw [q] at b |-;refine ah [.ret (dI 0)] ?_;simp;refine⟨b,?_⟩;refine ah [.ret (ia p t)] ?_;simp;refine⟨yU p t,?_⟩;refine ah [.ret (.fn (.func 212) [] [.ip (cB s.w)])] ?_;simp;refine⟨back s.w,?_⟩;refine h' (TF Tryz.prog a212) (aR aaF) rfl (by rfl) (fun l=>by rfl) (fun l=>?_);simp [a212,nB];have I:s.w.length<=4096:=by assumption
 have y:IntKind.i64.wrap ((s.w.length:Int)-1)=s.w.length-1:=wrap64 (by omega);refine bm [0,1] Nat (fun k=>[(3,true,.d (dI ((k:Int)-1)))]) (fun k=>[]) (fun k=>k<=s.w.length/\s.x<=k/\eu s p t=max s.x (lo p t s.w k:Nat)) (fun k=>k) s.w.length (by simp [r,u]) ⟨[],[],?_⟩ (fun k z=>?_)
 ·simp [y];exact fun x g=>by omega
 obtain⟨k1,k2,k3⟩:=z;simp;refine⟨fun J=>aK [] ?_,fun K=>?_⟩
 ·obtain⟨j,rfl⟩:∃ j,k=j+1:=⟨k-1,by omega⟩;have L:((j+1:Nat):Int)-1=(j:Int):=by omega
  have h:j<s.w.length:=by omega
  simp [h];have A:s.w.getD j default=s.w[j]:=by simp [List.getD,aI h]
  have a:lo p t s.w (j+1)=if eG p t s.w[j]=true then j+1 else lo p t s.w j:=by rw [lo,A]
  have M:=lo_le p t s.w j;have n:=wS j (by omega);have B:IntKind.i64.wrap ((j:Int)-1)=(j:Int)-1:=wrap64 (by omega);have c:=KW p t s.w[j] (w _ (cN h)) o;by_cases i:(j:Int)<s.x
  ·have m:eu s p t=(j:Int)+1:=by rw [k3,a];split <;> omega
   refine ah [] ?_;simp [i,n];exact aP (by rw [m])
  ·cases d:eG p t s.w[j]
   ·rw [d] at c;rw [d] at a;simp at a;refine ah [.ret (dB false)] ?_;simp [i];refine⟨c,by simp,j,⟨by omega,by omega,by rw [k3,a]⟩,by omega,[],[],?_⟩;simp [B];exact fun x g=>by omega
   ·rw [d] at c;rw [d] at a;simp at a;have m:eu s p t=(j:Int)+1:=by rw [k3,a];omega
    refine ah [.ret (dB true)] ?_;simp [i,n];exact⟨c,by simp,aP (by rw [m])⟩
 ·have:k=0:=by omega
  subst this;exact aP (by rw [k3];simp [lo];omega)
end
section
attribute [local simp] cK cI cJ cG cH cd bS cA nm np nq nr ns nu oS oT oU nv nw ny nz nA
attribute [local simp] wD sf sg sh yQ yR yS yT
theorem Oz(d k:Int):PC 40 [dI d,dI k] (.ret (dB (gU d k))):=by
 refine aG aH Yy (by simp [a40]) fun c=>?_
 simp [a40];refine ah [] ?_;simp [gU];refine⟨fun q1=>⟨fun a=>⟨fun b=>⟨by omega,?_⟩,fun b=>aP (by simp [show ¬ 0<=k by omega])⟩,fun a=>aP (by simp [show ¬ d<=1073741824 by omega])⟩,fun q1=>aP (by simp [show ¬ 1<=d by omega])⟩;have e:0<=Int.tdiv 1099511627776 d/\Int.tdiv 1099511627776 d<=1099511627776:=by rw [HC (by decide)];exact⟨Pu (by decide) (by omega),Pv _ (by decide)⟩
 rw [wrap64 (n:=Int.tdiv 1099511627776 d) (by omega),wrap64 (by omega)];exact aP (by simp [q1,a,b])
def pr(T:Int):D:=.fn (.func 100) [] [.ip (dI T)]
theorem agu(T:Int):(pr T).cells=[pr T]:=rfl
theorem agv(T:Int):(pr T).isAgg=false:=rfl
theorem agw(T:Int):(AV.d (pr T)).cg=true:=rfl
theorem agx(T:Int):(pr T).one=true:=rfl
attribute [local simp] agu agv agw agx
theorem agy(T:Int)(x:Wd):PC 100 [dW x,.ip (dI T)] (.ret (dB (decide (T<=x.f)))):=by
 refine aG aH Zo (by simp [Ds]) fun a=>?_
 simp [Ds]
def GN(T:Int)(l:List Wd):D:=.fn (.func 164) [] [.ip (pr T),.ip (cB l)]
theorem agz(T:Int)(l:List Wd)(i:Nat)(c:i<l.length):PC 164 [dI i,.ip (pr T),.ip (cB l)] (.ret (dB (decide (T<=l[i].f)))):=by
 refine aG aH aam (by simp [a164]) fun d=>?_
 have a:=agy T l[i];generalize decide (T<=l[i].f)=b at a;simp [a164,nB];refine bY [.ret (dB b)] ?_;simp [c,pr];exact⟨a,rfl⟩
theorem search(T:Int)(l:List Wd)(d:gO 0 l=true)(z:l.length<=4096):PC 163 [dI l.length,GN T l] (.ret (dI (cv T l))):=by
 refine aG aH aal (by simp [D']) fun A=>?_
 simp [D'];refine bm [0,1] (Nat×Nat) (fun y=>[(5,true,.d (dI y.1)),(6,true,.d (dI y.2))]) (fun y=>[]) (fun y=>y.1<=y.2/\y.2<=l.length/\(∀ j,(h:j<y.1)->(b:j<l.length)->l[j].f<T)/\(∀ j,y.2<=j->(b:j<l.length)->T<=l[j].f)) (fun y=>y.2-y.1) (0,l.length) (by simp;omega) ⟨[],[],?_⟩ (fun y q=>?_)
 ·simp
 obtain⟨i,j⟩:=y;obtain⟨r,b,f,g⟩:=q;simp only at r b f g;simp;refine⟨fun s=>?_,fun B=>?_⟩
 ·have s:i<j:=by omega
  have t:IntKind.i64.wrap ((i:Int)+j)=(i:Int)+j:=wrap64 (by omega);have u:IntKind.u64.wrap ((i:Int)+j)=(i:Int)+j:=by simp [IntKind.wrap,IntKind.bits,IntKind.signed];omega
  have v:pQ false .u64 ((i:Int)+j) 1=.int .u64 (((i+j) / 2:Nat):Int):=by
   have e:min (1:Int).toNat IntKind.u64.bits=1:=by decide
   simp only [pQ,e];rw [ahP _ (by decide)];simp
  obtain⟨m,w⟩:∃ m,(i+j) / 2=m:=⟨_,rfl⟩;have C:i<=m/\m<j:=by omega
  have k:m<l.length:=by omega
  have x:IntKind.i64.wrap ((m:Nat):Int)=m:=wrap64 (by omega);rw [t,u,v,w];have c:=agz T l m k;simp [x];by_cases n:T<=l[m].f
  ·rw [tf n] at c;refine ah [.ret (dB true)] ?_;simp [GN];refine⟨c,i,m,⟨by omega,by omega,f,fun a o p=>?_⟩,by omega,[],[],?_⟩
   ·have:=(uU 0 l d m a o p).2;omega
   ·simp
  ·rw [xM n] at c;refine ah [.ret (dB false)] ?_;simp [GN];refine⟨c,m+1,j,⟨by omega,by omega,fun a o p=>?_,g⟩,by omega,[],[],?_⟩
   ·have:=(uU 0 l d a m (by omega) k).2;omega
   ·rw [wrap64 (by omega)];simp
 ·have:i=j:=by omega
  subst this;exact aP (by rw [Ox d b f g])
theorem agA(T:Int)(l:List Wd)(b:gO 0 l=true)(c:l.length<=4096):PC 99 [cB l,pr T] (.ret (dI (cv T l))):=by
 refine aG aH Zn (by simp [Dq]) fun d=>?_
 have a:=search T l b c;generalize cv T l=n at a;simp [Dq,nB];refine ah [.ret (dI n)] ?_;simp;exact⟨a,.lit _⟩
theorem since(T:Int)(l:List Wd)(b:gO 0 l=true)(c:l.length<=4096):PC 41 [cB l,dI T] (.ret (dI (cv T l))):=by
 refine aG aH Yz (by simp [a41]) fun d=>?_
 have a:=agA T l b c;generalize cv T l=n at a;simp [a41,nB];refine ah [.ret (dI n)] ?_;simp;exact⟨a,.lit _⟩
theorem chunk(w:List Wd)(d k:Int):PC 18 [cB w,dI d,dI k] (.ret (.af [cB (hU w d k),dI (lS w d k),dI (hn w d k)])):=by
 refine aG aH Yk (by simp [CN]) fun z=>?_
 have f:=Check ⟨w,0⟩;have h:=Oz d k;simp [CN,nB];by_cases q:bP ⟨w,0⟩≠0
 ·have i:hn w d k≠0:=by simp [hn,q]
  have a:hn w d k=bP ⟨w,0⟩:=by simp [hn,q]
  have b:lS w d k=0:=by simp [lS,i]
  have c:hU w d k=[]:=by simp [hU,i]
  rw [b,c,a];generalize bP ⟨w,0⟩=e at q f;refine ah [.ret (dI e)] ?_;simp [q];exact f
 have q:bP ⟨w,0⟩=0:=by omega
 rw [q] at f;refine ah [.ret (dI 0)] ?_;simp;refine⟨f,?_⟩;cases g:gU d k
 ·have a:hn w d k=230:=by simp [hn,q,g]
  have b:lS w d k=0:=by simp [lS,a]
  have c:hU w d k=[]:=by simp [hU,a]
  rw [g] at h;rw [a,b,c];refine ah [.ret (dB false)] ?_;simp;exact h
 rw [g] at h;obtain⟨n,C,o,D,E,p⟩:=Am g;obtain⟨j,_,_,m⟩:=hI q;have a:hn w d k=0:=by simp [hn,q,g]
 have b:lS w d k=cv (k*d) w:=by simp [lS,a]
 have c:hU w d k=(w.take (cv ((k+1)*d) w)).drop (cv (k*d) w):=by simp [hU,a]
 have r:=since (k*d) w m j;have s:=since ((k+1)*d) w m j;have t:=GJ (l:=w) p;have u:=GH ((k+1)*d) w;rw [a,b,c];generalize cv (k*d) w=A at *;generalize cv ((k+1)*d) w=B at *;have F:k<=1099511627776:=by have:=Pw n o;rw [Int.mul_one] at this;omega
 have v:IntKind.i64.wrap (k*d)=k*d:=wrap64 (by omega);have x:IntKind.i64.wrap (k+1)=k+1:=wrap64 (by omega);have y:IntKind.i64.wrap ((k+1)*d)=(k+1)*d:=wrap64 (by omega);refine ah [.ret (dB true)] ?_;simp;refine⟨h,?_⟩;refine ah [.ret (dI A)] ?_;simp [v];refine⟨r,?_⟩;refine ah [.ret (dI B)] ?_;simp [x,y];exact⟨s,t,u⟩
theorem agB{s:Sm}{p t d k:Int}(h:pE s p t d k=0):pB s p t d k=decide ((cv ((k+1)*d) s.w:Int)<eu s p t):=by simp [pB,h]
theorem agC{d k:Int}(a:1<=d)(b:0<=k)(c:(k+1)*d<=1099511627776)(e:k*d<=(k+1)*d):k<=1099511627776:=by have:=Pw a b;rw [Int.mul_one] at this;omega
theorem past(s:Sm)(p t d k:Int):PC 13 [be s,dP p,dI t,dI d,dI k] (.ret (.af [dI (pI s p t d k),dB (pB s p t d k),dI (pE s p t d k)])):=by
 refine aG aH Yf (by simp [CJ]) fun C=>?_
 have a:=agt s p t;have i:=Oz d k;simp [CJ];by_cases q:eS s p t≠0
 ·have l:pE s p t d k≠0:=by simp [pE,q]
  have b:pE s p t d k=eS s p t:=by simp [pE,q]
  have c:pB s p t d k=false:=by simp [pB,l]
  have f:pI s p t d k=0:=by simp [pI,c]
  rw [c,f,b];generalize eS s p t=e at q a;generalize eu s p t=n at a;refine ah [.ret (.af [dI n,dI e])] ?_;simp [q];exact a
 have q:eS s p t=0:=by omega
 obtain⟨m,_,_⟩:=sd q;obtain⟨o,_,_,r⟩:=hI m;rw [q] at a;cases g:gU d k
 ·have b:pE s p t d k=230:=by simp [pE,q,g]
  have c:pB s p t d k=false:=by simp [pB,b]
  have f:pI s p t d k=0:=by simp [pI,c]
  rw [g] at i;rw [b,c,f];generalize eu s p t=n at a;refine ah [.ret (.af [dI n,dI 0])] ?_;simp;refine⟨a,?_⟩;refine ah [.ret (dB false)] ?_;simp;exact i
 rw [g] at i;obtain⟨u,D,v,E,w,x⟩:=Am g;have F:=agC u v w x;have b:pE s p t d k=0:=by simp [pE,q,g]
 have c:=agB b;have y:=since ((k+1)*d) s.w r o;have f:pI s p t d k=if pB s p t d k=true then (cv ((k+1)*d) s.w:Int) else 0:=rfl
 have z:IntKind.i64.wrap (k+1)=k+1:=wrap64 (by omega);have A:IntKind.i64.wrap ((k+1)*d)=(k+1)*d:=wrap64 (by omega);rw [b,f,c];generalize eu s p t=n at *;generalize cv ((k+1)*d) s.w=B at *;refine ah [.ret (.af [dI n,dI 0])] ?_;simp;refine⟨a,?_⟩;refine ah [.ret (dB true)] ?_;simp;refine⟨i,?_⟩;refine ah [.ret (dI B)] ?_;simp [z,A];refine⟨y,fun h=>?_,fun h=>?_⟩
 ·have j:¬ (B:Int)<n:=by omega
  exact⟨aP (by simp [j]),aP (by simp [j])⟩
 ·exact⟨aP (by simp [h]),aP (by simp [h])⟩
theorem agD(s:Sm)(p t d k:Int):PC 14 [.ip (be s),.ip (dP p),.ip (dI t),.ip (dI d),.ip (dI k)] (.ret (.af [dI (pI s p t d k),dB (pB s p t d k),dI (pE s p t d k)])):=by
 refine aG aH Yg (by simp [CK]) fun c=>?_
 have a:=past s p t d k;generalize pI s p t d k=i at *;generalize pB s p t d k=b at *;generalize pE s p t d k=e at *;simp [CK];refine ah [.ret (.af [dI i,dB b,dI e])] ?_;simp;exact a
def pv(p t d k:Int)(s:Sm):D:=.fn (.func 14) [] [.ip (be s),.ip (dP p),.ip (dI t),.ip (dI d),.ip (dI k)]
theorem OA(p t d k:Int)(s:Sm):(pv p t d k s).cells=[pv p t d k s]:=rfl
theorem OB(p t d k:Int)(s:Sm):(pv p t d k s).one=true:=rfl
theorem OC(p t d k:Int)(s:Sm):(pv p t d k s).isAgg=false:=rfl
theorem OD(p t d k:Int)(s:Sm):(AV.d (pv p t d k s)).cg=true:=rfl
def sS(p t d k:Int)(x:Sm×Bool):D:=.agg [dB x.2,pv p t d k x.1]
theorem OE(p t d k:Int)(x:Sm×Bool):(sS p t d k x).cells=[dB x.2,pv p t d k x.1]:=rfl
theorem OF(p t d k:Int)(x:Sm×Bool):(sS p t d k x).isAgg=true:=rfl
theorem OG(p t d k:Int)(x:Sm×Bool):(AV.d (sS p t d k x)).cg=true:=rfl
def sT(p t d k:Int)(l:List (Sm×Bool)):D:=.sl 2 (l.map (sS p t d k))
theorem OH(p t d k:Int)(l:List (Sm×Bool)):(sT p t d k l).cells=[sT p t d k l]:=rfl
theorem OI(p t d k:Int)(l:List (Sm×Bool)):(sT p t d k l).one=true:=rfl
theorem OJ(p t d k:Int)(l:List (Sm×Bool)):(sT p t d k l).isAgg=false:=rfl
theorem OK(p t d k:Int)(l:List (Sm×Bool)):(AV.d (sT p t d k l)).cg=true:=rfl
attribute [local simp] OA OB OC OD OE OF OG OH OI OJ OK
theorem agE(p t d k:Int)(l:List (Sm×Bool)):PC 15 [sT p t d k l] (.ret (.fn (.func 42) [] [.ip (sT p t d k l)])):=by
 refine oM kC Yh (by simp [CL]) 4 fun a=>?_
 simp [CL]
 done
theorem agF(p t d k:Int):PC 13 [.agg [.nil 5,dI 0],dP p,dI t,dI d,dI k] (.ret (.af [dI (pI ⟨[],0⟩ p t d k),dB (pB ⟨[],0⟩ p t d k),dI (pE ⟨[],0⟩ p t d k)])):=(past ⟨[],0⟩ p t d k).le (.cons (aB.agg (.cons (oR _ _) (.cons (aB.refl _) .nil)) (by simp [D.one])) (.cons (aB.refl _) (.cons (aB.refl _) (.cons (aB.refl _) (.cons (aB.refl _) .nil)))))
end
section
attribute [local simp] cK cI cJ cG cH cd bS cA nm np nq nr ns nu oS oT oU nv nw ny nz nA
attribute [local simp] wD sf sg sh yQ yR yS yT
attribute [local simp] OA OB OC OD OE OF OG OH OI OJ OK
theorem agG(s:Sm)(p t d k:Int):0<=pI s p t d k:=by unfold pI;split <;> omega
theorem agH{p t d k:Int}{l:List Sm}{a:List Bool}{i:Nat}(h:i<l.length)(b:i<a.length):((lk p t d k l a).take (i+1)).map dI=((lk p t d k l a).take i).map dI++[dI (GL p t d k (l[i],a[i]))]:=by
 have c:i<(l.zip a).length:=by simp;omega
 rw [mS];simp [lk,aI c,aI h,aI b]
theorem agI{a:List Bool}{i:Nat}(b:i<a.length):fh (a.take (i+1))=fh (a.take i)+(if a[i]=true then 1 else 0):=by rw [mS,aI b];simp only [fh,PJ,Option.toList,AW,List.countP_nil,id];omega
theorem agJ{p t d k:Int}{l:List Sm}{a:List Bool}{i:Nat}(h:i<l.length)(c:i<a.length):gg p t d k (l.take (i+1)) (a.take (i+1))=gg p t d k (l.take i) (a.take i)+(if (a[i]&&pB l[i] p t d k)=true then 1 else 0):=by
 have b:i<(l.zip a).length:=by simp;omega
 have e:∀ n,(l.take n).zip (a.take n)=(l.zip a).take n:=fun n=>by simp [List.zip,List.take_zipWith]
 simp only [gg,e];rw [mS,aI b];simp only [PJ,Option.toList,AW,List.countP_nil,List.getElem_zip];omega
theorem agK{p t d k:Int}{l:List Sm}{i:Nat}(h:i<l.length):fE p t d k (l.drop i)=if pE l[i] p t d k=0 then fE p t d k (l.drop (i+1)) else pE l[i] p t d k:=by rw [fF h,fE]
theorem OL{a:Type}(f:a->Bool)(l:List a)(i:Nat):(l.take i).countP f<=i:=eX P_ (by simp;omega)
theorem state(l:List Sm)(j:List Bool)(c a f g due:Int):PC 4 [.sl 2 (l.map be),.sl 1 (j.map dB),dP c,dI a,dI f,dI g,dI due] (.ret (.af [dI (gH l j c a f g due),.sl 1 ((ji l j c a f g due).map dI),dI (fP l j c a f g due)])):=by
 refine aG aH c4 (by simp [a4]) fun hr=>?_
 simp [a4];refine⟨fun q1=>?_,fun q1=>?_⟩
 ·have q:fP l j c a f g due=2:=by unfold fP;rw [aj (by omega)]
  have v:gH l j c a f g due=0:=by unfold gH;rw [ab (by omega)]
  have w:ji l j c a f g due=[]:=by unfold ji;rw [ab (by omega)]
  rw [q,v,w];exact⟨aB.refl _,oR _ _,aB.refl _⟩
 obtain⟨m,F⟩:∃ m,m=(l.zip j).map (sS c a f g):=⟨_,rfl⟩;have a0:∀ i,(h:i<l.length)->(I:i<j.length)->m.take (i+1)=m.take i++[.agg [.lit (.bool j[i]),.fn (.func 14) [] [.ip (.agg [.sl 5 (l[i].w.map dW),.lit (.int .i64 l[i].x)]),.ip (dP c),.ip (.lit (.int .i64 a)),.ip (.lit (.int .i64 f)),.ip (.lit (.int .i64 g))]]]:=fun i h I=>by
  have J:i<(l.zip j).length:=by simp;omega
  rw [F,<- tg,<- tg,mS,aI J];simp [sS,pv,be]
 have a1:∀ i,(h:i<l.length)->(I:i<j.length)->m[i]?=some (.agg [.lit (.bool j[i]),.fn (.func 14) [] [.ip (.agg [.sl 5 (l[i].w.map dW),.lit (.int .i64 l[i].x)]),.ip (dP c),.ip (.lit (.int .i64 a)),.ip (.lit (.int .i64 f)),.ip (.lit (.int .i64 g))]]):=fun i h I=>by
  have J:i<(l.zip j).length:=by simp;omega
  rw [F,bG,aI J];simp [sS,pv,be]
 have a2:PC 15 [.sl 2 m] (.ret (.fn (.func 42) [] [.ip (.sl 2 m)])):=by rw [F];exact agE c a f g (l.zip j)
 refine⟨fun q2=>?ga,fun q2=>⟨fun B=>?gb,fun B=>?gc⟩⟩
 case ga =>
  have q:fP l j c a f g due=1:=by unfold fP;rw [ab (by omega),aj (by omega)]
  have v:gH l j c a f g due=0:=by unfold gH;rw [ab (by omega)]
  have w:ji l j c a f g due=[]:=by unfold ji;rw [ab (by omega)]
  rw [q,v,w];exact⟨aB.refl _,oR _ _,aB.refl _⟩
 case' gb =>
  have s:=agF c a f g;by_cases y:¬ pE ⟨[],0⟩ c a f g=0
  ·have hl:l=[]:=by simpa using B
   have q:fP l j c a f g due=pE ⟨[],0⟩ c a f g:=by unfold fP;rw [ab (by omega),ab (by omega),aj ⟨hl,y⟩]
   have v:gH l j c a f g due=0:=by unfold gH;rw [ab (by omega)]
   have w:ji l j c a f g due=[]:=by unfold ji;rw [ab (by omega)]
   rw [q,v,w];generalize pI ⟨[],0⟩ c a f g=K at s;generalize pB ⟨[],0⟩ c a f g=M at s;generalize pE ⟨[],0⟩ c a f g=e at *;refine ah [.ret (.af [dI K,dB M,dI e])] ?_;simp [y];exact⟨s,rfl⟩
  have y:pE ⟨[],0⟩ c a f g=0:=by omega
  have z:¬ (l=[]/\pE ⟨[],0⟩ c a f g≠0):=fun h=>h.2 y
  rw [y] at s;generalize pI ⟨[],0⟩ c a f g=K at s;generalize pB ⟨[],0⟩ c a f g=M at s;refine ah [.ret (.af [dI K,dB M,dI 0])] ?_;simp;refine⟨s,?_⟩;clear s y B;revert z
 case' gc =>
  have z:¬ (l=[]/\pE ⟨[],0⟩ c a f g≠0):=fun h=>B (by simp [h.1])
  clear B;revert z
 all_goals
  intro z;refine bm [6,8,9,10,11,12,14,15,16,48,49] Nat (fun i=>[(17,true,.own 3 2 (m.take i)),(50,true,.d (dI i))]) (fun i=>[(3,.row)]) (fun i=>i<=l.length) (fun i=>l.length-i) 0 (by simp) ⟨[],[(3,2)],?_⟩ (fun i O=>?_)
  ·simp
  ·rcases bB i l.length with u | b0
   ·have r:i<j.length:=by omega
    have c1:min i m.length<=16:=by omega
    simp [u,r];refine⟨⟨by omega,by omega⟩,i+1,by omega,by omega,[(3,6)],[],?_⟩;rw [wrap64 (by omega),a0 i u r];simp
   ·have T:m.length=l.length:=by rw [F];simp;omega
    have P:i=l.length:=by omega
    subst P;simp;refine ah [.ret (.fn (.func 42) [] [.ip (.sl 2 m)])] ?_;simp;refine⟨by rw [d' (by omega)];exact a2,?_⟩;refine h' (TF Tryz.prog CV) (aR YA) rfl (by rfl) (fun yl=>by rfl) (fun yl=>?_);simp [CV];refine bm [0,1,8,9] Nat (fun i=>[(10,true,.d (dI i))]) (fun i=>[(1,.box false [.own 8 1 (((lk c a f g l j).take i).map dI)]),(4,.box false [.d (dI (fh (j.take i)))]),(5,.box false [.d (dI (gg c a f g (l.take i) (j.take i)))]),(8,.row)]) (fun i=>i<=l.length/\fE c a f g (l.drop i)=fE c a f g l) (fun i=>l.length-i) 0 (by simp) ⟨[],[(8,1)],?_⟩ (fun i O=>?_)
    ·simp [fh,gg];intro x b2;omega
    ·obtain⟨O,Q⟩:=O;rcases bB i l.length with u | b0
     ·have r:i<j.length:=by omega
      have G:=agD l[i] c a f g;obtain⟨_,b3⟩:=bu.1 (a1 i u r);simp [u,r,b3,T];generalize U:pI l[i] c a f g=n at G;generalize V:pB l[i] c a f g=b at G;generalize b4:pE l[i] c a f g=e at G;refine ah [.ret (.af [dI n,dB b,dI e])] ?_;simp;refine⟨G,?_⟩;have c2:(lk c a f g l j).length=l.length:=by simp [lk];omega
      have b5:min i (lk c a f g l j).length=i:=by omega
      have C:=agH (p:=c) (t:=a) (d:=f) (k:=g) u r;have R:=agI r;have H:=agJ (p:=c) (t:=a) (d:=f) (k:=g) u r;have D:=agK (p:=c) (t:=a) (d:=f) (k:=g) u;have f5:fh (j.take i)<=i:=OL _ _ _;have f6:gg c a f g (l.take i) (j.take i)<=i:=by unfold gg;rw [show (l.take i).zip (j.take i)=(l.zip j).take i by simp [List.zip,List.take_zipWith]];exact OL _ _ _
      have X:=agG l[i] c a f g;unfold GL at C;rw [U] at X;rw [b4] at D;rw [V] at H;simp only [V,U] at C;have b6:¬ e=0->fP l j c a f g due=e/\gH l j c a f g due=0/\ji l j c a f g due=[]:=fun A=>by
       rw [ab A] at D;have q:fP l j c a f g due=e:=by unfold fP;rw [ab (by omega),ab (by omega),ab z,<- Q,D,aj A]
       exact⟨q,by unfold gH;rw [ab (by omega)],by unfold ji;rw [ab (by omega)]⟩
      have b7:IntKind.i64.wrap ((fh (j.take i):Int)+1)=(fh (j.take i):Int)+1:=wrap64 (by omega);have b8:IntKind.i64.wrap ((gg c a f g (l.take i) (j.take i):Int)+1)=(gg c a f g (l.take i) (j.take i):Int)+1:=wrap64 (by omega);cases Y:j[i] <;> cases b
      all_goals
       rw [Y] at C R H;simp at C R H;refine ah [] ?_;simp;refine aK [] ?_;simp [b5,r,Y,X];refine⟨fun A=>?_,fun A=>?_⟩
       ·obtain⟨q,v,w⟩:=b6 A;rw [q,v,w];exact⟨aB.refl _,oR _ _,aB.refl _⟩
       ·rw [aj A] at D;refine⟨⟨by omega,by omega⟩,i+1,⟨by omega,by rw [<- D];exact Q⟩,by omega,[(8,11)],[],?_⟩;rw [wrap64 (by omega)];simp [C,R,H,b7,b8]
        all_goals exact fun x b2=>.inr ⟨by rw [ab (by omega)];rfl,by omega⟩
     ·have P:i=l.length:=by omega
      subst P;have t1:j.take l.length=j:=d' (by omega);have t3:((lk c a f g l j).map dI).take l.length=(lk c a f g l j).map dI:=d' (by simp [lk];omega);have t4:fE c a f g l=0:=by rw [<- Q];simp [fE]
      have S:fP l j c a f g due=if 0<=due/\due<1099511627776 then 0 else 1:=by unfold fP;rw [ab (by omega),ab (by omega),ab z,ab (by omega)]
      simp [T,t1,t3];have b9:gH l j c a f g due=if 0<=due/\due<1099511627776 then (if 0<fh j/\fh j=gg c a f g l j then 2 else if due<=a then 1 else 0) else 0:=by unfold gH;rw [S];split <;> simp [*]
      have c0:ji l j c a f g due=if 0<=due/\due<1099511627776 then lk c a f g l j else []:=by unfold ji;rw [S];split <;> simp [*]
      rw [S,b9,c0];have g1:fh j<=16:=eX P_ (by omega);have g2:gg c a f g l j<=16:=eX P_ (by simp;omega);generalize fh j=W at *;generalize gg c a f g l j=N at *;generalize lk c a f g l j=L at *;refine ah [] ?_;simp;refine⟨fun Z=>?_,fun Z=>⟨fun h2=>?_,fun h2=>?_⟩⟩
      ·have o:¬ (0<=due/\due<1099511627776):=by omega
       rw [ab o,ab o,ab o];exact⟨aB.refl _,oR _ _,aB.refl _⟩
      ·have o:¬ (0<=due/\due<1099511627776):=by omega
       rw [ab o,ab o,ab o];exact⟨aB.refl _,oR _ _,aB.refl _⟩
      ·have o:0<=due/\due<1099511627776:=⟨Z,h2⟩;rw [aj o,aj o,aj o];refine ah [] ?_;simp;refine⟨fun w1=>⟨fun w2=>⟨rfl,?_⟩,fun w2=>⟨fun E=>⟨rfl,?_⟩,fun E=>⟨rfl,?_⟩⟩⟩,fun w1=>⟨fun E=>⟨rfl,?_⟩,fun E=>⟨rfl,?_⟩⟩⟩
       ·rw [aj ⟨w1,by omega⟩];exact aB.refl _
       ·rw [ab (by omega),aj E];exact aB.refl _
       ·rw [ab (by omega),ab (by omega)];exact aB.refl _
       ·rw [ab (by omega),aj E];exact aB.refl _
       ·rw [ab (by omega),ab (by omega)];exact aB.refl _
end
section
theorem OM{p t d k:Int}:∀ (l:List Sm) (a:List Bool),a.length=l.length->fh a=gg p t d k l a->∀ j,(h:j<l.length)->(i:j<a.length)->a[j]=true->pB l[j] p t d k=true
 | [],_,_,_,j,h,_,_=>by simp at h
 | s::l,[],e,_,_,_,_,_=>by simp at e
 | s::l,b::a,e,f,j,h,i,g=>by
  have m:a.length=l.length:=by simpa using e
  have n:gg p t d k l a<=fh a:=by
   have:∀ (l:List Sm) (a:List Bool),gg p t d k l a<=fh a:=by
    intro l
    induction l with
    | nil=>intro a;simp [gg]
    | cons s l o =>
     intro a;cases a with
     | nil=>simp [gg]
     | cons b a =>have:=o a;simp only [gg,fh,AO,AW,id] at this |-;cases b <;> cases pB s p t d k <;> simp <;> omega
   exact this l a
  simp only [gg,fh,AO,AW,id] at f n;cases j with
  | zero =>
   simp at g;subst g;cases c:pB s p t d k
   ·simp [c] at f;omega
   ·simpa using c
  | succ j =>
   have q:fh a=gg p t d k l a:=by simp only [gg,fh];cases b <;> cases c:pB s p t d k <;> simp [c] at f <;> omega
   simpa using OM l a m q j (by simpa using h) (by simpa using i) (by simpa using g)
theorem ON{p t d k:Int}:∀ (l:List Sm) (a:List Bool),a.length=l.length->(∀ j,(h:j<l.length)->(f:j<a.length)->a[j]=true->pB l[j] p t d k=true)->fh a=gg p t d k l a
 | [],[],_,_=>rfl
 | [],_::_,c,_=>by simp at c
 | s::l,[],c,_=>by simp at c
 | s::l,b::a,c,g=>by
  have e:=ON (p:=p) (t:=t) (d:=d) (k:=k) l a (by simpa using c) (fun j h f m=>by have:=g (j+1) (by simpa using h) (by simpa using f) (by simpa using m);simpa using this)
  have i:=g 0 (by simp) (by simp);simp only [gg,fh,AO,AW,id] at e |-;cases b
  ·simp [e]
  ·simp at i;simp [i,e]
theorem GO{p t d k:Int}:∀ (l:List Sm),fE p t d k l=0↔∀ j,(h:j<l.length)->pE l[j] p t d k=0
 | []=>by simp [fE]
 | s::l=>by
  have b:=GO (p:=p) (t:=t) (d:=d) (k:=k) l;simp only [fE];constructor
  ·intro h j a;split at h
   ·cases j with
    | zero=>simpa using ‹_›
    | succ j=>simpa using b.1 h j (by simpa using a)
   ·omega
  ·intro h;rw [aj (show pE s p t d k=0 from h 0 (by simp))];exact b.2 fun j a=>h (j+1) (by simpa using a)
theorem GP{l:List Sm}{a:List Bool}{c e f g due:Int}:(fP l a c e f g due=0/\gH l a c e f g due=2) ↔
  l.length<=16/\a.length=l.length/\(∀ j,(h:j<l.length)->pE l[j] c e f g=0)/\(0<=due/\due<1099511627776)/\0<fh a/\(∀ j,(h:j<l.length)->(x:j<a.length)->a[j]=true->pB l[j] c e f g=true):=by
 have r:a.length=l.length->0<fh a->l≠[]:=by rintro m b rfl;have:a=[]:=hV (by simpa using m);subst this;simp [fh] at b
 constructor
 ·rintro⟨m,b⟩;have i:=m;unfold fP at i;split at i;· omega
  split at i;· omega
  split at i;· omega
  split at i;· omega
  split at i
  ·rename_i y n a3 a4 a5;have n:a.length=l.length:=by omega
   have a4:fE c e f g l=0:=by omega
   unfold gH at b;rw [aj m] at b;split at b
   ·rename_i a6;exact⟨by omega,n,(GO l).1 a4,a5,a6.1,OM l a n a6.2⟩
   ·split at b <;> omega
  ·omega
 ·rintro⟨m,b,s,u,o,v⟩;have w:=ON (p:=c) (t:=e) (d:=f) (k:=g) l a b v;have q:fP l a c e f g due=0:=by unfold fP;rw [ab (by omega),ab (by omega),ab (fun h=>r b o h.1),ab (by have:=(GO (p:=c) (t:=e) (d:=f) (k:=g) l).2 s;omega),aj u]
  exact⟨q,by unfold gH;rw [aj q,aj ⟨o,w⟩]⟩
def pw(T:Int)(a b:List Wd):Prop:=cv T a<a.length/\cv T a<b.length/\b.take (cv T a+1)=a.take (cv T a+1)
theorem OO{T:Int}{a b:List Wd}(h:pw T a b):∀ i,i<=cv T a->(c:i<a.length)->(d:i<b.length)->a[i]=b[i]:=fun i g c d=>by
 have f:(a.take (cv T a+1))[i]?=some a[i]:=by rw [eh,aj (by omega),aI c]
 have e:(b.take (cv T a+1))[i]?=some b[i]:=by rw [eh,aj (by omega),aI d]
 rw [h.2.2,f] at e;injection e
theorem xv{T U m e:Int}{a b:List Wd}(g:gO m a=true)(f:gO e b=true)(h:pw T a b)(i:U<=T):cv U b=cv U a:=by
 have k:=GJ (l:=a) i;have p:=h.1;have q:=h.2.1;refine Ox f (by omega) (fun j c d=>?_) (fun j c d=>?_)
 ·rw [<- OO h j (by omega) (by omega) d];exact GI c (by omega)
 ·have n:=OO h (cv U a) k (by omega) (by omega);have r:=Ow g (bj _) (show cv U a<a.length by omega);have o:=(uU e b f (cv U a) j c d).2;rw [<- n] at o;omega
theorem agL{T m d:Int}{a b c:List Wd}(f:gO m a=true)(g:gO d b=true)(h:pw T a b)(k:pw T b c):pw T a c:=by have e:=xv f g h (iu T);obtain⟨i,l,j⟩:=h;obtain⟨k1,k2,k3⟩:=k;rw [e] at k1 k2 k3;exact⟨i,k2,k3.trans j⟩
theorem agM{T:Int}{a:List Wd}(h:cv T a<a.length):pw T a a:=⟨h,h,rfl⟩
theorem agN{s:Sm}{p t T:Int}{o:Op}(h:hb s p t o=true)(b:(cv T s.w:Int)<eu s p t):pw T s.w (dE s o).w:=by
 obtain⟨c,d,e,a⟩:=KU h;obtain⟨f,g,i,j⟩:=se (EM h).1;refine⟨by omega,by omega,?_⟩;have:∀ l:List Wd,l.take (cv T s.w+1)=(l.take (eu s p t).toNat).take (cv T s.w+1):=fun l=>by rw [PQ];congr 1;omega
 rw [this,a,<- this]
theorem agO{a b:List Wd}{d k n:Int}(g:bP ⟨a,0⟩=0)(i:bP ⟨b,0⟩=0)(r:gU d k=true)(h:pw ((k+1)*d) a b)(s:0<=n)(w:n<=k) :
  hn a d n=0/\hn b d n=0/\lS b d n=lS a d n/\hU b d n=hU a d n:=by
 obtain⟨t,u,x,y,z,A⟩:=Am r;have j:=(hI g).2.2.2;have m:=(hI i).2.2.2;have o:(n+1)*d<=(k+1)*d:=PZ (by omega) (by omega);have B:n*d<=(n+1)*d:=by rw [Int.add_mul,Int.one_mul];omega
 have p:gU d n=true:=Ov t u s (by omega);have c:hn a d n=0:=by unfold hn;rw [aj g,aj p]
 have e:hn b d n=0:=by unfold hn;rw [aj i,aj p]
 have v:=xv j m h o;have q:=xv j m h (show n*d<=(k+1)*d by omega);refine⟨c,e,by unfold lS;rw [aj c,aj e,q],?_⟩;unfold hU;rw [aj c,aj e,v,q];have C:=GJ (l:=a) o;have:∀ f:List Wd,f.take (cv ((n+1)*d) a)=(f.take (cv ((k+1)*d) a+1)).take (cv ((n+1)*d) a):=fun f=>by rw [PQ];congr 1;omega
 rw [this b,h.2.2,<- this a]
end

end Go.Proofs.YtloccchppmffpaaGreatDoor
