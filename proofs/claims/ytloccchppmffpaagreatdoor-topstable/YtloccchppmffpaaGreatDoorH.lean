/- Part of the proof. -/
import Derived.Test.YtloccchppmffpaaGreatDoorG
set_option linter.unnecessarySimpa false
set_option linter.unusedVariables false
set_option linter.unusedSimpArgs false
set_option linter.defProp false
set_option maxRecDepth 20000
set_option maxHeartbeats 8000000
namespace Go.Proofs.YtloccchppmffpaaGreatDoor
open Go Go.Proofs.YtloccchppmffpaaGreatDoor.AL
def mU:=@Nat.eq_or_lt_of_le
def od:=@List.elem_eq_true_of_mem
def pH:=@List.sum_cons
def q_:=@List.find?_cons
def q':=@List.filter_append
def ra:=@List.map_set
def th:=@Nat.min_eq_left
def vl:=@List.mem_of_elem_eq_true
def vm:=@not_true
def vn:=@not_false_iff
def xM:=@decide_eq_false
def xN:=@List.nodup_range
def AU:=@List.all_nil
def Hv:=@List.foldl_append
def Hw:=@decide_true
def Hy:=@List.ext_getElem
def Hz:=@Bool.and_true
def HA:=@List.getElem_map
def PS:=@not_true_eq_false
def PT:=@Bool.and_eq_false_iff
def PU:=@List.range_succ_eq_map
def PV:=@of_decide_eq_false
def PW:=@List.length_take_le
section
attribute [local simp] cK cI cJ cG cH cd bS cA gP
def fL(a b:List B8):D:=.agg [.sl 1 (a.map dT),.sl 1 (b.map dT)]
theorem EX(a b:List B8):(fL a b).cells=[.sl 1 (a.map dT),.sl 1 (b.map dT)]:=rfl
theorem EY(a b:List B8):(fL a b).isAgg=true:=rfl
theorem EZ(a b:List B8):(AV.d (fL a b)).cg=true:=rfl
def bV(i k:Nat):D:=.agg [dI i,dI k]
theorem LG(i k:Nat):(bV i k).cells=[dI i,dI k]:=rfl
theorem LH(i k:Nat):(bV i k).isAgg=true:=rfl
theorem LI(i k:Nat):(AV.d (bV i k)).cg=true:=rfl
attribute [local simp] EX EY EZ LG LH LI
def hM(a b:List B8)(i k:Nat):Bool:=match a[i]?,b[k]? with
 | some x,some y=>decide (x=y)
 | _,_=>false
def hO(a b:List B8)(i k:Nat):Bool:=match a[i]?,b[k]? with
 | some x,some y=>decide (¬ x=y)
 | _,_=>false
theorem zf(a b:List B8):PC 127 [fL a b] (.ret (bV a.length b.length)):=by
 refine aG aH ZL (by simp [a127]) fun c=>?_
 simp [a127,fL];exact aP rfl
theorem LJ(a b:List B8)(i k:Nat)(j:i<=1000)(l:k<=1000):PC 176 [fL a b,bV i k] (.ret (.af [bV (i+1) (k+1),dI 0,dB (hM a b i k)])):=by
 refine aG aH aaw (by simp [Ee]) fun m=>?_
 have d:=wS i (by omega);have f:=wS k (by omega);simp [Ee,fL,bV];refine bY [] ?_;unfold hM;by_cases q1:i<a.length
 case neg =>
  have c:¬ (i:Int)<(a.length:Int):=by omega
  rw [cb (by omega:a.length<=i)];simp [q1,c,d,f]
  first | rfl | exact⟨rfl,aP (by simp [e])⟩
 have c:(i:Int)<(a.length:Int):=by omega
 rw [aI q1];by_cases g:k<b.length
 case neg =>
  have h:¬ (k:Int)<(b.length:Int):=by omega
  rw [cb (by omega:b.length<=k)];simp [q1,c,g,h,d,f]
  first | rfl | exact⟨rfl,aP (by simp [e])⟩
 have h:(k:Int)<(b.length:Int):=by omega
 rw [aI g];by_cases e:a[i]=b[k]
 ·simp [q1,c,g,h,d,f,dT,e]
  first | rfl | exact⟨rfl,aP (by simp [e])⟩
 ·simp [q1,c,g,h,d,f,dT,e]
  first | rfl | exact⟨rfl,aP (by simp [e])⟩
theorem LK(a b:List B8)(i k:Nat)(j:i<=1000)(l:k<=1000):PC 177 [fL a b,bV i k] (.ret (.af [bV (i+1) (k+1),dI 1,dB (hO a b i k)])):=by
 refine aG aH aax (by simp [Ef]) fun m=>?_
 have d:=wS i (by omega);have f:=wS k (by omega);simp [Ef,fL,bV];refine bY [] ?_;unfold hO;by_cases q1:i<a.length
 case neg =>
  have c:¬ (i:Int)<(a.length:Int):=by omega
  rw [cb (by omega:a.length<=i)];simp [q1,c,d,f]
  first | rfl | exact⟨rfl,aP (by simp [e])⟩
 have c:(i:Int)<(a.length:Int):=by omega
 rw [aI q1];by_cases g:k<b.length
 case neg =>
  have h:¬ (k:Int)<(b.length:Int):=by omega
  rw [cb (by omega:b.length<=k)];simp [q1,c,g,h,d,f]
  first | rfl | exact⟨rfl,aP (by simp [e])⟩
 have h:(k:Int)<(b.length:Int):=by omega
 rw [aI g];by_cases e:a[i]=b[k]
 ·simp [q1,c,g,h,d,f,dT,e]
  first | rfl | exact⟨rfl,aP (by simp [e])⟩
 ·simp [q1,c,g,h,d,f,dT,e]
  first | rfl | exact⟨rfl,aP (by simp [e])⟩
theorem LL(a b:List B8)(i k:Nat)(f:i<=1000)(g:k<=1000):PC 178 [fL a b,bV i k] (.ret (.af [bV (i+1) k,dI 1,dB (decide (i<a.length))])):=by
 refine aG aH aay (by simp [Eg]) fun h=>?_
 have d:=wS i (by omega);have e:=wS k (by omega);simp [Eg,fL,bV];by_cases q:i<a.length
 ·have c:((i:Nat):Int)<((a.length:Nat):Int):=by omega
  simp [q,c,d,e];rfl
 ·have c:¬ ((i:Nat):Int)<((a.length:Nat):Int):=by omega
  simp [q,c,d,e];rfl
theorem LM(a b:List B8)(i k:Nat)(f:i<=1000)(g:k<=1000):PC 179 [fL a b,bV i k] (.ret (.af [bV i (k+1),dI 1,dB (decide (k<b.length))])):=by
 refine aG aH aaz (by simp [Eh]) fun h=>?_
 have d:=wS i (by omega);have e:=wS k (by omega);simp [Eh,fL,bV];by_cases q:k<b.length
 ·have c:((k:Nat):Int)<((b.length:Nat):Int):=by omega
  simp [q,c,d,e];rfl
 ·have c:¬ ((k:Nat):Int)<((b.length:Nat):Int):=by omega
  simp [q,c,d,e];rfl
def cr:List D:=[.fn (.func 176) [] [],.fn (.func 177) [] [],.fn (.func 178) [] [],.fn (.func 179) [] []]
theorem LN:PC 126 [] (.ret (.sl 1 cr)):=by
 refine aG aH ZK (by simp [DL]) fun a=>?_
 simp [DL];exact aP rfl
theorem LO(n:Int):PC 171 [dB true,dI n] (.ret (.af [])):=by
 refine aG aH aas (by simp [a171]) fun a=>?_
 simp [a171]
end
section
attribute [local simp] cK cI cJ cG cH cd bS cA EX EY EZ
theorem acC(a b:List B8)(h:a.length<=64)(i:b.length<=64)(e:a.any (fun x=>!bw x)=false)(f:b.any (fun x=>!bw x)=false):PC 124 [.sl 1 (a.map dT),.sl 1 (b.map dT)] (.ret (fL a b)):=by
 refine aG aH ZI (by simp [a124]) fun j=>?_
 have c:=kF (anyS Lq a);have d:=kF (anyS Lq b);rw [e] at c;rw [f] at d;have g:(if a.length<b.length then (b.length:Int) else (a.length:Int))<=64:=by split <;> omega
 simp [a124];refine ah [.ret (.af [])] ?_;simp [g];refine⟨LO 2,?_⟩;refine aK [.ret (.af [])] ?_;simp;refine aV _ c ?_;unfold TC kE;simp;refine aV _ d ?_;unfold TC kE;simp;refine⟨LO 210,?_⟩;exact aP rfl
end
section
attribute [local simp] cK cI cJ cG cH cd bS cA ss ui uj wJ wK wL wM gP
abbrev ew:=List (B8×Int)
def iZ(M:ew)(s:B8):Option Int:=(M.find? fun e=>e.1 == s).map (·.2)
def uo(M:ew)(s:B8):Int:=(iZ M s).getD 0
def uq(M:ew)(s:B8)(n:Int):ew:=match M with
 | []=>[]
 | e::r=>if e.1=s then (e.1,n)::r else e::uq r s n
def pc(M:ew)(s:B8)(n:Int):ew:=match iZ M s with
 | none=>M++[(s,n)]
 | some m=>uq M s (m+n)
def mE(e:B8×Int):Value×AV:=(.string (bs e.1),.d (dI e.2))
theorem pd(a b:B8):(bs a == bs b)=decide (a=b):=by rw [Bool.eq_iff_iff,Px,bD];exact⟨fun h=>by have:=congrArg ByteArray.toList h;rw [cd,cd] at this;exact this,fun h=>by rw [h]⟩
theorem nM(s:B8):∀ M:ew,dJ (.string (bs s)) (M.map mE)=some ((iZ M s).map fun n=>AV.d (dI n))
 | []=>rfl
 | e::r=>by
  show dJ _ ((.string (bs e.1),.d (dI e.2))::r.map mE)=_;rw [oJ,nM s r,rV,pd];unfold iZ;rw [q_];by_cases h:s=e.1
  ·subst h;simp
  ·have a:(e.1 == s)=false:=by simp;exact fun x=>h x.symm
   rw [xM h,a]
theorem LP(s:B8)(n:Int):∀ M:ew,fj (.string (bs s)) (.d (dI n)) (M.map mE)=(uq M s n).map mE
 | []=>rfl
 | e::r=>by
  show fj _ _ ((.string (bs e.1),.d (dI e.2))::r.map mE)=_;rw [fj,rV,pd,uq];by_cases h:e.1=s
  ·rw [aj h,tf h.symm];rfl
  ·rw [ab h,xM (fun x=>h x.symm)];simp only;rw [LP s n r];rfl
def sw(b:Int)(M:ew):Prop:=∀ e∈M,0<=e.2/\e.2<=b
theorem LQ{b:Int}{M:ew}{s:B8}{m:Int}(h:sw b M)(a:iZ M s=some m):0<=m/\m<=b:=by
 unfold iZ at a;cases c:M.find? (fun e=>e.1 == s) with
 | none=>rw [c] at a;cases a
 | some e =>
  rw [c] at a;injection a with a
  rw [<- a];exact h e (Ax c)
theorem acD{M:ew}{s:B8}{n:Int}:∀ e∈uq M s n,e∈M\/e.2=n:=by
 induction M with
 | nil=>intro e a;cases a
 | cons x r b =>
  intro e a;rw [uq] at a;split at a
  ·rcases b_.1 a with rfl | a
   ·exact .inr rfl
   ·exact .inl (by simp [a])
  ·rcases b_.1 a with rfl | a
   ·exact .inl (by simp)
   ·rcases b e a with h | h
    ·exact .inl (by simp [h])
    ·exact .inr h
theorem acE{b:Int}{M:ew}{s:B8}{n:Int}(h:sw b M)(f:0<=b)(c:0<=n/\n<=2):sw (b+2) (pc M s n):=by
 unfold pc;cases d:iZ M s with
 | none =>
  intro e a;rcases cV.1 a with a | a
  ·have:=h e a;exact⟨this.1,by omega⟩
  ·rw [iM] at a;subst a;exact⟨c.1,by simp only;omega⟩
 | some m =>
  have g:=LQ h d;intro e a;rcases acD e a with a | a
  ·have:=h e a;exact⟨this.1,by omega⟩
  ·rw [a];exact⟨by omega,by omega⟩
def ey(c:Ce):Nat->ew
 | 0=>[]
 | i+1=>ey c i++(match c.al[i]? with
  | some s=>if ¬ s=c.tx/\¬ s∈c.al.take i then [(s,1)] else []
  | none=>[])
def zg(c:Ce):ew:=(c.tx,2)::ey c c.al.length
def dw(l:List Ce):Nat->ew
 | 0=>[]
 | k+1=>dw l k++(match l[k]? with
  | some c=>zg c
  | none=>[])
def mw(v:ew):ew:=v.foldl (fun M e=>pc M e.1 e.2) []
theorem LR(v:ew)(s:B8)(n:Int):mw (v++[(s,n)])=pc (mw v) s n:=by unfold mw;rw [Hv];rfl
def jZ(M:ew)(r:B8×Int)(s:B8):B8×Int:=if ¬ s=[]/\r.2<uo M s then (s,uo M s) else r
def kS(M v:ew):B8×Int:=v.foldl (fun r e=>jZ M r e.1) ([],0)
theorem LS(M v:ew)(s:B8)(n:Int):kS M (v++[(s,n)])=jZ M (kS M v) s:=by unfold kS;rw [Hv];rfl
def iD(l:List Ce):B8 :=
 let v:=dw l l.length
 let M:=mw v
 let r:=kS M v
 if r.2<uo M [] then [] else r.1
theorem E_(c:Ce):∀ i,∀ e∈ey c i,e.2=1
 | 0,e,a=>by cases a
 | i+1,e,a=>by
  rw [ey] at a;rcases cV.1 a with a | a
  ·exact E_ c i e a
  ·split at a
   ·split at a
    ·rw [iM] at a;subst a;rfl
    ·cases a
   ·cases a
theorem LU:∀ (v M:ew) (b:Int),sw b M->0<=b->(∀ e∈v,0<=e.2/\e.2<=2)->sw (b+2*v.length) (v.foldl (fun M e=>pc M e.1 e.2) M)
 | [],M,b,h,a,_=>by simpa using h
 | e::v,M,b,h,a,c=>by
  have d:=LU v (pc M e.1 e.2) (b+2) (acE h a (c e (by simp))) (by omega) (fun x f=>c x (by simp [f]));have g:b+2*(((e::v).length:Nat):Int)=b+2+2*((v.length:Nat):Int):=by simp only [bN];omega
  rw [g];exact d
theorem E'{v:ew}(h:∀ e∈v,0<=e.2/\e.2<=2):sw (2*v.length) (mw v):=by have:=LU v [] 0 (fun e a=>(by cases a)) (iu _) h;rw [Int.zero_add] at this;exact this
theorem zh(l:List Ce):∀ k,∀ e∈dw l k,0<=e.2/\e.2<=2
 | 0,e,a=>by cases a
 | k+1,e,a=>by
  rw [dw] at a;rcases cV.1 a with a | a
  ·exact zh l k e a
  ·split at a
   ·unfold zg at a;rcases b_.1 a with rfl | a
    ·exact⟨by simp,by simp⟩
    ·have:=E_ _ _ e a;omega
   ·cases a
def zi(l:List Ce):D:=.fn (.func 180) [] [.ip (b' l)]
theorem LV(l:List Ce):PC 129 [b' l] (.ret (zi l)):=by
 refine oM kC ZN (by simp [DN]) 4 fun a=>?_
 simp [DN,zi]
theorem j_(a:Nat->Nat)(N:Nat->Option Nat)(b:Nat->Bool)(k:Nat)(M:ew):aq.ba a N b k (List.map ((fun x=>x.snd)∘mE) M) (List.map ((fun x=>x.snd)∘mE) M):=by
 have e:List.map ((fun x=>x.snd)∘mE) M=(M.map fun e=>dI e.2).map AV.d:=by simp [mE,vh]
 rw [e];exact js a N b k _
theorem LW{b:Int}{M:ew}(a:sw b M)(s:B8)(n:Int):∃ m,(iZ M s=none/\m=0/\(pc M s n).map mE=M.map mE++[(.string (bs s),.d (.lit (.int .i64 n)))])\/(iZ M s=some m/\(0<=m/\m<=b)/\(pc M s n).map mE=fj (.string (bs s)) (.d (.lit (.int .i64 (m+n)))) (M.map mE)):=by
 unfold pc;cases c:iZ M s with
 | none=>exact⟨0,.inl ⟨rfl,rfl,by simp [mE]⟩⟩
 | some m=>exact⟨m,.inr ⟨rfl,LQ a c,(LP _ _ _).symm⟩⟩
theorem LX(M:ew):∀ (v:ew) (r:B8×Int),0<=r.2->0<=(v.foldl (fun r e=>jZ M r e.1) r).2
 | [],r,h=>h
 | e::v,r,h=>LX M v (jZ M r e.1) (by
  unfold jZ;split
  ·rename_i a;show 0<=uo M e.1;omega
  ·exact h)
theorem Fa(M v:ew):0<=(kS M v).2:=LX M v ([],0) (iu _)
theorem LY(M:ew)(R:B8×Int)(s:B8)(h:0<=R.2):(s=[]/\jZ M R s=R)\/(¬ s=[]/\iZ M s=none/\jZ M R s=R)\/(∃ m,¬ s=[]/\iZ M s=some m/\¬ R.2<m/\jZ M R s=R)\/∃ m,¬ s=[]/\iZ M s=some m/\R.2<m/\jZ M R s=(s,m):=by
 unfold jZ uo;by_cases q1:s=[]
 ·exact .inl ⟨q1,ab fun a=>a.1 q1⟩
 ·cases c:iZ M s with
  | none=>exact .inr (.inl ⟨q1,rfl,ab fun a=>by have:=a.2;simp at this;omega⟩)
  | some m =>
   by_cases b:R.2<m
   ·exact .inr (.inr (.inr ⟨m,q1,rfl,b,aj ⟨q1,b⟩⟩))
   ·exact .inr (.inr (.inl ⟨m,q1,rfl,b,ab fun a=>b a.2⟩))
theorem acF(M:ew):dJ (.string ⟨#[]⟩) (M.map mE)=some ((iZ M []).map fun n=>AV.d (dI n)):=nM [] M
theorem Fb(c:Ce):∀ i,(ey c i).length<=i
 | 0=>bj _
 | i+1=>by
  have:=Fb c i;rw [ey,da];split
  ·split <;> simp <;> omega
  ·simp;omega
theorem Fc{l:List Ce}(a:∀ c∈l,c.al.length<=4):∀ k,(dw l k).length<=5*k
 | 0=>bj _
 | k+1=>by
  have:=Fc a k;rw [dw,da];split
  ·rename_i c b;have d:=a c (dh b);have e:=Fb c c.al.length;unfold zg;simp only [bN];omega
  ·simp;omega
theorem acG(l:List Ce)(hl:l.length<=16)(u:∀ c∈l,c.al.length<=4):PC 61 [b' l] (.ret (dT (iD l))):=by
 refine aG aH YO (by simp [C']) fun hr=>?_
 simp [C',b'];refine ah [.ret (zi l)] ?_;simp;refine⟨LV l,?_⟩;refine h' (TF Tryz.prog wv) (aR Kp) rfl (by rfl) (fun S=>by rfl) (fun S=>?_);simp [wv,b'];refine bm [0,1,7,8] Nat (fun y=>[(9,true,.d (dI y))]) (fun y=>[(1,.aA ((mw (dw l y)).map mE))]) (fun y=>y<=l.length) (fun y=>l.length-y) 0 (bp _) ⟨[],[],?_⟩ (fun k T=>?_)
 ·simp [dw,mw];intro x a;omega
 by_cases w:k<l.length
 ·have H:=wS k (by omega);have V:=E' (zh l k);have b3:=Fc u k;generalize z:mw (dw l k)=M at *;obtain⟨m,⟨b,W,N⟩ | ⟨b,W,N⟩⟩:=LW V l[k].tx 2
  all_goals
   have X:IntKind.i64.wrap 2=2:=wrap64 (by omega);have Y:IntKind.i64.wrap (m+2)=m+2:=wrap64 (by omega);simp [w,cm,dT];refine aK [] ?_;simp [nM,b,X,Y];rw [<- N];refine bm [0,1,4,7,8,9,19,20] Nat (fun y=>[(21,true,.d (dI y))]) (fun y=>[(1,.aA ((mw (dw l k++(l[k].tx,2)::ey l[k] y)).map mE))]) (fun y=>y<=l[k].al.length) (fun y=>l[k].al.length-y) 0 (bp _) ⟨[],[],?_⟩ (fun i Z=>?_)
   ·simp [ey,LR,z,j_];intro x a;omega
   by_cases g:i<l[k].al.length
   ·have a0:=u l[k] (cN w);have n:=wS i (by omega);have d:ey l[k] (i+1)=ey l[k] i++(if ¬ l[k].al[i]=l[k].tx/\¬ l[k].al[i]∈l[k].al.take i then [(l[k].al[i],1)] else []):=by rw [ey,aI g]
    simp [g,dT];by_cases q1:l[k].al[i]=l[k].tx
    ·rw [ab (fun h=>h.1 q1),eN] at d;refine aK [] ?_;simp [g,q1];refine⟨i+1,by omega,by omega,[],[],?_⟩;rw [d];simp [n,j_];intro x a;omega
    ·have j:=sb (l[k].al.take i) l[k].al[i];rw [tg] at j;by_cases E:l[k].al[i]∈l[k].al.take i
     ·rw [ab (fun h=>h.2 E),eN] at d;refine aK [.ret (dB true)] ?_;simp [E] at j;simp [g,q1];refine⟨by omega,j,i+1,by omega,by omega,[],[],?_⟩;rw [d];simp [n,j_];intro x a;omega
     ·rw [aj ⟨q1,E⟩] at d;have a1:=E' (v:=dw l k++(l[k].tx,2)::ey l[k] i) (fun e o=>by
       rcases cV.1 o with o | o
       ·exact zh l k e o
       ·rcases b_.1 o with rfl | o
        ·exact⟨by simp,by simp⟩
        ·have:=E_ _ _ e o;omega)
      have b4:=Fb l[k] i;have b5:=u l[k] (cN w);have I:dw l k++(l[k].tx,2)::ey l[k] (i+1)=(dw l k++(l[k].tx,2)::ey l[k] i)++[(l[k].al[i],1)]:=by rw [d];simp
      have f:=LR (dw l k++(l[k].tx,2)::ey l[k] i) l[k].al[i] 1;rw [<- I] at f;have b6:((dw l k++(l[k].tx,2)::ey l[k] i).length:Int)<=100:=by simp only [da,bN];omega
      generalize b7:mw (dw l k++(l[k].tx,2)::ey l[k] i)=M2 at *;simp [E] at j;obtain⟨O,⟨P,a2,Q⟩ | ⟨P,a2,Q⟩⟩:=LW a1 l[k].al[i] 1
      all_goals
       have w4:IntKind.i64.wrap 1=1:=wrap64 (by omega);have w5:IntKind.i64.wrap (O+1)=O+1:=wrap64 (by omega);refine aK [.ret (dB false)] ?_;simp [g,q1,nM,P,w4,w5];refine⟨by omega,j,?_⟩;rw [<- Q,<- f];refine⟨i+1,by omega,by omega,[],[],?_⟩;simp [n,j_];intro x a;omega
   ·have p:i=l[k].al.length:=by omega
    have J:dw l (k+1)=dw l k++(l[k].tx,2)::ey l[k] i:=by rw [dw,aI w,p];rfl
    rw [<- J];simp [g];refine⟨k+1,by omega,by omega,[],[],?_⟩;simp [H,j_];intro x a;omega
 ·have p:k=l.length:=by omega
  subst p;have b8:=E' (zh l l.length);have b9:=Fc u l.length;unfold iD;generalize z:mw (dw l l.length)=M at *;simp [w];refine ah [.ret (zi l)] ?_;simp;refine⟨LV l,?_⟩;refine h' (TF Tryz.prog wv) (aR Kp) rfl (by rfl) (fun b0=>by rfl) (fun b0=>?_);simp [wv,b'];refine bm [0,1,7,8] Nat (fun y=>[(9,true,.d (dI y))]) (fun y=>[(0,.box false [.d (dT (kS M (dw l y)).1)]),(5,.box false [.d (dI (kS M (dw l y)).2)])]) (fun y=>y<=l.length) (fun y=>l.length-y) 0 (bp _) ⟨[],[],?_⟩ (fun k T=>?_)
  ·simp [dw,kS,j_];exact⟨aP rfl,fun x a=>by omega⟩
  by_cases g:k<l.length
  ·have H:=wS k (by omega);have b1:=Fa M (dw l k);generalize A:kS M (dw l k)=R at *;simp [g,cm,dT];refine aK [] ?_;simp;refine ah [] ?_;have K:¬ R.2<0:=by omega
   rcases LY M R l[k].tx b1 with ⟨q1,F⟩ | ⟨q1,b,F⟩ | ⟨m,q1,b,s,F⟩ | ⟨m,q1,b,s,F⟩
   case' pos.inl=>simp [fi q1]
   case' pos.inr.inl=>simp [q1,nM,b,K]
   case' pos.inr.inr.inl=>simp [q1,nM,b,s]
   case' pos.inr.inr.inr =>simp [q1,nM,b,s];refine⟨rfl,?_⟩
   all_goals
    refine bm [0,1,4,7,8,9,19,20] Nat (fun y=>[(21,true,.d (dI y))]) (fun y=>[(0,.box false [.d (dT (kS M (dw l k++(l[k].tx,2)::ey l[k] y)).1)]),(5,.box false [.d (dI (kS M (dw l k++(l[k].tx,2)::ey l[k] y)).2)])]) (fun y=>y<=l[k].al.length) (fun y=>l[k].al.length-y) 0 (bp _) ⟨[],[],?_⟩ (fun i Z=>?_)
    ·simp [ey,LS,A,F,j_];exact⟨aP rfl,fun x a=>by omega⟩
    by_cases t:i<l[k].al.length
    ·have a0:=u l[k] (cN g);have n:=wS i (by omega);have d:ey l[k] (i+1)=ey l[k] i++(if ¬ l[k].al[i]=l[k].tx/\¬ l[k].al[i]∈l[k].al.take i then [(l[k].al[i],1)] else []):=by rw [ey,aI t]
     simp [t,dT];by_cases B:l[k].al[i]=l[k].tx
     ·rw [ab (fun h=>h.1 B),eN] at d;refine aK [] ?_;simp [t,B];refine⟨i+1,by omega,by omega,[],[],?_⟩;rw [d];simp [n,j_]
      first | exact⟨aP rfl,fun x a=>by omega⟩ | exact fun x a=>by omega
     ·have j:=sb (l[k].al.take i) l[k].al[i];rw [tg] at j;by_cases G:l[k].al[i]∈l[k].al.take i
      ·rw [ab (fun h=>h.2 G),eN] at d;refine aK [.ret (dB true)] ?_;simp [G] at j;simp [t,B];refine⟨by omega,j,i+1,by omega,by omega,[],[],?_⟩;rw [d];simp [n,j_]
       first | exact⟨aP rfl,fun x a=>by omega⟩ | exact fun x a=>by omega
      ·rw [aj ⟨B,G⟩] at d;have b2:=Fa M (dw l k++(l[k].tx,2)::ey l[k] i);have I:dw l k++(l[k].tx,2)::ey l[k] (i+1)=(dw l k++(l[k].tx,2)::ey l[k] i)++[(l[k].al[i],1)]:=by rw [d];simp
       have f:=LS M (dw l k++(l[k].tx,2)::ey l[k] i) l[k].al[i] 1;rw [<- I] at f;generalize kS M (dw l k++(l[k].tx,2)::ey l[k] i)=U at *;have hu:¬ U.2<0:=by omega
       simp [G] at j;refine aK [.ret (dB false)] ?_;simp [t,B];refine⟨by omega,j,?_⟩;refine ah [] ?_;rcases LY M U l[k].al[i] b2 with ⟨q,r⟩ | ⟨q,C,r⟩ | ⟨m9,q,C,L,r⟩ | ⟨m9,q,C,L,r⟩
       ·rw [r] at f;simp [fi q];refine⟨i+1,by omega,by omega,[],[],?_⟩;simp [n,j_,f]
        first | exact⟨aP rfl,fun x a=>by omega⟩ | exact fun x a=>by omega
       ·rw [r] at f;simp [q,nM,C,hu];refine⟨i+1,by omega,by omega,[],[],?_⟩;simp [n,j_,f]
        first | exact⟨aP rfl,fun x a=>by omega⟩ | exact fun x a=>by omega
       ·rw [r] at f;simp [q,nM,C,L];refine⟨i+1,by omega,by omega,[],[],?_⟩;simp [n,j_,f]
        first | exact⟨aP rfl,fun x a=>by omega⟩ | exact fun x a=>by omega
       ·rw [r] at f;simp [q,nM,C,L];refine⟨rfl,i+1,by omega,by omega,[],[],?_⟩;simp [n,j_,f]
        first | exact⟨aP rfl,fun x a=>by omega⟩ | exact fun x a=>by omega
    ·have p:i=l[k].al.length:=by omega
     have J:dw l (k+1)=dw l k++(l[k].tx,2)::ey l[k] i:=by rw [dw,aI g,p];rfl
     rw [<- J];simp [t];refine⟨k+1,by omega,by omega,[],[],?_⟩;simp [H,j_]
     first | exact⟨aP rfl,fun x a=>by omega⟩ | exact fun x a=>by omega
  ·have p:k=l.length:=by omega
   subst p;have c0:=Fa M (dw l l.length);generalize A:kS M (dw l l.length)=R at *;have D:=acF M;simp [g];unfold uo;cases b:iZ M [] with
   | none =>
    rw [b] at D;have K:¬ R.2<0:=by omega
    simp [D,K,z,A,b]
   | some m =>
    rw [b] at D;by_cases s:R.2<m
    ·simp [D,s,z,A,b];exact aP rfl
    ·simp [D,s,z,A,b]
theorem acH(l:List (List Ce)):PC 53 [.sl 1 (l.map b'),.fn (.func 58) [] []] (.ret (dB (l.any fun x=>decide (16<x.length)))):=LD (az:=[]) acA l
theorem acI(l:List Ce):PC 60 [b' l,.fn (.func 59) [] []] (.ret (dB (l.any jY))):=acx (az:=[]) acB l
def ur(n:Nat)(x:List Ce):Bool:=decide (x.length=n)&&(decide (¬ eT x=[])&&!x.any jY)
def nN(l:List (List Ce)):List B8:=(l.map iD).filter fun s=>decide (¬ s=[])
theorem acJ{x:List Ce}(h:x.any jY=false):∀ c∈x,c.al.length<=4:=fun c b=>by
 rw [hv] at h;have a:=h c b;unfold jY hL at a;by_cases q:c.al.length<=4
 ·exact q
 ·exfalso;apply a;have:0<c.al.length:=by omega
  simp [q,this]
def i_:List (List Ce)->Nat->List Nat
 | [],_=>[]
 | x::r,i=>if iD x=[] then i_ r (i+1) else i::i_ r (i+1)
theorem acK{l:List (List Ce)}{k:Nat}(h:k<l.length):nN (l.take (k+1))=nN (l.take k)++(if iD l[k]=[] then [] else [iD l[k]]):=by unfold nN;rw [fR h,dc,q'];by_cases q:iD l[k]=[] <;> simp [q]
theorem LZ:∀ (a b:List (List Ce)) (i:Nat),i_ (a++b) i=i_ a i++i_ b (i+a.length)
 | [],b,i=>rfl
 | x::a,b,i=>by have c:=LZ a b (i+1);simp only [dX,i_,c];rw [show i+1+a.length=i+(x::a).length by simp;omega];split <;> rfl
theorem acL{l:List (List Ce)}{k:Nat}(h:k<l.length):i_ (l.take (k+1)) 0=i_ (l.take k) 0++(if iD l[k]=[] then [] else [k]):=by rw [fR h,LZ];simp only [i_,lp,th (s_ h),bC]
theorem acM(l:List (List Ce))(k:Nat):(nN (l.take k)).length<=k:=by unfold nN;refine eX (lV _ _) ?_;simp;omega
theorem L_:∀ (l:List (List Ce)) (i:Nat),(i_ l i).length<=l.length
 | [],_=>bj _
 | x::l,i=>by have:=L_ l (i+1);rw [i_];split <;> simp <;> omega
theorem L'{n:Nat}{x:List Ce}(h:ur n x=true):x.length=n/\¬ eT x=[]/\x.any jY=false:=by unfold ur at h;simp only [ax,bD,ko] at h;exact h
theorem acN(n:Nat)(l:List (List Ce))(F:l.length<=1024)(G:n<=16)(m:∀ x∈l,ur n x=true):PC 20 [.sl 1 (l.map b')] (.ret (.af [.sl 1 ((nN l).map dT),.sl 1 ((i_ l 0).map fun k:Nat=>dI k),dI 0])):=by
 refine aG aH Ym (by simp [a20]) fun H=>?_
 have f:=fun k (h:k<l.length)=>L' (m l[k] (cN h))
 have o:=acH l;have v:(l.any fun x=>decide (16<x.length))=false:=by rw [hv];intro x w;have:=(L' (m x w)).1;simp;omega
 rw [v] at o;simp [a20];refine ah [.ret (dB false)] ?_;simp [show ¬ (1024:Int)<(l.length:Int) by omega];refine⟨o,?_⟩;refine bm [0,2,3,6,20,21] Nat (fun y=>[(22,true,.d (dI y))]) (fun y=>[]) (fun y=>y<=l.length) (fun y=>l.length-y) 0 (bp _) ⟨[],[],?_⟩ (fun k I=>?_)
 ·simp
 by_cases b:k<l.length
 ·have c:=wS k (by omega);obtain⟨p,g,j⟩:=f k b;have s:0<l.length:=by omega
  obtain⟨z,_,_⟩:=f 0 s;have A:=LF l[k];have t:=acI l[k];rw [j] at t;have B:(eT l[k]).isEmpty=false:=by
   cases h:eT l[k] with
   | nil=>exact absurd h g
   | cons a r=>rfl
  simp [b];refine ah [.ret (dT (eT l[k])),.ret (dB false)] ?_;simp [b,s,b',p,z,dT,g,B];refine⟨A,t,?_⟩;refine⟨k+1,by omega,by omega,[],[],?_⟩;simp [c]
 ·have u:k=l.length:=by omega
  simp [b];refine bm [0,6,44,45] Nat (fun y=>[(46,true,.d (dI y)),(2,true,.own 0 1 ((nN (l.take y)).map dT)),(3,true,.own 1 1 ((i_ (l.take y) 0).map fun k:Nat=>dI k))]) (fun y=>[(0,.row),(1,.row)]) (fun y=>y<=l.length) (fun y=>l.length-y) 0 (bp _) ⟨[],[(0,1),(1,1)],?_⟩ (fun i J=>?_)
  ·simp [nN,i_]
  by_cases b:i<l.length
  ·have c:=wS i (by omega);obtain⟨p,g,j⟩:=f i b;have C:=acG l[i] (by omega) (acJ j);have K:=acM l i;have D:=L_ (l.take i) 0;simp only [lp] at D;have d:=acK b;have e:=acL b;simp [b];refine ah [.ret (dT (iD l[i]))] ?_;simp;refine⟨C,?_⟩;by_cases q:iD l[i]=[]
   ·rw [aj q,eN] at d e;simp [dT,q];refine⟨i+1,by omega,by omega,[],[],?_⟩;rw [d,e];simp [c]
   ·rw [ab q] at d e;have E:(iD l[i]).isEmpty=false:=by
     cases h:iD l[i] with
     | nil=>exact absurd h q
     | cons a r=>rfl
    simp [dT,q,E];refine⟨⟨by omega,by omega⟩,⟨by omega,by omega⟩,i+1,by omega,by omega,[(0,3),(1,5)],[],?_⟩;rw [d,e];simp [c];rfl
  ·have u:i=l.length:=by omega
   subst u;simp [b]
end
section
def jw:List B8->List B8->Nat
 | [],[]=>0
 | _::a,[]=>1+jw a []
 | [],_::b=>1+jw [] b
 | x::a,y::b=>min (min ((if x=y then 0 else 1)+jw a b) (1+jw a (y::b))) (1+jw (x::a) b)
termination_by a b=>a.length+b.length
theorem wO:∀ a b:List B8,jw a b<=a.length+b.length
 | [],[]=>by rw [jw];simp
 | x::a,[]=>by have:=wO a [];rw [jw];simp at this |-;omega
 | [],y::b=>by have:=wO [] b;rw [jw];simp at this |-;omega
 | x::a,y::b=>by have:=wO (x::a) b;rw [jw];simp only [bN] at this |-;omega
termination_by a b=>a.length+b.length
def tb(a b:List B8)(i k:Nat):Int:=jw (a.drop i) (b.drop k)
theorem zj(a b:List B8)(i k:Nat):0<=tb a b i k:=Int.natCast_nonneg _
theorem nO(a b:List B8)(i k:Nat)(c:a.length<=64)(d:b.length<=64):tb a b i k<=128:=by have:=wO (a.drop i) (b.drop k);unfold tb;simp at this;omega
theorem zk(a b:List B8)(i k:Nat):tb a b i k<=((a.length-i:Nat):Int)+((b.length-k:Nat):Int):=by have:=wO (a.drop i) (b.drop k);unfold tb;simp only [jj] at this;omega
theorem acO(a b:List B8):tb a b a.length b.length=0:=by unfold tb;simp [jw]
def my(a b:List B8)(i k:Nat):Nat->Int->Int
 | 0,v=>if hM a b i k=true then min v (0+tb a b (i+1) (k+1)) else v
 | 1,v=>if hO a b i k=true then min v (1+tb a b (i+1) (k+1)) else v
 | 2,v=>if i<a.length then min v (1+tb a b (i+1) k) else v
 | _,v=>if k<b.length then min v (1+tb a b i (k+1)) else v
def ps(a b:List B8)(i k:Nat):Nat->Int
 | 0=>128
 | n+1=>my a b i k n (ps a b i k n)
theorem Ma{a b:List B8}{i k:Nat}(j:a.length<=64)(l:b.length<=64)(o:i<=a.length)(p:k<=b.length)(n:¬ (i=a.length/\k=b.length)):ps a b i k 4=tb a b i k:=by
 have r:=nO a b i k j l;have s:=nO a b (i+1) (k+1) j l;simp only [ps,my];rcases bB i a.length with d | d
 ·have m:a.drop i=a[i]::a.drop (i+1):=fF d;rcases bB k b.length with c | c
  ·have h:b.drop k=b[k]::b.drop (k+1):=fF c;have e:hM a b i k=decide (a[i]=b[k]):=by unfold hM;rw [aI d,aI c]
   have f:hO a b i k=decide (¬ a[i]=b[k]):=by unfold hO;rw [aI d,aI c]
   have g:tb a b i k=min (min ((if a[i]=b[k] then 0 else 1)+tb a b (i+1) (k+1)) (1+tb a b (i+1) k)) (1+tb a b i (k+1)):=by unfold tb;rw [m,h,jw];split <;> omega
   rw [e,f,aj d,aj c];by_cases q:a[i]=b[k]
   ·simp only [q,Hw,eA,PS,decide_false,hq,eM] at g |-;omega
   ·simp only [q,decide_false,hq,eM,not_false_eq_true,Hw,eA] at g |-;omega
  ·have t:k=b.length:=by omega
   have e:hM a b i k=false:=by unfold hM;rw [aI d,cb c]
   have f:hO a b i k=false:=by unfold hO;rw [aI d,cb c]
   have g:tb a b i k=1+tb a b (i+1) k:=by unfold tb;rw [vj c,m,jw];omega
   rw [e,f,aj d,ab (by omega)];simp only [hq,eM];omega
 ·have u:i=a.length:=by omega
  rcases bB k b.length with c | c
  ·have h:b.drop k=b[k]::b.drop (k+1):=fF c;have e:hM a b i k=false:=by unfold hM;rw [cb d]
   have f:hO a b i k=false:=by unfold hO;rw [cb d]
   have g:tb a b i k=1+tb a b i (k+1):=by unfold tb;rw [vj d,h,jw];omega
   rw [e,f,ab (show ¬ i<a.length by omega),aj c];simp only [hq,eM];omega
  ·exact absurd ⟨by omega,by omega⟩ n
def tk(a b:List B8)(i k:Nat):Nat->Bool
 | 0=>hM a b i k&&decide (tb a b i k=tb a b (i+1) (k+1))
 | 1=>hO a b i k&&decide (tb a b i k=1+tb a b (i+1) (k+1))
 | 2=>decide (i<a.length)&&decide (tb a b i k=1+tb a b (i+1) k)
 | _=>decide (k<b.length)&&decide (tb a b i k=1+tb a b i (k+1))
theorem acP{a b:List B8}{i k:Nat}(d:a.length<=64)(e:b.length<=64)(o:i<=a.length)(p:k<=b.length)(q:¬ (i=a.length/\k=b.length))(f:tk a b i k 0=false)(g:tk a b i k 1=false)(l:tk a b i k 2=false):tk a b i k 3=true:=by
 have h:=Ma d e o p q;have t:=nO a b i k d e;have u:=nO a b (i+1) (k+1) d e;have v:=nO a b (i+1) k d e;have w:=nO a b i (k+1) d e;simp only [tk,PT,PO,ax,bD] at f g l |-;have x:=zk a b i k;have y:=zk a b (i+1) (k+1);have z:=zk a b (i+1) k;have A:=zk a b i (k+1);simp only [ps,my] at h;rcases bB k b.length with j | j
 ·refine⟨j,?_⟩;rw [aj j] at h;have f:hM a b i k=true->¬ tb a b i k=tb a b (i+1) (k+1):=fun c=>f.resolve_left (by rw [c];simp)
  have g:hO a b i k=true->¬ tb a b i k=1+tb a b (i+1) (k+1):=fun c=>g.resolve_left (by rw [c];simp)
  by_cases m:hM a b i k=true <;> by_cases n:hO a b i k=true <;> by_cases c3:i<a.length <;> (try have f:=f m) <;> (try have g:=g n) <;> simp only [m,n,c3,eA,eM,hq,false_or,PS,true_or,not_false_eq_true] at h l <;> simp only [Int.min_def] at h <;> (repeat' split at h) <;> omega
 ·exfalso;have r:hM a b i k=false:=by unfold hM;rw [cb j];split <;> simp_all
  have s:hO a b i k=false:=by unfold hO;rw [cb j];split <;> simp_all
  have c3:i<a.length:=by omega
  rw [r,s,ab (by omega),aj c3] at h;simp only [hq,eM] at h;simp only [c3,PS,false_or] at l;omega
def nx(i k:Nat):Nat->Nat×Nat
 | 0=>(i+1,k+1)
 | 1=>(i+1,k+1)
 | 2=>(i+1,k)
 | _=>(i,k+1)
def ez:List Nat->Nat->Nat->Prop
 | [],m,n=>m=0/\n=0
 | 1::p,m+1,n+1=>ez p m n
 | 2::p,m+1,n+1=>ez p m n
 | 3::p,m+1,n=>ez p m n
 | 4::p,m,n+1=>ez p m n
 | _,_,_=>False
def gF(a b:List B8)(i k:Nat):Nat:=if tk a b i k 0=true then 0 else if tk a b i k 1=true then 1 else if tk a b i k 2=true then 2 else 3
def i'(a b:List B8):Nat->Nat->Nat->List Nat
 | 0,_,_=>[]
 | f+1,i,k=>if i=a.length/\k=b.length then [] else (gF a b i k+1)::i' a b f (nx i k (gF a b i k)).1 (nx i k (gF a b i k)).2
def nP(a b:List B8):List Nat:=i' a b (a.length+b.length) 0 0
theorem zl{a b:List B8}{i k:Nat}(q:a.length<=64)(r:b.length<=64)(s:i<=a.length)(t:k<=b.length)(u:¬ (i=a.length/\k=b.length)):tk a b i k (gF a b i k)=true/\(∀ j,j<gF a b i k->tk a b i k j=false)/\gF a b i k<=3/\(nx i k (gF a b i k)).1<=a.length/\(nx i k (gF a b i k)).2<=b.length:=by
 have v:=acP q r s t u;have f:∀ n,tk a b i k n=true->n<=3->(nx i k n).1<=a.length/\(nx i k n).2<=b.length:=fun n h w=>by
  match n,w with
  | 0,_ =>
   simp only [tk,hM,ax] at h;obtain⟨h,_⟩:=h;split at h
   ·rename_i x y g l;have:=(bu.1 g).1;have:=(bu.1 l).1;simp only [nx];omega
   ·cases h
  | 1,_ =>
   simp only [tk,hO,ax] at h;obtain⟨h,_⟩:=h;split at h
   ·rename_i x y g l;have:=(bu.1 g).1;have:=(bu.1 l).1;simp only [nx];omega
   ·cases h
  | 2,_=>simp only [tk,ax,bD] at h;simp only [nx];omega
  | 3,_=>simp only [tk,ax,bD] at h;simp only [nx];omega
 unfold gF;by_cases c:tk a b i k 0=true
 ·rw [aj c];exact⟨c,fun j m=>by omega,by omega,f 0 c (by omega)⟩
 rw [ab c];have o:tk a b i k 0=false:=by simpa using c
 by_cases q1:tk a b i k 1=true
 ·rw [aj q1];exact⟨q1,fun j m=>(show j=0 by omega) ▸ o,by omega,f 1 q1 (by omega)⟩
 rw [ab q1];have z:tk a b i k 1=false:=by simpa using q1
 by_cases d:tk a b i k 2=true
 ·rw [aj d];exact⟨d,fun j m=>by rcases (show j=0\/j=1 by omega) with e | e <;> rw [e] <;> assumption,by omega,f 2 d (by omega)⟩
 rw [ab d];have A:tk a b i k 2=false:=by simpa using d
 have p:=v o z A;exact⟨p,fun j m=>by rcases (show j=0\/j=1\/j=2 by omega) with e | e | e <;> rw [e] <;> assumption,by omega,f 3 p (by omega)⟩
theorem wP{a b:List B8}(d:a.length<=64)(g:b.length<=64):∀ (f i k:Nat),i<=a.length->k<=b.length->(a.length-i)+(b.length-k)<=f->ez (i' a b f i k) (a.length-i) (b.length-k)
 | 0,i,k,m,o,p=>by rw [i'];exact⟨by omega,by omega⟩
 | f+1,i,k,m,o,p=>by
  rw [i'];split
  ·rename_i h;exact⟨by omega,by omega⟩
  ·rename_i q;obtain⟨r,_,s,j,l⟩:=zl d g m o q;generalize gF a b i k=n at *;rcases (show n=0\/n=1\/n=2\/n=3 by omega) with e | e | e | e <;> subst e <;> simp only [nx] at j l |-
   ·have c:=wP d g f (i+1) (k+1) j l (by omega);rw [show a.length-i=(a.length-(i+1))+1 by omega,show b.length-k=(b.length-(k+1))+1 by omega];exact c
   ·have c:=wP d g f (i+1) (k+1) j l (by omega);rw [show a.length-i=(a.length-(i+1))+1 by omega,show b.length-k=(b.length-(k+1))+1 by omega];exact c
   ·have c:=wP d g f (i+1) k j o (by omega);rw [show a.length-i=(a.length-(i+1))+1 by omega];exact c
   ·have c:=wP d g f i (k+1) m l (by omega);rw [show b.length-k=(b.length-(k+1))+1 by omega];exact c
theorem acQ{a b:List B8}(c:a.length<=64)(d:b.length<=64):ez (nP a b) a.length b.length:=by have:=wP c d (a.length+b.length) 0 0 (bp _) (bp _) (by omega);simpa [nP] using this
def j'(r:List Int):HO:=.box true (r.map fun x=>.d (dI x))
def ca(n:Nat)(g:Nat->List Int):List (Nat×HO):=(List.range n).map fun i=>(100+i,j' (g i))
theorem Mb(f:Nat->HO)(L:List (Nat×HO)):∀ (l:List Nat) (m:Nat),AL.look (l.map (fun i=>(100+i,f i))++L) m=if 100<=m/\m-100∈l then some (f (m-100)) else AL.look L m
 | [],m=>by simp
 | i::l,m=>by
  have d:=Mb f L l m;simp only [bo,dX,AL.look,d];by_cases e:m=100+i
  ·subst e;simp
  ·rw [ab e];have:(100<=m/\m-100∈i::l)↔(100<=m/\m-100∈l):=by
    constructor
    ·rintro⟨a,b⟩;rcases b_.1 b with c | c
     ·omega
     ·exact⟨a,c⟩
    ·rintro⟨a,b⟩;exact⟨a,cD _ b⟩
   simp only [this]
theorem Fe(n:Nat)(g:Nat->List Int)(L:List (Nat×HO))(m:Nat):AL.look (ca n g++L) m=if 100<=m/\m-100<n then some (j' (g (m-100))) else AL.look L m:=by unfold ca;rw [Mb (fun i=>j' (g i))];simp only [di]
theorem tT{n:Nat}{g:Nat->List Int}{L:List (Nat×HO)}{i:Nat}(h:i<n):AL.look (ca n g++L) (100+i)=some (j' (g i)):=by rw [Fe,aj ⟨by omega,by omega⟩];congr 2;congr 1;omega
theorem qC{n:Nat}{g:Nat->List Int}{L:List (Nat×HO)}{m:Nat}(h:m<100):AL.look (ca n g++L) m=AL.look L m:=by rw [Fe,ab (by omega)]
theorem uu{n:Nat}{g:Nat->List Int}{L:List (Nat×HO)}{m:Nat}(a:n<=65)(h:165<=m):AL.look (ca n g++L) m=AL.look L m:=by rw [Fe,ab (by omega)]
theorem zm(f:Nat->HO)(L:List (Nat×HO))(o:HO):∀ (l:List Nat) (m:Nat),l.Nodup->aM (l.map (fun i=>(100+i,f i))++L) m o=if 100<=m/\m-100∈l then l.map (fun i=>(100+i,if i=m-100 then o else f i))++L else l.map (fun i=>(100+i,f i))++aM L m o
 | [],m,_=>by simp
 | i::l,m,c=>by
  have a:=vi.1 c;have d:=zm f L o l m a.2;simp only [bo,dX,aM,d];by_cases e:m=100+i
  ·subst e;have g:l.map (fun j=>(100+j,if j=100+i-100 then o else f j))=l.map (fun j=>(100+j,f j)):=jF fun j k=>by rw [ab];intro h;apply a.1;rw [show i=j by omega];exact k
   rw [aj rfl,aj ⟨by omega,by simp⟩,g];simp
  ·rw [ab e];by_cases q:100<=m/\m-100∈l
   ·rw [aj q,aj ⟨q.1,cD _ q.2⟩,ab (show ¬ i=m-100 by omega)]
   ·rw [ab q,ab];rintro⟨n,p⟩;rcases b_.1 p with b | b
    ·omega
    ·exact q ⟨n,b⟩
theorem Cs{n:Nat}{g:Nat->List Int}{L:List (Nat×HO)}{i:Nat}(h:i<n)(r:List Int):aM (ca n g++L) (100+i) (j' r)=ca n (fun j=>if j=i then r else g j)++L:=by
 unfold ca;rw [zm (fun i=>j' (g i)) L _ _ _ xN,aj ⟨by omega,by simp;omega⟩];congr 1;refine jF fun j _=>?_
 by_cases e:j=i
 ·subst e;simp
 ·simp only [e,eM];rw [ab (by omega)]
theorem wQ{n:Nat}{g:Nat->List Int}{L:List (Nat×HO)}{m:Nat}(h:m<100)(o:HO):aM (ca n g++L) m o=ca n g++aM L m o:=by unfold ca;rw [zm (fun i=>j' (g i)) L _ _ _ xN,ab (by omega)]
theorem wR{n:Nat}{g:Nat->List Int}{L:List (Nat×HO)}{m:Nat}(a:n<=65)(h:165<=m)(o:HO):aM (ca n g++L) m o=ca n g++aM L m o:=by unfold ca;rw [zm (fun i=>j' (g i)) L _ _ _ xN,ab (by simp;omega)]
theorem wT{n:Nat}{g:Nat->List Int}{L:List (Nat×HO)}(f:n<=65)(h:165<=newName L):newName (ca n g++L)=newName L:=by
 have b:∀ l:List Nat,(∀ i∈l,i<65)->newName (l.map (fun i=>(100+i,j' (g i)))++L)=newName L:=fun l=>by
  induction l with
  | nil=>intro _;rfl
  | cons i l c =>intro a;have:=a i (by simp);simp only [bo,dX,newName,c (fun j d=>a j (by simp [d]))];omega
 exact b _ (fun i e=>by have:=di.1 e;omega)
theorem zn{n:Nat}{g:Nat->List Int}{L:List (Nat×HO)}{m:Nat}:m∈ai (ca n g++L)↔(100<=m/\m<100+n)\/m∈ai L:=by
 unfold ai ca;simp only [dc,dA,cV,aS,di,Function.comp];constructor
 ·rintro(⟨i,a,rfl⟩ | h)
  ·exact .inl ⟨by omega,by omega⟩
  ·exact .inr h
 ·rintro(⟨a,b⟩ | h)
  ·exact .inl ⟨m-100,by omega,by omega⟩
  ·exact .inr h
theorem wU{c d:List (Nat×Nat)}{e:St}{h:List (Nat×HO)}:∀ {a b:List (Nat×HO)},fX c d e h a->fX c d e h b->fX c d e h (a++b)
 | [],b,_,f=>f
 | (n,o)::a,b,g,f=>⟨g.1,wU g.2 f⟩
theorem acR(r:List Int):∀ c∈r.map fun x=>AV.d (dI x),c.one=true:=fun c a=>by obtain⟨x,_,rfl⟩:=aS.1 a;rfl
theorem acS(a:Nat->Nat)(N:Nat->Option Nat)(b:Nat->Bool)(k:Nat)(r:List Int):aq.ba a N b k (r.map fun x=>.d (dI x)) (r.map fun x=>.d (dI x)):=by have:=js a N b k (r.map fun x=>dI x);simpa [dA,vh] using this
theorem Mc{a:St}{h:List (Nat×HO)}{n:Nat}{g:Nat->List Int}{b:List (Nat×Nat)}(d:∀ i,i<n->AL.look a.h (aw b (100+i))=some (j' (g i))):fX b [] a h (ca n g):=by
 have e:∀ l:List Nat,(∀ i∈l,i<n)->fX b [] a h (l.map fun i=>(100+i,j' (g i))):=fun l=>by
  induction l with
  | nil=>intro _;trivial
  | cons i l f =>intro c;refine⟨?_,f fun j k=>c j (by simp [k])⟩;refine⟨rfl,?_⟩;rw [d i (c i (by simp))];exact⟨acS _ _ _ _ _,acR _⟩
 exact e _ fun i m=>di.1 m
theorem fc(n:Nat):aw [] n=n:=rfl
theorem ka{B n:Nat}{g:Nat->List Int}{s c:List (Nat×Bool×AV)}{L a:List (Nat×HO)}{d:List DE}(f:jQ [] [] ⟨s,ca n g++L,d⟩ (ca n g++a) c)(j:fX [] [] ⟨s,ca n g++L,d⟩ (ca n g++a) a)(k:∀ m∈ai L,m<B->m∈ai a)(l:ma [] [] (ca n g++a) d d) :
  Sub B ⟨s,ca n g++L,d⟩ ⟨c,ca n g++a,d⟩:=by
 refine⟨[],[],?_,f,wU (Mc fun i o=>?_) j,?_,l⟩
 ·simp only [fc,bQ];intro x _ y _;by_cases e:x=y <;> simp [e]
 ·rw [fc,tT o]
 ·simp only [bQ,di];intro m p;by_cases q:m∈ai (ca n g++L)
  ·have r:m∈ai (ca n g++a):=by rw [zn] at q |-;exact q.imp id fun h=>k m h p
   have b:(ai (ca n g++a)).contains m=true:=od r;show (!(ai (ca n g++L)).contains m||(aw [] m == m&&((bc [] m).isNone&&(ai (ca n g++a)).contains m)))=true;rw [b];simp [fc,bc]
  ·have b:(ai (ca n g++L)).contains m=false:=by rw [PN];intro t;exact q (vl t)
   show (!(ai (ca n g++L)).contains m||(aw [] m == m&&((bc [] m).isNone&&(ai (ca n g++a)).contains m)))=true;rw [b];rfl
theorem jx{P:Program}{a:Cx}{Q:AE->St->Prop}{g:St}{b:AC}(X:Type)(c:X->St)(I:X->Prop)(d:X->Nat)(e:X)(i:I e)(j:Sub a.B g (c e))(h:∀ x,I x->bL P a b (fp (fun k=>∃ f,I f/\d f<d x/\Sub a.B k (c f)) Q) (c x)):bL P a (.loop b) Q g:=by rw [eR] at h |-;exact⟨X,c,I,d,⟨e,i,j⟩,h⟩
end
section
attribute [local simp] cK cI cJ cG cH cd bS cA EX EY EZ LG LH LI
def ie(a b:List B8):D:=.sl 1 ((List.range (a.length+1)).map fun i=>.sl 1 ((List.range (b.length+1)).map fun k=>dI (tb a b i k)))
theorem acT(a b:List B8):PC 175 [fL a b] (.ret (.fn (.func 214) [] [.ip (fL a b)])):=by
 refine oM kC aav (by simp [a175]) 4 fun c=>?_
 simp [a175,fL]
def eU(b a y:Nat):List AV:=(List.range (b+1)).map fun i=>if i<y then .aE (100+i) 0 1 (a+1) (a+1) else .d (.nil 1)
theorem pe(a b y:Nat):(eU a b y).length=a+1:=by simp [eU]
theorem acU(a b:Nat):wr (List.replicate (a+1) (.nil 1))=eU a b 0:=by unfold wr eU;rw [lv _ (fun d c=>by rw [xE c];rfl)];simp only [pG,eM,List.map_replicate];refine Hy (by simp) fun i e f=>by simp
def lF(a b:List B8):HO:=.box true [.d (.sl 1 (a.map dT)),.d (.sl 1 (b.map dT))]
def lG(a:Nat):List Int:=List.replicate (a+1) 0
theorem ja(a b y:Nat):∀ c∈eU a b y,c.one=true:=fun c d=>by obtain⟨i,_,rfl⟩:=aS.1 d;split <;> rfl
theorem tW{a:Nat->Nat}{N:Nat->Option Nat}{b:Nat->Bool}{k:Nat}:∀ {x y:List AV},x.length=y.length->(∀ (i:Nat) (c d:AV),x[i]?=some c->y[i]?=some d->aq a N b k c d)->aq.ba a N b k x y
 | [],[],_,_=>by rw [Cp];trivial
 | [],_::_,h,_=>by simp at h
 | _::_,[],h,_=>by simp at h
 | c::x,d::y,h,e=>by rw [Cq];exact⟨e 0 c d rfl rfl,tW (by simpa using h) fun i c d f g=>e (i+1) c d (by simpa using f) (by simpa using g)⟩
theorem acV(a:Nat):HO.box true (wr (List.replicate (a+1) (.lit (.int .i64 0))))=j' (lG a):=by unfold j' wr lG;rw [lv _ (fun d b=>by rw [xE b];rfl)];simp [dI]
theorem acW{f a y:Nat}{X:HO}{s p:List (Nat×Bool×AV)}(G:y<f+1)(H:f<=64)(x:∃ b:List D,X=.box true (b.map .d)/\∀ d∈b,d.one=true)(z:∀ r:St,r.s=s->jQ [(100+y,166)] [] r (ca (y+1) (fun _=>lG a)++[(0,X),(1,X),(2,.box true (eU f a (y+1))),(165,.dead)]) p) :
  Sub 1 ⟨s,ca y (fun _=>lG a)++[(0,X),(1,X),(2,.box true ((eU f a y).set y (.aE 166 0 1 (a+1) (a+1)))),(165,.dead),(166,.box true (wr (List.replicate (a+1) (.lit (.int .i64 0)))))],[]⟩
   ⟨p,ca (y+1) (fun _=>lG a)++[(0,X),(1,X),(2,.box true (eU f a (y+1))),(165,.dead)],[]⟩:=by
 obtain⟨b,rfl,A⟩:=x;have g:∀ n,aw [(100+y,166)] n=if n=100+y then 166 else n:=fun n=>by unfold aw bc bc;split <;> rfl
 have j:∀ n,n∈ai (ca (y+1) (fun _=>lG a)++[(0,HO.box true (b.map .d)),(1,.box true (b.map .d)),(2,.box true (eU f a (y+1))),(165,.dead)])↔(100<=n/\n<100+(y+1))\/n=0\/n=1\/n=2\/n=165:=fun n=>by rw [zn];simp [ai]
 have t:∀ n,(100<=n/\n<100+(y+1))\/n=0\/n=1\/n=2\/n=165->bg [] (ca (y+1) (fun _=>lG a)++[(0,HO.box true (b.map .d)),(1,.box true (b.map .d)),(2,.box true (eU f a (y+1))),(165,.dead)]) n=true:=fun n k=>by unfold bg;simp only [ax];exact⟨od ((j n).2 k),rfl⟩
 have u:∀ c∈b.map AV.d,c.one=true:=fun c B=>by obtain⟨d,C,rfl⟩:=aS.1 B;exact A d C
 refine⟨[(100+y,166)],[],?_,z _ rfl,wU (Mc fun i I=>?_) ?_,?_,trivial⟩
 ·simp only [bQ,g];intro n k m E;rw [j] at k E;by_cases e:n=m
  ·subst e;simp
  ·have:(if n=100+y then 166 else n)≠(if m=100+y then 166 else m):=by split <;> split <;> omega
   simp [this]
 ·rw [g];by_cases e:i=y
  ·subst e;rw [aj rfl,uu (by omega) (by omega)];simp [AL.look,acV]
  ·rw [ab (by omega),tT (by omega)]
 ·refine⟨⟨rfl,?_⟩,⟨rfl,?_⟩,⟨rfl,?_⟩,trivial,trivial⟩
  ·rw [g,ab (by omega),qC (by omega)];exact⟨js _ _ _ _ _,u⟩
  ·rw [g,ab (by omega),qC (by omega)];exact⟨js _ _ _ _ _,u⟩
  ·rw [g,ab (by omega),qC (by omega)];refine⟨tW (by simp [pe]) fun i c d h v=>?_,ja _ _ _⟩;have l:i<f+1:=by have:=(bu.1 v).1;rwa [pe] at this
   have o:d=if i<y+1 then .aE (100+i) 0 1 (a+1) (a+1) else .d (.nil 1):=by have:=v;unfold eU at this;simp [l] at this;exact this.symm
   by_cases e:i=y
   ·subst e;rw [AP (by rw [pe];exact l)] at h;injection h with h
    rw [<- h,o,aj (by omega),v_,g,aj rfl];exact⟨rfl,rfl,rfl,rfl,rfl,t _ (by omega)⟩
   ·rw [PK (gV e)] at h;have w:c=if i<y then .aE (100+i) 0 1 (a+1) (a+1) else .d (.nil 1):=by have:=h;unfold eU at this;simp [l] at this;exact this.symm
    by_cases q:i<y
    ·rw [w,o,aj q,aj (by omega),v_,g,ab (by omega)];exact⟨rfl,rfl,rfl,rfl,rfl,t _ (by omega)⟩
    ·rw [w,o,ab q,ab (by omega),Co];exact aB.refl _
 ·have F:(ai (ca (y+1) (fun _=>lG a)++[(0,HO.box true (b.map .d)),(1,.box true (b.map .d)),(2,.box true (eU f a (y+1))),(165,.dead)])).contains 0=true:=od ((j 0).2 (by omega));simp only [List.range_one,jG,AU,Hz,g];rw [F,ab (by omega)];simp [bc]
theorem Ff{n:Nat}{g a:Nat->List Int}(h:∀ i,i<n->g i=a i):ca n g=ca n a:=jF fun i b=>by rw [h i (di.1 b)]
theorem acX{n:Nat}{g:Nat->List Int}{L:List (Nat×HO)}{i:Nat}(h:i<n):bg [] (ca n g++L) (100+i)=true:=by unfold bg;simp only [ax];exact⟨od (zn.2 (.inl ⟨by omega,by omega⟩)),rfl⟩
theorem acY{a b k:Nat}{h:List (Nat×HO)}(j:∀ i,i<a+1->bg [] h (100+i)=true):aq.ba (aw []) (cj [] h) (bg [] h) k (eU a b (a+1)) (eU a b (a+1))=True:=by
 refine fi (tW rfl fun i c d f e=>?_);rw [f] at e;injection e with e;subst e
 have g:i<a+1:=by have:=(bu.1 f).1;rwa [pe] at this
 have l:c=.aE (100+i) 0 1 (b+1) (b+1):=by have:=f;unfold eU at this;simp [g] at this;exact this.symm
 rw [l,v_];exact⟨rfl,rfl,rfl,rfl,rfl,j i g⟩
theorem acZ{a b k:Nat}{g:Nat->List Int}{L:List (Nat×HO)}:aq.ba (aw []) (cj [] (ca (a+1) g++L)) (bg [] (ca (a+1) g++L)) k (eU a b (a+1)) (eU a b (a+1))=True:=acY fun _ c=>acX c
theorem ac0(a b:Nat):cq (eU a b (a+1))=none:=by unfold eU;rw [PU,bo,aj (by omega),JE]
theorem Md{h:List (Nat×HO)}{k:Nat}:∀ {x:List AV}{y:List D},x.length=y.length->(∀ (i:Nat) (c:AV) (d:D),x[i]?=some c->y[i]?=some d->cL h k c d)->cL.fJ h k x y
 | [],[],_,_=>by rw [yy];trivial
 | [],_::_,h,_=>by simp at h
 | _::_,[],h,_=>by simp at h
 | c::x,d::y,h,a=>by rw [yz];exact⟨a 0 c d rfl rfl,Md (by simpa using h) fun i c d b e=>a (i+1) c d (by simpa using b) (by simpa using e)⟩
theorem Fg{a b i:Nat}(h:i<a+1):(eU a b (a+1))[i]?=some (.aE (100+i) 0 1 (b+1) (b+1)):=by unfold eU;simp [h]
def TT(a b:List B8)(r c:Nat)(i:Nat):List Int:=(List.range (b.length+1)).map fun k=>if r<=i\/(i+1=r/\c<=k) then tb a b i k else 0
theorem Fh(a b:List B8)(r c i:Nat):(TT a b r c i).length=b.length+1:=by simp [TT]
theorem ac1(a b:List B8)(i:Nat)(h:i<a.length+1):TT a b (a.length+1) (b.length+1) i=lG b.length:=by
 unfold TT lG;refine Hy (by simp) fun k c d=>?_
 simp at c;simp only [HA,List.getElem_range,List.getElem_replicate];rw [ab (by omega)]
theorem Me{a b:List B8}{r c i k:Nat}(d:k<b.length+1)(e:r<=i\/(i+1=r/\c<=k)):(TT a b r c i)[k]?=some (tb a b i k):=by unfold TT;simp [d];omega
theorem ac2(a b:List B8)(r i:Nat):TT a b (r+1) 0 i=TT a b r (b.length+1) i:=by
 unfold TT;refine jF fun k c=>?_
 have:=di.1 c;by_cases h:r<=i
 ·rw [aj (by omega),aj (by omega)]
 ·rw [ab (by omega),ab (by omega)]
def UU(i k:Nat)(v:Int)(T:Nat->List Int):Nat->List Int:=fun j=>if j=i then (T j).set k v else T j
theorem ac3{i k:Nat}{v:Int}{T:Nat->List Int}(j:Nat):(UU i k v T j).length=(T j).length:=by unfold UU;split <;> simp
theorem Mf{i k:Nat}{v:Int}{T:Nat->List Int}(h:k<(T i).length):(UU i k v T i)[k]?=some v:=by unfold UU;simp [h]
theorem Mg{i k j m:Nat}{v:Int}{T:Nat->List Int}(h:¬ (j=i/\m=k)):(UU i k v T j)[m]?=(T j)[m]?:=by
 unfold UU;split
 ·rename_i e;subst e;rw [PK (by omega)]
 ·rfl
theorem ac4{i k:Nat}{v w:Int}{T:Nat->List Int}:(fun j=>if j=i then (UU i k v T i).set k w else UU i k v T j)=UU i k w T:=by
 funext j;unfold UU;by_cases e:j=i
 ·subst e;simp
 ·simp [e]
theorem Mh{i k:Nat}{w:Int}{T:Nat->List Int}:(fun j=>if j=i then (T i).set k w else T j)=UU i k w T:=by
 funext j;unfold UU;by_cases e:j=i
 ·subst e;simp
 ·simp [e]
theorem ac5{a b:List B8}{i k:Nat}(d:k<b.length+1):UU i k (tb a b i k) (TT a b (i+1) (k+1))=TT a b (i+1) k:=by
 funext j;refine sY fun m=>?_
 by_cases e:j=i/\m=k
 ·obtain⟨rfl,rfl⟩:=e;rw [Mf (by rw [Fh];exact d),Me d (by omega)]
 ·rw [Mg e];unfold TT;simp only [bG];rcases bB m (b.length+1) with c | c
  ·rw [sV c];simp only [lU,aL];by_cases q:i+1<=j\/(j+1=i+1/\k+1<=m)
   ·rw [aj q,aj (by omega)]
   ·rw [ab q,ab (by omega)]
  ·rw [cb (by simp;exact c)];rfl
theorem ac6{n:Nat}{g:Nat->List Int}{L:List (Nat×HO)}{i k:Nat}{v:Int}(h:i<n):aM (ca n g++L) (100+i) (.box true (((g i).map fun x=>AV.d (.lit (.int .i64 x))).set k (.d (.lit (.int .i64 v)))))=ca n (UU i k v g)++L:=by rw [show (AV.d (.lit (.int .i64 v)))=(fun x=>AV.d (.lit (.int .i64 x))) v from rfl,<- ra];refine(Cs h _).trans ?_;rw [<- Mh]
theorem ac7{i k:Nat}{v w:Int}{T:Nat->List Int}:UU i k w (UU i k v T)=UU i k w T:=by rw [<- Mh,ac4]
theorem ac8{n:Nat}{g:Nat->List Int}{L:List (Nat×HO)}{i:Nat}(h:i<n):AL.look (ca n g++L) (100+i)=some (.box true ((g i).map fun x=>AV.d (.lit (.int .i64 x)))):=tT h
theorem zo(x v:Int):(if x<v then x else v)=min v x:=by rw [Int.min_def];split <;> split <;> omega
theorem ac9(a b:List B8)(i:Nat)(d:i<a.length+1):TT a b (a.length+1) (b.length+1) i=TT a b (a.length+1) b.length i:=by
 unfold TT;refine jF fun k c=>?_
 have:=di.1 c;by_cases h:i=a.length/\k=b.length
 ·obtain⟨rfl,rfl⟩:=h;rw [ab (by omega),aj (by omega),acO]
 ·by_cases q:a.length+1<=i\/(i+1=a.length+1/\b.length<=k)
  ·omega
  ·rw [ab (by omega),ab q]
theorem ac_{a b:List B8}{L:List (Nat×HO)}:∃ f,a.length+1=f.length/\(∀ (e:D),e∈f->e.cells.length=1)/\(∀ (c:D),c∈D.flat f->c.one=true) /\cL.fJ (ca (a.length+1) (TT a b 0 (b.length+1))++L) 3 (List.take (a.length+1) (eU a.length b.length (a.length+1))) (D.flat f)/\aB (.sl 1 f) (ie a b):=by
 have j:∀ c∈(List.range (a.length+1)).map (fun i=>D.sl 1 ((List.range (b.length+1)).map fun k=>dI (tb a b i k))),c.one=true:=fun c m=>by obtain⟨i,_,rfl⟩:=aS.1 m;rfl
 refine⟨(List.range (a.length+1)).map fun i=>D.sl 1 ((List.range (b.length+1)).map fun k=>dI (tb a b i k)),by simp,fun e n=>?_,by rw [lv _ j];exact j,?_,aP rfl⟩
 ·obtain⟨i,_,rfl⟩:=aS.1 n;rfl
 ·rw [lv _ j];refine Md (by simp [pe]) fun i c d g l=>?_
  have h:i<a.length+1:=by have:=(bu.1 l).1;simpa using this
  rw [AN h,Fg h] at g;injection g with g;subst g
  simp [h] at l;subst l;have e:TT a b 0 (b.length+1) i=(List.range (b.length+1)).map fun k=>tb a b i k:=by unfold TT;exact jF fun k _=>aj (by omega)
  rw [JP,tT h];simp only [j',show (fun x=>AV.d (dI x))=AV.d∘dI from rfl,<- dA,tS,e];refine⟨by simp,aP ?_⟩;unfold e';rw [aj rfl,List.drop_zero,d' (by simp),dA];rfl
attribute [local simp] qC uu wT wQ wR acZ lF pe ac8 ac6 ac7 Fh ac3
theorem ac'(a b:List B8)(H:a.length<=64)(P:b.length<=64):PC 125 [fL a b] (.ret (ie a b)):=by
 refine oM aH ZJ (by simp [DK]) 4 fun hr=>?_
 simp [DK,fL];refine aK [.ret (.sl 1 cr)] ?_;simp;refine aV (TF Tryz.prog a173) (aR aau) ?_;have b0:IntKind.i64.wrap ((a.length:Int)+1)=((a.length+1:Nat):Int):=wrap64 (by omega);have Y:IntKind.i64.wrap ((b.length:Int)+1)=((b.length+1:Nat):Int):=wrap64 (by omega);simp [a173,b0,Y];refine⟨⟨by omega,by omega,by omega,by omega⟩,?_⟩;refine jx Nat (fun y=>⟨[(12,true,.d (dI y)),(1,true,.ptr 1 0),(3,true,.aE 2 0 1 (a.length+1) (a.length+1)),(11,true,.d (dI (a.length+1:Nat)))],ca y (fun _=>lG b.length)++[(0,lF a b),(1,lF a b),(2,.box true (eU a.length b.length y)),(165,.dead)],[]⟩) (fun y=>y<=a.length+1) (fun y=>a.length+1-y) 0 (bp _) ⟨[],[],?_⟩ (fun y b5=>?_)
 ·have Z:=acU a.length b.length;simp [ca,lF,<- Z];rw [Z];exact ja _ _ _
 by_cases a0:y<a.length+1
 ·have Q:IntKind.i64.wrap ((y:Int)+1)=((y+1:Nat):Int):=wrap64 (by omega);have b1:y<=65:=by omega
  have a1:(y:Int)<(a.length:Int)+1:=by omega
  simp [a0,a1,qC,uu,wT,wQ,wR,b1,lF,Y,pe];refine⟨⟨by omega,by omega,by omega,by omega⟩,by omega,y+1,by omega,by omega,?_⟩;refine acW (X:=.box true [AV.d (D.sl 1 (a.map dT)),AV.d (D.sl 1 (b.map dT))]) a0 H ⟨[.sl 1 (a.map dT),.sl 1 (b.map dT)],rfl,by simp⟩ fun σ b2=>?_
  have q1:¬ (1:Nat)=100+y:=by omega
  have q2:¬ (2:Nat)=100+y:=by omega
  simp [b2,Q,q1,q2,zn]
 ·have e9:y=a.length+1:=by omega
  subst e9;have d:a.length+1<=65:=by omega
  have a1:¬ ((a.length:Int)+1<(a.length:Int)+1):=by omega
  simp [qC,uu,wT,wQ,wR,d,lF,pe];refine⟨LN,?_⟩;refine ah [.ret (.fn (.func 214) [] [.ip (fL a b)])] ?_;simp [qC,uu,wT,wQ,wR,d,pe];refine⟨acT a b,?_⟩;refine h' (TF Tryz.prog El) (aR aaH) rfl (by rfl) (fun R=>by rfl) (fun R=>?_);simp [El,fL,qC,uu,wT,wQ,wR,d];have e0:ca (a.length+1) (fun _=>lG b.length)=ca (a.length+1) (TT a b (a.length+1) (b.length+1)):=Ff fun i S=>(ac1 a b i S).symm
  rw [e0];refine jx Nat (fun r=>⟨[(3,true,.d (dI ((r:Int)-1))),(0,true,.d (.fn (.yield R) [] [])),(1,true,.d (.ip (.agg [.sl 1 (a.map dT),.sl 1 (b.map dT)])))],ca (a.length+1) (TT a b r (b.length+1))++[(0,lF a b),(1,lF a b),(2,.box true (eU a.length b.length (a.length+1))),(165,.dead),(166,.box false [.aE 2 0 1 (a.length+1) (a.length+1)]),(167,.box false [.d (.sl 1 cr)]),(168,.box false [.fn (.func 174) [] [.ptr 166 0]]),(169,.obj 0),(170,.obj 1)],[]⟩) (fun r=>r<=a.length+1) (fun r=>r) (a.length+1) (bj _) (ka ?_ ?_ ?_ trivial) (fun r hr=>?_)
  ·simp
  ·simp [d];exact ja _ _ _
  ·simp [ai]
  cases r with
  | zero =>simp [d,ac0];exact ac_
  | succ i =>
   have S:i<=a.length:=by omega
   simp [d];refine jx Nat (fun c=>⟨[(4,true,.d (dI ((c:Int)-1))),(3,true,.d (dI i)),(0,true,.d (.fn (.yield R) [] [])),(1,true,.d (.ip (.agg [.sl 1 (a.map dT),.sl 1 (b.map dT)])))],ca (a.length+1) (TT a b (i+1) c)++[(0,lF a b),(1,lF a b),(2,.box true (eU a.length b.length (a.length+1))),(165,.dead),(166,.box false [.aE 2 0 1 (a.length+1) (a.length+1)]),(167,.box false [.d (.sl 1 cr)]),(168,.box false [.fn (.func 174) [] [.ptr 166 0]]),(169,.obj 0),(170,.obj 1)],[]⟩) (fun c=>c<=b.length+1) (fun c=>c) (b.length+1) (bj _) (ka ?_ ?_ ?_ trivial) (fun c b6=>?_)
   ·simp
   ·simp [d];exact ja _ _ _
   ·simp [ai]
   cases c with
   | zero =>
    have Q:IntKind.i64.wrap ((i:Int)-1)=(i:Int)-1:=wrap64 (by omega);simp [d];refine⟨i,by omega,by omega,?_⟩;rw [show ca (a.length+1) (TT a b (i+1) 0)=ca (a.length+1) (TT a b i (b.length+1)) from Ff fun j _=>ac2 a b i j];refine ka ?_ ?_ ?_ trivial
    ·simp [Q]
    ·simp [d];exact ja _ _ _
    ·simp [ai]
   | succ k =>
    have B:k<=b.length:=by omega
    simp [d];have a2:IntKind.i64.wrap ((k:Int)-1)=(k:Int)-1:=wrap64 (by omega);refine aK [] ?_;simp [d];refine bY [.ret (bV a.length b.length)] ?_;by_cases he:i=a.length/\k=b.length
    ·obtain⟨rfl,rfl⟩:=he;simp [d,bV];refine⟨zf a b,rfl,b.length,by omega,by omega,?_⟩;rw [show ca (a.length+1) (TT a b (a.length+1) (b.length+1))=ca (a.length+1) (TT a b (a.length+1) b.length) from Ff (ac9 a b)];refine ka ?_ ?_ ?_ trivial
     ·simp [a2]
     ·simp [d];exact ja _ _ _
     ·simp [ai]
    ·have b3:((i:Int) == (a.length:Int)&&(k:Int) == (b.length:Int))=false:=by simp only [PT,beq_eq_false_iff_ne];omega
     have C:i<a.length+1:=by omega
     have s:k<b.length+1:=by omega
     have E:(i:Int)<(a.length:Int)+1:=by omega
     have F:(k:Int)<(b.length:Int)+1:=by omega
     have G:∀ h,(eU a.length b.length (a.length+1))[i]'h=.aE (100+i) 0 1 (b.length+1) (b.length+1):=fun h=>(bu.1 (Fg C)).2
     simp [d,bV,b3,G,C,E,s,F];refine⟨zf a b,rfl,B,?_⟩;refine jx Nat (fun j=>⟨[(29,true,.d (dI j)),(1,true,.ptr 0 0),(5,true,.ptr 168 0),(6,true,.ptr 171 0),(27,true,.d (.sl 1 cr)),(28,true,.d (dI 4))],ca (a.length+1) (UU i k (ps a b i k j) (TT a b (i+1) (k+1)))++[(0,lF a b),(1,lF a b),(2,.box true (eU a.length b.length (a.length+1))),(165,.dead),(166,.box false [.aE 2 0 1 (a.length+1) (a.length+1)]),(167,.box false [.d (.sl 1 cr)]),(168,.box false [.fn (.func 174) [] [.ptr 166 0]]),(169,.obj 0),(170,.obj 2),(171,.box true [.d (dI i),.d (dI k)])],[]⟩) (fun j=>j<=4) (fun j=>4-j) 0 (by omega) (ka ?_ ?_ ?_ trivial) (fun j b7=>?_)
     ·simp [cr]
     ·simp [d];exact ja _ _ _
     ·simp [ai]
     rcases bB j 4 with b4 | b4
     ·have b8:IntKind.i64.wrap ((j:Int)+1)=((j+1:Nat):Int):=wrap64 (by omega);have I:(0:Int)<=(i:Int)+1:=by omega
      have J:(0:Int)<=(k:Int)+1:=by omega
      have q:∀ m:Int,0<=m->m<=10->IntKind.i64.wrap m=m:=fun m T h2=>wrap64 (by omega)
      have K:∀ f l,IntKind.i64.wrap (tb a b f l)=tb a b f l:=fun f l=>wrap64 (by have:=zj a b f l;have:=nO a b f l H P;omega)
      have L:∀ f l,IntKind.i64.wrap (1+tb a b f l)=1+tb a b f l:=fun f l=>wrap64 (by have:=zj a b f l;have:=nO a b f l H P;omega)
      have M:∀ (v:Int) h,(UU i k v (TT a b (i+1) (k+1)) i)[k]'h=v:=fun v h=>(bu.1 (Mf (by rw [Fh];exact s))).2
      have N:∀ (f l:Nat) (v:Int),f<a.length+1->l<b.length+1->(i+1<=f\/(f+1=i+1/\k+1<=l))->∀ h,(UU i k v (TT a b (i+1) (k+1)) f)[l]'h=tb a b f l:=fun f l v T h2 h3 h=>(bu.1 ((Mg (by omega)).trans (Me h2 h3))).2
      have O:∀ f,f<a.length+1->∀ h,(eU a.length b.length (a.length+1))[f]'h=.aE (100+f) 0 1 (b.length+1) (b.length+1):=fun f T h=>(bu.1 (Fg T)).2
      rcases (show j=0\/j=1\/j=2\/j=3 by omega) with rfl | rfl | rfl | rfl
      ·have g:=LJ a b i k (by omega) (by omega);cases e:hM a b i k with
       | false =>
        have n:ps a b i k 1=ps a b i k 0:=by simp [ps,my,e]
        rw [e] at g;simp [d,cr];refine ah [.ret (.af [bV (i+1) (k+1),dI 0,dB false])] ?_;simp [bV,d];refine⟨g,1,by omega,by omega,?_⟩;rw [n];refine ka ?_ ?_ ?_ trivial
        ·simp [q,cr]
        ·simp [d,cr];exact ja _ _ _
        ·simp [ai]
       | true =>
        have ⟨o,p⟩:i+1<a.length+1/\k+1<b.length+1:=by
         unfold hM at e;split at e
         ·rename_i x y U V;have:=(bu.1 U).1;have:=(bu.1 V).1;omega
         ·cases e
        have t:((i:Int)+1:Int)<(a.length:Int)+1:=by omega
        have u:((k:Int)+1:Int)<(b.length:Int)+1:=by omega
        have w:(k+1)<=b.length:=by omega
        have z:=N (i+1) (k+1) (ps a b i k 0) o p (by omega);have A:=O (i+1) o;have n:min (ps a b i k 0) (tb a b (i+1) (k+1))=ps a b i k 1:=by simp [ps,my,e]
        rw [e] at g;simp [d,cr];refine ah [.ret (.af [bV (i+1) (k+1),dI 0,dB true])] ?_;simp [bV,d,C,s,E,F,o,p,t,u,G,A,M,z,K,L,zo,n,B,w,I,J];refine⟨g,by simp [de,kB,kA,List.range,List.range.loop],1,by omega,by omega,?_⟩;refine ka ?_ ?_ ?_ trivial
        ·simp [q,cr]
        ·simp [d,cr];exact ja _ _ _
        ·simp [ai]
      ·have g:=LK a b i k (by omega) (by omega);cases e:hO a b i k with
       | false =>
        have n:ps a b i k 2=ps a b i k 1:=by simp [ps,my,e]
        rw [e] at g;simp [d,cr];refine ah [.ret (.af [bV (i+1) (k+1),dI 1,dB false])] ?_;simp [bV,d];refine⟨g,2,by omega,by omega,?_⟩;rw [n];refine ka ?_ ?_ ?_ trivial
        ·simp [q,cr]
        ·simp [d,cr];exact ja _ _ _
        ·simp [ai]
       | true =>
        have ⟨o,p⟩:i+1<a.length+1/\k+1<b.length+1:=by
         unfold hO at e;split at e
         ·rename_i x y U V;have:=(bu.1 U).1;have:=(bu.1 V).1;omega
         ·cases e
        have t:((i:Int)+1:Int)<(a.length:Int)+1:=by omega
        have u:((k:Int)+1:Int)<(b.length:Int)+1:=by omega
        have w:(k+1)<=b.length:=by omega
        have z:=N (i+1) (k+1) (ps a b i k 1) o p (by omega);have A:=O (i+1) o;have n:min (ps a b i k 1) (1+tb a b (i+1) (k+1))=ps a b i k 2:=by simp [ps,my,e]
        rw [e] at g;simp [d,cr];refine ah [.ret (.af [bV (i+1) (k+1),dI 1,dB true])] ?_;simp [bV,d,C,s,E,F,o,p,t,u,G,A,M,z,K,L,zo,n,B,w,I,J];refine⟨g,by simp [de,kB,kA,List.range,List.range.loop],2,by omega,by omega,?_⟩;refine ka ?_ ?_ ?_ trivial
        ·simp [q,cr]
        ·simp [d,cr];exact ja _ _ _
        ·simp [ai]
      ·have g:=LL a b i k (by omega) (by omega);cases e:decide (i<a.length) with
       | false =>
        have n:ps a b i k 3=ps a b i k 2:=by have:=PV e;simp [ps,my,this]
        rw [e] at g;simp [d,cr];refine ah [.ret (.af [bV (i+1) k,dI 1,dB false])] ?_;simp [bV,d];refine⟨g,3,by omega,by omega,?_⟩;rw [n];refine ka ?_ ?_ ?_ trivial
        ·simp [q,cr]
        ·simp [d,cr];exact ja _ _ _
        ·simp [ai]
       | true =>
        have W:=td e;have o:(i+1)<a.length+1:=by omega
        have p:k<b.length+1:=by omega
        have t:((i:Int)+1:Int)<(a.length:Int)+1:=by omega
        have u:((k:Int):Int)<(b.length:Int)+1:=by omega
        have w:k<=b.length:=by omega
        have z:=N (i+1) k (ps a b i k 2) o p (by omega);have A:=O (i+1) o;have n:min (ps a b i k 2) (1+tb a b (i+1) k)=ps a b i k 3:=by simp [ps,my,W]
        rw [e] at g;simp [d,cr];refine ah [.ret (.af [bV (i+1) k,dI 1,dB true])] ?_;simp [bV,d,C,s,E,F,o,p,t,u,G,A,M,z,K,L,zo,n,B,w,I,J];refine⟨g,by simp [de,kB,kA,List.range,List.range.loop],3,by omega,by omega,?_⟩;refine ka ?_ ?_ ?_ trivial
        ·simp [q,cr]
        ·simp [d,cr];exact ja _ _ _
        ·simp [ai]
      ·have g:=LM a b i k (by omega) (by omega);cases e:decide (k<b.length) with
       | false =>
        have n:ps a b i k 4=ps a b i k 3:=by have:=PV e;simp [ps,my,this]
        rw [e] at g;simp [d,cr];refine ah [.ret (.af [bV i (k+1),dI 1,dB false])] ?_;simp [bV,d];refine⟨g,4,by omega,by omega,?_⟩;rw [n];refine ka ?_ ?_ ?_ trivial
        ·simp [q,cr]
        ·simp [d,cr];exact ja _ _ _
        ·simp [ai]
       | true =>
        have W:=td e;have o:i<a.length+1:=by omega
        have p:(k+1)<b.length+1:=by omega
        have t:((i:Int):Int)<(a.length:Int)+1:=by omega
        have u:((k:Int)+1:Int)<(b.length:Int)+1:=by omega
        have w:(k+1)<=b.length:=by omega
        have z:=N i (k+1) (ps a b i k 3) o p (by omega);have A:=O i o;have n:min (ps a b i k 3) (1+tb a b i (k+1))=ps a b i k 4:=by simp [ps,my,W]
        rw [e] at g;simp [d,cr];refine ah [.ret (.af [bV i (k+1),dI 1,dB true])] ?_;simp [bV,d,C,s,E,F,o,p,t,u,G,A,M,z,K,L,zo,n,B,w,I,J];refine⟨g,by simp [de,kB,kA,List.range,List.range.loop],4,by omega,by omega,?_⟩;refine ka ?_ ?_ ?_ trivial
        ·simp [q,cr]
        ·simp [d,cr];exact ja _ _ _
        ·simp [ai]
     ·have e4:j=4:=by omega
      subst e4;rw [Ma H P S B he,ac5 s];simp [d];refine⟨k,by omega,by omega,ka ?_ ?_ ?_ trivial⟩
      ·simp [a2]
      ·simp [d];exact ja _ _ _
      ·simp [ai]
theorem Mi(a b:List B8)(h:a.length<=64)(j:b.length<=64):∀ (f g i k:Nat),i<=a.length->k<=b.length->(a.length-i)+(b.length-k)<=f->(a.length-i)+(b.length-k)<=g->i' a b f i k=i' a b g i k
 | 0,g,i,k,c,d,l,m=>by
  cases g with
  | zero=>rfl
  | succ g=>rw [i',i',aj ⟨by omega,by omega⟩]
 | f+1,0,i,k,c,d,l,m=>by rw [i',i',aj ⟨by omega,by omega⟩]
 | f+1,g+1,i,k,c,d,l,m=>by
  rw [i',i'];split
  ·rfl
  ·rename_i q;obtain⟨r,_,s,o,p⟩:=zl h j c d q;congr 1;have t:(a.length-(nx i k (gF a b i k)).1)+(b.length-(nx i k (gF a b i k)).2)+1<=(a.length-i)+(b.length-k):=by generalize gF a b i k=n at *;rcases (show n=0\/n=1\/n=2\/n=3 by omega) with e | e | e | e <;> subst e <;> simp only [nx] at o p |- <;> omega
   exact Mi a b h j f g _ _ o p (by omega) (by omega)
def uv(a b:List B8)(i k:Nat):List Nat:=i' a b ((a.length-i)+(b.length-k)) i k
theorem ada(a b:List B8):uv a b a.length b.length=[]:=by unfold uv;simp only [vf,kl,i']
theorem adb{a b:List B8}{i k:Nat}(c:a.length<=64)(d:b.length<=64)(l:i<=a.length)(m:k<=b.length)(g:¬ (i=a.length/\k=b.length)):uv a b i k=(gF a b i k+1)::uv a b (nx i k (gF a b i k)).1 (nx i k (gF a b i k)).2 /\(a.length-(nx i k (gF a b i k)).1)+(b.length-(nx i k (gF a b i k)).2)<(a.length-i)+(b.length-k):=by
 obtain⟨q,_,r,h,j⟩:=zl c d l m g;have o:(a.length-(nx i k (gF a b i k)).1)+(b.length-(nx i k (gF a b i k)).2)+1<=(a.length-i)+(b.length-k):=by generalize gF a b i k=n at *;rcases (show n=0\/n=1\/n=2\/n=3 by omega) with e | e | e | e <;> subst e <;> simp only [nx] at h j |- <;> omega
 refine⟨?_,o⟩;unfold uv;obtain⟨f,p⟩:∃ f,(a.length-i)+(b.length-k)=f+1:=⟨(a.length-i)+(b.length-k)-1,by omega⟩;rw [p,i',ab g];congr 1;exact Mi a b c d _ _ _ _ h j (by omega) (by omega)
theorem ade(a b:List B8):(ie a b).cells=[ie a b]:=rfl
theorem adf(a b:List B8):(ie a b).isAgg=false:=rfl
theorem adg(a b:List B8):(ie a b).one=true:=rfl
theorem adh(a b:List B8):(AV.d (ie a b)).cg=true:=rfl
attribute [local simp] ade adf adg adh
inductive zq:FuncId->List D->Out->Prop
 | of {f:FuncId}{ds:List D}{out:Out}(h:PC f ds out):zq f ds out
 | words (a b:List B8) (ha:a.length<=64) (hb:b.length<=64) (wa:a.any (fun x=>!bw x)=false) (wb:b.any (fun x=>!bw x)=false):zq 124 [.sl 1 (a.map dT),.sl 1 (b.map dT)] (.ret (fL a b))
 | prove (a b:List B8) (ha:a.length<=64) (hb:b.length<=64):zq 125 [fL a b] (.ret (ie a b))
theorem adi:∀ f c d,zq f c d->PC f c d:=by
 intro f c d h;cases h with
 | of h=>exact aH _ _ _ h
 | words a b e g i j=>exact acC a b e g i j
 | prove a b e g=>exact ac' a b e g
theorem adj(a b:List B8)(H:a.length<=64)(I:b.length<=64)(T:a.any (fun x=>!bw x)=false)(U:b.any (fun x=>!bw x)=false):PC 57 [.sl 1 (a.map dT),.sl 1 (b.map dT)] (.ret (.af [.sl 1 ((nP a b).map fun n:Nat=>dI n),dI (tb a b 0 0),dI 0])):=by
 refine aG adi YK (by simp [a57]) fun Y=>?_
 simp [a57];refine aK [] ?_;simp;refine ah [.ret (fL a b)] ?_;simp [fL];refine⟨.words a b H I T U,?_⟩;refine ah [.ret (ie a b),.ret (.sl 1 cr)] ?_;simp;refine⟨.prove a b H I,.of LN,?_⟩;refine bm [6,7,8,9] (Nat×Nat×List Nat) (fun y=>[(4,true,.own 3 1 (y.2.2.map fun n:Nat=>dI n)),(10,true,.ptr 2 0)]) (fun y=>[(2,.box true [.d (dI y.1),.d (dI y.2.1)]),(3,.row)]) (fun y=>y.1<=a.length/\y.2.1<=b.length/\y.2.2++uv a b y.1 y.2.1=nP a b/\y.2.2.length<=y.1+y.2.1) (fun y=>(a.length-y.1)+(b.length-y.2.1)) (0,0,[]) ⟨bp _,bp _,rfl,by simp⟩ ⟨[],[(3,1)],?_⟩ (fun y V=>?_)
 ·simp
 obtain⟨i,k,J⟩:=y;obtain⟨N,O,G,W⟩:=V;simp only at N O G W;have E:∀ q r,IntKind.i64.wrap (tb a b q r)=tb a b q r:=fun q r=>wrap64 (by have:=zj a b q r;have:=nO a b q r H I;omega)
 have F:∀ q r,IntKind.i64.wrap (1+tb a b q r)=1+tb a b q r:=fun q r=>wrap64 (by have:=zj a b q r;have:=nO a b q r H I;omega)
 have f:∀ m:Int,0<=m->m<=10->IntKind.i64.wrap m=m:=fun m Z h2=>wrap64 (by omega)
 simp;refine bY [.ret (bV a.length b.length)] ?_;by_cases P:i=a.length/\k=b.length
 ·obtain⟨rfl,rfl⟩:=P;rw [ada,eN] at G;subst G;simp [bV,ie];refine⟨.of (zf a b),rfl,rfl,?_⟩;refine dQ (TR Tryz.prog DJ) (gE ZH) ?_;simp [DJ]
 ·have X:((i:Int) == (a.length:Int)&&(k:Int) == (b.length:Int))=false:=by simp only [PT,beq_eq_false_iff_ne];omega
  obtain⟨K,L⟩:=adb H I N O P;obtain⟨o,M,t3,t4,t5⟩:=zl H I N O P;generalize gF a b i k=m at *;simp [bV,X];refine⟨.of (zf a b),rfl,?_⟩;refine bm [4,6,7,8,9,10,27,28] Nat (fun j=>[(29,true,.d (dI j))]) (fun j=>[]) (fun j=>j<=m) (fun j=>m-j) 0 (bp _) ⟨[],[],?_⟩ (fun j p=>?_)
  ·simp
  rcases (show j=0\/j=1\/j=2\/j=3 by omega) with rfl | rfl | rfl | rfl
  ·have d:=LJ a b i k (by omega) (by omega);cases c:hM a b i k with
   | false =>
    have h:0<m:=by
     rcases mU p with e | e
     ·subst e;simp only [tk,c,mT,hq] at o
     ·exact e
    rw [c] at d;simp [cr];refine ah [.ret (.af [bV (i+1) (k+1),dI 0,dB false])] ?_;simp [bV];refine⟨.of d,?_⟩;refine bY [] ?_;simp;refine⟨rfl,1,by omega,by omega,[],[],?_⟩;simp [f,cr]
   | true =>
     rw [c] at d;have ⟨s,t⟩:i+1<a.length+1/\k+1<b.length+1:=by
      unfold hM at c;split at c
      ·rename_i x y Q R;have:=(bu.1 Q).1;have:=(bu.1 R).1;omega
      ·cases c
     have u:i<a.length+1:=by omega
     have v:k<b.length+1:=by omega
     have w:(i:Int)<(a.length:Int)+1:=by omega
     have z:(k:Int)<(b.length:Int)+1:=by omega
     have A:((i:Int)+1:Int)<(a.length:Int)+1:=by omega
     have B:((k:Int)+1:Int)<(b.length:Int)+1:=by omega
     have C:(0:Int)<=(i:Int)+1:=by omega
     have D:(0:Int)<=(k:Int)+1:=by omega
     by_cases g:tb a b i k=tb a b (i+1) (k+1)
     ·have h:m=0:=by
       rcases mU p with e | e
       ·exact e.symm
       ·have:=M 0 e;simp [tk,c,g] at this
      subst h;have l:(tb a b i k == tb a b (i+1) (k+1))=true:=by rw [g];exact AM _
      simp [cr];refine ah [.ret (.af [bV (i+1) (k+1),dI 0,dB true])] ?_;simp [bV];refine⟨.of d,?_⟩;refine bY [] ?_;simp [ie,u,v,w,z,s,t,A,B,C,D,E,F,l,f];refine⟨rfl,⟨by omega,by omega⟩,rfl,?_⟩;refine⟨i+1,k+1,J++[1],⟨by omega,by omega,?_,by simp;omega⟩,?_,[(2,7),(3,6)],[],?_⟩
      ·rw [<- G,K];simp [nx]
      ·simpa [nx] using L
      ·simp [f,cr]
       first | rfl | trace_state
     ·have h:0<m:=by
       rcases mU p with e | e
       ·subst e;simp only [tk,c,gW,bD] at o;exact absurd o g
       ·exact e
      have l:(tb a b i k == tb a b (i+1) (k+1))=false:=by simpa using g
      simp [cr];refine ah [.ret (.af [bV (i+1) (k+1),dI 0,dB true])] ?_;simp [bV];refine⟨.of d,?_⟩;refine bY [] ?_;simp [ie,u,v,w,z,s,t,A,B,C,D,E,F,l,f];refine⟨rfl,1,by omega,by omega,[],[],?_⟩;simp [f,cr]
  ·have d:=LK a b i k (by omega) (by omega);cases c:hO a b i k with
   | false =>
    have h:1<m:=by
     rcases mU p with e | e
     ·subst e;simp only [tk,c,mT,hq] at o
     ·exact e
    rw [c] at d;simp [cr];refine ah [.ret (.af [bV (i+1) (k+1),dI 1,dB false])] ?_;simp [bV];refine⟨.of d,?_⟩;refine bY [] ?_;simp;refine⟨rfl,2,by omega,by omega,[],[],?_⟩;simp [f,cr]
   | true =>
     rw [c] at d;have ⟨s,t⟩:i+1<a.length+1/\k+1<b.length+1:=by
      unfold hO at c;split at c
      ·rename_i x y Q R;have:=(bu.1 Q).1;have:=(bu.1 R).1;omega
      ·cases c
     have u:i<a.length+1:=by omega
     have v:k<b.length+1:=by omega
     have w:(i:Int)<(a.length:Int)+1:=by omega
     have z:(k:Int)<(b.length:Int)+1:=by omega
     have A:((i:Int)+1:Int)<(a.length:Int)+1:=by omega
     have B:((k:Int)+1:Int)<(b.length:Int)+1:=by omega
     have C:(0:Int)<=(i:Int)+1:=by omega
     have D:(0:Int)<=(k:Int)+1:=by omega
     by_cases g:tb a b i k=1+tb a b (i+1) (k+1)
     ·have h:m=1:=by
       rcases mU p with e | e
       ·exact e.symm
       ·have:=M 1 e;simp [tk,c,g] at this
      subst h;have l:(tb a b i k == 1+tb a b (i+1) (k+1))=true:=by rw [g];exact AM _
      simp [cr];refine ah [.ret (.af [bV (i+1) (k+1),dI 1,dB true])] ?_;simp [bV];refine⟨.of d,?_⟩;refine bY [] ?_;simp [ie,u,v,w,z,s,t,A,B,C,D,E,F,l,f];refine⟨rfl,⟨by omega,by omega⟩,rfl,?_⟩;refine⟨i+1,k+1,J++[2],⟨by omega,by omega,?_,by simp;omega⟩,?_,[(2,7),(3,6)],[],?_⟩
      ·rw [<- G,K];simp [nx]
      ·simpa [nx] using L
      ·simp [f,cr]
       first | rfl | trace_state
     ·have h:1<m:=by
       rcases mU p with e | e
       ·subst e;simp only [tk,c,gW,bD] at o;exact absurd o g
       ·exact e
      have l:(tb a b i k == 1+tb a b (i+1) (k+1))=false:=by simpa using g
      simp [cr];refine ah [.ret (.af [bV (i+1) (k+1),dI 1,dB true])] ?_;simp [bV];refine⟨.of d,?_⟩;refine bY [] ?_;simp [ie,u,v,w,z,s,t,A,B,C,D,E,F,l,f];refine⟨rfl,2,by omega,by omega,[],[],?_⟩;simp [f,cr]
  ·have d:=LL a b i k (by omega) (by omega);cases c:decide (i<a.length) with
   | false =>
    have h:2<m:=by
     rcases mU p with e | e
     ·subst e;simp only [tk,c,mT,hq] at o
     ·exact e
    rw [c] at d;simp [cr];refine ah [.ret (.af [bV (i+1) k,dI 1,dB false])] ?_;simp [bV];refine⟨.of d,?_⟩;refine bY [] ?_;simp;refine⟨rfl,3,by omega,by omega,[],[],?_⟩;simp [f,cr]
   | true =>
     rw [c] at d;have S:=td c;have s:(i+1)<a.length+1:=by omega
     have t:k<b.length+1:=by omega
     have u:i<a.length+1:=by omega
     have v:k<b.length+1:=by omega
     have w:(i:Int)<(a.length:Int)+1:=by omega
     have z:(k:Int)<(b.length:Int)+1:=by omega
     have A:((i:Int)+1:Int)<(a.length:Int)+1:=by omega
     have B:((k:Int):Int)<(b.length:Int)+1:=by omega
     have C:(0:Int)<=(i:Int)+1:=by omega
     have D:(0:Int)<=(k:Int)+1:=by omega
     by_cases g:tb a b i k=1+tb a b (i+1) k
     ·have h:m=2:=by
       rcases mU p with e | e
       ·exact e.symm
       ·have:=M 2 e;simp [tk,c,g,S] at this
      subst h;have l:(tb a b i k == 1+tb a b (i+1) k)=true:=by rw [g];exact AM _
      simp [cr];refine ah [.ret (.af [bV (i+1) k,dI 1,dB true])] ?_;simp [bV];refine⟨.of d,?_⟩;refine bY [] ?_;simp [ie,u,v,w,z,s,t,A,B,C,D,E,F,l,f];refine⟨rfl,⟨by omega,by omega⟩,rfl,?_⟩;refine⟨i+1,k,J++[3],⟨by omega,by omega,?_,by simp;omega⟩,?_,[(2,7),(3,6)],[],?_⟩
      ·rw [<- G,K];simp [nx]
      ·simpa [nx] using L
      ·simp [f,cr]
       first | rfl | trace_state
     ·have h:2<m:=by
       rcases mU p with e | e
       ·subst e;simp only [tk,c,gW,bD] at o;exact absurd o g
       ·exact e
      have l:(tb a b i k == 1+tb a b (i+1) k)=false:=by simpa using g
      simp [cr];refine ah [.ret (.af [bV (i+1) k,dI 1,dB true])] ?_;simp [bV];refine⟨.of d,?_⟩;refine bY [] ?_;simp [ie,u,v,w,z,s,t,A,B,C,D,E,F,l,f];refine⟨rfl,3,by omega,by omega,[],[],?_⟩;simp [f,cr]
  ·have d:=LM a b i k (by omega) (by omega);cases c:decide (k<b.length) with
   | false =>
    have h:3<m:=by
     rcases mU p with e | e
     ·subst e;simp only [tk,c,mT,hq] at o
     ·exact e
    rw [c] at d;simp [cr];refine ah [.ret (.af [bV i (k+1),dI 1,dB false])] ?_;simp [bV];refine⟨.of d,?_⟩;refine bY [] ?_;simp;refine⟨rfl,4,by omega,by omega,[],[],?_⟩;simp [f,cr]
   | true =>
     rw [c] at d;have S:=td c;have s:i<a.length+1:=by omega
     have t:(k+1)<b.length+1:=by omega
     have u:i<a.length+1:=by omega
     have v:k<b.length+1:=by omega
     have w:(i:Int)<(a.length:Int)+1:=by omega
     have z:(k:Int)<(b.length:Int)+1:=by omega
     have A:((i:Int):Int)<(a.length:Int)+1:=by omega
     have B:((k:Int)+1:Int)<(b.length:Int)+1:=by omega
     have C:(0:Int)<=(i:Int)+1:=by omega
     have D:(0:Int)<=(k:Int)+1:=by omega
     by_cases g:tb a b i k=1+tb a b i (k+1)
     ·have h:m=3:=by
       rcases mU p with e | e
       ·exact e.symm
       ·have:=M 3 e;simp [tk,c,g,S] at this
      subst h;have l:(tb a b i k == 1+tb a b i (k+1))=true:=by rw [g];exact AM _
      simp [cr];refine ah [.ret (.af [bV i (k+1),dI 1,dB true])] ?_;simp [bV];refine⟨.of d,?_⟩;refine bY [] ?_;simp [ie,u,v,w,z,s,t,A,B,C,D,E,F,l,f];refine⟨rfl,⟨by omega,by omega⟩,rfl,?_⟩;refine⟨i,k+1,J++[4],⟨by omega,by omega,?_,by simp;omega⟩,?_,[(2,7),(3,6)],[],?_⟩
      ·rw [<- G,K];simp [nx]
      ·simpa [nx] using L
      ·simp [f,cr]
       first | rfl | trace_state
     ·have h:3<m:=by
       rcases mU p with e | e
       ·subst e;simp only [tk,c,gW,bD] at o;exact absurd o g
       ·exact e
      have l:(tb a b i k == 1+tb a b i (k+1))=false:=by simpa using g
      simp [cr];refine ah [.ret (.af [bV i (k+1),dI 1,dB true])] ?_;simp [bV];refine⟨.of d,?_⟩;refine bY [] ?_;simp [ie,u,v,w,z,s,t,A,B,C,D,E,F,l,f];refine⟨rfl,4,by omega,by omega,[],[],?_⟩;simp [f,cr]
end
section
def kT:Ce:=⟨[],[]⟩
def gQ(n:Nat):List Nat->List (List Ce)->List Ce->List (List Ce)
 | 1::p,x::a,c::b=>(x++[c])::gQ n p a b
 | 2::p,x::a,c::b=>(x++[c])::gQ n p a b
 | 3::p,x::a,b=>(x++[kT])::gQ n p a b
 | 4::p,a,c::b=>(List.replicate n kT++[c])::gQ n p a b
 | _,_,_=>[]
def hP:List (List Ce)->Nat->List (List Ce)->List (List Ce)
 | [],_,a=>a
 | row::l,i,a=>hP l (i+1) (gQ i (nP (a.map eT) (row.map Ce.tx)) a row)
def lH(n:Nat)(x:List Ce):Prop:=x.length=n/\bw (eT x)=true/\∀ c∈x,jY c=false
theorem Fi{t:B8}(h:bw t=true):¬ t=[]:=by rintro rfl;revert h;decide
theorem zr{c:Ce}(h:hL c=true):jY c=false/\bw c.tx=true:=by unfold jY;rw [h];unfold hL at h;simp only [ax] at h;simp [h.1]
theorem Mj:∀ (x y:List Ce),¬ eT x=[]->eT (x++y)=eT x
 | [],y,h=>absurd rfl h
 | c::x,y,h=>by
  rw [dX,eT,eT];rw [eT] at h;split
  ·rename_i e;rw [aj e] at h;exact Mj x y h
  ·rfl
theorem Mk(c:Ce)(h:¬ c.tx=[]):∀ n,eT (List.replicate n kT++[c])=c.tx
 | 0=>by simp [eT,h]
 | n+1=>by rw [PH,dX,eT,aj (show kT.tx=[] from rfl)];exact Mk c h n
theorem Fj{n:Nat}{x:List Ce}{c:Ce}(h:lH n x)(e:jY c=false):lH (n+1) (x++[c]):=by
 obtain⟨f,b,g⟩:=h;refine⟨by simp [f],by rw [Mj x _ (Fi b)];exact b,fun d a=>?_⟩;rcases cV.1 a with a | a
 ·exact g d a
 ·simp at a;rw [a];exact e
theorem adk{n:Nat}{c:Ce}(e:hL c=true):lH (n+1) (List.replicate n kT++[c]):=by
 obtain⟨f,b⟩:=zr e;refine⟨by simp,by rw [Mk c (Fi b)];exact b,fun d a=>?_⟩;rcases cV.1 a with a | a
 ·rw [xE a];rfl
 ·simp at a;rw [a];exact f
theorem adl{n:Nat}{x:List Ce}(h:lH n x):ur n x=true:=by
 obtain⟨a,b,d⟩:=h;unfold ur;have:x.any jY=false:=by rw [hv];intro c e;simp [d c e]
 simp [a,Fi b,this]
theorem wV{n:Nat}:∀ (p:List Nat) (d:List (List Ce)) (a:List Ce),ez p d.length a.length->(∀ x∈d,lH n x)->(∀ c∈a,hL c=true)->(∀ x∈gQ n p d a,lH (n+1) x)/\(gQ n p d a).length<=d.length+a.length
 | [],d,a,_,_,_=>by
  have:gQ n [] d a=[]:=by cases d <;> cases a <;> rfl
  rw [this];simp
 | 1::p,x::d,c::a,b,g,h=>by
  obtain⟨i,j⟩:=wV p d a b (fun x f=>g x (by simp [f])) (fun x f=>h x (by simp [f]));refine⟨fun y e=>?_,by simp only [gQ,bN];omega⟩;rcases b_.1 e with rfl | e
  ·exact Fj (g x (by simp)) (zr (h c (by simp))).1
  ·exact i y e
 | 2::p,x::d,c::a,b,g,h=>by
  obtain⟨i,j⟩:=wV p d a b (fun x f=>g x (by simp [f])) (fun x f=>h x (by simp [f]));refine⟨fun y e=>?_,by simp only [gQ,bN];omega⟩;rcases b_.1 e with rfl | e
  ·exact Fj (g x (by simp)) (zr (h c (by simp))).1
  ·exact i y e
 | 3::p,x::d,a,b,g,h=>by
  obtain⟨i,j⟩:=wV p d a b (fun x f=>g x (by simp [f])) h;refine⟨fun y e=>?_,by simp only [gQ,bN];omega⟩;rcases b_.1 e with rfl | e
  ·exact Fj (g x (by simp)) rfl
  ·exact i y e
 | 4::p,d,c::a,b,g,h=>by
  obtain⟨i,j⟩:=wV p d a (by simpa [ez] using b) g (fun x f=>h x (by simp [f]));refine⟨fun y e=>?_,by simp only [gQ,bN];omega⟩;rcases b_.1 (by simpa only [gQ] using e) with rfl | e
  ·exact adk (h c (by simp))
  ·exact i y e
 | 0::p,d,a,b,_,_=>by simp [ez] at b
 | (n+5)::p,d,a,b,_,_=>by simp [ez] at b
 | 1::p,[],a,b,_,_=>by cases a <;> simp [ez] at b
 | 1::p,_::_,[],b,_,_=>by simp [ez] at b
 | 2::p,[],a,b,_,_=>by cases a <;> simp [ez] at b
 | 2::p,_::_,[],b,_,_=>by simp [ez] at b
 | 3::p,[],a,b,_,_=>by simp [ez] at b
 | 4::p,d,[],b,_,_=>by simp [ez] at b
def qD(i:Nat)(a:List (List Ce))(b:List Ce):List (List Ce):=gQ i (nP (a.map eT) (b.map Ce.tx)) a b
theorem Ml{i:Nat}{sl:List (List Ce)}{row:List Ce}(e:∀ x∈sl,lH i x)(f:∀ c∈row,hL c=true)(g:sl.length<=64)(h:row.length<=64) :
  ez (nP (sl.map eT) (row.map Ce.tx)) sl.length row.length/\(∀ x∈qD i sl row,lH (i+1) x)/\(qD i sl row).length<=sl.length+row.length:=by
 have d:=acQ (a:=sl.map eT) (b:=row.map Ce.tx) (by simpa using g) (by simpa using h);simp only [db] at d;exact⟨d,wV _ _ _ d e f⟩
theorem adm{a:List (List Ce)}{i:Nat}(b:∀ x∈a,lH i x):(a.map eT).any (fun x=>!bw x)=false:=by rw [hv];intro t c;obtain⟨x,d,rfl⟩:=aS.1 c;simp [(b x d).2.1]
theorem adn{a:List Ce}(b:∀ c∈a,hL c=true):(a.map Ce.tx).any (fun x=>!bw x)=false:=by rw [hv];intro t d;obtain⟨x,e,rfl⟩:=aS.1 d;simp [(zr (b x e)).2]
def dH(l:List (List Ce)):Nat:=(l.map List.length).sum
theorem Fk:∀ (l:List (List Ce)) (a:Nat) (b:List (List Ce)),(∀ r∈l,∀ c∈r,hL c=true)->(∀ x∈b,lH a x)->b.length+dH l<=64->(∀ x∈hP l a b,lH (a+l.length) x)/\(hP l a b).length<=b.length+dH l
 | [],a,b,_,d,_=>⟨d,bj _⟩
 | row::l,a,b,e,d,f=>by
  simp only [dH,bo,pH] at f;obtain⟨_,g,m⟩:=Ml (i:=a) (sl:=b) (row:=row) d (e row (by simp)) (by omega) (by omega);obtain⟨j,k⟩:=Fk l (a+1) (qD a b row) (fun r h=>e r (by simp [h])) g (by simp only [dH];omega);refine⟨?_,?_⟩
  ·rw [show a+(row::l).length=a+1+l.length by simp;omega];exact j
  ·simp only [dH,bo,pH] at k |-;have:(hP (row::l) a b).length=(hP l (a+1) (qD a b row)).length:=rfl;omega
end
section
attribute [local simp] cK cI cJ cG cH cd bS cA ss ui uj wJ wK wL wM gP
def uw(n:Nat)(f:Nat):Value×D:=(.int .i64 n,.fn (.func f) [] [])
def zs:List (Value×D):=[uw 1 117,uw 2 117,uw 3 121,uw 4 122]
theorem ado:PC 55 [] (.fa zs):=by
 refine aG aH YI (by simp [CZ]) fun a=>?_
 simp [CZ,zs,uw]
theorem adp(l:List (List Ce)):PC 53 [.sl 1 (l.map b'),.fn (.func 52) [] []] (.ret (dB (l.any fun x=>decide (64<x.length)))):=LD (az:=[]) acz l
theorem Mm{l:List (List Ce)}{x:List Ce}(h:x∈l):x.length<=dH l:=by
 induction l with
 | nil=>cases h
 | cons y l a =>
  simp only [dH,bo,pH];rcases b_.1 h with rfl | h
  ·omega
  ·have:=a h;unfold dH at this;omega
theorem ux{R:D->D->Prop}{a b c d:List D}(h:bH R a b)(k:bH R c d):bH R (a++c) (b++d):=by
 induction h with
 | nil=>exact k
 | cons e _ f=>exact .cons e f
theorem zt(a b:List D):D.flat (a++b)=D.flat a++D.flat b:=by simp [D.flat]
theorem adq(y:List Ce):∀ c∈D.flat (y.map cm),c.one=true:=fun c a=>by simp only [D.flat,uX] at a;obtain⟨e,b,a⟩:=a;obtain⟨z,_,rfl⟩:=aS.1 b;rw [ss] at a;simp only [b_,n',oa] at a;rcases a with rfl | rfl <;> rfl
theorem zu{x y:List Ce}{es:List D}(a:es.length=y.length)(b:bH aB (D.flat es) (D.flat (y.map cm))):aB (.sl 2 (x.map cm++es)) (b' (x++y)):=by
 unfold b';refine KV ?_ (by simp [a]) (fun e c=>?_) (adq _)
 ·rw [dc,zt,zt];exact ux (rF aB.refl _) b
 ·obtain⟨z,_,rfl⟩:=aS.1 c;rfl
def nQ:D:=.agg [.lit (.string ⟨#[]⟩),.nil 1]
theorem Mn:bH aB (D.flat [nQ]) (D.flat ([kT].map cm)):=.cons (aB.refl _) (.cons (aB.nil 1) .nil)
theorem Mo(c:Ce):∀ n,bH aB (D.flat (List.replicate n nQ++[cm c])) (D.flat ((List.replicate n kT++[c]).map cm))
 | 0=>rF aB.refl _
 | n+1=>by
  have a:=Mo c n;have b:D.flat (List.replicate (n+1) nQ++[cm c])=D.flat [nQ]++D.flat (List.replicate n nQ++[cm c]):=by rw [<- zt];rfl
  have d:D.flat ((List.replicate (n+1) kT++[c]).map cm)=D.flat ([kT].map cm)++D.flat ((List.replicate n kT++[c]).map cm):=by rw [<- zt];rfl
  rw [b,d];exact ux Mn a
theorem adr{a:List D}{l:List (List Ce)}(h:bH aB a (l.map b'))(c:∀ d∈a,d.one=true):aB (.sl 1 a) (.sl 1 (l.map b')):=by
 have b:∀ d∈l.map b',d.one=true:=fun d f=>by obtain⟨x,_,rfl⟩:=aS.1 f;rfl
 refine KV (by rw [lv _ c,lv _ b];exact h) (by have:=gD h;simpa using this) (fun e g=>?_) (by rw [lv _ b];exact b);obtain⟨x,_,rfl⟩:=aS.1 g;rfl
theorem Mp{n:Nat}{p:List Nat}{m r:Nat}(h:ez (n::p) m r):((n=1\/n=2)/\∃ a b,m=a+1/\r=b+1/\ez p a b)\/(n=3/\∃ a,m=a+1/\ez p a r)\/(n=4/\∃ b,r=b+1/\ez p m b):=by
 match n,m,r,h with
 | 1,m+1,r+1,h=>exact .inl ⟨.inl rfl,m,r,rfl,rfl,h⟩
 | 2,m+1,r+1,h=>exact .inl ⟨.inr rfl,m,r,rfl,rfl,h⟩
 | 3,m+1,r,h=>exact .inr (.inl ⟨rfl,m,rfl,h⟩)
 | 4,m,r+1,h=>exact .inr (.inr ⟨rfl,r,rfl,by simpa [ez] using h⟩)
 | 0,m,r,h=>simp [ez] at h
 | n+5,m,r,h=>simp [ez] at h
 | 1,0,r,h=>cases r <;> simp [ez] at h
 | 1,m+1,0,h=>simp [ez] at h
 | 2,0,r,h=>cases r <;> simp [ez] at h
 | 2,m+1,0,h=>simp [ez] at h
 | 3,0,r,h=>simp [ez] at h
 | 4,m,0,h=>simp [ez] at h
theorem ads{p:List Nat}:∀ {m r:Nat},ez p m r->p.length<=m+r:=by
 induction p with
 | nil=>intro m r _;exact bp _
 | cons n p b =>intro m r h;rcases Mp h with ⟨_,c,d,rfl,rfl,a⟩ | ⟨_,c,rfl,a⟩ | ⟨_,d,rfl,a⟩ <;> have:=b a <;> simp only [bN] <;> omega
theorem adt(l:List (List Ce))(hl:l.length<=16)(d0:∀ r∈l,∀ c∈r,hL c=true)(d6:dH l<=64):PC 19 [.sl 1 (l.map b')] (.ret (.af [.sl 1 ((hP l 0 []).map b'),dI 0])):=by
 refine aG aH Yl (by simp [CQ]) fun hr=>?_
 have d1:=adp l;have d7:(l.any fun e=>decide (64<e.length))=false:=by rw [hv];intro e P;have:=Mm P;simp;omega
 rw [d7] at d1;simp [CQ];refine ah [.ret (dB false)] ?_;simp [show ¬ (16:Int)<(l.length:Int) by omega];refine⟨d1,?_⟩;refine bm [0,2,32,33] Nat (fun a=>[(34,true,.d (dI a))]) (fun a=>[]) (fun a=>a<=l.length) (fun a=>l.length-a) 0 (bp _) ⟨[],[],?_⟩ (fun k d2=>?_)
 ·simp
 by_cases s:k<l.length
 ·have hw:=wS k (by omega);have f4:=Mm (cN s);simp [s,b'];refine bm [0,2,32,33,34,38,39] Nat (fun a=>[(40,true,.d (dI a))]) (fun a=>[]) (fun a=>a<=l[k].length) (fun a=>l[k].length-a) 0 (bp _) ⟨[],[],?_⟩ (fun b hi=>?_)
  ·simp
  by_cases t:b<l[k].length
  ·have Q:=wS b (by omega);have kr:=Lu l[k][b];rw [d0 l[k] (cN s) l[k][b] (cN t)] at kr;simp [t,cm];refine ah [.ret (dB true)] ?_;simp;refine⟨kr,b+1,by omega,by omega,[],[],?_⟩;simp [Q]
  ·simp [t];refine⟨k+1,by omega,by omega,[],[],?_⟩;simp [hw]
 ·simp [s];refine ah [.fa zs] ?_;simp [zs,uw];refine⟨ado,?_⟩;refine bm [0,9,50,51] (Nat×List (List Ce)) (fun a=>[(52,true,.d (dI a.1)),(2,true,.d (.sl 1 (a.2.map b')))]) (fun a=>[]) (fun a=>a.1<=l.length/\hP (l.drop a.1) a.1 a.2=hP l 0 []/\(∀ e∈a.2,lH a.1 e)/\a.2.length+dH (l.drop a.1)<=64) (fun a=>l.length-a.1) (0,[]) ⟨bp _,rfl,by simp,by simpa using d6⟩ ⟨[],[],?_⟩ (fun a b2=>?_)
  ·simp
  obtain⟨k,f⟩:=a;obtain⟨d2,K,Y,b3⟩:=b2;simp only at d2 K Y b3;by_cases s:k<l.length
  ·have hw:=wS k (by omega);rw [fF s] at K b3;simp only [dH,bo,pH] at b3;have d3:=d0 l[k] (cN s);simp [s];generalize f5:l[k]=g at *;generalize R:f.map eT=A at *;generalize S:g.map Ce.tx=B at *;have aH:A.length=f.length:=by rw [<- R];simp
   have d4:B.length=g.length:=by rw [<- S];simp
   have d8:∀ b (h:b<f.length) T,A[b]'T=eT f[b]:=fun b h T=>by subst R;simp
   have d9:∀ b (h:b<g.length) T,B[b]'T=g[b].tx:=fun b h T=>by subst S;simp
   have e0:¬ 64<f.length:=by omega
   have e3:f.length<=64:=by omega
   simp [show ¬ (64:Int)<(f.length:Int) by omega,e0,e3];intro e4;clear e4;refine bm [0,2,9,10,11,13,50,51,52,60,61] Nat (fun a=>[(62,true,.d (dI a)),(12,true,.own 1 1 ((A.take a).map dT))]) (fun a=>[(1,.row)]) (fun a=>a<=f.length) (fun a=>f.length-a) 0 (bp _) ⟨[],[(1,1)],?_⟩ (fun b hi=>?_)
   ·simp
   by_cases t:b<f.length
   ·have Q:=wS b (by omega);have e5:=LF f[b];simp [t];have b4:List.take (b+1) (List.map dT A)=List.take b (List.map dT A)++[dT (eT f[b])]:=by rw [fR (by simp [aH];exact t),HA,d8 b t]
    refine ah [.ret (dT (eT f[b]))] ?_;simp;refine⟨e5,⟨by omega,by omega⟩,b+1,by omega,by omega,[(1,3)],[],?_⟩;simp [Q,b4]
   ·have E:b=f.length:=by omega
    subst E;have b4:List.take f.length (List.map dT A)=List.map dT A:=d' (by simp [aH]);simp [t,b4,b'];refine bm [0,2,9,10,11,12,50,51,52,72,73] Nat (fun a=>[(74,true,.d (dI a)),(13,true,.own 2 1 ((B.take a).map dT))]) (fun a=>[(2,.row)]) (fun a=>a<=g.length) (fun a=>g.length-a) 0 (bp _) ⟨[],[(2,1)],?_⟩ (fun b hi=>?_)
    ·simp
    by_cases Z:b<g.length
    ·have Q:=wS b (by omega);have b5:List.take (b+1) (List.map dT B)=List.take b (List.map dT B)++[dT g[b].tx]:=by rw [fR (by simp [d4];exact Z),HA,d9 b Z]
     simp [Z,cm];refine⟨⟨by omega,by omega⟩,b+1,by omega,by omega,[(2,5)],[],?_⟩;simp [Q,b5]
    ·have E:b=g.length:=by omega
     subst E;have b5:List.take g.length (List.map dT B)=List.map dT B:=d' (by simp [d4]);have e6:A.any (fun e=>!bw e)=false:=by rw [<- R];exact adm Y
     have e7:B.any (fun e=>!bw e)=false:=by rw [<- S];exact adn d3
     simp [Z,b5];refine ah [.ret (.af [.sl 1 ((nP A B).map fun n:Nat=>dI n),dI (tb A B 0 0),dI 0])] ?_;simp;refine⟨adj A B (by omega) (by omega) e6 e7,?_⟩;obtain⟨b6,e8,f6⟩:=Ml (i:=k) Y d3 (by omega) (by omega);rw [R,S] at b6;have f7:=ads b6;have f0:hP (l.drop (k+1)) (k+1) (qD k f g)=hP l 0 []:=K;have hN:qD k f g=gQ k (nP A B) f g:=by unfold qD;rw [R,S]
     generalize f8:nP A B=u at *;generalize f9:qD k f g=d5 at *;refine bm [0,9,10,21,50,51,52,99,100] (Nat×List (List Ce)×List Ce×List (List Ce)×List D) (fun a=>[(101,true,.d (dI a.1))]) (fun a=>[(3,.box true [.d (.sl 1 (a.2.1.map b')),.own 4 1 a.2.2.2.2,.d (.sl 2 (a.2.2.1.map cm)),.d (dI k)]),(4,.row)]) (fun a=>a.1<=u.length/\a.2.2.2.1++gQ k (u.drop a.1) a.2.1 a.2.2.1=d5/\ez (u.drop a.1) a.2.1.length a.2.2.1.length/\a.2.2.2.1.length+a.2.1.length+a.2.2.1.length<=128/\a.2.1.length<=64/\a.2.2.1.length<=64/\(∀ e∈a.2.1,e.length<=16)/\bH aB a.2.2.2.2 (a.2.2.2.1.map b')/\∀ d∈a.2.2.2.2,d.one=true) (fun a=>u.length-a.1) (0,f,g,[],[]) ⟨bp _,hN.symm,b6,by simp;omega,by simp only;omega,by simp only;omega,fun e P=>by have:=(Y e P).1;omega,.nil,by simp⟩ ⟨[],[(4,1)],?_⟩ (fun a b2=>?_)
     ·simp
     obtain⟨j,L,M,F,U⟩:=a;obtain⟨f1,v,b7,w,b8,b9,G,H,N⟩:=b2;simp only at f1 v b7 w b8 b9 G H N;have g0:U.length=F.length:=by have:=gD H;simpa using this
     by_cases c0:j<u.length
     ·have a0:=wS j (by omega);rw [fF c0] at v b7;simp [c0];generalize u[j]=st at *;generalize C:u.drop (j+1)=p at *;refine aK [] ?_;rcases Mp b7 with ⟨f2,c1,c2,V,W,O⟩ | ⟨rfl,c1,V,O⟩ | ⟨rfl,c2,W,O⟩
      ·obtain⟨e,m,rfl⟩:∃ e I,L=e::I:=by cases L with | nil=>simp at V | cons e o=>exact⟨e,o,rfl⟩
       obtain⟨c,q,rfl⟩:∃ c I,M=c::I:=by cases M with | nil=>simp at W | cons e o=>exact⟨e,o,rfl⟩
       have P:=G e (by simp);have a1:List.take m.length (List.map b' m)=List.map b' m:=d' (by simp);have a2:List.take q.length (List.map cm q)=List.map cm q:=d' (by simp);simp only [bN] at V W w b8 b9;have b0:m.length=c1:=by omega
       have b1:q.length=c2:=by omega
       rcases f2 with rfl | rfl
       ·simp;refine aV (TF Tryz.prog a117) (aR Km) ?_;simp [a117];refine aK [] ?_;simp;refine aV (TF Tryz.prog a119) (aR c119) ?_;simp [a119];refine⟨by omega,rfl,?_⟩;refine aV (TF Tryz.prog r') (aR DG) ?_;simp [r'];refine⟨by omega,rfl,?_⟩;refine aV (TF Tryz.prog oQ) (aR yL) ?_;simp [oQ,b',cm];refine⟨by omega,⟨by omega,by omega⟩,⟨by omega,by omega⟩,rfl,j+1,m,q,F++[e++[c]],U++[.sl 2 (e.map cm++[cm c])],⟨by omega,by rw [C,<- v];simp [gQ],by rw [C,b0,b1];exact O,by simp only [da,bN,mR] at w |-;omega,by omega,by omega,fun z X=>G z (by simp [X]),by rw [dc];exact ux H (.cons (zu (es:=[cm c]) rfl (rF aB.refl _)) .nil),fun d J=>by rcases cV.1 J with h | h;exact N d h;simp at h;rw [h];rfl⟩,by omega,[(4,11)],[],?_⟩;simp [a0,a1,a2]
        first | done | rfl | trace_state
       ·simp;refine aV (TF Tryz.prog a117) (aR Km) ?_;simp [a117];refine aK [] ?_;simp;refine aV (TF Tryz.prog a119) (aR c119) ?_;simp [a119];refine⟨by omega,rfl,?_⟩;refine aV (TF Tryz.prog r') (aR DG) ?_;simp [r'];refine⟨by omega,rfl,?_⟩;refine aV (TF Tryz.prog oQ) (aR yL) ?_;simp [oQ,b',cm];refine⟨by omega,⟨by omega,by omega⟩,⟨by omega,by omega⟩,rfl,j+1,m,q,F++[e++[c]],U++[.sl 2 (e.map cm++[cm c])],⟨by omega,by rw [C,<- v];simp [gQ],by rw [C,b0,b1];exact O,by simp only [da,bN,mR] at w |-;omega,by omega,by omega,fun z X=>G z (by simp [X]),by rw [dc];exact ux H (.cons (zu (es:=[cm c]) rfl (rF aB.refl _)) .nil),fun d J=>by rcases cV.1 J with h | h;exact N d h;simp at h;rw [h];rfl⟩,by omega,[(4,11)],[],?_⟩;simp [a0,a1,a2]
        first | done | rfl | trace_state
      ·obtain⟨e,m,rfl⟩:∃ e I,L=e::I:=by cases L with | nil=>simp at V | cons e o=>exact⟨e,o,rfl⟩
       have P:=G e (by simp);have a1:List.take m.length (List.map b' m)=List.map b' m:=d' (by simp);simp only [bN] at V w b8;have b0:m.length=c1:=by omega
       simp;refine aV (TF Tryz.prog DH) (aR ZF) ?_;simp [DH];refine aK [] ?_;simp;refine aV (TF Tryz.prog a119) (aR c119) ?_;simp [a119];refine⟨by omega,rfl,?_⟩;refine aV (TF Tryz.prog oQ) (aR yL) ?_;simp [oQ,b',cm];refine⟨by omega,⟨by omega,by omega⟩,⟨by omega,by omega⟩,rfl,j+1,m,M,F++[e++[kT]],U++[.sl 2 (e.map cm++[nQ])],⟨by omega,by rw [C,<- v];simp [gQ],by rw [C,b0];exact O,by simp only [da,bN,mR] at w |-;omega,by omega,by omega,fun z X=>G z (by simp [X]),by rw [dc];exact ux H (.cons (zu (es:=[nQ]) rfl Mn) .nil),fun d J=>by rcases cV.1 J with h | h;exact N d h;simp at h;rw [h];rfl⟩,by omega,[(4,10)],[],?_⟩;simp [a0,a1]
       first | done | rfl | trace_state
      ·obtain⟨c,q,rfl⟩:∃ c I,M=c::I:=by cases M with | nil=>simp at W | cons e o=>exact⟨e,o,rfl⟩
       have a2:List.take q.length (List.map cm q)=List.map cm q:=d' (by simp);simp only [bN] at W w b9;have b1:q.length=c2:=by omega
       simp;refine aV (TF Tryz.prog DI) (aR ZG) ?_;simp [DI];refine WN [] [] [] ?_;simp;refine⟨⟨by omega,by omega,by omega⟩,rfl,?_⟩;refine nh (TF Tryz.prog r') (aR DG) ?_;simp [r'];refine⟨by omega,rfl,⟨by omega,by omega,by omega⟩,rfl,?_⟩;refine aV (TF Tryz.prog oQ) (aR yL) ?_;simp [oQ,b',cm];have g1:k<=16:=by omega
       refine⟨by omega,⟨by omega,by omega⟩,⟨by omega,by omega⟩,rfl,j+1,L,q,F++[List.replicate k kT++[c]],U++[.sl 2 (List.replicate k nQ++[cm c])],⟨by omega,by rw [C,<- v];simp [gQ],by rw [C,b1];exact O,by simp only [da,bN,mR] at w |-;omega,by omega,by omega,G,by rw [dc];exact ux H (.cons (zu (x:=[]) (y:=List.replicate k kT++[c]) (es:=List.replicate k nQ++[cm c]) (by simp) (Mo c k)) .nil),fun d J=>by rcases cV.1 J with h | h;exact N d h;simp at h;rw [h];rfl⟩,by omega,[(4,11)],[],?_⟩;simp [a0,a2,nQ,cm]
       first | done | rfl | trace_state
     ·have E:j=u.length:=by omega
      subst E;rw [oc] at v;have f3:F=d5:=by rw [<- v];cases L <;> cases M <;> simp [gQ]
      subst f3;simp [c0];refine⟨k+1,F,⟨by omega,f0,e8,by unfold dH;omega⟩,by omega,[],[],?_⟩;simp [hw];exact adr H N
  ·have E:k=l.length:=by omega
   subst E;rw [oc] at K;simp only [hP] at K;subst K;simp [s]
end
section
attribute [local simp] cK cI cJ cG cH cd bS cA qu qv qw gP
def kb(x:Tm):Int×B8:=(x.aJ,ev x.src [10])
def jb(x:Tm):Value:=.agg #[.int .i64 x.aJ,.string (bs (ev x.src [10]))]
def hc(x:Tm):Value×AV:=(jb x,.d (bF x))
theorem Mq(x y:Tm):hA (jb x) (jb y)=some (decide (kb x=kb y)):=by unfold jb kb;simp only [Jz,JB,Uz,JA,eA,pd];by_cases a:x.aJ=y.aJ <;> by_cases b:ev x.src [10]=ev y.src [10] <;> simp [a,b]
theorem adu{x y:Tm}(h:kb x=kb y):jb x=jb y:=by unfold kb at h;simp only [ee] at h;unfold jb;rw [h.1,h.2]
def pf(x:Tm):List Tm->Option Tm
 | []=>none
 | y::l=>if kb x=kb y then some y else pf x l
def qE(x:Tm):List Tm->List Tm
 | []=>[]
 | y::l=>if kb x=kb y then x::l else y::qE x l
theorem Fl(x:Tm):∀ l,dJ (jb x) (l.map hc)=some ((pf x l).map fun y=>.d (bF y))
 | []=>rfl
 | y::l=>by rw [bo,hc,dJ,Mq,pf,Fl x l];by_cases h:kb x=kb y <;> simp [h]
theorem Mr(x:Tm):∀ l,fj (jb x) (.d (bF x)) (l.map hc)=(qE x l).map hc
 | []=>rfl
 | y::l=>by
  rw [bo,show hc y=(jb y,.d (bF y)) from rfl,fj,Mq,qE,Mr x l];by_cases h:kb x=kb y
  ·simp [h,hc,adu h]
  ·simp [h,hc]
theorem nR(b:Nat->Nat)(n o)(k:Nat)(a:List Tm):aq.ba b n o k (a.map ((fun x=>x.snd)∘hc)) (a.map ((fun x=>x.snd)∘hc)):=by
 have:a.map ((fun x=>x.snd)∘hc)=(a.map bF).map AV.d:=by rw [dA];rfl
 rw [this];exact js _ _ _ _ _
theorem adv(b:Nat->Nat)(n o)(k:Nat)(a:List Tm)(x:D):aq.ba b n o k (a.map ((fun x=>x.snd)∘hc)++[.d x]) (a.map ((fun x=>x.snd)∘hc)++[.d x]):=by
 have:a.map ((fun x=>x.snd)∘hc)++[.d x]=(a.map bF++[x]).map AV.d:=by rw [dc,dA];rfl
 rw [this];exact js _ _ _ _ _
theorem Ms{x z:Tm}:∀ {l},z∈qE x l->z=x\/z∈l
 | [],h=>by cases h
 | y::l,h=>by
  rw [qE] at h;split at h
  ·rcases b_.1 h with h | h
   ·exact .inl h
   ·exact .inr (cD _ h)
  ·rcases b_.1 h with h | h
   ·exact .inr (by rw [h];exact dj ..)
   ·rcases Ms h with h | h
    ·exact .inl h
    ·exact .inr (cD _ h)
theorem Fm{l:List B8}(h:jW l=true)(f:UInt8):(ev l [f]).length<=1000/\l.length<=4:=by
 unfold jW at h;simp only [ax,bD,ko] at h;obtain⟨o,g,i⟩:=h;refine⟨?_,g⟩;have j:∀ x∈l,x.length<=64:=fun x c=>by
  have:=hv.1 i x c;simp only [ko,Bool.not_eq_false] at this;have d:bw x=true:=by simpa using this
  unfold bw at d;simp only [ax,bD] at d;exact d.1.1.2
 cases l with
 | nil=>simp [ev,Lib.join]
 | cons a r =>
  unfold ev;rw [Lib.join_length];have:∀ m:List B8,(∀ x∈m,x.length<=64)->Lib.lens m<=64*m.length:=fun m=>by
   induction m with
   | nil=>intro _;simp [Lib.lens]
   | cons b m k =>
    intro e;have n:=k fun x c=>e x (cD _ c)
    have p:=e b (dj ..);simp only [Lib.lens,bo,pH,bN] at n |-;omega
  have:=this (a::r) j;simp only [bN,mR] at *;omega
theorem zv{x:Tm}(h:ic x=true):jW x.src=true/\0<=x.aJ/\x.aJ<32/\0<=x.no/\x.no<=1048576:=by unfold ic pa at h;simp only [ax,bD] at h;exact⟨h.2.2.2.2.2.1,h.2.2.2.2.1.1,h.2.2.2.2.1.2,h.1,h.2.1⟩
theorem wW{x:Tm}(h:ic x=true):dN [.int .i64,.str] (jb x):=by
 obtain⟨a,b,c,_⟩:=zv h;have:=(Fm a 10).1;refine⟨⟨rfl,?_,?_⟩,?_,trivial⟩
 ·simp [IntKind.min,IntKind.bits,IntKind.signed];omega
 ·simp [IntKind.max,IntKind.bits,IntKind.signed];omega
 ·rw [bS];omega
theorem uy(t:B8)(r:List D):pT (dT t::r)=(pT r).map (Value.string (bs t)::·):=rfl
theorem adw(x:Tm)(h:ic x=true):PC 74 [.sl 1 (x.src.map dT),.lit (.string ⟨#[10]⟩)] (.ret (dT (ev x.src [10]))):=by have:=Fm (zv h).1 10;exact ET x.src [10] (by omega) (by omega)
theorem Mu(x:Tm)(h:ic x=true):PC 145 [bF x] (.ret (.agg [dI x.aJ,dT (ev x.src [10])])):=by
 refine aG aH Z_ (by simp [a145]) fun a=>?_
 have k:=adw x h;generalize ev x.src [10]=j at k;simp [a145,bF];refine bY [.ret (dT j)] ?_;simp;exact⟨k,rfl⟩
def pg(b c d:Int)(a:List Tm)(y:Tm):List Tm :=
 if y.aJ≠b\/c<y.at_\/d<y.kn then a else match pf y a with
  | none=>a++[y]
  | some z=>if z.at_<=y.at_ then qE y a else a
def qF(a b c:Int)(d:List Tm)(l:List Tm):List Tm:=l.foldl (pg a b c) d
def sx(m:List Tm)(y:Tm):Bool:=match pf y m with
 | none=>false
 | some z=>decide (z.no=y.no)&&!y.gone
def kc(a b c:Int)(l:List Tm):List Tm:=l.filter (sx (qF a b c [] l))
def ig(a b c:Int)(l:List Tm):Int:=if nK l≠0 then nK l else if pa a&&(jX b&&jX c) then 0 else 1
theorem adx{aJ at_ kn:Int}{b:List Tm}{y:Tm}(h:∀ e∈b,ic e=true)(c:ic y=true):∀ e∈pg aJ at_ kn b y,ic e=true:=by
 intro e a;unfold pg at a;split at a
 ·exact h e a
 ·split at a
  ·rcases cV.1 a with a | a
   ·exact h e a
   ·simp at a;rw [a];exact c
  ·split at a
   ·rcases Ms a with a | a
    ·rw [a];exact c
    ·exact h e a
   ·exact h e a
theorem Mv(n:Int):PC 144 [dI n] (.ret (dB (jX n))):=Ls n
theorem ady(n:Int):PC 143 [dI n] (.ret (dB (pa n))):=Lt n
theorem wX:∀ {l:List Tm}{n:Int},pb n l=true->∀ x∈l,ic x=true
 | [],_,_,x,a=>by cases a
 | y::l,n,h,x,a=>by
  rw [pb] at h;simp only [ax] at h;rcases b_.1 a with rfl | a
  ·first | exact h.1 | exact h.1.1 | exact h.2.1
  ·first | exact wX h.2 x a | exact wX h.2.2 x a
theorem adz(l:List Tm)(d g h:Int):PC 73 [.sl 8 (l.map bF),dI d,dI g,dI h] (.ret (.af [.sl 8 ((if ig d g h l=0 then kc d g h l else []).map bF),dI (ig d g h l)])):=by
 refine aG aH YV (by simp [Dd]) fun R=>?_
 have S:=(R (.sl 8 (l.map bF)) (by simp)).sl.1;simp at S;have k1:=aci l;have k2:=ady d;have k3:=Mv g;have k4:=Mv h;simp [Dd];refine ah [.ret (dI (nK l))] ?_;by_cases q1:nK l=0
 case neg =>simp [q1,ig];exact k1
 have T:pb (-1) l=true:=by
  unfold nK at q1;split at q1
  ·cases q1
  ·split at q1
   ·assumption
   ·cases q1
 have O:=wX T;rw [q1] at k1;simp [q1];refine⟨k1,?_⟩;refine ah [.ret (dB (pa d)),.ret (dB (jX g)),.ret (dB (jX h))] ?_;cases u:pa d with
 | false =>rw [u] at k2;simp [q1,u,ig];exact k2
 | true =>
 rw [u] at k2;simp;refine⟨k2,?_⟩;cases B:jX g with
 | false =>rw [B] at k3;simp [q1,u,B,ig];exact k3
 | true =>
 rw [B] at k3;simp;refine⟨k3,?_⟩;cases G:jX h with
 | false =>rw [G] at k4;simp [q1,u,B,G,ig];exact k4
 | true =>
 rw [G] at k4;have U:ig d g h l=0:=by simp [ig,q1,u,B,G]
 rw [U];simp;refine⟨k4,?_⟩;clear k1 k2 k3 k4;refine bm [0,1,2,3,8,9,10,38,39] (Nat×List Tm) (fun y=>[(40,true,.d (dI y.1))]) (fun y=>[(0,.aA (y.2.map hc))]) (fun y=>y.1<=l.length/\qF d g h y.2 (l.drop y.1)=qF d g h [] l/\∀ e∈y.2,ic e=true) (fun y=>l.length-y.1) (0,[]) ⟨bp _,rfl,by simp⟩ ⟨[],[],?_⟩ (fun y V=>?_)
 ·simp
 obtain⟨k,c⟩:=y;obtain⟨P,C,s⟩:=V;simp only at P C s;have X:∀ (a:Value) (x:Tm),x∈c->jb x=a->dN [.int .i64,.str] a:=fun a x D e=>e ▸ wW (s x D)
 by_cases r:k<l.length
 ·have o:=wS k (by omega);rw [fF r,qF,s'] at C;have i:qF d g h (pg d g h c l[k]) (l.drop (k+1))=qF d g h [] l:=C;have v:=O l[k] (cN r);have w:=adx (aJ:=d) (at_:=g) (kn:=h) s v;simp [r];generalize l[k]=y at *;simp [bF];by_cases f:y.aJ=d
  case neg =>
   refine ah [] ?_;simp [f];refine⟨k+1,c,⟨by omega,by unfold pg at i;rw [aj (.inl f)] at i;exact i,s⟩,by omega,[],[],?_⟩;simp [o]
   try exact nR _ _ _ _ _
  by_cases p:g<y.at_
  ·refine ah [] ?_;simp [f,p];refine⟨k+1,c,⟨by omega,by unfold pg at i;rw [aj (.inr (.inl p))] at i;exact i,s⟩,by omega,[],[],?_⟩;simp [o]
   try exact nR _ _ _ _ _
  by_cases H:h<y.kn
  ·refine ah [] ?_;simp [f,p,H];refine⟨k+1,c,⟨by omega,by unfold pg at i;rw [aj (.inr (.inr H))] at i;exact i,s⟩,by omega,[],[],?_⟩;simp [o]
   try exact nR _ _ _ _ _
  refine ah [] ?_;simp [f,p,H];have m:=Mu y v;have cF:=Fl y c;have n:=wW v;have t:∀ (a:Value) (b:AV),(a,b)∈c.map hc->dN [.int .i64,.str] a:=fun a b K=>by obtain⟨x,D,E⟩:=aS.1 K;simp only [hc,ee] at E;rw [<- E.1];exact wW (s x D)
  unfold jb at cF n;unfold bF at m;generalize Q:ev y.src [10]=j at m cF n;rw [f] at m cF n;refine ah [.ret (.agg [dI d,dT j])] ?_;have q:pg d g h c y=match pf y c with
   | none=>c++[y]
   | some z=>if z.at_<=y.at_ then qE y c else c:=by unfold pg;rw [ab (by simp [f,p,H])]
  have L:hc y=(Value.agg #[.int .i64 d,.string (bs j)],.d (.agg [dI y.no,dI y.at_,dI y.kn,dI d,.sl 1 (y.src.map dT),.sl 1 (y.cR.map dT),dT y.cat,dB y.gone])):=by unfold hc jb bF;rw [Q,f]
  cases F:pf y c with
  | none =>rw [F] at cF q;simp [cF,uy,-dN,-List.mem_map,f];refine⟨m,⟨n,t⟩,?_⟩;refine ah [] ?_;simp;refine bY [.ret (.agg [dI d,dT j])] ?_;simp [cF,uy,-dN,-List.mem_map,f];refine⟨m,⟨n,t⟩,rfl,k+1,c++[y],⟨by omega,by rw [q] at i;exact i,by rw [q] at w;exact w⟩,by omega,[],[],?_⟩;simp [o,L];exact adv _ _ _ _ _ _
  | some z =>
   rw [F] at cF q;simp [cF,uy,-dN,-List.mem_map,f];refine⟨m,⟨n,t⟩,?_⟩;by_cases I:z.at_<=y.at_
   ·simp only [I,eA] at q;simp [bF];refine ah [] ?_;simp [I];refine bY [.ret (.agg [dI d,dT j])] ?_;simp [cF,uy,-dN,-List.mem_map,f];refine⟨m,⟨n,t⟩,rfl,k+1,qE y c,⟨by omega,by rw [q] at i;exact i,by rw [q] at w;exact w⟩,by omega,[],[],?_⟩;have M:=Mr y c;rw [show jb y=_ from congrArg Prod.fst L,show AV.d (bF y)=_ from congrArg Prod.snd L] at M;simp only [dI,dB] at M;simp [o,M];exact nR _ _ _ _ _
   ·simp only [I,eM] at q;simp [bF];refine ah [] ?_;simp [I];refine⟨k+1,c,⟨by omega,by rw [q] at i;exact i,by rw [q] at w;exact w⟩,by omega,[],[],?_⟩;simp [o]
    try exact nR _ _ _ _ _
 ·have N:k=l.length:=by omega
  subst N;rw [oc] at C;have W:c=qF d g h [] l:=C;simp [r];unfold kc;rw [<- W];refine bm [10,81,82] Nat (fun k=>[(83,true,.d (dI k)),(8,true,.own 1 8 (((l.take k).filter (sx c)).map bF))]) (fun k=>[(1,.row)]) (fun k=>k<=l.length) (fun k=>l.length-k) 0 (bp _) ⟨[],[(1,8)],?_⟩ (fun k P=>?_)
  ·simp
   try exact nR _ _ _ _ _
  by_cases r:k<l.length
  ·have o:=wS k (by omega);have v:=O l[k] (cN r);have Y:((l.take k).filter (sx c)).length<=1024:=by
    have Z:=lV (sx c) (l.take k);have h2:l.length<=1024:=by
     unfold nK at q1;split at q1
     ·cases q1
     ·omega
    have h3:=PW k l;have h4:=List.length_take_le' k l;omega
   have J:l.take (k+1)=l.take k++[l[k]]:=fR r;simp [r];generalize l[k]=y at *;simp [bF];have m:=Mu y v;have cF:=Fl y c;have n:=wW v;have t:∀ (a:Value) (b:AV),(a,b)∈c.map hc->dN [.int .i64,.str] a:=fun a b K=>by obtain⟨x,D,E⟩:=aS.1 K;simp only [hc,ee] at E;rw [<- E.1];exact wW (s x D)
   unfold jb at cF n;unfold bF at m;generalize Q:ev y.src [10]=j at m cF n;refine ah [.ret (.agg [dI y.aJ,dT j])] ?_;have A:sx c y=match pf y c with
    | none=>false
    | some z=>decide (z.no=y.no)&&!y.gone:=rfl
   cases F:pf y c with
   | none =>
    rw [F] at cF A;simp [cF,uy,-dN,-List.mem_map];refine⟨m,⟨n,t⟩,?_⟩;refine ah [] ?_;simp;refine⟨k+1,by omega,by omega,[],[],?_⟩;simp [o,J,A]
    try exact nR _ _ _ _ _
   | some z =>
    rw [F] at cF A;simp [cF,uy,-dN,-List.mem_map];refine⟨m,⟨n,t⟩,?_⟩;simp [bF];by_cases f:z.no=y.no
    ·cases p:y.gone with
     | true =>
      refine ah [] ?_;simp [f,p];refine⟨k+1,by omega,by omega,[],[],?_⟩;simp [o,J,A,f,p]
      try exact nR _ _ _ _ _
     | false =>
      refine ah [] ?_;simp [f,p];refine⟨⟨by omega,by omega⟩,k+1,by omega,by omega,[(1,5)],[],?_⟩;simp [o,J,A,f,p,bF]
      try exact nR _ _ _ _ _
    ·refine ah [] ?_;simp [f];refine⟨k+1,by omega,by omega,[],[],?_⟩;simp [o,J,A,f]
     try exact nR _ _ _ _ _
  ·have N:k=l.length:=by omega
   subst N;simp [r]
end
section
attribute [local simp] cK cI cJ cG cH cd bS cA gP
def zw:B8:=[103,114,97,109,109,97,114,32,99,97,116,101,103,111,114,121,32,115,116,97,114,116,32,119,111,114,100,32,105,115,32,103,105,118,101,115,32,99,111,115,116,32,114,117,108,101]
def uz:List B8:=Lib.fields zw
def hQ(s:B8):Bool:=o' s&&!decide (s∈uz)
theorem adA:PC 241 [dT zw] (.ret (.sl 1 (uz.map dT))):=acf zw (by decide) (by decide) (by decide) (by decide)
theorem adB(v:B8):PC 167 [.sl 1 (uz.map dT),dT v] (.ret (dB (decide (v∈uz)))):=sb uz v
theorem wY(s:B8):PC 219 [dT s] (.ret (dB (hQ s))):=by
 refine aG aH aaK (by simp [Em]) fun b=>?_
 have k1:=LB s;have k2:=adA;have k3:=adB s;have e:dT zw=.lit (.string ⟨#[103,114,97,109,109,97,114,32,99,97,116,101,103,111,114,121,32,115,116,97,114,116,32,119,111,114,100,32,105,115,32,103,105,118,101,115,32,99,111,115,116,32,114,117,108,101]⟩):=rfl;rw [e] at k2;unfold hQ;generalize uz=a at k2 k3 |-;simp [Em];refine ah [.ret (dB (o' s)),.ret (.sl 1 (a.map dT)),.ret (dB (decide (s∈a)))] ?_;cases q:o' s with
 | false =>rw [q] at k1;simp;exact k1
 | true =>rw [q] at k1;simp;exact⟨k1,k2,k3⟩
theorem adC{f:FuncId}{d:List D}{p:Int->Bool}(h:∀ b,PC f (dI b::d) (.ret (dB (p b))))(l:List Int):PC 133 [.sl 1 (l.map dI),.fn (.func f) [] d] (.ret (dI (fK p l))):=by
 refine aG (wN h) Kn (by simp [wu]) fun o=>?_
 have q:=(o (.sl 1 (l.map dI)) (by simp)).sl.1;simp at q;simp [wu];refine bm [0,1,7] Nat (fun y=>[(8,true,.d (dI y))]) (fun y=>[]) (fun y=>y<=l.length/\∀ j,(a:j<l.length)->j<y->p l[j]=false) (fun y=>l.length-y) 0 ⟨bp _,fun j a r=>absurd r (pG _)⟩ ⟨[],[],?_⟩ (fun k n=>?_)
 ·simp
 obtain⟨n,m⟩:=n;by_cases c:k<l.length
 ·have s:=wS k (by omega);have g:sv dI f d p f (dI l[k]::d) (.ret (dB (p l[k]))):=.call l[k];simp [c];refine ah [.ret (dB (p l[k]))] ?_;cases i:p l[k] with
  | true =>rw [i] at g;rw [qz c (fun j a=>m j (by omega) a) i];simp [c,nL];exact g
  | false =>
   rw [i] at g;simp [c,nL];refine⟨g,k+1,⟨by omega,fun j a t=>?_⟩,by omega,[],[],?_⟩
   ·by_cases e:j=k
    ·subst e;exact i
    ·exact m j a (by omega)
   ·simp [s]
 ·rw [qA (fun j a=>m j a (by omega))];simp [c]
inductive Fo (f:FuncId) (az:List D) (p:Int->Bool):FuncId->List D->Out->Prop
 | ix (l:List Int):Fo f az p 133 [.sl 1 (l.map dI),.fn (.func f) [] az] (.ret (dI (fK p l)))
theorem anyI{f:FuncId}{a:List D}{p:Int->Bool}(h:∀ b,PC f (dI b::a) (.ret (dB (p b))))(l:List Int):PC 65 [.sl 1 (l.map dI),.fn (.func f) [] a] (.ret (dB (l.any p))):=by
 have e:∀ g c d,Fo f a p g c d->PC g c d:=by
  intro g c d i;cases i with
  | ix l=>exact adC h l
 refine aG e Kj (by simp [wo]) fun k=>?_
 have j:Fo f a p 133 [.sl 1 (l.map dI),.fn (.func f) [] a] (.ret (dI (fK p l))):=.ix l;simp [wo];refine ah [.ret (dI (fK p l))] ?_;simp [<- qy];exact j
theorem adD{f:FuncId}{c:List D}{p:B8->Bool}(h:∀ b,PC f (dT b::c) (.ret (dB (p b))))(l:List B8):PC 67 [.sl 1 (l.map dT),.fn (.func f) [] c] (.ret (dI (fK p l))):=by
 refine aG aH Db (by simp [a67]) fun n=>?_
 have o:=(n (.sl 1 (l.map dT)) (by simp)).sl.1;simp at o;simp [a67];refine bm [0,1,7] Nat (fun y=>[(8,true,.d (dI y))]) (fun y=>[]) (fun y=>y<=l.length/\∀ j,(a:j<l.length)->j<y->p l[j]=false) (fun y=>l.length-y) 0 ⟨bp _,fun j a q=>absurd q (pG _)⟩ ⟨[],[],?_⟩ (fun k i=>?_)
 ·simp
 obtain⟨i,d⟩:=i;simp;refine⟨fun g=>?_,fun s=>?_⟩
 ·have r:=wS k (by omega);simp [g];refine aK [] ?_;simp [g];refine aV (TC (dT l[k]::c) (.ret (dB (p l[k])))) (kF (h l[k])) ?_;unfold TC kE;refine⟨by simp [nL],?_⟩;cases m:p l[k] with
  | true =>simp;rw [qz g (fun j a=>d j (by omega) a) m];exact aP rfl
  | false =>
   simp;refine⟨k+1,⟨by omega,fun j a t=>?_⟩,by omega,[],[],?_⟩
   ·by_cases e:j=k
    ·subst e;exact m
    ·exact d j a (by omega)
   ·simp [r]
 ·rw [qA (fun j a=>d j a (by omega))];simp
theorem adE{f:FuncId}{a:List D}{p:B8->Bool}(h:∀ b,PC f (dT b::a) (.ret (dB (p b))))(l:List B8):PC 29 [.sl 1 (l.map dT),.fn (.func f) [] a] (.ret (dB (l.any p))):=by
 refine aG aH CR (by simp [a29]) fun c=>?_
 simp [a29];refine aK [] ?_;simp;refine aV (TC [.sl 1 (l.map dT),.fn (.func f) [] a] (.ret (dI (fK p l)))) (kF (adD h l)) ?_;unfold TC kE;simp [<- qy]
theorem wZ{b:Type}(p:b->Bool)(l:List b):l.all p=!(l.any fun z=>!p z):=by
 induction l with
 | nil=>rfl
 | cons a l c=>simp only [jG,List.any_cons,c,Bool.not_or,Bool.not_not]
theorem adF{f:FuncId}{a:List D}{p:Int->Bool}(h:∀ b,PC f (dI b::a) (.ret (dB (p b))))(x:Int):PC 256 [dI x,.ip (.fn (.func f) [] a)] (.ret (dB (!p x))):=by
 refine aG (wN h) aa7 (by simp [EC]) fun c=>?_
 have k:sv dI f a p f (dI x::a) (.ret (dB (p x))):=.call x;simp [EC];refine ah [.ret (dB (p x))] ?_;simp [nL];exact k
inductive Fp (f:FuncId) (az:List D) (p:Int->Bool):FuncId->List D->Out->Prop
 | call (l:List (Int)):Fp f az p 65 [.sl 1 (l.map dI),.fn (.func 256) [] [.ip (.fn (.func f) [] az)]] (.ret (dB (l.any fun x=>!p x)))
theorem allI{f:FuncId}{az:List D}{p:Int->Bool}(h:∀ b,PC f (dI b::az) (.ret (dB (p b))))(l:List (List (Int))):PC 242 [.fn (.func f) [] az,.sl 1 (l.map fun x=>.sl 1 (x.map dI))] (.ret (dB (l.all fun x=>x.all p))):=by
 refine aG (C:=Fp f az p) (by intro g q r j;cases j with | call l=>exact anyI (adF h) l) aaW (by simp [Er]) fun m=>?_
 have n:=(m (.sl 1 (l.map fun x=>.sl 1 (x.map dI))) (by simp)).sl.1;simp at n;simp [Er];refine bm [2,7,8] Nat (fun y=>[(9,true,.d (dI y))]) (fun y=>[]) (fun y=>y<=l.length/\(l.drop y).all (fun x=>x.all p)=l.all (fun x=>x.all p)) (fun y=>l.length-y) 0 ⟨bp _,rfl⟩ ⟨[],[],?_⟩ (fun k d=>?_)
 ·simp
 obtain⟨d,a⟩:=d;by_cases c:k<l.length
 ·have o:=wS k (by omega);rw [fF c,jG] at a;simp [c];generalize l[k]=x at *;have e:x.all p=!(x.any fun z=>!p z):=wZ p x;have i:Fp f az p 65 [.sl 1 (x.map dI),.fn (.func 256) [] [.ip (.fn (.func f) [] az)]] (.ret (dB (x.any fun z=>!p z))):=.call x;generalize (x.any fun z=>!p z)=b at *;refine ah [.ret (dB b)] ?_;cases b with
  | true =>simp only [e,Hl,mT] at a;rw [<- a];simp;exact i
  | false =>simp only [e,Bool.not_false,gW] at a;simp;refine⟨i,k+1,⟨by omega,a⟩,by omega,[],[],?_⟩;simp [o]
 ·rw [vj (by omega),AU] at a;rw [<- a];simp [c]
theorem adG{f:FuncId}{a:List D}{p:B8->Bool}(h:∀ b,PC f (dT b::a) (.ret (dB (p b))))(x:B8):PC 244 [dT x,.ip (.fn (.func f) [] a)] (.ret (dB (!p x))):=by
 refine aG (wN h) aaY (by simp [Et]) fun c=>?_
 have k:sv dT f a p f (dT x::a) (.ret (dB (p x))):=.call x;simp [Et];refine ah [.ret (dB (p x))] ?_;simp [nL];exact k
theorem adH{f:FuncId}{az:List D}{p:B8->Bool}(h:∀ b,PC f (dT b::az) (.ret (dB (p b))))(l:List (List B8)):PC 221 [.fn (.func f) [] az,.sl 1 (l.map fun x=>.sl 1 (x.map dT))] (.ret (dB (l.all fun x=>x.all p))):=by
 refine aG aH aaM (by simp [Ep]) fun g=>?_
 have i:=(g (.sl 1 (l.map fun x=>.sl 1 (x.map dT))) (by simp)).sl.1;simp at i;simp [Ep];refine bm [2,7,8] Nat (fun y=>[(9,true,.d (dI y))]) (fun y=>[]) (fun y=>y<=l.length/\(l.drop y).all (fun x=>x.all p)=l.all (fun x=>x.all p)) (fun y=>l.length-y) 0 ⟨bp _,rfl⟩ ⟨[],[],?_⟩ (fun k d=>?_)
 ·simp
 obtain⟨d,a⟩:=d;by_cases c:k<l.length
 ·have j:=wS k (by omega);rw [fF c,jG] at a;simp [c];generalize l[k]=x at *;have e:x.all p=!(x.any fun z=>!p z):=wZ p x;refine aK [] ?_;simp;refine aV (TC [.sl 1 (x.map dT),.fn (.func 244) [] [.ip (.fn (.func f) [] az)]] (.ret (dB (x.any fun z=>!p z)))) (kF (adE (adG h) x)) ?_;unfold TC kE;generalize (x.any fun z=>!p z)=b at *;cases b with
  | true =>simp only [e,Hl,mT] at a;rw [<- a];simp
  | false =>simp only [e,Bool.not_false,gW] at a;simp;refine⟨k+1,⟨by omega,a⟩,by omega,[],[],?_⟩;simp [j]
 ·rw [vj (by omega),AU] at a;rw [<- a];simp [c]
def fe(a b n:Int):Bool:=decide (a<=n)&&decide (n<=b)
theorem adI(a b n:Int):PC 243 [dI n,.ip (dI a),.ip (dI b)] (.ret (dB (fe a b n))):=by
 refine aG aH aaX (by simp [Es]) fun c=>?_
 simp [Es];refine ah [] ?_;unfold fe;by_cases h:a<=n <;> simp [h]
inductive Fq (a b:Int):FuncId->List D->Out->Prop
 | all (n:Int):Fq a b 242 [.fn (.func 243) [] [.ip (dI a),.ip (dI b)],.sl 1 [.sl 1 [dI n]]] (.ret (dB (fe a b n)))
theorem uA(c d n:Int):PC 220 [dI c,dI d,.sl 1 [dI n]] (.ret (dB (fe c d n))):=by
 refine aG (C:=Fq c d) (by
  intro g h i e;cases e with
  | all n =>have:=allI (f:=243) (az:=[.ip (dI c),.ip (dI d)]) (p:=fe c d) (fun x=>adI c d x) [[n]];simpa using this) aaL (by simp [Eo]) fun j=>?_
 have k:=Fq.all (a:=c) (b:=d) n;generalize fe c d n=r at *;simp [Eo];refine ah [.ret (dB r)] ?_;simp;exact k
theorem Mw(l:List B8):PC 221 [.fn (.func 219) [] [],.sl 1 [.sl 1 (l.map dT)]] (.ret (dB (l.all hQ))):=by have:=adH (f:=219) (az:=[]) (p:=hQ) (fun x=>wY x) [l];simpa using this
end
section
attribute [local simp] cK cI cJ cG cH cd bS cA gP sj sk sm mq mr mu
abbrev Ix:=List (B8×Int)
def fM(e:B8×Int):Value×AV:=(.string (bs e.1),.d (dI e.2))
def hR(s:B8)(a:Ix):Option Int:=(a.find? fun e=>e.1 == s).map (·.2)
def kU(s:B8)(a:Ix):Bool:=(hR s a).isSome
theorem sy(s:B8):∀ a:Ix,dJ (.string (bs s)) (a.map fM)=some ((hR s a).map fun i=>.d (dI i))
 | []=>rfl
 | e::r=>by
  rw [bo,show fM e=(.string (bs e.1),.d (dI e.2)) from rfl,oJ,sy s r,rV,pd];unfold hR;rw [q_];by_cases h:s=e.1
  ·subst h;simp
  ·have b:(e.1 == s)=false:=by simp;exact fun q=>h q.symm
   simp [h,b]
def br(a:Ix):List (Nat×HO):=[(0,.aA (a.map fM)),(1,.box false [.mp 0]),(2,.box false [.fn (.func 187) [] [.ptr 1 0]]),(3,.box false [.fn (.func 217) [] [.ptr 2 0]]),(4,.box false [.fn (.func 222) [] [.ptr 3 0]])]
theorem cT(a:Ix):kH (br a):=by
 refine⟨?_,?_⟩
 ·simp [br,iV,bR,ai,fM]
 ·simp [br,jt,AV.one]
theorem fB(a:Ix):((List.range (newName (br a))).all fun n=>(ai (br a)).contains n)=true:=by simp [br,newName,ai,List.range,List.range.loop]
theorem hS(b:Nat->Nat)(n o)(k:Nat)(a:Ix):aq.ba b n o k (a.map ((fun x=>x.snd)∘fM)) (a.map ((fun x=>x.snd)∘fM)):=by
 have:a.map ((fun x=>x.snd)∘fM)=(a.map fun e=>dI e.2).map AV.d:=by rw [dA];rfl
 rw [this];exact js _ _ _ _ _
def qG(a:Ix)(f:FuncId)(b:List AV)(d:D):Prop:=cW Tryz.prog f (mh (br a) b (qq (br a) d))
theorem adJ(a:Ix)(s:B8):qG a 187 [.d (dT s),.ptr 1 0] (.af [dI ((hR s a).getD 0),dB (kU s a)]):=by
 refine oN (aR aaC) kC (cT a) ?_;have b:=sy s a;have c:dT s=.lit (.string (bs s)):=rfl;unfold kU;cases d:hR s a with
 | none =>rw [d] at b;simp [Ej,br,c,b,fT];exact et (cT a) (fB a) (by simp [br]) (by simp)
 | some i =>rw [d] at b;simp [Ej,br,c,b,fT];exact et (cT a) (fB a) (by simp [br]) (by simp)
theorem zx(a:Ix)(s:B8):qG a 217 [.d (dT s),.ptr 2 0] (dB (kU s a)):=by refine oN (aR aaI) kC (cT a) ?_;simp [Kt,br];refine aK [] ?_;simp;refine aV _ (adJ a s) ?_;refine rY (cT a) (by simp [br,bR,ai]) (by simp [br]) ?_;simp;exact et (cT a) (fB a) (by simp [br]) (by simp)
def kV(a:Ix)(x:En):Bool:=hQ x.tx&&(kU x.cat a&&(fe 1 4 x.gv.length&&(x.gv.all hQ&&fe 0 1000 x.cost)))
theorem adK(a:Ix)(x:En):qG a 218 [.d (df x),.ptr 3 0] (dB (kV a x)):=by
 refine oN (aR aaJ) aH (cT a) ?_;have k1:=wY x.tx;have k2:=uA 1 4 x.gv.length;have k3:=Mw x.gv;have k4:=uA 0 1000 x.cost;have e:=zx a x.cat;unfold kV;generalize hQ x.tx=f at *;generalize kU x.cat a=g at *;generalize fe 1 4 x.gv.length=b at *;generalize x.gv.all hQ=c at *;generalize fe 0 1000 x.cost=d at *;simp [a218,br,df];cases f with
 | false =>refine aK [.ret (dB false)] ?_;simp;refine⟨k1,?_⟩;exact et (cT a) (fB a) (by simp [br]) (by simp)
 | true =>
  refine aK [.ret (dB true),.ret (dB b),.ret (dB c),.ret (dB d)] ?_;simp;refine⟨k1,?_⟩;refine aV _ e ?_;refine rY (cT a) (by simp [br,bR,ai]) (by simp [br]) ?_;cases g <;> cases b <;> cases c <;> cases d <;> simp
  all_goals repeat' first | exact et (cT _) (fB _) (by simp [br]) (by simp) | assumption | refine⟨?_,?_⟩
def mz(a:Ix)(x:Pt):Bool:=if x.tx=[] then kU x.cat a else decide (x.cat=[])&&hQ x.tx
theorem nS{t:B8}(h:¬ t=[]):t.isEmpty=false:=by cases t with | nil=>exact absurd rfl h | cons a r=>rfl
theorem adL(b:Ix)(x:Pt):qG b 222 [.d (bA x),.ptr 3 0] (dB (mz b x)):=by
 refine oN (aR aaN) aH (cT b) ?_;have k1:=wY x.tx;have f:=zx b x.cat;unfold mz;generalize hQ x.tx=c at *;generalize kU x.cat b=g at *;simp [a222,br,bA];by_cases a:x.tx=[]
 ·rw [aj a];refine aK [.ret (dB c)] ?_;simp [a,dT];refine aV _ f ?_;refine rY (cT b) (by simp [br,bR,ai]) (by simp [br,a]) ?_;cases g <;> simp [a]
  all_goals repeat' first | exact et (cT _) (fB _) (by simp [br]) (by simp) | assumption | refine⟨?_,?_⟩
 ·have e:=nS a;rw [ab a];by_cases d:x.cat=[]
  ·refine aK [.ret (dB c)] ?_;simp [a,e,d,dT];cases c <;> (try simp)
   all_goals repeat' first | exact et (cT _) (fB _) (by simp [br]) (by simp) | assumption | refine⟨?_,?_⟩
  ·have h:=nS d;refine aK [.ret (dB c)] ?_;simp [a,e,d,h,dT];exact et (cT _) (fB _) (by simp [br]) (by simp)
end
section
attribute [local simp] cK cI cJ cG cH cd bS cA gP sj sk sm mq mr mu nE nF nG
theorem adM(b:Ix)(a:List Pt)(t:a.length<=1000000):qG b 224 [.fn (.func 222) [] [.ptr 3 0],.d (.sl 1 [.sl 3 (a.map bA)])] (dB (a.all (mz b))):=by
 refine oN (aR aaP) kC (cT b) ?_;rw [wZ];rw [<- qy];simp [Kv,br];refine bm [2,7,8] Nat (fun y=>[(9,true,.d (dI y))]) (fun y=>[]) (fun y=>y=0\/(y=1/\fK (fun z=>!mz b z) a=-1)) (fun y=>1-y) 0 (.inl rfl) ⟨[],[],?_⟩ (fun k d=>?_)
 ·simp;exact⟨hS _ _ _ _ _,fun x g=>by omega⟩
 rcases d with rfl | ⟨rfl,m⟩
 ·simp;refine aK [] ?_;simp;refine aV (TF Tryz.prog Eu) (aR aaZ) ?_;simp [Eu];refine aK [] ?_;simp;refine aV (TF Tryz.prog ED) (aR aa8) ?_;simp [ED];refine bm [0,1,7] Nat (fun y=>[(8,true,.d (dI y))]) (fun y=>[]) (fun y=>y<=a.length/\∀ j,(c:j<a.length)->j<y->mz b a[j]=true) (fun y=>a.length-y) 0 ⟨bp _,fun j c n=>absurd n (pG _)⟩ ⟨[],[],?_⟩ (fun k d=>?_)
  ·simp;exact⟨hS _ _ _ _ _,fun x g=>by omega⟩
  obtain⟨d,h⟩:=d;by_cases f:k<a.length
  ·have o:=wS k (by omega);simp [f];refine aK [] ?_;simp [f];refine aV (TF Tryz.prog Ev) (aR aa0) ?_;simp [Ev,bA];refine aK [] ?_;simp;refine aV _ (adL b a[k]) ?_;refine rY (cT b) (by simp [br,bR,ai]) (by simp [br]) ?_;cases i:mz b a[k] with
   | true =>
    simp;refine⟨k+1,⟨by omega,fun j c u=>?_⟩,by omega,[],[],?_⟩
    ·by_cases e:j=k
     ·subst e;exact i
     ·exact h j c (by omega)
    ·simp [o];exact⟨hS _ _ _ _ _,fun x g=>by omega⟩
   | false =>have q:=qz (p:=fun z=>!mz b z) f (fun j c=>by simp [h j (by omega) c]) (by simp [i]);simp [q];exact et (cT _) (fB _) (by simp [br]) (by simp)
  ·have r:=qA (p:=fun z=>!mz b z) (l:=a) (fun j c=>by simp [h j c (by omega)]);simp [f];have s:IntKind.i64.wrap 1=1:=by decide
   refine⟨1,⟨rfl,r⟩,by omega,[],[],?_⟩;simp [s];exact⟨hS _ _ _ _ _,fun x g=>by omega⟩
 ·simp [m];exact et (cT _) (fB _) (by simp [br]) (by simp)
theorem adN(b:Ix)(a:List En)(t:a.length<=1000000):qG b 225 [.fn (.func 218) [] [.ptr 3 0],.d (.sl 1 [.sl 5 (a.map df)])] (dB (a.all (kV b))):=by
 refine oN (aR aaQ) kC (cT b) ?_;rw [wZ];rw [<- qy];simp [Kw,br];refine bm [2,7,8] Nat (fun y=>[(9,true,.d (dI y))]) (fun y=>[]) (fun y=>y=0\/(y=1/\fK (fun z=>!kV b z) a=-1)) (fun y=>1-y) 0 (.inl rfl) ⟨[],[],?_⟩ (fun k d=>?_)
 ·simp;exact⟨hS _ _ _ _ _,fun x g=>by omega⟩
 rcases d with rfl | ⟨rfl,m⟩
 ·simp;refine aK [] ?_;simp;refine aV (TF Tryz.prog Ew) (aR aa1) ?_;simp [Ew];refine aK [] ?_;simp;refine aV (TF Tryz.prog EE) (aR aa9) ?_;simp [EE];refine bm [0,1,7] Nat (fun y=>[(8,true,.d (dI y))]) (fun y=>[]) (fun y=>y<=a.length/\∀ j,(c:j<a.length)->j<y->kV b a[j]=true) (fun y=>a.length-y) 0 ⟨bp _,fun j c n=>absurd n (pG _)⟩ ⟨[],[],?_⟩ (fun k d=>?_)
  ·simp;exact⟨hS _ _ _ _ _,fun x g=>by omega⟩
  obtain⟨d,h⟩:=d;by_cases f:k<a.length
  ·have o:=wS k (by omega);simp [f];refine aK [] ?_;simp [f];refine aV (TF Tryz.prog Ex) (aR aa2) ?_;simp [Ex,df];refine aK [] ?_;simp;refine aV _ (adK b a[k]) ?_;refine rY (cT b) (by simp [br,bR,ai]) (by simp [br]) ?_;cases i:kV b a[k] with
   | true =>
    simp;refine⟨k+1,⟨by omega,fun j c u=>?_⟩,by omega,[],[],?_⟩
    ·by_cases e:j=k
     ·subst e;exact i
     ·exact h j c (by omega)
    ·simp [o];exact⟨hS _ _ _ _ _,fun x g=>by omega⟩
   | false =>have q:=qz (p:=fun z=>!kV b z) f (fun j c=>by simp [h j (by omega) c]) (by simp [i]);simp [q];exact et (cT _) (fB _) (by simp [br]) (by simp)
  ·have r:=qA (p:=fun z=>!kV b z) (l:=a) (fun j c=>by simp [h j c (by omega)]);simp [f];have s:IntKind.i64.wrap 1=1:=by decide
   refine⟨1,⟨rfl,r⟩,by omega,[],[],?_⟩;simp [s];exact⟨hS _ _ _ _ _,fun x g=>by omega⟩
 ·simp [m];exact et (cT _) (fB _) (by simp [br]) (by simp)
def qH(n:Nat)(y:Gv):Bool:=if y.tx=[] then fe 0 ((n:Int)-1) y.pt else decide (y.pt=0)&&hQ y.tx
def ih(a:List Gv)(i:Nat):Nat:=(a.filter fun y=>decide (y.tx=[])&&decide (y.pt=(i:Int))).length
def kW(a:List Gv)(ps:List Pt)(i:Nat):Bool:=match ps[i]? with
 | some p=>if p.tx=[] then decide (ih a i=1) else decide (ih a i=0)
 | none=>true
def sA(a:List Gv)(ps:List Pt):Bool:=(List.range ps.length).all (kW a ps)
def kX(a:Ix)(x:Rl):Bool:=kU x.cat a&&(fe 1 4 x.ps.length&&(fe 1 8 x.gs.length&&(fe 0 1000 x.cost&&(x.ps.all (mz a)&&(x.gs.all (qH x.ps.length)&&sA x.gs x.ps)))))
def iE(a:List Gv)(n:Nat):List D:=(List.range n).map fun j=>dI (ih a j)
theorem adO(n:Nat):List.replicate n (D.lit (.int .i64 0))=iE [] n:=by
 apply Hy
 ·simp [iE]
 ·intro i a b;simp [iE,ih,dI]
theorem nT(a:List Gv)(n:Nat):D.flat (iE a n)=iE a n:=lv _ fun d b=>by obtain⟨j,_,rfl⟩:=aS.1 b;rfl
theorem uB(b:List Gv)(n:Nat):∀ c∈wr (iE b n),c.one=true:=Cr fun c a=>by rw [nT] at a;obtain⟨j,_,rfl⟩:=aS.1 a;rfl
theorem uC(a:List Gv)(n:Nat):(iE a n).length=n:=by simp [iE]
theorem Mx(a:List Gv){n i:Nat}(b:i<n):(wr (iE a n))[i]?=some (.d (.lit (.int .i64 (ih a i)))):=by unfold wr;rw [nT];simp [iE,b,dI]
theorem zy(a:List Gv)(y:Gv)(i:Nat):ih (a++[y]) i=ih a i+if y.tx=[]/\y.pt=(i:Int) then 1 else 0:=by unfold ih;rw [q',da];by_cases b:y.tx=[] <;> by_cases c:y.pt=(i:Int) <;> simp [b,c]
theorem My(a:List Gv)(i:Nat):ih a i<=a.length:=lV _ _
theorem adP{gs:List Gv}{y:Gv}{n i:Nat}(f:i<n)(b:y.tx=[])(c:y.pt=(i:Int)):setAt (wr (iE gs n)) i [.d (.lit (.int .i64 ((ih gs i:Int)+1)))]=wr (iE (gs++[y]) n):=by
 unfold wr;rw [nT,nT];apply sY;intro j;simp only [setAt,iE];by_cases a:j<n
 ·by_cases e:i=j
  ·subst e;simp [a,zy,b,c,dI]
  ·have d:¬ y.pt=(j:Int):=by rw [c];omega
   simp [a,e,zy,b,d,dI]
 ·simp [a]
  try omega
theorem adQ{a:List Gv}{y:Gv}{n:Nat}(b:¬ y.tx=[]):iE (a++[y]) n=iE a n:=by unfold iE;exact jF fun j _=>by rw [zy];simp [b]
theorem adR(f:Ix)(x:Rl):qG f 223 [.d (bI x),.ptr 3 0,.ptr 4 0] (dB (kX f x)):=by
 refine oN (aR aaO) aH (cT f) ?_;have k1:=uA 1 4 x.ps.length;have k2:=uA 1 8 x.gs.length;have k3:=uA 0 1000 x.cost;have E:=zx f x.cat;unfold kX;generalize kU x.cat f=U at *;generalize F:fe 1 4 x.ps.length=G at *;generalize H:fe 1 8 x.gs.length=I at *;generalize fe 0 1000 x.cost=J at *;simp [Ku,br,bI];refine aK [.ret (dB G),.ret (dB I),.ret (dB J)] ?_;simp;refine aV _ E ?_;refine rY (cT f) (by simp [br,bR,ai]) (by simp [br]) ?_;cases U with
 | false =>simp;exact et (cT _) (fB _) (by simp [br]) (by simp)
 | true =>
 cases G with
 | false =>simp;refine⟨k1,?_⟩;exact et (cT _) (fB _) (by simp [br]) (by simp)
 | true =>
 have a1:1<=x.ps.length/\x.ps.length<=4:=by unfold fe at F;simp at F;omega
 cases I with
 | false =>simp;refine⟨k1,k2,?_⟩;exact et (cT _) (fB _) (by simp [br]) (by simp)
 | true =>
 have a2:1<=x.gs.length/\x.gs.length<=8:=by unfold fe at H;simp at H;omega
 cases J with
 | false =>simp;refine⟨k1,k2,k3,?_⟩;exact et (cT _) (fB _) (by simp [br]) (by simp)
 | true =>
 simp;refine⟨k1,k2,k3,?_⟩;refine aV _ (adM f x.ps (by omega)) ?_;refine CG [] (cT f) (rX _) (by simp [br,bg,cj,ai,bc,fc]) (by simp [br,J_,fc]) ?_;cases b4:x.ps.all (mz f) with
 | false =>simp;exact et (cT _) (fB _) (by simp [br]) (by simp)
 | true =>
 simp;refine⟨⟨by omega,by omega,by omega⟩,?_⟩;clear k1 k2 k3 E;generalize B:x.ps.length=n at *;refine bm [1,2,3,5,51,52] Nat (fun k=>[(53,true,.d (dI k))]) (fun k=>[(10,.box true (wr (iE (x.gs.take k) n)))]) (fun k=>k<=x.gs.length/\(x.gs.drop k).all (qH n)=x.gs.all (qH n)) (fun k=>x.gs.length-k) 0 ⟨bp _,rfl⟩ ⟨[],[],?_⟩ (fun k r=>?_)
 ·simp [adO];exact⟨⟨hS _ _ _ _ _,uB _ _⟩,fun x s=>by omega⟩
 obtain⟨r,b⟩:=r;by_cases a:k<x.gs.length
 ·have t:=wS k (by omega);rw [fF a,jG] at b;have K:x.gs.take (k+1)=x.gs.take k++[x.gs[k]]:=fR a;simp [a];generalize x.gs[k]=y at *;by_cases d:y.tx=[]
  ·have g:qH n y=fe 0 ((n:Int)-1) y.pt:=by unfold qH;rw [aj d]
   have C:=uA 0 ((n:Int)-1) y.pt;have V:IntKind.i64.wrap ((n:Int)-1)=(n:Int)-1:=wrap64 (by omega);generalize v:fe 0 ((n:Int)-1) y.pt=L at *;simp [iC,d,dT];refine ah [.ret (dB L)] ?_;simp [V];cases L with
   | false =>rw [g,mT] at b;rw [<- b];simp;refine⟨C,?_⟩;exact et (cT _) (fB _) (by simp [br]) (by simp)
   | true =>
    rw [g,gW] at b;obtain⟨i,D⟩:∃ i:Nat,y.pt=(i:Int):=⟨y.pt.toNat,by unfold fe at v;simp at v;omega⟩;have l:i<n:=by unfold fe at v;simp at v;omega
    have b5:=My (x.gs.take k) i;have b6:=PW k x.gs;have W:IntKind.i64.wrap ((ih (x.gs.take k) i:Int)+1)=(ih (x.gs.take k) i:Int)+1:=wrap64 (by omega);have X:=adP (gs:=x.gs.take k) l d D;rw [D] at C;simp [D,Mx _ l,nT,uC,W,X];refine⟨C,l,l,l,l,k+1,⟨by omega,b⟩,by omega,[],[],?_⟩;simp [t,K];exact⟨⟨hS _ _ _ _ _,uB _ _⟩,fun x s=>by omega⟩
  ·have w:=nS d;have g:qH n y=(decide (y.pt=0)&&hQ y.tx):=by unfold qH;rw [ab d]
   have M:=wY y.tx;generalize hQ y.tx=N at *;simp [iC,d,w,dT];refine ah [.ret (dB N)] ?_;by_cases m:y.pt=0
   ·cases N with
    | false =>rw [g,m] at b;simp only [Bool.and_false,mT] at b;rw [<- b];simp [m];refine⟨M,?_⟩;exact et (cT _) (fB _) (by simp [br]) (by simp)
    | true =>rw [g,m] at b;simp only [Hw,Hz,gW] at b;simp [m];refine⟨M,k+1,⟨by omega,b⟩,by omega,[],[],?_⟩;simp [t,K,adQ d];exact⟨⟨hS _ _ _ _ _,uB _ _⟩,fun x s=>by omega⟩
   ·rw [g,xM m] at b;simp only [mT] at b;rw [<- b];simp [m];exact et (cT _) (fB _) (by simp [br]) (by simp)
 ·have Y:k=x.gs.length:=by omega
  subst Y;rw [oc,AU] at b;rw [<- b,gW];simp [a];unfold sA;have Z:(List.range x.ps.length).all (kW x.gs x.ps)=(List.range n).all (kW x.gs x.ps):=by rw [B]
  rw [Z];refine bm [5,88,89] Nat (fun k=>[(90,true,.d (dI k))]) (fun k=>[]) (fun k=>k<=n/\∀ j,j<k->kW x.gs x.ps j=true) (fun k=>n-k) 0 ⟨bp _,fun j z=>absurd z (pG _)⟩ ⟨[],[],?_⟩ (fun k r=>?_)
  ·simp;exact⟨⟨hS _ _ _ _ _,uB _ _⟩,fun x s=>by omega⟩
  obtain⟨r,O⟩:=r;by_cases a:k<n
  ·have t:=wS k (by omega);have Q:k<x.ps.length:=by omega
   have o:kW x.gs x.ps k=if x.ps[k].tx=[] then decide (ih x.gs k=1) else decide (ih x.gs k=0):=by unfold kW;rw [aI Q]
   have R:kW x.gs x.ps k=false->(List.range n).all (kW x.gs x.ps)=false:=fun h=>by rw [Hs];exact⟨k,di.2 a,by rw [h];simp⟩
   simp [a,Q,B];generalize x.ps[k]=p at *;have b7:=My x.gs k;have u:=Mx x.gs a;generalize b8:ih x.gs k=c at *;have S:∀ (P:Prop),kW x.gs x.ps k=true->(∀ j,j<k+1->kW x.gs x.ps j=true):=fun P h j z=>by
    by_cases e:j=k
    ·subst e;exact h
    ·exact O j (by omega)
   by_cases d:p.tx=[]
   ·rw [aj d] at o;simp [bA,d,dT];refine bY [] ?_;by_cases q:c=1
    ·subst q;simp [u,nT,uC];refine⟨a,by omega,a,by omega,rfl,k+1,⟨by omega,S True (by rw [o];rfl)⟩,by omega,[],[],?_⟩;simp [t];exact⟨⟨hS _ _ _ _ _,uB _ _⟩,fun x s=>by omega⟩
    ·have A:¬ (c:Int)=1:=by omega
     rw [R (by rw [o];simp [q])];simp [u,nT,uC,q,A];refine⟨a,by omega,rfl,?_⟩;exact et (cT _) (fB _) (by simp [br]) (by simp)
   ·have w:=nS d;rw [ab d] at o;simp [bA,d,w,dT];refine bY [] ?_;by_cases T:c=0
    ·subst T;simp [u,nT,uC,d];refine⟨a,by omega,a,by omega,rfl,k+1,⟨by omega,S True (by rw [o];rfl)⟩,by omega,[],[],?_⟩;simp [t];exact⟨⟨hS _ _ _ _ _,uB _ _⟩,fun x s=>by omega⟩
    ·rw [R (by rw [o];simp [T])];by_cases q:c=1
     ·subst q;simp [u,nT,uC,d];refine⟨a,by omega,rfl,?_⟩;exact et (cT _) (fB _) (by simp [br]) (by simp)
     ·have A:¬ (c:Int)=1:=by omega
      have c2:¬ (c:Int)<=1:=by omega
      have a0:((c:Int) == 1)=false:=by simp [A]
      have c3:(1:Int)<(c:Int):=by omega
      have c4:1<c:=by omega
      have c5:¬ c<=1:=by omega
      simp [u,nT,uC,q,A,c2,a0,d,w,c3,c4,c5];refine⟨a,by omega,a,by omega,rfl,?_⟩;exact et (cT _) (fB _) (by simp [br]) (by simp)
  ·have:(List.range n).all (kW x.gs x.ps)=true:=bQ.2 fun j z=>O j (by have:=di.1 z;omega)
   rw [this];simp [a,B];exact et (cT _) (fB _) (by simp [br]) (by simp)
theorem adS(b:Ix)(a:List Rl)(t:a.length<=1000000):qG b 226 [.fn (.func 223) [] [.ptr 3 0,.ptr 4 0],.d (.sl 1 [.sl 5 (a.map bI)])] (dB (a.all (kX b))):=by
 refine oN (aR aaR) kC (cT b) ?_;rw [wZ];rw [<- qy];simp [a226,br];refine bm [2,7,8] Nat (fun y=>[(9,true,.d (dI y))]) (fun y=>[]) (fun y=>y=0\/(y=1/\fK (fun z=>!kX b z) a=-1)) (fun y=>1-y) 0 (.inl rfl) ⟨[],[],?_⟩ (fun k d=>?_)
 ·simp;exact⟨hS _ _ _ _ _,fun x g=>by omega⟩
 rcases d with rfl | ⟨rfl,m⟩
 ·simp;refine aK [] ?_;simp;refine aV (TF Tryz.prog a228) (aR aaS) ?_;simp [a228];refine aK [] ?_;simp;refine aV (TF Tryz.prog Ez) (aR aa4) ?_;simp [Ez];refine bm [0,1,7] Nat (fun y=>[(8,true,.d (dI y))]) (fun y=>[]) (fun y=>y<=a.length/\∀ j,(c:j<a.length)->j<y->kX b a[j]=true) (fun y=>a.length-y) 0 ⟨bp _,fun j c n=>absurd n (pG _)⟩ ⟨[],[],?_⟩ (fun k d=>?_)
  ·simp;exact⟨hS _ _ _ _ _,fun x g=>by omega⟩
  obtain⟨d,h⟩:=d;by_cases f:k<a.length
  ·have o:=wS k (by omega);simp [f];refine aK [] ?_;simp [f];refine aV (TF Tryz.prog Ey) (aR aa3) ?_;simp [Ey,bI];refine aK [] ?_;simp;refine aV _ (adR b a[k]) ?_;refine rY (cT b) (by simp [br,bR,ai]) (by simp [br]) ?_;cases i:kX b a[k] with
   | true =>
    simp;refine⟨k+1,⟨by omega,fun j c u=>?_⟩,by omega,[],[],?_⟩
    ·by_cases e:j=k
     ·subst e;exact i
     ·exact h j c (by omega)
    ·simp [o];exact⟨hS _ _ _ _ _,fun x g=>by omega⟩
   | false =>have q:=qz (p:=fun z=>!kX b z) f (fun j c=>by simp [h j (by omega) c]) (by simp [i]);simp [q];exact et (cT _) (fB _) (by simp [br]) (by simp)
  ·have r:=qA (p:=fun z=>!kX b z) (l:=a) (fun j c=>by simp [h j c (by omega)]);simp [f];have s:IntKind.i64.wrap 1=1:=by decide
   refine⟨1,⟨rfl,r⟩,by omega,[],[],?_⟩;simp [s];exact⟨hS _ _ _ _ _,fun x g=>by omega⟩
 ·simp [m];exact et (cT _) (fB _) (by simp [br]) (by simp)
end
section
attribute [local simp] cK cI cJ cG cH cd bS cA gP sj sk sm mq mr mu nE nF nG kO kP kQ
def lI(a:Ix)(g:Gr):Bool:=hQ g.name&&(decide (0<g.aN.length)&&(g.aN.all hQ&&(kU g.start a&&(g.es.all (kV a)&&g.rs.all (kX a)))))
def ij(a:Ix):List (Nat×HO):=[(0,.aA (a.map fM)),(1,.box false [.mp 0])]
theorem qI(a:Ix):kH (ij a):=by
 refine⟨?_,?_⟩
 ·simp [ij,iV,bR,ai,fM]
 ·simp [ij,jt,AV.one]
theorem uE(a:Ix):((List.range (newName (ij a))).all fun n=>(ai (ij a)).contains n)=true:=by simp [ij,newName,ai,List.range,List.range.loop]
def lJ:List (Nat×Nat):=[(2,3),(3,4),(4,5)]
theorem zz(b:Nat->Nat)(a:Ix):dv b (.aA (a.map fM))=.aA (a.map fM):=XR b (fun e:B8×Int=>(.string (bs e.1),dI e.2)) a
theorem Fs(a:Ix):((ai (br a)).all fun n=>(ai (br a)).all fun m=>aw lJ n != aw lJ m||n == m)=true:=by simp [br,ai,lJ,aw,bc]
theorem adT(a:Ix)(g:Gr)(e:g.es.length<=1000000)(f:g.rs.length<=1000000):cW Tryz.prog 188 (mh (ij a) [.d (bq g),.fn (.func 187) [] [.ptr 1 0]] (qq (ij a) (dB (lI a g)))):=by
 refine oN (aR aaD) aH (qI a) ?_;have k1:=wY g.name;have k2:=Mw g.aN;unfold lI;generalize hQ g.name=c at *;generalize g.aN.all hQ=d at *;simp [Kq,ij,bq];refine aK [.ret (dB c),.ret (dB d)] ?_;cases c with
 | false =>simp;refine⟨k1,?_⟩;exact et (qI _) (uE _) (by simp [ij]) (by simp)
 | true =>
 by_cases b:0<g.aN.length
 case neg =>simp [b];refine⟨k1,?_⟩;exact et (qI _) (uE _) (by simp [ij]) (by simp)
 cases d with
 | false =>simp [b];refine⟨k1,k2,?_⟩;exact et (qI _) (uE _) (by simp [ij]) (by simp)
 | true =>
 simp [b];refine⟨k1,k2,?_⟩;refine aV _ (zx a g.start) ?_;refine Kc lJ (cT a) (Fs a) (by simp [br,bR,ai]) (by simp [cE,lJ,aw,bc]) (by simp [br,zz];simp [dv,cE,lJ,aw,bc]) ?_;cases h:kU g.start a with
 | false =>simp;exact et (qI _) (uE _) (by simp [ij]) (by simp)
 | true =>
 simp;refine aV _ (adN a g.es e) ?_;refine CG lJ (cT a) (Fs a) (by simp [br,bg,cj,ai,bc,lJ,aw]) (by simp [br,zz];simp [dv,cE,lJ,aw,bc]) ?_;cases i:g.es.all (kV a) with
 | false =>simp;exact et (qI _) (uE _) (by simp [ij]) (by simp)
 | true =>
 simp;refine aV _ (adS a g.rs f) ?_;refine CG lJ (cT a) (Fs a) (by simp [br,bg,cj,ai,bc,lJ,aw]) (by simp [br,zz];simp [dv,cE,lJ,aw,bc]) ?_;simp;exact et (qI _) (uE _) (by simp [ij]) (by simp)
end
section
attribute [local simp] cK cI cJ cG cH cd bS cA gP
inductive Tr where
 | mk (r i fr un:Int) (ks:List Tr)
mutual
def cz:Tr->D
 | .mk r i a b c=>.agg [dI r,dI i,dI a,dI b,.sl 5 (zA c)]
def zA:List Tr->List D
 | []=>[]
 | t::a=>cz t::zA a
end
theorem zB:∀ a:List Tr,zA a=a.map cz
 | []=>rfl
 | t::a=>by rw [zA,zB a];rfl
theorem qJ(t:Tr):(cz t).isAgg=true:=by cases t;rfl
theorem qK(t:Tr):(AV.d (cz t)).cg=true:=by cases t;rfl
def Tr.r:Tr->Int | .mk r _ _ _ _=>r
def Tr.i:Tr->Int | .mk _ i _ _ _=>i
def Tr.fr:Tr->Int | .mk _ _ f _ _=>f
def Tr.un:Tr->Int | .mk _ _ _ u _=>u
def Tr.ks:Tr->List Tr | .mk _ _ _ _ k=>k
theorem qL(t:Tr):(cz t).cells=[dI t.r,dI t.i,dI t.fr,dI t.un,.sl 5 (t.ks.map cz)]:=by
 cases t with
 | mk r i a b c=>rw [cz,zB];rfl
structure Fd where
 ok:Bool
 cost:Int
 tr:Tr
 many:Int
def nU(f:Fd):D:=.agg [dB f.ok,dI f.cost,dI f.tr.r,dI f.tr.i,dI f.tr.fr,dI f.tr.un,.sl 5 (f.tr.ks.map cz),dI f.many]
theorem zC(f:Fd):(nU f).cells=[dB f.ok,dI f.cost,dI f.tr.r,dI f.tr.i,dI f.tr.fr,dI f.tr.un,.sl 5 (f.tr.ks.map cz),dI f.many]:=rfl
theorem zD(f:Fd):(nU f).isAgg=true:=rfl
theorem zE(f:Fd):(AV.d (nU f)).cg=true:=rfl
def sB(a b:Int):Int:=if 0<a/\IntKind.i64.wrap (Int.tdiv 1099511627776 a)<b then 1099511627777 else IntKind.i64.wrap (a*b)
theorem adU(a b:Int):PC 199 [dI a,dI b] (.ret (dI (sB a b))):=by
 refine aG aH aaE (by simp [Ek]) fun g=>?_
 simp [Ek];unfold sB;refine ah [] ?_;by_cases c:0<a
 ·have e:¬ a=0:=by omega
  by_cases f:IntKind.i64.wrap (Int.tdiv 1099511627776 a)<b
  ·have d:¬ b<=IntKind.i64.wrap (Int.tdiv 1099511627776 a):=by omega
   simp [c,e,f,d]
  ·have d:b<=IntKind.i64.wrap (Int.tdiv 1099511627776 a):=by omega
   simp [c,e,f,d]
 ·simp [c]
def ik:Fd:=⟨false,0,.mk 0 0 0 0 [],0⟩
def gR(f:Fd)(a b:Int)(t:Tr):Fd :=
 let m:=if 1099511627777<IntKind.i64.wrap (f.many+b) then 1099511627777 else IntKind.i64.wrap (f.many+b)
 if f.ok=false\/a<f.cost then ⟨true,a,t,m⟩ else {f with many:=m}
structure Gl where
 cat:Int
 fr:Int
 un:Int
 deriving DecidableEq
def kd(x:Gl):D:=.agg [dI x.cat,dI x.fr,dI x.un]
theorem zF(x:Gl):(kd x).cells=[dI x.cat,dI x.fr,dI x.un]:=rfl
theorem zG(x:Gl):(kd x).isAgg=true:=rfl
theorem zH(x:Gl):(AV.d (kd x)).cg=true:=rfl
def jy(x:Gl):List It->Nat->Fd->Fd
 | [],_,f=>f
 | y::l,i,f=>jy x l (i+1) (if y.cat=x.cat/\y.fr=x.fr/\y.un=x.un then gR f y.cost 1 (.mk (-1) i x.fr x.un []) else f)
def dM(a:Int):Nat->List Int
 | 0=>[]
 | n+1=>a::dM (a+1) n
def dU(c:Int->List B8)(a:Int):List Pt->Int->List Int->List (List Int)
 | [],i,b=>if i=a then [b] else []
 | p::ps,i,b=>if a-i<(ps.length+1:Nat) then [] else if ¬ p.tx=[] then (if p.tx∈c i then dU c a ps (i+1) b else [])
  else (dM (i+1) (a-ps.length-i).toNat).flatMap fun m=>dU c a ps m (b++[m])
def dx(F:Gl->Fd):List Pt->List Int->Int->Int->Int->List Tr->Int×Int×List Tr
 | [],_,_,a,c,b=>(a,c,b)
 | p::ps,d,f,a,c,b =>
  if ¬ p.tx=[] then dx F ps d (f+1) a c b
  else match d with
   | []=>(a,0,b)
   | e::d =>
    let y:=F ⟨p.cn,f,e⟩
    if y.ok=false then (a,0,b)
    else dx F ps d e (IntKind.i64.wrap (a+y.cost)) (sB c y.many) (b++[y.tr])
def jz(F:Gl->Fd)(x:Gl)(i:Nat)(r:Rl)(f:Fd)(a:List Int):Fd :=
 let k:=dx F r.ps a x.fr r.cost 1 []
 if 0<k.2.1 then gR f k.1 k.2.1 (.mk i (-1) x.fr x.un k.2.2) else f
def kY(F:Gl->Fd)(a:Int->List B8)(x:Gl):List Rl->Nat->Fd->Fd
 | [],_,f=>f
 | r::l,i,f=>kY F a x l (i+1) (if r.cn=x.cat then (dU a x.un r.ps x.fr []).foldl (jz F x i r) f else f)
def qM(g:Gr)(a:List It)(b:Int->List B8):Nat->Gl->Fd
 | 0,_=>ik
 | k+1,x=>kY (qM g a b k) b x g.rs 0 (jy x a 0 ik)
end
section
attribute [local simp] cK cI cJ cG cH cd bS cA gP zF zG zH zC zD zE so sp sq qL qJ qK
def fN(e:Gl×Fd):Value×AV:=(.agg #[.int .i64 e.1.cat,.int .i64 e.1.fr,.int .i64 e.1.un],.d (nU e.2))
def hf(e:Int×List B8):Value×AV:=(.int .i64 e.1,.d (.sl 1 (e.2.map dT)))
structure fC where
 g:Gr
 ae:List It
 n:Int
 wd:List (Int×List B8)
def cC(c:fC):HO:=.box true [.d (dT c.g.name),.d (.sl 1 (c.g.aN.map dT)),.d (dT c.g.start),.d (dI c.g.sn),.d (.sl 5 (c.g.es.map df)),.d (.sl 5 (c.g.rs.map bI)),.d (.sl 6 (c.ae.map bT)),.d (dI c.n),.mp 1,.mp 2]
def bW(f:Fd):HO:=.box true [.d (dB f.ok),.d (dI f.cost),.d (dI f.tr.r),.d (dI f.tr.i),.d (dI f.tr.fr),.d (dI f.tr.un),.d (.sl 5 (f.tr.ks.map cz)),.d (dI f.many)]
def bk(c:fC)(a:List (Gl×Fd)):List (Nat×HO):=[(0,cC c),(1,.aA (a.map fN)),(2,.aA (c.wd.map hf))]
def bx(c:fC)(a:List (Gl×Fd))(f:Fd):List (Nat×HO):=bk c a++[(3,bW f)]
theorem zI(a:Nat->Nat)(n o)(k:Nat)(l:List (Gl×Fd)):aq.ba a n o k (l.map ((fun x=>x.snd)∘fN)) (l.map ((fun x=>x.snd)∘fN))=True:=fi (by
 have:l.map ((fun x=>x.snd)∘fN)=(l.map fun e=>nU e.2).map AV.d:=by rw [dA];rfl
 rw [this];exact js _ _ _ _ _)
theorem zJ(a:Nat->Nat)(n o)(k:Nat)(l:List (Int×List B8)):aq.ba a n o k (l.map ((fun x=>x.snd)∘hf)) (l.map ((fun x=>x.snd)∘hf))=True:=fi (by
 have:l.map ((fun x=>x.snd)∘hf)=(l.map fun e=>D.sl 1 (e.2.map dT)).map AV.d:=by rw [dA];rfl
 rw [this];exact js _ _ _ _ _)
attribute [local simp] zI zJ
theorem sC(c:fC)(a:List (Gl×Fd)):kH (bk c a):=by
 refine⟨?_,?_⟩
 ·simp [bk,cC,iV,bR,ai,fN,hf]
 ·simp [bk,cC,jt,AV.one,D.one,dT,dI,dS]
theorem qN(c:fC)(a:List (Gl×Fd))(f:Fd):kH (bx c a f):=by
 refine⟨?_,?_⟩
 ·simp [bx,bk,cC,bW,iV,bR,ai,fN,hf]
 ·simp [bx,bk,cC,bW,jt,AV.one,D.one,dT,dI,dS,dB]
def PFd(c:fC)(a:List (Gl×Fd))(f:Fd)(b:bK)(d:List (Nat×HO)):Prop:=b=.ret (.af [])/\d=bx c a f
theorem adV(c:fC)(m:List (Gl×Fd))(x:Gl)(f:Fd)(w:c.ae.length<=16384):cW Tryz.prog 155 (mh (bx c m f) [.ptr 0 0,.d (kd x),.ptr 3 0] (PFd c m (jy x c.ae 0 f))):=by
 refine yB (aR aaf) kC (yF (qN c m f)) (fun z A r=>?_) ?_
 ·obtain⟨rfl,rfl⟩:=r;exact CH rfl (qN _ _ _) rfl
 simp [Ko,bx,bk,cC,bW,kd];refine bm [4,2,11,12] (Nat×Fd) (fun y=>[(13,true,.d (dI y.1))]) (fun y=>[(3,bW y.2)]) (fun y=>y.1<=c.ae.length/\jy x (c.ae.drop y.1) y.1 y.2=jy x c.ae 0 f) (fun y=>c.ae.length-y.1) (0,f) ⟨bp _,rfl⟩ ⟨[],[],?_⟩ (fun y s=>?_)
 ·simp [bW];exact fun x g=>by omega
 obtain⟨k,a⟩:=y;obtain⟨t,b⟩:=s;simp only at t b;by_cases o:k<c.ae.length
 ·have i:=wS k (by omega);rw [fF o,jy] at b;simp [o,bW];generalize c.ae[k]=y at *;simp [bT];by_cases p:y.cat=x.cat/\y.fr=x.fr/\y.un=x.un
  ·obtain⟨q1,j,l⟩:=p;rw [aj ⟨q1,j,l⟩] at b;refine ah [] ?_;simp [q1,j,l];refine aK [] ?_;simp;refine aV (TF Tryz.prog a196) (aR c196) ?_;simp [a196];refine ah [] ?_;by_cases d:a.ok=false\/y.cost<a.cost
   ·have u:(a.ok=false\/(a.ok=true/\y.cost<a.cost)):=by
     cases q:a.ok with
     | false=>exact .inl rfl
     | true=>rcases d with d | d;(· rw [q] at d;cases d);exact .inr ⟨rfl,d⟩
    rcases u with e | ⟨e,n⟩
    ·simp [e];refine aK [] ?_;simp;refine aV (TF Tryz.prog wx) (aR Kr) ?_;simp [wx];refine⟨k+1,gR a y.cost 1 (.mk (-1) k x.fr x.un []),⟨by omega,b⟩,by omega,[],[],?_⟩;simp [i,bW,gR,e,Tr.r,Tr.i,Tr.fr,Tr.un,Tr.ks];exact fun x g=>by omega
    ·simp [e,n];refine aK [] ?_;simp;refine aV (TF Tryz.prog wx) (aR Kr) ?_;simp [wx];refine⟨k+1,gR a y.cost 1 (.mk (-1) k x.fr x.un []),⟨by omega,b⟩,by omega,[],[],?_⟩;simp [i,bW,gR,e,n,Tr.r,Tr.i,Tr.fr,Tr.un,Tr.ks];exact fun x g=>by omega
   ·have e:a.ok=true:=by cases q:a.ok with | false=>exact absurd (.inl q) d | true=>rfl
    have n:¬ y.cost<a.cost:=fun h=>d (.inr h)
    simp [e,n];refine⟨k+1,gR a y.cost 1 (.mk (-1) k x.fr x.un []),⟨by omega,b⟩,by omega,[],[],?_⟩;simp [i,bW,gR,e,n];exact fun x g=>by omega
  ·rw [ab p] at b;refine ah [] ?_;by_cases q1:y.cat=x.cat
   ·by_cases j:y.fr=x.fr
    ·have l:¬ y.un=x.un:=fun l=>p ⟨q1,j,l⟩
     simp [q1,j,l];refine⟨k+1,a,⟨by omega,b⟩,by omega,[],[],?_⟩;simp [i,bW];exact fun x g=>by omega
    ·simp [q1,j];refine⟨k+1,a,⟨by omega,b⟩,by omega,[],[],?_⟩;simp [i,bW];exact fun x g=>by omega
   ·simp [q1];refine⟨k+1,a,⟨by omega,b⟩,by omega,[],[],?_⟩;simp [i,bW];exact fun x g=>by omega
 ·have v:k=c.ae.length:=by omega
  subst v;rw [oc] at b;simp only [jy] at b;subst b;simp [o];exact wj (h0:=bx c m f) (qN c m (jy x c.ae 0 f)) (by simp [bx,bk,newName,ai,List.range,List.range.loop]) (by simp [bx,bk,cC]) (by simp) ⟨rfl,rfl⟩
end
section
theorem zK(w:Int->List B8)(a:Int):∀ (ps:List Pt) (i:Int) (b:List Int),dU w a ps i b=(dU w a ps i []).map (b++·)
 | [],i,b=>by unfold dU;by_cases h:i=a <;> simp [h]
 | p::ps,i,b=>by
  unfold dU;by_cases c:a-i<(ps.length+1:Nat)
  ·rw [aj c,aj c];rfl
  ·rw [ab c,ab c];by_cases d:p.tx=[]
   ·simp only [d,vm,eM,gx];rw [List.map_flatMap];congr 1;funext m;rw [zK w a ps m (b++[m]),zK w a ps m [m],dA];congr 1;funext e;simp
   ·simp only [d,vn,eA];by_cases f:p.tx∈w i
    ·simp only [f,eA];exact zK w a ps (i+1) b
    ·simp [f]
theorem Mz{a:Int}{m:Int}:∀ {n:Nat},m∈dM a n->a<=m/\m<a+n
 | 0,h=>by cases h
 | n+1,h=>by
  unfold dM at h;rcases b_.1 h with rfl | h
  ·omega
  ·have:=Mz h;omega
theorem qO{w:Int->List B8}{a:Int}{p:Pt}{ps:List Pt}{i:Int}{e:List Int}(h:e∈dU w a (p::ps) i []) :
  (¬ p.tx=[]/\e∈dU w a ps (i+1) [])\/(p.tx=[]/\∃ m b,e=m::b/\i<m/\m<=a-ps.length/\b∈dU w a ps m []):=by
 unfold dU at h;by_cases d:a-i<(ps.length+1:Nat)
 ·rw [aj d] at h;cases h
 ·rw [ab d] at h;by_cases c:p.tx=[]
  ·simp only [c,vm,eM,gx] at h;obtain⟨m,g,f⟩:=uX.1 h;have k:=Mz g;rw [zK] at f;obtain⟨b,j,rfl⟩:=aS.1 f;exact .inr ⟨c,m,b,rfl,by omega,by omega,j⟩
  ·simp only [c,vn,eA] at h;split at h
   ·exact .inl ⟨c,h⟩
   ·cases h
theorem ph{w:Int->List B8}{a:Int}:∀ {ps:List Pt}{i:Int}{e:List Int},e∈dU w a ps i []->i+ps.length<=a
 | [],i,e,h=>by
  unfold dU at h;split at h
  ·simp;omega
  ·cases h
 | p::ps,i,e,h=>by rcases qO h with ⟨_,h⟩ | ⟨_,m,b,_,c,_,h⟩ <;> have:=ph h <;> simp only [bN] <;> omega
theorem w_{F l:Gl->Fd}{w:Int->List B8}{n:Int}:∀ {ps:List Pt}{i:Int}{e:List Int},e∈dU w n ps i []->(∀ y:Gl,i<=y.fr->y.fr<y.un->y.un<=n->F y=l y)->∀ (c m:Int) (f:List Tr),dx F ps e i c m f=dx l ps e i c m f
 | [],i,e,h,g,c,m,f=>by unfold dx;rfl
 | p::ps,i,e,h,g,c,m,f=>by
  rcases qO h with ⟨j,k⟩ | ⟨j,t,r,rfl,k,s,o⟩
  ·unfold dx;simp only [j,vn,eA];exact w_ k (fun y a b d=>g y (by omega) b d) _ _ _
  ·have q:=g ⟨p.cn,i,t⟩ (iu _) k (by have:=ph o;simp only;omega);unfold dx;simp only [j,vm,eM];rw [q];split
   ·rfl
   ·exact w_ o (fun y a b d=>g y (by omega) b d) _ _ _
def ke(g:Gr)(a:Int->Nat):Prop:=(∀ c,a c<64)/\∀ r∈g.rs,r.ps≠[]/\∀ p,r.ps=[p]->p.tx=[]->a p.cn<a r.cn
def kf(a:Int->Nat)(x:Gl):Nat:=(x.un-x.fr).toNat*64+a x.cat
def sD(a:Int->Nat)(x y:Gl):Prop:=x.fr<=y.fr/\y.fr<y.un/\y.un<=x.un/\kf a y<kf a x
theorem adW{F n:Gl->Fd}{w:Int->List B8}{g:Gr}{o:Int->Nat}(s:ke g o){x:Gl}{r:Rl}(B:r∈g.rs)(C:r.cn=x.cat){e:List Int}(u:e∈dU w x.un r.ps x.fr [])(v:∀ y,sD o x y->F y=n y) :
  ∀ (c m:Int) (f:List Tr),dx F r.ps e x.fr c m f=dx n r.ps e x.fr c m f:=by
 intro c m f;obtain⟨D,s⟩:=s;obtain⟨E,G⟩:=s r B;have z:∀ y:Gl,x.fr<=y.fr->y.fr<y.un->y.un<=x.un->y.un-y.fr<x.un-x.fr->sD o x y:=fun y a b d h=>⟨a,b,d,by
  unfold kf;have j:(y.un-y.fr).toNat+1<=(x.un-x.fr).toNat:=by omega
  have:=D y.cat;have k:=ln 64 j;omega⟩
 have A:∀ (ps:List Pt) (i:Int) (e:List Int),x.fr<i->e∈dU w x.un ps i []->∀ (c m:Int) (f:List Tr),dx F ps e i c m f=dx n ps e i c m f:=fun ps i e N h c m f =>w_ h (fun y a b d=>v y (z y (by omega) b d (by omega))) c m f
 match H:r.ps,E,u with
 | p::ps,_,u =>
  rcases qO u with ⟨j,k⟩ | ⟨j,t,O,rfl,k,I,l⟩
  ·unfold dx;simp only [j,vn,eA];exact A ps _ _ (by omega) k _ _ _
  ·have J:=ph l;have K:F ⟨p.cn,x.fr,t⟩=n ⟨p.cn,x.fr,t⟩:=by
    cases ps with
    | nil =>
     have L:t=x.un:=by
      unfold dU at l;split at l
      ·assumption
      ·cases l
     have M:=G p H j;exact v _ ⟨iu _,k,by simp only;omega,by unfold kf;simp only [L];rw [C] at M;omega⟩
    | cons q ps =>simp only [bN] at I J;exact v _ (z _ (iu _) k (by simp only;omega) (by simp only;omega))
   unfold dx;simp only [j,vm,eM];rw [K];split
   ·rfl
   ·exact A ps _ _ k l _ _ _
theorem Ft{F b:Gl->Fd}{w:Int->List B8}{g:Gr}{d:Int->Nat}(j:ke g d){x:Gl}(k:∀ y,sD d x y->F y=b y):∀ (l:List Rl) (i:Nat) (f:Fd),(∀ r∈l,r∈g.rs)->kY F w x l i f=kY b w x l i f
 | [],i,f,_=>rfl
 | r::l,i,f,h=>by
  have c:=h r (dj ..);unfold kY;rw [Ft j k l (i+1) _ fun r c=>h r (cD _ c)];congr 1;by_cases a:r.cn=x.cat
  ·rw [aj a,aj a];have:∀ (L:List (List Int)) (f:Fd),(∀ e∈L,e∈dU w x.un r.ps x.fr [])->L.foldl (jz F x i r) f=L.foldl (jz b x i r) f:=fun L=>by
    induction L with
    | nil=>intro f _;rfl
    | cons e L n =>intro f m;rw [s',s',n _ fun e o=>m e (cD _ o)];congr 1;unfold jz;rw [adW j c a (m e (dj ..)) k]
   exact this _ _ fun _ h=>h
  ·rw [ab a,ab a]
theorem MA{g:Gr}{b:List It}{w:Int->List B8}{c:Int->Nat}(d:ke g c):∀ (n:Nat) (x:Gl) (k a:Nat),kf c x<n->n<=k->n<=a->qM g b w k x=qM g b w a x
 | 0,x,k,a,h,_,_=>by omega
 | n+1,x,k+1,a+1,h,f,i=>by unfold qM;exact Ft d (fun y e=>MA d n y k a (by have:=e.2.2.2;omega) (by omega) (by omega)) _ _ _ fun _ h=>h
def eH(g:Gr)(a:List It)(w:Int->List B8)(b:Int->Nat)(x:Gl):Fd:=qM g a w (kf b x+1) x
theorem adX{g:Gr}{b:List It}{w:Int->List B8}{a:Int->Nat}(c:ke g a)(x:Gl):eH g b w a x=kY (eH g b w a) w x g.rs 0 (jy x b 0 ik):=by unfold eH;rw [qM];exact Ft c (fun y d=>MA c (kf a y+1) y _ _ (by omega) (by have:=d.2.2.2;omega) (bj _)) _ _ _ fun _ h=>h
end
section
attribute [local simp] cK cI cJ cG cH cd bS cA gP zF zG zH zC zD zE so sp sq qL qJ qK zI zJ
def c_(c:fC)(i:Int):List B8:=((c.wd.find? fun e=>e.1 == i).map (·.2)).getD []
def zL(y:Gl):Prop:=(-1000000<=y.cat/\y.cat<=1000000)/\(-1000000<=y.fr/\y.fr<=1000000)/\(-1000000<=y.un/\y.un<=1000000)
def lK(y:Gl):Value:=.agg #[.int .i64 y.cat,.int .i64 y.fr,.int .i64 y.un]
theorem Fu{y:Gl}(h:zL y):dN [.int .i64,.int .i64,.int .i64] (lK y):=by obtain⟨⟨a,b⟩,⟨c,d⟩,e,f⟩:=h;refine⟨⟨rfl,?_,?_⟩,⟨rfl,?_,?_⟩,⟨rfl,?_,?_⟩,trivial⟩ <;> simp [IntKind.min,IntKind.max,IntKind.bits,IntKind.signed] <;> omega
theorem MB(x y:Gl):hA (lK x) (lK y)=some (decide (y=x)):=by
 unfold lK;simp only [Jz,JB,JA,eA];have:(y=x)↔(x.cat=y.cat/\x.fr=y.fr/\x.un=y.un):=by cases x;cases y;simp only [Gl.mk.injEq];exact⟨fun⟨a,b,c⟩=>⟨a.symm,b.symm,c.symm⟩,fun⟨a,b,c⟩=>⟨a.symm,b.symm,c.symm⟩⟩
 by_cases d:x.cat=y.cat <;> by_cases e:x.fr=y.fr <;> by_cases f:x.un=y.un <;> simp [this,d,e,f]
def uF(x:Gl)(a:List (Gl×Fd)):Option Fd:=(a.find? fun e=>decide (e.1=x)).map (·.2)
def uG(x:Gl)(f:Fd):List (Gl×Fd)->List (Gl×Fd)
 | []=>[]
 | e::r=>if e.1=x then (e.1,f)::r else e::uG x f r
theorem Fv(x:Gl):∀ a,dJ (lK x) (a.map fN)=some ((uF x a).map fun f=>.d (nU f))
 | []=>rfl
 | e::r=>by rw [bo,show fN e=(lK e.1,.d (nU e.2)) from rfl,oJ,MB,Fv x r];unfold uF;rw [q_];by_cases h:e.1=x <;> simp [h]
theorem MC(x:Gl)(f:Fd):∀ a,fj (lK x) (.d (nU f)) (a.map fN)=(uG x f a).map fN
 | []=>rfl
 | e::r=>by
  rw [bo,show fN e=(lK e.1,.d (nU e.2)) from rfl,fj,MB,uG,MC x f r];by_cases h:e.1=x
  ·simp [h,fN,lK]
  ·simp [h,fN,lK]
def mA(c:fC)(a:Int->Nat)(b:List (Gl×Fd)):Prop:=∀ e∈b,e.2=eH c.g c.ae (c_ c) a e.1/\zL e.1
theorem adY{c:fC}{b:Int->Nat}{d:List (Gl×Fd)}{x:Gl}{f:Fd}(h:mA c b d)(a:uF x d=some f):f=eH c.g c.ae (c_ c) b x:=by unfold uF at a;simp only [bZ] at a;obtain⟨e,g,rfl⟩:=a;have i:=Pl g;simp only [bD] at i;rw [(h e (Ax g)).1,i]
theorem MD{c:fC}{b:Int->Nat}{x:Gl}(g:zL x):∀ {f:List (Gl×Fd)},mA c b f->mA c b (uG x (eH c.g c.ae (c_ c) b x) f)
 | [],_=>by intro e d;cases d
 | e::r,h=>by
  intro y a;unfold uG at a;split at a
  ·rename_i d;rcases b_.1 a with rfl | a
   ·exact⟨by rw [d],(h e (dj ..)).2⟩
   ·exact h y (cD _ a)
  ·rcases b_.1 a with rfl | a
   ·exact h _ (dj ..)
   ·exact MD g (fun z i=>h z (cD _ i)) y a
def adZ(c:fC)(a:Int->Nat)(x:Gl)(d:bK)(e:List (Nat×HO)):Prop:=∃ b,mA c a b/\d=.ret (.d (nU (eH c.g c.ae (c_ c) a x)))/\e=bk c b
def ad0(c:fC)(b:Int->Nat)(f:Fd)(d:bK)(e:List (Nat×HO)):Prop:=∃ a,mA c b a/\d=.ret (.af [])/\e=bx c a f
def Fw(c:fC)(a:Int->Nat)(x:Gl):Prop:=∀ b,mA c a b->cW Tryz.prog 87 (mh (bk c b) [.ptr 0 0,.d (kd x)] (adZ c a x))
def ME(c:fC)(a:Int->Nat)(x:Gl):Prop:=∀ b f,mA c a b->cW Tryz.prog 156 (mh (bx c b f) [.ptr 0 0,.d (kd x),.ptr 3 0] (ad0 c a (kY (eH c.g c.ae (c_ c) a) (c_ c) x c.g.rs 0 f)))
theorem sE(a:Nat->Nat):(fun e:Value×AV=>(e.1,cE a 3 e.2))∘fN=fN:=rfl
theorem sF(a:Nat->Nat):(fun e:Value×AV=>(e.1,cE a 3 e.2))∘hf=hf:=rfl
theorem MF(c:fC)(i:Int->Nat)(G:ke c.g i)(H:c.ae.length<=16384)(x:Gl)(j:zL x)(I:ME c i x):Fw c i x:=by
 intro g r;refine yB (aR Ze) kC (yF (sC c g)) (fun v w m=>?_) ?_
 ·obtain⟨N,_,rfl,rfl⟩:=m;exact CH rfl (sC _ _) rfl
 have n:=Fv x g;have o:=Fu j;have z:∀ (a:Value) (b:AV),(a,b)∈g.map fN->dN [.int .i64,.int .i64,.int .i64] a:=fun a b s=>by obtain⟨e,h,p⟩:=aS.1 s;simp only [fN,ee] at p;rw [<- p.1];exact Fu (r e h).2
 unfold lK at n o;cases t:uF x g with
 | some f =>rw [t] at n;simp [a87,bk,cC,kd,n,-dN,-List.mem_map];refine⟨⟨o,z⟩,rfl,?_⟩;rw [adY r t];exact wj (h0:=bk c g) (sC c g) (by simp [bk,newName,ai,List.range,List.range.loop]) (by simp [bk,cC]) (by unfold aq;exact aB.refl _) ⟨g,r,rfl,rfl⟩
 | none =>
  rw [t] at n;simp [a87,bk,cC,kd,n,-dN,-List.mem_map];refine⟨⟨o,z⟩,rfl,?_⟩;refine bm [0,3,4,7,25,26] (Nat×List (Gl×Fd)×Fd) (fun y=>[(27,true,.d (dI y.1))]) (fun y=>[(1,.aA (y.2.1.map fN)),(6,bW y.2.2)]) (fun y=>y.1<=2/\mA c i y.2.1/\(y.1=0->y.2.2=ik)/\(y.1=1->y.2.2=jy x c.ae 0 ik)/\(y.1=2->y.2.2=eH c.g c.ae (c_ c) i x)) (fun y=>2-y.1) (0,g,ik) ⟨by simp,r,fun _=>rfl,by simp,by simp⟩ ⟨[],[],?_⟩ (fun y J=>?_)
  ·simp [bW,ik,Tr.r,Tr.i,Tr.fr,Tr.un,Tr.ks];exact fun x j=>by omega
  obtain⟨k,d,f⟩:=y;obtain⟨K,l,A,B,C⟩:=J;simp only at K l A B C;rcases (by omega:k=0\/k=1\/k=2) with rfl | rfl | rfl
  ·obtain rfl:=A rfl;simp [bW];refine aK [] ?_;simp;refine aV _ (adV c d x ik H) ?_;refine yG [(3,6)] (qN c d ik) (by simp [bx,bk,ai,aw,bc]) (by simp [bx,bk,bg,cj,ai,bc,aw,kd]) (by simp [bx,bk,cC,bW,dv,cE,aw,bc,ik,Tr.r,Tr.i,Tr.fr,Tr.un,Tr.ks,fN,hf]) (fun v w m=>?_);obtain⟨rfl,rfl⟩:=m;simp [bx,bk,ha,cC,bW,dv,cE,tV,aw,bc,sE,sF];have u:IntKind.i64.wrap 1=1:=by decide
   refine⟨1,d,jy x c.ae 0 ik,⟨by omega,l,by simp,fun _=>rfl,by simp⟩,by omega,[],[],?_⟩;simp [u,bW];exact fun x j=>by omega
  ·obtain rfl:=B rfl;simp [bW];refine aK [] ?_;simp;refine aV _ (I d (jy x c.ae 0 ik) l) ?_;refine yG [(3,6)] (qN c d (jy x c.ae 0 ik)) (by simp [bx,bk,ai,aw,bc]) (by simp [bx,bk,bg,cj,ai,bc,aw,kd]) (by simp [bx,bk,cC,bW,dv,cE,aw,bc,sE,sF]) (fun v w m=>?_);obtain⟨L,M,rfl,rfl⟩:=m;simp [bx,bk,ha,cC,bW,dv,cE,tV,aw,bc,sE,sF];have u:IntKind.i64.wrap 2=2:=by decide
   rw [<- adX G x];refine⟨2,L,eH c.g c.ae (c_ c) i x,⟨by omega,M,by simp,by simp,fun _=>rfl⟩,by omega,[],[],?_⟩;simp [u,bW];exact fun x j=>by omega
  ·obtain rfl:=C rfl;have q:=Fv x d;have D:∀ (a:Value) (b:AV),(a,b)∈d.map fN->dN [.int .i64,.int .i64,.int .i64] a:=fun a b s=>by obtain⟨e,h,p⟩:=aS.1 s;simp only [fN,ee] at p;rw [<- p.1];exact Fu (l e h).2
   have E:=MC x (eH c.g c.ae (c_ c) i x) d;unfold lK at q E;cases F:uF x d with
   | some O =>rw [F] at q;simp [bW,q,-dN,-List.mem_map];refine⟨⟨o,D⟩,rfl,?_⟩;exact wj (h0:=bk c g) (sC c (uG x (eH c.g c.ae (c_ c) i x) d)) (by simp [bk,newName,ai,List.range,List.range.loop]) (by simp [bk,cC];exact E) (by unfold aq;exact aB.refl _) ⟨_,MD j l,rfl,rfl⟩
   | none =>
    rw [F] at q;simp [bW,q,-dN,-List.mem_map];refine⟨⟨o,D⟩,rfl,?_⟩;exact wj (h0:=bk c g) (sC c (d++[(x,eH c.g c.ae (c_ c) i x)])) (by simp [bk,newName,ai,List.range,List.range.loop]) (by simp [bk,cC,fN];rfl) (by unfold aq;exact aB.refl _) ⟨_,fun e h=>by
     rcases cV.1 h with h | h
     ·exact l e h
     ·simp at h;rw [h];exact⟨rfl,j⟩,rfl,rfl⟩
end

end Go.Proofs.YtloccchppmffpaaGreatDoor
