/- Part of the proof: S502, S505, S510, S511, S512, S513, S514, S503, S504, S519, S520, S521, S522, S523, S524, S525, S526, S527, S528, S529, S530, S531, S532, S533. -/
import Derived.Shelf.Small.Strs
import Derived.Test.YthimbimilnfdnaaGreatDoorG
set_option linter.unnecessarySimpa false
set_option linter.unusedVariables false
set_option linter.unusedSimpArgs false
namespace Go.Proofs.YthimbimilnfdnaaGreatDoor
open Go Go.Proofs.YthimbimilnfdnaaGreatDoor.AL
section
abbrev bLt (a b:List UInt8):Bool:=Op.bytesLess a b
theorem bLt_nil_cons(b:UInt8) (y:List UInt8):bLt [] (b::y)=true:=by simp [bLt,Op.bytesLess]
theorem bLt_nil(a:List UInt8):bLt a []=false:=by cases a <;> simp [bLt,Op.bytesLess]
theorem bLt_cons(a b:UInt8) (x y:List UInt8):bLt (a::x) (b::y)=true↔a<b∨a=b∧bLt x y=true:=by simp [bLt,Op.bytesLess]
theorem bLt_trans{a b c:List UInt8}(h1:bLt a b=true) (h2:bLt b c=true):bLt a c=true:=by
 induction a generalizing b c with
 | nil =>
  cases c with
  | nil=>rw [bLt_nil] at h2;cases h2
  | cons z c=>exact bLt_nil_cons _ _
 | cons x a ih =>
  cases b with
  | nil=>rw [bLt_nil] at h1;cases h1
  | cons y b =>
   cases c with
   | nil=>rw [bLt_nil] at h2;cases h2
   | cons z c =>
    rw [bLt_cons] at h1 h2 ⊢
    rcases h1 with h1 | ⟨rfl,h1⟩
    ·rcases h2 with h2 | ⟨rfl,h2⟩
     ·exact .inl (UInt8.lt_trans h1 h2)
     ·exact .inl h1
    ·rcases h2 with h2 | ⟨rfl,h2⟩
     ·exact .inl h2
     ·exact .inr ⟨rfl,ih h1 h2⟩
structure Nt where
 lang:Int
 seq:Int
 ch:Ch
 hl:-9223372036854775808≤lang∧lang<9223372036854775808
 hs:-9223372036854775808≤seq∧seq<9223372036854775808
 deriving DecidableEq
theorem Nt.ext'{x y:Nt}(h1:x.lang=y.lang) (h2:x.seq=y.seq) (h3:x.ch=y.ch):x=y:=by
 cases x;cases y;simp_all
def dNt (n:Nt):D:=.agg [dI n.lang,dI n.seq,dI n.ch.at_,dI n.ch.kind,dI n.ch.sp.id,dI n.ch.sp.ver,dZ n.ch.sp.tx]
theorem dNt_cells(n:Nt):(dNt n).cells=[dI n.lang,dI n.seq,dI n.ch.at_,dI n.ch.kind,dI n.ch.sp.id,dI n.ch.sp.ver,dZ n.ch.sp.tx]:=rfl
theorem dNt_isAgg(x:Nt):(dNt x).isAgg=true:=rfl
theorem dNt_noTup(x:Nt):(AV.d (dNt x)).noTup=true:=rfl
theorem dNt_nt(x:Nt) (ds:List D):(dNt x=.tup ds)=False:=by simp [dNt]
theorem dNt_len(x:Nt):(dNt x).cells.length=7:=rfl
def okNt (n:Nt):Bool:=decide (0≤n.lang)&&(decide (n.lang<32)&&(decide (0≤n.seq)&&(decide (n.seq≤1048576)&&okCh n.ch)))
def iV (n:Int):Vl:=.mk 1 n [] []
def sV (s:List UInt8):Vl:=.mk 2 0 s []
def aV (l:List Vl):Vl:=.mk 3 0 [] l
def noteV (n:Nt):Vl:=aV [iV n.lang,iV n.seq,iV n.ch.at_,iV n.ch.kind,iV n.ch.sp.id,iV n.ch.sp.ver,sV n.ch.sp.tx]
def msgB (n:Nt):List UInt8:=encV (noteV n)
theorem okV_noteV(n:Nt):okV (noteV n)=true:=by simp [noteV,aV,iV,sV,okV,okVs]
theorem dpV_noteV(n:Nt):dpV (noteV n)=1:=by simp [noteV,aV,iV,sV,dpV,dpVs]
theorem rgV_noteV(n:Nt) (h:n.ch.sp.tx.length<18446744073709551616):rgV (noteV n):=by
 simp only [noteV,aV,iV,sV,rgV,rgVs,List.length_nil,List.length_cons]
 have h1:=n.hl;have h2:=n.hs;have h3:=n.ch.ha;have h4:=n.ch.hk;have h5:=n.ch.sp.hi;have h6:=n.ch.sp.hv
 refine⟨by omega,by omega,by omega,⟨h1,by omega,by omega,trivial⟩,⟨h2,by omega,by omega,trivial⟩,⟨h3,by omega,by omega,trivial⟩,⟨h4,by omega,by omega,trivial⟩,⟨h5,by omega,by omega,trivial⟩,⟨h6,by omega,by omega,trivial⟩,⟨by omega,h,by omega,trivial⟩,trivial⟩
def noteOf:Vl→Option Nt
 | .mk k _ _ [.mk k0 n0 _ _,.mk k1 n1 _ _,.mk k2 n2 _ _,.mk k3 n3 _ _,.mk k4 n4 _ _,.mk k5 n5 _ _,.mk k6 _ s6 _] =>
  if h:(k=3∧k0=1∧k1=1∧k2=1∧k3=1∧k4=1∧k5=1∧k6=2)∧(-9223372036854775808≤n0∧n0<9223372036854775808)∧(-9223372036854775808≤n1∧n1<9223372036854775808)∧(-9223372036854775808≤n2∧n2<9223372036854775808)∧(-9223372036854775808≤n3∧n3<9223372036854775808)∧(-9223372036854775808≤n4∧n4<9223372036854775808)∧(-9223372036854775808≤n5∧n5<9223372036854775808) then
   some ⟨n0,n1,⟨n2,n3,⟨n4,n5,s6,h.2.2.2.2.2.1,h.2.2.2.2.2.2⟩,h.2.2.2.1,h.2.2.2.2.1⟩,h.2.1,h.2.2.1⟩
  else none
 | _=>none
theorem noteOf_noteV(n:Nt):noteOf (noteV n)=some n:=by
 have h1:=n.hl;have h2:=n.hs;have h3:=n.ch.ha;have h4:=n.ch.hk;have h5:=n.ch.sp.hi;have h6:=n.ch.sp.hv
 simp only [noteV,aV,iV,sV,noteOf]
 rw [dif_pos ⟨by simp,h1,h2,h3,h4,h5,h6⟩]
def readB (b:List UInt8):Option Nt:=((decV b).bind noteOf).bind fun n=>if okNt n then some n else none
theorem readB_ok{b:List UInt8}{n:Nt}(h:readB b=some n):okNt n=true:=by
 unfold readB at h
 cases h1:(decV b).bind noteOf with
 | none=>rw [h1] at h;cases h
 | some x =>
  rw [h1,Option.bind_some] at h
  split at h
  ·rename_i hx;injection h with h;subst h;exact hx
  ·cases h
theorem okNt_tx{n:Nt}(h:okNt n=true):n.ch.sp.tx.length≤64:=by
 unfold okNt okCh okSp isWd at h
 simp only [Bool.and_eq_true,decide_eq_true_eq] at h
 exact h.2.2.2.2.2.2.2.2.2.1.1.2
theorem readB_msgB{n:Nt}(h:okNt n=true):readB (msgB n)=some n:=by
 unfold readB msgB
 rw [decV_full (okV_noteV n) (rgV_noteV n (by have:=okNt_tx h;omega)) (by rw [dpV_noteV];omega),Option.bind_some,noteOf_noteV,Option.bind_some,if_pos h]
theorem msgB_inj{a b:Nt}(ha:okNt a=true) (hb:okNt b=true) (h:msgB a=msgB b):a=b:=by
 have h1:=readB_msgB ha
 rw [h,readB_msgB hb] at h1
 injection h1 with h1;exact h1.symm
theorem msgB_len{n:Nt}(h:okNt n=true):(msgB n).length≤1000:=by
 have htx:=okNt_tx h
 have hn:∀ m:Int,-9223372036854775808≤m∧m<9223372036854775808→(numL (zz m)).length≤10:=fun m hm=>numL_length 10 _ (by
  have:=zz_lt64 hm
  have h1:(128:Nat) ^ 10=1180591620717411303424:=by decide
  rw [h1];omega) (by omega)
 have h1:=hn _ n.hl;have h2:=hn _ n.hs;have h3:=hn _ n.ch.ha;have h4:=hn _ n.ch.hk;have h5:=hn _ n.ch.sp.hi;have h6:=hn _ n.ch.sp.hv
 have h7:(numL n.ch.sp.tx.length).length≤1:=numL_length 1 _ (by omega) (by omega)
 have h8:(numL 7).length≤1:=numL_length 1 _ (by omega) (by omega)
 unfold msgB noteV aV iV sV
 rw [encV3]
 simp only [encVs,encV1,encV2,List.length_cons,List.length_append,List.length_nil,Nat.zero_add,Nat.reduceAdd] at h8 ⊢
 omega
theorem dispE_ok{l:List Sp}(h:dispE l=0):l.length≤1024∧okRun (-1) l=true:=by
 unfold dispE at h
 split at h
 ·cases h
 ·split at h
  ·rename_i h1 h2;exact⟨by omega,h2⟩
  ·cases h
theorem dispE_mk{l:List Sp}(h1:l.length≤1024) (h2:okRun (-1) l=true):dispE l=0:=by
 unfold dispE;rw [if_neg (by omega),if_pos h2]
theorem dispE_nil:dispE []=0:=dispE_mk (by simp) rfl
theorem okSp_id{x:Sp}(h:okSp x=true):0≤x.id:=by
 unfold okSp okId at h
 simp only [Bool.and_eq_true,decide_eq_true_eq] at h
 exact h.1.1
theorem okCh_sp{c:Ch}(h:okCh c=true):okSp c.sp=true∧1≤c.kind∧c.kind≤3:=by
 unfold okCh at h
 simp only [Bool.and_eq_true,decide_eq_true_eq] at h
 exact⟨h.2.2.2,h.2.1,h.2.2.1⟩
theorem nwSite(n:Int):PCall Tryz.prog 94 [dI n] (.ret (dB (decide (0≤n)&&decide (n<24)))):=by
 refine pcall_of_vc noC c94 (by simp [a94]) fun hr=>?_
 simp [a94]
 refine vc_calls [] ?_
 simp
def cBetween (x y:Int):D:=.agg [dI (if y<x then y else x),dI (if y>x then y else x)]
theorem nwBetween(x y:Int):PCall Tryz.prog 123 [dI x,dI y] (.ret (cBetween x y)):=by
 refine pcall_of_vc noC c123 (by simp [a123]) fun hr=>?_
 simp [a123,cBetween]
def cValid (x y:Int):Bool:=decide (0≤x)&&decide (x<y)&&decide (y<24)
theorem nwValid(x y:Int):PCall Tryz.prog 88 [.agg [dI x,dI y]] (.ret (dB (cValid x y))):=by
 refine pcall_of_vc noC c88 (by simp [a88]) fun hr=>?_
 simp [a88]
 refine vc_calls [] ?_
 simp [cValid]
def TNw:FuncId→List D→Option Out
 | 94,[.lit (.int .i64 n)]=>some (.ret (dB (decide (0≤n)&&decide (n<24))))
 | 123,[.lit (.int .i64 x),.lit (.int .i64 y)]=>some (.ret (cBetween x y))
 | 88,[.agg [.lit (.int .i64 x),.lit (.int .i64 y)]]=>some (.ret (dB (cValid x y)))
 | _,_=>none
theorem hTNw:∀ f ds out,TNw f ds=some out→PCall Tryz.prog f ds out:=by
 intro f ds out h
 unfold TNw at h
 split at h
 ·injection h with h;subst h;exact nwSite _
 ·injection h with h;subst h;exact nwBetween _ _
 ·injection h with h;subst h;exact nwValid _ _
 ·cases h
structure Pc where
 a:Int
 b:Int
 p:List UInt8
 deriving DecidableEq
structure Nw where
 q:List Pc
 c:List (Int×Int)
 deriving DecidableEq
def dPc (x:Pc):D:=.agg [dI x.a,dI x.b,.sl 1 (x.p.map dU)]
def dPr (x:Int×Int):D:=.agg [dI x.1,dI x.2]
def dNw (n:Nw):D:=.agg [.sl 3 (n.q.map dPc),.sl 2 (n.c.map dPr)]
def okPc (x:Pc):Bool:=cValid (if x.b<x.a then x.b else x.a) (if x.b>x.a then x.b else x.a)&&decide ((x.p.length:Int)≤1048576)
theorem nwPacket(x:Pc):PCall Tryz.prog 87 [dPc x] (.ret (dB (okPc x))):=by
 refine pcall_of_vc hTNw c87 (by simp [a87]) fun hr=>?_
 simp [a87,dPc]
 refine vc_calls [.ret (cBetween x.a x.b),.ret (dB (cValid (if x.b<x.a then x.b else x.a) (if x.b>x.a then x.b else x.a)))] ?_
 simp [TNw,cBetween,okPc]
theorem dPc_cells(x:Pc):(dPc x).cells=[dI x.a,dI x.b,.sl 1 (x.p.map dU)]:=rfl
theorem dPc_agg(x:Pc):(dPc x).isAgg=true:=rfl
theorem dPc_noTup(x:Pc):(AV.d (dPc x)).noTup=true:=rfl
attribute [local simp] dPc_cells dPc_agg dPc_noTup
theorem nwPacket1(x:Pc):PCall Tryz.prog 86 [dPc x] (.ret (dB (!okPc x))):=by
 refine pcall_of_vc (C:=fun f ds out=>∃ x,f=87∧ds=[dPc x]∧out=.ret (dB (okPc x))) (by rintro _ _ _ ⟨x,rfl,rfl,rfl⟩;exact nwPacket x) c86 (by simp [a86]) fun hr=>?_
 simp [a86,dPc]
 refine vc_calls [.ret (dB (okPc x))] ?_
 simp
 exact⟨x,⟨rfl,rfl,rfl⟩,rfl⟩
theorem nwIndexBad(l:List Pc):PCall Tryz.prog 126 [.sl 3 (l.map dPc),.fn (.func 86) [] []] (.ret (dI (match l.findIdx? (fun x=>!okPc x) with | some i=>i | none=>-1))):=by
 refine pcall_of_vc (C:=fun f ds out=>∃ x,f=86∧ds=[dPc x]∧out=.ret (dB (!okPc x))) (by rintro _ _ _ ⟨x,rfl,rfl,rfl⟩;exact nwPacket1 x) c126 (by simp [a126]) fun hr=>?_
 have hlen:=(hr (.sl 3 (l.map dPc)) (by simp)).sl.1
 simp at hlen
 simp [a126]
 refine vc_loopK [0,1,7] Nat (fun i=>[(8,true,.d (dI i))]) (fun _=>[]) (fun i=>i≤l.length∧∀ j,(h:j<i)→(h2:j<l.length)→okPc l[j]=true) (fun i=>l.length-i) 0 (by simp) ⟨[],[],?_⟩ (fun i hi=>?_)
 ·simp
 ·obtain⟨h1,h2⟩:=hi
  simp
  refine⟨fun hlt=>?_,fun hge=>?_⟩
  ·refine vc_calls [.ret (dB (!okPc l[i]))] ?_
   simp [hlt]
   refine⟨⟨l[i],rfl,rfl⟩,?_⟩
   refine⟨fun hb=>?_,fun hb=>?_⟩
   ·rw [findIdx_some hlt (by simpa using hb) (fun j hj=>by simp [h2 j hj (by omega)])]
    exact LeD.refl _
   ·refine⟨i+1,⟨by omega,fun j hj hj2=>?_⟩,by omega,[],[],?_⟩
    ·by_cases e:j=i
     ·subst e;exact hb
     ·exact h2 j (by omega) hj2
    ·rw [wrap64 (by omega)]
     simp
  ·rw [findIdx_none (fun j hj=>by simp [h2 j (by omega) hj])]
   exact LeD.refl _
attribute [local simp] dPc_cells dPc_agg dPc_noTup
def firstBad (l:List Pc):Int:=match l.findIdx? (fun x=>!okPc x) with | some i=>i | none=>-1
theorem nwContainsBad(l:List Pc):PCall Tryz.prog 85 [.sl 3 (l.map dPc),.fn (.func 86) [] []] (.ret (dB (!l.all okPc))):=by
 refine pcall_of_vc (C:=fun f ds out=>∃ l,f=126∧ds=[.sl 3 (l.map dPc),.fn (.func 86) [] []]∧out=.ret (dI (firstBad l))) (by rintro _ _ _ ⟨l,rfl,rfl,rfl⟩;exact nwIndexBad l) c85 (by simp [a85]) fun hr=>?_
 simp [a85]
 refine vc_calls [.ret (dI (firstBad l))] ?_
 simp
 refine⟨⟨l,rfl,rfl⟩,?_⟩
 apply leD_of_eq
 congr 2
 unfold firstBad
 split
 ·rename_i i h
  rw [List.findIdx?_eq_some_iff_getElem] at h
  obtain⟨h1,h2,_⟩:=h
  have:l.all okPc=false:=by
   rw [List.all_eq_false]
   exact⟨l[i],List.getElem_mem h1,by simpa using h2⟩
  simp [this]
 ·rename_i h
  rw [List.findIdx?_eq_none_iff] at h
  have:l.all okPc=true:=by
   rw [List.all_eq_true]
   intro x hx
   simpa using h x hx
  simp [this]
theorem nwIsNaN(x:Int):PCall Tryz.prog 149 [dI x] (.ret (dB false)):=by
 refine pcall_of_vc noC c149 (by simp [a149]) fun hr=>?_
 simp [a149]
theorem nwCmpInt(x y:Int):PCall Tryz.prog 127 [dI x,dI y] (.ret (dI (if x<y then -1 else if x>y then 1 else 0))):=by
 refine pcall_of_vc (C:=fun f ds out=>∃ x,f=149∧ds=[dI x]∧out=.ret (dB false)) (by rintro _ _ _ ⟨l,rfl,rfl,rfl⟩;exact nwIsNaN l) c127 (by simp [a127]) fun hr=>?_
 simp [a127]
 refine vc_calls [.ret (dB false)] ?_
 simp
 refine vc_calls [.ret (dB false)] ?_
 simp
 refine⟨fun h=>leD_of_eq (by simp [h]),fun h=>⟨fun h2=>leD_of_eq (by simp [h2];omega),fun h2=>leD_of_eq (by simp;omega)⟩⟩
end

section
attribute [local simp] dPc_cells dPc_agg dPc_noTup
def cmpL:List Int→List Int→Int
 | [],[]=>0
 | [],_::_=>-1
 | _::_,[]=>1
 | x::xs,y::ys=>if x<y then -1 else if x>y then 1 else cmpL xs ys
theorem cmpL_drop{s t:List Int}{i:Nat}(h1:i<s.length) (h2:i<t.length):cmpL (s.drop i) (t.drop i)=if s[i]<t[i] then -1 else if s[i]>t[i] then 1 else cmpL (s.drop (i+1)) (t.drop (i+1)):=by
 rw [List.drop_eq_getElem_cons h1,List.drop_eq_getElem_cons h2]
 rfl
set_option maxRecDepth 4000 in
theorem nwCompare(s t:List Int):PCall Tryz.prog 89 [.sl 1 (s.map dI),.sl 1 (t.map dI)] (.ret (dI (cmpL s t))):=by
 refine pcall_of_vc (C:=fun f ds out=>∃ x y,f=127∧ds=[dI x,dI y]∧out=.ret (dI (if x<y then -1 else if x>y then 1 else 0))) (by rintro _ _ _ ⟨x,y,rfl,rfl,rfl⟩;exact nwCmpInt x y) c89 (by simp [a89]) fun hr=>?_
 have hlen:=(hr (.sl 1 (s.map dI)) (by simp)).sl.1
 have hlen2:=(hr (.sl 1 (t.map dI)) (by simp)).sl.1
 simp at hlen hlen2
 simp [a89,-dI]
 refine vc_loopK [0,1,9,10] Nat (fun i=>[(11,true,.d (.lit (.int .i64 i)))]) (fun _=>[]) (fun i=>i≤s.length∧i≤t.length∧cmpL (s.drop i) (t.drop i)=cmpL s t) (fun i=>s.length-i) 0 (by simp) ⟨[],[],?_⟩ (fun i hi=>?_)
 ·simp
 ·obtain⟨h1,h2,h3⟩:=hi
  simp [-dI]
  refine⟨fun hlt=>?_,fun hge=>?_⟩
  ·simp [hlt]
   refine⟨fun hle=>?_,fun hlt2=>?_⟩
   ·apply leD_of_eq
    have:i=t.length:=by omega
    subst this
    rw [← h3,List.drop_length,List.drop_eq_getElem_cons hlt];rfl
   ·simp [hlt2]
    refine vc_calls [.ret (dI (if s[i]<t[i] then -1 else if s[i]>t[i] then 1 else 0))] ?_
    simp
    refine⟨⟨s[i],t[i],⟨rfl,rfl⟩,rfl⟩,?_⟩
    have hd:=cmpL_drop hlt hlt2
    rw [h3] at hd
    refine⟨fun hne=>?_,fun he=>?_⟩
    ·apply leD_of_eq
     rw [hd]
     split at hne
     ·rename_i h;simp [h]
     ·split at hne
      ·rename_i h h';simp [h,h']
      ·simp at hne
    ·have e1:¬ s[i]<t[i]:=fun h=>by simp [h] at he
     have e2:¬ t[i]<s[i]:=fun h=>by simp [e1,h] at he
     refine⟨i+1,⟨by omega,by omega,?_⟩,by omega,[],[],?_⟩
     ·rw [hd];simp [e1,e2]
     ·rw [wrap64 (by omega)]
      simp
  ·have:i=s.length:=by omega
   subst this
   rw [List.drop_length] at h3
   refine⟨fun hlt2=>leD_of_eq ?_,fun hle=>leD_of_eq ?_⟩
   ·rw [← h3,List.drop_eq_getElem_cons hlt2];rfl
   ·rw [← h3,List.drop_eq_nil_of_le hle];rfl
attribute [local simp] dPc_cells dPc_agg dPc_noTup
theorem dPr_cells(x:Int×Int):(dPr x).cells=[dI x.1,dI x.2]:=rfl
theorem dPr_agg(x:Int×Int):(dPr x).isAgg=true:=rfl
theorem dPr_noTup(x:Int×Int):(AV.d (dPr x)).noTup=true:=rfl
attribute [local simp] dPr_cells dPr_agg dPr_noTup
def cAt (c:List (Int×Int)) (i:Nat):Bool :=
 cValid (c.getD i default).1 (c.getD i default).2&&(i == 0||decide (cmpL [(c.getD (i-1) default).1,(c.getD (i-1) default).2] [(c.getD i default).1,(c.getD i default).2]<0))
def okC (c:List (Int×Int)):Bool:=(List.range c.length).all (cAt c)
def okNw (n:Nw):Bool:=decide ((n.q.length:Int)≤4096)&&(n.q.all okPc&&okC n.c)
def eNet (n:Nw):Int:=if okNw n then 0 else 60
inductive CNwCheck:FuncId→List D→Out→Prop
 | bad (l:List Pc):CNwCheck 85 [.sl 3 (l.map dPc),.fn (.func 86) [] []] (.ret (dB (!l.all okPc)))
 | valid (x:Int×Int):CNwCheck 88 [dPr x] (.ret (dB (cValid x.1 x.2)))
 | cmp (x y:Int×Int):CNwCheck 89 [.sl 1 (dPr x).cells,.sl 1 (dPr y).cells] (.ret (dI (cmpL [x.1,x.2] [y.1,y.2])))
theorem hNwCheck:∀ f ds out,CNwCheck f ds out→PCall Tryz.prog f ds out:=by
 intro f ds out h
 cases h with
 | bad l=>exact nwContainsBad l
 | valid x=>exact nwValid x.1 x.2
 | cmp x y=>exact nwCompare [x.1,x.2] [y.1,y.2]
set_option maxRecDepth 4000 in
theorem nwCheck(n:Nw):PCall Tryz.prog 45 [dNw n] (.ret (dI (eNet n))):=by
 refine pcall_of_vc hNwCheck c45 (by simp [a45]) fun hr=>?_
 have hl1:=(hr (dNw n) (by simp)).agg (.sl 2 (n.c.map dPr)) (by simp [dNw])
 have hlen:=hl1.2.sl.1
 simp at hlen
 simp [a45,dNw,-dI,-dB]
 refine vc_calls [.ret (dB (!n.q.all okPc))] ?_
 simp [-dI]
 refine⟨fun h=>⟨h,.bad n.q⟩,fun hb=>?_,fun h1 h2=>?_⟩
 ·apply leD_of_eq
  have:okNw n=false:=by
   unfold okNw
   rcases hb with h | h
   ·simp [show ¬ ((n.q.length:Int)≤4096) by omega]
   ·have:n.q.all okPc=false:=by simpa using h
    simp [this]
  simp [eNet,this]
 ·refine vc_loopK [1,15,16] Nat (fun i=>[(17,true,.d (.lit (.int .i64 i)))]) (fun _=>[]) (fun i=>i≤n.c.length∧∀ j,j<i→cAt n.c j=true) (fun i=>n.c.length-i) 0 (by simp) ⟨[],[],?_⟩ (fun i hi=>?_)
  ·simp
  ·obtain⟨h3,h4⟩:=hi
   simp [-dI,-dB]
   refine⟨fun hlt=>?_,fun hge=>?_⟩
   ·simp [hlt,-dI,-dB]
    cases i with
    | zero =>
     refine vc_callsD [.ret (dB (cValid n.c[0].1 n.c[0].2)),.ret (dI 0)] ?_
     simp
     refine⟨.valid n.c[0],.lit _,rfl,?_⟩
     refine⟨fun hb=>leD_of_eq ?_,fun hb=>⟨1,⟨by omega,fun j hj=>?_⟩,by omega,[],[],?_⟩⟩
     ·have:okNw n=false:=by
       have:okC n.c=false:=by
        rw [okC,List.all_eq_false]
        exact⟨0,by simpa using hlt,by simp [cAt,hlt,hb]⟩
       simp [okNw,this]
      simp [eNet,this]
     ·have:j=0:=by omega
      subst this
      simp [cAt,hlt,hb]
     ·rw [wrap64 (by omega)]
      simp
    | succ i =>
     have hi:i<n.c.length:=by omega
     have hw:IntKind.i64.wrap (i:Int)=i:=wrap64 (by omega)
     refine vc_callsD [.ret (dB (cValid n.c[i+1].1 n.c[i+1].2)),.ret (dI (cmpL [n.c[i].1,n.c[i].2] [n.c[i+1].1,n.c[i+1].2]))] ?_
     simp [hw,hi,hlt]
     refine⟨.valid n.c[i+1],fun hv=>⟨hv,.cmp n.c[i] n.c[i+1]⟩,.lit _,rfl,?_⟩
     have hc:cAt n.c (i+1)=(cValid n.c[i+1].1 n.c[i+1].2&&decide (cmpL [n.c[i].1,n.c[i].2] [n.c[i+1].1,n.c[i+1].2]<0)):=by
      simp [cAt,hlt,hi]
     refine⟨fun hb=>leD_of_eq ?_,fun hb hb2=>⟨i+2,⟨by omega,fun j hj=>?_⟩,by omega,[],[],?_⟩⟩
     ·have:okNw n=false:=by
       have:okC n.c=false:=by
        rw [okC,List.all_eq_false]
        refine⟨i+1,by simpa using hlt,?_⟩
        rw [hc]
        rcases hb with h | h
        ·simp [h]
        ·simp [show ¬ cmpL [n.c[i].1,n.c[i].2] [n.c[i+1].1,n.c[i+1].2]<0 by omega]
       simp [okNw,this]
      simp [eNet,this]
     ·by_cases e:j=i+1
      ·subst e
       rw [hc];simp [hb,hb2]
      ·exact h4 j (by omega)
     ·rw [wrap64 (by omega)]
      simp
      exact leD_of_eq (by congr 2)
   ·apply leD_of_eq
    have:okNw n=true:=by
     have:okC n.c=true:=by
      rw [okC,List.all_eq_true]
      intro x hx
      exact h4 x (by simp at hx;omega)
     simp [okNw,this,h1]
     exact h2
    simp [eNet,this]
end

section
attribute [local simp] dPc_cells dPc_agg dPc_noTup dPr_cells dPr_agg dPr_noTup
theorem nwFew(n:Nw):PCall Tryz.prog 30 [dNw n] (.ret (dB (decide ((n.q.length:Int)≤40)&&decide ((n.c.length:Int)≤40)))):=by
 refine pcall_of_vc noC c30 (by simp [a30]) fun hr=>?_
 simp [a30,dNw]
 refine vc_calls [] ?_
 simp
theorem nwNew1:PCall Tryz.prog 43 [] (.ret (dNw ⟨[],[]⟩)):=by
 refine pcall_of_vc noC c43 (by simp [a43]) fun hr=>?_
 simp [a43,dNw]
 exact LeD.agg (.cons (LeD.nil' 3 3) (.cons (LeD.nil' 2 2) .nil)) (by simp)
theorem nwNew2:PCall Tryz.prog 44 [] (.ret (dNw ⟨[],[]⟩)):=by
 refine pcall_of_vc noC c44 (by simp [a44]) fun hr=>?_
 simp [a44,dNw]
 exact LeD.agg (.cons (LeD.nil' 3 3) (.cons (LeD.nil' 2 2) .nil)) (by simp)
theorem nwBytesOf(l:List UInt8):(bytesOf (l.map dU)).toList=l:=by
 rw [ByteArray.toList_eq,bytesOf,strOfNums_data,List.map_map,List.map_map]
 conv=>rhs;rw [← List.map_id l]
 apply List.map_congr_left
 intro b _
 simp [dU,D.num]
theorem nwSamePacket(x y:Pc):PCall Tryz.prog 96 [dPc x,dPc y] (.ret (dB (decide (x=y)))):=by
 refine pcall_of_vc noC c96 (by simp [a96]) fun hr=>?_
 simp [a96,dPc]
 refine vc_calls [] ?_
 simp [strV]
 refine⟨fun h1 h2=>⟨⟨h1,h2⟩,fun b _=>rfl⟩,fun h1 h2=>⟨⟨h1,h2⟩,fun b _=>rfl⟩,?_⟩
 apply leD_of_eq
 congr 2
 rw [nwBytesOf,nwBytesOf,Bool.eq_iff_iff]
 simp only [Bool.and_eq_true,beq_iff_eq,decide_eq_true_eq]
 obtain⟨xa,xb,xp⟩:=x
 obtain⟨ya,yb,yp⟩:=y
 simp [and_assoc]
attribute [local simp] dPc_cells dPc_agg dPc_noTup dPr_cells dPr_agg dPr_noTup
theorem nwRpacket(x:Pc):PCall Tryz.prog 93 [dPc x] (.ret (dB (okPc x))):=by
 refine pcall_of_vc (C:=fun f ds out=>∃ n,f=94∧ds=[dI n]∧out=.ret (dB (decide (0≤n)&&decide (n<24)))) (by rintro _ _ _ ⟨n,rfl,rfl,rfl⟩;exact nwSite n) c93 (by simp [a93]) fun hr=>?_
 simp [a93,dPc]
 refine vc_calls [.ret (dB (decide (0≤x.a)&&decide (x.a<24))),.ret (dB (decide (0≤x.b)&&decide (x.b<24)))] ?_
 simp
 apply leD_of_eq
 congr 2
 unfold okPc cValid
 rw [Bool.eq_iff_iff]
 simp only [Bool.and_eq_true,decide_eq_true_eq,bne_iff_ne,ne_eq]
 split <;> split <;> omega
attribute [local simp] dPc_cells dPc_agg dPc_noTup dPr_cells dPr_agg dPr_noTup
inductive CNwRC:FuncId→List D→Out→Prop
 | packet (x:Pc):CNwRC 93 [dPc x] (.ret (dB (okPc x)))
 | site (n:Int):CNwRC 94 [dI n] (.ret (dB (decide (0≤n)&&decide (n<24))))
theorem hNwRC:∀ f ds out,CNwRC f ds out→PCall Tryz.prog f ds out:=by
 intro f ds out h
 cases h with
 | packet x=>exact nwRpacket x
 | site n=>exact nwSite n
set_option maxRecDepth 4000 in
set_option maxHeartbeats 4000000 in
theorem nwRcheck(n:Nw):PCall Tryz.prog 48 [dNw n] (.ret (dI (eNet n))):=by
 refine pcall_of_vc hNwRC c48 (by simp [a48]) fun hr=>?_
 have hl1:=(hr (dNw n) (by simp)).agg (.sl 2 (n.c.map dPr)) (by simp [dNw])
 have hl2:=(hr (dNw n) (by simp)).agg (.sl 3 (n.q.map dPc)) (by simp [dNw])
 have hlen:=hl1.2.sl.1
 have hlen2:=hl2.2.sl.1
 simp at hlen hlen2
 simp [a48,dNw,-dI,-dB]
 refine⟨fun hb=>leD_of_eq ?_,fun h1=>?_⟩
 ·have:okNw n=false:=by
   simp [okNw,show ¬ ((n.q.length:Int)≤4096) by omega]
  simp [eNet,this]
 ·refine vc_loopK [1] Nat (fun i=>[(3,true,.d (.lit (.int .i64 i)))]) (fun _=>[]) (fun i=>i≤n.q.length∧∀ j,(_:j<i)→(h:j<n.q.length)→okPc n.q[j]=true) (fun i=>n.q.length-i) 0 (by simp) ⟨[],[],?_⟩ (fun i hi=>?_)
  ·simp
  ·obtain⟨h3,h4⟩:=hi
   simp [-dI,-dB]
   refine⟨fun hlt=>?_,fun hge=>?_⟩
   ·refine vc_calls [.ret (dB (okPc n.q[i]))] ?_
    simp [hlt]
    refine⟨.packet n.q[i],?_⟩
    refine⟨fun hb=>leD_of_eq ?_,fun hb=>⟨i+1,⟨by omega,fun j hj hj2=>?_⟩,by omega,[],[],?_⟩⟩
    ·have:okNw n=false:=by
      have:n.q.all okPc=false:=by
       rw [List.all_eq_false]
       exact⟨n.q[i],List.getElem_mem hlt,by simp [hb]⟩
      simp only [okNw,this,Bool.false_and,Bool.and_false]
     simp [eNet,this]
    ·by_cases e:j=i
     ·subst e;exact hb
     ·exact h4 j (by omega) hj2
    ·rw [wrap64 (by omega)]
     simp
   ·refine vc_loopK [1] Nat (fun i=>[(4,true,.d (.lit (.int .i64 i)))]) (fun _=>[]) (fun i=>i≤n.c.length∧∀ j,j<i→cAt n.c j=true) (fun i=>n.c.length-i) 0 (by simp) ⟨[],[],?_⟩ (fun i hi=>?_)
    ·simp
    ·obtain⟨h5,h6⟩:=hi
     simp [-dI,-dB]
     refine⟨fun hlt=>?_,fun hge=>?_⟩
     ·simp [hlt]
      refine vc_path [.ret (dB (decide (0≤n.c[i].1)&&decide (n.c[i].1<24))),.ret (dB (decide (0≤n.c[i].2)&&decide (n.c[i].2<24)))] ?_
      simp [hlt]
      have hbad:cAt n.c i=false→LeD (.lit (.int .i64 60)) (.lit (.int .i64 (eNet n))):=fun h=>by
       have h7:okC n.c=false:=by
        rw [okC,List.all_eq_false]
        exact⟨i,by simpa using hlt,by simp [h]⟩
       apply leD_of_eq
       simp [eNet,okNw,h7]
      have hv:cAt n.c i=(cValid n.c[i].1 n.c[i].2&&(i == 0||decide (cmpL [(n.c.getD (i-1) default).1,(n.c.getD (i-1) default).2] [n.c[i].1,n.c[i].2]<0))):=by rw [cAt,show n.c.getD i default=n.c[i] by simp [hlt]]
      have hbad2:cValid n.c[i].1 n.c[i].2=false→LeD (.lit (.int .i64 60)) (.lit (.int .i64 (eNet n))):=fun h=>hbad (by rw [hv,h];rfl)
      refine⟨.site _,fun h=>hbad2 ?_,fun g1 g2=>⟨.site _,fun h=>hbad2 ?_,fun g3 g4=>⟨fun h=>hbad2 ?_,fun g5=>?_⟩⟩⟩
      ·rw [← Bool.not_eq_true];simp only [cValid,Bool.and_eq_true,decide_eq_true_eq];omega
      ·rw [← Bool.not_eq_true];simp only [cValid,Bool.and_eq_true,decide_eq_true_eq];omega
      ·rw [← Bool.not_eq_true];simp only [cValid,Bool.and_eq_true,decide_eq_true_eq];omega
      refine vc_pathD [] ?_
      cases i with
      | zero =>
       simp [hlt]
       refine⟨rfl,1,⟨by omega,fun j hj=>?_⟩,by omega,[],[],?_⟩
       ·have:j=0:=by omega
        subst this
        rw [hv];simp only [cValid,Bool.and_eq_true,decide_eq_true_eq];exact⟨⟨⟨g1,g5⟩,g4⟩,rfl⟩
       ·rw [wrap64 (by omega)];simp
      | succ i =>
       have hw:IntKind.i64.wrap (i:Int)=i:=wrap64 (by omega)
       have hi:i<n.c.length:=by omega
       have hc:cmpL [(n.c.getD (i+1-1) default).1,(n.c.getD (i+1-1) default).2] [n.c[i+1].1,n.c[i+1].2]=if n.c[i].1<n.c[i+1].1 then -1 else if n.c[i].1>n.c[i+1].1 then 1 else if n.c[i].2<n.c[i+1].2 then -1 else if n.c[i].2>n.c[i+1].2 then 1 else 0:=by
        rw [show n.c.getD (i+1-1) default=n.c[i] by simp [hi]];rfl
       simp only [hc] at hv
       simp [hlt,hi,hw]
       have hgo:cAt n.c (i+1)=true→∃ x',(x'≤n.c.length∧∀ (j:Nat),j<x'→cAt n.c j=true)∧n.c.length-x'<n.c.length-(i+1)∧x'=i+2:=fun h=>⟨i+2,⟨by omega,fun j hj=>by
        by_cases e:j=i+1
        ·subst e;exact h
        ·exact h6 j (by omega)⟩,by omega,rfl⟩
       refine⟨fun h=>⟨rfl,hbad ?_⟩,fun k1=>⟨fun k2=>⟨rfl,fun k3=>hbad ?_,fun k3=>?_⟩,fun k2=>⟨rfl,?_⟩⟩⟩
       ·rw [hv,if_neg (by omega),if_pos (by omega)];simp
       ·rw [hv,if_neg (by omega),if_neg (by omega),if_neg (by omega)]
        split <;> simp
       ·obtain⟨x',q1,q2,rfl⟩:=hgo (by
         rw [hv,if_neg (by omega),if_neg (by omega),if_pos (by omega)]
         simp only [cValid,Bool.and_eq_true,decide_eq_true_eq];exact⟨⟨⟨g1,g5⟩,g4⟩,by simp⟩)
        refine⟨_,q1,q2,[],[],?_⟩
        rw [wrap64 (by omega)];simp
        exact leD_of_eq (by congr 2)
       ·obtain⟨x',q1,q2,rfl⟩:=hgo (by
         rw [hv,if_pos (by omega)]
         simp only [cValid,Bool.and_eq_true,decide_eq_true_eq];exact⟨⟨⟨g1,g5⟩,g4⟩,by simp⟩)
        refine⟨_,q1,q2,[],[],?_⟩
        rw [wrap64 (by omega)];simp
        exact leD_of_eq (by congr 2)
     ·apply leD_of_eq
      have:okNw n=true:=by
       have h7:okC n.c=true:=by
        rw [okC,List.all_eq_true]
        intro x hx
        exact h6 x (by simp at hx;omega)
       have h8:n.q.all okPc=true:=by
        rw [List.all_eq_true]
        intro x hx
        obtain⟨j,hj,rfl⟩:=List.getElem_of_mem hx
        exact h4 j (by omega) hj
       simp [okNw,h7,h8,h1]
      simp [eNet,this]
def sndN (n:Nw) (p:Pc):Nw:=if okNw n=true∧okPc p=true∧n.q.length≠4096 then ⟨n.q++[p],n.c⟩ else ⟨[],[]⟩
def sndE (n:Nw) (p:Pc):Int:=if okNw n=true∧okPc p=true then (if n.q.length=4096 then 2 else 0) else 60
theorem okNw_len{n:Nw}(h:okNw n=true):n.q.length≤4096:=by
 simp only [okNw,Bool.and_eq_true,decide_eq_true_eq] at h;omega
theorem eNet_ne{n:Nw}:eNet n=0↔okNw n=true:=by
 unfold eNet;split <;> simp_all
theorem nilN:LeD (.agg [.nil 3,.nil 2]) (dNw ⟨[],[]⟩):=LeD.agg (.cons (LeD.nil' 3 3) (.cons (LeD.nil' 2 2) .nil)) (by simp)
theorem nilN2{m:Nw}(h:m=⟨[],[]⟩):LeD (.agg [.nil 3,.nil 2]) (.agg [.sl 3 (m.q.map dPc),.sl 2 (m.c.map dPr)]):=by subst h;exact nilN
inductive CNwSend:FuncId→List D→Out→Prop
 | check (n:Nw):CNwSend 45 [dNw n] (.ret (dI (eNet n)))
 | packet (x:Pc):CNwSend 87 [dPc x] (.ret (dB (okPc x)))
theorem hNwSend:∀ f ds out,CNwSend f ds out→PCall Tryz.prog f ds out:=by
 intro f ds out h
 cases h with
 | check n=>exact nwCheck n
 | packet x=>exact nwPacket x
theorem dNw_eq(n:Nw):dNw n=.agg [.sl 3 (n.q.map dPc),.sl 2 (n.c.map dPr)]:=rfl
theorem dNw_cells(x:Nw):(dNw x).cells=[.sl 3 (x.q.map dPc),.sl 2 (x.c.map dPr)]:=rfl
theorem dNw_agg(x:Nw):(dNw x).isAgg=true:=rfl
theorem dNw_noTup(x:Nw):(AV.d (dNw x)).noTup=true:=rfl
set_option maxRecDepth 4000 in
theorem nwSend(n:Nw) (p:Pc):PCall Tryz.prog 119 [dNw n,dPc p] (.ret (.tup [dNw (sndN n p),dI (sndE n p)])):=by
 refine pcall_of_vc hNwSend c119 (by simp [a119]) fun hr=>?_
 simp [a119,dNw_cells,dNw_noTup]
 refine vc_path [.ret (dI (eNet n)),.ret (dB (okPc p))] ?_
 simp [dNw_eq]
 have hlen:n.q.length≤9223372036854775807:=by
  have:=((hr (dNw n) (by simp)).agg (.sl 3 (n.q.map dPc)) (by simp [dNw])).2.sl.1
  simpa using this
 refine⟨.check n,fun h=>?_,fun h=>⟨.packet p,fun h2=>?_,fun h2=>⟨fun h3=>?_,fun h3=>?_⟩⟩⟩
 ·have h0:¬ okNw n=true:=fun e=>h (eNet_ne.2 e)
  exact⟨nilN2 (by simp [sndN,h0]),leD_of_eq (by simp [sndE,h0])⟩
 ·exact⟨nilN2 (by simp [sndN,h2]),leD_of_eq (by simp [sndE,h2])⟩
 ·have h0:=eNet_ne.1 h
  have h4:n.q.length=4096:=by omega
  exact⟨nilN2 (by simp [sndN,h4]),leD_of_eq (by simp [sndE,h0,h2,h4])⟩
 ·have h0:=eNet_ne.1 h
  have h4:¬ n.q.length=4096:=by omega
  have h5:=okNw_len h0
  refine⟨⟨by omega,by omega⟩,rfl,⟨?_,?_⟩,?_⟩ <;> refine leD_of_eq ?_
  ·rw [show List.take n.q.length (List.map dPc n.q)=List.map dPc n.q from List.take_of_length_le (by simp)]
   simp [sndN,h0,h2,h4,dPc]
  ·simp [sndN,h0,h2,h4]
  ·simp [sndE,h0,h2,h4]
inductive CNwRSend:FuncId→List D→Out→Prop
 | check (n:Nw):CNwRSend 48 [dNw n] (.ret (dI (eNet n)))
 | packet (x:Pc):CNwRSend 93 [dPc x] (.ret (dB (okPc x)))
theorem hNwRSend:∀ f ds out,CNwRSend f ds out→PCall Tryz.prog f ds out:=by
 intro f ds out h
 cases h with
 | check n=>exact nwRcheck n
 | packet x=>exact nwRpacket x
set_option maxRecDepth 4000 in
theorem nwRsend(n:Nw) (p:Pc):PCall Tryz.prog 84 [dNw n,dPc p] (.ret (.tup [dNw (sndN n p),dI (sndE n p)])):=by
 refine pcall_of_vc hNwRSend c84 (by simp [a84]) fun hr=>?_
 simp [a84,dNw_cells,dNw_noTup]
 refine vc_path [.ret (dI (eNet n)),.ret (dB (okPc p))] ?_
 simp [dNw_eq]
 have hlen:n.q.length≤9223372036854775807:=by
  have:=((hr (dNw n) (by simp)).agg (.sl 3 (n.q.map dPc)) (by simp [dNw])).2.sl.1
  simpa using this
 refine⟨.check n,fun h=>?_,fun h=>⟨.packet p,fun h2=>?_,fun h2=>⟨fun h3=>?_,fun h3=>?_⟩⟩⟩
 ·have h0:¬ okNw n=true:=fun e=>h (eNet_ne.2 e)
  exact⟨nilN2 (by simp [sndN,h0]),leD_of_eq (by simp [sndE,h0])⟩
 ·exact⟨nilN2 (by simp [sndN,h2]),leD_of_eq (by simp [sndE,h2])⟩
 ·have h0:=eNet_ne.1 h
  have h4:n.q.length=4096:=by omega
  exact⟨nilN2 (by simp [sndN,h4]),leD_of_eq (by simp [sndE,h0,h2,h4])⟩
 ·have h0:=eNet_ne.1 h
  have h4:¬ n.q.length=4096:=by omega
  have h5:=okNw_len h0
  refine⟨⟨by omega,by omega⟩,⟨by omega,by omega⟩,rfl,⟨?_,?_⟩,?_⟩ <;> refine leD_of_eq ?_
  ·simp [sndN,h0,h2,h4,dPc]
  ·simp [sndN,h0,h2,h4]
  ·simp [sndE,h0,h2,h4]
attribute [local simp] dPc_cells dPc_agg dPc_noTup dPr_cells dPr_agg dPr_noTup dNw_cells dNw_agg dNw_noTup
def zPc:Pc:=⟨0,0,[]⟩
def zNw:Nw:=⟨[],[]⟩
def inQ (n:Nw) (i:Int):Bool:=decide (0≤i)&&decide (i<n.q.length)
def atE (n:Nw) (i:Int):Int:=if okNw n=true then (if inQ n i=true then 0 else 1) else 60
def atP (n:Nw) (i:Int):Pc:=if atE n i=0 then n.q.getD i.toNat zPc else zPc
def wo (n:Nw) (i:Int):Nw:=⟨n.q.take i.toNat++n.q.drop (i.toNat+1),n.c⟩
theorem nilP{m:Pc}(h:m=zPc):LeD (.agg [.lit (.int .i64 0),.lit (.int .i64 0),.nil 1]) (dPc m):=by
 subst h
 exact LeD.agg (.cons (LeD.refl _) (.cons (LeD.refl _) (.cons (LeD.nil' 1 1) .nil))) (by simp)
theorem inQ_iff{n:Nw}{i:Int}:inQ n i=true↔0≤i∧i<n.q.length:=by simp [inQ]
theorem nwAt(n:Nw) (i:Int):PCall Tryz.prog 121 [dNw n,dI i] (.ret (.tup [dPc (atP n i),dI (atE n i)])):=by
 refine pcall_of_vc (C:=fun f ds out=>∃ n,f=45∧ds=[dNw n]∧out=.ret (dI (eNet n))) (by rintro _ _ _ ⟨x,rfl,rfl,rfl⟩;exact nwCheck x) c121 (by simp [a121]) fun hr=>?_
 simp [a121]
 refine vc_path [.ret (dI (eNet n))] ?_
 simp
 refine⟨⟨n,rfl,rfl⟩,fun h=>?_,fun h=>vc_path [] ?_⟩
 ·have h0:¬ okNw n=true:=fun e=>h (eNet_ne.2 e)
  have h1:atE n i=60:=by simp [atE,h0]
  exact⟨nilP (by simp [atP,h1]),leD_of_eq (by rw [h1])⟩
 have h0:=eNet_ne.1 h
 have hout:¬ inQ n i=true→LeD (D.agg [D.lit (Value.int IntKind.i64 0),D.lit (Value.int IntKind.i64 0),D.nil 1]) (dPc (atP n i))∧LeD (D.lit (Value.int IntKind.i64 1)) (D.lit (Value.int IntKind.i64 (atE n i))):=fun h2=>by
  have h1:atE n i=1:=by rw [atE,if_pos h0,if_neg h2]
  exact⟨nilP (by simp [atP,h1]),leD_of_eq (by rw [h1])⟩
 by_cases hin:inQ n i=true
 ·obtain⟨k1,k2⟩:=inQ_iff.1 hin
  obtain⟨k,rfl⟩:=Int.eq_ofNat_of_zero_le k1
  have hk:k<n.q.length:=by omega
  have h1:atE n k=0:=by simp [atE,h0,hin]
  have h3:atP n k=n.q[k]:=by simp [atP,h1,hk]
  simp [hk,h1,h3]
  exact⟨fun h=>by omega,fun h=>by omega,leD_of_eq rfl⟩
 ·have k1:=mt inQ_iff.2 hin
  by_cases hi:i<0
  ·simp [hi,hout hin]
   try (intro h;omega)
  ·have h5:(n.q.length:Int)≤i:=by omega
   simp [h5,hout hin]
   try (intro h h';omega)
theorem nwAsked(n:Nw) (i:Int):PCall Tryz.prog 82 [dNw n,dI i] (.ret (dI (atE n i))):=by
 refine pcall_of_vc (C:=fun f ds out=>∃ n,f=48∧ds=[dNw n]∧out=.ret (dI (eNet n))) (by rintro _ _ _ ⟨x,rfl,rfl,rfl⟩;exact nwRcheck x) c82 (by simp [a82]) fun hr=>?_
 simp [a82]
 refine vc_path [.ret (dI (eNet n))] ?_
 simp
 refine⟨⟨n,rfl,rfl⟩,fun h=>?_,fun h=>vc_path [] ?_⟩
 ·have h0:¬ okNw n=true:=fun e=>h (eNet_ne.2 e)
  have h1:atE n i=60:=by simp [atE,h0]
  exact leD_of_eq (by rw [h1])
 have h0:=eNet_ne.1 h
 simp
 have hout:¬ inQ n i=true→LeD (D.lit (Value.int IntKind.i64 1)) (D.lit (Value.int IntKind.i64 (atE n i))):=fun h2=>by
  have h1:atE n i=1:=by rw [atE,if_pos h0,if_neg h2]
  exact leD_of_eq (by rw [h1])
 refine⟨fun h=>hout fun h2=>by have:=inQ_iff.1 h2;omega,fun h=>⟨fun h'=>hout fun h2=>by have:=inQ_iff.1 h2;omega,fun h'=>?_⟩⟩
 have h2:inQ n i=true:=inQ_iff.2 ⟨h,h'⟩
 exact leD_of_eq (by simp [atE,h0,h2])
theorem wo_leD{n:Nw}{k:Nat}:LeD (.sl 3 (List.take k (List.map dPc n.q)++List.drop (k+1) (List.take n.q.length (List.map dPc n.q)))) (.sl 3 (List.map dPc (wo n k).q)):=by
 apply leD_of_eq
 rw [show List.take n.q.length (List.map dPc n.q)=List.map dPc n.q from List.take_of_length_le (by simp)]
 simp [wo]
theorem nwWithout(n:Nw) (i:Int) (h:inQ n i=true) (hl:n.q.length≤4096):PCall Tryz.prog 124 [dNw n,dI i] (.ret (dNw (wo n i))):=by
 refine pcall_of_vc noC c124 (by simp [a124]) fun hr=>?_
 obtain⟨k1,k2⟩:=inQ_iff.1 h
 obtain⟨k,rfl⟩:=Int.eq_ofNat_of_zero_le k1
 have hk:k<n.q.length:=by omega
 have hw:IntKind.i64.wrap ((k:Int)+1)=((k+1:Nat):Int):=by rw [wrap64 (by omega)];simp
 simp [a124,dNw_eq,hw]
 exact⟨by omega,by omega,⟨by omega,by omega⟩,rfl,wo_leD,leD_of_eq (by simp [wo])⟩
theorem nwRwithout(n:Nw) (i:Int) (h:inQ n i=true) (hl:n.q.length≤4096):PCall Tryz.prog 83 [dNw n,dI i] (.ret (dNw (wo n i))):=by
 refine pcall_of_vc noC c83 (by simp [a83]) fun hr=>?_
 obtain⟨k1,k2⟩:=inQ_iff.1 h
 obtain⟨k,rfl⟩:=Int.eq_ofNat_of_zero_le k1
 have hk:k<n.q.length:=by omega
 have hw:IntKind.i64.wrap ((k:Int)+1)=((k+1:Nat):Int):=by rw [wrap64 (by omega)];simp
 simp [a83,dNw_eq,hw]
 exact⟨by omega,⟨by omega,by omega⟩,by omega,⟨by omega,by omega⟩,rfl,wo_leD,leD_of_eq (by simp [wo])⟩
end

section
attribute [local simp] dPc_cells dPc_agg dPc_noTup dPr_cells dPr_agg dPr_noTup dNw_cells dNw_agg dNw_noTup
def lseN (n:Nw) (i:Int):Nw:=if atE n i=0 then wo n i else zNw
def repN (n:Nw) (i:Int):Nw:=if atE n i=0 then sndN n (atP n i) else zNw
def repE (n:Nw) (i:Int):Int:=if atE n i=0 then sndE n (atP n i) else atE n i
theorem atE_zero{n:Nw}{i:Int}:atE n i=0↔okNw n=true∧inQ n i=true:=by
 unfold atE;split <;> (try split) <;> simp_all
inductive CNwA:FuncId→List D→Out→Prop
 | at' (n:Nw) (i:Int):CNwA 121 [dNw n,dI i] (.ret (.tup [dPc (atP n i),dI (atE n i)]))
 | asked (n:Nw) (i:Int):CNwA 82 [dNw n,dI i] (.ret (dI (atE n i)))
 | without (n:Nw) (i:Int) (h:inQ n i=true) (hl:n.q.length≤4096):CNwA 124 [dNw n,dI i] (.ret (dNw (wo n i)))
 | rwithout (n:Nw) (i:Int) (h:inQ n i=true) (hl:n.q.length≤4096):CNwA 83 [dNw n,dI i] (.ret (dNw (wo n i)))
 | send (n:Nw) (p:Pc):CNwA 119 [dNw n,dPc p] (.ret (.tup [dNw (sndN n p),dI (sndE n p)]))
 | rsend (n:Nw) (p:Pc):CNwA 84 [dNw n,dPc p] (.ret (.tup [dNw (sndN n p),dI (sndE n p)]))
theorem hNwA:∀ f ds out,CNwA f ds out→PCall Tryz.prog f ds out:=by
 intro f ds out h
 cases h with
 | at' n i=>exact nwAt n i
 | asked n i=>exact nwAsked n i
 | without n i h hl=>exact nwWithout n i h hl
 | rwithout n i h hl=>exact nwRwithout n i h hl
 | send n p=>exact nwSend n p
 | rsend n p=>exact nwRsend n p
theorem nilN3{m:Nw}(h:m=zNw):LeD (.agg [.nil 3,.nil 2]) (dNw m):=by subst h;exact nilN
theorem nwLose(n:Nw) (i:Int):PCall Tryz.prog 76 [dNw n,dI i] (.ret (.tup [dNw (lseN n i),dI (atE n i)])):=by
 refine pcall_of_vc hNwA c76 (by simp [a76]) fun hr=>?_
 simp [a76]
 refine vc_path [.ret (.tup [dPc (atP n i),dI (atE n i)])] ?_
 simp
 refine⟨.at' n i,fun h=>nilN3 (by simp [lseN,h]),fun h=>vc_path [.ret (dNw (wo n i))] ?_⟩
 obtain⟨k1,k2⟩:=atE_zero.1 h
 simp [dNw_eq]
 exact⟨.without n i k2 (okNw_len k1),leD_of_eq (by simp [lseN,h]),leD_of_eq (by rw [h])⟩
theorem nwRlose(n:Nw) (i:Int):PCall Tryz.prog 41 [dNw n,dI i] (.ret (.tup [dNw (lseN n i),dI (atE n i)])):=by
 refine pcall_of_vc hNwA c41 (by simp [a41]) fun hr=>?_
 simp [a41]
 refine vc_path [.ret (dI (atE n i))] ?_
 simp
 refine⟨.asked n i,fun h=>nilN3 (by simp [lseN,h]),fun h=>vc_path [.ret (dNw (wo n i))] ?_⟩
 obtain⟨k1,k2⟩:=atE_zero.1 h
 simp [dNw_eq]
 exact⟨.rwithout n i k2 (okNw_len k1),leD_of_eq (by simp [lseN,h]),leD_of_eq (by rw [h])⟩
theorem nwRepeat(n:Nw) (i:Int):PCall Tryz.prog 77 [dNw n,dI i] (.ret (.tup [dNw (repN n i),dI (repE n i)])):=by
 refine pcall_of_vc hNwA c77 (by simp [a77]) fun hr=>?_
 simp [a77]
 refine vc_path [.ret (.tup [dPc (atP n i),dI (atE n i)])] ?_
 simp
 refine⟨.at' n i,fun h=>⟨nilN3 (by simp [repN,h]),leD_of_eq (by simp [repE,h])⟩,fun h=>vc_path [.ret (.tup [dNw (sndN n (atP n i)),dI (sndE n (atP n i))])] ?_⟩
 simp [dNw_eq]
 exact⟨.send n (atP n i),leD_of_eq (by simp [repN,h]),leD_of_eq (by simp [repE,h])⟩
theorem nwRrepeat(n:Nw) (i:Int):PCall Tryz.prog 42 [dNw n,dI i] (.ret (.tup [dNw (repN n i),dI (repE n i)])):=by
 refine pcall_of_vc hNwA c42 (by simp [a42]) fun hr=>?_
 simp [a42]
 refine vc_path [.ret (dI (atE n i))] ?_
 simp
 refine⟨.asked n i,fun h=>⟨nilN3 (by simp [repN,h]),leD_of_eq (by simp [repE,h])⟩,fun h=>vc_pathD [.ret (.tup [dNw (sndN n (atP n i)),dI (sndE n (atP n i))])] ?_⟩
 obtain⟨k1,k2⟩:=atE_zero.1 h
 obtain⟨k3,k4⟩:=inQ_iff.1 k2
 obtain⟨k,rfl⟩:=Int.eq_ofNat_of_zero_le k3
 have hk:k<n.q.length:=by omega
 have h3:atP n k=n.q[k]:=by simp [atP,h,hk]
 simp [dNw_eq,hk,h3]
 exact⟨.rsend n n.q[k],rfl,leD_of_eq (by simp [repN,h,h3]),leD_of_eq (by simp [repE,h,h3])⟩
theorem nwIndex(l:List (Int×Int)) (x:Int×Int):PCall Tryz.prog 148 [.sl 2 (l.map dPr),dPr x] (.ret (dI (match l.findIdx? (fun y=>decide (x=y)) with | some i=>i | none=>-1))):=by
 refine pcall_of_vc noC c148 (by simp [a148]) fun hr=>?_
 have hlen:=(hr (.sl 2 (l.map dPr)) (by simp)).sl.1
 simp at hlen
 simp [a148]
 refine vc_loopK [0,3,7] Nat (fun i=>[(8,true,.d (dI i))]) (fun _=>[]) (fun i=>i≤l.length∧∀ j,(h:j<i)→(h2:j<l.length)→¬ x=l[j]) (fun i=>l.length-i) 0 (by simp) ⟨[],[],?_⟩ (fun i hi=>?_)
 ·simp
 ·obtain⟨h1,h2⟩:=hi
  simp
  refine⟨fun hlt=>?_,fun hge=>?_⟩
  ·simp [hlt,dPr]
   refine⟨rfl,fun ha hb=>leD_of_eq ?_,fun hne=>⟨i+1,⟨by omega,fun j hj hj2=>?_⟩,by omega,[],[],?_⟩⟩
   ·have:l.findIdx? (fun y=>decide (x=y))=some i:=findIdx_some hlt (by simp [Prod.ext_iff,ha,hb]) (fun j hj=>by simpa using h2 j hj (by omega))
    rw [this]
   ·by_cases e:j=i
    ·subst e;intro e;exact hne (by rw [e]) (by rw [e])
    ·exact h2 j (by omega) hj2
   ·rw [wrap64 (by omega)]
    simp
  ·have:l.findIdx? (fun y=>decide (x=y))=none:=findIdx_none (fun j hj=>by simpa using h2 j (by omega) hj)
   rw [this]
   exact leD_of_eq rfl
def nwIdx (l:List (Int×Int)) (x:Int×Int):Int:=match l.findIdx? (fun y=>decide (x=y)) with | some i=>i | none=>-1
inductive CNwIdx:FuncId→List D→Out→Prop
 | mk (l:List (Int×Int)) (x:Int×Int):CNwIdx 148 [.sl 2 (l.map dPr),dPr x] (.ret (dI (nwIdx l x)))
theorem hNwIdx:∀ f ds out,CNwIdx f ds out→PCall Tryz.prog f ds out:=by
 intro f ds out h
 cases h with
 | mk l x=>exact nwIndex l x
theorem nwContains(l:List (Int×Int)) (x:Int×Int):PCall Tryz.prog 122 [.sl 2 (l.map dPr),dPr x] (.ret (dB (decide (x∈l)))):=by
 refine pcall_of_vc hNwIdx c122 (by simp [a122]) fun hr=>?_
 simp [a122]
 refine vc_path [.ret (dI (nwIdx l x))] ?_
 simp
 refine⟨.mk l x,leD_of_eq ?_⟩
 congr 2
 unfold nwIdx
 split
 ·rename_i i h
  rw [List.findIdx?_eq_some_iff_getElem] at h
  obtain⟨h1,h2,_⟩:=h
  have:x∈l:=by
   have:=of_decide_eq_true h2
   rw [this];exact List.getElem_mem h1
  simp [this]
 ·rename_i h
  rw [List.findIdx?_eq_none_iff] at h
  have:x ∉ l:=fun hx=>by simpa using h x hx
  simp [this]
def lk (a b:Int):Int×Int:=(if b<a then b else a,if a<b then b else a)
theorem nwIsCut(n:Nw) (a b:Int):PCall Tryz.prog 125 [dNw n,dI a,dI b] (.ret (dB (decide (lk a b∈n.c)))):=by
 refine pcall_of_vc noC c125 (by simp [a125]) fun hr=>?_
 have hlen:=((hr (dNw n) (by simp)).agg (.sl 2 (n.c.map dPr)) (by simp [dNw])).2.sl.1
 simp at hlen
 simp [a125]
 refine vc_loopK [3,1,2] Nat (fun i=>[(7,true,.d (dI i))]) (fun _=>[]) (fun i=>i≤n.c.length∧∀ j,(h:j<i)→(h2:j<n.c.length)→¬ lk a b=n.c[j]) (fun i=>n.c.length-i) 0 (by simp) ⟨[],[],?_⟩ (fun i hi=>?_)
 ·simp
 ·obtain⟨h1,h2⟩:=hi
  simp
  refine⟨fun hlt=>?_,fun hge=>?_⟩
  ·refine vc_path [] ?_
   simp [hlt,dPr]
   have hno:¬ lk a b=n.c[i]→∃ x',(x'≤n.c.length∧∀ (j:Nat),j<x'→∀ (h2:j<n.c.length),¬lk a b=n.c[j])∧n.c.length-x'<n.c.length-i∧x'=i+1:=fun hne=>⟨i+1,⟨by omega,fun j hj hj2=>by
    by_cases e:j=i
    ·subst e;exact hne
    ·exact h2 j (by omega) hj2⟩,by omega,rfl⟩
   refine⟨fun g1=>⟨fun g2=>leD_of_eq ?_,fun g2=>?_⟩,fun g1=>?_⟩
   ·have:lk a b∈n.c:=by
     rw [show lk a b=n.c[i] from by rw [lk,← g1,← g2]];exact List.getElem_mem hlt
    simp [this]
   ·obtain⟨x',q1,q2,rfl⟩:=hno (fun e=>g2 (by rw [← e];rfl))
    refine⟨_,q1,q2,[],[],?_⟩
    rw [wrap64 (by omega)];simp
   ·obtain⟨x',q1,q2,rfl⟩:=hno (fun e=>g1 (by rw [← e];rfl))
    refine⟨_,q1,q2,[],[],?_⟩
    rw [wrap64 (by omega)];simp
  ·have:lk a b ∉ n.c:=fun h=>by
    obtain⟨j,hj,e⟩:=List.getElem_of_mem h
    exact h2 j (by omega) hj e.symm
   exact leD_of_eq (by simp [this])
def dlvP (n:Nw) (i:Int):Pc:=if lk (atP n i).a (atP n i).b∈n.c then zPc else atP n i
inductive CNwDlv:FuncId→List D→Out→Prop
 | at' (n:Nw) (i:Int):CNwDlv 121 [dNw n,dI i] (.ret (.tup [dPc (atP n i),dI (atE n i)]))
 | asked (n:Nw) (i:Int):CNwDlv 82 [dNw n,dI i] (.ret (dI (atE n i)))
 | without (n:Nw) (i:Int) (h:inQ n i=true) (hl:n.q.length≤4096):CNwDlv 124 [dNw n,dI i] (.ret (dNw (wo n i)))
 | rwithout (n:Nw) (i:Int) (h:inQ n i=true) (hl:n.q.length≤4096):CNwDlv 83 [dNw n,dI i] (.ret (dNw (wo n i)))
 | between (x y:Int):CNwDlv 123 [dI x,dI y] (.ret (dPr (lk x y)))
 | contains (l:List (Int×Int)) (x:Int×Int):CNwDlv 122 [.sl 2 (l.map dPr),dPr x] (.ret (dB (decide (x∈l))))
 | isCut (n:Nw) (a b:Int):CNwDlv 125 [dNw n,dI a,dI b] (.ret (dB (decide (lk a b∈n.c))))
theorem hNwDlv:∀ f ds out,CNwDlv f ds out→PCall Tryz.prog f ds out:=by
 intro f ds out h
 cases h with
 | at' n i=>exact nwAt n i
 | asked n i=>exact nwAsked n i
 | without n i h hl=>exact nwWithout n i h hl
 | rwithout n i h hl=>exact nwRwithout n i h hl
 | between x y=>exact nwBetween x y
 | contains l x=>exact nwContains l x
 | isCut n a b=>exact nwIsCut n a b
theorem dlvP_z{n:Nw}{i:Int}(h:¬ atE n i=0):dlvP n i=zPc:=by
 have:atP n i=zPc:=by simp [atP,h]
 rw [dlvP,this];split <;> rfl
set_option maxRecDepth 4000 in
theorem nwDeliver(n:Nw) (i:Int):PCall Tryz.prog 75 [dNw n,dI i] (.ret (.tup [dPc (dlvP n i),dNw (lseN n i),dI (atE n i)])):=by
 refine pcall_of_vc hNwDlv c75 (by simp [a75]) fun hr=>?_
 simp [a75]
 refine vc_path [.ret (.tup [dPc (atP n i),dI (atE n i)])] ?_
 simp
 refine⟨.at' n i,fun h=>?_,fun h=>vc_pathD [.ret (dPr (lk (atP n i).a (atP n i).b)),.ret (dB (decide (lk (atP n i).a (atP n i).b∈n.c)))] ?_⟩
 ·exact⟨rfl,leD_of_eq (by rw [dlvP_z h,show atP n i=zPc by simp [atP,h]];rfl),nilN3 (by simp [lseN,h])⟩
 obtain⟨k1,k2⟩:=atE_zero.1 h
 simp
 refine⟨.between _ _,.contains _ _,rfl,fun h4=>vc_pathD [.ret (dNw (wo n i))] ?_,fun h4=>vc_pathD [.ret (dNw (wo n i))] ?_⟩
 ·simp [dNw_eq]
  exact⟨.without n i k2 (okNw_len k1),rfl,nilP (by simp [dlvP,h4]),leD_of_eq (by simp [lseN,h]),leD_of_eq (by rw [h])⟩
 ·simp [dNw_eq]
  exact⟨.without n i k2 (okNw_len k1),rfl,leD_of_eq (by simp [dlvP,h4,dPc]),leD_of_eq (by simp [lseN,h]),leD_of_eq (by rw [h])⟩
set_option maxRecDepth 4000 in
theorem nwRdeliver(n:Nw) (i:Int):PCall Tryz.prog 81 [dNw n,dI i] (.ret (.tup [dPc (dlvP n i),dNw (lseN n i),dI (atE n i)])):=by
 refine pcall_of_vc hNwDlv c81 (by simp [a81]) fun hr=>?_
 simp [a81]
 refine vc_path [.ret (dI (atE n i))] ?_
 simp
 refine⟨.asked n i,fun h=>?_,fun h=>?_⟩
 ·exact⟨nilP (dlvP_z h),nilN3 (by simp [lseN,h])⟩
 obtain⟨k1,k2⟩:=atE_zero.1 h
 obtain⟨k3,k4⟩:=inQ_iff.1 k2
 obtain⟨k,rfl⟩:=Int.eq_ofNat_of_zero_le k3
 have hk:k<n.q.length:=by omega
 have h3:atP n k=n.q[k]:=by simp [atP,h,hk]
 simp [hk]
 refine vc_path [.ret (dB (decide (lk n.q[k].a n.q[k].b∈n.c)))] ?_
 simp
 refine⟨.isCut _ _ _,fun h4=>vc_pathD [.ret (dNw (wo n k))] ?_,fun h4=>vc_pathD [.ret (dNw (wo n k))] ?_⟩
 ·simp [dNw_eq]
  exact⟨.rwithout n k k2 (okNw_len k1),rfl,nilP (by simp [dlvP,h3,h4]),leD_of_eq (by simp [lseN,h]),leD_of_eq (by rw [h])⟩
 ·simp [dNw_eq]
  exact⟨.rwithout n k k2 (okNw_len k1),rfl,leD_of_eq (by simp [dlvP,h3,h4,dPc]),leD_of_eq (by simp [lseN,h]),leD_of_eq (by rw [h])⟩
attribute [local simp] dPc_cells dPc_agg dPc_noTup dPr_cells dPr_agg dPr_noTup dNw_cells dNw_agg dNw_noTup
inductive CNwSame:FuncId→List D→Out→Prop
 | mk (x y:Pc):CNwSame 96 [dPc x,dPc y] (.ret (dB (decide (x=y))))
theorem hNwSame:∀ f ds out,CNwSame f ds out→PCall Tryz.prog f ds out:=by
 intro f ds out h
 cases h with
 | mk x y=>exact nwSamePacket x y
set_option maxRecDepth 4000 in
theorem nwSame(x y:Nw):PCall Tryz.prog 50 [dNw x,dNw y] (.ret (dB (decide (x=y)))):=by
 refine pcall_of_vc hNwSame c50 (by simp [a50]) fun hr=>?_
 have hlen1:=((hr (dNw x) (by simp)).agg (.sl 3 (x.q.map dPc)) (by simp [dNw])).2.sl.1
 have hlen2:=((hr (dNw x) (by simp)).agg (.sl 2 (x.c.map dPr)) (by simp [dNw])).2.sl.1
 simp at hlen1 hlen2
 simp [a50]
 refine vc_path [] ?_
 simp
 have hno:¬ x=y→LeD (dB false) (dB (decide (x=y))):=fun h=>leD_of_eq (by simp [h])
 refine⟨fun h=>?_,fun h1=>⟨fun h=>?_,fun h2=>?_⟩⟩
 ·exact hno (fun e=>h (by rw [e]))
 ·exact hno (fun e=>h (by rw [e]))
 refine vc_loopK [2,3] Nat (fun i=>[(5,true,.d (dI i))]) (fun _=>[]) (fun i=>i≤x.q.length∧∀ j,(h:j<i)→(h2:j<x.q.length)→(h3:j<y.q.length)→x.q[j]=y.q[j]) (fun i=>x.q.length-i) 0 (by simp) ⟨[],[],?_⟩ (fun i hi=>?_)
 ·simp
 obtain⟨g1,g2⟩:=hi
 simp
 refine⟨fun hlt=>?_,fun hge1=>?_⟩
 ·have hlt2:i<y.q.length:=by omega
  refine vc_pathD [.ret (dB (decide (x.q[i]=y.q[i])))] ?_
  simp [hlt,hlt2]
  refine⟨.mk _ _,rfl,fun h=>hno (fun e=>h (by subst e;rfl)),fun h=>⟨i+1,⟨by omega,fun j hj q1 q2=>?_⟩,by omega,[],[],?_⟩⟩
  ·by_cases e:j=i
   ·subst e;exact h
   ·exact g2 j (by omega) q1 q2
  ·rw [wrap64 (by omega)];simp
 refine vc_loopK [2,3] Nat (fun i=>[(6,true,.d (dI i))]) (fun _=>[]) (fun i=>i≤x.c.length∧∀ j,(h:j<i)→(h2:j<x.c.length)→(h3:j<y.c.length)→x.c[j]=y.c[j]) (fun i=>x.c.length-i) 0 (by simp) ⟨[],[],?_⟩ (fun i hi=>?_)
 ·simp
 obtain⟨g3,g4⟩:=hi
 simp
 refine⟨fun hlt=>?_,fun hge=>?_⟩
 ·have hlt2:i<y.c.length:=by omega
  simp [hlt,hlt2,dPr]
  refine⟨rfl,fun h=>hno (fun e=>by subst e;simp at h),fun h h'=>⟨i+1,⟨by omega,fun j hj q1 q2=>?_⟩,by omega,[],[],?_⟩⟩
  ·by_cases e:j=i
   ·subst e;exact Prod.ext h h'
   ·exact g4 j (by omega) q1 q2
  ·rw [wrap64 (by omega)];simp
 ·have:x=y:=by
   obtain⟨xq,xc⟩:=x
   obtain⟨yq,yc⟩:=y
   simp at h1 h2 g2 g4 hge hge1
   have e1:xq=yq:=List.ext_getElem (by omega) (fun j q1 q2=>g2 j (by omega) q1 q2)
   have e2:xc=yc:=List.ext_getElem (by omega) (fun j q1 q2=>g4 j (by omega) q1 q2)
   rw [e1,e2]
  exact leD_of_eq (by simp [this])
end

section
def dPe (l:List Nt):D:=.agg [.sl 7 (l.map dNt)]
theorem dPe_cells(l:List Nt):(dPe l).cells=[.sl 7 (l.map dNt)]:=rfl
theorem dPe_isAgg(l:List Nt):(dPe l).isAgg=true:=rfl
theorem dPe_noTup(l:List Nt):(AV.d (dPe l)).noTup=true:=rfl
theorem dPe_nt(l:List Nt) (ds:List D):(dPe l=.tup ds)=False:=by simp [dPe]
structure Rm where
 ps:List (List Nt)
 net:Nw
 deriving DecidableEq
def dRm (r:Rm):D:=.agg [.sl 1 (r.ps.map dPe),.sl 3 (r.net.q.map dPc),.sl 2 (r.net.c.map dPr)]
theorem dRm_cells(r:Rm):(dRm r).cells=[.sl 1 (r.ps.map dPe),.sl 3 (r.net.q.map dPc),.sl 2 (r.net.c.map dPr)]:=rfl
theorem dRm_isAgg(r:Rm):(dRm r).isAgg=true:=rfl
theorem dRm_noTup(r:Rm):(AV.d (dRm r)).noTup=true:=rfl
theorem dRm_nt(r:Rm) (ds:List D):(dRm r=.tup ds)=False:=by simp [dRm]
structure Mv where
 kind:Int
 peer:Int
 to:Int
 at_:Int
 note:Nt
 hk:-9223372036854775808≤kind∧kind<9223372036854775808
def dMv (m:Mv):D:=.agg (dI m.kind::dI m.peer::dI m.to::dI m.at_::(dNt m.note).cells)
theorem dMv_cells(m:Mv):(dMv m).cells=[dI m.kind,dI m.peer,dI m.to,dI m.at_,dI m.note.lang,dI m.note.seq,dI m.note.ch.at_,dI m.note.ch.kind,dI m.note.ch.sp.id,dI m.note.ch.sp.ver,dZ m.note.ch.sp.tx]:=rfl
theorem dMv_isAgg(m:Mv):(dMv m).isAgg=true:=rfl
theorem dMv_noTup(m:Mv):(AV.d (dMv m)).noTup=true:=rfl
theorem dMv_nt(m:Mv) (ds:List D):(dMv m=.tup ds)=False:=by simp [dMv]
def okNs:Option (List UInt8)→List Nt→Bool
 | _,[]=>true
 | last,n::r=>okNt n&&((match last with | none=>true | some b=>bLt b (msgB n))&&okNs (some (msgB n)) r)
def okPe (l:List Nt):Bool:=okNs none l&&decide (l.length≤4096)
def okPq (n:Nat) (p:Pc):Bool:=(readB p.p).isSome&&(decide (p.a<n)&&decide (p.b<n))
def okRm (r:Rm):Bool:=decide (1≤r.ps.length)&&(decide (r.ps.length≤24)&&(okNw r.net&&(r.ps.all okPe&&r.net.q.all (okPq r.ps.length))))
def rmE (r:Rm):Int:=if okRm r then 0 else 530
def posN (l:List Nt) (n:Nt):Nat:=(l.takeWhile fun x=>bLt (msgB x) (msgB n)).length
def lrnE (l:List Nt) (n:Nt):Int:=if l[posN l n]?=some n then 0 else if l.length=4096 then 2 else 0
def lrnL (l:List Nt) (n:Nt):List Nt:=if l[posN l n]?=some n then l else if l.length=4096 then [] else l.take (posN l n)++n::l.drop (posN l n)
def sndAll:Nw→List Pc→Nw×Int
 | w,[]=>(w,0)
 | w,p::r=>if sndE w p=0 then sndAll (sndN w p) r else (w,sndE w p)
def pcOf (a b:Int) (n:Nt):Pc:=⟨a,b,msgB n⟩
def tellQ (k:Nat) (i:Nat) (n:Nt):List Pc:=((List.range k).filter (fun j=>j != i)).map fun(j:Nat)=>pcOf i j n
def zRm:Rm:=⟨[],⟨[],[]⟩⟩
def tellR (r:Rm) (i:Nat) (n:Nt):Rm×Int :=
 match r.ps[i]? with
 | none=>(zRm,1)
 | some l=>if lrnE l n≠0 then (zRm,lrnE l n) else
  let s:=sndAll r.net (tellQ r.ps.length i n)
  if s.2≠0 then (zRm,s.2) else (⟨r.ps.set i (lrnL l n),s.1⟩,0)
def syncR (r:Rm) (i k:Nat):Rm×Int :=
 match r.ps[i]? with
 | none=>(zRm,1)
 | some l =>
  let s:=sndAll r.net (l.map fun n=>pcOf i k n)
  if s.2≠0 then (zRm,s.2) else (⟨r.ps,s.1⟩,0)
def dlvR (r:Rm) (at_:Int):Rm×Int :=
 if atE r.net at_≠0 then (zRm,atE r.net at_) else
  let p:=dlvP r.net at_
  let w:=lseN r.net at_
  if p.a=p.b then (⟨r.ps,w⟩,0) else
   match readB p.p,r.ps[p.b.toNat]? with
   | some n,some l=>if lrnE l n≠0 then (zRm,lrnE l n) else (⟨r.ps.set p.b.toNat (lrnL l n),w⟩,0)
   | _,_=>(zRm,0)
def inR (r:Rm) (i:Int):Bool:=decide (0≤i)&&decide (i<r.ps.length)
def mvR (r:Rm) (m:Mv):Rm×Int :=
 if okRm r=false then (zRm,530)
 else if m.kind=1 then (if inR r m.peer=false then (zRm,1) else if okNt m.note=false then (zRm,530) else tellR r m.peer.toNat m.note)
 else if m.kind=2 then (if (inR r m.peer&&inR r m.to)=false∨m.peer=m.to then (zRm,1) else syncR r m.peer.toNat m.to.toNat)
 else if m.kind=3 then dlvR r m.at_
 else if m.kind=4 then (if atE r.net m.at_≠0 then (zRm,atE r.net m.at_) else (⟨r.ps,lseN r.net m.at_⟩,0))
 else if m.kind=5 then (if repE r.net m.at_≠0 then (zRm,repE r.net m.at_) else (⟨r.ps,repN r.net m.at_⟩,0))
 else (zRm,1)
def newR (n:Int):Rm×Int:=if n<1∨24<n then (zRm,1) else (⟨List.replicate n.toNat [],⟨[],[]⟩⟩,0)
def findN (l:List Nt) (lang seq:Int):Option Ch:=(l.find? fun x=>decide (x.lang=lang∧x.seq=seq)).map (·.ch)
def seenN (l:List Nt) (lang:Int):Nat→List Sp→Nat→List Sp×Nat
 | 0,x,k=>(x,k)
 | f+1,x,k=>match findN l lang k with
  | none=>(x,k)
  | some c=>seenN l lang f (if doDE x c=0 then doDL x c else x) (k+1)
def seenE (l:List Nt) (lang:Int):Int:=if okPe l=false then 530 else if lang<0∨32≤lang then 1 else 0
def seenR (l:List Nt) (lang:Int):List Sp×Nat:=if seenE l lang=0 then seenN l lang (l.length+1) [] 0 else ([],0)
abbrev nLt (a b:Nt):Prop:=bLt (msgB a) (msgB b)=true
theorem okNs_iff{l:List Nt}{last:Option (List UInt8)}:okNs last l=true↔(∀ n∈l,okNt n=true)∧l.Pairwise nLt∧∀ b,last=some b→∀ n∈l,bLt b (msgB n)=true:=by
 induction l generalizing last with
 | nil=>simp [okNs]
 | cons x r ih =>
  simp only [okNs,Bool.and_eq_true,ih,List.pairwise_cons,List.mem_cons,forall_eq_or_imp]
  constructor
  ·rintro⟨h1,h2,h3,h4,h5⟩
   have h6:∀ n∈r,nLt x n:=fun n hn=>h5 _ rfl n hn
   refine⟨⟨h1,h3⟩,⟨h6,h4⟩,fun b hb=>?_⟩
   subst hb
   exact⟨h2,fun n hn=>bLt_trans h2 (h6 n hn)⟩
  ·rintro⟨⟨h1,h2⟩,⟨h3,h4⟩,h5⟩
   refine⟨h1,?_,h2,h4,fun b hb n hn=>?_⟩
   ·cases last with
    | none=>rfl
    | some b=>exact(h5 b rfl).1
   ·injection hb with hb;subst hb
    exact h3 n hn
theorem okNs_ok{l:List Nt}(h:okNs none l=true):∀ n∈l,okNt n=true:=(okNs_iff.1 h).1
theorem okNs_pw{l:List Nt}(h:okNs none l=true):l.Pairwise nLt:=(okNs_iff.1 h).2.1
theorem okNs_mk{l:List Nt}(h1:∀ n∈l,okNt n=true) (h2:l.Pairwise nLt):okNs none l=true:=okNs_iff.2 ⟨h1,h2,fun b hb=>by cases hb⟩
theorem posN_spec{l:List Nt}(h:l.Pairwise nLt) (n:Nt):posN l n≤l.length∧∀ (k:Nat) (hk:k<l.length),(nLt l[k] n↔k<posN l n):=by
 induction l with
 | nil=>exact⟨by simp [posN],fun k hk=>by simp at hk⟩
 | cons x r ih =>
  rw [List.pairwise_cons] at h
  obtain⟨h1,h2⟩:=ih h.2
  unfold posN at *
  by_cases hx:bLt (msgB x) (msgB n)=true
  ·rw [List.takeWhile_cons_of_pos (p:=fun x=>bLt (msgB x) (msgB n)) hx]
   refine⟨by simpa using h1,fun k hk=>?_⟩
   cases k with
   | zero=>simp only [List.getElem_cons_zero,List.length_cons];exact⟨fun _=>by omega,fun _=>hx⟩
   | succ k =>
    have:=h2 k (by simpa using hk)
    simp only [List.getElem_cons_succ,List.length_cons]
    rw [this];omega
  ·rw [List.takeWhile_cons_of_neg (p:=fun x=>bLt (msgB x) (msgB n)) hx]
   refine⟨by simp,fun k hk=>?_⟩
   simp only [List.length_nil,Nat.not_lt_zero,iff_false]
   cases k with
   | zero=>exact hx
   | succ k =>
    have hk':k<r.length:=by simpa using hk
    intro hlt
    simp only [List.getElem_cons_succ] at hlt
    exact hx (bLt_trans (h.1 r[k] (List.getElem_mem hk')) hlt)
theorem posN_uniq{l:List Nt}(h:l.Pairwise nLt){n:Nt}{p:Nat}(hp:p≤l.length) (h1:∀ (k:Nat) (hk:k<l.length),k<p→nLt l[k] n) (h2:∀ (k:Nat) (hk:k<l.length),p≤k→¬ nLt l[k] n):p=posN l n:=by
 obtain⟨q1,q2⟩:=posN_spec h n
 rcases Nat.lt_trichotomy p (posN l n) with hlt | he | hgt
 ·exact absurd ((q2 p (by omega)).2 hlt) (h2 p (by omega) (Nat.le_refl _))
 ·exact he
 ·have:=(q2 (posN l n) (by omega)).1 (h1 _ (by omega) hgt)
  omega
theorem wr_cons(x:D) (l:List D):wr (x::l)=x.cells.map .d++wr l:=by simp [wr,D.flat]
theorem wr_take{z:Nat}{es:List D}{i:Nat}{e:D}(hz:∀ e∈es,e.cells.length=z) (h:es[i]?=some e):((wr es).drop (i*z)).take z=e.cells.map .d:=by
 have he:=hz e (List.mem_of_getElem? h)
 refine List.ext_getElem? fun k=>?_
 rw [List.getElem?_take]
 by_cases hk:k<z
 ·have:=flat_get hz h k hk
  rw [if_pos hk,List.getElem?_drop,wr,List.getElem?_map,this,List.getElem?_map]
 ·rw [if_neg hk,List.getElem?_eq_none (by simp;omega)]
theorem wr_get{z:Nat}{es:List D}{i k:Nat}{e d:D}(hz:∀ e∈es,e.cells.length=z) (h:es[i]?=some e) (hk:e.cells[k]?=some d):(wr es)[i*z+k]?=some (.d d):=by
 have he:=hz e (List.mem_of_getElem? h)
 have hlt:=(List.getElem?_eq_some_iff.1 hk).1
 have:=flat_get hz h k (by omega)
 rw [wr,List.getElem?_map,this,hk];rfl
theorem wr_len'{z:Nat}{es:List D}(hz:∀ e∈es,e.cells.length=z):(wr es).length=es.length*z:=by rw [wr,List.length_map,flat_len hz]
theorem wr_set{z:Nat}:∀ {es:List D}{i:Nat}{d:D},(∀ e∈es,e.cells.length=z)→d.cells.length=z→i<es.length→wr (es.set i d)=(wr es).take (i*z)++d.cells.map .d++(wr es).drop (i*z+z)
 | [],i,d,_,_,h=>by simp at h
 | e::es,i,d,hz,hd,h=>by
  have he:=hz e (by simp)
  cases i with
  | zero=>rw [List.set_cons_zero,wr_cons,wr_cons,Nat.zero_mul,List.take_zero,Nat.zero_add,List.drop_left' (by simpa using he)];rfl
  | succ i =>
   have ih:=wr_set (es:=es) (i:=i) (d:=d) (fun e he=>hz e (by simp [he])) hd (by simpa using h)
   have hl:(e.cells.map AV.d).length=z:=by simpa using he
   rw [List.set_cons_succ,wr_cons,wr_cons,ih,Nat.succ_mul,show i*z+z+z=z+(i*z+z) by omega,show i*z+z=z+i*z by omega]
   rw [show z=(e.cells.map AV.d).length from hl.symm,List.take_length_add_append,List.drop_length_add_append]
   simp [List.append_assoc]
theorem set3{α:Type}(l:List α) (i:Nat) (a b c:α) (h:i+3≤l.length):((l.set i a).set (i+1) b).set (i+2) c=l.take i++[a,b,c]++l.drop (i+3):=by
 refine List.ext_getElem? fun k=>?_
 simp only [List.getElem?_set,List.length_set]
 by_cases h1:k<i
 ·rw [if_neg (by omega),if_neg (by omega),if_neg (by omega),List.append_assoc,List.getElem?_append_left (by simp;omega),List.getElem?_take,if_pos h1]
 ·rw [List.append_assoc,List.getElem?_append_right (by simp;omega)]
  simp only [List.length_take,Nat.min_eq_left (show i≤l.length by omega)]
  by_cases h2:k=i
  ·subst h2;rw [if_neg (by omega),if_neg (by omega),if_pos rfl,if_pos (by omega)];simp
  ·by_cases h3:k=i+1
   ·subst h3;rw [if_neg (by omega),if_pos rfl,if_pos (by omega),show i+1-i=1 by omega];simp
   ·by_cases h4:k=i+2
    ·subst h4;rw [if_pos rfl,if_pos (by omega),show i+2-i=2 by omega];simp
    ·rw [if_neg (by omega),if_neg (by omega),if_neg (by omega),List.getElem?_append_right (by simp;omega),List.getElem?_drop]
     congr 1;simp;omega
theorem wr_set3{es:List D}{i:Nat}{a b c:D}(hz:∀ e∈es,e.cells.length=3) (hi:i<es.length):(((wr es).set (i*3) (.d a)).set (i*3+1) (.d b)).set (i*3+2) (.d c)=wr (es.set i (.agg [a,b,c])):=by
 rw [wr_set hz rfl hi,set3 _ _ _ _ _ (by rw [wr_len' hz];omega)]
 rfl
theorem eqB_sp(x y:Sp):eqB [dI x.id,dI x.ver,dZ x.tx] [dI y.id,dI y.ver,dZ y.tx]=decide (x=y):=by
 rw [Bool.eq_iff_iff]
 simp only [dI,dZ,eqB,Bool.and_eq_true,beq_iff_eq,decide_eq_true_eq,Bool.and_true,bz_inj]
 constructor
 ·rintro⟨h1,h2,h3⟩;exact Sp.ext' h1 h2 h3
 ·rintro rfl;exact⟨rfl,rfl,rfl⟩
end

section
attribute [local simp] dZ_agg dZ_nt dZ_noTup dZ_cells dZ_one bz_toList bz_size strV dSp_cells dSp_isAgg dSp_noTup dSp_nt dCh_cells dCh_isAgg dCh_noTup dCh_nt
set_option maxRecDepth 8000
set_option maxHeartbeats 4000000
theorem dNeed_t(n:Int):PCall Tryz.prog 101 [dB true,dI n] (.ret (.tup [])):=by
 refine pcall_of_vc noC c101 (by simp [a101]) fun hr=>?_
 simp [a101]
theorem dNeed_f(n:Int):PCall Tryz.prog 101 [dB false,dI n] (.pan (tE n)):=by
 refine pcall_of_vc noC c101 (by simp [a101]) fun hr=>?_
 simp [a101]
 refine regS_path [] ?_
 simp [tE]
theorem dId(n:Int):PCall Tryz.prog 136 [dI n] (.ret (dB (okId n))):=by
 refine pcall_of_vc noC c136 (by simp [a136]) fun hr=>?_
 simp [a136]
 refine vc_calls [] ?_
 simp [okId]
theorem rId(n:Int):PCall Tryz.prog 157 [dI n] (.ret (dB (okId n))):=by
 refine pcall_of_vc noC c157 (by simp [a157]) fun hr=>?_
 simp [a157]
 refine vc_calls [] ?_
 simp [okId]
theorem dTime(n:Int):PCall Tryz.prog 111 [dI n] (.ret (dB (okTm n))):=by
 refine pcall_of_vc noC c111 (by simp [a111]) fun hr=>?_
 simp [a111]
 refine vc_calls [] ?_
 simp [okTm]
theorem rTime(n:Int):PCall Tryz.prog 134 [dI n] (.ret (dB (okTm n))):=by
 refine pcall_of_vc noC c134 (by simp [a134]) fun hr=>?_
 simp [a134]
 refine vc_calls [] ?_
 simp [okTm]
inductive C520:FuncId→List D→Out→Prop
 | id (n:Int):C520 136 [dI n] (.ret (dB (okId n)))
 | rid (n:Int):C520 157 [dI n] (.ret (dB (okId n)))
 | time (n:Int):C520 111 [dI n] (.ret (dB (okTm n)))
 | rtime (n:Int):C520 134 [dI n] (.ret (dB (okTm n)))
 | word (b:List UInt8):C520 137 [dZ b] (.ret (dB (isWd b)))
 | rword (b:List UInt8):C520 158 [dZ b] (.ret (dB (isWd b)))
theorem h520:∀ f ds out,C520 f ds out→PCall Tryz.prog f ds out:=by
 intro f ds out h
 cases h with
 | id n=>exact dId n
 | rid n=>exact rId n
 | time n=>exact dTime n
 | rtime n=>exact rTime n
 | word b=>exact word b
 | rword b=>exact rword b
theorem dRight(x:Sp):PCall Tryz.prog 102 [dSp x] (.ret (dB (okSp x))):=by
 refine pcall_of_vc h520 c102 (by simp [a102]) fun hr=>?_
 simp [a102]
 have k1:=C520.id x.id
 have k2:=C520.id x.ver
 have k3:=C520.word x.tx
 unfold okSp
 generalize okId x.id=p1 at *
 generalize okId x.ver=p2 at *
 generalize isWd x.tx=p3 at *
 refine vc_path [.ret (dB p1),.ret (dB p2),.ret (dB p3)] ?_
 cases p1 <;> cases p2 <;> simp <;> simp at k1 k2 k3 <;> first | exact⟨k1,k2,k3⟩ | exact⟨k1,k2⟩ | exact k1
theorem rRightS(x:Sp):PCall Tryz.prog 133 [dSp x] (.ret (dB (okSp x))):=by
 refine pcall_of_vc h520 c133 (by simp [a133]) fun hr=>?_
 simp [a133]
 have k1:=C520.rid x.id
 have k2:=C520.rid x.ver
 have k3:=C520.rword x.tx
 unfold okSp
 generalize okId x.id=p1 at *
 generalize okId x.ver=p2 at *
 generalize isWd x.tx=p3 at *
 refine vc_path [.ret (dB p1),.ret (dB p2),.ret (dB p3)] ?_
 cases p1 <;> cases p2 <;> simp <;> simp at k1 k2 k3 <;> first | exact⟨k1,k2,k3⟩ | exact⟨k1,k2⟩ | exact k1
def oD (n:Int):Out:=if n=0 then .ret (.tup []) else .pan (tE n)
inductive C521:FuncId→List D→Out→Prop
 | need_t (n:Int):C521 101 [dB true,dI n] (.ret (.tup []))
 | need_f (n:Int):C521 101 [dB false,dI n] (.pan (tE n))
 | right (x:Sp):C521 102 [dSp x] (.ret (dB (okSp x)))
 | rright (x:Sp):C521 133 [dSp x] (.ret (dB (okSp x)))
 | time (n:Int):C521 111 [dI n] (.ret (dB (okTm n)))
 | rtime (n:Int):C521 134 [dI n] (.ret (dB (okTm n)))
theorem h521:∀ f ds out,C521 f ds out→PCall Tryz.prog f ds out:=by
 intro f ds out h
 cases h with
 | need_t n=>exact dNeed_t n
 | need_f n=>exact dNeed_f n
 | right x=>exact dRight x
 | rright x=>exact rRightS x
 | time x=>exact dTime x
 | rtime x=>exact rTime x
theorem dCheck(l:List Sp):PCall Tryz.prog 58 [.sl 3 (l.map dSp)] (oD (dispE l)):=by
 refine pcall_of_vc (ho:=by unfold oD;split <;> rfl) h521 c58 (by simp [a58]) fun hr=>?_
 have hlen:=(hr (.sl 3 (l.map dSp)) (by simp)).sl.1
 simp at hlen
 simp [a58]
 unfold dispE
 by_cases q1:1024<l.length
 ·rw [if_pos q1]
  have q1':¬ (l.length:Int)≤1024:=by omega
  refine vc_path [.pan (tE 2)] ?_
  simp [q1']
  refine⟨.need_f 2,?_⟩
  simp [oD]
 ·rw [if_neg q1]
  have q1':(l.length:Int)≤1024:=by omega
  refine vc_path [.ret (.tup [])] ?_
  simp [q1']
  refine⟨.need_t 2,?_⟩
  refine vc_loopK [0,9,10] (Nat×Int) (fun y=>[(11,true,.d (dI y.1)),(2,true,.d (dI y.2))]) (fun y=>[]) (fun y=>y.1≤l.length∧okRun y.2 (l.drop y.1)=okRun (-1) l) (fun y=>l.length-y.1) (0,-1) (by simp) ⟨[],[],?_⟩ (fun y hy=>?_)
  ·simp
  obtain⟨k,m⟩:=y
  obtain⟨h1,h2⟩:=hy
  simp only at h1 h2
  simp
  refine⟨fun hlt=>?_,fun hge=>?_⟩
  ·simp [hlt]
   rw [List.drop_eq_getElem_cons hlt,okRun] at h2
   have hrt:=C521.right l[k]
   generalize okSp l[k]=p1 at *
   cases p1 with
   | false =>
    refine vc_path [.ret (dB false),.pan (tE 490)] ?_
    simp [hlt] at hrt h2 ⊢
    refine⟨hrt,.need_f 490,?_⟩
    simp [oD,h2]
   | true =>
    by_cases q5:m<l[k].id
    ·refine vc_path [.ret (dB true),.ret (.tup [])] ?_
     simp [q5,hlt] at hrt h2 ⊢
     refine⟨hrt,.need_t 490,k+1,l[k].id,⟨by omega,h2⟩,by omega,[],[],?_⟩
     rw [wrap64 (by omega)]
     simp [dSp]
    ·refine vc_path [.ret (dB true),.pan (tE 490)] ?_
     simp [q5,hlt] at hrt h2 ⊢
     refine⟨hrt,.need_f 490,?_⟩
     simp [oD,h2]
  ·have:k=l.length:=by omega
   subst this
   rw [List.drop_length,okRun] at h2
   simp [oD,← h2]
theorem rCheckD(l:List Sp):PCall Tryz.prog 98 [.sl 3 (l.map dSp)] (.ret (dI (dispE l))):=by
 refine pcall_of_vc h521 c98 (by simp [a98]) fun hr=>?_
 have hlen:=(hr (.sl 3 (l.map dSp)) (by simp)).sl.1
 simp at hlen
 simp [a98]
 unfold dispE
 refine⟨fun q1=>leD_of_eq (by rw [if_pos (by omega)]),fun q1=>?_⟩
 rw [if_neg (by omega)]
 refine vc_loopK [0] Nat (fun y=>[(3,true,.d (dI y))]) (fun y=>[]) (fun y=>y≤l.length∧okRun (if y=0 then -1 else (l.getD (y-1) ⟨0,0,[],by omega,by omega⟩).id) (l.drop y)=okRun (-1) l) (fun y=>l.length-y) 0 (by simp) ⟨[],[],?_⟩ (fun k hk=>?_)
 ·simp
 obtain⟨h1,h2⟩:=hk
 simp
 refine⟨fun hlt=>?_,fun hge=>?_⟩
 ·rw [List.drop_eq_getElem_cons hlt,okRun] at h2
  have hrt:=C521.rright l[k]
  have hsp:∀ y:Sp,okSp y=true→0≤y.id:=fun y h=>okSp_id h
  cases hp:okSp l[k] with
  | false =>
   rw [hp] at hrt h2
   refine vc_pathD [.ret (dB false)] ?_
   simp [hlt] at hrt h2 ⊢
   refine⟨hrt,rfl,leD_of_eq (by simp [h2])⟩
  | true =>
   have h0:=hsp _ hp
   rw [hp] at hrt h2
   refine vc_pathD [.ret (dB true)] ?_
   cases k with
   | zero =>
    have hm:(-1:Int)<l[0].id:=by omega
    simp [hlt,hm] at hrt h2 ⊢
    refine⟨hrt,rfl,1,⟨by omega,?_⟩,by omega,[],[],?_⟩
    ·simp [List.getD,hlt];simpa using h2
    ·rw [wrap64 (by omega)];simp
   | succ k =>
    have hk':k<l.length:=by omega
    have hw:IntKind.i64.wrap (k:Int)=k:=wrap64 (by omega)
    simp only [Nat.add_eq_zero_iff,Nat.one_ne_zero,and_false,if_false,Nat.add_sub_cancel] at h2
    have hgd:(l.getD k ⟨0,0,[],by omega,by omega⟩)=l[k]:=by simp [List.getD,hk']
    rw [hgd] at h2
    have hb1:(0:Int)≤(k:Int)+1:=by omega
    have hb2:(k:Int)+1<(l.length:Int):=by omega
    by_cases q5:l[k].id<l[k+1].id
    ·have q5':¬ l[k+1].id≤l[k].id:=by omega
     simp [hlt,hk',hw,q5,q5',hb1,hb2] at hrt h2 ⊢
     refine⟨hrt,rfl,k+2,⟨by omega,?_⟩,by omega,[],[],?_⟩
     ·simp [List.getD,hlt];exact h2
     ·rw [wrap64 (by omega)];simp
      exact leD_of_eq (by congr 2)
    ·have q5':l[k+1].id≤l[k].id:=by omega
     simp [hlt,hk',hw,q5,q5',hb1,hb2] at hrt h2 ⊢
     exact⟨hrt,rfl,leD_of_eq (by simp [h2])⟩
 ·have:k=l.length:=by omega
  subst this
  rw [List.drop_length,okRun] at h2
  exact leD_of_eq (by rw [← h2];rfl)
theorem rRightC(c:Ch):PCall Tryz.prog 99 [dCh c] (.ret (dB (okCh c))):=by
 refine pcall_of_vc h521 c99 (by simp [a99]) fun hr=>?_
 simp [a99]
 have k1:=C521.rtime c.at_
 have k2:=C521.rright c.sp
 unfold okCh
 generalize okTm c.at_=p1 at *
 generalize okSp c.sp=p2 at *
 refine vc_path [.ret (dB p1),.ret (dB p2)] ?_
 by_cases q1:1≤c.kind <;> by_cases q2:c.kind≤3 <;> cases p1 <;> simp [q1,q2,dSp] at k1 k2 ⊢ <;> first | exact⟨k1,k2⟩ | exact k1
def kMapD:List (Value×D):=[(.int .i64 1,.agg [fnD 103,fnD 104]),(.int .i64 2,.agg [fnD 106,fnD 107]),(.int .i64 3,.agg [fnD 109,fnD 110])]
theorem dKinds:PCall Tryz.prog 59 [] (.retM kMapD):=by
 refine pcall_of_vc noC c59 (by simp [a59]) fun hr=>?_
 simp [a59,kMapD,fnD]
def ordI (x y:Int):Int:=if x<y then -1 else if x>y then 1 else 0
theorem ordI_lt{x y:Int}:ordI x y<0↔x<y:=by unfold ordI;by_cases h1:x<y <;> by_cases h2:x>y <;> simp [h1,h2] <;> omega
theorem ordI_eq{x y:Int}:ordI x y=0↔x=y:=by unfold ordI;by_cases h1:x<y <;> by_cases h2:x>y <;> simp [h1,h2] <;> omega
inductive C522:FuncId→List D→Out→Prop
 | cmp (x y:Int):C522 127 [dI x,dI y] (.ret (dI (ordI x y)))
theorem h522:∀ f ds out,C522 f ds out→PCall Tryz.prog f ds out:=by
 intro f ds out h
 cases h with
 | cmp x y=>exact nwCmpInt x y
theorem dCmp(id:Int) (x:Sp):PCall Tryz.prog 113 [dI id,dSp x,.agg []] (.ret (dI (ordI x.id id))):=by
 refine pcall_of_vc h522 c113 (by simp [a113]) fun hr=>?_
 simp [a113]
 refine vc_path [.ret (dI (ordI x.id id))] ?_
 simp
 exact .cmp _ _
theorem half64(i j:Nat) (h:i+j<9223372036854775808):IntKind.i64.wrap (((i+j) / 2:Nat):Int)=(((i+j) / 2:Nat):Int):=wrap64 (by omega)
theorem sh1(i j:Nat):shiftV false IntKind.u64 (((i+j:Nat)):Int) 1=.int .u64 (((i+j) / 2:Nat):Int):=by
 simp [shiftV,IntKind.bits]
 rw [Int.fdiv_eq_ediv_of_nonneg _ (by omega)]
inductive C522b (id:Int):FuncId→List D→Out→Prop
 | cmp (x:Sp):C522b id 113 [dI id,dSp x,.agg []] (.ret (dI (ordI x.id id)))
theorem h522b{id:Int}:∀ f ds out,C522b id f ds out→PCall Tryz.prog f ds out:=by
 intro f ds out h
 cases h with
 | cmp x=>exact dCmp id x
theorem dSearch(l:List Sp) (id m:Int) (hl:okRun m l=true) (hlen:l.length≤100000):PCall Tryz.prog 112 [.sl 3 (l.map dSp),.agg [],.fn (.func 113) [dI id] []] (.ret (.tup [dI (posL l id),dB (hasL l id)])):=by
 refine pcall_of_vc (h522b (id:=id)) c112 (by simp [a112]) fun hr=>?_
 simp [a112]
 refine vc_loopK [0,2,4,8] (Nat×Nat) (fun y=>[(9,true,.d (dI y.1)),(10,true,.d (dI y.2))]) (fun y=>[]) (fun y=>y.1≤y.2∧y.2≤l.length∧(∀ (k:Nat) (hk:k<l.length),k<y.1→l[k].id<id)∧(∀ (k:Nat) (hk:k<l.length),y.2≤k→¬ l[k].id<id)) (fun y=>y.2-y.1) (0,l.length) ⟨by omega,by omega,fun k hk h=>by omega,fun k hk h=>by omega⟩ ⟨[],[],?_⟩ (fun y hy=>?_)
 ·simp
 obtain⟨i,j⟩:=y
 obtain⟨h1,h2,h3,h4⟩:=hy
 simp only at h1 h2 h3 h4
 simp
 refine⟨fun hlt=>?_,fun hge=>?_⟩
 ·have hm:(i+j) / 2<l.length:=by omega
  have e1:IntKind.i64.wrap ((i:Int)+(j:Int))=((i+j:Nat):Int):=by rw [wrap64 (by omega)];omega
  have e2:IntKind.u64.wrap (((i+j:Nat)):Int)=((i+j:Nat):Int):=wrap_u64 (by omega) (by omega)
  have e3:=half64 i j (by omega)
  have e4:=sh1 i j
  have e5:IntKind.i64.wrap (((i+j) / 2:Nat)+1:Int)=(((i+j) / 2+1:Nat):Int):=by rw [wrap64 (by omega)];omega
  have k1:=C522b.cmp (id:=id) l[(i+j) / 2]
  rw [e1,e2,e4]
  simp only [e3]
  generalize hq:(i+j) / 2=q at *
  refine⟨trivial,vc_pathD [.ret (dI (ordI l[q].id id))] ?_⟩
  by_cases q5:l[q].id<id
  ·have q6:ordI l[q].id id<0:=ordI_lt.2 q5
   simp [hm,q6,e5]
   refine⟨k1,rfl,q+1,j,⟨by omega,h2,fun k hk hkq=>?_,fun k hk hj=>by have:=h4 k hk hj;omega⟩,by omega,[],[],?_⟩
   ·by_cases e:k=q
    ·subst e;exact q5
    ·have:=okRun_lt hl k q hk hm (by omega);omega
   ·simp
  ·have q6:¬ ordI l[q].id id<0:=fun h=>q5 (ordI_lt.1 h)
   simp [hm,q6,e5]
   refine⟨k1,rfl,i,q,⟨by omega,by omega,h3,fun k hk hkq=>?_⟩,by omega,[],[],?_⟩
   ·by_cases e:k=q
    ·subst e;omega
    ·have:=okRun_lt hl q k hm hk (by omega);omega
   ·simp
 ·have:i=j:=by omega
  subst this
  have hp:=posL_uniq hl h2 h3 h4
  rw [← hp]
  have hh:hasL l id=(match l[i]? with | some s=>decide (s.id=id) | none=>false):=by rw [hp];rfl
  rw [hh]
  by_cases hi:i<l.length
  ·have k1:=C522b.cmp (id:=id) l[i]
   refine vc_pathD [.ret (dI (ordI l[i].id id))] ?_
   simp [hi]
   have hq:(ordI l[i].id id == 0)=decide (l[i].id=id):=by
    rw [Bool.eq_iff_iff];simp [ordI_eq]
   exact⟨k1,rfl,leD_of_eq (by simp [hq,hi])⟩
  ·have hi':¬ (i:Int)<l.length:=by omega
   refine vc_pathD [] ?_
   simp [hi,hi']
   rfl
inductive C523:FuncId→List D→Out→Prop
 | need_t (n:Int):C523 101 [dB true,dI n] (.ret (.tup []))
 | need_f (n:Int):C523 101 [dB false,dI n] (.pan (tE n))
 | right (x:Sp):C523 102 [dSp x] (.ret (dB (okSp x)))
 | time (n:Int):C523 111 [dI n] (.ret (dB (okTm n)))
 | ck (l:List Sp):C523 58 [.sl 3 (l.map dSp)] (oD (dispE l))
 | kinds:C523 59 [] (.retM kMapD)
 | search (l:List Sp) (id m:Int) (hl:okRun m l=true) (hlen:l.length≤100000):C523 112 [.sl 3 (l.map dSp),.agg [],.fn (.func 113) [dI id] []] (.ret (.tup [dI (posL l id),dB (hasL l id)]))
theorem h523:∀ f ds out,C523 f ds out→PCall Tryz.prog f ds out:=by
 intro f ds out h
 cases h with
 | need_t n=>exact dNeed_t n
 | need_f n=>exact dNeed_f n
 | right x=>exact dRight x
 | time x=>exact dTime x
 | ck l=>exact dCheck l
 | kinds=>exact dKinds
 | search l id m hl hlen=>exact dSearch l id m hl hlen
theorem free2(a b:Value):Free (.tup [.lit a,.lit b]):=.tup (by simp;exact⟨.lit _,.lit _⟩)
theorem elsD_sps(l:List Sp):elsD 3 l.length (D.flat (l.map dSp))=l.map dSp:=by
 induction l with
 | nil=>rfl
 | cons a r ih =>
  have hl:=dSp_len a
  have e:D.flat ((a::r).map dSp)=(dSp a).cells++D.flat (r.map dSp):=rfl
  simp only [elsD] at ih ⊢
  rw [if_neg (by omega)] at ih ⊢
  rw [e,List.length_cons,chunkD,List.take_left' hl,List.drop_left' hl,ih]
  rfl
theorem elsD_sp1(p:Sp) (r:List Sp):elsD 3 (r.length+1) (D.flat (dSp p::r.map dSp))=dSp p::r.map dSp:=elsD_sps (p::r)
theorem flat_sps(l:List Sp):(D.flat (l.map dSp)).length=l.length*3:=by
 have:=flat_len (es:=l.map dSp) (sz:=3) (fun e he=>by
  obtain⟨p,_,rfl⟩:=List.mem_map.1 he
  exact dSp_len p)
 simpa using this
theorem map_eraseIdx'{α β:Type}(f:α→β) (l:List α) (k:Nat):(l.map f).eraseIdx k=(l.eraseIdx k).map f:=by
 induction l generalizing k with
 | nil=>rfl
 | cons a r ih=>cases k with
  | zero=>rfl
  | succ k=>simp [ih]
theorem hasL_get{l:List Sp}{id:Int}(h:hasL l id=true):∃ hp:posL l id<l.length,l[posL l id].id=id:=by
 unfold hasL at h
 split at h
 ·rename_i s hs
  obtain⟨hp,he⟩:=List.getElem?_eq_some_iff.1 hs
  exact⟨hp,by rw [he];simpa using h⟩
 ·cases h
theorem hasL_no{l:List Sp}{c:Ch}(h:hasL l c.sp.id=false) (hk:c.kind≠1):fitsL l c=false:=by
 unfold hasL at h
 unfold fitsL
 rw [if_neg hk]
 split at h
 ·rename_i s hs
  have h:s.id≠c.sp.id:=by simpa using h
  rw [hs]
  split
  ·simp;rintro rfl;exact h rfl
  ·simp [h]
 ·rename_i hn
  rw [hn];split <;> simp
theorem dDo(l:List Sp) (c:Ch):PCall Tryz.prog 27 [.sl 3 (l.map dSp),dCh c] (.ret (.tup [.sl 3 ((doDL l c).map dSp),dI (doDE l c)])):=by
 refine pcall_of_vcZ h523 c27 (by simp [a27]) 4 fun hr=>?_
 simp [a27]
 refine regS_path [] ?_
 simp
 have hc:=C523.ck l
 by_cases q:dispE l=0
 case neg =>
  have e1:doDE l c=dispE l:=by simp [doDE,q]
  have e2:doDL l c=[]:=by simp [doDL,e1,q]
  rw [e1,e2]
  refine vc_path [.pan (tE (dispE l))] ?_
  simp [oD,q] at hc ⊢
  refine⟨hc,?_⟩
  refine leave_fn (TR Tryz.prog a57) (dcall_of_vcR c57) ?_
  simp [a57,tE]
 obtain⟨hl1,hl2⟩:=dispE_ok q
 have hfail:(okCh c&&fitsL l c)=false→doDE l c=490∧doDL l c=[]:=fun h=>by
  have e1:doDE l c=490:=by simp only [doDE,q,h];simp
  exact⟨e1,by simp [doDL,e1]⟩
 rw [q] at hc
 simp only [oD,if_true] at hc
 refine vc_path [.ret (.tup [])] ?_
 simp
 refine⟨hc,vc_path [.retM kMapD] ?_⟩
 have hk:(c.kind=1∧((c.kind == 1)=true))∨(c.kind=2∧((c.kind == 1)=false)∧((c.kind == 2)=true))∨(c.kind=3∧((c.kind == 1)=false)∧((c.kind == 2)=false)∧((c.kind == 3)=true))∨(okCh c=false∧((c.kind == 1)=false)∧((c.kind == 2)=false)∧((c.kind == 3)=false)):=by
  by_cases k1:c.kind=1
  ·exact .inl ⟨k1,by simp [k1]⟩
  ·by_cases k2:c.kind=2
   ·exact .inr (.inl ⟨k2,by simp [k2],by simp [k2]⟩)
   ·by_cases k3:c.kind=3
    ·exact .inr (.inr (.inl ⟨k3,by simp [k3],by simp [k3],by simp [k3]⟩))
    ·have:okCh c=false:=by
      rw [Bool.eq_false_iff]
      intro h
      have:=okCh_sp h
      omega
     exact .inr (.inr (.inr ⟨this,by simp [k1],by simp [k2],by simp [k3]⟩))
 have hs:=C523.search l c.sp.id (-1) hl2 (by omega)
 have t1:=C523.time c.at_
 have t2:=C523.right c.sp
 have hok:okCh c=(okTm c.at_&&(decide (1≤c.kind)&&(decide (c.kind≤3)&&okSp c.sp))):=rfl
 rcases hk with ⟨k,e1⟩ | ⟨k,e1,e2⟩ | ⟨k,e1,e2,e3⟩ | ⟨k,e1,e2,e3⟩
 case inr.inr.inr =>
  obtain⟨g1,g2⟩:=hfail (by rw [k];rfl)
  rw [g1,g2]
  simp [kMapD,fnD]
  refine⟨.kinds,regS_path [] ?_⟩
  simp
  refine icall_T (TF Tryz.prog a60) (hcall_of_vc c60) ?_
  simp [a60,e1,e2,e3]
  refine vc_path [.ret (.tup []),.ret (.tup []),.pan (tE 490)] ?_
  simp
  refine⟨.need_f 490,?_⟩
  refine leave_fn (TR Tryz.prog a57) (dcall_of_vcR c57) ?_
  simp [a57,tE]
 case inl =>
  simp [kMapD,fnD]
  refine⟨.kinds,regS_path [] ?_⟩
  simp
  refine icall_T (TF Tryz.prog a60) (hcall_of_vc c60) ?_
  simp [a60,e1]
  by_cases p1:okTm c.at_=true
  case neg =>
   have p1:okTm c.at_=false:=by simpa using p1
   obtain⟨g1,g2⟩:=hfail (by rw [hok,p1];rfl)
   rw [g1,g2]
   rw [p1] at t1
   refine vc_path [.ret (dB false),.ret (.tup []),.pan (tE 490)] ?_
   simp
   refine⟨t1,.need_f 490,?_⟩
   refine leave_fn (TR Tryz.prog a57) (dcall_of_vcR c57) ?_
   simp [a57,tE]
  rw [p1] at t1
  by_cases p2:okSp c.sp=true
  case neg =>
   have p2:okSp c.sp=false:=by simpa using p2
   obtain⟨g1,g2⟩:=hfail (by rw [hok,p2];simp)
   rw [g1,g2]
   rw [p2] at t2
   refine vc_path [.ret (dB true),.ret (dB false),.pan (tE 490)] ?_
   simp
   refine⟨t1,t2,.need_f 490,?_⟩
   refine leave_fn (TR Tryz.prog a57) (dcall_of_vcR c57) ?_
   simp [a57,tE]
  rw [p2] at t2
  have hok1:okCh c=true:=by rw [hok,p1,p2];simp [k]
  refine vc_path [.ret (dB true),.ret (dB true),.ret (.tup [])] ?_
  simp
  refine⟨t1,t2,.need_t 490,?_⟩
  have hfit:fitsL l c=!hasL l c.sp.id:=by simp [fitsL,k]
  cases l with
  | nil =>
   have hfit:fitsL [] c=true:=by simp [hfit,hasL]
   have d1:doDE [] c=0:=by simp [doDE,q,hok1,hfit]
   have d2:doDL [] c=[c.sp]:=by simp [doDL,d1,makeL,k]
   rw [d1,d2]
   have hs:C523 112 [.sl 3 [],.agg [],.fn (.func 113) [dI c.sp.id] []] (.ret (.tup [dI 0,dB false])):=hs
   simp
   refine regK_path [] [] ?_
   simp
   refine⟨rfl,icall_T (TF Tryz.prog a61) (hcall_of_vc c61) ?_⟩
   simp [a61,e1]
   refine vc_path [.ret (.tup [dI 0,dB false])] ?_
   simp
   refine⟨hs,regS_path [.ret (.tup [])] ?_⟩
   simp
   refine icall_T (TF Tryz.prog a103) (hcall_of_vc c103) ?_
   simp [a103]
   refine⟨.need_t 490,regS_path [] ?_⟩
   simp
   refine icall_T (TF Tryz.prog a104) (hcall_of_vc c104) ?_
   simp [a104]
   have hel:elsD 3 1 (D.flat [.agg [.lit (.int .i64 c.sp.id),.lit (.int .i64 c.sp.ver),dZ c.sp.tx]])=[dSp c.sp]:=rfl
   refine⟨by simp [D.flat],vc_path [.ret (.tup [])] ?_⟩
   simp [hel]
   refine⟨.need_t 2,?_⟩
   refine leave_fn (TR Tryz.prog a57) (dcall_of_vcR c57) ?_
   simp [a57]
  | cons x r =>
   have hpl:=(posL_spec hl2 c.sp.id).1
   simp at hs hpl hl1
   have hfl:(r.length+1)*3≤(D.flat (dSp x::r.map dSp)).length:=by rw [show dSp x::r.map dSp=(x::r).map dSp from rfl,flat_sps];simp
   have hel:=elsD_sp1 x r
   cases hh:hasL (x::r) c.sp.id with
   | true =>
    obtain⟨g1,g2⟩:=hfail (by rw [hfit,hh];simp)
    rw [g1,g2]
    rw [hh] at hs
    generalize posL (x::r) c.sp.id=p at *
    simp
    refine regK_path [] [] ?_
    simp
    refine⟨by omega,rfl,icall_T (TF Tryz.prog a61) (hcall_of_vc c61) ?_⟩
    simp [a61,e1]
    refine vc_path [.ret (.tup [dI p,dB true])] ?_
    simp [hfl,hel]
    refine⟨hs,free2 _ _,regS_path [.pan (tE 490)] ?_⟩
    simp
    refine icall_T (TF Tryz.prog a103) (hcall_of_vc c103) ?_
    simp [a103]
    refine⟨.need_f 490,?_⟩
    refine leave_fn (TR Tryz.prog a57) (dcall_of_vcR c57) ?_
    simp [a57,tE]
   | false =>
    have hfit:fitsL (x::r) c=true:=by simp [hfit,hh]
    rw [hh] at hs
    have hmk:makeL (x::r) c=(x::r).take (posL (x::r) c.sp.id)++c.sp::(x::r).drop (posL (x::r) c.sp.id):=by simp [makeL,k]
    have hde:doDE (x::r) c=if (x::r).length=1024 then 2 else 0:=by simp [doDE,q,hok1,hfit,k]
    have hdl:doDL (x::r) c=if (x::r).length=1024 then [] else (x::r).take (posL (x::r) c.sp.id)++c.sp::(x::r).drop (posL (x::r) c.sp.id):=by
     unfold doDL;rw [hde,hmk]
     by_cases e:(x::r).length=1024
     ·rw [if_pos e,if_pos e];rfl
     ·rw [if_neg e,if_neg e];rfl
    have hto:((posL (x::r) c.sp.id:Int)).toNat=posL (x::r) c.sp.id:=by omega
    rw [hde,hdl]
    generalize posL (x::r) c.sp.id=p at *
    have hel1:elsD 3 1 (D.flat [.agg [.lit (.int .i64 c.sp.id),.lit (.int .i64 c.sp.ver),dZ c.sp.tx]])=[dSp c.sp]:=rfl
    refine regK_path [] [] ?_
    simp
    refine⟨by omega,rfl,icall_T (TF Tryz.prog a61) (hcall_of_vc c61) ?_⟩
    simp [a61,e1]
    refine vc_path [.ret (.tup [dI p,dB false])] ?_
    simp [hfl,hel]
    refine⟨hs,free2 _ _,regS_path [.ret (.tup [])] ?_⟩
    simp
    refine icall_T (TF Tryz.prog a103) (hcall_of_vc c103) ?_
    simp [a103]
    refine⟨.need_t 490,regS_path [] ?_⟩
    simp
    refine icall_T (TF Tryz.prog a104) (hcall_of_vc c104) ?_
    simp [a104,hel,hel1]
    have hl3:3≤(D.flat [.agg [.lit (.int .i64 c.sp.id),.lit (.int .i64 c.sp.ver),dZ c.sp.tx]]).length:=by simp [D.flat]
    refine⟨⟨by omega,⟨hfl,hl3⟩,by omega,by omega⟩,?_⟩
    have hmn:((min p (r.length+1):Nat):Int)+(((r.length+1-p:Nat):Int)+1)=(r.length:Int)+2:=by omega
    by_cases e:r.length+1=1024
    ·have e2:¬ (r.length:Int)+2≤1024:=by omega
     refine vc_path [.pan (tE 2)] ?_
     simp [hmn,e2]
     refine⟨.need_f 2,?_⟩
     refine leave_fn (TR Tryz.prog a57) (dcall_of_vcR c57) ?_
     simp [a57,tE,show r.length=1023 by omega]
    ·have e2:(r.length:Int)+2≤1024:=by omega
     refine vc_path [.ret (.tup [])] ?_
     simp [hmn,e2]
     refine⟨.need_t 2,?_⟩
     refine leave_fn (TR Tryz.prog a57) (dcall_of_vcR c57) ?_
     simp [a57,show ¬ r.length=1023 by omega,List.map_take,List.map_drop]
 case inr.inl =>
  simp [kMapD,fnD]
  refine⟨.kinds,regS_path [] ?_⟩
  simp
  refine icall_T (TF Tryz.prog a60) (hcall_of_vc c60) ?_
  simp [a60,e1,e2]
  by_cases p1:okTm c.at_=true
  case neg =>
   have p1:okTm c.at_=false:=by simpa using p1
   obtain⟨g1,g2⟩:=hfail (by rw [hok,p1];rfl)
   rw [g1,g2]
   rw [p1] at t1
   refine vc_path [.ret (dB false),.ret (.tup []),.pan (tE 490)] ?_
   simp
   refine⟨t1,.need_f 490,?_⟩
   refine leave_fn (TR Tryz.prog a57) (dcall_of_vcR c57) ?_
   simp [a57,tE]
  rw [p1] at t1
  by_cases p2:okSp c.sp=true
  case neg =>
   have p2:okSp c.sp=false:=by simpa using p2
   obtain⟨g1,g2⟩:=hfail (by rw [hok,p2];simp)
   rw [g1,g2]
   rw [p2] at t2
   refine vc_path [.ret (dB true),.ret (dB false),.pan (tE 490)] ?_
   simp
   refine⟨t1,t2,.need_f 490,?_⟩
   refine leave_fn (TR Tryz.prog a57) (dcall_of_vcR c57) ?_
   simp [a57,tE]
  rw [p2] at t2
  have hok1:okCh c=true:=by rw [hok,p1,p2];simp [k]
  refine vc_path [.ret (dB true),.ret (dB true),.ret (.tup [])] ?_
  simp
  refine⟨t1,t2,.need_t 490,?_⟩
  cases l with
  | nil =>
   obtain⟨g1,g2⟩:=hfail (by rw [show fitsL [] c=false by simp [fitsL,k]];simp)
   rw [g1,g2]
   have hs:C523 112 [.sl 3 [],.agg [],.fn (.func 113) [dI c.sp.id] []] (.ret (.tup [dI 0,dB false])):=hs
   simp
   refine regK_path [] [] ?_
   simp
   refine⟨rfl,icall_T (TF Tryz.prog a61) (hcall_of_vc c61) ?_⟩
   simp [a61,e1,e2]
   refine vc_path [.ret (.tup [dI 0,dB false])] ?_
   simp
   refine⟨hs,regS_path [.pan (tE 490)] ?_⟩
   simp
   refine icall_T (TF Tryz.prog a106) (hcall_of_vc c106) ?_
   simp [a106]
   refine vc_pathD [] ?_
   simp
   refine⟨rfl,.need_f 490,?_⟩
   refine leave_fn (TR Tryz.prog a57) (dcall_of_vcR c57) ?_
   simp [a57,tE]
  | cons x r =>
   have hpl:=(posL_spec hl2 c.sp.id).1
   simp at hs hpl hl1
   have hfl:(r.length+1)*3≤(D.flat (dSp x::r.map dSp)).length:=by rw [show dSp x::r.map dSp=(x::r).map dSp from rfl,flat_sps];simp
   have hel:=elsD_sp1 x r
   cases hh:hasL (x::r) c.sp.id with
   | false =>
    obtain⟨g1,g2⟩:=hfail (by rw [hasL_no hh (by omega)];simp)
    rw [g1,g2]
    rw [hh] at hs
    generalize posL (x::r) c.sp.id=p at *
    simp
    refine regK_path [] [] ?_
    simp
    refine⟨by omega,rfl,icall_T (TF Tryz.prog a61) (hcall_of_vc c61) ?_⟩
    simp [a61,e1,e2]
    refine vc_path [.ret (.tup [dI p,dB false])] ?_
    simp [hfl,hel]
    refine⟨hs,free2 _ _,regS_path [.pan (tE 490)] ?_⟩
    simp
    refine icall_T (TF Tryz.prog a106) (hcall_of_vc c106) ?_
    simp [a106]
    refine vc_pathD [] ?_
    simp
    refine⟨rfl,.need_f 490,?_⟩
    refine leave_fn (TR Tryz.prog a57) (dcall_of_vcR c57) ?_
    simp [a57,tE]
   | true =>
    rw [hh] at hs
    obtain⟨hp,hid⟩:=hasL_get hh
    have hpi:posL (x::r) c.sp.id<r.length+1:=hp
    have hmk:makeL (x::r) c=(x::r).eraseIdx (posL (x::r) c.sp.id):=by simp [makeL,k]
    have hto:((posL (x::r) c.sp.id:Int)).toNat=posL (x::r) c.sp.id:=by omega
    have hde:doDE (x::r) c=if fitsL (x::r) c=true then 0 else 490:=by
     unfold doDE
     rw [if_neg (by rw [q];simp),hok1,Bool.true_and]
     cases fitsL (x::r) c <;> simp [k]
    have hdl:doDL (x::r) c=if fitsL (x::r) c=true then makeL (x::r) c else []:=by
     unfold doDL;rw [hde]
     cases fitsL (x::r) c <;> simp
    rw [hmk] at hdl
    generalize hp0:posL (x::r) c.sp.id=p at *
    obtain⟨S,hS⟩:∃ S,S=(x::r)[p]:=⟨_,rfl⟩
    rw [← hS] at hid
    have hgetS:(x::r)[p]?=some S:=by rw [hS];exact List.getElem?_eq_getElem hp
    have hgetD:(dSp x::r.map dSp)[p]?=some (dSp S):=by rw [show dSp x::r.map dSp=(x::r).map dSp from rfl,List.getElem?_map,hgetS];rfl
    have hz:∀ e∈dSp x::r.map dSp,e.cells.length=3:=fun e he=>by
     rw [show dSp x::r.map dSp=(x::r).map dSp from rfl] at he
     obtain⟨y,_,rfl⟩:=List.mem_map.1 he
     exact dSp_len y
    have hwt:((wr (dSp x::r.map dSp)).drop (p*3)).take 3=[.d (.lit (.int .i64 S.id)),.d (.lit (.int .i64 S.ver)),.d (dZ S.tx)]:=wr_take hz hgetD
    have hw1:(wr (dSp x::r.map dSp))[p*3+1]?=some (.d (.lit (.int .i64 S.ver))):=wr_get hz hgetD (d:=.lit (.int .i64 S.ver)) rfl
    have heq:eqB [.lit (.int .i64 S.id),.lit (.int .i64 S.ver),dZ S.tx] [.lit (.int .i64 c.sp.id),.lit (.int .i64 c.sp.ver),dZ c.sp.tx]=decide (S=c.sp):=eqB_sp S c.sp
    have hec:eqC [.int .i64,.int .i64,.str] [.lit (.int .i64 S.id),.lit (.int .i64 S.ver),dZ S.tx] [.lit (.int .i64 c.sp.id),.lit (.int .i64 c.sp.ver),dZ c.sp.tx]=True:=by simp [eqC,dZ]
    have hfl3:p*3+3≤(D.flat (dSp x::r.map dSp)).length:=by omega
    have hfl4:p*3+1+1≤(D.flat (dSp x::r.map dSp)).length:=by omega
    have hpI:(p:Int)<(r.length:Int)+1:=by omega
    rw [hde,hdl]
    have hft:fitsL (x::r) c=decide (S=c.sp):=by
     unfold fitsL
     rw [hp0,hgetS]
     simp [k,hid]
    rw [hft]
    simp
    refine regK_path [] [] ?_
    simp
    refine⟨by omega,rfl,icall_T (TF Tryz.prog a61) (hcall_of_vc c61) ?_⟩
    simp [a61,e1,e2]
    refine vc_path [.ret (.tup [dI p,dB true])] ?_
    simp [hfl,hel]
    by_cases hS2:S=c.sp
    case neg =>
     have hb:decide (S=c.sp)=false:=by simp [hS2]
     rw [hb] at heq
     refine⟨hs,free2 _ _,regS_path [.pan (tE 490)] ?_⟩
     simp
     refine icall_T (TF Tryz.prog a106) (hcall_of_vc c106) ?_
     simp [a106]
     refine vc_pathD [] ?_
     simp [hto,hpI,hfl3,hwt,heq,hec]
     refine⟨rfl,.need_f 490,?_⟩
     refine leave_fn (TR Tryz.prog a57) (dcall_of_vcR c57) ?_
     simp [a57,tE,hS2]
    have hb:decide (S=c.sp)=true:=by simp [hS2]
    rw [hb] at heq
    refine⟨hs,free2 _ _,regS_path [.ret (.tup [])] ?_⟩
    simp
    refine icall_T (TF Tryz.prog a106) (hcall_of_vc c106) ?_
    simp [a106]
    refine vc_pathD [] ?_
    simp [hto,hpI,hfl3,hwt,heq,hec]
    refine⟨rfl,.need_t 490,regS_path [] ?_⟩
    simp
    refine icall_T (TF Tryz.prog a107) (hcall_of_vc c107) ?_
    simp [a107]
    have hw1:IntKind.i64.wrap ((p:Int)+1)=(p:Int)+1:=wrap64 (by omega)
    have hle:((dSp x::r.map dSp).eraseIdx p).length=r.length:=by rw [List.length_eraseIdx,if_pos (by simp;omega)];simp
    have hl4:(r.length:Int)≤1024:=by omega
    refine⟨⟨⟨hpI,hw1⟩,hfl⟩,vc_path [.ret (.tup [])] ?_⟩
    simp [hel,hle,hl4]
    refine⟨.need_t 2,?_⟩
    refine leave_fn (TR Tryz.prog a57) (dcall_of_vcR c57) ?_
    simp [a57,hS2,hto]
    exact leD_of_eq (by rw [show dSp x::r.map dSp=(x::r).map dSp from rfl,map_eraseIdx'])
 case inr.inr.inl =>
  simp [kMapD,fnD]
  refine⟨.kinds,regS_path [] ?_⟩
  simp
  refine icall_T (TF Tryz.prog a60) (hcall_of_vc c60) ?_
  simp [a60,e1,e2,e3]
  by_cases p1:okTm c.at_=true
  case neg =>
   have p1:okTm c.at_=false:=by simpa using p1
   obtain⟨g1,g2⟩:=hfail (by rw [hok,p1];rfl)
   rw [g1,g2]
   rw [p1] at t1
   refine vc_path [.ret (dB false),.ret (.tup []),.pan (tE 490)] ?_
   simp
   refine⟨t1,.need_f 490,?_⟩
   refine leave_fn (TR Tryz.prog a57) (dcall_of_vcR c57) ?_
   simp [a57,tE]
  rw [p1] at t1
  by_cases p2:okSp c.sp=true
  case neg =>
   have p2:okSp c.sp=false:=by simpa using p2
   obtain⟨g1,g2⟩:=hfail (by rw [hok,p2];simp)
   rw [g1,g2]
   rw [p2] at t2
   refine vc_path [.ret (dB true),.ret (dB false),.pan (tE 490)] ?_
   simp
   refine⟨t1,t2,.need_f 490,?_⟩
   refine leave_fn (TR Tryz.prog a57) (dcall_of_vcR c57) ?_
   simp [a57,tE]
  rw [p2] at t2
  have hok1:okCh c=true:=by rw [hok,p1,p2];simp [k]
  refine vc_path [.ret (dB true),.ret (dB true),.ret (.tup [])] ?_
  simp
  refine⟨t1,t2,.need_t 490,?_⟩
  cases l with
  | nil =>
   obtain⟨g1,g2⟩:=hfail (by rw [show fitsL [] c=false by simp [fitsL,k]];simp)
   rw [g1,g2]
   have hs:C523 112 [.sl 3 [],.agg [],.fn (.func 113) [dI c.sp.id] []] (.ret (.tup [dI 0,dB false])):=hs
   simp
   refine regK_path [] [] ?_
   simp
   refine⟨rfl,icall_T (TF Tryz.prog a61) (hcall_of_vc c61) ?_⟩
   simp [a61,e1,e2,e3]
   refine vc_path [.ret (.tup [dI 0,dB false])] ?_
   simp
   refine⟨hs,regS_path [.pan (tE 490)] ?_⟩
   simp
   refine icall_T (TF Tryz.prog a109) (hcall_of_vc c109) ?_
   simp [a109]
   refine vc_pathD [] ?_
   simp
   refine⟨rfl,.need_f 490,?_⟩
   refine leave_fn (TR Tryz.prog a57) (dcall_of_vcR c57) ?_
   simp [a57,tE]
  | cons x r =>
   have hpl:=(posL_spec hl2 c.sp.id).1
   simp at hs hpl hl1
   have hfl:(r.length+1)*3≤(D.flat (dSp x::r.map dSp)).length:=by rw [show dSp x::r.map dSp=(x::r).map dSp from rfl,flat_sps];simp
   have hel:=elsD_sp1 x r
   cases hh:hasL (x::r) c.sp.id with
   | false =>
    obtain⟨g1,g2⟩:=hfail (by rw [hasL_no hh (by omega)];simp)
    rw [g1,g2]
    rw [hh] at hs
    generalize posL (x::r) c.sp.id=p at *
    simp
    refine regK_path [] [] ?_
    simp
    refine⟨by omega,rfl,icall_T (TF Tryz.prog a61) (hcall_of_vc c61) ?_⟩
    simp [a61,e1,e2,e3]
    refine vc_path [.ret (.tup [dI p,dB false])] ?_
    simp [hfl,hel]
    refine⟨hs,free2 _ _,regS_path [.pan (tE 490)] ?_⟩
    simp
    refine icall_T (TF Tryz.prog a109) (hcall_of_vc c109) ?_
    simp [a109]
    refine vc_pathD [] ?_
    simp
    refine⟨rfl,.need_f 490,?_⟩
    refine leave_fn (TR Tryz.prog a57) (dcall_of_vcR c57) ?_
    simp [a57,tE]
   | true =>
    rw [hh] at hs
    obtain⟨hp,hid⟩:=hasL_get hh
    have hpi:posL (x::r) c.sp.id<r.length+1:=hp
    have hmk:makeL (x::r) c=(x::r).set (posL (x::r) c.sp.id) c.sp:=by simp [makeL,k]
    have hto:((posL (x::r) c.sp.id:Int)).toNat=posL (x::r) c.sp.id:=by omega
    have hde:doDE (x::r) c=if fitsL (x::r) c=true then 0 else 490:=by
     unfold doDE
     rw [if_neg (by rw [q];simp),hok1,Bool.true_and]
     cases fitsL (x::r) c <;> simp [k]
    have hdl:doDL (x::r) c=if fitsL (x::r) c=true then makeL (x::r) c else []:=by
     unfold doDL;rw [hde]
     cases fitsL (x::r) c <;> simp
    rw [hmk] at hdl
    generalize hp0:posL (x::r) c.sp.id=p at *
    obtain⟨S,hS⟩:∃ S,S=(x::r)[p]:=⟨_,rfl⟩
    rw [← hS] at hid
    have hgetS:(x::r)[p]?=some S:=by rw [hS];exact List.getElem?_eq_getElem hp
    have hgetD:(dSp x::r.map dSp)[p]?=some (dSp S):=by rw [show dSp x::r.map dSp=(x::r).map dSp from rfl,List.getElem?_map,hgetS];rfl
    have hz:∀ e∈dSp x::r.map dSp,e.cells.length=3:=fun e he=>by
     rw [show dSp x::r.map dSp=(x::r).map dSp from rfl] at he
     obtain⟨y,_,rfl⟩:=List.mem_map.1 he
     exact dSp_len y
    have hwt:((wr (dSp x::r.map dSp)).drop (p*3)).take 3=[.d (.lit (.int .i64 S.id)),.d (.lit (.int .i64 S.ver)),.d (dZ S.tx)]:=wr_take hz hgetD
    have hw1:(wr (dSp x::r.map dSp))[p*3+1]?=some (.d (.lit (.int .i64 S.ver))):=wr_get hz hgetD (d:=.lit (.int .i64 S.ver)) rfl
    have heq:eqB [.lit (.int .i64 S.id),.lit (.int .i64 S.ver),dZ S.tx] [.lit (.int .i64 c.sp.id),.lit (.int .i64 c.sp.ver),dZ c.sp.tx]=decide (S=c.sp):=eqB_sp S c.sp
    have hec:eqC [.int .i64,.int .i64,.str] [.lit (.int .i64 S.id),.lit (.int .i64 S.ver),dZ S.tx] [.lit (.int .i64 c.sp.id),.lit (.int .i64 c.sp.ver),dZ c.sp.tx]=True:=by simp [eqC,dZ]
    have hfl3:p*3+3≤(D.flat (dSp x::r.map dSp)).length:=by omega
    have hfl4:p*3+1+1≤(D.flat (dSp x::r.map dSp)).length:=by omega
    have hpI:(p:Int)<(r.length:Int)+1:=by omega
    rw [hde,hdl]
    have hft:fitsL (x::r) c=decide (S.ver≠c.sp.ver):=by
     unfold fitsL
     rw [hp0,hgetS]
     simp [k,hid]
    rw [hft]
    simp
    refine regK_path [] [] ?_
    simp
    refine⟨by omega,rfl,icall_T (TF Tryz.prog a61) (hcall_of_vc c61) ?_⟩
    simp [a61,e1,e2,e3]
    refine vc_path [.ret (.tup [dI p,dB true])] ?_
    simp [hfl,hel]
    by_cases hS2:S.ver≠c.sp.ver
    case neg =>
     have hb:(S.ver != c.sp.ver)=false:=by simpa using hS2
     refine⟨hs,free2 _ _,regS_path [.pan (tE 490)] ?_⟩
     simp
     refine icall_T (TF Tryz.prog a109) (hcall_of_vc c109) ?_
     simp [a109]
     refine vc_pathD [] ?_
     simp [hto,hpI,hfl4,hw1,hb]
     refine⟨rfl,.need_f 490,?_⟩
     refine leave_fn (TR Tryz.prog a57) (dcall_of_vcR c57) ?_
     simp [a57,tE,show S.ver=c.sp.ver by simpa using hS2]
    have hb:(S.ver != c.sp.ver)=true:=by simpa using hS2
    refine⟨hs,free2 _ _,regS_path [.ret (.tup [])] ?_⟩
    simp
    refine icall_T (TF Tryz.prog a109) (hcall_of_vc c109) ?_
    simp [a109]
    refine vc_pathD [] ?_
    simp [hto,hpI,hfl4,hw1,hb]
    refine⟨rfl,.need_t 490,regS_path [] ?_⟩
    simp
    refine icall_T (TF Tryz.prog a110) (hcall_of_vc c110) ?_
    simp [a110]
    have hl4:(r.length:Int)+1≤1024:=by omega
    refine⟨hpI,hfl3,vc_path [.ret (.tup [])] ?_⟩
    simp [hl4]
    refine⟨.need_t 2,?_⟩
    refine leave_fn (TR Tryz.prog a57) (dcall_of_vcR c57) ?_
    have hws:(((wr (dSp x::r.map dSp)).set (p*3) (.d (.lit (.int .i64 c.sp.id)))).set (p*3+1) (.d (.lit (.int .i64 c.sp.ver)))).set (p*3+1+1) (.d (dZ c.sp.tx))=wr (((x::r).set p c.sp).map dSp):=by
     rw [List.map_set]
     exact wr_set3 hz (by simp;omega)
    have hln:((x::r).set p c.sp).length=r.length+1:=by simp
    have hel2:=elsD_sps ((x::r).set p c.sp)
    have hfl2:=flat_sps ((x::r).set p c.sp)
    rw [hln] at hel2 hfl2
    have hst:(dSp x::r.map dSp).set p (dSp c.sp)=((x::r).set p c.sp).map dSp:=by rw [List.map_set];rfl
    simp [a57,hS2]
    rw [hws,allD_wr,hst]
    simp only [hel2,hfl2]
    exact⟨Nat.le_refl _,LeD.refl _⟩
end

section
def rD (c:Ch):Bool→List Sp→List Sp
 | done,[]=>if done then [] else [c.sp]
 | done,x::r=>(if done=false∧c.sp.id≤x.id then [c.sp] else [])++((if x.id=c.sp.id then [] else [x])++rD c (done||decide (c.sp.id≤x.id)) r)
theorem rD_true(c:Ch) (l:List Sp):rD c true l=l.filter fun x=>decide (x.id≠c.sp.id):=by
 induction l with
 | nil=>rfl
 | cons x r ih =>
  rw [rD,Bool.true_or,ih]
  by_cases h:x.id=c.sp.id <;> simp [h]
theorem filt_all{l:List Sp}{id n:Int}(h:okRun n l=true) (hn:id≤n):(l.filter fun x=>decide (x.id≠id))=l:=by
 rw [List.filter_eq_self]
 intro x hx
 have:=okRun_gt h x hx
 simp;omega
theorem filt_hd{x:Sp}{r:List Sp}{id n:Int}(h:okRun n (x::r)=true) (hx:id≤x.id):((x::r).filter fun x=>decide (x.id≠id))=if x.id=id then r else x::r:=by
 rw [okRun_cons] at h
 rw [List.filter_cons,filt_all h.2.2 hx]
 by_cases e:x.id=id <;> simp [e]
theorem posL_lt{x:Sp}{r:List Sp}{id:Int}(h:x.id<id):posL (x::r) id=posL r id+1:=by
 unfold posL;rw [List.takeWhile_cons_of_pos (by simpa using h)];rfl
theorem posL_ge{x:Sp}{r:List Sp}{id:Int}(h:¬ x.id<id):posL (x::r) id=0:=by
 unfold posL;rw [List.takeWhile_cons_of_neg (by simpa using h)];rfl
theorem hasL_lt{x:Sp}{r:List Sp}{id:Int}(h:x.id<id):hasL (x::r) id=hasL r id:=by
 unfold hasL;rw [posL_lt h];rfl
theorem hasL_ge{x:Sp}{r:List Sp}{id:Int}(h:¬ x.id<id):hasL (x::r) id=decide (x.id=id):=by
 unfold hasL;rw [posL_ge h];rfl
theorem rD_false(c:Ch){l:List Sp}{n:Int}(h:okRun n l=true):rD c false l=l.take (posL l c.sp.id)++c.sp::(if hasL l c.sp.id then l.drop (posL l c.sp.id+1) else l.drop (posL l c.sp.id)):=by
 induction l generalizing n with
 | nil=>rfl
 | cons x r ih =>
  have h':=h
  rw [okRun_cons] at h
  by_cases hx:x.id<c.sp.id
  ·rw [posL_lt hx,hasL_lt hx,rD,if_neg (by omega),if_neg (by omega),show decide (c.sp.id≤x.id)=false by simp;omega,Bool.or_false,ih h.2.2]
   rfl
  ·rw [posL_ge hx,hasL_ge hx,rD,if_pos ⟨rfl,by omega⟩,show decide (c.sp.id≤x.id)=true by simp;omega,Bool.or_true,rD_true,filt_all h.2.2 (by omega)]
   by_cases e:x.id=c.sp.id <;> simp [e]
theorem filt_erase{l:List Sp}{n id:Int}(h:okRun n l=true) (hh:hasL l id=true):(l.filter fun x=>decide (x.id≠id))=l.eraseIdx (posL l id):=by
 induction l generalizing n with
 | nil=>rfl
 | cons x r ih =>
  have h':=h
  rw [okRun_cons] at h
  by_cases hx:x.id<id
  ·rw [hasL_lt hx] at hh
   rw [posL_lt hx,List.eraseIdx_cons_succ,List.filter_cons_of_pos (by simp;omega),ih h.2.2 hh]
  ·rw [hasL_ge hx] at hh
   have hh:x.id=id:=by simpa using hh
   rw [posL_ge hx,List.eraseIdx_cons_zero,filt_hd h' (by omega),if_pos hh]
theorem set_at{l:List Sp}{p:Nat}(h:p<l.length) (x:Sp):l.set p x=l.take p++x::l.drop (p+1):=by
 rw [List.set_eq_take_append_cons_drop,if_pos h]
theorem hasL_lt_len{l:List Sp}{id:Int}(h:hasL l id=true):posL l id<l.length:=by
 unfold hasL at h
 split at h
 ·rename_i s hs;exact(List.getElem?_eq_some_iff.1 hs).1
 ·cases h
theorem fitsL_has{l:List Sp}{c:Ch}(hk:c.kind≠1) (hf:fitsL l c=true):hasL l c.sp.id=true:=by
 unfold fitsL at hf
 unfold hasL
 rw [if_neg hk] at hf
 split at hf
 ·have hf:l[posL l c.sp.id]?=some c.sp:=of_decide_eq_true hf
  rw [hf];simp
 ·split at hf
  ·rename_i s hs
   rw [Bool.and_eq_true] at hf
   first | exact hf.1 | (rw [hs];exact hf.1)
  ·cases hf
theorem rD_make{l:List Sp}{c:Ch}{n:Int}(h:okRun n l=true) (hf:fitsL l c=true):rD c (decide (c.kind=2)) l=makeL l c:=by
 by_cases k1:c.kind=1
 ·have hh:hasL l c.sp.id=false:=by simpa [fitsL,k1] using hf
  rw [show decide (c.kind=2)=false by simp [k1],rD_false c h,hh]
  simp [makeL,k1]
 ·have hh:=fitsL_has k1 hf
  by_cases k2:c.kind=2
  ·rw [show decide (c.kind=2)=true by simp [k2],rD_true,filt_erase h hh]
   simp [makeL,k2]
  ·rw [show decide (c.kind=2)=false by simp [k2],rD_false c h,hh,if_pos rfl]
   simp [makeL,k1,k2]
   rw [set_at (hasL_lt_len hh)]
end

section
attribute [local simp] dZ_agg dZ_nt dZ_noTup dZ_cells dZ_one bz_toList bz_size strV dSp_cells dSp_isAgg dSp_noTup dSp_nt dCh_cells dCh_isAgg dCh_noTup dCh_nt
set_option maxRecDepth 8000
set_option maxHeartbeats 4000000
def findI (l:List Sp) (id:Int):Int:=if hasL l id then posL l id else -1
theorem rFindD(l:List Sp) (id m:Int) (hl:okRun m l=true):PCall Tryz.prog 135 [.sl 3 (l.map dSp),dI id] (.ret (dI (findI l id))):=by
 refine pcall_of_vc noC c135 (by simp [a135]) fun hr=>?_
 have hlen:=(hr (.sl 3 (l.map dSp)) (by simp)).sl.1
 simp at hlen
 simp [a135]
 obtain⟨q1,q2⟩:=posL_spec hl id
 refine vc_loopK [0,1] Nat (fun i=>[(5,true,.d (dI i))]) (fun _=>[]) (fun i=>i≤l.length∧∀ j,(h:j<i)→(h2:j<l.length)→l[j].id≠id) (fun i=>l.length-i) 0 (by simp) ⟨[],[],?_⟩ (fun i hi=>?_)
 ·simp
 obtain⟨h1,h2⟩:=hi
 simp
 refine⟨fun hlt=>?_,fun hge=>?_⟩
 ·simp [hlt]
  refine⟨fun he=>leD_of_eq ?_,fun hne=>⟨i+1,⟨by omega,fun j hj hj2=>?_⟩,by omega,[],[],?_⟩⟩
  ·have hp:i=posL l id:=posL_uniq hl (by omega) (fun k hk hki=>by have:=okRun_lt hl k i hk hlt hki;omega) (fun k hk hik=>by
    rcases Nat.lt_or_ge i k with h' | h'
    ·have:=okRun_lt hl i k hlt hk h';omega
    ·have:k=i:=by omega
     subst this;omega)
   have hh:hasL l id=true:=(hasL_iff hl id).2 ⟨l[i],List.getElem_mem hlt,he⟩
   rw [findI,hh,if_pos rfl,← hp]
  ·by_cases e:j=i
   ·subst e;exact hne
   ·exact h2 j (by omega) hj2
  ·rw [wrap64 (by omega)];simp
 ·have hh:hasL l id=false:=by
   rw [Bool.eq_false_iff]
   intro h
   obtain⟨x,hx,he⟩:=(hasL_iff hl id).1 h
   obtain⟨j,hj,rfl⟩:=List.getElem_of_mem hx
   exact h2 j (by omega) hj he
  exact leD_of_eq (by rw [findI,hh];rfl)
inductive C525:FuncId→List D→Out→Prop
 | find (l:List Sp) (id m:Int) (hl:okRun m l=true):C525 135 [.sl 3 (l.map dSp),dI id] (.ret (dI (findI l id)))
theorem h525:∀ f ds out,C525 f ds out→PCall Tryz.prog f ds out:=by
 intro f ds out h
 cases h with
 | find l id m hl=>exact rFindD l id m hl
theorem rFitsD(l:List Sp) (c:Ch) (m:Int) (hl:okRun m l=true) (hlen:l.length≤100000) (hc:okCh c=true):PCall Tryz.prog 100 [.sl 3 (l.map dSp),dCh c] (.ret (dB (fitsL l c))):=by
 refine pcall_of_vc h525 c100 (by simp [a100]) fun hr=>?_
 simp [a100]
 have k1:=C525.find l c.sp.id m hl
 obtain⟨_,c1,c3⟩:=okCh_sp hc
 refine vc_path [.ret (dI (findI l c.sp.id))] ?_
 simp
 refine⟨k1,fun e1=>leD_of_eq ?_,fun e1=>⟨fun e2=>?_,fun e2=>?_⟩⟩
 ·unfold fitsL findI
  rw [if_pos e1]
  cases hasL l c.sp.id <;> simp
 ·cases hh:hasL l c.sp.id with
  | false =>
   have e3:findI l c.sp.id=-1:=by rw [findI,hh];rfl
   rw [e3,hasL_no hh e1]
   refine vc_pathD [] ?_
   simp
   rfl
  | true =>
   obtain⟨hp,hid⟩:=hasL_get hh
   have e3:findI l c.sp.id=(posL l c.sp.id:Nat):=by rw [findI,hh];rfl
   have e4:fitsL l c=decide (l[posL l c.sp.id]=c.sp):=by
    unfold fitsL;rw [if_neg e1,if_pos e2,List.getElem?_eq_getElem hp];simp
   rw [e3,e4]
   generalize posL l c.sp.id=p at *
   have heq:eqB [.lit (.int .i64 l[p].id),.lit (.int .i64 l[p].ver),dZ l[p].tx] [.lit (.int .i64 c.sp.id),.lit (.int .i64 c.sp.ver),dZ c.sp.tx]=decide (l[p]=c.sp):=eqB_sp l[p] c.sp
   have hec:eqC [.int .i64,.int .i64,.str] [.lit (.int .i64 l[p].id),.lit (.int .i64 l[p].ver),dZ l[p].tx] [.lit (.int .i64 c.sp.id),.lit (.int .i64 c.sp.ver),dZ c.sp.tx]=True:=by simp [eqC,dZ]
   refine vc_pathD [] ?_
   simp [hp,heq,hec,dSp]
   rfl
 ·cases hh:hasL l c.sp.id with
  | false =>
   have e3:findI l c.sp.id=-1:=by rw [findI,hh];rfl
   rw [e3,hasL_no hh e1]
   refine vc_pathD [] ?_
   simp
   rfl
  | true =>
   obtain⟨hp,hid⟩:=hasL_get hh
   have e3:findI l c.sp.id=(posL l c.sp.id:Nat):=by rw [findI,hh];rfl
   have e4:fitsL l c=(l[posL l c.sp.id].ver != c.sp.ver):=by
    unfold fitsL;rw [if_neg e1,if_neg e2,List.getElem?_eq_getElem hp];simp [hid]
    rw [Bool.eq_iff_iff];simp
   rw [e3,e4]
   generalize posL l c.sp.id=p at *
   refine vc_pathD [] ?_
   simp [hp,dSp]
   rfl
inductive C525b:FuncId→List D→Out→Prop
 | ck (l:List Sp):C525b 98 [.sl 3 (l.map dSp)] (.ret (dI (dispE l)))
 | right (c:Ch):C525b 99 [dCh c] (.ret (dB (okCh c)))
 | fits (l:List Sp) (c:Ch) (m:Int) (hl:okRun m l=true) (hlen:l.length≤100000) (hc:okCh c=true):C525b 100 [.sl 3 (l.map dSp),dCh c] (.ret (dB (fitsL l c)))
theorem h525b:∀ f ds out,C525b f ds out→PCall Tryz.prog f ds out:=by
 intro f ds out h
 cases h with
 | ck l=>exact rCheckD l
 | right c=>exact rRightC c
 | fits l c m hl hlen hc=>exact rFitsD l c m hl hlen hc
theorem rDoD(l:List Sp) (c:Ch):PCall Tryz.prog 53 [.sl 3 (l.map dSp),dCh c] (.ret (.tup [.sl 3 ((doDL l c).map dSp),dI (doDE l c)])):=by
 refine pcall_of_vc h525b c53 (by simp [a53]) fun hr=>?_
 have hlen:=(hr (.sl 3 (l.map dSp)) (by simp)).sl.1
 simp at hlen
 simp [a53]
 refine vc_path [.ret (dI (dispE l))] ?_
 simp
 refine⟨.ck l,fun q=>?_,fun q=>?_⟩
 ·have e1:doDE l c=dispE l:=by simp [doDE,q]
  have e2:doDL l c=[]:=by simp [doDL,e1,q]
  rw [e1,e2]
  exact⟨leD_nil0 _ _,LeD.refl _⟩
 obtain⟨hl1,hl2⟩:=dispE_ok q
 have k1:=C525b.right c
 have hfail:(okCh c&&fitsL l c)=false→doDE l c=490∧doDL l c=[]:=fun h=>by
  have e1:doDE l c=490:=by simp only [doDE,q,h];simp
  exact⟨e1,by simp [doDL,e1]⟩
 cases p1:okCh c with
 | false =>
  rw [p1] at k1
  obtain⟨g1,g2⟩:=hfail (by rw [p1];rfl)
  rw [g1,g2]
  refine vc_path [.ret (dB false)] ?_
  simp
  exact k1
 | true =>
  rw [p1] at k1
  have k2:=C525b.fits l c _ hl2 (by omega) p1
  cases p2:fitsL l c with
  | false =>
   rw [p2] at k2
   obtain⟨g1,g2⟩:=hfail (by rw [p2];simp)
   rw [g1,g2]
   refine vc_path [.ret (dB true),.ret (dB false)] ?_
   simp
   exact⟨k1,k2⟩
  | true =>
   rw [p2] at k2
   refine vc_path [.ret (dB true),.ret (dB true)] ?_
   simp
   have hde:doDE l c=if c.kind=1∧l.length=1024 then 2 else 0:=by simp [doDE,q,p1,p2]
   refine⟨k1,k2,vc_path [] ?_⟩
   by_cases hb:c.kind=1∧l.length=1024
   ·have e1:doDE l c=2:=by rw [hde,if_pos hb]
    have e2:doDL l c=[]:=by simp [doDL,e1]
    have e3:(l.length:Int)=1024:=by omega
    rw [e1,e2]
    simp [hb.1,e3]
   have e1:doDE l c=0:=by rw [hde,if_neg hb]
   have e2:doDL l c=makeL l c:=by simp [doDL,e1]
   have e3:c.kind=1→¬ (l.length:Int)=1024:=fun h h2=>hb ⟨h,by omega⟩
   have hmk:=rD_make hl2 p2
   rw [e1,e2]
   simp
   refine⟨fun e5=>⟨fun h=>absurd h (e3 e5),fun _=>?_⟩,fun e5=>?_⟩
   all_goals
    refine vc_loopK [0,3] (Nat×Bool×List Sp) (fun y=>[(9,true,.d (dI y.1)),(8,true,.d (dB y.2.1)),(7,true,.own 1 3 (y.2.2.map dSp))]) (fun y=>[]) (fun y=>y.1≤l.length∧y.2.2.length≤2*y.1∧y.2.2++rD c y.2.1 (l.drop y.1)=makeL l c) (fun y=>l.length-y.1) (0,decide (c.kind=2),[]) ⟨by omega,by simp,by simpa using hmk⟩ ⟨[],[],?_⟩ (fun y hy=>?_)
    ·simp
     exact LeD.refl _
    obtain⟨i,done,o⟩:=y
    obtain⟨g1,g2,g3⟩:=hy
    simp only at g1 g2 g3
    simp
    have hw1:IntKind.i64.wrap ((i:Int)+1)=((i+1:Nat):Int):=by rw [wrap64 (by omega)];omega
    refine⟨fun hlt=>?_,fun hge=>?_⟩
    ·have hlt2:(i:Int)<l.length:=by omega
     rw [List.drop_eq_getElem_cons hlt,rD] at g3
     by_cases hd:done=false∧c.sp.id≤l[i].id
     ·obtain⟨hd1,hd2⟩:=hd
      subst hd1
      rw [if_pos ⟨rfl,hd2⟩,show (false||decide (c.sp.id≤l[i].id))=true by simp [hd2]] at g3
      refine vc_pathD [] ?_
      simp [hlt,hlt2,hd2,dSp]
      refine⟨rfl,⟨by omega,by omega⟩,rfl,fun h=>⟨⟨by omega,by omega⟩,i+1,.inr ⟨o++[c.sp,l[i]],⟨by omega,by simp;omega,by rw [if_neg h] at g3;simpa using g3⟩,by omega,[(1,5)],[],?_⟩⟩,fun h=>⟨i+1,.inr ⟨o++[c.sp],⟨by omega,by simp;omega,by rw [if_pos h] at g3;simpa using g3⟩,by omega,[(1,3)],[],?_⟩⟩⟩
      ·simp [hw1,dSp]
      ·simp [hw1,dSp]
     ·rw [if_neg hd,List.nil_append] at g3
      have hor:(done||decide (c.sp.id≤l[i].id))=done:=by
       cases done with
       | true=>rfl
       | false=>simpa using hd
      rw [hor] at g3
      cases done with
      | true =>
       refine vc_pathD [] ?_
       simp [hlt,hlt2,dSp]
       refine⟨rfl,rfl,fun h=>⟨⟨by omega,by omega⟩,i+1,.inr ⟨o++[l[i]],⟨by omega,by simp;omega,by rw [if_neg h] at g3;simpa using g3⟩,by omega,[(1,3)],[],?_⟩⟩,fun h=>⟨i+1,.inr ⟨o,⟨by omega,by omega,by rw [if_pos h] at g3;simpa using g3⟩,by omega,[],[],?_⟩⟩⟩
       ·simp [hw1,dSp]
       ·simp [hw1,dSp]
      | false =>
       have hd2:¬ c.sp.id≤l[i].id:=fun h=>hd ⟨rfl,h⟩
       have hne:¬ l[i].id=c.sp.id:=by omega
       rw [if_neg hne] at g3
       refine vc_pathD [] ?_
       simp [hlt,hlt2,hd2,hne,dSp]
       refine⟨rfl,rfl,⟨by omega,by omega⟩,i+1,.inl ⟨o++[l[i]],⟨by omega,by simp;omega,by simpa using g3⟩,by omega,[(1,3)],[],?_⟩⟩
       simp [hw1,dSp]
    ·have:i=l.length:=by omega
     subst this
     rw [List.drop_length] at g3
     cases done with
     | true =>
      simp [rD] at g3
      simp [g3]
     | false =>
      simp [rD] at g3
      simp [← g3]
      exact⟨⟨by omega,by omega⟩,LeD.refl _⟩
theorem rSame49(x y:List Sp):PCall Tryz.prog 21 [.sl 3 (x.map dSp),.sl 3 (y.map dSp)] (.ret (dB (decide (x=y)))):=by
 refine pcall_of_vc noC c21 (by simp [a21]) fun hr=>?_
 have hlen:=(hr (.sl 3 (x.map dSp)) (by simp)).sl.1
 simp at hlen
 simp [a21]
 have hno:¬ x=y→LeD (dB false) (dB (decide (x=y))):=fun h=>leD_of_eq (by simp [h])
 refine⟨fun h=>hno (fun e=>h (by rw [e])),fun h=>?_⟩
 refine vc_loopK [0,1] Nat (fun i=>[(5,true,.d (dI i))]) (fun _=>[]) (fun i=>i≤x.length∧∀ j,(h:j<i)→(h2:j<x.length)→(h3:j<y.length)→x[j]=y[j]) (fun i=>x.length-i) 0 (by simp) ⟨[],[],?_⟩ (fun i hi=>?_)
 ·simp
 obtain⟨g1,g2⟩:=hi
 simp
 refine⟨fun hlt=>?_,fun hge=>?_⟩
 ·have hlt2:i<y.length:=by omega
  have heq:eqB [.lit (.int .i64 x[i].id),.lit (.int .i64 x[i].ver),dZ x[i].tx] [.lit (.int .i64 y[i].id),.lit (.int .i64 y[i].ver),dZ y[i].tx]=decide (x[i]=y[i]):=eqB_sp x[i] y[i]
  have hec:eqC [.int .i64,.int .i64,.str] [.lit (.int .i64 x[i].id),.lit (.int .i64 x[i].ver),dZ x[i].tx] [.lit (.int .i64 y[i].id),.lit (.int .i64 y[i].ver),dZ y[i].tx]=True:=by simp [eqC,dZ]
  simp [hlt,hlt2,heq,hec,dSp]
  refine⟨rfl,fun h=>hno (fun e=>by subst e;exact h rfl),fun h=>⟨i+1,⟨by omega,fun j hj q1 q2=>?_⟩,by omega,[],[],?_⟩⟩
  ·by_cases e:j=i
   ·subst e;exact h
   ·exact g2 j (by omega) q1 q2
  ·rw [wrap64 (by omega)];simp
 ·have:x=y:=List.ext_getElem (by omega) (fun j q1 q2=>g2 j (by omega) q1 q2)
  exact leD_of_eq (by simp [this])
end

section
attribute [local simp] dZ_agg dZ_nt dZ_noTup dZ_cells dZ_one bz_toList bz_size strV dV_cells dV_isAgg dV_noTup dV_nt
set_option maxRecDepth 8000
set_option maxHeartbeats 4000000
theorem tE_free(n:Int):Free (tE n):=.ifc (.lit _)
theorem want_t(x:D):PCall Tryz.prog 131 [x,dB true] (.ret (.tup [])):=by
 refine pcall_of_vc noC c131 (by simp [a131]) fun hr=>?_
 simp [a131]
theorem want_f(x:D):PCall Tryz.prog 131 [x,dB false] (.pan (tE 10)):=by
 refine pcall_of_vc noC c131 (by simp [a131]) fun hr=>?_
 simp [a131]
 refine regS_path [] ?_
 simp [tE]
inductive C526:FuncId→List D→Out→Prop
 | want_t (x:D):C526 131 [x,dB true] (.ret (.tup []))
 | want_f (x:D):C526 131 [x,dB false] (.pan (tE 10))
theorem h526:∀ f ds out,C526 f ds out→PCall Tryz.prog f ds out:=by
 intro f ds out h
 cases h with
 | want_t x=>exact want_t x
 | want_f x=>exact want_f x
theorem take_ok(b:List UInt8) (n:Nat) (hn:n≤b.length):BCall Tryz.prog 151 [.sl 1 (b.map dU)] [dI n] (.ret (.sl 1 ((b.take n).map dU))) (fun c=>c=[.sl 1 ((b.drop n).map dU)]):=by
 refine bcall_of_vc h526 c151 (by simp [a151]) fun hr1 hr=>?_
 have hlen:=(hr1 (.sl 1 (b.map dU)) (by simp)).sl.1
 simp at hlen
 have hn':(n:Int)≤b.length:=by omega
 simp [a151]
 refine vc_path [.ret (.tup [])] ?_
 simp [hn']
 exact⟨.want_t _,.tup (by simp),leD_of_eq (by rw [List.take_of_length_le (by simp)])⟩
theorem take_no(b:List UInt8) (n:Nat) (hn:b.length<n):BCall Tryz.prog 151 [.sl 1 (b.map dU)] [dI n] (.pan (tE 10)) (fun _=>True):=by
 refine bcall_of_vc h526 c151 (by simp [a151]) fun hr1 hr=>?_
 have hn':¬ (n:Int)≤b.length:=by omega
 simp [a151]
 refine vc_path [.pan (tE 10)] ?_
 simp [hn']
 exact⟨.want_f _,tE_free 10,[.sl 1 (b.map dU)],leL_map _ _ _ 3 [.sl 1 (b.map dU)],by simp⟩
theorem or_add(acc x i:Nat) (h:acc<128 ^ i):acc|||(x*128 ^ i)=acc+x*128 ^ i:=by
 have e:(128:Nat) ^ i=2 ^ (7*i):=by rw [Nat.pow_mul]
 rw [e] at h ⊢
 have:=Nat.shiftLeft_add_eq_or_of_lt h x
 rw [Nat.shiftLeft_eq] at this
 rw [Nat.or_comm,← this,Nat.add_comm]
theorem and127(n:Nat) (h:n<256):(n % 2 ^ IntKind.u8.bits&&&127 % 2 ^ IntKind.u8.bits)=n % 128:=by
 have e1:n % 2 ^ IntKind.u8.bits=n:=by simp [IntKind.bits];omega
 have e2:127 % 2 ^ IntKind.u8.bits=2 ^ 7-1:=by decide
 rw [e1,e2,Nat.and_two_pow_sub_one_eq_mod]
theorem num_arith(i acc:Nat) (c:UInt8) (g1:i≤9) (g2:acc<128 ^ i) (hgood2:i<9∨c≤1):∃ q sm:Nat,q=c.toNat % 128*128 ^ i∧sm=acc+q∧sm<128 ^ (i+1) ∧
  shiftV true IntKind.u64 (IntKind.u64.wrap (IntKind.u8.wrap ((c.toNat % 2 ^ IntKind.u8.bits&&&127 % 2 ^ IntKind.u8.bits:Nat):Int))) (7*(i:Int))=.int .u64 (q:Int) ∧
  IntKind.u64.wrap ((acc % 2 ^ IntKind.u64.bits|||q % 2 ^ IntKind.u64.bits:Nat):Int)=(sm:Int):=by
 have hcl:=c.toNat_lt
 have hi2:(7*(i:Int))=((7*i:Nat):Int):=by omega
 have hand:(c.toNat % 2 ^ IntKind.u8.bits&&&127 % 2 ^ IntKind.u8.bits)=c.toNat % 128:=and127 c.toNat hcl
 have hp128:128 ^ i≤128 ^ 9:=Nat.pow_le_pow_right (by omega) g1
 have h9:(128:Nat) ^ 9=9223372036854775808:=by decide
 have h8:i<9→128 ^ i*128≤9223372036854775808:=fun h=>by
  rw [← Nat.pow_succ,← h9];exact Nat.pow_le_pow_right (by omega) (by omega)
 have hc128:c.toNat % 128<128:=Nat.mod_lt _ (by omega)
 have hprod:c.toNat % 128*128 ^ i≤9223372036854775808:=by
  rcases hgood2 with h | h
  ·have:=h8 h
   have h2:c.toNat % 128*128 ^ i≤128*128 ^ i:=Nat.mul_le_mul_right _ (by omega)
   rw [Nat.mul_comm 128] at h2;omega
  ·rw [UInt8.le_iff_toNat_le] at h
   have h:c.toNat≤1:=h
   have h2:c.toNat % 128*128 ^ i≤1*128 ^ i:=Nat.mul_le_mul_right _ (by omega)
   omega
 obtain⟨q,hq⟩:∃ q,q=c.toNat % 128*128 ^ i:=⟨_,rfl⟩
 have e2:shiftV true IntKind.u64 (IntKind.u64.wrap (IntKind.u8.wrap ((c.toNat % 2 ^ IntKind.u8.bits&&&127 % 2 ^ IntKind.u8.bits:Nat):Int))) (7*(i:Int))=.int .u64 (q:Int):=by
  rw [hand,hi2]
  have q1:IntKind.u8.wrap ((c.toNat % 128:Nat):Int)=((c.toNat % 128:Nat):Int):=by simp [IntKind.wrap,IntKind.bits,IntKind.signed];omega
  rw [q1,wrap_u64 (by omega) (by omega)]
  have q2:min ((7*i:Nat):Int).toNat IntKind.u64.bits=7*i:=by simp [IntKind.bits];omega
  have q3:((c.toNat % 128:Nat):Int)*2 ^ (7*i)=(q:Int):=by
   rw [hq,show (128:Nat) ^ i=2 ^ (7*i) by rw [Nat.pow_mul]];simp
  unfold shiftV
  rw [q2,if_pos rfl,q3,wrap_u64 (by omega) (by omega)]
 have hsum:acc+q<18446744073709551616:=by omega
 obtain⟨sm,hsm⟩:∃ sm,sm=acc+q:=⟨_,rfl⟩
 have e3:IntKind.u64.wrap ((acc % 2 ^ IntKind.u64.bits|||q % 2 ^ IntKind.u64.bits:Nat):Int)=(sm:Int):=by
  have q1:acc % 2 ^ IntKind.u64.bits=acc:=by simp [IntKind.bits];omega
  have q2:q % 2 ^ IntKind.u64.bits=q:=by simp [IntKind.bits];omega
  rw [q1,q2,hq,or_add _ _ _ g2,← hq,← hsm,wrap_u64 (by omega) (by omega)]
 have hpow:128 ^ (i+1)=128 ^ i*128:=Nat.pow_succ ..
 have hsm2:sm<128 ^ (i+1):=by
  have:q+128 ^ i≤128 ^ i*128:=by
   rw [hq,Nat.mul_comm (128 ^ i) 128,← Nat.succ_mul];exact Nat.mul_le_mul_right _ (by omega)
  omega
 exact⟨q,sm,hq,hsm,hsm2,e2,e3⟩
theorem number_ok(b r:List UInt8) (u:Nat) (h:pNum 0 b=some (u,r)):BCall Tryz.prog 153 [.sl 1 (b.map dU)] [] (.ret (.lit (.int .u64 u))) (fun c=>c=[.sl 1 (r.map dU)]):=by
 refine bcall_of_vc h526 c153 (by simp [a153]) fun hr1 hr=>?_
 simp [a153]
 refine vc_loopK [0] (Nat×Nat×List UInt8) (fun x=>[(3,true,.d (dI x.1)),(2,true,.d (.lit (.int .u64 x.2.1)))]) (fun x=>[(0,.box true [.d (.sl 1 (x.2.2.map dU))])]) (fun x=>x.1≤9∧x.2.1<128 ^ x.1∧(pNum x.1 x.2.2).map (fun y=>(x.2.1+y.1*128 ^ x.1,y.2))=some (u,r)) (fun x=>x.2.2.length) (0,0,b) ⟨by omega,by simp,by rw [h];simp⟩ ⟨[],[],?_⟩ (fun x hx=>?_)
 ·simp
 obtain⟨i,acc,t⟩:=x
 obtain⟨g1,g2,g3⟩:=hx
 simp only at g1 g2 g3
 cases t with
 | nil=>simp [pNum] at g3
 | cons c t =>
  simp
  refine regS_path [] ?_
  simp
  refine icall_T (TB _ _ _ _) (hcall_of_bcall (take_ok (c::t) 1 (by simp))) ?_
  refine⟨0,_,_,rfl,rfl,rfl,?_⟩
  simp
  have hgood:(i=0∨c≠0)∧(i<9∨c≤1):=by
   rcases Classical.em ((i=0∨c≠0)∧(i<9∨c≤1)) with h | h
   ·exact h
   ·rw [pNum,if_neg h] at g3;cases g3
  have hcl:=c.toNat_lt
  have hg1:(i:Int)=0∨¬ (c.toNat:Int)=0:=hgood.1.imp (by omega) (fun h h2=>h (by rw [← UInt8.toNat_inj];simpa using h2))
  have hg2:(i:Int)<9∨(c.toNat:Int)≤1:=hgood.2.imp (by omega) (fun h=>by rw [UInt8.le_iff_toNat_le] at h;have h:c.toNat≤1:=h;omega)
  have hi2:(7*(i:Int))=((7*i:Nat):Int):=by omega
  have e1:IntKind.i64.wrap (7*(i:Int))=7*(i:Int):=wrap64 (by omega)
  obtain⟨q,sm,hq,hsm,hsm2,e2,e3⟩:=num_arith i acc c g1 g2 hgood.2
  have hpow:128 ^ (i+1)=128 ^ i*128:=Nat.pow_succ ..
  rw [pNum,if_pos hgood] at g3
  have hlt8:(c.toNat:Int)<128↔c<128:=by rw [UInt8.lt_iff_toNat_lt];show _↔c.toNat<128;omega
  have hi1:IntKind.i64.wrap ((i:Int)+1)=((i+1:Nat):Int):=by rw [wrap64 (by omega)];omega
  refine⟨⟨rfl,rfl,rfl⟩,?_⟩
  have hend:((c.toNat:Int)<128→sm=u∧t=r)∧(128≤(c.toNat:Int)→i<9∧(pNum (i+1) t).map (fun y=>(sm+y.1*128 ^ (i+1),y.2))=some (u,r)):=by
   refine⟨fun h=>?_,fun h=>?_⟩
   ·rw [if_pos (hlt8.1 h)] at g3
    simp at g3
    have:c.toNat % 128=c.toNat:=by omega
    rw [this] at hq
    exact⟨by omega,g3.2⟩
   ·rw [if_neg (fun h2=>by have:=hlt8.2 h2;omega)] at g3
    refine⟨by omega,?_⟩
    rw [← g3,Option.map_map]
    congr 1
    funext y
    simp only [Function.comp,Prod.mk.injEq,and_true]
    rw [hsm,hq,hpow,Nat.add_mul,← Nat.mul_assoc,Nat.mul_comm 128 y.1,Nat.mul_assoc y.1,Nat.mul_assoc y.1,Nat.mul_comm (128 ^ i) 128]
    omega
  have hc3:((i:Int) == 0)=true∧(i:Int)<9∨((i:Int) == 0)=false∧¬ c.toNat=0∧(i:Int)<9∨((i:Int) == 0)=false∧¬ c.toNat=0∧¬ (i:Int)<9∧(c.toNat:Int)≤1:=by
   by_cases h0:(i:Int)=0
   ·exact .inl ⟨by simp [h0],by omega⟩
   ·have h1:¬ (c.toNat:Int)=0:=hg1.resolve_left h0
    by_cases h9':(i:Int)<9
    ·exact .inr (.inl ⟨by simpa using h0,by omega,h9'⟩)
    ·exact .inr (.inr ⟨by simpa using h0,by omega,h9',hg2.resolve_left h9'⟩)
  clear g3 hgood hg1 hg2
  rcases hc3 with ⟨b1,b2⟩ | ⟨b1,b2,b3⟩ | ⟨b1,b2,b3,b4⟩
  ·refine vc_path [.ret (.tup [])] ?_
   simp [dU,e1,e2,e3,b1,b2]
   refine⟨.want_t _,.tup (by simp),by omega,fun h=>?_,fun h=>?_⟩
   ·obtain⟨rfl,rfl⟩:=hend.1 h
    exact⟨LeD.refl _,LeD.refl _⟩
   ·obtain⟨k1,k2⟩:=hend.2 h
    refine⟨i+1,sm,t,⟨by omega,hsm2,by simpa using k2⟩,by simp,[],[],?_⟩
    simp [hi1]
  ·refine vc_path [.ret (.tup [])] ?_
   simp [dU,e1,e2,e3,b1,b2,b3]
   refine⟨.want_t _,.tup (by simp),by omega,fun h=>?_,fun h=>?_⟩
   ·obtain⟨rfl,rfl⟩:=hend.1 h
    exact⟨LeD.refl _,LeD.refl _⟩
   ·obtain⟨k1,k2⟩:=hend.2 h
    refine⟨i+1,sm,t,⟨by omega,hsm2,by simpa using k2⟩,by simp,[],[],?_⟩
    simp [hi1]
  ·refine vc_path [.ret (.tup [])] ?_
   simp [dU,e1,e2,e3,b1,b2,b3,b4]
   refine⟨.want_t _,.tup (by simp),by omega,fun h=>?_,fun h=>?_⟩
   ·obtain⟨rfl,rfl⟩:=hend.1 h
    exact⟨LeD.refl _,LeD.refl _⟩
   ·obtain⟨k1,k2⟩:=hend.2 h
    refine⟨i+1,sm,t,⟨by omega,hsm2,by simpa using k2⟩,by simp,[],[],?_⟩
    simp [hi1]
theorem number_no(b:List UInt8) (h:pNum 0 b=none):BCall Tryz.prog 153 [.sl 1 (b.map dU)] [] (.pan (tE 10)) (fun _=>True):=by
 refine bcall_of_vc h526 c153 (by simp [a153]) fun hr1 hr=>?_
 simp [a153]
 refine vc_loopK [0] (Nat×Nat×List UInt8) (fun x=>[(3,true,.d (dI x.1)),(2,true,.d (.lit (.int .u64 x.2.1)))]) (fun x=>[(0,.box true [.d (.sl 1 (x.2.2.map dU))])]) (fun x=>x.1≤9∧x.2.1<128 ^ x.1∧pNum x.1 x.2.2=none) (fun x=>x.2.2.length) (0,0,b) ⟨by omega,by simp,h⟩ ⟨[],[],?_⟩ (fun x hx=>?_)
 ·simp
 obtain⟨i,acc,t⟩:=x
 obtain⟨g1,g2,g3⟩:=hx
 simp only at g1 g2 g3
 cases t with
 | nil =>
  simp
  refine regS_path [] ?_
  simp
  refine icall_T (TB _ _ _ _) (hcall_of_bcall (take_no [] 1 (by simp))) ?_
  refine⟨0,_,_,rfl,rfl,rfl,fun cs' _ h1=>?_⟩
  simp
  exact⟨cs',leL_map _ _ _ _ _,h1⟩
 | cons c t =>
  simp
  refine regS_path [] ?_
  simp
  refine icall_T (TB _ _ _ _) (hcall_of_bcall (take_ok (c::t) 1 (by simp))) ?_
  refine⟨0,_,_,rfl,rfl,rfl,?_⟩
  simp
  have e1:IntKind.i64.wrap (7*(i:Int))=7*(i:Int):=wrap64 (by omega)
  refine⟨⟨rfl,rfl,rfl⟩,?_⟩
  by_cases hgood:(i=0∨c≠0)∧(i<9∨c≤1)
  ·obtain⟨q,sm,hq,hsm,hsm2,e2,e3⟩:=num_arith i acc c g1 g2 hgood.2
   rw [pNum,if_pos hgood] at g3
   have hlt8:(c.toNat:Int)<128↔c<128:=by rw [UInt8.lt_iff_toNat_lt];show _↔c.toNat<128;omega
   have hge:¬ (c.toNat:Int)<128:=fun h=>by rw [if_pos (hlt8.1 h)] at g3;cases g3
   rw [if_neg (fun h=>hge (hlt8.2 h))] at g3
   have g4:pNum (i+1) t=none:=by simpa using g3
   have hg1:(i:Int)=0∨¬ (c.toNat:Int)=0:=hgood.1.imp (by omega) (fun h h2=>h (by rw [← UInt8.toNat_inj];simpa using h2))
   have b3:(i:Int)<9:=by
    rcases hgood.2 with h | h
    ·omega
    ·rw [UInt8.le_iff_toNat_le] at h;have h:c.toNat≤1:=h;omega
   have hi1:IntKind.i64.wrap ((i:Int)+1)=((i+1:Nat):Int):=by rw [wrap64 (by omega)];omega
   have hge2:(128:Int)≤c.toNat:=by omega
   have hc3:((i:Int) == 0)=true∨((i:Int) == 0)=false∧¬ c.toNat=0:=by
    by_cases h0:(i:Int)=0
    ·exact .inl (by simp [h0])
    ·exact .inr ⟨by simpa using h0,by have:=hg1.resolve_left h0;omega⟩
   clear g3 hgood hg1 hge
   rcases hc3 with b1 | ⟨b1,b2⟩
   ·refine vc_path [.ret (.tup [])] ?_
    simp [dU,e1,e2,e3,b1,b3]
    refine⟨.want_t _,.tup (by simp),by omega,fun h=>by omega,fun _=>⟨i+1,sm,t,⟨by omega,hsm2,g4⟩,by simp,[],[],?_⟩⟩
    simp [hi1]
   ·refine vc_path [.ret (.tup [])] ?_
    simp [dU,e1,e2,e3,b1,b2,b3]
    refine⟨.want_t _,.tup (by simp),by omega,fun h=>by omega,fun _=>⟨i+1,sm,t,⟨by omega,hsm2,g4⟩,by simp,[],[],?_⟩⟩
    simp [hi1]
  ·have hc3:((i:Int) == 0)=false∧c.toNat=0∨((i:Int) == 0)=false∧¬ c.toNat=0∧¬ (i:Int)<9∧¬ (c.toNat:Int)≤1:=by
    by_cases h1:i=0∨c≠0
    ·have h2:¬ (i<9∨c≤1):=fun h=>hgood ⟨h1,h⟩
     have h3:¬ i<9:=fun h=>h2 (.inl h)
     have h4:¬ c.toNat≤1:=fun h=>h2 (.inr (by rw [UInt8.le_iff_toNat_le];exact h))
     exact .inr ⟨by simp;omega,by omega,by omega,by omega⟩
    ·have h2:¬ i=0:=fun h=>h1 (.inl h)
     have h3:c=0:=Classical.byContradiction fun h=>h1 (.inr h)
     exact .inl ⟨by simpa using h2,by simp [h3]⟩
   rcases hc3 with ⟨b1,b2⟩ | ⟨b1,b2,b3,b4⟩
   ·refine vc_path [.pan (tE 10)] ?_
    simp [dU,b1,b2]
    exact⟨.want_f _,tE_free 10,[.sl 1 (t.map dU)],leL_map _ _ _ 3 [.sl 1 (t.map dU)],by simp⟩
   ·refine vc_path [.pan (tE 10)] ?_
    simp [dU,b1,b2,b3,b4]
    exact⟨.want_f _,tE_free 10,[.sl 1 (t.map dU)],leL_map _ _ _ 3 [.sl 1 (t.map dU)],by simp⟩
theorem signed(u:Nat) (hu:u<18446744073709551616):PCall Tryz.prog 152 [.lit (.int .u64 u)] (.ret (dI (sgn u))):=by
 refine pcall_of_vc noC c152 (by simp [a152]) fun hr=>?_
 simp [a152]
 have hs:shiftV false IntKind.u64 (u:Int) 1=.int .u64 ((u / 2:Nat):Int):=by
  simp [shiftV,IntKind.bits]
  rw [Int.fdiv_eq_ediv_of_nonneg _ (by omega)]
 have he1:IntKind.i64.wrap ((u / 2:Nat):Int)=((u / 2:Nat):Int):=wrap64 (by omega)
 have hand:(u % 2 ^ IntKind.u64.bits&&&1 % 2 ^ IntKind.u64.bits)=u % 2:=by
  have e1:u % 2 ^ IntKind.u64.bits=u:=by simp [IntKind.bits];omega
  have e2:1 % 2 ^ IntKind.u64.bits=2 ^ 1-1:=by decide
  rw [e1,e2,Nat.and_two_pow_sub_one_eq_mod]
 have hx1:(((u / 2:Nat):Int) % 2 ^ IntKind.i64.bits).toNat=u / 2:=by simp [IntKind.bits];omega
 rw [hs,hand]
 simp only [he1]
 rcases Nat.mod_two_eq_zero_or_one u with hm | hm
 ·have hy:IntKind.i64.wrap (-IntKind.i64.wrap (IntKind.u64.wrap ((u % 2:Nat):Int)))=0:=by rw [hm];decide
  have hx2:((0:Int) % 2 ^ IntKind.i64.bits).toNat=0:=by decide
  have hsg:sgn u=((u / 2:Nat):Int):=by unfold sgn;rw [if_neg (by omega)]
  simp only [hy,hx1,hx2,Nat.xor_zero,he1,hsg]
  simp
 ·have hy:IntKind.i64.wrap (-IntKind.i64.wrap (IntKind.u64.wrap ((u % 2:Nat):Int)))=-1:=by rw [hm];decide
  have hx2:((-1:Int) % 2 ^ IntKind.i64.bits).toNat=18446744073709551615:=by decide
  have hsg:sgn u=-((u / 2:Nat):Int)-1:=by unfold sgn;rw [if_pos (by omega)]
  have hw:IntKind.i64.wrap ((18446744073709551615-u / 2:Nat):Int)=-((u / 2:Nat):Int)-1:=by simp [IntKind.wrap,IntKind.bits,IntKind.signed];omega
  simp only [hy,hx1,hx2,xor_ones (u / 2) (by omega),hw,hsg]
  simp
theorem pNum_len{b r:List UInt8}{u:Nat}(h:pNum 0 b=some (u,r)):r.length≤b.length:=by
 have:=(pNum_sound b 0 u r (by omega) h).1
 rw [this,List.length_append];omega
theorem pNum_lt{b r:List UInt8}{u:Nat}(h:pNum 0 b=some (u,r)):u<18446744073709551616:=by
 have:=(pNum_sound b 0 u r (by omega) h).2.2
 omega
theorem length_ok(b r:List UInt8) (u:Nat) (h:pNum 0 b=some (u,r)) (hu:u≤r.length):BCall Tryz.prog 154 [.sl 1 (b.map dU)] [] (.ret (dI u)) (fun c=>c=[.sl 1 (r.map dU)]):=by
 refine bcall_of_vc h526 c154 (by simp [a154]) fun hr1 hr=>?_
 have hlen:=(hr1 (.sl 1 (b.map dU)) (by simp)).sl.1
 simp at hlen
 simp [a154]
 refine regS_path [] ?_
 simp
 refine icall_T (TB _ _ _ _) (hcall_of_bcall (number_ok b r u h)) ?_
 refine⟨0,_,_,rfl,rfl,rfl,?_⟩
 simp
 have hrl:=pNum_len h
 have hw:IntKind.u64.wrap (r.length:Int)=r.length:=wrap_u64 (by omega) (by omega)
 have hw2:IntKind.i64.wrap (u:Int)=u:=wrap64 (by omega)
 have hle:(u:Int)≤r.length:=by omega
 refine vc_path [.ret (.tup [])] ?_
 simp [hw,hw2,hle]
 exact⟨.want_t _,.tup (by simp)⟩
theorem length_no1(b:List UInt8) (h:pNum 0 b=none):BCall Tryz.prog 154 [.sl 1 (b.map dU)] [] (.pan (tE 10)) (fun _=>True):=by
 refine bcall_of_vc h526 c154 (by simp [a154]) fun hr1 hr=>?_
 simp [a154]
 refine regS_path [] ?_
 simp
 refine icall_T (TB _ _ _ _) (hcall_of_bcall (number_no b h)) ?_
 refine⟨0,_,_,rfl,rfl,rfl,fun cs' _ h1=>?_⟩
 simp
 exact⟨cs',leL_map _ _ _ _ _,h1⟩
theorem length_no2(b r:List UInt8) (u:Nat) (h:pNum 0 b=some (u,r)) (hu:r.length<u):BCall Tryz.prog 154 [.sl 1 (b.map dU)] [] (.pan (tE 10)) (fun _=>True):=by
 refine bcall_of_vc h526 c154 (by simp [a154]) fun hr1 hr=>?_
 have hlen:=(hr1 (.sl 1 (b.map dU)) (by simp)).sl.1
 simp at hlen
 simp [a154]
 refine regS_path [] ?_
 simp
 refine icall_T (TB _ _ _ _) (hcall_of_bcall (number_ok b r u h)) ?_
 refine⟨0,_,_,rfl,rfl,rfl,?_⟩
 simp
 have hrl:=pNum_len h
 have hw:IntKind.u64.wrap (r.length:Int)=r.length:=wrap_u64 (by omega) (by omega)
 have hle:¬ (u:Int)≤r.length:=by omega
 refine vc_path [.pan (tE 10)] ?_
 simp [hw,hle]
 exact⟨.want_f _,tE_free 10,[.sl 1 (r.map dU)],leL_map _ _ _ 3 [.sl 1 (r.map dU)],by simp⟩
inductive C527:FuncId→List D→Out→Prop
 | want_t (x:D):C527 131 [x,dB true] (.ret (.tup []))
 | want_f (x:D):C527 131 [x,dB false] (.pan (tE 10))
 | signed (u:Nat) (hu:u<18446744073709551616):C527 152 [.lit (.int .u64 u)] (.ret (dI (sgn u)))
theorem h527:∀ f ds out,C527 f ds out→PCall Tryz.prog f ds out:=by
 intro f ds out h
 cases h with
 | want_t x=>exact want_t x
 | want_f x=>exact want_f x
 | signed u hu=>exact signed u hu
def ValOk (dp:Nat) (p:List UInt8→Option (Vl×List UInt8)):Prop :=
 (∀ b v r,b.length≤1099511627776→p b=some (v,r)→BCall Tryz.prog 130 [.sl 1 (b.map dU)] [dI dp] (.ret (dV v)) (fun c=>c=[.sl 1 (r.map dU)])∧r.length≤b.length) ∧
 (∀ b,b.length≤1099511627776→p b=none→BCall Tryz.prog 130 [.sl 1 (b.map dU)] [dI dp] (.pan (tE 10)) (fun _=>True))
theorem val1_ok(dp:Nat) (deep:Option (List UInt8→Option (Vl×List UInt8))) (hd:dp≤16) (hdeep:∀ p,deep=some p→dp<16∧ValOk (dp+1) p) (b r:List UInt8) (v:Vl) (hb:b.length≤1099511627776) (h:pV1 deep b=some (v,r)) :
  BCall Tryz.prog 130 [.sl 1 (b.map dU)] [dI dp] (.ret (dV v)) (fun c=>c=[.sl 1 (r.map dU)]):=by
 refine bcall_of_vc h527 c130 (by simp [a130]) fun hr1 hr=>?_
 simp [a130]
 cases b with
 | nil=>simp [pV1] at h
 | cons c t =>
  refine regS_path [] ?_
  simp
  refine icall_T (TB _ _ _ _) (hcall_of_bcall (take_ok (c::t) 1 (by simp))) ?_
  refine⟨0,_,_,rfl,rfl,rfl,?_⟩
  simp
  have hcl:=c.toNat_lt
  have hw:IntKind.i64.wrap (c.toNat:Int)=c.toNat:=wrap64 (by omega)
  have hcn:∀ k:UInt8,c=k↔c.toNat=k.toNat:=fun k=>UInt8.toNat_inj.symm
  simp [dU,hw]
  simp only [List.length_cons] at hb
  rw [pV1] at h
  by_cases hk1:c=1
  ·rw [if_pos hk1] at h
   cases hx:pNum 0 t with
   | none=>rw [hx] at h;cases h
   | some x =>
    obtain⟨u,r1⟩:=x
    rw [hx] at h
    simp at h
    obtain⟨rfl,rfl⟩:=h
    have hk:c.toNat=1:=(hcn 1).1 hk1
    have hul:=pNum_lt hx
    refine⟨fun _=>?_,fun h=>absurd (by omega) h⟩
    refine regS_path [.ret (dI (sgn u))] ?_
    simp
    refine icall_T (TB _ _ _ _) (hcall_of_bcall (number_ok t r1 u hx)) ?_
    refine⟨0,_,_,rfl,rfl,rfl,?_⟩
    simp [dV_eq]
    refine⟨.signed u hul,LeD.agg (.cons (leD_of_eq (by rw [hk];rfl)) (.cons (LeD.refl _) (.cons (LeD.refl _) (.cons (LeD.nil 4) .nil)))) (by simp)⟩
  rw [if_neg hk1] at h
  have hn1:¬ (c.toNat:Int)=1:=fun h=>hk1 ((hcn 1).2 (by show c.toNat=1;omega))
  by_cases hk2:c=2
  ·rw [if_pos hk2] at h
   cases hx:pNum 0 t with
   | none=>rw [hx] at h;cases h
   | some x =>
    obtain⟨u,r1⟩:=x
    rw [hx,Option.bind_some] at h
    simp only at h
    split at h
    case isFalse=>cases h
    case isTrue hu =>
    simp at h
    obtain⟨rfl,rfl⟩:=h
    have hk:c.toNat=2:=(hcn 2).1 hk2
    refine⟨fun h=>absurd h hn1,fun _=>⟨fun _=>?_,fun h=>absurd (by omega) h⟩⟩
    refine regS_path [] ?_
    simp
    refine icall_T (TB _ _ _ _) (hcall_of_bcall (length_ok t r1 u hx hu)) ?_
    refine⟨0,_,_,rfl,rfl,rfl,?_⟩
    simp
    refine icall_T (TB _ _ _ _) (hcall_of_bcall (take_ok r1 u hu)) ?_
    refine⟨0,_,_,rfl,rfl,rfl,?_⟩
    simp [dV_eq]
    refine⟨fun e he=>?_,LeD.agg (.cons (leD_of_eq (by rw [hk];rfl)) (.cons (LeD.refl _) (.cons (leD_of_eq ?_) (.cons (LeD.nil 4) .nil)))) (by simp)⟩
    ·rw [← List.map_take] at he
     obtain⟨y,_,rfl⟩:=List.mem_map.1 he
     rfl
    ·rw [← List.map_take,bytesOf_map];rfl
  rw [if_neg hk2] at h
  have hn2:¬ (c.toNat:Int)=2:=fun h=>hk2 ((hcn 2).2 (by show c.toNat=2;omega))
  by_cases hk3:c=3
  case neg=>rw [if_neg hk3] at h;cases h
  rw [if_pos hk3] at h
  have hk:c.toNat=3:=(hcn 3).1 hk3
  cases hdp:deep with
  | none=>rw [hdp] at h;cases h
  | some p =>
   obtain⟨hlt,hp⟩:=hdeep p hdp
   rw [hdp,Option.bind_some] at h
   cases hx:pNum 0 t with
   | none=>rw [hx] at h;cases h
   | some x =>
    obtain⟨u,r1⟩:=x
    rw [hx,Option.bind_some] at h
    simp only at h
    split at h
    case isFalse=>cases h
    case isTrue hu =>
    cases hy:pVs p u r1 with
    | none=>rw [hy] at h;cases h
    | some y =>
     obtain⟨vs,r2⟩:=y
     rw [hy] at h
     simp at h
     obtain⟨rfl,rfl⟩:=h
     have hr1l:=pNum_len hx
     have hlt':(dp:Int)<16:=by omega
     refine⟨fun h=>absurd h hn1,fun _=>⟨fun h=>absurd h hn2,fun _=>⟨fun _=>?_,fun h=>absurd (by omega) h⟩⟩⟩
     refine vc_path [.ret (.tup [])] ?_
     simp [hlt']
     refine⟨.want_t _,.tup (by simp),regS_path [] ?_⟩
     simp
     refine icall_T (TB _ _ _ _) (hcall_of_bcall (length_ok t r1 u hx hu)) ?_
     refine⟨0,_,_,rfl,rfl,rfl,?_⟩
     simp
     have hkI:(c.toNat:Int)=3:=by omega
     refine vc_loopK [0,1,4,36] (Nat×List Vl×List UInt8) (fun x=>[(37,true,.d (dI x.1))]) (fun x=>[(0,.box true [.d (.sl 1 (x.2.2.map dU))]),(1,.box true [.d (dI 3),.d (dI 0),.d (dZ []),.own 2 4 (x.2.1.map dV)]),(2,.row)])
      (fun x=>x.1≤u∧x.2.1.length=x.1∧x.2.2.length≤r1.length∧(pVs p (u-x.1) x.2.2).map (fun y=>(x.2.1++y.1,y.2))=some (vs,r2)) (fun x=>u-x.1) (0,[],r1) ⟨by omega,rfl,Nat.le_refl _,by rw [Nat.sub_zero,hy];rfl⟩ ⟨[],[(2,4)],?_⟩ (fun x hx=>?_)
     ·simp [hkI]
      exact LeD.refl _
     obtain⟨i,es,rest⟩:=x
     obtain⟨g1,g2,g3,g4⟩:=hx
     simp only at g1 g2 g3 g4
     simp
     refine⟨fun hlt=>?_,fun hge=>?_⟩
     ·have hwd:IntKind.i64.wrap ((dp:Int)+1)=((dp+1:Nat):Int):=by rw [wrap64 (by omega)];omega
      have hwi:IntKind.i64.wrap ((i:Int)+1)=((i+1:Nat):Int):=by rw [wrap64 (by omega)];omega
      rw [show u-i=(u-(i+1))+1 by omega,pVs] at g4
      cases hq:p rest with
      | none=>rw [hq] at g4;cases g4
      | some z =>
       obtain⟨w,rest2⟩:=z
       rw [hq,Option.bind_some] at g4
       obtain⟨hB,hlr⟩:=hp.1 rest w rest2 (by omega) hq
       refine regI_path [] [] [] ?_
       simp [hwd]
       rw [show ((dp+1:Nat):Int)=(dp:Int)+1 by omega] at hB
       refine⟨rfl,icallD_T (TB _ _ _ _) (hcall_of_bcall hB) ?_⟩
       refine⟨0,_,_,rfl,rfl,rfl,?_⟩
       simp
       refine⟨rfl,⟨by omega,by omega⟩,i+1,es++[w],rest2,⟨by omega,by simp [g2],by omega,?_⟩,by omega,[(2,4)],[],?_⟩
       ·cases hz:pVs p (u-(i+1)) rest2 with
        | none=>rw [hz] at g4;cases g4
        | some z =>
         rw [hz] at g4
         simp at g4
         exact⟨z.1,by rw [← g4.2],by simpa using g4.1⟩
       ·simp [hwi]
     ·have hiu:u-i=0:=by omega
      rw [hiu,pVs] at g4
      simp at g4
      obtain⟨rfl,rfl⟩:=g4
      simp [dV_eq]
      trace_state
      done
theorem val1_no(dp:Nat) (deep:Option (List UInt8→Option (Vl×List UInt8))) (hd:dp≤16) (hdeep:∀ p,deep=some p→dp<16∧ValOk (dp+1) p) (hnone:deep=none→dp=16) (b:List UInt8) (hb:b.length≤1099511627776) (h:pV1 deep b=none) :
  BCall Tryz.prog 130 [.sl 1 (b.map dU)] [dI dp] (.pan (tE 10)) (fun _=>True):=by
 refine bcall_of_vc h527 c130 (by simp [a130]) fun hr1 hr=>?_
 simp [a130]
 cases b with
 | nil =>
  refine regS_path [] ?_
  simp
  refine icall_T (TB _ _ _ _) (hcall_of_bcall (take_no [] 1 (by simp))) ?_
  refine⟨0,_,_,rfl,rfl,rfl,fun cs' _ h1=>?_⟩
  simp
  exact⟨cs',leL_map _ _ _ _ _,h1⟩
 | cons c t =>
  refine regS_path [] ?_
  simp
  refine icall_T (TB _ _ _ _) (hcall_of_bcall (take_ok (c::t) 1 (by simp))) ?_
  refine⟨0,_,_,rfl,rfl,rfl,?_⟩
  simp
  have hcl:=c.toNat_lt
  have hw:IntKind.i64.wrap (c.toNat:Int)=c.toNat:=wrap64 (by omega)
  have hcn:∀ k:UInt8,c=k↔c.toNat=k.toNat:=fun k=>UInt8.toNat_inj.symm
  simp [dU,hw]
  simp only [List.length_cons] at hb
  rw [pV1] at h
  by_cases hk1:c=1
  ·rw [if_pos hk1] at h
   have hx:pNum 0 t=none:=by simpa using h
   have hk:c.toNat=1:=(hcn 1).1 hk1
   refine⟨fun _=>?_,fun h=>absurd (by omega) h⟩
   refine regS_path [] ?_
   simp
   refine icall_T (TB _ _ _ _) (hcall_of_bcall (number_no t hx)) ?_
   refine⟨0,_,_,rfl,rfl,rfl,fun cs' _ h1=>?_⟩
   simp
   exact⟨cs',leL_map _ _ _ _ _,h1⟩
  rw [if_neg hk1] at h
  have hn1:¬ (c.toNat:Int)=1:=fun h=>hk1 ((hcn 1).2 (by show c.toNat=1;omega))
  by_cases hk2:c=2
  ·rw [if_pos hk2] at h
   have hk:c.toNat=2:=(hcn 2).1 hk2
   refine⟨fun h=>absurd h hn1,fun _=>⟨fun _=>?_,fun h=>absurd (by omega) h⟩⟩
   refine regS_path [] ?_
   simp
   cases hx:pNum 0 t with
   | none =>
    refine icall_T (TB _ _ _ _) (hcall_of_bcall (length_no1 t hx)) ?_
    refine⟨0,_,_,rfl,rfl,rfl,fun cs' _ h1=>?_⟩
    simp
    exact⟨cs',leL_map _ _ _ _ _,h1⟩
   | some x =>
    obtain⟨u,r1⟩:=x
    rw [hx,Option.bind_some] at h
    simp only at h
    have hu:r1.length<u:=by
     rcases Nat.lt_or_ge r1.length u with h' | h'
     ·exact h'
     ·rw [if_pos h'] at h;cases h
    refine icall_T (TB _ _ _ _) (hcall_of_bcall (length_no2 t r1 u hx hu)) ?_
    refine⟨0,_,_,rfl,rfl,rfl,fun cs' _ h1=>?_⟩
    simp
    exact⟨cs',leL_map _ _ _ _ _,h1⟩
  rw [if_neg hk2] at h
  have hn2:¬ (c.toNat:Int)=2:=fun h=>hk2 ((hcn 2).2 (by show c.toNat=2;omega))
  by_cases hk3:c=3
  case neg =>
   have hn3:¬ (c.toNat:Int)=3:=fun h=>hk3 ((hcn 3).2 (by show c.toNat=3;omega))
   refine⟨fun h=>absurd h hn1,fun _=>⟨fun h=>absurd h hn2,fun _=>⟨fun h=>absurd h hn3,fun _=>?_⟩⟩⟩
   refine vc_path [.pan (tE 10)] ?_
   simp
   exact⟨.want_f _,tE_free 10,[.sl 1 (t.map dU)],leL_map _ _ _ 3 [.sl 1 (t.map dU)],by simp⟩
  rw [if_pos hk3] at h
  have hk:c.toNat=3:=(hcn 3).1 hk3
  refine⟨fun h=>absurd h hn1,fun _=>⟨fun h=>absurd h hn2,fun _=>⟨fun _=>?_,fun h=>absurd (by omega) h⟩⟩⟩
  cases hdp:deep with
  | none =>
   have hlt':¬ (dp:Int)<16:=by have:=hnone hdp;omega
   refine vc_path [.pan (tE 10)] ?_
   simp [hlt']
   exact⟨.want_f _,tE_free 10,[.sl 1 (t.map dU)],leL_map _ _ _ 3 [.sl 1 (t.map dU)],by simp⟩
  | some p =>
   obtain⟨hlt,hp⟩:=hdeep p hdp
   have hlt':(dp:Int)<16:=by omega
   rw [hdp,Option.bind_some] at h
   refine vc_path [.ret (.tup [])] ?_
   simp [hlt']
   refine⟨.want_t _,.tup (by simp),regS_path [] ?_⟩
   simp
   cases hx:pNum 0 t with
   | none =>
    refine icall_T (TB _ _ _ _) (hcall_of_bcall (length_no1 t hx)) ?_
    refine⟨0,_,_,rfl,rfl,rfl,fun cs' _ h1=>?_⟩
    simp
    exact⟨cs',leL_map _ _ _ _ _,h1⟩
   | some x =>
    obtain⟨u,r1⟩:=x
    rw [hx,Option.bind_some] at h
    simp only at h
    rcases Nat.lt_or_ge r1.length u with hu | hu
    ·refine icall_T (TB _ _ _ _) (hcall_of_bcall (length_no2 t r1 u hx hu)) ?_
     refine⟨0,_,_,rfl,rfl,rfl,fun cs' _ h1=>?_⟩
     simp
     exact⟨cs',leL_map _ _ _ _ _,h1⟩
    rw [if_pos hu] at h
    have hy:pVs p u r1=none:=by simpa using h
    have hr1l:=pNum_len hx
    refine icall_T (TB _ _ _ _) (hcall_of_bcall (length_ok t r1 u hx hu)) ?_
    refine⟨0,_,_,rfl,rfl,rfl,?_⟩
    simp
    have hkI:(c.toNat:Int)=3:=by omega
    refine vc_loopK [0,1,4,36] (Nat×List Vl×List UInt8) (fun x=>[(37,true,.d (dI x.1))]) (fun x=>[(0,.box true [.d (.sl 1 (x.2.2.map dU))]),(1,.box true [.d (dI 3),.d (dI 0),.d (dZ []),.own 2 4 (x.2.1.map dV)]),(2,.row)])
     (fun x=>x.1≤u∧x.2.1.length=x.1∧x.2.2.length≤r1.length∧pVs p (u-x.1) x.2.2=none) (fun x=>u-x.1) (0,[],r1) ⟨by omega,rfl,Nat.le_refl _,by rw [Nat.sub_zero,hy]⟩ ⟨[],[(2,4)],?_⟩ (fun x hx=>?_)
    ·simp [hkI]
     exact LeD.refl _
    obtain⟨i,es,rest⟩:=x
    obtain⟨g1,g2,g3,g4⟩:=hx
    simp only at g1 g2 g3 g4
    simp
    refine⟨fun hlt=>?_,fun hge=>?_⟩
    ·have hwd:IntKind.i64.wrap ((dp:Int)+1)=((dp+1:Nat):Int):=by rw [wrap64 (by omega)];omega
     have hwi:IntKind.i64.wrap ((i:Int)+1)=((i+1:Nat):Int):=by rw [wrap64 (by omega)];omega
     rw [show u-i=(u-(i+1))+1 by omega,pVs] at g4
     refine regI_path [] [] [] ?_
     simp [hwd]
     cases hq:p rest with
     | none =>
      have hB:=hp.2 rest (by omega) hq
      rw [show ((dp+1:Nat):Int)=(dp:Int)+1 by omega] at hB
      refine⟨rfl,icallD_T (TB _ _ _ _) (hcall_of_bcall hB) ?_⟩
      refine⟨0,_,_,rfl,rfl,rfl,fun cs' _ h1=>?_⟩
      simp
      exact⟨cs',leL_map _ _ _ _ _,h1⟩
     | some z =>
      obtain⟨w,rest2⟩:=z
      rw [hq,Option.bind_some] at g4
      obtain⟨hB,hlr⟩:=hp.1 rest w rest2 (by omega) hq
      rw [show ((dp+1:Nat):Int)=(dp:Int)+1 by omega] at hB
      refine⟨rfl,icallD_T (TB _ _ _ _) (hcall_of_bcall hB) ?_⟩
      refine⟨0,_,_,rfl,rfl,rfl,?_⟩
      simp
      refine⟨rfl,⟨by omega,by omega⟩,i+1,es++[w],rest2,⟨by omega,by simp [g2],by omega,by simpa using g4⟩,by omega,[(2,4)],[],?_⟩
      simp [hwi]
    ·have hiu:u-i=0:=by omega
     rw [hiu,pVs] at g4
     cases g4
theorem pV1_len{deep:Option (List UInt8→Option (Vl×List UInt8))}{d:Nat}{b r:List UInt8}{v:Vl}(h:pV d b=some (v,r)):r.length≤b.length:=by
 have:=(pV_sound d b v r h).1
 rw [this,List.length_append];omega
theorem valOk:∀ d:Nat,d≤16→ValOk (16-d) (pV d)
 | 0,_=>⟨fun b v r hb h=>⟨val1_ok 16 none (by omega) (fun p hp=>by cases hp) b r v hb h,pV1_len (deep:=none) h⟩,fun b hb h=>val1_no 16 none (by omega) (fun p hp=>by cases hp) (fun _=>rfl) b hb h⟩
 | d+1,hd=>by
  have ih:=valOk d (by omega)
  have hdeep:∀ p,some (pV d)=some p→16-(d+1)<16∧ValOk (16-(d+1)+1) p:=fun p hp=>by
   injection hp with hp;subst hp
   exact⟨by omega,by rw [show 16-(d+1)+1=16-d by omega];exact ih⟩
  exact⟨fun b v r hb h=>⟨val1_ok (16-(d+1)) (some (pV d)) (by omega) hdeep b r v hb h,pV1_len (deep:=none) h⟩,fun b hb h=>val1_no (16-(d+1)) (some (pV d)) (by omega) hdeep (fun h=>by cases h) b hb h⟩
def zV:Vl:=.mk 0 0 [] []
def decL (b:List UInt8):Vl:=(decV b).getD zV
def decE (b:List UInt8):Int:=if (decV b).isSome then 0 else 10
theorem leZV:LeD (.agg [dI 0,dI 0,.lit (.string ⟨#[]⟩),.nil 4]) (dV zV):=by
 rw [zV,dV_eq]
 exact LeD.agg (.cons (LeD.refl _) (.cons (LeD.refl _) (.cons (LeD.refl _) (.cons (LeD.nil 4) .nil)))) (by simp)
theorem decode(b:List UInt8) (hb:b.length≤1099511627776):PCall Tryz.prog 91 [.sl 1 (b.map dU)] (.ret (.tup [dV (decL b),dI (decE b)])):=by
 refine pcall_of_vc h527 c91 (by simp [a91]) fun hr=>?_
 simp [a91]
 refine regS_path [] ?_
 simp
 refine regS_path [] ?_
 simp
 have hv:=valOk 16 (by omega)
 rw [Nat.sub_self] at hv
 cases hp:pV 16 b with
 | none =>
  have e1:decV b=none:=by unfold decV;rw [hp]
  have e2:decL b=zV:=by unfold decL;rw [e1];rfl
  have e3:decE b=10:=by unfold decE;rw [e1];rfl
  rw [e2,e3]
  refine icall_T (TB _ _ _ _) (hcall_of_bcall (hv.2 b hb hp)) ?_
  refine⟨2,_,_,rfl,rfl,rfl,fun cs' _ h1=>?_⟩
  simp
  refine leave_fn (TR Tryz.prog a129) (dcall_of_vcR c129) ?_
  simp [a129,tE]
  exact⟨rfl,leZV⟩
 | some x =>
  obtain⟨v,r⟩:=x
  refine icall_T (TB _ _ _ _) (hcall_of_bcall (hv.1 b v r hb hp).1) ?_
  refine⟨2,_,_,rfl,rfl,rfl,?_⟩
  simp
  cases r with
  | nil =>
   have e1:decV b=some v:=by unfold decV;rw [hp]
   have e2:decL b=v:=by unfold decL;rw [e1];rfl
   have e3:decE b=0:=by unfold decE;rw [e1];rfl
   rw [e2,e3]
   refine vc_path [.ret (.tup [])] ?_
   simp
   refine⟨.want_t _,.tup (by simp),?_⟩
   refine leave_fn (TR Tryz.prog a129) (dcall_of_vcR c129) ?_
   simp [a129,tE]
   exact leD_of_eq (dV_agg v).symm
  | cons c r =>
   have e1:decV b=none:=by unfold decV;rw [hp]
   have e2:decL b=zV:=by unfold decL;rw [e1];rfl
   have e3:decE b=10:=by unfold decE;rw [e1];rfl
   rw [e2,e3]
   refine vc_path [.pan (tE 10)] ?_
   simp
   refine⟨.want_f _,tE_free 10,?_⟩
   refine leave_fn (TR Tryz.prog a129) (dcall_of_vcR c129) ?_
   simp [a129,tE]
   exact⟨rfl,leZV⟩
abbrev rB (B:List UInt8) (a:Nat) (bad:Bool):List D:=[.sl 1 (B.map dU),dI a,dB bad]
theorem drop_get{B t:List UInt8}{a:Nat}{c:UInt8}(h:B.drop a=c::t):∃ hl:a<B.length,B[a]=c∧B.drop (a+1)=t:=by
 have hl:a<B.length:=by
  rcases Nat.lt_or_ge a B.length with h' | h'
  ·exact h'
  ·rw [List.drop_eq_nil_of_le h'] at h;cases h
 rw [List.drop_eq_getElem_cons hl] at h
 injection h with h1 h2
 exact⟨hl,h1,h2⟩
theorem rNext_ok(B t:List UInt8) (a:Nat) (c:UInt8) (h:B.drop a=c::t):BCall Tryz.prog 155 (rB B a false) [] (.ret (dU c)) (fun x=>x=rB B (a+1) false):=by
 refine bcall_of_vc noC c155 (by simp [a155]) fun hr1 hr=>?_
 have hlen:=(hr1 (.sl 1 (B.map dU)) (by simp)).sl.1
 simp at hlen
 obtain⟨hl,he,hd⟩:=drop_get h
 have hw1:IntKind.i64.wrap ((a:Int)+1)=(a:Int)+1:=wrap64 (by omega)
 have hw2:IntKind.i64.wrap (a:Int)=(a:Int):=wrap64 (by omega)
 have hl2:(a:Int)<B.length:=by omega
 have hge:¬ (B.length:Int)≤(a:Int):=by omega
 simp [a155,hge,hw1,hw2,hl,hl2,he]
 exact⟨rfl,⟨rfl,rfl,rfl⟩,rfl⟩
theorem rNext_end(B:List UInt8) (a:Nat) (h:B.drop a=[]) (ha:a≤B.length):BCall Tryz.prog 155 (rB B a false) [] (.ret (dU 0)) (fun x=>x=rB B a true):=by
 refine bcall_of_vc noC c155 (by simp [a155]) fun hr1 hr=>?_
 have hge:(B.length:Int)≤(a:Int):=by have:=List.drop_eq_nil_iff.1 h;omega
 simp [a155,hge]
 exact⟨rfl,LeD.refl _⟩
theorem rnum_arith(i acc:Nat) (c:UInt8) (g1:i≤9) (g2:acc<128 ^ i) (hgood2:i<9∨c≤1):∃ q sm:Nat,q=c.toNat % 128*128 ^ i∧sm=acc+q∧sm<128 ^ (i+1) ∧
  shiftV true IntKind.u64 (IntKind.u64.wrap ((c.toNat:Int).tmod 128)) (7*(i:Int))=.int .u64 (q:Int) ∧
  IntKind.u64.wrap ((acc:Int)+(q:Int))=(sm:Int):=by
 obtain⟨q,sm,hq,hsm,hsm2,e2,e3⟩:=num_arith i acc c g1 g2 hgood2
 have hcl:=c.toNat_lt
 have h1:IntKind.u8.wrap ((c.toNat % 128:Nat):Int)=((c.toNat % 128:Nat):Int):=by simp [IntKind.wrap,IntKind.bits,IntKind.signed];omega
 rw [and127 _ hcl,h1] at e2
 have h9:(128:Nat) ^ 9=9223372036854775808:=by decide
 have hp128:128 ^ i≤128 ^ 9:=Nat.pow_le_pow_right (by omega) g1
 have hprod:q≤9223372036854775808:=by
  rcases hgood2 with h | h
  ·have h8:128 ^ i*128≤9223372036854775808:=by
    rw [← Nat.pow_succ,← h9];exact Nat.pow_le_pow_right (by omega) (by omega)
   have h2:c.toNat % 128*128 ^ i≤128*128 ^ i:=Nat.mul_le_mul_right _ (by omega)
   rw [Nat.mul_comm 128] at h2;omega
  ·rw [UInt8.le_iff_toNat_le] at h
   have h:c.toNat≤1:=h
   have h2:c.toNat % 128*128 ^ i≤1*128 ^ i:=Nat.mul_le_mul_right _ (by omega)
   omega
 have htm:(c.toNat:Int).tmod 128=((c.toNat % 128:Nat):Int):=by rw [Int.tmod_eq_emod_of_nonneg (by omega)];omega
 rw [← htm] at e2
 exact⟨q,sm,hq,hsm,hsm2,e2,by rw [hsm,wrap_u64 (by omega) (by omega)];omega⟩
theorem rNumber_ok(B r:List UInt8) (a u:Nat) (ha:a≤B.length) (h:pNum 0 (B.drop a)=some (u,r)):BCall Tryz.prog 156 (rB B a false) [] (.ret (.lit (.int .u64 u))) (fun x=>∃ a',a'≤B.length∧B.drop a'=r∧x=rB B a' false):=by
 refine bcall_of_vc noC c156 (by simp [a156]) fun hr1 hr=>?_
 have hlen:=(hr1 (.sl 1 (B.map dU)) (by simp)).sl.1
 simp at hlen
 simp [a156]
 refine vc_loopK [0] (Nat×Nat×Nat) (fun x=>[(4,true,.d (dI x.1)),(3,true,.d (.lit (.int .u64 x.2.1)))]) (fun x=>[(0,.box true [.d (.sl 1 (B.map dU)),.d (dI x.2.2),.d (dB false)])]) (fun x=>x.1≤9∧x.2.1<128 ^ x.1∧x.2.2≤B.length∧(pNum x.1 (B.drop x.2.2)).map (fun y=>(x.2.1+y.1*128 ^ x.1,y.2))=some (u,r)) (fun x=>B.length-x.2.2) (0,0,a) ⟨by omega,by simp,ha,by rw [h];simp⟩ ⟨[],[],?_⟩ (fun x hx=>?_)
 ·simp
 obtain⟨i,acc,p⟩:=x
 obtain⟨g1,g2,g4,g3⟩:=hx
 simp only at g1 g2 g3 g4
 simp
 cases hdr:B.drop p with
 | nil=>rw [hdr] at g3;simp [pNum] at g3
 | cons c t =>
  rw [hdr] at g3
  obtain⟨hpl,_,hdt⟩:=drop_get hdr
  refine regS_path [] ?_
  simp
  refine icall_T (TB _ _ _ _) (hcall_of_bcall (rNext_ok B t p c hdr)) ?_
  refine⟨0,_,_,rfl,rfl,rfl,?_⟩
  simp [dU]
  have hgood:(i=0∨c≠0)∧(i<9∨c≤1):=by
   rcases Classical.em ((i=0∨c≠0)∧(i<9∨c≤1)) with h | h
   ·exact h
   ·rw [pNum,if_neg h] at g3;cases g3
  have hcl:=c.toNat_lt
  have e1:IntKind.i64.wrap (7*(i:Int))=7*(i:Int):=wrap64 (by omega)
  obtain⟨q,sm,hq,hsm,hsm2,e2,e3⟩:=rnum_arith i acc c g1 g2 hgood.2
  have hpow:128 ^ (i+1)=128 ^ i*128:=Nat.pow_succ ..
  rw [pNum,if_pos hgood] at g3
  have hlt8:(c.toNat:Int)<128↔c<128:=by rw [UInt8.lt_iff_toNat_lt];show _↔c.toNat<128;omega
  have hi1:IntKind.i64.wrap ((i:Int)+1)=((i+1:Nat):Int):=by rw [wrap64 (by omega)];omega
  have hend:((c.toNat:Int)<128→sm=u∧t=r)∧(128≤(c.toNat:Int)→i<9∧(pNum (i+1) t).map (fun y=>(sm+y.1*128 ^ (i+1),y.2))=some (u,r)):=by
   refine⟨fun h=>?_,fun h=>?_⟩
   ·rw [if_pos (hlt8.1 h)] at g3
    simp at g3
    have:c.toNat % 128=c.toNat:=by omega
    rw [this] at hq
    exact⟨by omega,g3.2⟩
   ·rw [if_neg (fun h2=>by have:=hlt8.2 h2;omega)] at g3
    refine⟨?_,?_⟩
    ·rcases hgood.2 with h3 | h3
     ·exact h3
     ·rw [UInt8.le_iff_toNat_le] at h3;have h3:c.toNat≤1:=h3;omega
    rw [← g3,Option.map_map]
    congr 1
    funext y
    simp only [Function.comp,Prod.mk.injEq,and_true]
    rw [hsm,hq,hpow,Nat.add_mul,← Nat.mul_assoc,Nat.mul_comm 128 y.1,Nat.mul_assoc y.1,Nat.mul_assoc y.1,Nat.mul_comm (128 ^ i) 128]
    omega
  have hc3:((i:Int) == 9)=false∧¬ 0<i∨((i:Int) == 9)=false∧0<i∧¬ c.toNat=0∨((i:Int) == 9)=true∧¬ (1:Int)<(c.toNat:Int)∧0<i∧¬ c.toNat=0:=by
   have hg1:i=0∨¬ c.toNat=0:=hgood.1.imp id (fun h h2=>h (by rw [← UInt8.toNat_inj];simpa using h2))
   have hg2:i<9∨c.toNat≤1:=hgood.2.imp id (fun h=>by rw [UInt8.le_iff_toNat_le] at h;exact h)
   by_cases h0:i=0
   ·exact .inl ⟨by simp;omega,by omega⟩
   ·have h1:=hg1.resolve_left h0
    by_cases h9':i<9
    ·exact .inr (.inl ⟨by simp;omega,by omega,h1⟩)
    ·exact .inr (.inr ⟨by simp;omega,by have:=hg2.resolve_left h9';omega,by omega,h1⟩)
  clear g3 hgood
  rcases hc3 with ⟨b1,b2⟩ | ⟨b1,b2,b3⟩ | ⟨b1,b2,b3,b4⟩
  ·refine vc_path [] ?_
   simp [e1,e2,e3,b1,b2]
   rw [show ((p:Int)+1)=((p+1:Nat):Int) by omega]
   refine⟨by omega,fun h=>?_,fun h=>?_⟩
   ·obtain⟨rfl,rfl⟩:=hend.1 h
    exact⟨LeD.refl _,_,⟨p+1,by omega,hdt,rfl⟩,leL_map _ _ _ 3 (rB B (p+1) false),by simp⟩
   ·obtain⟨k1,k2⟩:=hend.2 h
    refine⟨i+1,sm,p+1,⟨by omega,hsm2,by omega,by rw [hdt];simpa using k2⟩,by omega,[],[],?_⟩
    simp [hi1]
  ·refine vc_path [] ?_
   simp [e1,e2,e3,b1,b2,b3]
   rw [show ((p:Int)+1)=((p+1:Nat):Int) by omega]
   refine⟨by omega,fun h=>?_,fun h=>?_⟩
   ·obtain⟨rfl,rfl⟩:=hend.1 h
    exact⟨LeD.refl _,_,⟨p+1,by omega,hdt,rfl⟩,leL_map _ _ _ 3 (rB B (p+1) false),by simp⟩
   ·obtain⟨k1,k2⟩:=hend.2 h
    refine⟨i+1,sm,p+1,⟨by omega,hsm2,by omega,by rw [hdt];simpa using k2⟩,by omega,[],[],?_⟩
    simp [hi1]
  ·refine vc_path [] ?_
   simp [e1,e2,e3,b1,b2,b3,b4]
   rw [show ((p:Int)+1)=((p+1:Nat):Int) by omega]
   refine⟨by omega,fun h=>?_,fun h=>?_⟩
   ·obtain⟨rfl,rfl⟩:=hend.1 h
    exact⟨LeD.refl _,_,⟨p+1,by omega,hdt,rfl⟩,leL_map _ _ _ 3 (rB B (p+1) false),by simp⟩
   ·obtain⟨k1,k2⟩:=hend.2 h
    refine⟨i+1,sm,p+1,⟨by omega,hsm2,by omega,by rw [hdt];simpa using k2⟩,by omega,[],[],?_⟩
    simp [hi1]
theorem rNumber_no(B:List UInt8) (a:Nat) (ha:a≤B.length) (h:pNum 0 (B.drop a)=none):BCall Tryz.prog 156 (rB B a false) [] (.ret (.lit (.int .u64 0))) (fun x=>∃ a',a'≤B.length∧x=rB B a' true):=by
 refine bcall_of_vc noC c156 (by simp [a156]) fun hr1 hr=>?_
 have hlen:=(hr1 (.sl 1 (B.map dU)) (by simp)).sl.1
 simp at hlen
 simp [a156]
 refine vc_loopK [0] (Nat×Nat×Nat) (fun x=>[(4,true,.d (dI x.1)),(3,true,.d (.lit (.int .u64 x.2.1)))]) (fun x=>[(0,.box true [.d (.sl 1 (B.map dU)),.d (dI x.2.2),.d (dB false)])]) (fun x=>x.1≤9∧x.2.1<128 ^ x.1∧x.2.2≤B.length∧pNum x.1 (B.drop x.2.2)=none) (fun x=>B.length-x.2.2) (0,0,a) ⟨by omega,by simp,ha,h⟩ ⟨[],[],?_⟩ (fun x hx=>?_)
 ·simp
 obtain⟨i,acc,p⟩:=x
 obtain⟨g1,g2,g4,g3⟩:=hx
 simp only at g1 g2 g3 g4
 simp
 cases hdr:B.drop p with
 | nil =>
  refine regS_path [] ?_
  simp
  refine icall_T (TB _ _ _ _) (hcall_of_bcall (rNext_end B p hdr g4)) ?_
  refine⟨0,_,_,rfl,rfl,rfl,?_⟩
  simp [dU]
  by_cases h0:i=0
  ·subst h0
   have hacc:acc=0:=by simpa using g2
   subst hacc
   have w1:IntKind.i64.wrap 0=0:=by decide
   have w2:IntKind.u64.wrap 0=0:=by decide
   have hsh:shiftV true IntKind.u64 0 0=.int .u64 0:=by simp [shiftV,w2]
   refine vc_path [] ?_
   simp [w1,w2,hsh]
   exact⟨_,⟨p,g4,rfl⟩,leL_map _ _ _ 3 (rB B p true),by simp⟩
  ·have b1:0<i:=by omega
   refine vc_path [] ?_
   by_cases h9:i=9
   ·have b2:((i:Int) == 9)=true:=by simp;omega
    simp [b1,b2]
    exact⟨_,⟨p,g4,rfl⟩,leL_map _ _ _ 3 (rB B p true),by simp⟩
   ·have b2:((i:Int) == 9)=false:=by simp;omega
    simp [b1,b2]
    exact⟨_,⟨p,g4,rfl⟩,leL_map _ _ _ 3 (rB B p true),by simp⟩
 | cons c t =>
  rw [hdr] at g3
  obtain⟨hpl,_,hdt⟩:=drop_get hdr
  refine regS_path [] ?_
  simp
  refine icall_T (TB _ _ _ _) (hcall_of_bcall (rNext_ok B t p c hdr)) ?_
  refine⟨0,_,_,rfl,rfl,rfl,?_⟩
  simp [dU]
  have hcl:=c.toNat_lt
  have e1:IntKind.i64.wrap (7*(i:Int))=7*(i:Int):=wrap64 (by omega)
  by_cases hgood:(i=0∨c≠0)∧(i<9∨c≤1)
  ·obtain⟨q,sm,hq,hsm,hsm2,e2,e3⟩:=rnum_arith i acc c g1 g2 hgood.2
   rw [pNum,if_pos hgood] at g3
   have hlt8:(c.toNat:Int)<128↔c<128:=by rw [UInt8.lt_iff_toNat_lt];show _↔c.toNat<128;omega
   have hge:¬ (c.toNat:Int)<128:=fun h=>by rw [if_pos (hlt8.1 h)] at g3;cases g3
   rw [if_neg (fun h=>hge (hlt8.2 h))] at g3
   have g5:pNum (i+1) t=none:=by simpa using g3
   have b0:i<9:=by
    rcases hgood.2 with h | h
    ·exact h
    ·rw [UInt8.le_iff_toNat_le] at h;have h:c.toNat≤1:=h;omega
   have b1:((i:Int) == 9)=false:=by simp;omega
   have hi1:IntKind.i64.wrap ((i:Int)+1)=((i+1:Nat):Int):=by rw [wrap64 (by omega)];omega
   have hge2:(128:Int)≤c.toNat:=by omega
   have b3:¬ c.toNat=0:=by omega
   clear g3 hgood
   by_cases b2:0<i
   ·refine vc_path [] ?_
    simp [e1,e2,e3,b1,b2,b3]
    rw [show ((p:Int)+1)=((p+1:Nat):Int) by omega]
    refine⟨by omega,fun h=>absurd h hge,fun _=>⟨i+1,sm,p+1,⟨by omega,hsm2,by omega,by rw [hdt];exact g5⟩,by omega,[],[],?_⟩⟩
    simp [hi1]
   ·refine vc_path [] ?_
    simp [e1,e2,e3,b1,b2,b3]
    rw [show ((p:Int)+1)=((p+1:Nat):Int) by omega]
    refine⟨by omega,fun h=>absurd h hge,fun _=>⟨i+1,sm,p+1,⟨by omega,hsm2,by omega,by rw [hdt];exact g5⟩,by omega,[],[],?_⟩⟩
    simp [hi1]
  ·have hc3:((i:Int) == 9)=true∧(1:Int)<(c.toNat:Int)∨((i:Int) == 9)=true∧¬ (1:Int)<(c.toNat:Int)∧0<i∧c.toNat=0∨((i:Int) == 9)=false∧0<i∧c.toNat=0:=by
    by_cases h9:i=9
    ·by_cases h1:(1:Int)<(c.toNat:Int)
     ·exact .inl ⟨by simp;omega,h1⟩
     ·have h2:c≤1:=by rw [UInt8.le_iff_toNat_le];show c.toNat≤1;omega
      have h3:c=0:=Classical.byContradiction fun h=>hgood ⟨.inr h,.inr h2⟩
      exact .inr (.inl ⟨by simp;omega,h1,by omega,by simp [h3]⟩)
    ·have h3:i≠0∧c=0:=by
      refine⟨fun h=>hgood ⟨.inl h,.inl (by omega)⟩,Classical.byContradiction fun h=>hgood ⟨.inr h,.inl (by omega)⟩⟩
     exact .inr (.inr ⟨by simp;omega,by omega,by simp [h3.2]⟩)
   clear g3 hgood
   rcases hc3 with ⟨b1,b2⟩ | ⟨b1,b2,b3,b4⟩ | ⟨b1,b2,b3⟩
   ·refine vc_path [] ?_
    simp [b1,b2]
    rw [show ((p:Int)+1)=((p+1:Nat):Int) by omega]
    exact⟨_,⟨p+1,by omega,rfl⟩,leL_map _ _ _ 3 (rB B (p+1) true),by simp⟩
   ·refine vc_path [] ?_
    simp [b1,b2,b3,b4]
    rw [show ((p:Int)+1)=((p+1:Nat):Int) by omega]
    exact⟨_,⟨p+1,by omega,rfl⟩,leL_map _ _ _ 3 (rB B (p+1) true),by simp⟩
   ·refine vc_path [] ?_
    simp [b1,b2,b3]
    rw [show ((p:Int)+1)=((p+1:Nat):Int) by omega]
    exact⟨_,⟨p+1,by omega,rfl⟩,leL_map _ _ _ 3 (rB B (p+1) true),by simp⟩
def gVs (p:List UInt8→Option (Vl×List UInt8)) (f:List UInt8→Vl):Nat→List UInt8→List Vl
 | 0,_=>[]
 | n+1,b=>match p b with
  | some x=>x.1::gVs p f n x.2
  | none=>[f b]
def gV1 (deep:Option ((List UInt8→Option (Vl×List UInt8))×(List UInt8→Vl))):List UInt8→Vl
 | []=>zV
 | k::r=>if k=1 then .mk 1 0 [] []
  else if k=2 then zV
  else if k=3 then (match deep with
   | none=>zV
   | some q=>match pNum 0 r with
    | none=>zV
    | some x=>if x.1≤x.2.length then .mk 3 0 [] (gVs q.1 q.2 x.1 x.2) else zV)
  else zV
def gV:Nat→List UInt8→Vl
 | 0=>gV1 none
 | d+1=>gV1 (some (pV d,gV d))
def RVal (dp:Nat) (p:List UInt8→Option (Vl×List UInt8)) (f:List UInt8→Vl):Prop :=
 (∀ (B r:List UInt8) (a:Nat) (v:Vl),B.length≤1099511627776→a≤B.length→p (B.drop a)=some (v,r)→BCall Tryz.prog 132 (rB B a false) [dI dp] (.ret (dV v)) (fun x=>∃ a',a'≤B.length∧B.drop a'=r∧x=rB B a' false)) ∧
 (∀ (B:List UInt8) (a:Nat),B.length≤1099511627776→a≤B.length→p (B.drop a)=none→BCall Tryz.prog 132 (rB B a false) [dI dp] (.ret (dV (f (B.drop a)))) (fun x=>∃ a',a'≤B.length∧x=rB B a' true))
theorem rval1_ok(dp:Nat) (deep:Option (List UInt8→Option (Vl×List UInt8))) (f:List UInt8→Vl) (hd:dp≤16) (hdeep:∀ p,deep=some p→dp<16∧RVal (dp+1) p f) (B r:List UInt8) (a:Nat) (v:Vl) (hb:B.length≤1099511627776) (ha:a≤B.length) (h:pV1 deep (B.drop a)=some (v,r)) :
  BCall Tryz.prog 132 (rB B a false) [dI dp] (.ret (dV v)) (fun x=>∃ a',a'≤B.length∧B.drop a'=r∧x=rB B a' false):=by
 refine bcall_of_vc noC c132 (by simp [a132]) fun hr1 hr=>?_
 simp [a132]
 cases hdr:B.drop a with
 | nil=>rw [hdr] at h;simp [pV1] at h
 | cons c t =>
  rw [hdr] at h
  obtain⟨hpl,_,hdt⟩:=drop_get hdr
  refine regS_path [] ?_
  simp
  refine icall_T (TB _ _ _ _) (hcall_of_bcall (rNext_ok B t a c hdr)) ?_
  refine⟨0,_,_,rfl,rfl,rfl,?_⟩
  simp
  have hcl:=c.toNat_lt
  have hcn:∀ k:UInt8,c=k↔c.toNat=k.toNat:=fun k=>UInt8.toNat_inj.symm
  simp [dU]
  rw [pV1] at h
  rw [show ((a:Int)+1)=((a+1:Nat):Int) by omega]
  by_cases hk1:c=1
  ·rw [if_pos hk1] at h
   cases hx:pNum 0 t with
   | none=>rw [hx] at h;cases h
   | some x =>
    obtain⟨u,r1⟩:=x
    rw [hx] at h
    simp at h
    obtain⟨rfl,rfl⟩:=h
    have hk:c.toNat=1:=(hcn 1).1 hk1
    have hul:=pNum_lt hx
    refine⟨fun _=>?_,fun h=>absurd (by omega) h⟩
    refine regS_path [] ?_
    simp
    refine icall_T (TB _ _ _ _) (hcall_of_bcall (rNumber_ok B r1 (a+1) u (by omega) (by rw [hdt];exact hx))) ?_
    refine⟨0,_,_,rfl,rfl,rfl,?_⟩
    rintro cs' ⟨a',q1,q2,rfl⟩ _
    simp
    have w1:IntKind.u64.wrap ((u:Int) / 2)=((u / 2:Nat):Int):=by rw [wrap_u64 (by omega) (by omega)];omega
    have w2:IntKind.i64.wrap ((u / 2:Nat):Int)=((u / 2:Nat):Int):=wrap64 (by omega)
    have w3:IntKind.i64.wrap (-((u / 2:Nat):Int))=-((u / 2:Nat):Int):=wrap64 (by omega)
    have w4:IntKind.i64.wrap (-((u / 2:Nat):Int)-1)=-((u / 2:Nat):Int)-1:=wrap64 (by omega)
    have htm:(u:Int).tmod 2=((u % 2:Nat):Int):=by rw [Int.tmod_eq_emod_of_nonneg (by omega)];omega
    have hbox:∃ cs',(∃ a',a'≤B.length∧List.drop a' B=r1∧cs'=rB B a' false)∧leA.leL noRen noNew noOk 3 [AV.d (D.sl 1 (List.map dU B)),AV.d (D.lit (Value.int IntKind.i64 (a':Int))),AV.d (D.lit (Value.bool false))] (List.map AV.d cs')∧∀ (c:D),c∈cs'→c.one=true :=
     ⟨_,⟨a',q1,q2,rfl⟩,leL_map _ _ _ 3 (rB B a' false),by simp⟩
    rw [w1,w2,w3,w4,htm,dV_eq]
    refine⟨fun h=>⟨LeD.agg (.cons (LeD.refl _) (.cons (leD_of_eq ?_) (.cons (LeD.refl _) (.cons (LeD.nil 4) .nil)))) (by simp),hbox⟩,fun h=>⟨LeD.agg (.cons (LeD.refl _) (.cons (leD_of_eq ?_) (.cons (LeD.refl _) (.cons (LeD.nil 4) .nil)))) (by simp),hbox⟩⟩
    ·unfold sgn;rw [if_pos (by omega)];rfl
    ·unfold sgn;rw [if_neg (by omega)];rfl
  rw [if_neg hk1] at h
  have hn1:¬ (c.toNat:Int)=1:=fun h=>hk1 ((hcn 1).2 (by show c.toNat=1;omega))
  by_cases hk2:c=2
  ·rw [if_pos hk2] at h
   cases hx:pNum 0 t with
   | none=>rw [hx] at h;cases h
   | some x =>
    obtain⟨u,r1⟩:=x
    rw [hx,Option.bind_some] at h
    simp only at h
    split at h
    case isFalse=>cases h
    case isTrue hu =>
    simp at h
    obtain⟨rfl,rfl⟩:=h
    have hk:c.toNat=2:=(hcn 2).1 hk2
    refine⟨fun h=>absurd h hn1,fun _=>⟨fun _=>?_,fun h=>absurd (by omega) h⟩⟩
    refine regS_path [] ?_
    simp
    refine icall_T (TB _ _ _ _) (hcall_of_bcall (rNumber_ok B r1 (a+1) u (by omega) (by rw [hdt];exact hx))) ?_
    refine⟨0,_,_,rfl,rfl,rfl,?_⟩
    rintro cs' ⟨a',q1,q2,rfl⟩ _
    have hr1l:r1.length=B.length-a':=by rw [← q2,List.length_drop]
    have hs1:IntKind.i64.wrap ((B.length:Int)-(a':Int))=(r1.length:Int):=by rw [wrap64 (by omega)];omega
    have hs2:IntKind.u64.wrap (r1.length:Int)=(r1.length:Int):=wrap_u64 (by omega) (by omega)
    have hs3:¬ (r1.length:Int)<(u:Int):=by omega
    have hs4:IntKind.i64.wrap (u:Int)=u:=wrap64 (by omega)
    have hs5:IntKind.i64.wrap ((a':Int)+(u:Int))=(a':Int)+(u:Int):=wrap64 (by omega)
    have hs6:IntKind.i64.wrap (a':Int)=(a':Int):=wrap64 (by omega)
    simp
    refine vc_pathD [] ?_
    simp [hs1,hs2,hs3,hs4,hs5,hs6]
    have htn:((a':Int)+(u:Int)).toNat=a'+u:=by omega
    have hsl:((B.map dU).take (a'+u)).drop a'=(r1.take u).map dU:=by
     rw [List.drop_take,← List.map_drop,q2,Nat.add_sub_cancel_left,List.map_take]
    rw [htn,hsl,show (a':Int)+(u:Int)=((a'+u:Nat):Int) by omega,dV_eq]
    refine⟨rfl,⟨by omega,by omega⟩,fun e he=>?_,rfl,LeD.agg (.cons (LeD.refl _) (.cons (LeD.refl _) (.cons (leD_of_eq (by rw [bytesOf_map];rfl)) (.cons (LeD.nil 4) .nil)))) (by simp),_,⟨a'+u,by omega,by rw [← q2,List.drop_drop],rfl⟩,leL_map _ _ _ 3 (rB B (a'+u) false),by simp⟩
    obtain⟨y,_,rfl⟩:=List.mem_map.1 he
    rfl
  rw [if_neg hk2] at h
  have hn2:¬ (c.toNat:Int)=2:=fun h=>hk2 ((hcn 2).2 (by show c.toNat=2;omega))
  by_cases hk3:c=3
  case neg=>rw [if_neg hk3] at h;cases h
  rw [if_pos hk3] at h
  have hk:c.toNat=3:=(hcn 3).1 hk3
  cases hdp:deep with
  | none=>rw [hdp] at h;cases h
  | some p =>
   obtain⟨hlt,hp⟩:=hdeep p hdp
   rw [hdp,Option.bind_some] at h
   cases hx:pNum 0 t with
   | none=>rw [hx] at h;cases h
   | some x =>
    obtain⟨u,r1⟩:=x
    rw [hx,Option.bind_some] at h
    simp only at h
    split at h
    case isFalse=>cases h
    case isTrue hu =>
    cases hy:pVs p u r1 with
    | none=>rw [hy] at h;cases h
    | some y =>
     obtain⟨vs,r2⟩:=y
     rw [hy] at h
     simp at h
     obtain⟨rfl,rfl⟩:=h
     have hlt':((dp:Int) == 16)=false:=by simp;omega
     refine⟨fun h=>absurd h hn1,fun _=>⟨fun h=>absurd h hn2,fun _=>⟨fun _=>?_,fun h=>absurd (by omega) h⟩⟩⟩
     refine regS_path [] ?_
     simp
     refine icall_T (TB _ _ _ _) (hcall_of_bcall (rNumber_ok B r1 (a+1) u (by omega) (by rw [hdt];exact hx))) ?_
     refine⟨0,_,_,rfl,rfl,rfl,?_⟩
     rintro cs' ⟨a',q1,q2,rfl⟩ _
     have hr1l:r1.length=B.length-a':=by rw [← q2,List.length_drop]
     have hs1:IntKind.i64.wrap ((B.length:Int)-(a':Int))=(r1.length:Int):=by rw [wrap64 (by omega)];omega
     have hs2:IntKind.u64.wrap (r1.length:Int)=(r1.length:Int):=wrap_u64 (by omega) (by omega)
     have hs3:¬ (r1.length:Int)<(u:Int):=by omega
     simp
     refine vc_pathD [] ?_
     simp [hs1,hs2,hs3,hlt']
     refine⟨rfl,?_⟩
     refine vc_loopK [0,1,4,7,8] (Nat×List Vl×Nat) (fun x=>[(9,true,.d (.lit (.int .u64 x.1)))]) (fun x=>[(0,.box true [.d (.sl 1 (B.map dU)),.d (dI x.2.2),.d (dB false)]),(2,.box true [.d (dI 3),.d (dI 0),.d (dZ []),.own 3 4 (x.2.1.map dV)]),(3,.row)])
      (fun x=>x.1≤u∧x.2.1.length=x.1∧x.2.2≤B.length∧(pVs p (u-x.1) (B.drop x.2.2)).map (fun y=>(x.2.1++y.1,y.2))=some (vs,r2)) (fun x=>u-x.1) (0,[],a') ⟨by omega,rfl,q1,by rw [Nat.sub_zero,q2,hy];rfl⟩ ⟨[],[(3,4)],?_⟩ (fun x hx=>?_)
     ·simp
      exact LeD.refl _
     obtain⟨i,es,q⟩:=x
     obtain⟨g1,g2,g3,g4⟩:=hx
     simp only at g1 g2 g3 g4
     simp
     refine vc_path [] ?_
     by_cases hlt2:i<u
     ·have hwd:IntKind.i64.wrap ((dp:Int)+1)=(dp:Int)+1:=wrap64 (by omega)
      have hwi:IntKind.u64.wrap ((i:Int)+1)=((i+1:Nat):Int):=by rw [wrap_u64 (by omega) (by omega)];omega
      simp [hlt2]
      rw [show u-i=(u-(i+1))+1 by omega,pVs] at g4
      cases hq:p (B.drop q) with
      | none=>rw [hq] at g4;cases g4
      | some z =>
       obtain⟨w,rest2⟩:=z
       rw [hq,Option.bind_some] at g4
       have hB:=hp.1 B rest2 q w hb g3 hq
       rw [show ((dp+1:Nat):Int)=(dp:Int)+1 by omega] at hB
       refine regI_path [] [] [] ?_
       simp [hwd]
       refine⟨rfl,icallD_T (TB _ _ _ _) (hcall_of_bcall hB) ?_⟩
       refine⟨0,_,_,rfl,rfl,rfl,?_⟩
       rintro cs' ⟨q',q3,q4,rfl⟩ _
       simp
       refine⟨rfl,⟨by omega,by omega⟩,i+1,es++[w],q',⟨by omega,by simp [g2],q3,?_⟩,by omega,[(3,5)],[],?_⟩
       ·rw [q4]
        cases hz:pVs p (u-(i+1)) rest2 with
        | none=>rw [hz] at g4;cases g4
        | some z =>
         rw [hz] at g4
         simp at g4
         exact⟨z.1,by rw [← g4.2],by simpa using g4.1⟩
       ·simp [hwi]
     ·have hiu:u-i=0:=by omega
      rw [hiu,pVs] at g4
      simp at g4
      obtain⟨rfl,g5⟩:=g4
      simp [hlt2,dV_eq]
      exact⟨_,⟨q,g3,g5,rfl⟩,leL_map _ _ _ 3 (rB B q false),by simp⟩
theorem gV1_cons(deep:Option ((List UInt8→Option (Vl×List UInt8))×(List UInt8→Vl))) (k:UInt8) (r:List UInt8):gV1 deep (k::r)=if k=1 then .mk 1 0 [] [] else if k=2 then zV else if k=3 then (match deep with | none=>zV | some q=>match pNum 0 r with | none=>zV | some x=>if x.1≤x.2.length then .mk 3 0 [] (gVs q.1 q.2 x.1 x.2) else zV) else zV:=by rw [gV1.eq_def]
theorem leZV':LeD (.agg [.lit (.int .i64 0),.lit (.int .i64 0),.lit (.string ⟨#[]⟩),.nil 4]) (dV zV):=leZV
theorem rval1_no(dp:Nat) (deep:Option ((List UInt8→Option (Vl×List UInt8))×(List UInt8→Vl))) (hd:dp≤16) (hdeep:∀ q,deep=some q→dp<16∧RVal (dp+1) q.1 q.2) (hnone:deep=none→dp=16) (B:List UInt8) (a:Nat) (hb:B.length≤1099511627776) (ha:a≤B.length) (h:pV1 (deep.map (·.1)) (B.drop a)=none) :
  BCall Tryz.prog 132 (rB B a false) [dI dp] (.ret (dV (gV1 deep (B.drop a)))) (fun x=>∃ a',a'≤B.length∧x=rB B a' true):=by
 refine bcall_of_vc noC c132 (by simp [a132]) fun hr1 hr=>?_
 simp [a132]
 cases hdr:B.drop a with
 | nil =>
  refine regS_path [] ?_
  simp
  refine icall_T (TB _ _ _ _) (hcall_of_bcall (rNext_end B a hdr ha)) ?_
  refine⟨0,_,_,rfl,rfl,rfl,?_⟩
  simp [dU,gV1]
  exact⟨leZV',_,⟨a,ha,rfl⟩,leL_map _ _ _ 3 (rB B a true),by simp⟩
 | cons c t =>
  rw [hdr] at h
  obtain⟨hpl,_,hdt⟩:=drop_get hdr
  refine regS_path [] ?_
  simp
  refine icall_T (TB _ _ _ _) (hcall_of_bcall (rNext_ok B t a c hdr)) ?_
  refine⟨0,_,_,rfl,rfl,rfl,?_⟩
  simp
  have hcl:=c.toNat_lt
  have hcn:∀ k:UInt8,c=k↔c.toNat=k.toNat:=fun k=>UInt8.toNat_inj.symm
  simp [dU]
  rw [pV1] at h
  rw [show ((a:Int)+1)=((a+1:Nat):Int) by omega]
  by_cases hk1:c=1
  ·rw [if_pos hk1] at h
   have hz:gV1 deep (c::t)=.mk 1 0 [] []:=by rw [gV1_cons,if_pos hk1]
   rw [hz]
   have hx:pNum 0 t=none:=by simpa using h
   have hk:c.toNat=1:=(hcn 1).1 hk1
   refine⟨fun _=>?_,fun h=>absurd (by omega) h⟩
   refine regS_path [] ?_
   simp
   refine icall_T (TB _ _ _ _) (hcall_of_bcall (rNumber_no B (a+1) (by omega) (by rw [hdt];exact hx))) ?_
   refine⟨0,_,_,rfl,rfl,rfl,?_⟩
   rintro cs' ⟨a',q1,rfl⟩ _
   have w1:IntKind.u64.wrap 0=0:=by decide
   have w2:IntKind.i64.wrap 0=0:=by decide
   simp [w1,w2,dV_eq]
   exact⟨LeD.agg (.cons (LeD.refl _) (.cons (LeD.refl _) (.cons (LeD.refl _) (.cons (LeD.nil 4) .nil)))) (by simp),_,⟨a',q1,rfl⟩,leL_map _ _ _ 3 (rB B a' true),by simp⟩
  rw [if_neg hk1] at h
  have hn1:¬ (c.toNat:Int)=1:=fun h=>hk1 ((hcn 1).2 (by show c.toNat=1;omega))
  by_cases hk2:c=2
  ·rw [if_pos hk2] at h
   have hz:gV1 deep (c::t)=zV:=by rw [gV1_cons,if_neg hk1,if_pos hk2]
   rw [hz]
   have hk:c.toNat=2:=(hcn 2).1 hk2
   refine⟨fun h=>absurd h hn1,fun _=>⟨fun _=>?_,fun h=>absurd (by omega) h⟩⟩
   refine regS_path [] ?_
   simp
   cases hx:pNum 0 t with
   | none =>
    refine icall_T (TB _ _ _ _) (hcall_of_bcall (rNumber_no B (a+1) (by omega) (by rw [hdt];exact hx))) ?_
    refine⟨0,_,_,rfl,rfl,rfl,?_⟩
    rintro cs' ⟨a',q1,rfl⟩ _
    simp
    refine vc_pathD [] ?_
    simp
    exact⟨rfl,leZV',_,⟨a',q1,rfl⟩,leL_map _ _ _ 3 (rB B a' true),by simp⟩
   | some x =>
    obtain⟨u,r1⟩:=x
    rw [hx,Option.bind_some] at h
    simp only at h
    have hu:r1.length<u:=by
     rcases Nat.lt_or_ge r1.length u with h' | h'
     ·exact h'
     ·rw [if_pos h'] at h;cases h
    refine icall_T (TB _ _ _ _) (hcall_of_bcall (rNumber_ok B r1 (a+1) u (by omega) (by rw [hdt];exact hx))) ?_
    refine⟨0,_,_,rfl,rfl,rfl,?_⟩
    rintro cs' ⟨a',q1,q2,rfl⟩ _
    have hr1l:r1.length=B.length-a':=by rw [← q2,List.length_drop]
    have hs1:IntKind.i64.wrap ((B.length:Int)-(a':Int))=(r1.length:Int):=by rw [wrap64 (by omega)];omega
    have hs2:IntKind.u64.wrap (r1.length:Int)=(r1.length:Int):=wrap_u64 (by omega) (by omega)
    have hs3:(r1.length:Int)<(u:Int):=by omega
    simp
    refine vc_pathD [] ?_
    simp [hs1,hs2,hs3]
    exact⟨rfl,leZV',_,⟨a',q1,rfl⟩,leL_map _ _ _ 3 (rB B a' true),by simp⟩
  rw [if_neg hk2] at h
  have hn2:¬ (c.toNat:Int)=2:=fun h=>hk2 ((hcn 2).2 (by show c.toNat=2;omega))
  by_cases hk3:c=3
  case neg =>
   have hz:gV1 deep (c::t)=zV:=by rw [gV1_cons,if_neg hk1,if_neg hk2,if_neg hk3]
   rw [hz]
   have hn3:¬ (c.toNat:Int)=3:=fun h=>hk3 ((hcn 3).2 (by show c.toNat=3;omega))
   refine⟨fun h=>absurd h hn1,fun _=>⟨fun h=>absurd h hn2,fun _=>⟨fun h=>absurd h hn3,fun _=>?_⟩⟩⟩
   exact⟨leZV',_,⟨a+1,by omega,rfl⟩,leL_map _ _ _ 3 (rB B (a+1) true),by simp⟩
  rw [if_pos hk3] at h
  have hk:c.toNat=3:=(hcn 3).1 hk3
  refine⟨fun h=>absurd h hn1,fun _=>⟨fun h=>absurd h hn2,fun _=>⟨fun _=>?_,fun h=>absurd (by omega) h⟩⟩⟩
  refine regS_path [] ?_
  simp
  cases hx:pNum 0 t with
  | none =>
   refine icall_T (TB _ _ _ _) (hcall_of_bcall (rNumber_no B (a+1) (by omega) (by rw [hdt];exact hx))) ?_
   refine⟨0,_,_,rfl,rfl,rfl,?_⟩
   rintro cs' ⟨a',q1,rfl⟩ _
   simp
   have hz:gV1 deep (c::t)=zV:=by
    rw [gV1_cons,if_neg hk1,if_neg hk2,if_pos hk3,hx];cases deep <;> rfl
   rw [hz]
   refine vc_pathD [] ?_
   simp
   exact⟨rfl,leZV',_,⟨a',q1,rfl⟩,leL_map _ _ _ 3 (rB B a' true),by simp⟩
  | some x =>
   obtain⟨u,r1⟩:=x
   refine icall_T (TB _ _ _ _) (hcall_of_bcall (rNumber_ok B r1 (a+1) u (by omega) (by rw [hdt];exact hx))) ?_
   refine⟨0,_,_,rfl,rfl,rfl,?_⟩
   rintro cs' ⟨a',q1,q2,rfl⟩ _
   have hr1l:r1.length=B.length-a':=by rw [← q2,List.length_drop]
   have hs1:IntKind.i64.wrap ((B.length:Int)-(a':Int))=(r1.length:Int):=by rw [wrap64 (by omega)];omega
   have hs2:IntKind.u64.wrap (r1.length:Int)=(r1.length:Int):=wrap_u64 (by omega) (by omega)
   simp
   rcases Nat.lt_or_ge r1.length u with hu | hu
   ·have hs3:(r1.length:Int)<(u:Int):=by omega
    have hz:gV1 deep (c::t)=zV:=by
     rw [gV1_cons,if_neg hk1,if_neg hk2,if_pos hk3,hx]
     cases deep with
     | none=>rfl
     | some q=>simp only;rw [if_neg (by omega)]
    rw [hz]
    refine vc_pathD [] ?_
    simp [hs1,hs2,hs3]
    exact⟨rfl,leZV',_,⟨a',q1,rfl⟩,leL_map _ _ _ 3 (rB B a' true),by simp⟩
   have hs3:¬ (r1.length:Int)<(u:Int):=by omega
   cases hdp:deep with
   | none =>
    have hz:gV1 (none:Option ((List UInt8→Option (Vl×List UInt8))×(List UInt8→Vl))) (c::t)=zV:=by
     rw [gV1_cons,if_neg hk1,if_neg hk2,if_pos hk3]
    rw [hz]
    have hlt':((dp:Int) == 16)=true:=by have:=hnone hdp;simp;omega
    refine vc_pathD [] ?_
    simp [hs1,hs2,hs3,hlt']
    exact⟨rfl,leZV',_,⟨a',q1,rfl⟩,leL_map _ _ _ 3 (rB B a' true),by simp⟩
   | some pf =>
    obtain⟨p,f⟩:=pf
    obtain⟨hlt,hp⟩:=hdeep _ hdp
    simp only at hp
    rw [hdp] at h
    simp only [Option.map_some,Option.bind_some,hx] at h
    rw [if_pos hu] at h
    have hy:pVs p u r1=none:=by simpa using h
    have hz:gV1 (some (p,f)) (c::t)=.mk 3 0 [] (gVs p f u r1):=by
     rw [gV1_cons,if_neg hk1,if_neg hk2,if_pos hk3,hx]
     simp only;rw [if_pos hu]
    rw [hz]
    have hlt':((dp:Int) == 16)=false:=by simp;omega
    refine vc_pathD [] ?_
    simp [hs1,hs2,hs3,hlt']
    refine⟨rfl,?_⟩
    refine vc_loopK [0,1,4,7,8] (Nat×List Vl×Nat×Bool) (fun x=>[(9,true,.d (.lit (.int .u64 x.1)))]) (fun x=>[(0,.box true [.d (.sl 1 (B.map dU)),.d (dI x.2.2.1),.d (dB x.2.2.2)]),(2,.box true [.d (dI 3),.d (dI 0),.d (dZ []),.own 3 4 (x.2.1.map dV)]),(3,.row)])
     (fun x=>x.1≤u∧x.2.1.length=x.1∧x.2.2.1≤B.length∧(if x.2.2.2=true then x.2.1=gVs p f u r1 else pVs p (u-x.1) (B.drop x.2.2.1)=none∧x.2.1++gVs p f (u-x.1) (B.drop x.2.2.1)=gVs p f u r1)) (fun x=>u-x.1) (0,[],a',false) ⟨by omega,rfl,q1,by simp [q2,hy]⟩ ⟨[],[(3,4)],?_⟩ (fun x hx=>?_)
    ·simp
     exact LeD.refl _
    obtain⟨i,es,q,bad⟩:=x
    obtain⟨g1,g2,g3,g4⟩:=hx
    simp only at g1 g2 g3 g4
    simp
    refine vc_path [] ?_
    cases bad with
    | true =>
     simp at g4
     by_cases hlt2:i<u
     ·simp [hlt2,dV_eq,g4]
      exact⟨_,⟨q,g3,rfl⟩,leL_map _ _ _ 3 (rB B q true),by simp⟩
     ·simp [hlt2,dV_eq,g4]
      exact⟨_,⟨q,g3,rfl⟩,leL_map _ _ _ 3 (rB B q true),by simp⟩
    | false =>
     simp at g4
     obtain⟨g4,g5⟩:=g4
     by_cases hlt2:i<u
     ·have hwd:IntKind.i64.wrap ((dp:Int)+1)=(dp:Int)+1:=wrap64 (by omega)
      have hwi:IntKind.u64.wrap ((i:Int)+1)=((i+1:Nat):Int):=by rw [wrap_u64 (by omega) (by omega)];omega
      simp [hlt2]
      rw [show u-i=(u-(i+1))+1 by omega,pVs] at g4
      rw [show u-i=(u-(i+1))+1 by omega,gVs] at g5
      refine regI_path [] [] [] ?_
      simp [hwd]
      cases hq:p (B.drop q) with
      | none =>
       rw [hq] at g5
       have hB:=hp.2 B q hb g3 hq
       rw [show ((dp+1:Nat):Int)=(dp:Int)+1 by omega] at hB
       refine⟨rfl,icallD_T (TB _ _ _ _) (hcall_of_bcall hB) ?_⟩
       refine⟨0,_,_,rfl,rfl,rfl,?_⟩
       rintro cs' ⟨q',q3,rfl⟩ _
       simp
       refine⟨rfl,⟨by omega,by omega⟩,i+1,es++[f (B.drop q)],q',.inr ⟨⟨by omega,by simp [g2],q3,g5⟩,by omega,[(3,5)],[],?_⟩⟩
       simp [hwi]
      | some z =>
       obtain⟨w,rest2⟩:=z
       rw [hq,Option.bind_some] at g4
       rw [hq] at g5
       have hB:=hp.1 B rest2 q w hb g3 hq
       rw [show ((dp+1:Nat):Int)=(dp:Int)+1 by omega] at hB
       refine⟨rfl,icallD_T (TB _ _ _ _) (hcall_of_bcall hB) ?_⟩
       refine⟨0,_,_,rfl,rfl,rfl,?_⟩
       rintro cs' ⟨q',q3,q4,rfl⟩ _
       simp
       refine⟨rfl,⟨by omega,by omega⟩,i+1,es++[w],q',.inl ⟨⟨by omega,by simp [g2],q3,by rw [q4];simpa using g4,by rw [q4];simpa using g5⟩,by omega,[(3,5)],[],?_⟩⟩
       simp [hwi]
     ·have hiu:u-i=0:=by omega
      rw [hiu,pVs] at g4
      cases g4
theorem rvalOk:∀ d:Nat,d≤16→RVal (16-d) (pV d) (gV d)
 | 0,_=>⟨fun B r a v hb ha h=>rval1_ok 16 none (gV 0) (by omega) (fun p hp=>by cases hp) B r a v hb ha h,fun B a hb ha h=>rval1_no 16 none (by omega) (fun p hp=>by cases hp) (fun _=>rfl) B a hb ha h⟩
 | d+1,hd=>by
  have ih:=rvalOk d (by omega)
  have hdeep:∀ p,some (pV d)=some p→16-(d+1)<16∧RVal (16-(d+1)+1) p (gV d):=fun p hp=>by
   injection hp with hp;subst hp
   exact⟨by omega,by rw [show 16-(d+1)+1=16-d by omega];exact ih⟩
  have hdeep2:∀ q,some (pV d,gV d)=some q→16-(d+1)<16∧RVal (16-(d+1)+1) q.1 q.2:=fun q hq=>by
   injection hq with hq;subst hq
   exact⟨by omega,by rw [show 16-(d+1)+1=16-d by omega];exact ih⟩
  exact⟨fun B r a v hb ha h=>rval1_ok (16-(d+1)) (some (pV d)) (gV d) (by omega) hdeep B r a v hb ha h,fun B a hb ha h=>rval1_no (16-(d+1)) (some (pV d,gV d)) (by omega) hdeep2 (fun h=>by cases h) B a hb ha h⟩
inductive C531:FuncId→List D→Out→Prop
 | check (v:Vl) (h:dpV v<4611686018427387904):C531 114 [dV v] (.ret (dI (eV v)))
 | enc (v:Vl) (h:(encV v).length≤140737488355328):C531 115 [dV v] (.ret (dBy (encV v)))
theorem h531:∀ f ds out,C531 f ds out→PCall Tryz.prog f ds out:=by
 intro f ds out h
 cases h with
 | check v h=>exact rccheck v h
 | enc v h=>exact rencode v h
theorem rDecode(b:List UInt8) (hb:b.length≤1099511627776):PCall Tryz.prog 95 [.sl 1 (b.map dU)] (.ret (.tup [dV (decL b),dI (decE b)])):=by
 refine pcall_of_vc h531 c95 (by simp [a95]) fun hr=>?_
 simp [a95]
 refine regS_path [] ?_
 simp
 have hv:=rvalOk 16 (by omega)
 rw [Nat.sub_self] at hv
 cases hp:pV 16 b with
 | none =>
  have e1:decV b=none:=by unfold decV;rw [hp]
  have e2:decL b=zV:=by unfold decL;rw [e1];rfl
  have e3:decE b=10:=by unfold decE;rw [e1];rfl
  rw [e2,e3]
  refine icall_T (TB _ _ _ _) (hcall_of_bcall (hv.2 b 0 hb (Nat.zero_le _) hp)) ?_
  refine⟨1,_,_,rfl,rfl,rfl,?_⟩
  rintro cs' ⟨a',q1,rfl⟩ _
  simp
  refine vc_pathD [] ?_
  simp
  exact⟨rfl,leZV'⟩
 | some x =>
  obtain⟨v,r⟩:=x
  refine icall_T (TB _ _ _ _) (hcall_of_bcall (hv.1 b r 0 v hb (Nat.zero_le _) hp)) ?_
  refine⟨1,_,_,rfl,rfl,rfl,?_⟩
  rintro cs' ⟨a',q1,q2,rfl⟩ _
  simp
  cases r with
  | nil =>
   have e1:decV b=some v:=by unfold decV;rw [hp]
   have e2:decL b=v:=by unfold decL;rw [e1];rfl
   have e3:decE b=0:=by unfold decE;rw [e1];rfl
   obtain⟨s1,s2,s3⟩:=decV_sound e1
   have ha:a'=b.length:=by have:=List.drop_eq_nil_iff.1 q2;omega
   have hev:eV v=0:=by unfold eV;rw [if_pos s2,if_pos s3]
   have k1:=C531.check v (by omega)
   have k2:=C531.enc v (by rw [← s1];omega)
   rw [hev] at k1
   rw [← s1] at k2
   rw [dV_agg] at k1 k2
   rw [e2,e3,ha]
   refine vc_pathD [.ret (dI 0),.ret (.sl 1 (b.map dU))] ?_
   simp
   have hu:∀ x:UInt8,(dU x).u8.isSome=true:=fun x=>rfl
   refine⟨k1,k2,fun x _=>hu x,rfl,?_⟩
   exact leD_of_eq (dV_agg v).symm
  | cons c r =>
   have e1:decV b=none:=by unfold decV;rw [hp]
   have e2:decL b=zV:=by unfold decL;rw [e1];rfl
   have e3:decE b=10:=by unfold decE;rw [e1];rfl
   rw [e2,e3]
   have ha:¬ (a':Int)=b.length:=fun h=>by
    rw [List.drop_eq_nil_of_le (by omega)] at q2;cases q2
   refine vc_pathD [] ?_
   simp [ha]
   exact⟨rfl,leZV'⟩
end

section
attribute [local simp] dZ_agg dZ_nt dZ_noTup dZ_cells dZ_one bz_toList bz_size strV dV_cells dV_isAgg dV_noTup dV_nt dSp_cells dSp_isAgg dSp_noTup dSp_nt dCh_cells dCh_isAgg dCh_noTup dCh_nt dNt_cells dNt_isAgg dNt_noTup dNt_nt
set_option maxRecDepth 8000
set_option maxHeartbeats 4000000
def pCh (c:Ch):Ch:=⟨c.at_,1,c.sp,c.ha,by omega⟩
theorem doE_nil(c:Ch):doDE [] (pCh c)=if okTm c.at_&&okSp c.sp then 0 else 490:=by
 have h1:okCh (pCh c)=(okTm c.at_&&okSp c.sp):=by simp [okCh,pCh]
 have h2:fitsL [] (pCh c)=true:=by simp [fitsL,pCh,hasL]
 unfold doDE
 rw [if_neg (by rw [dispE_nil];simp),h1,h2,Bool.and_true]
 cases okTm c.at_&&okSp c.sp <;> simp
inductive C532:FuncId→List D→Out→Prop
 | doN (c:Ch):C532 27 [.nil 0,dCh c] (.ret (.tup [.sl 3 ((doDL [] c).map dSp),dI (doDE [] c)]))
 | rc (c:Ch):C532 99 [dCh c] (.ret (dB (okCh c)))
theorem h532:∀ f ds out,C532 f ds out→PCall Tryz.prog f ds out:=by
 intro f ds out h
 cases h with
 | doN c=>exact(dDo [] c).le (.cons (LeD.nil' _ _) (.cons (LeD.refl _) .nil))
 | rc c=>exact rRightC c
theorem sFormed(n:Nt):PCall Tryz.prog 69 [dNt n] (.ret (dB (okNt n))):=by
 refine pcall_of_vc h532 c69 (by simp [a69]) fun hr=>?_
 simp [a69]
 have k1:=C532.doN (pCh n.ch)
 rw [doE_nil] at k1
 have hok:okNt n=(decide (0≤n.lang)&&(decide (n.lang<32)&&(decide (0≤n.seq)&&(decide (n.seq≤1048576)&&(okTm n.ch.at_&&(decide (1≤n.ch.kind)&&(decide (n.ch.kind≤3)&&okSp n.ch.sp))))))):=rfl
 rw [hok]
 generalize okTm n.ch.at_=p1 at *
 generalize okSp n.ch.sp=p2 at *
 generalize (doDL [] (pCh n.ch)).map dSp=L at *
 obtain⟨E,hE⟩:∃ E:Int,E=(if (p1&&p2)=true then 0 else 490):=⟨_,rfl⟩
 rw [← hE] at k1
 have hE0:(E == 0)=(p1&&p2):=by rw [hE];cases p1 <;> cases p2 <;> rfl
 have hE1:E=0↔(p1&&p2)=true:=by rw [hE];cases p1 <;> cases p2 <;> simp
 refine vc_path [] ?_
 by_cases q5:1≤n.ch.kind <;> by_cases q6:n.ch.kind≤3 <;> simp [q5,q6]
 all_goals
  refine vc_path [.ret (.tup [.sl 3 L,dI E])] ?_
  simp
  refine⟨k1,vc_path [] ?_⟩
  simp
 all_goals
  rw [hE1]
  cases hp:(p1&&p2) <;> (try simp)
 all_goals
  by_cases q1:0≤n.lang <;> by_cases q2:n.lang<32 <;> by_cases q3:0≤n.seq <;> by_cases q4:n.seq≤1048576 <;> simp [q1,q2,q3,q4] <;> omega
theorem rFormed(n:Nt):PCall Tryz.prog 55 [dNt n] (.ret (dB (okNt n))):=by
 refine pcall_of_vc h532 c55 (by simp [a55]) fun hr=>?_
 simp [a55]
 have k1:=C532.rc n.ch
 have hok:okNt n=(decide (0≤n.lang)&&(decide (n.lang<32)&&(decide (0≤n.seq)&&(decide (n.seq≤1048576)&&okCh n.ch)))):=rfl
 rw [hok]
 generalize okCh n.ch=p1 at *
 refine vc_path [.ret (dB p1)] ?_
 by_cases q1:0≤n.lang <;> by_cases q2:n.lang<32 <;> by_cases q3:0≤n.seq <;> by_cases q4:n.seq≤1048576 <;> simp [q1,q2,q3,q4] <;> exact k1
end

section
open Go Go.Proofs.YthimbimilnfdnaaGreatDoor.AL Go.Proofs Go.Shelf
def Tryz.lays106_ren : Go.Shelf.Ren := ⟨fun | 106 => 128 | 213 => 150 | 265 => 170 | n => n, fun | 9 => 9 | 3 => 3 | n => n, fun | n => n⟩
theorem Tryz.lays106 : Go.Proofs.Lays.n106 Tryz.prog Tryz.lays106_ren := {
  mixed := by kernel_rfl
  f106 := Tryz.func128.trans (congrArg some (by kernel_rfl))
  f213 := Tryz.func150.trans (congrArg some (by kernel_rfl))
  f265 := Tryz.func170.trans (congrArg some (by kernel_rfl))
  t3 := Tryz.underlying3
  a3 := Tryz.isAgg3
  z3 := Tryz.sizeOf3
  v3 := Tryz.zeroValue3
  t9 := Tryz.underlying9
  a9 := Tryz.isAgg9
  z9 := Tryz.sizeOf9
  v9 := Tryz.zeroValue9 }
set_option maxRecDepth 8000
set_option maxHeartbeats 4000000
def cmpT (a b:List UInt8):Int:=Lib.compareBytes a b
theorem cmpT_range(a b:List UInt8):cmpT a b=-1∨cmpT a b=0∨cmpT a b=1:=by
 unfold cmpT
 induction a generalizing b with
 | nil=>cases b <;> simp [Lib.compareBytes]
 | cons x a ih =>
  cases b with
  | nil=>simp [Lib.compareBytes]
  | cons y b =>
   rw [Lib.compareBytes]
   split
   ·exact .inl rfl
   ·split
    ·exact .inr (.inr rfl)
    ·exact ih b
theorem cmpT_lt(a b:List UInt8):cmpT a b<0↔bLt a b=true:=by
 unfold cmpT
 induction a generalizing b with
 | nil=>cases b with
  | nil=>simp [Lib.compareBytes,bLt_nil]
  | cons y b=>simp [Lib.compareBytes,bLt_nil_cons]
 | cons x a ih =>
  cases b with
  | nil=>simp [Lib.compareBytes,bLt_nil]
  | cons y b =>
   rw [Lib.compareBytes,bLt_cons]
   by_cases h1:x<y
   ·simp [h1]
   ·rw [if_neg h1]
    by_cases h2:y<x
    ·rw [if_pos h2]
     have:¬ x=y:=fun e=>by subst e;exact absurd h2 (UInt8.lt_irrefl _)
     simp [h1,this]
    ·rw [if_neg h2,ih]
     have:x=y:=by
      rcases Nat.lt_trichotomy x.toNat y.toNat with h | h | h
      ·exact absurd (UInt8.lt_iff_toNat_lt.2 h) h1
      ·exact UInt8.toNat_inj.1 h
      ·exact absurd (UInt8.lt_iff_toNat_lt.2 h) h2
     simp [this]
theorem cmpT_zero(a b:List UInt8):cmpT a b=0↔a=b:=by
 unfold cmpT
 induction a generalizing b with
 | nil=>cases b <;> simp [Lib.compareBytes]
 | cons x a ih =>
  cases b with
  | nil=>simp [Lib.compareBytes]
  | cons y b =>
   rw [Lib.compareBytes]
   by_cases h1:x<y
   ·have:¬ x=y:=fun e=>by subst e;exact absurd h1 (UInt8.lt_irrefl _)
    simp [h1,this]
   ·rw [if_neg h1]
    by_cases h2:y<x
    ·have:¬ x=y:=fun e=>by subst e;exact absurd h2 (UInt8.lt_irrefl _)
     simp [h2,this]
    ·rw [if_neg h2,ih]
     have:x=y:=by
      rcases Nat.lt_trichotomy x.toNat y.toNat with h | h | h
      ·exact absurd (UInt8.lt_iff_toNat_lt.2 h) h1
      ·exact UInt8.toNat_inj.1 h
      ·exact absurd (UInt8.lt_iff_toNat_lt.2 h) h2
     simp [this]
theorem sCompare(a b:List UInt8):PCall Tryz.prog 128 [dZ a,dZ b] (.ret (dI (cmpT a b))):=by
 refine⟨(hcall_of_vc c128).1,fun I w vals hI hgl hr=>?_⟩
 have hget:∀ (k:Nat) (x:List UInt8),[dZ a,dZ b][k]?=some (dZ x)→vals[k]?=some (.string (bz x)):=fun k x hk=>by
  have h1:=hr.1
  have hlt:k<vals.size:=by rw [h1];exact(List.getElem?_eq_some_iff.1 hk).1
  have h2:=hr.2 k (dZ x) vals[k] hk (Array.getElem?_eq_getElem hlt)
  rw [Array.getElem?_eq_getElem hlt]
  generalize vals[k]=y at h2
  cases h2;rfl
 have hv:vals=#[.string (bz a),.string (bz b)]:=by
  have h1:=hr.1
  apply Array.ext_getElem?
  intro i
  match i with
  | 0=>rw [hget 0 a rfl];rfl
  | 1=>rw [hget 1 b rfl];rfl
  | i+2=>rw [Array.getElem?_eq_none (by simp at h1;omega),Array.getElem?_eq_none (by simp)]
 subst hv
 refine(Any.strings_Compare Tryz.lays106 (bz a) (bz b) w).mono fun e w' hh=>?_
 obtain⟨he,rfl⟩:=hh
 have hrg:=cmpT_range a b
 refine⟨I,_,fun _ h=>h,fun _ h=>.inl h,hI,Grow.refl w',he,.lit ?_⟩
 have e1:Lib.compareBytes (bz a).data.toList (bz b).data.toList=cmpT a b:=by simp [bz,cmpT]
 exact⟨by simp [IntKind.min,IntKind.bits,IntKind.signed];omega,by simp [IntKind.max,IntKind.bits,IntKind.signed];omega⟩
end

end Go.Proofs.YthimbimilnfdnaaGreatDoor
