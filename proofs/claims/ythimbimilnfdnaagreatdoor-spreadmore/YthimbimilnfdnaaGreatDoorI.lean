/- Part of the proof: S534, S535, S536, S537, S538, S539, S540, S541, S542, S543, S544, S545, S546, S547, S548, S549, S550, S551, S552, S553, S554, S555, S556, S557, S558, S559, S560, S561, S562, S563, S564. -/
import Derived.Test.YthimbimilnfdnaaGreatDoorH
set_option linter.unnecessarySimpa false
set_option linter.unusedVariables false
set_option linter.unusedSimpArgs false
namespace Go.Proofs.YthimbimilnfdnaaGreatDoor
open Go Go.Proofs.YthimbimilnfdnaaGreatDoor.AL
section
attribute [local simp] dZ_agg dZ_nt dZ_noTup dZ_cells dZ_one bz_toList bz_size strV dV_cells dV_isAgg dV_noTup dV_nt dSp_cells dSp_isAgg dSp_noTup dSp_nt dCh_cells dCh_isAgg dCh_noTup dCh_nt dNt_cells dNt_isAgg dNt_noTup dNt_nt
set_option maxRecDepth 8000
set_option maxHeartbeats 4000000
theorem msgB_len'{n:Nt}(h:n.ch.sp.tx.length≤1000000):(msgB n).length≤2000000:=by
 have hn:∀ m:Int,-9223372036854775808≤m∧m<9223372036854775808→(numL (zz m)).length≤10:=fun m hm=>numL_length 10 _ (by
  have:=zz_lt64 hm
  have h1:(128:Nat) ^ 10=1180591620717411303424:=by decide
  rw [h1];omega) (by omega)
 have h1:=hn _ n.hl;have h2:=hn _ n.hs;have h3:=hn _ n.ch.ha;have h4:=hn _ n.ch.hk;have h5:=hn _ n.ch.sp.hi;have h6:=hn _ n.ch.sp.hv
 have h7:(numL n.ch.sp.tx.length).length≤10:=numL_length 10 _ (by
  have h1:(128:Nat) ^ 10=1180591620717411303424:=by decide
  rw [h1];omega) (by omega)
 have h8:(numL 7).length≤1:=numL_length 1 _ (by omega) (by omega)
 unfold msgB noteV aV iV sV
 rw [encV3]
 simp only [encVs,encV1,encV2,List.length_cons,List.length_append,List.length_nil,Nat.zero_add,Nat.reduceAdd] at h8 ⊢
 omega
theorem encR_note(n:Nt):encR (noteV n)=.tup [dBy (msgB n),dI 0]:=by
 have h1:eV (noteV n)=0:=by unfold eV;rw [if_pos (okV_noteV n),if_pos (by rw [dpV_noteV];omega)]
 unfold encR;rw [if_pos h1];rfl
def fldL (n:Nt):List Int:=[n.lang,n.seq,n.ch.at_,n.ch.kind,n.ch.sp.id,n.ch.sp.ver]
theorem LeD_slx{sz:Nat}{es es':List D}(hl:All2 LeD (D.flat es) (D.flat es')) (hlen:es.length=es'.length) (hz:∀ e∈es',e.cells.length=sz) (h1:∀ c∈D.flat es',c.one=true):LeD (.sl sz es) (.sl sz es'):=fun I w v r=>by
 cases r with
 | sl ad vs hn hc hm hA hz0 h10 hI hr =>
  refine .sl ad vs (hn.trans hlen) hc hm (hA.imp id fun e=>?_) hz h1 (fun k c hk=>?_) (fun k c hk=>?_)
  ·subst e;exact List.eq_nil_of_length_eq_zero (by rw [← hlen];rfl)
  ·obtain⟨x,hx,_⟩:=all2_get hl hk
   exact hI k x hx
  ·obtain⟨x,hx,hle⟩:=all2_get hl hk
   exact hle _ _ _ (hr k x hx)
def iN (x:Int):D:=.agg [.lit (.int .i64 1),.lit (.int .i64 x),.lit (.string ⟨#[]⟩),.nil 4]
def sN (t:List UInt8):D:=.agg [.lit (.int .i64 2),.lit (.int .i64 0),dZ t,.nil 4]
def noteN (n:Nt):D:=.agg [.lit (.int .i64 3),.lit (.int .i64 0),.lit (.string ⟨#[]⟩),.sl 4 [iN n.lang,iN n.seq,iN n.ch.at_,iN n.ch.kind,iN n.ch.sp.id,iN n.ch.sp.ver,sN n.ch.sp.tx]]
theorem noteN_le(n:Nt):LeD (noteN n) (dV (noteV n)):=by
 have e:(noteV n)=.mk 3 0 [] [iV n.lang,iV n.seq,iV n.ch.at_,iV n.ch.kind,iV n.ch.sp.id,iV n.ch.sp.ver,sV n.ch.sp.tx]:=rfl
 rw [e,dV_eq]
 refine LeD.agg (.cons (LeD.refl _) (.cons (LeD.refl _) (.cons (LeD.refl _) (.cons ?_ .nil)))) (by simp)
 have hi:∀ x:Int,dV (iV x)=.agg [dI 1,dI x,dZ [],.sl 4 []]:=fun x=>by rw [iV,dV_eq];rfl
 have hs:∀ x:List UInt8,dV (sV x)=.agg [dI 2,dI 0,dZ x,.sl 4 []]:=fun x=>by rw [sV,dV_eq];rfl
 simp only [List.map_cons,List.map_nil,hi,hs]
 have r:=LeD.refl
 refine LeD_slx ?_ rfl (by simp) (by simp [D.flat])
 simp only [D.flat,List.flatMap_cons,List.flatMap_nil,iN,sN,D.cells,List.cons_append,List.nil_append]
 exact .cons (r _) (.cons (r _) (.cons (r _) (.cons (LeD.nil 4) (.cons (r _) (.cons (r _) (.cons (r _) (.cons (LeD.nil 4) (.cons (r _) (.cons (r _) (.cons (r _) (.cons (LeD.nil 4) (.cons (r _) (.cons (r _) (.cons (r _) (.cons (LeD.nil 4) (.cons (r _) (.cons (r _) (.cons (r _) (.cons (LeD.nil 4) (.cons (r _) (.cons (r _) (.cons (r _) (.cons (LeD.nil 4) (.cons (r _) (.cons (r _) (.cons (r _) (.cons (LeD.nil 4) .nil)))))))))))))))))))))))))))
inductive C534:FuncId→List D→Out→Prop
 | enc (n:Nt) (h:n.ch.sp.tx.length≤1000000):C534 120 [noteN n] (.ret (.tup [.sl 1 ((msgB n).map dU),dI 0]))
theorem h534:∀ f ds out,C534 f ds out→PCall Tryz.prog f ds out:=by
 intro f ds out h
 cases h with
 | enc n h =>
  have:=encode (noteV n) (by rw [dpV_noteV];omega) (by have:=msgB_len' h;exact Nat.le_trans this (by omega))
  rw [encR_note] at this;exact this.le (.cons (noteN_le n) .nil)
theorem sMessage(n:Nt) (hx:n.ch.sp.tx.length≤1000000):PCall Tryz.prog 73 [dNt n] (.ret (dZ (msgB n))):=by
 refine pcall_of_vc h534 c73 (by simp [a73]) fun hr=>?_
 simp [a73]
 refine regS_path [] ?_
 simp
 refine icall_T (TF Tryz.prog a92) (hcall_of_vc c92) ?_
 simp [a92]
 refine⟨rfl,?_⟩
 refine vc_loopK [1,2,8] Nat (fun i=>[(9,true,.d (dI i)),(3,true,.own 2 4 (((fldL n).take i).map iN))]) (fun _=>[(2,.row)]) (fun i=>i≤6) (fun i=>6-i) 0 (by simp) ⟨[],[(2,4)],?_⟩ (fun i hi=>?_)
 ·simp
 simp
 refine⟨fun hlt=>?_,fun hge=>?_⟩
 ·have hw:IntKind.i64.wrap ((i:Int)+1)=((i+1:Nat):Int):=by rw [wrap64 (by omega)];omega
  have h6:i=0∨i=1∨i=2∨i=3∨i=4∨i=5:=by omega
  rcases h6 with rfl | rfl | rfl | rfl | rfl | rfl
  all_goals
   simp [fldL,iN]
  ·exact⟨1,by omega,by omega,[(2,4)],[],by simp [fldL,iN];exact LeD.refl _⟩
  ·exact⟨2,by omega,by omega,[(2,4)],[],by simp [fldL,iN];exact LeD.refl _⟩
  ·exact⟨3,by omega,by omega,[(2,4)],[],by simp [fldL,iN];exact LeD.refl _⟩
  ·exact⟨4,by omega,by omega,[(2,4)],[],by simp [fldL,iN];exact LeD.refl _⟩
  ·exact⟨5,by omega,by omega,[(2,4)],[],by simp [fldL,iN];exact LeD.refl _⟩
  ·exact⟨6,by omega,by omega,[(2,4)],[],by simp [fldL,iN];exact LeD.refl _⟩
 ·have:i=6:=by omega
  subst this
  have hE:PCall Tryz.prog 120 [noteN n] (.ret (.tup [.sl 1 ((msgB n).map dU),dI 0])):=h534 _ _ _ (.enc n hx)
  simp [fldL]
  refine vc_path [.ret (.tup [.sl 1 ((msgB n).map dU),dI 0])] ?_
  simp
  refine⟨.enc n hx,fun a _=>rfl,?_⟩
  rw [bytesOf_map];exact LeD.refl _
theorem rInt(x:Int):PCall Tryz.prog 65 [dI x] (.ret (iN x)):=by
 refine pcall_of_vc (C:=fun _ _ _=>False) (by rintro _ _ _ ⟨⟩) c65 (by simp [a65]) fun hr=>?_
 simp [a65,iN]
 try exact LeD.refl _
theorem rText(x:List UInt8):PCall Tryz.prog 66 [dZ x] (.ret (sN x)):=by
 refine pcall_of_vc (C:=fun _ _ _=>False) (by rintro _ _ _ ⟨⟩) c66 (by simp [a66]) fun hr=>?_
 simp [a66,sN]
 try exact LeD.refl _
theorem rList(n:Nt):PCall Tryz.prog 64 [.sl 4 [iN n.lang,iN n.seq,iN n.ch.at_,iN n.ch.kind,iN n.ch.sp.id,iN n.ch.sp.ver,sN n.ch.sp.tx]] (.ret (noteN n)):=by
 refine pcall_of_vc (C:=fun _ _ _=>False) (by rintro _ _ _ ⟨⟩) c64 (by simp [a64]) fun hr=>?_
 simp [a64,noteN]
 try exact LeD.refl _
inductive C534b:FuncId→List D→Out→Prop
 | int (x:Int):C534b 65 [dI x] (.ret (iN x))
 | text (x:List UInt8):C534b 66 [dZ x] (.ret (sN x))
 | list (n:Nt):C534b 64 [.sl 4 [iN n.lang,iN n.seq,iN n.ch.at_,iN n.ch.kind,iN n.ch.sp.id,iN n.ch.sp.ver,sN n.ch.sp.tx]] (.ret (noteN n))
 | enc (n:Nt) (h:n.ch.sp.tx.length≤1000000):C534b 63 [noteN n] (.ret (.tup [.sl 1 ((msgB n).map dU),dI 0]))
theorem h534b:∀ f ds out,C534b f ds out→PCall Tryz.prog f ds out:=by
 intro f ds out h
 cases h with
 | int x=>exact rInt x
 | text x=>exact rText x
 | list n=>exact rList n
 | enc n h =>
  have:=rEncode (noteV n) (by rw [dpV_noteV];omega) (by have:=msgB_len' h;exact Nat.le_trans this (by omega))
  rw [encR_note] at this;exact this.le (.cons (noteN_le n) .nil)
theorem rMessage(n:Nt) (hx:n.ch.sp.tx.length≤1000000):PCall Tryz.prog 29 [dNt n] (.ret (.sl 1 ((msgB n).map dU))):=by
 refine pcall_of_vc h534b c29 (by simp [a29]) fun hr=>?_
 simp [a29]
 refine vc_pathD [.ret (iN n.lang),.ret (iN n.seq),.ret (iN n.ch.at_),.ret (iN n.ch.kind),.ret (iN n.ch.sp.id),.ret (iN n.ch.sp.ver),.ret (sN n.ch.sp.tx),.ret (noteN n),.ret (.tup [.sl 1 ((msgB n).map dU),dI 0])] ?_
 simp [iN,sN,noteN]
 refine⟨.int _,.int _,.int _,.int _,.int _,.int _,.text _,.list n,.enc n hx,?_⟩
 rfl
end

section
attribute [local simp] dZ_agg dZ_nt dZ_noTup dZ_cells dZ_one bz_toList bz_size strV dSp_cells dSp_isAgg dSp_noTup dSp_nt dCh_cells dCh_isAgg dCh_noTup dCh_nt dNt_cells dNt_isAgg dNt_noTup dNt_nt dPe_cells dPe_isAgg dPe_noTup dPe_nt
set_option maxRecDepth 8000
set_option maxHeartbeats 4000000
inductive C535:FuncId→List D→Out→Prop
 | msg (n:Nt) (h:n.ch.sp.tx.length≤1000000):C535 73 [dNt n] (.ret (dZ (msgB n)))
 | rmsg (n:Nt) (h:n.ch.sp.tx.length≤1000000):C535 29 [dNt n] (.ret (.sl 1 ((msgB n).map dU)))
 | cmp (a b:List UInt8):C535 128 [dZ a,dZ b] (.ret (dI (cmpT a b)))
theorem h535:∀ f ds out,C535 f ds out→PCall Tryz.prog f ds out:=by
 intro f ds out h
 cases h with
 | msg n h=>exact sMessage n h
 | rmsg n h=>exact rMessage n h
 | cmp a b=>exact sCompare a b
theorem sCmpN(a b:Nt) (ha:a.ch.sp.tx.length≤1000000) (hb:b.ch.sp.tx.length≤1000000):PCall Tryz.prog 90 [dNt a,dNt b] (.ret (dI (cmpT (msgB a) (msgB b)))):=by
 refine pcall_of_vc h535 c90 (by simp [a90]) fun hr=>?_
 simp [a90]
 refine vc_pathD [.ret (dZ (msgB a)),.ret (dZ (msgB b)),.ret (dI (cmpT (msgB a) (msgB b)))] ?_
 simp
 exact⟨.msg a ha,.msg b hb,.cmp _ _,rfl⟩
theorem rBefore(a b:Nt) (ha:a.ch.sp.tx.length≤1000000) (hb:b.ch.sp.tx.length≤1000000):PCall Tryz.prog 56 [dNt a,dNt b] (.ret (dB (bLt (msgB a) (msgB b)))):=by
 refine pcall_of_vc h535 c56 (by simp [a56]) fun hr=>?_
 simp [a56]
 refine vc_pathD [.ret (.sl 1 ((msgB a).map dU)),.ret (.sl 1 ((msgB b).map dU))] ?_
 simp [bytesOf_map]
 refine⟨.rmsg a ha,fun _ _=>rfl,.rmsg b hb,fun _ _=>rfl,rfl⟩
inductive C535b:FuncId→List D→Out→Prop
 | cmp (a b:Nt) (ha:a.ch.sp.tx.length≤1000000) (hb:b.ch.sp.tx.length≤1000000):C535b 90 [dNt a,dNt b] (.ret (dI (cmpT (msgB a) (msgB b))))
 | bef (a b:Nt) (ha:a.ch.sp.tx.length≤1000000) (hb:b.ch.sp.tx.length≤1000000):C535b 56 [dNt a,dNt b] (.ret (dB (bLt (msgB a) (msgB b))))
 | formed (n:Nt):C535b 69 [dNt n] (.ret (dB (okNt n)))
 | rformed (n:Nt):C535b 55 [dNt n] (.ret (dB (okNt n)))
theorem h535b:∀ f ds out,C535b f ds out→PCall Tryz.prog f ds out:=by
 intro f ds out h
 cases h with
 | cmp a b ha hb=>exact sCmpN a b ha hb
 | bef a b ha hb=>exact rBefore a b ha hb
 | formed n=>exact sFormed n
 | rformed n=>exact rFormed n
def lastN (l:List Nt) (k:Nat):Option (List UInt8):=if k=0 then none else (l[k-1]?).map msgB
theorem lastN_s{l:List Nt}{k:Nat}(h:k<l.length):lastN l (k+1)=some (msgB l[k]):=by
 unfold lastN;rw [if_neg (by omega)];simp [h]
def ltO (o:Option (List UInt8)) (b:List UInt8):Bool:=match o with | none=>true | some a=>bLt a b
theorem okNs_cons(o:Option (List UInt8)) (n:Nt) (r:List Nt):okNs o (n::r)=(okNt n&&(ltO o (msgB n)&&okNs (some (msgB n)) r)):=by cases o <;> rfl
theorem okNs_step{l:List Nt}{k:Nat}(h:k<l.length) (hk:okNt l[k]=true):okNs (lastN l k) (l.drop k)=(ltO (lastN l k) (msgB l[k])&&okNs (lastN l (k+1)) (l.drop (k+1))):=by
 rw [List.drop_eq_getElem_cons h,okNs_cons,hk,lastN_s h];rfl
theorem okNs_stop{l:List Nt}{k:Nat}(h:k<l.length) (hk:okNt l[k]=false):okNs (lastN l k) (l.drop k)=false:=by
 rw [List.drop_eq_getElem_cons h,okNs_cons,hk];rfl
theorem lastN_z(l:List Nt):lastN l 0=none:=rfl
theorem sValid(l:List Nt):PCall Tryz.prog 46 [dPe l] (.ret (dB (okPe l))):=by
 refine pcall_of_vc h535b c46 (by simp [a46]) fun hr=>?_
 have hlen:=((hr (dPe l) (by simp)).agg (.sl 7 (l.map dNt)) (by simp [dPe])).2.sl.1
 simp at hlen
 simp [a46]
 unfold okPe
 refine vc_loopK [0,1,2,6,7] Nat (fun y=>[(8,true,.d (dI y))]) (fun y=>[]) (fun y=>y≤l.length∧okNs (lastN l y) (l.drop y)=okNs none l∧∀ n∈l.take y,okNt n=true) (fun y=>l.length-y) 0 (by simp [lastN_z]) ⟨[],[],?_⟩ (fun k hk=>?_)
 ·simp [lastN_z]
 obtain⟨h1,h2,h3⟩:=hk
 simp
 refine⟨fun hlt=>?_,fun hge=>?_⟩
 ·simp [hlt]
  have hf:=C535b.formed l[k]
  cases hp:okNt l[k] with
  | false =>
   refine vc_pathD [.ret (dB false),.ret (dI 0)] ?_
   rw [okNs_stop hlt hp] at h2
   rw [hp] at hf
   simp [hlt] at hf ⊢
   exact⟨hf,rfl,leD_of_eq (by simp [← h2])⟩
  | true =>
   rw [okNs_step hlt hp] at h2
   rw [hp] at hf
   have h3':∀ n∈l.take (k+1),okNt n=true:=fun n hn=>by
    rw [List.take_succ_eq_append_getElem hlt,List.mem_append,List.mem_singleton] at hn
    rcases hn with hn | rfl
    ·exact h3 n hn
    ·exact hp
   cases k with
   | zero =>
    refine vc_pathD [.ret (dB true),.ret (dI 0)] ?_
    simp [hlt] at hf ⊢
    refine⟨hf,rfl,1,⟨by omega,?_,h3'⟩,by omega,[],[],?_⟩
    ·rw [← h2];simp [lastN_z,ltO]
    ·rw [wrap64 (by omega)];simp
   | succ k =>
    have hk':k<l.length:=by omega
    have hw:IntKind.i64.wrap (k:Int)=k:=wrap64 (by omega)
    rw [lastN_s hk'] at h2
    have hpk:okNt l[k]=true:=h3 _ (by
     rw [List.take_succ_eq_append_getElem hk',List.mem_append,List.mem_singleton];exact .inr rfl)
    have hc:=C535b.cmp l[k] l[k+1] (by have:=okNt_tx hpk;omega) (by have:=okNt_tx hp;omega)
    have hb1:(0:Int)≤(k:Int)+1:=by omega
    have hb2:(k:Int)+1<(l.length:Int):=by omega
    refine vc_pathD [.ret (dB true),.ret (dI (cmpT (msgB l[k]) (msgB l[k+1])))] ?_
    by_cases q5:cmpT (msgB l[k]) (msgB l[k+1])<0
    ·have q5':¬ 0≤cmpT (msgB l[k]) (msgB l[k+1]):=by omega
     have q6:=(cmpT_lt _ _).1 q5
     simp [hlt,hk',hw,q5',hb1,hb2] at hf hc ⊢
     refine⟨hf,hc,rfl,k+2,⟨by omega,?_,h3'⟩,by omega,[],[],?_⟩
     ·rw [← h2];simp [ltO,q6]
     ·rw [wrap64 (by omega)];simp
      exact leD_of_eq (by congr 2)
    ·have q5':0≤cmpT (msgB l[k]) (msgB l[k+1]):=by omega
     have q6:bLt (msgB l[k]) (msgB l[k+1])=false:=by
      rw [← Bool.not_eq_true];exact fun h=>q5 ((cmpT_lt _ _).2 h)
     simp [hlt,hk',hw,q5',hb1,hb2] at hf hc ⊢
     refine⟨hf,hc,rfl,leD_of_eq ?_⟩
     simp [← h2,ltO,q6]
 ·have:k=l.length:=by omega
  subst this
  rw [List.drop_length] at h2
  rw [← h2]
  refine leD_of_eq ?_
  simp [okNs]
  omega
theorem rValid(l:List Nt):PCall Tryz.prog 26 [dPe l] (.ret (dB (okPe l))):=by
 refine pcall_of_vc h535b c26 (by simp [a26]) fun hr=>?_
 have hlen:=((hr (dPe l) (by simp)).agg (.sl 7 (l.map dNt)) (by simp [dPe])).2.sl.1
 simp at hlen
 simp [a26]
 unfold okPe
 refine vc_loopK [0,1,2] Nat (fun y=>[(3,true,.d (dI y))]) (fun y=>[]) (fun y=>y≤l.length∧okNs (lastN l y) (l.drop y)=okNs none l∧∀ n∈l.take y,okNt n=true) (fun y=>l.length-y) 0 (by simp [lastN_z]) ⟨[],[],?_⟩ (fun k hk=>?_)
 ·simp [lastN_z]
 obtain⟨h1,h2,h3⟩:=hk
 simp
 refine⟨fun hlt=>?_,fun hge=>?_⟩
 ·have hf:=C535b.rformed l[k]
  cases hp:okNt l[k] with
  | false =>
   refine vc_pathD [.ret (dB false),.ret (dB false)] ?_
   rw [okNs_stop hlt hp] at h2
   rw [hp] at hf
   simp [hlt] at hf ⊢
   exact⟨hf,rfl,leD_of_eq (by simp [← h2])⟩
  | true =>
   rw [okNs_step hlt hp] at h2
   rw [hp] at hf
   have h3':∀ n∈l.take (k+1),okNt n=true:=fun n hn=>by
    rw [List.take_succ_eq_append_getElem hlt,List.mem_append,List.mem_singleton] at hn
    rcases hn with hn | rfl
    ·exact h3 n hn
    ·exact hp
   cases k with
   | zero =>
    refine vc_pathD [.ret (dB true),.ret (dB false)] ?_
    simp [hlt] at hf ⊢
    refine⟨hf,rfl,1,⟨by omega,?_,h3'⟩,by omega,[],[],?_⟩
    ·rw [← h2];simp [lastN_z,ltO]
    ·rw [wrap64 (by omega)];simp
   | succ k =>
    have hk':k<l.length:=by omega
    have hw:IntKind.i64.wrap (k:Int)=k:=wrap64 (by omega)
    rw [lastN_s hk'] at h2
    have hpk:okNt l[k]=true:=h3 _ (by
     rw [List.take_succ_eq_append_getElem hk',List.mem_append,List.mem_singleton];exact .inr rfl)
    have hc:=C535b.bef l[k] l[k+1] (by have:=okNt_tx hpk;omega) (by have:=okNt_tx hp;omega)
    have hb1:(0:Int)≤(k:Int)+1:=by omega
    have hb2:(k:Int)+1<(l.length:Int):=by omega
    refine vc_pathD [.ret (dB true),.ret (dB (bLt (msgB l[k]) (msgB l[k+1])))] ?_
    cases q5:bLt (msgB l[k]) (msgB l[k+1]) with
    | true =>
     rw [q5] at hc
     simp [hlt,hk',hw,hb1,hb2] at hf hc ⊢
     refine⟨hf,hc,rfl,k+2,⟨by omega,?_,h3'⟩,by omega,[],[],?_⟩
     ·rw [← h2];simp [ltO,q5]
     ·rw [wrap64 (by omega)];simp
      exact leD_of_eq (by congr 2)
    | false =>
     rw [q5] at hc
     simp [hlt,hk',hw,hb1,hb2] at hf hc ⊢
     refine⟨hf,hc,rfl,leD_of_eq ?_⟩
     simp [← h2,ltO,q5]
 ·have:k=l.length:=by omega
  subst this
  rw [List.drop_length] at h2
  rw [← h2]
  refine leD_of_eq ?_
  simp [okNs]
  omega
end

section
def rngI (n:Int):Prop:=-9223372036854775808≤n∧n<9223372036854775808
theorem Vl.eta(v:Vl):.mk v.k v.n v.s v.l=v:=by cases v;rfl
theorem pVs_mem{p:List UInt8→Option (Vl×List UInt8)}{P:Vl→Prop}(hp:∀ b v r,p b=some (v,r)→P v):∀ (n:Nat) (b:List UInt8) (l:List Vl) (r:List UInt8),pVs p n b=some (l,r)→∀ v∈l,P v
 | 0,b,l,r,h,v,hv=>by
  simp only [pVs,Option.some.injEq,Prod.mk.injEq] at h
  obtain⟨rfl,rfl⟩:=h
  cases hv
 | n+1,b,l,r,h,v,hv=>by
  rw [pVs] at h
  cases hx:p b with
  | none=>rw [hx] at h;cases h
  | some x =>
   obtain⟨v1,r1⟩:=x
   rw [hx,Option.bind_some] at h
   cases hy:pVs p n r1 with
   | none=>rw [hy] at h;cases h
   | some y =>
    obtain⟨l1,r2⟩:=y
    rw [hy] at h
    simp only [Option.map_some,Option.some.injEq,Prod.mk.injEq] at h
    obtain⟨rfl,rfl⟩:=h
    rcases List.mem_cons.1 hv with rfl | hv
    ·exact hp _ _ _ hx
    ·exact pVs_mem hp n r1 l1 _ hy v hv
theorem pV1_rng{deep:Option (List UInt8→Option (Vl×List UInt8))}(hp:∀ p,deep=some p→∀ b v r,p b=some (v,r)→rngI v.n) (b:List UInt8) (v:Vl) (r:List UInt8) (h:pV1 deep b=some (v,r)):rngI v.n∧∀ x∈v.l,rngI x.n:=by
 cases b with
 | nil=>simp [pV1] at h
 | cons k b =>
  rw [pV1] at h
  split at h
  ·cases hx:pNum 0 b with
   | none=>rw [hx] at h;cases h
   | some x =>
    obtain⟨u,r1⟩:=x
    rw [hx] at h
    simp only [Option.map_some,Option.some.injEq,Prod.mk.injEq] at h
    obtain⟨rfl,rfl⟩:=h
    obtain⟨_,_,e3⟩:=pNum_sound b 0 u r1 (by omega) hx
    exact⟨sgn_b (by simpa using e3),fun x hx=>by cases hx⟩
  split at h
  ·cases hx:pNum 0 b with
   | none=>rw [hx] at h;cases h
   | some x =>
    obtain⟨u,r1⟩:=x
    rw [hx,Option.bind_some] at h
    simp only at h
    split at h
    ·simp only [Option.some.injEq,Prod.mk.injEq] at h
     obtain⟨rfl,rfl⟩:=h
     exact⟨⟨by simp [Vl.n],by simp [Vl.n]⟩,fun x hx=>by cases hx⟩
    ·cases h
  split at h
  ·cases hd:deep with
   | none=>rw [hd] at h;cases h
   | some p =>
    rw [hd,Option.bind_some] at h
    cases hx:pNum 0 b with
    | none=>rw [hx] at h;cases h
    | some x =>
     obtain⟨u,r1⟩:=x
     rw [hx,Option.bind_some] at h
     simp only at h
     split at h
     ·cases hy:pVs p u r1 with
      | none=>rw [hy] at h;cases h
      | some y =>
       obtain⟨l1,r2⟩:=y
       rw [hy] at h
       simp only [Option.map_some,Option.some.injEq,Prod.mk.injEq] at h
       obtain⟨rfl,rfl⟩:=h
       exact⟨⟨by simp [Vl.n],by simp [Vl.n]⟩,fun x hx=>pVs_mem (hp p hd) u r1 l1 _ hy x hx⟩
     ·cases h
  ·cases h
theorem pV_rng:∀ (d:Nat) (b:List UInt8) (v:Vl) (r:List UInt8),pV d b=some (v,r)→rngI v.n∧∀ x∈v.l,rngI x.n
 | 0,b,v,r,h=>pV1_rng (fun p hp=>by cases hp) b v r h
 | d+1,b,v,r,h=>pV1_rng (fun p hp=>by
   injection hp with hp;subst hp
   exact fun b v r h=>(pV_rng d b v r h).1) b v r h
theorem decV_rng{b:List UInt8}{v:Vl}(h:decV b=some v):rngI v.n∧∀ x∈v.l,rngI x.n:=by
 unfold decV at h
 split at h
 ·rename_i hp;injection h with h;subst h;exact pV_rng 16 b _ _ hp
 ·cases h
def noteV7 (v0 v1 v2 v3 v4 v5 v6:Vl) (h0:rngI v0.n) (h1:rngI v1.n) (h2:rngI v2.n) (h3:rngI v3.n) (h4:rngI v4.n) (h5:rngI v5.n):Nt:=⟨v0.n,v1.n,⟨v2.n,v3.n,⟨v4.n,v5.n,v6.s,h4,h5⟩,h2,h3⟩,h0,h1⟩
theorem noteOf7(k n:Int) (s:List UInt8) (v0 v1 v2 v3 v4 v5 v6:Vl) (h0:rngI v0.n) (h1:rngI v1.n) (h2:rngI v2.n) (h3:rngI v3.n) (h4:rngI v4.n) (h5:rngI v5.n):noteOf (.mk k n s [v0,v1,v2,v3,v4,v5,v6])=if k=3∧v0.k=1∧v1.k=1∧v2.k=1∧v3.k=1∧v4.k=1∧v5.k=1∧v6.k=2 then some (noteV7 v0 v1 v2 v3 v4 v5 v6 h0 h1 h2 h3 h4 h5) else none:=by
 cases v0;cases v1;cases v2;cases v3;cases v4;cases v5;cases v6
 rw [noteOf]
 split
 ·rename_i h;exact(if_pos h.1).symm
 ·rename_i h;exact(if_neg fun h'=>h ⟨h',h0,h1,h2,h3,h4,h5⟩).symm
theorem noteOf_ne{v:Vl}(h:v.l.length≠7):noteOf v=none:=by
 cases v with
 | mk k n s l =>
  unfold noteOf
  split
  ·rename_i e;injection e with _ _ _ e;subst e;exact absurd rfl h
  ·rfl
def gI (c:Bool) (x:Int):Int:=if c then x else 0
theorem gI_r{x:Int}(c:Bool) (h:rngI x):rngI (gI c x):=by unfold gI;split;exact h;exact⟨by omega,by omega⟩
def noteQ (v0 v1 v2 v3 v4 v5 v6:Vl) (h0:rngI v0.n) (h1:rngI v1.n) (h2:rngI v2.n) (h3:rngI v3.n) (h4:rngI v4.n) (h5:rngI v5.n):Nt :=
 ⟨gI (decide (v0.k=1)) v0.n,gI (decide (v0.k=1∧v1.k=1)) v1.n,⟨gI (decide (v0.k=1∧v1.k=1∧v2.k=1)) v2.n,gI (decide (v0.k=1∧v1.k=1∧v2.k=1∧v3.k=1)) v3.n,
  ⟨gI (decide (v0.k=1∧v1.k=1∧v2.k=1∧v3.k=1∧v4.k=1)) v4.n,gI (decide (v0.k=1∧v1.k=1∧v2.k=1∧v3.k=1∧v4.k=1∧v5.k=1)) v5.n,
   if v0.k=1∧v1.k=1∧v2.k=1∧v3.k=1∧v4.k=1∧v5.k=1 then v6.s else [],gI_r _ h4,gI_r _ h5⟩,gI_r _ h2,gI_r _ h3⟩,gI_r _ h0,gI_r _ h1⟩
def zNt:Nt:=⟨0,0,⟨0,0,⟨0,0,[],by omega,by omega⟩,by omega,by omega⟩,by omega,by omega⟩
theorem readB_of{b:List UInt8}{k n:Int}{s:List UInt8}{v0 v1 v2 v3 v4 v5 v6:Vl}(hd:decE b=0) (he:decL b=.mk k n s [v0,v1,v2,v3,v4,v5,v6]):∃ (h0:rngI v0.n) (h1:rngI v1.n) (h2:rngI v2.n) (h3:rngI v3.n) (h4:rngI v4.n) (h5:rngI v5.n),readB b=if k=3∧v0.k=1∧v1.k=1∧v2.k=1∧v3.k=1∧v4.k=1∧v5.k=1∧v6.k=2 then (if okNt (noteV7 v0 v1 v2 v3 v4 v5 v6 h0 h1 h2 h3 h4 h5) then some (noteV7 v0 v1 v2 v3 v4 v5 v6 h0 h1 h2 h3 h4 h5) else none) else none:=by
 unfold decE at hd
 cases hx:decV b with
 | none=>rw [hx] at hd;simp at hd
 | some v =>
  unfold decL at he
  rw [hx] at he
  simp only [Option.getD_some] at he
  subst he
  have hr:=(decV_rng hx).2
  simp only [Vl.l,List.mem_cons,List.not_mem_nil,or_false,forall_eq_or_imp,forall_eq] at hr
  obtain⟨h0,h1,h2,h3,h4,h5,_⟩:=hr
  refine⟨h0,h1,h2,h3,h4,h5,?_⟩
  unfold readB
  rw [hx,Option.bind_some,noteOf7 k n s v0 v1 v2 v3 v4 v5 v6 h0 h1 h2 h3 h4 h5]
  split <;> rfl
theorem readB_no{b:List UInt8}(h:decE b≠0∨(decL b).l.length≠7∨(decL b).k≠3):readB b=none:=by
 unfold decE decL at h
 unfold readB
 cases hx:decV b with
 | none=>rfl
 | some v =>
  rw [hx] at h
  simp only [Option.isSome_some,if_true,ne_eq,not_true_eq_false,false_or,Option.getD_some] at h
  rw [Option.bind_some]
  rcases h with h | h
  ·rw [noteOf_ne h];rfl
  ·by_cases hl:v.l.length=7
   ·have:noteOf v=none:=by
     cases v with
     | mk k n s l =>
      unfold noteOf
      split
      ·rename_i e;injection e with e1 _ _ e;subst e;subst e1
       exact dif_neg fun h'=>h h'.1.1
      ·rfl
    rw [this];rfl
   ·rw [noteOf_ne hl];rfl
theorem list7{l:List Vl}(h:l.length=7):∃ v0 v1 v2 v3 v4 v5 v6,l=[v0,v1,v2,v3,v4,v5,v6]:=by
 match l,h with
 | [v0,v1,v2,v3,v4,v5,v6],_=>exact⟨v0,v1,v2,v3,v4,v5,v6,rfl⟩
theorem dV_eta(v:Vl):dV v=.agg [dI v.k,dI v.n,dZ v.s,.sl 4 (v.l.map dV)]:=by
 conv=>lhs;rw [← Vl.eta v,dV_eq]
end

section
attribute [local simp] dZ_agg dZ_nt dZ_noTup dZ_cells dZ_one bz_toList bz_size strV dV_cells dV_isAgg dV_noTup dV_nt dSp_cells dSp_isAgg dSp_noTup dSp_nt dCh_cells dCh_isAgg dCh_noTup dCh_nt dNt_cells dNt_isAgg dNt_noTup dNt_nt
set_option maxRecDepth 8000
set_option maxHeartbeats 4000000
inductive C537:FuncId→List D→Out→Prop
 | dec (b:List UInt8) (h:b.length≤1099511627776):C537 91 [.sl 1 (b.map dU)] (.ret (.tup [dV (decL b),dI (decE b)]))
 | rdec (b:List UInt8) (h:b.length≤1099511627776):C537 95 [.sl 1 (b.map dU)] (.ret (.tup [dV (decL b),dI (decE b)]))
 | formed (n:Nt):C537 69 [dNt n] (.ret (dB (okNt n)))
 | rformed (n:Nt):C537 55 [dNt n] (.ret (dB (okNt n)))
theorem h537:∀ f ds out,C537 f ds out→PCall Tryz.prog f ds out:=by
 intro f ds out h
 cases h with
 | dec b h=>exact decode b h
 | rdec b h=>exact rDecode b h
 | formed n=>exact sFormed n
 | rformed n=>exact rFormed n
theorem sRead(b:List UInt8) (hb:b.length≤1099511627776):∃ n,PCall Tryz.prog 47 [.sl 1 (b.map dU)] (.ret (.tup [dNt n,dB (readB b).isSome]))∧∀ m,readB b=some m→n=m:=by
 have hD:=C537.dec b hb
 by_cases hA:decE b=0∧(decL b).k=3∧(decL b).l.length=7
 ·obtain⟨e1,e2,e3⟩:=hA
  generalize hv:decL b=v at *
  cases v with
  | mk k n s l =>
  simp only [Vl.k,Vl.l] at e2 e3
  obtain⟨v0,v1,v2,v3,v4,v5,v6,rfl⟩:=list7 e3
  obtain⟨h0,h1,h2,h3,h4,h5,hR⟩:=readB_of e1 hv
  by_cases e4:v6.k=2
  ·refine⟨noteQ v0 v1 v2 v3 v4 v5 v6 h0 h1 h2 h3 h4 h5,?_,fun m hm=>?_⟩
   ·refine pcall_of_vc h537 c47 (by simp [a47]) fun hr=>?_
    simp [a47]
    refine vc_path [.ret (.tup [dV (.mk k n s [v0,v1,v2,v3,v4,v5,v6]),dI (decE b)])] ?_
    rw [dV_eq] at hD ⊢
    simp
    refine⟨by simpa using hD,?_⟩
    refine regS_path [] ?_
    simp
    refine icall_T (TF Tryz.prog a92) (hcall_of_vc c92) ?_
    simp [a92]
    refine⟨rfl,?_⟩
    refine vc_path [] ?_
    simp [e1,e2,e4,dV_eta]
    refine vc_loopK [2,4,37] Nat (fun i=>[(38,true,.d (dI i))]) (fun i=>[(0,.box true [.d (dI (if 0<i then v0.n else 0)),.d (dI (if 1<i then v1.n else 0)),.d (dI (if 2<i then v2.n else 0)),.d (dI (if 3<i then v3.n else 0)),.d (dI (if 4<i then v4.n else 0)),.d (dI (if 5<i then v5.n else 0)),.d (dZ [])])]) (fun i=>i≤6∧(0<i→v0.k=1)∧(1<i→v1.k=1)∧(2<i→v2.k=1)∧(3<i→v3.k=1)∧(4<i→v4.k=1)∧(5<i→v5.k=1)) (fun i=>6-i) 0 (by simp) ⟨[],[],?_⟩ (fun i hi=>?_)
    ·simp
     exact LeD.refl _
    obtain⟨hi,g0,g1,g2,g3,g4,g5⟩:=hi
    simp
    refine⟨fun hlt=>?_,fun hge=>?_⟩
    ·have h6:i=0∨i=1∨i=2∨i=3∨i=4∨i=5:=by omega
     rcases h6 with rfl | rfl | rfl | rfl | rfl | rfl
     ·simp at g0 g1 g2 g3 g4 g5
      simp [dV_eta,e2,e4,hR]
      exact⟨fun q=>⟨leD_of_eq (by simp [dNt,noteQ,gI,q]),leD_of_eq (by simp [q])⟩,fun q=>⟨1,by simp [q],by simp,[],[],by simp [q,wrap64];try exact LeD.refl _⟩⟩
     ·simp at g0 g1 g2 g3 g4 g5
      simp [dV_eta,e2,e4,hR,g0]
      exact⟨fun q=>⟨leD_of_eq (by simp [dNt,noteQ,gI,q,g0]),leD_of_eq (by simp [q])⟩,fun q=>⟨2,by simp [q,g0],by simp,[],[],by simp [q,g0,wrap64];try exact LeD.refl _⟩⟩
     ·simp at g0 g1 g2 g3 g4 g5
      simp [dV_eta,e2,e4,hR,g0,g1]
      exact⟨fun q=>⟨leD_of_eq (by simp [dNt,noteQ,gI,q,g0,g1]),leD_of_eq (by simp [q])⟩,fun q=>⟨3,by simp [q,g0,g1],by simp,[],[],by simp [q,g0,g1,wrap64];try exact LeD.refl _⟩⟩
     ·simp at g0 g1 g2 g3 g4 g5
      simp [dV_eta,e2,e4,hR,g0,g1,g2]
      exact⟨fun q=>⟨leD_of_eq (by simp [dNt,noteQ,gI,q,g0,g1,g2]),leD_of_eq (by simp [q])⟩,fun q=>⟨4,by simp [q,g0,g1,g2],by simp,[],[],by simp [q,g0,g1,g2,wrap64];try exact LeD.refl _⟩⟩
     ·simp at g0 g1 g2 g3 g4 g5
      simp [dV_eta,e2,e4,hR,g0,g1,g2,g3]
      exact⟨fun q=>⟨leD_of_eq (by simp [dNt,noteQ,gI,q,g0,g1,g2,g3]),leD_of_eq (by simp [q])⟩,fun q=>⟨5,by simp [q,g0,g1,g2,g3],by simp,[],[],by simp [q,g0,g1,g2,g3,wrap64];try exact LeD.refl _⟩⟩
     ·simp at g0 g1 g2 g3 g4 g5
      simp [dV_eta,e2,e4,hR,g0,g1,g2,g3,g4]
      exact⟨fun q=>⟨leD_of_eq (by simp [dNt,noteQ,gI,q,g0,g1,g2,g3,g4]),leD_of_eq (by simp [q])⟩,fun q=>⟨6,by simp [q,g0,g1,g2,g3,g4],by simp,[],[],by simp [q,g0,g1,g2,g3,g4,wrap64];try exact LeD.refl _⟩⟩
    ·have:i=6:=by omega
     subst this
     simp at g0 g1 g2 g3 g4 g5
     simp [dV_eta,e2,e4,hR,g0,g1,g2,g3,g4,g5]
     refine vc_pathD [.ret (dB (okNt (noteV7 v0 v1 v2 v3 v4 v5 v6 h0 h1 h2 h3 h4 h5)))] ?_
     simp
     refine⟨.formed (noteV7 v0 v1 v2 v3 v4 v5 v6 h0 h1 h2 h3 h4 h5),rfl,leD_of_eq (by simp [dNt,noteQ,gI,g0,g1,g2,g3,g4,g5]),leD_of_eq (by split <;> simp [*])⟩
   ·rw [hR] at hm
    split at hm
    ·rename_i hc
     obtain⟨_,c0,c1,c2,c3,c4,c5,_⟩:=hc
     split at hm
     ·injection hm with hm;subst hm
      simp [noteQ,noteV7,gI,c0,c1,c2,c3,c4,c5]
     ·cases hm
    ·cases hm
  ·have hn:readB b=none:=by rw [hR,if_neg fun h=>e4 h.2.2.2.2.2.2.2]
   refine⟨zNt,?_,fun m hm=>by rw [hn] at hm;cases hm⟩
   rw [hn]
   refine pcall_of_vc h537 c47 (by simp [a47]) fun hr=>?_
   simp [a47]
   refine vc_path [.ret (.tup [dV (.mk k n s [v0,v1,v2,v3,v4,v5,v6]),dI (decE b)])] ?_
   rw [dV_eq] at hD ⊢
   simp
   refine⟨by simpa using hD,?_⟩
   refine regS_path [] ?_
   simp
   refine icall_T (TF Tryz.prog a92) (hcall_of_vc c92) ?_
   simp [a92]
   refine⟨rfl,?_⟩
   refine vc_path [] ?_
   simp [e1,e2,e4,dV_eta]
   exact leD_of_eq rfl
 ·have hn:readB b=none:=readB_no (by
   by_cases q1:decE b=0
   ·by_cases q2:(decL b).k=3
    ·exact .inr (.inl fun q3=>hA ⟨q1,q2,q3⟩)
    ·exact .inr (.inr q2)
   ·exact .inl q1)
  refine⟨zNt,?_,fun m hm=>by rw [hn] at hm;cases hm⟩
  rw [hn]
  generalize hv:decL b=v at *
  cases v with
  | mk k n s l =>
  simp only [Vl.k,Vl.l] at hA
  refine pcall_of_vc h537 c47 (by simp [a47]) fun hr=>?_
  simp [a47]
  refine vc_path [.ret (.tup [dV (.mk k n s l),dI (decE b)])] ?_
  rw [dV_eq] at hD ⊢
  simp
  refine⟨by simpa using hD,?_⟩
  refine regS_path [] ?_
  simp
  refine icall_T (TF Tryz.prog a92) (hcall_of_vc c92) ?_
  simp [a92]
  refine⟨rfl,?_⟩
  refine vc_path [] ?_
  by_cases q1:decE b=0
  ·by_cases q2:k=3
   ·have q3:¬ (l.length:Int)=7:=fun h=>hA ⟨q1,q2,by omega⟩
    have q3':¬ l.length=7:=by omega
    simp [q1,q2,q3,q3']
    exact leD_of_eq rfl
   ·simp [q1,q2]
    exact leD_of_eq rfl
  ·simp [q1]
   exact leD_of_eq rfl
theorem rRead(b:List UInt8) (hb:b.length≤1099511627776):∃ n,PCall Tryz.prog 49 [.sl 1 (b.map dU)] (.ret (.tup [dNt n,dB (readB b).isSome]))∧∀ m,readB b=some m→n=m:=by
 have hD:=C537.rdec b hb
 by_cases hA:decE b=0∧(decL b).k=3∧(decL b).l.length=7
 ·obtain⟨e1,e2,e3⟩:=hA
  generalize hv:decL b=v at *
  cases v with
  | mk k n s l =>
  simp only [Vl.k,Vl.l] at e2 e3
  obtain⟨v0,v1,v2,v3,v4,v5,v6,rfl⟩:=list7 e3
  obtain⟨h0,h1,h2,h3,h4,h5,hR⟩:=readB_of e1 hv
  by_cases e4:v6.k=2
  ·by_cases hK:v0.k=1∧v1.k=1∧v2.k=1∧v3.k=1∧v4.k=1∧v5.k=1
   ·obtain⟨g0,g1,g2,g3,g4,g5⟩:=hK
    refine⟨noteV7 v0 v1 v2 v3 v4 v5 v6 h0 h1 h2 h3 h4 h5,?_,fun m hm=>?_⟩
    ·simp [e2,e4,g0,g1,g2,g3,g4,g5] at hR
     have hF:=C537.rformed (noteV7 v0 v1 v2 v3 v4 v5 v6 h0 h1 h2 h3 h4 h5)
     refine pcall_of_vc h537 c49 (by simp [a49]) fun hr=>?_
     simp [a49]
     refine vc_path [.ret (.tup [dV (.mk k n s [v0,v1,v2,v3,v4,v5,v6]),dI (decE b)])] ?_
     rw [dV_eq] at hD ⊢
     simp
     refine⟨by simpa using hD,?_⟩
     refine vc_path [] ?_
     simp [e1,e2,e4,dV_eta]
     refine vc_loopK [2,4] Nat (fun i=>[(7,true,.d (dI i)),(6,true,.own 2 1 (([v0.n,v1.n,v2.n,v3.n,v4.n,v5.n].take i).map dI))]) (fun _=>[(2,.row)]) (fun i=>i≤6) (fun i=>6-i) 0 (by simp) ⟨[],[],?_⟩ (fun i hi=>?_)
     ·simp
     simp
     refine⟨fun hlt=>?_,fun hge=>?_⟩
     ·have h6:i=0∨i=1∨i=2∨i=3∨i=4∨i=5:=by omega
      rcases h6 with rfl | rfl | rfl | rfl | rfl | rfl
      ·simp [dV_eta,g0,g1,g2,g3,g4,g5]
       exact⟨1,by omega,by omega,[(2,4)],[],by simp [wrap64];try exact LeD.refl _⟩
      ·simp [dV_eta,g0,g1,g2,g3,g4,g5]
       exact⟨2,by omega,by omega,[(2,4)],[],by simp [wrap64];try exact LeD.refl _⟩
      ·simp [dV_eta,g0,g1,g2,g3,g4,g5]
       exact⟨3,by omega,by omega,[(2,4)],[],by simp [wrap64];try exact LeD.refl _⟩
      ·simp [dV_eta,g0,g1,g2,g3,g4,g5]
       exact⟨4,by omega,by omega,[(2,4)],[],by simp [wrap64];try exact LeD.refl _⟩
      ·simp [dV_eta,g0,g1,g2,g3,g4,g5]
       exact⟨5,by omega,by omega,[(2,4)],[],by simp [wrap64];try exact LeD.refl _⟩
      ·simp [dV_eta,g0,g1,g2,g3,g4,g5]
       exact⟨6,by omega,by omega,[(2,4)],[],by simp [wrap64];try exact LeD.refl _⟩
     ·have:i=6:=by omega
      subst this
      simp [dV_eta,e2,e4]
      refine⟨rfl,rfl,?_⟩
      refine vc_pathD [.ret (dB (okNt (noteV7 v0 v1 v2 v3 v4 v5 v6 h0 h1 h2 h3 h4 h5)))] ?_
      simp
      refine⟨hF,rfl,leD_of_eq rfl,leD_of_eq ?_⟩
      rw [hR];split <;> simp [*]
    ·simp [e2,e4,g0,g1,g2,g3,g4,g5] at hR
     rw [hR] at hm
     split at hm
     ·injection hm
     ·cases hm
   ·have hn:readB b=none:=by rw [hR,if_neg fun h=>hK ⟨h.2.1,h.2.2.1,h.2.2.2.1,h.2.2.2.2.1,h.2.2.2.2.2.1,h.2.2.2.2.2.2.1⟩]
    refine⟨zNt,?_,fun m hm=>by rw [hn] at hm;cases hm⟩
    rw [hn]
    refine pcall_of_vc h537 c49 (by simp [a49]) fun hr=>?_
    simp [a49]
    refine vc_path [.ret (.tup [dV (.mk k n s [v0,v1,v2,v3,v4,v5,v6]),dI (decE b)])] ?_
    rw [dV_eq] at hD ⊢
    simp
    refine⟨by simpa using hD,?_⟩
    refine vc_path [] ?_
    simp [e1,e2,e4,dV_eta]
    refine vc_loopK [2,4] Nat (fun i=>[(7,true,.d (dI i)),(6,true,.own 2 1 (([v0.n,v1.n,v2.n,v3.n,v4.n,v5.n].take i).map dI))]) (fun _=>[(2,.row)]) (fun i=>i≤6∧(0<i→v0.k=1)∧(1<i→v1.k=1)∧(2<i→v2.k=1)∧(3<i→v3.k=1)∧(4<i→v4.k=1)∧(5<i→v5.k=1)) (fun i=>6-i) 0 (by simp) ⟨[],[],?_⟩ (fun i hi=>?_)
    ·simp
    obtain⟨hi,g0,g1,g2,g3,g4,g5⟩:=hi
    simp
    refine⟨fun hlt=>?_,fun hge=>?_⟩
    ·have h6:i=0∨i=1∨i=2∨i=3∨i=4∨i=5:=by omega
     rcases h6 with rfl | rfl | rfl | rfl | rfl | rfl
     ·simp at g0 g1 g2 g3 g4 g5
      simp [dV_eta]
      exact⟨fun q=>leD_of_eq rfl,fun q=>⟨1,by simp [q],by simp,[(2,4)],[],by simp [wrap64];try exact LeD.refl _⟩⟩
     ·simp at g0 g1 g2 g3 g4 g5
      simp [dV_eta,g0]
      exact⟨fun q=>leD_of_eq rfl,fun q=>⟨2,by simp [q,g0],by simp,[(2,4)],[],by simp [wrap64];try exact LeD.refl _⟩⟩
     ·simp at g0 g1 g2 g3 g4 g5
      simp [dV_eta,g0,g1]
      exact⟨fun q=>leD_of_eq rfl,fun q=>⟨3,by simp [q,g0,g1],by simp,[(2,4)],[],by simp [wrap64];try exact LeD.refl _⟩⟩
     ·simp at g0 g1 g2 g3 g4 g5
      simp [dV_eta,g0,g1,g2]
      exact⟨fun q=>leD_of_eq rfl,fun q=>⟨4,by simp [q,g0,g1,g2],by simp,[(2,4)],[],by simp [wrap64];try exact LeD.refl _⟩⟩
     ·simp at g0 g1 g2 g3 g4 g5
      simp [dV_eta,g0,g1,g2,g3]
      exact⟨fun q=>leD_of_eq rfl,fun q=>⟨5,by simp [q,g0,g1,g2,g3],by simp,[(2,4)],[],by simp [wrap64];try exact LeD.refl _⟩⟩
     ·simp at g0 g1 g2 g3 g4 g5
      simp [dV_eta,g0,g1,g2,g3,g4]
      exact⟨fun q=>leD_of_eq rfl,fun q=>⟨6,by simp [q,g0,g1,g2,g3,g4],by simp,[(2,4)],[],by simp [wrap64];try exact LeD.refl _⟩⟩
    ·exact absurd ⟨g0 (by omega),g1 (by omega),g2 (by omega),g3 (by omega),g4 (by omega),g5 (by omega)⟩ hK
  ·have hn:readB b=none:=by rw [hR,if_neg fun h=>e4 h.2.2.2.2.2.2.2]
   refine⟨zNt,?_,fun m hm=>by rw [hn] at hm;cases hm⟩
   rw [hn]
   refine pcall_of_vc h537 c49 (by simp [a49]) fun hr=>?_
   simp [a49]
   refine vc_path [.ret (.tup [dV (.mk k n s [v0,v1,v2,v3,v4,v5,v6]),dI (decE b)])] ?_
   rw [dV_eq] at hD ⊢
   simp
   refine⟨by simpa using hD,?_⟩
   refine vc_path [] ?_
   simp [e1,e2,e4,dV_eta]
   exact leD_of_eq rfl
 ·have hn:readB b=none:=readB_no (by
   by_cases q1:decE b=0
   ·by_cases q2:(decL b).k=3
    ·exact .inr (.inl fun q3=>hA ⟨q1,q2,q3⟩)
    ·exact .inr (.inr q2)
   ·exact .inl q1)
  refine⟨zNt,?_,fun m hm=>by rw [hn] at hm;cases hm⟩
  rw [hn]
  generalize hv:decL b=v at *
  cases v with
  | mk k n s l =>
  simp only [Vl.k,Vl.l] at hA
  refine pcall_of_vc h537 c49 (by simp [a49]) fun hr=>?_
  simp [a49]
  refine vc_path [.ret (.tup [dV (.mk k n s l),dI (decE b)])] ?_
  rw [dV_eq] at hD ⊢
  simp
  refine⟨by simpa using hD,?_⟩
  refine vc_path [] ?_
  by_cases q1:decE b=0
  ·by_cases q2:k=3
   ·have q3:¬ (l.length:Int)=7:=fun h=>hA ⟨q1,q2,by omega⟩
    have q3':¬ l.length=7:=by omega
    simp [q1,q2,q3,q3']
    exact leD_of_eq rfl
   ·simp [q1,q2]
    exact leD_of_eq rfl
  ·simp [q1]
   exact leD_of_eq rfl
end

section
attribute [local simp] dZ_agg dZ_nt dZ_noTup dZ_cells dZ_one bz_toList bz_size strV dSp_cells dSp_isAgg dSp_noTup dSp_nt dCh_cells dCh_isAgg dCh_noTup dCh_nt dNt_cells dNt_isAgg dNt_noTup dNt_nt dPe_cells dPe_isAgg dPe_noTup dPe_nt dRm_cells dRm_isAgg dRm_noTup dRm_nt dPc_cells dPc_agg dPc_noTup dNw_cells dNw_agg dNw_noTup
set_option maxRecDepth 8000
set_option maxHeartbeats 4000000
noncomputable def sRdN (b:List UInt8) (h:b.length≤1099511627776):Nt:=Classical.choose (sRead b h)
noncomputable def rRdN (b:List UInt8) (h:b.length≤1099511627776):Nt:=Classical.choose (rRead b h)
theorem sRdN_eq{b:List UInt8}{h:b.length≤1099511627776}{m:Nt}(e:readB b=some m):sRdN b h=m:=(Classical.choose_spec (sRead b h)).2 m e
theorem rRdN_eq{b:List UInt8}{h:b.length≤1099511627776}{m:Nt}(e:readB b=some m):rRdN b h=m:=(Classical.choose_spec (rRead b h)).2 m e
inductive C539:FuncId→List D→Out→Prop
 | rd (b:List UInt8) (h:b.length≤1099511627776):C539 47 [.sl 1 (b.map dU)] (.ret (.tup [dNt (sRdN b h),dB (readB b).isSome]))
 | rrd (b:List UInt8) (h:b.length≤1099511627776):C539 49 [.sl 1 (b.map dU)] (.ret (.tup [dNt (rRdN b h),dB (readB b).isSome]))
 | valid (l:List Nt):C539 46 [dPe l] (.ret (dB (okPe l)))
 | rvalid (l:List Nt):C539 26 [dPe l] (.ret (dB (okPe l)))
 | net (w:Nw):C539 45 [dNw w] (.ret (dI (eNet w)))
 | rnet (w:Nw):C539 48 [dNw w] (.ret (dI (eNet w)))
theorem h539:∀ f ds out,C539 f ds out→PCall Tryz.prog f ds out:=by
 intro f ds out h
 cases h with
 | rd b h=>exact(Classical.choose_spec (sRead b h)).1
 | rrd b h=>exact(Classical.choose_spec (rRead b h)).1
 | valid l=>exact sValid l
 | rvalid l=>exact rValid l
 | net w=>exact nwCheck w
 | rnet w=>exact nwRcheck w
theorem okPc_len{p:Pc}(h:okPc p=true):p.p.length≤1099511627776∧0≤p.a∧0≤p.b:=by
 unfold okPc cValid at h
 simp only [Bool.and_eq_true,decide_eq_true_eq] at h
 obtain⟨⟨⟨h1,h2⟩,h3⟩,h4⟩:=h
 split at h1 <;> split at h2 <;> refine⟨by omega,by omega,by omega⟩
theorem okNw_all{w:Nw}(h:okNw w=true):∀ p∈w.q,okPc p=true:=by
 unfold okNw at h
 simp only [Bool.and_eq_true] at h
 exact List.all_eq_true.1 h.2.1
theorem okRm_iff{r:Rm}:okRm r=true↔1≤r.ps.length∧r.ps.length≤24∧okNw r.net=true∧(∀ p∈r.ps,okPe p=true)∧∀ p∈r.net.q,okPq r.ps.length p=true:=by
 unfold okRm
 simp only [Bool.and_eq_true,decide_eq_true_eq,List.all_eq_true]
theorem rmE_530{r:Rm}(h:¬ okRm r=true):rmE r=530:=if_neg h
theorem rmE_0{r:Rm}(h:okRm r=true):rmE r=0:=if_pos h
theorem okPq_iff{n:Nat}{p:Pc}:okPq n p=true↔(readB p.p).isSome=true∧p.a<n∧p.b<n:=by
 unfold okPq
 simp only [Bool.and_eq_true,decide_eq_true_eq]
theorem sCheck(r:Rm):PCall Tryz.prog 16 [dRm r] (.ret (dI (rmE r))):=by
 refine pcall_of_vc h539 c16 (by simp [a16]) fun hr=>?_
 have hlen:=((hr (dRm r) (by simp)).agg (.sl 1 (r.ps.map dPe)) (by simp [dRm])).2.sl.1
 have hlen2:=((hr (dRm r) (by simp)).agg (.sl 3 (r.net.q.map dPc)) (by simp [dRm])).2.sl.1
 simp at hlen hlen2
 have hN:=C539.net r.net
 simp [a16]
 by_cases q1:1≤r.ps.length∧r.ps.length≤24
 ·obtain⟨q1,q2⟩:=q1
  have p1:¬ (r.ps.length:Int)<1:=by omega
  have p2:¬ (24:Int)<(r.ps.length:Int):=by omega
  have p1':¬ r.ps.length=0:=by omega
  have p2':¬ 24<r.ps.length:=by omega
  refine vc_path [.ret (dI (eNet r.net))] ?_
  cases q3:okNw r.net with
  | false =>
   unfold eNet at hN ⊢
   rw [q3] at hN ⊢
   simp [p1,p2,p1',p2',dRm] at hN ⊢
   rw [rmE_530 fun h=>by rw [(okRm_iff.1 h).2.2.1] at q3;cases q3]
   exact⟨hN,leD_of_eq rfl⟩
  | true =>
   unfold eNet at hN ⊢
   rw [q3] at hN ⊢
   have hpk:=okNw_all q3
   simp [p1,p2,p1',p2',dRm] at hN ⊢
   refine⟨hN,?_⟩
   refine vc_loopK [1,26,27] Nat (fun y=>[(28,true,.d (dI y))]) (fun y=>[]) (fun y=>y≤r.ps.length∧∀ (j:Nat) (h:j<y) (h2:j<r.ps.length),okPe r.ps[j]=true) (fun y=>r.ps.length-y) 0 (by simp) ⟨[],[],?_⟩ (fun k hk=>?_)
   ·simp
   obtain⟨h1,h2⟩:=hk
   simp
   refine⟨fun hlt=>?_,fun hge=>?_⟩
   ·simp [hlt]
    have hV:=C539.valid r.ps[k]
    refine vc_path [.ret (dB (okPe r.ps[k]))] ?_
    cases hp:okPe r.ps[k] with
    | false =>
     have hall:rmE r=530:=rmE_530 fun h=>by
      have:=(okRm_iff.1 h).2.2.2.1 _ (List.getElem_mem hlt)
      rw [hp] at this;cases this
     rw [hp] at hV
     simp [hlt,dPe] at hV ⊢
     exact⟨hV,leD_of_eq (by simp [hall])⟩
    | true =>
     rw [hp] at hV
     simp [hlt,dPe] at hV ⊢
     refine⟨hV,k+1,⟨by omega,fun j hj hj2=>?_⟩,by omega,[],[],?_⟩
     ·by_cases e:j=k
      ·subst e;exact hp
      ·exact h2 j (by omega) hj2
     ·rw [wrap64 (by omega)];simp
   ·have:k=r.ps.length:=by omega
    subst this
    have hall:∀ p∈r.ps,okPe p=true:=fun p hp=>by
     obtain⟨j,hj,rfl⟩:=List.mem_iff_getElem.1 hp
     exact h2 j hj hj
    simp
    refine vc_loopK [1,38,39] Nat (fun y=>[(40,true,.d (dI y))]) (fun y=>[]) (fun y=>y≤r.net.q.length∧∀ (j:Nat) (h:j<y) (h2:j<r.net.q.length),okPq r.ps.length r.net.q[j]=true) (fun y=>r.net.q.length-y) 0 (by simp) ⟨[],[],?_⟩ (fun i hi=>?_)
    ·simp
    obtain⟨h3,h4⟩:=hi
    simp
    refine⟨fun hlt=>?_,fun hge=>?_⟩
    ·simp [hlt]
     have hb:=okPc_len (hpk _ (List.getElem_mem hlt))
     have hV:=C539.rd r.net.q[i].p hb.1
     refine vc_path [.ret (.tup [dNt (sRdN r.net.q[i].p hb.1),dB (readB r.net.q[i].p).isSome])] ?_
     simp [hlt,dPc]
     refine⟨hV,?_⟩
     have hbad:¬ okPq r.ps.length r.net.q[i]=true→rmE r=530:=fun hp=>rmE_530 fun h=>hp ((okRm_iff.1 h).2.2.2.2 _ (List.getElem_mem hlt))
     refine vc_path [] ?_
     simp
     refine⟨fun hn=>leD_of_eq (by rw [hbad fun h=>by have:=(okPq_iff.1 h).1;rw [hn] at this;cases this]),fun hs=>⟨fun hm=>leD_of_eq (by rw [hbad fun h=>by have h1:=(okPq_iff.1 h).2;split at hm <;> omega]),fun hm=>?_⟩⟩
     have hok:okPq r.ps.length r.net.q[i]=true:=okPq_iff.2 ⟨hs,by split at hm <;> omega,by split at hm <;> omega⟩
     refine⟨i+1,⟨by omega,fun j hj hj2=>?_⟩,by omega,[],[],?_⟩
     ·by_cases e:j=i
      ·subst e;exact hok
      ·exact h4 j (by omega) hj2
     ·rw [wrap64 (by omega)];simp
    ·have:i=r.net.q.length:=by omega
     subst this
     rw [rmE_0 (okRm_iff.2 ⟨q1,q2,q3,hall,fun p hp=>by
      obtain⟨j,hj,rfl⟩:=List.mem_iff_getElem.1 hp
      exact h4 j hj hj⟩)]
     exact leD_of_eq rfl
 ·refine vc_path [.ret (dI 0)] ?_
  have hE:rmE r=530:=rmE_530 fun h=>q1 ⟨(okRm_iff.1 h).1,(okRm_iff.1 h).2.1⟩
  by_cases p1:r.ps.length=0
  ·simp [p1,hE]
  ·have p2:¬ (r.ps.length:Int)<1:=by omega
   have p3:(24:Int)<(r.ps.length:Int):=by omega
   have p4:24<r.ps.length:=by omega
   simp [p1,p2,p3,p4,hE]
theorem rCheckS(r:Rm):PCall Tryz.prog 17 [dRm r] (.ret (dI (rmE r))):=by
 refine pcall_of_vc h539 c17 (by simp [a17]) fun hr=>?_
 have hlen:=((hr (dRm r) (by simp)).agg (.sl 1 (r.ps.map dPe)) (by simp [dRm])).2.sl.1
 have hlen2:=((hr (dRm r) (by simp)).agg (.sl 3 (r.net.q.map dPc)) (by simp [dRm])).2.sl.1
 simp at hlen hlen2
 have hN:=C539.rnet r.net
 simp [a17]
 by_cases q1:1≤r.ps.length∧r.ps.length≤24
 ·obtain⟨q1,q2⟩:=q1
  have p1:¬ (r.ps.length:Int)<1:=by omega
  have p2:¬ (24:Int)<(r.ps.length:Int):=by omega
  have p1':¬ r.ps.length=0:=by omega
  have p2':¬ 24<r.ps.length:=by omega
  refine vc_path [.ret (dI (eNet r.net))] ?_
  cases q3:okNw r.net with
  | false =>
   unfold eNet at hN ⊢
   rw [q3] at hN ⊢
   simp [p1,p2,p1',p2',dRm] at hN ⊢
   rw [rmE_530 fun h=>by rw [(okRm_iff.1 h).2.2.1] at q3;cases q3]
   exact⟨hN,leD_of_eq rfl⟩
  | true =>
   unfold eNet at hN ⊢
   rw [q3] at hN ⊢
   have hpk:=okNw_all q3
   simp [p1,p2,p1',p2',dRm] at hN ⊢
   refine⟨hN,?_⟩
   refine vc_loopK [1] Nat (fun y=>[(3,true,.d (dI y))]) (fun y=>[]) (fun y=>y≤r.ps.length∧∀ (j:Nat) (h:j<y) (h2:j<r.ps.length),okPe r.ps[j]=true) (fun y=>r.ps.length-y) 0 (by simp) ⟨[],[],?_⟩ (fun k hk=>?_)
   ·simp
   obtain⟨h1,h2⟩:=hk
   simp
   refine⟨fun hlt=>?_,fun hge=>?_⟩
   ·skip
    have hV:=C539.rvalid r.ps[k]
    refine vc_path [.ret (dB (okPe r.ps[k]))] ?_
    cases hp:okPe r.ps[k] with
    | false =>
     have hall:rmE r=530:=rmE_530 fun h=>by
      have:=(okRm_iff.1 h).2.2.2.1 _ (List.getElem_mem hlt)
      rw [hp] at this;cases this
     rw [hp] at hV
     simp [hlt,dPe] at hV ⊢
     exact⟨hV,leD_of_eq (by simp [hall])⟩
    | true =>
     rw [hp] at hV
     simp [hlt,dPe] at hV ⊢
     refine⟨hV,k+1,⟨by omega,fun j hj hj2=>?_⟩,by omega,[],[],?_⟩
     ·by_cases e:j=k
      ·subst e;exact hp
      ·exact h2 j (by omega) hj2
     ·rw [wrap64 (by omega)];simp
   ·have:k=r.ps.length:=by omega
    subst this
    have hall:∀ p∈r.ps,okPe p=true:=fun p hp=>by
     obtain⟨j,hj,rfl⟩:=List.mem_iff_getElem.1 hp
     exact h2 j hj hj
    simp
    refine vc_loopK [1] Nat (fun y=>[(4,true,.d (dI y))]) (fun y=>[]) (fun y=>y≤r.net.q.length∧∀ (j:Nat) (h:j<y) (h2:j<r.net.q.length),okPq r.ps.length r.net.q[j]=true) (fun y=>r.net.q.length-y) 0 (by simp) ⟨[],[],?_⟩ (fun i hi=>?_)
    ·simp
    obtain⟨h3,h4⟩:=hi
    simp
    refine⟨fun hlt=>?_,fun hge=>?_⟩
    ·simp [hlt]
     have hb:=okPc_len (hpk _ (List.getElem_mem hlt))
     have hV:=C539.rrd r.net.q[i].p hb.1
     refine vc_path [.ret (.tup [dNt (rRdN r.net.q[i].p hb.1),dB (readB r.net.q[i].p).isSome])] ?_
     simp [hlt,dPc]
     refine⟨hV,?_⟩
     have hbad:¬ okPq r.ps.length r.net.q[i]=true→rmE r=530:=fun hp=>rmE_530 fun h=>hp ((okRm_iff.1 h).2.2.2.2 _ (List.getElem_mem hlt))
     refine vc_path [] ?_
     simp
     refine⟨fun hn=>leD_of_eq (by rw [hbad fun h=>by have:=(okPq_iff.1 h).1;rw [hn] at this;cases this]),fun hs=>⟨fun hm=>leD_of_eq (by rw [hbad fun h=>by have h1:=(okPq_iff.1 h).2;omega]),fun hm=>⟨fun hm2=>leD_of_eq (by rw [hbad fun h=>by have h1:=(okPq_iff.1 h).2;omega]),fun hm2=>?_⟩⟩⟩
     have hok:okPq r.ps.length r.net.q[i]=true:=okPq_iff.2 ⟨hs,by omega,by omega⟩
     refine⟨i+1,⟨by omega,fun j hj hj2=>?_⟩,by omega,[],[],?_⟩
     ·by_cases e:j=i
      ·subst e;exact hok
      ·exact h4 j (by omega) hj2
     ·rw [wrap64 (by omega)];simp
    ·have:i=r.net.q.length:=by omega
     subst this
     rw [rmE_0 (okRm_iff.2 ⟨q1,q2,q3,hall,fun p hp=>by
      obtain⟨j,hj,rfl⟩:=List.mem_iff_getElem.1 hp
      exact h4 j hj hj⟩)]
     exact leD_of_eq rfl
 ·refine vc_path [.ret (dI 0)] ?_
  have hE:rmE r=530:=rmE_530 fun h=>q1 ⟨(okRm_iff.1 h).1,(okRm_iff.1 h).2.1⟩
  by_cases p1:r.ps.length=0
  ·simp [p1,hE]
  ·have p2:¬ (r.ps.length:Int)<1:=by omega
   have p3:(24:Int)<(r.ps.length:Int):=by omega
   have p4:24<r.ps.length:=by omega
   simp [p1,p2,p3,p4,hE]
end

section
attribute [local simp] dZ_agg dZ_nt dZ_noTup dZ_cells dZ_one bz_toList bz_size strV dSp_cells dSp_isAgg dSp_noTup dSp_nt dCh_cells dCh_isAgg dCh_noTup dCh_nt dNt_cells dNt_isAgg dNt_noTup dNt_nt
set_option maxRecDepth 8000
set_option maxHeartbeats 4000000
inductive C540:FuncId→List D→Out→Prop
 | cmp (a b:Nt) (ha:a.ch.sp.tx.length≤1000000) (hb:b.ch.sp.tx.length≤1000000):C540 90 [dNt a,dNt b] (.ret (dI (cmpT (msgB a) (msgB b))))
 | bef (a b:Nt) (ha:a.ch.sp.tx.length≤1000000) (hb:b.ch.sp.tx.length≤1000000):C540 56 [dNt a,dNt b] (.ret (dB (bLt (msgB a) (msgB b))))
theorem h540:∀ f ds out,C540 f ds out→PCall Tryz.prog f ds out:=by
 intro f ds out h
 cases h with
 | cmp a b ha hb=>exact sCmpN a b ha hb
 | bef a b ha hb=>exact rBefore a b ha hb
theorem okNt_tx6{n:Nt}(h:okNt n=true):n.ch.sp.tx.length≤1000000:=by have:=okNt_tx h;omega
theorem sSearch(l:List Nt) (n:Nt) (hl:okNs none l=true) (hn:okNt n=true) (hlen:l.length≤100000):PCall Tryz.prog 116 [.sl 7 (l.map dNt),dNt n,.fn (.func 90) [] []] (.ret (.tup [dI (posN l n),dB (decide (l[posN l n]?=some n))])):=by
 have hok:=okNs_ok hl
 have hpw:=okNs_pw hl
 have hpi:=List.pairwise_iff_getElem.1 hpw
 refine pcall_of_vc h540 c116 (by simp [a116]) fun hr=>?_
 simp [a116]
 refine vc_loopK [0,2,4,8] (Nat×Nat) (fun y=>[(9,true,.d (dI y.1)),(10,true,.d (dI y.2))]) (fun y=>[]) (fun y=>y.1≤y.2∧y.2≤l.length∧(∀ (k:Nat) (hk:k<l.length),k<y.1→nLt l[k] n)∧(∀ (k:Nat) (hk:k<l.length),y.2≤k→¬ nLt l[k] n)) (fun y=>y.2-y.1) (0,l.length) ⟨by omega,by omega,fun k hk h=>by omega,fun k hk h=>by omega⟩ ⟨[],[],?_⟩ (fun y hy=>?_)
 ·simp
 obtain⟨i,j⟩:=y
 obtain⟨h1,h2,h3,h4⟩:=hy
 simp only at h1 h2 h3 h4
 simp
 refine⟨fun hlt=>?_,fun hge=>?_⟩
 ·have hm:(i+j) / 2<l.length:=by omega
  have e1:IntKind.i64.wrap ((i:Int)+(j:Int))=((i+j:Nat):Int):=by rw [wrap64 (by omega)];omega
  have e2:IntKind.u64.wrap (((i+j:Nat)):Int)=((i+j:Nat):Int):=wrap_u64 (by omega) (by omega)
  have e3:=half64 i j (by omega)
  have e4:=sh1 i j
  have e5:IntKind.i64.wrap (((i+j) / 2:Nat)+1:Int)=(((i+j) / 2+1:Nat):Int):=by rw [wrap64 (by omega)];omega
  have k1:=C540.cmp l[(i+j) / 2] n (okNt_tx6 (hok _ (List.getElem_mem hm))) (okNt_tx6 hn)
  rw [e1,e2,e4]
  simp only [e3]
  generalize hq:(i+j) / 2=q at *
  refine⟨trivial,vc_pathD [.ret (dI (cmpT (msgB l[q]) (msgB n)))] ?_⟩
  by_cases q5:nLt l[q] n
  ·have q6:cmpT (msgB l[q]) (msgB n)<0:=(cmpT_lt _ _).2 q5
   simp [hm,q6,e5]
   refine⟨k1,rfl,q+1,j,⟨by omega,h2,fun k hk hkq=>?_,fun k hk hj=>Bool.eq_false_iff.2 (h4 k hk hj)⟩,by omega,[],[],?_⟩
   ·by_cases e:k=q
    ·subst e;exact q5
    ·exact bLt_trans (hpi k q hk hm (by omega)) q5
   ·simp
  ·have q6:¬ cmpT (msgB l[q]) (msgB n)<0:=fun h=>q5 ((cmpT_lt _ _).1 h)
   simp [hm,q6,e5]
   refine⟨k1,rfl,i,q,⟨by omega,by omega,h3,fun k hk hkq=>?_⟩,by omega,[],[],?_⟩
   ·by_cases e:k=q
    ·subst e;exact Bool.eq_false_iff.2 q5
    ·exact Bool.eq_false_iff.2 fun h=>q5 (bLt_trans (hpi q k hm hk (by omega)) h)
   ·simp
 ·have:i=j:=by omega
  subst this
  have hp:=posN_uniq hpw h2 h3 h4
  rw [← hp]
  by_cases hi:i<l.length
  ·have k1:=C540.cmp l[i] n (okNt_tx6 (hok _ (List.getElem_mem hi))) (okNt_tx6 hn)
   refine vc_pathD [.ret (dI (cmpT (msgB l[i]) (msgB n)))] ?_
   simp [hi]
   have hq:(cmpT (msgB l[i]) (msgB n) == 0)=decide (l[i]=n):=by
    rw [Bool.eq_iff_iff,beq_iff_eq,decide_eq_true_eq,cmpT_zero]
    exact⟨fun h=>msgB_inj (hok _ (List.getElem_mem hi)) hn h,fun h=>by rw [h]⟩
   exact⟨k1,rfl,leD_of_eq (by simp [hq,hi])⟩
  ·have hi':¬ (i:Int)<l.length:=by omega
   refine vc_pathD [.ret (dI 0)] ?_
   simp [hi,hi']
   rfl
theorem eqB_nt(x y:Nt):eqB [dI x.lang,dI x.seq,dI x.ch.at_,dI x.ch.kind,dI x.ch.sp.id,dI x.ch.sp.ver,dZ x.ch.sp.tx] [dI y.lang,dI y.seq,dI y.ch.at_,dI y.ch.kind,dI y.ch.sp.id,dI y.ch.sp.ver,dZ y.ch.sp.tx]=decide (x=y):=by
 rw [Bool.eq_iff_iff]
 simp only [dI,dZ,eqB,Bool.and_eq_true,beq_iff_eq,decide_eq_true_eq,Bool.and_true,bz_inj]
 constructor
 ·rintro⟨h1,h2,h3,h4,h5,h6,h7⟩;exact Nt.ext' h1 h2 (Ch.ext' h3 h4 (Sp.ext' h5 h6 h7))
 ·rintro rfl;exact⟨rfl,rfl,rfl,rfl,rfl,rfl,rfl⟩
theorem rLearn(l:List Nt) (n:Nt) (hl:okNs none l=true) (hn:okNt n=true) (hlen:l.length≤100000):PCall Tryz.prog 54 [.sl 7 (l.map dNt),dNt n] (.ret (.tup [.sl 7 ((lrnL l n).map dNt),dI (lrnE l n)])):=by
 have hok:=okNs_ok hl
 have hpw:=okNs_pw hl
 refine pcall_of_vc h540 c54 (by simp [a54]) fun hr=>?_
 simp [a54]
 refine vc_loopK [0,3] Nat (fun y=>[(6,true,.d (dI y))]) (fun y=>[]) (fun y=>y≤l.length∧∀ (k:Nat) (hk:k<l.length),k<y→nLt l[k] n) (fun y=>l.length-y) 0 (by simp) ⟨[],[],?_⟩ (fun i hi=>?_)
 ·simp
 obtain⟨h1,h2⟩:=hi
 simp
 by_cases hlt:i<l.length
 ·have k1:=C540.bef l[i] n (okNt_tx6 (hok _ (List.getElem_mem hlt))) (okNt_tx6 hn)
  refine vc_pathD [.ret (dB (bLt (msgB l[i]) (msgB n)))] ?_
  cases q5:bLt (msgB l[i]) (msgB n) with
  | true =>
   rw [q5] at k1
   simp [hlt]
   refine⟨k1,rfl,i+1,⟨by omega,fun k hk hki=>?_⟩,by omega,[],[],?_⟩
   ·by_cases e:k=i
    ·subst e;exact q5
    ·exact h2 k hk (by omega)
   ·rw [wrap64 (by omega)];simp
  | false =>
   rw [q5] at k1
   simp [hlt]
   refine⟨k1,rfl,?_⟩
   have hpi:=List.pairwise_iff_getElem.1 hpw
   have hp:=posN_uniq hpw (by omega) h2 (fun k hk hik hlt2=>by
    by_cases e:k=i
    ·subst e;rw [nLt,q5] at hlt2;cases hlt2
    ·have:=bLt_trans (hpi i k hlt hk (by omega)) hlt2
     rw [q5] at this;cases this)
   have heq:eqB [.lit (.int .i64 l[i].lang),.lit (.int .i64 l[i].seq),.lit (.int .i64 l[i].ch.at_),.lit (.int .i64 l[i].ch.kind),.lit (.int .i64 l[i].ch.sp.id),.lit (.int .i64 l[i].ch.sp.ver),dZ l[i].ch.sp.tx] [.lit (.int .i64 n.lang),.lit (.int .i64 n.seq),.lit (.int .i64 n.ch.at_),.lit (.int .i64 n.ch.kind),.lit (.int .i64 n.ch.sp.id),.lit (.int .i64 n.ch.sp.ver),dZ n.ch.sp.tx]=decide (l[i]=n):=eqB_nt l[i] n
   have hec:eqC [.int .i64,.int .i64,.int .i64,.int .i64,.int .i64,.int .i64,.str] [.lit (.int .i64 l[i].lang),.lit (.int .i64 l[i].seq),.lit (.int .i64 l[i].ch.at_),.lit (.int .i64 l[i].ch.kind),.lit (.int .i64 l[i].ch.sp.id),.lit (.int .i64 l[i].ch.sp.ver),dZ l[i].ch.sp.tx] [.lit (.int .i64 n.lang),.lit (.int .i64 n.seq),.lit (.int .i64 n.ch.at_),.lit (.int .i64 n.ch.kind),.lit (.int .i64 n.ch.sp.id),.lit (.int .i64 n.ch.sp.ver),dZ n.ch.sp.tx]=True:=by simp [eqC,dZ]
   unfold lrnE lrnL
   rw [← hp]
   refine vc_pathD [] ?_
   simp [hlt,heq,hec,dNt]
   refine⟨rfl,fun he=>?_,fun he=>⟨fun h4=>?_,fun h4=>⟨by omega,⟨by omega,by omega⟩,⟨by omega,by omega⟩,by omega,⟨by omega,by omega⟩,rfl,?_⟩⟩⟩
   ·rw [if_pos he,if_pos he];exact⟨leD_of_eq rfl,leD_of_eq rfl⟩
   ·rw [if_neg he,if_neg he,if_pos (by omega),if_pos (by omega)];exact⟨LeD.nil' 7 7,leD_of_eq rfl⟩
   ·rw [if_neg he,if_neg he,if_neg (by omega),if_neg (by omega)]
    refine⟨leD_of_eq ?_,leD_of_eq rfl⟩
    have ht:List.take l.length (l.map dNt)=l.map dNt:=List.take_of_length_le (by simp)
    rw [ht,List.map_append,List.map_take,List.map_cons,List.map_drop]
    rfl
 ·have hlt':¬ (i:Int)<l.length:=by omega
  refine vc_pathD [.ret (dB false)] ?_
  simp [hlt,hlt']
  refine⟨rfl,?_⟩
  have:i=l.length:=by omega
  subst this
  have hp:=posN_uniq hpw (by omega) h2 (fun k hk hik=>by omega)
  unfold lrnE lrnL
  rw [← hp]
  refine vc_pathD [] ?_
  simp
  refine⟨rfl,fun h4=>?_,fun h4=>⟨⟨by omega,by omega⟩,⟨by omega,by omega⟩,rfl,?_⟩⟩
  ·rw [if_pos (by omega),if_pos (by omega)];exact⟨LeD.nil' 7 7,leD_of_eq rfl⟩
  ·rw [if_neg (by omega),if_neg (by omega)]
   refine⟨leD_of_eq ?_,leD_of_eq rfl⟩
   rw [List.take_of_length_le (by simp),List.map_append]
   rfl
end

section
attribute [local simp] dZ_agg dZ_nt dZ_noTup dZ_cells dZ_one bz_toList bz_size strV dSp_cells dSp_isAgg dSp_noTup dSp_nt dCh_cells dCh_isAgg dCh_noTup dCh_nt dNt_cells dNt_isAgg dNt_noTup dNt_nt dPe_cells dPe_isAgg dPe_noTup dPe_nt dRm_cells dRm_isAgg dRm_noTup dRm_nt dPc_cells dPc_agg dPc_noTup dNw_cells dNw_agg dNw_noTup
set_option maxRecDepth 8000
set_option maxHeartbeats 4000000
theorem allDm:∀ ds:List D,allD (ds.map AV.d)=some ds
 | []=>rfl
 | d::r=>by rw [List.map_cons,allD_d,allDm r];rfl
theorem all2_leD:∀ ds:List D,All2 LeD ds ds
 | []=>.nil
 | d::r=>.cons (LeD.refl d) (all2_leD r)
theorem frz_rows{h:List (Nat×HO)}{k n z l c:Nat}{ag:Bool}{es:List D}(hb:Go.Proofs.YthimbimilnfdnaaGreatDoor.AL.look h n=some (HO.box ag (wr es))) (hz:∀ e∈es,e.cells.length=z) (h1:∀ c∈D.flat es,c.one=true) (hl:l=es.length):frz h k (.bsl n 0 z l c) (.sl z es):=by
 have hfl:(D.flat es).length=es.length*z:=flat_len hz
 obtain⟨e1,e2,e3⟩:=elsD_spec (z:=z) (len:=l) (ds:=D.flat es) (by rw [hfl,hl];exact Nat.le_refl _) h1
 rw [frz_bsl,hb]
 show match allD (wr es) with
  | some ds=>0+l*z≤ds.length∧LeD (.sl z (elsD z l (ds.drop 0))) (.sl z es)
  | none=>False
 rw [wr,allDm]
 refine⟨by rw [hfl,hl];omega,?_⟩
 rw [List.drop_zero]
 refine LeD_slx ?_ (by rw [e1,hl]) hz h1
 rw [e3,List.take_of_length_le (by rw [hfl,hl];exact Nat.le_refl _)]
 exact all2_leD _
theorem dPe_one{ps:List (List Nt)}:∀ c∈D.flat (ps.map dPe),c.one=true:=fun c hc=>by
 simp only [D.flat,List.mem_flatMap,List.mem_map] at hc
 obtain⟨e,⟨p,_,rfl⟩,hc⟩:=hc
 simp only [dPe_cells,List.mem_singleton] at hc
 subst hc;rfl
theorem dPe_z{ps:List (List Nt)}:∀ e∈ps.map dPe,e.cells.length=1:=fun e he=>by
 obtain⟨p,_,rfl⟩:=List.mem_map.1 he;rfl
theorem wr_pe:∀ ps:List (List Nt),wr (ps.map dPe)=ps.map fun l=>AV.d (.sl 7 (l.map dNt))
 | []=>rfl
 | l::r=>by rw [List.map_cons,wr_cons,wr_pe r];rfl
theorem wr_pe_set(ps:List (List Nt)) (i:Nat) (l:List Nt):(wr (ps.map dPe)).set i (AV.d (.sl 7 (l.map dNt)))=wr ((ps.set i l).map dPe):=by
 rw [wr_pe,wr_pe,List.map_set]
theorem leZRm:LeD (.agg [.nil 1,.nil 3,.nil 2]) (dRm zRm):=LeD.agg (.cons (LeD.nil' 1 1) (.cons (LeD.nil' 3 3) (.cons (LeD.nil' 2 2) .nil))) (by simp)
theorem rNode(r:Rm) (i:Int):PCall Tryz.prog 78 [dRm r,dI i] (.ret (dB (inR r i))):=by
 refine pcall_of_vc (C:=fun _ _ _=>False) (by rintro _ _ _ ⟨⟩) c78 (by simp [a78]) fun hr=>?_
 simp [a78]
 refine vc_path [] ?_
 unfold inR
 by_cases h:0≤i
 ·simp [h]
 ·simp [h]
inductive C541:FuncId→List D→Out→Prop
 | msg (n:Nt) (h:n.ch.sp.tx.length≤1000000):C541 29 [dNt n] (.ret (.sl 1 ((msgB n).map dU)))
 | snd (w:Nw) (p:Pc):C541 84 [dNw w,dPc p] (.ret (.tup [dNw (sndN w p),dI (sndE w p)]))
 | lrn (l:List Nt) (n:Nt) (hl:okNs none l=true) (hn:okNt n=true) (hlen:l.length≤100000):C541 54 [.sl 7 (l.map dNt),dNt n] (.ret (.tup [.sl 7 ((lrnL l n).map dNt),dI (lrnE l n)]))
theorem h541:∀ f ds out,C541 f ds out→PCall Tryz.prog f ds out:=by
 intro f ds out h
 cases h with
 | msg n h=>exact rMessage n h
 | snd w p=>exact nwRsend w p
 | lrn l n hl hn hlen=>exact rLearn l n hl hn hlen
def sndR (r:Rm) (p:Pc):Rm:=if sndE r.net p=0 then ⟨r.ps,sndN r.net p⟩ else zRm
theorem rSendS(r:Rm) (a b:Int) (n:Nt) (h:n.ch.sp.tx.length≤1000000):PCall Tryz.prog 80 [dRm r,dI a,dI b,dNt n] (.ret (.tup [dRm (sndR r (pcOf a b n)),dI (sndE r.net (pcOf a b n))])):=by
 have hS:=C541.snd r.net (pcOf a b n)
 refine pcall_of_vc h541 c80 (by simp [a80]) fun hr=>?_
 simp [a80]
 refine vc_pathD [.ret (.sl 1 ((msgB n).map dU)),.ret (.tup [dNw (sndN r.net (pcOf a b n)),dI (sndE r.net (pcOf a b n))])] ?_
 simp
 refine⟨.msg n h,hS,rfl,?_⟩
 unfold sndR
 refine⟨fun e=>by rw [if_neg e];exact leZRm,fun e=>⟨by rw [if_pos e];exact leD_of_eq rfl,by rw [e];exact leD_of_eq rfl⟩⟩
theorem rLearnS(r:Rm) (i:Nat) (n:Nt) (hi:i<r.ps.length) (hl:okNs none r.ps[i]=true) (hn:okNt n=true) (hlen:r.ps[i].length≤100000) (hk:r.ps.length≤100000):PCall Tryz.prog 79 [dRm r,dI i,dNt n] (.ret (.tup [dRm (if lrnE r.ps[i] n=0 then ⟨r.ps.set i (lrnL r.ps[i] n),r.net⟩ else zRm),dI (lrnE r.ps[i] n)])):=by
 have hL:=C541.lrn r.ps[i] n hl hn hlen
 refine pcall_of_vcZ h541 c79 (by simp [a79]) 4 fun hr=>?_
 simp [a79]
 refine vc_pathD [.ret (.tup [.sl 7 ((lrnL r.ps[i] n).map dNt),dI (lrnE r.ps[i] n)])] ?_
 simp [hi,dPe]
 refine⟨hL,rfl,?_⟩
 have hfl:(D.flat (r.ps.map dPe)).length=r.ps.length*1:=by rw [flat_len (sz:=1) (by simp)];simp
 refine⟨fun e=>by rw [if_neg e];exact leZRm,fun e=>⟨⟨fun h=>by rw [h] at hi;simp at hi,by omega,by omega⟩,by omega,?_,by rw [e];exact leD_of_eq rfl⟩⟩
 rw [if_pos e,dRm,frz_agg]
 refine⟨?_,by simp⟩
 rw [wr_pe_set]
 rw [frzL_cons,frzL_cons,frzL_cons,frzL_nil,frz_d,frz_d]
 exact⟨frz_rows (ag:=true) rfl dPe_z dPe_one (by simp),LeD.refl _,LeD.refl _,trivial⟩
end

section
attribute [local simp] dZ_agg dZ_nt dZ_noTup dZ_cells dZ_one bz_toList bz_size strV dSp_cells dSp_isAgg dSp_noTup dSp_nt dCh_cells dCh_isAgg dCh_noTup dCh_nt dNt_cells dNt_isAgg dNt_noTup dNt_nt dPe_cells dPe_isAgg dPe_noTup dPe_nt dRm_cells dRm_isAgg dRm_noTup dRm_nt dPc_cells dPc_agg dPc_noTup dNw_cells dNw_agg dNw_noTup dMv_cells dMv_isAgg dMv_noTup dMv_nt
set_option maxRecDepth 8000
set_option maxHeartbeats 4000000
def restQ (k i j:Nat) (n:Nt):List Pc:=((List.range' j (k-j)).filter (fun j=>j != i)).map fun(j:Nat)=>pcOf i j n
theorem restQ_0(k i:Nat) (n:Nt):restQ k i 0 n=tellQ k i n:=by
 unfold restQ tellQ;rw [Nat.sub_zero,← List.range_eq_range']
theorem restQ_end(k i:Nat) (n:Nt):restQ k i k n=[]:=by unfold restQ;rw [Nat.sub_self];rfl
theorem restQ_ne{k i j:Nat}{n:Nt}(h:j<k) (hi:¬ j=i):restQ k i j n=pcOf i j n::restQ k i (j+1) n:=by
 unfold restQ
 rw [show k-j=(k-(j+1))+1 by omega,List.range'_succ,List.filter_cons_of_pos (by simpa using hi)];rfl
theorem restQ_eq{k i j:Nat}{n:Nt}(h:j<k) (hi:j=i):restQ k i j n=restQ k i (j+1) n:=by
 unfold restQ
 rw [show k-j=(k-(j+1))+1 by omega,List.range'_succ,List.filter_cons_of_neg (by simpa using hi)]
def finR (ps:List (List Nt)) (s:Nw×Int):Rm×Int:=if s.2≠0 then (zRm,s.2) else (⟨ps,s.1⟩,0)
theorem tellR_eq{r:Rm}{i:Nat}{n:Nt}(hi:i<r.ps.length):tellR r i n=if lrnE r.ps[i] n=0 then finR (r.ps.set i (lrnL r.ps[i] n)) (sndAll r.net (tellQ r.ps.length i n)) else (zRm,lrnE r.ps[i] n):=by
 unfold tellR;rw [List.getElem?_eq_getElem hi]
 by_cases h:lrnE r.ps[i] n=0
 ·rw [if_pos h];show (if lrnE r.ps[i] n≠0 then _ else _)=_;rw [if_neg (fun h'=>h' h)];rfl
 ·rw [if_neg h];show (if lrnE r.ps[i] n≠0 then _ else _)=_;rw [if_pos h]
theorem syncR_eq{r:Rm}{i k:Nat}(hi:i<r.ps.length):syncR r i k=finR r.ps (sndAll r.net (r.ps[i].map fun n=>pcOf i k n)):=by
 unfold syncR;rw [List.getElem?_eq_getElem hi];rfl
theorem sndAll_cons(w:Nw) (p:Pc) (r:List Pc):sndAll w (p::r)=if sndE w p=0 then sndAll (sndN w p) r else (w,sndE w p):=rfl
inductive C542:FuncId→List D→Out→Prop
 | node (r:Rm) (i:Int):C542 78 [dRm r,dI i] (.ret (dB (inR r i)))
 | snd (r:Rm) (a b:Int) (n:Nt) (h:n.ch.sp.tx.length≤1000000):C542 80 [dRm r,dI a,dI b,dNt n] (.ret (.tup [dRm (sndR r (pcOf a b n)),dI (sndE r.net (pcOf a b n))]))
 | lrn (r:Rm) (i:Nat) (n:Nt) (hi:i<r.ps.length) (hl:okNs none r.ps[i]=true) (hn:okNt n=true) (hlen:r.ps[i].length≤100000) (hk:r.ps.length≤100000):C542 79 [dRm r,dI i,dNt n] (.ret (.tup [dRm (if lrnE r.ps[i] n=0 then ⟨r.ps.set i (lrnL r.ps[i] n),r.net⟩ else zRm),dI (lrnE r.ps[i] n)]))
 | formed (n:Nt):C542 55 [dNt n] (.ret (dB (okNt n)))
theorem h542:∀ f ds out,C542 f ds out→PCall Tryz.prog f ds out:=by
 intro f ds out h
 cases h with
 | node r i=>exact rNode r i
 | snd r a b n h=>exact rSendS r a b n h
 | lrn r i n hi hl hn hlen hk=>exact rLearnS r i n hi hl hn hlen hk
 | formed n=>exact rFormed n
def tellX (r:Rm) (m:Mv):Rm×Int:=if inR r m.peer=false then (zRm,1) else if okNt m.note=false then (zRm,530) else tellR r m.peer.toNat m.note
theorem okPe_iff{l:List Nt}:okPe l=true↔okNs none l=true∧l.length≤4096:=by unfold okPe;simp only [Bool.and_eq_true,decide_eq_true_eq]
theorem inR_iff{r:Rm}{i:Int}:inR r i=true↔0≤i∧i<r.ps.length:=by unfold inR;simp only [Bool.and_eq_true,decide_eq_true_eq]
theorem rTell(r:Rm) (m:Mv) (hR:okRm r=true):PCall Tryz.prog 38 [dRm r,dMv m] (.ret (.tup [dRm (tellX r m).1,dI (tellX r m).2])):=by
 obtain⟨g1,g2,g3,g4,g5⟩:=okRm_iff.1 hR
 have hN:=C542.node r m.peer
 have hF:=C542.formed m.note
 refine pcall_of_vc h542 c38 (by simp [a38]) fun hr=>?_
 simp [a38]
 refine vc_path [.ret (dB (inR r m.peer))] ?_
 unfold tellX
 cases q1:inR r m.peer with
 | false =>
  rw [q1] at hN
  simp
  exact⟨hN,leZRm⟩
 | true =>
  rw [q1] at hN
  simp
  refine⟨hN,?_⟩
  refine vc_path [.ret (dB (okNt m.note))] ?_
  cases q2:okNt m.note with
  | false =>
   rw [q2] at hF
   simp
   exact⟨hF,leZRm⟩
  | true =>
   rw [q2] at hF
   simp
   refine⟨hF,?_⟩
   obtain⟨p1,p2⟩:=inR_iff.1 q1
   obtain⟨i,hi⟩:∃ i:Nat,m.peer=i:=⟨m.peer.toNat,by omega⟩
   rw [hi] at p1 p2 ⊢
   have p3:i<r.ps.length:=by omega
   have hpe:=okPe_iff.1 (g4 _ (List.getElem_mem p3))
   have hL:=C542.lrn r i m.note p3 hpe.1 q2 (by omega) (by omega)
   rw [Int.toNat_natCast,tellR_eq p3]
   refine vc_path [.ret (.tup [dRm (if lrnE r.ps[i] m.note=0 then ⟨r.ps.set i (lrnL r.ps[i] m.note),r.net⟩ else zRm),dI (lrnE r.ps[i] m.note)])] ?_
   simp
   refine⟨hL,?_⟩
   generalize hE:lrnE r.ps[i] m.note=E at *
   generalize hPS:r.ps.set i (lrnL r.ps[i] m.note)=PS at *
   generalize hO:(if E=0 then finR PS (sndAll r.net (tellQ r.ps.length i m.note)) else (zRm,E))=OUT
   refine vc_loopK [2,3,4,6] (Nat×Rm×Int) (fun y=>[(8,true,.d (dI y.1)),(7,true,.d (dI y.2.2))]) (fun y=>[(3,.box true ((dRm y.2.1).cells.map .d))]) (fun y=>y.1≤r.ps.length∧(y.2.2=0→y.2.1.ps=PS∧finR PS (sndAll y.2.1.net (restQ r.ps.length i y.1 m.note))=OUT)∧(¬ y.2.2=0→OUT=(zRm,y.2.2)∧y.2.1=zRm)) (fun y=>r.ps.length-y.1) (0,(if E=0 then ⟨PS,r.net⟩ else zRm),E) ⟨by omega,fun e=>?_,fun e=>?_⟩ ⟨[],[],?_⟩ (fun y hy=>?_)
   ·simp only at e
    rw [if_pos e,restQ_0]
    rw [if_pos e] at hO
    exact⟨rfl,hO⟩
   ·simp only at e
    rw [if_neg e]
    rw [if_neg e] at hO
    exact⟨hO.symm,rfl⟩
   ·simp
   obtain⟨j,x,e⟩:=y
   obtain⟨h1,h2,h3⟩:=hy
   simp only at h1 h2 h3
   simp
   refine vc_path [] ?_
   have hpl:PS.length=r.ps.length:=by rw [← hPS,List.length_set]
   by_cases he:e=0
   ·obtain⟨h4,h5⟩:=h2 he
    subst he
    by_cases hj:j<r.ps.length
    ·by_cases hji:j=i
     ·rw [restQ_eq hj hji] at h5
      subst hji
      simp [hj]
      refine⟨j+1,x,0,⟨by omega,fun _=>⟨h4,h5⟩,fun h=>absurd rfl h⟩,by omega,[],[],?_⟩
      rw [wrap64 (by omega)];simp
     ·have hji':¬ (j:Int)=(i:Int):=by omega
      rw [restQ_ne hj hji,sndAll_cons] at h5
      simp [hj,hji']
      have hS:=C542.snd x i j m.note (okNt_tx6 q2)
      refine vc_path [.ret (.tup [dRm (sndR x (pcOf i j m.note)),dI (sndE x.net (pcOf i j m.note))])] ?_
      simp
      refine⟨hS,?_⟩
      unfold sndR
      by_cases hs:sndE x.net (pcOf i j m.note)=0
      ·rw [if_pos hs] at h5
       rw [if_pos hs,hs]
       refine⟨j+1,⟨x.ps,sndN x.net (pcOf i j m.note)⟩,0,⟨by omega,fun _=>⟨h4,h5⟩,fun h=>absurd rfl h⟩,by omega,[],[],?_⟩
       rw [wrap64 (by omega)];simp
      ·rw [if_neg hs] at h5
       rw [if_neg hs]
       refine⟨j+1,zRm,sndE x.net (pcOf i j m.note),⟨by omega,fun h=>absurd h hs,fun _=>⟨by rw [← h5];exact if_pos hs,rfl⟩⟩,by omega,[],[],?_⟩
       rw [wrap64 (by omega)];simp
    ·have:j=r.ps.length:=by omega
     subst this
     rw [restQ_end] at h5
     simp
     rw [← h5,← h4]
     exact⟨leD_of_eq rfl,leD_of_eq rfl⟩
   ·obtain⟨h4,rfl⟩:=h3 he
    simp [he]
    rw [h4]
    exact⟨leD_of_eq rfl,leD_of_eq rfl⟩
def syncX (r:Rm) (m:Mv):Rm×Int:=if (inR r m.peer&&inR r m.to)=false∨m.peer=m.to then (zRm,1) else syncR r m.peer.toNat m.to.toNat
theorem rSync(r:Rm) (m:Mv) (hR:okRm r=true):PCall Tryz.prog 39 [dRm r,dMv m] (.ret (.tup [dRm (syncX r m).1,dI (syncX r m).2])):=by
 obtain⟨g1,g2,g3,g4,g5⟩:=okRm_iff.1 hR
 have hN:=C542.node r m.peer
 have hN2:=C542.node r m.to
 refine pcall_of_vc h542 c39 (by simp [a39]) fun hr=>?_
 simp [a39]
 refine vc_path [.ret (dB (inR r m.peer)),.ret (dB (inR r m.to))] ?_
 unfold syncX
 cases q1:inR r m.peer with
 | false =>
  rw [q1] at hN
  simp
  exact⟨hN,leZRm⟩
 | true =>
  rw [q1] at hN
  cases q2:inR r m.to with
  | false =>
   rw [q2] at hN2
   simp
   exact⟨hN,hN2,leZRm⟩
  | true =>
   rw [q2] at hN2
   by_cases q3:m.peer=m.to
   ·simp [q3]
    rw [q3] at hN
    exact⟨hN,leZRm⟩
   simp [q3]
   refine⟨hN,hN2,?_⟩
   obtain⟨p1,p2⟩:=inR_iff.1 q1
   obtain⟨i,hi⟩:∃ i:Nat,m.peer=i:=⟨m.peer.toNat,by omega⟩
   obtain⟨p4,p5⟩:=inR_iff.1 q2
   obtain⟨k,hk⟩:∃ i:Nat,m.to=i:=⟨m.to.toNat,by omega⟩
   rw [hi] at p1 p2 ⊢
   rw [hk] at p4 p5 ⊢
   have p3:i<r.ps.length:=by omega
   have hpe:=okPe_iff.1 (g4 _ (List.getElem_mem p3))
   have hok:=okNs_ok hpe.1
   rw [Int.toNat_natCast,Int.toNat_natCast,syncR_eq p3]
   simp [p3,dPe]
   generalize hL:r.ps[i]=L at *
   generalize hO:finR r.ps (sndAll r.net (L.map fun n=>pcOf i k n))=OUT
   refine vc_loopK [2,3,4,6,8] (Nat×Rm×Int) (fun y=>[(9,true,.d (dI y.1)),(7,true,.d (dI y.2.2))]) (fun y=>[(3,.box true ((dRm y.2.1).cells.map .d))]) (fun y=>y.1≤L.length∧(y.2.2=0→y.2.1.ps=r.ps∧finR r.ps (sndAll y.2.1.net ((L.drop y.1).map fun n=>pcOf i k n))=OUT)∧(¬ y.2.2=0→OUT=(zRm,y.2.2)∧y.2.1=zRm)) (fun y=>L.length-y.1) (0,r,0) ⟨by omega,fun e=>⟨rfl,hO⟩,fun e=>absurd rfl e⟩ ⟨[],[],?_⟩ (fun y hy=>?_)
   ·simp
   obtain⟨j,x,e⟩:=y
   obtain⟨h1,h2,h3⟩:=hy
   simp only at h1 h2 h3
   simp
   refine vc_path [] ?_
   by_cases he:e=0
   ·obtain⟨h4,h5⟩:=h2 he
    subst he
    by_cases hj:j<L.length
    ·have q7:okNt L[j]=true:=hok _ (List.getElem_mem hj)
     rw [List.drop_eq_getElem_cons hj,List.map_cons,sndAll_cons] at h5
     simp [hj]
     have hS:=C542.snd x i k L[j] (okNt_tx6 q7)
     refine vc_pathD [.ret (.tup [dRm (sndR x (pcOf i k L[j])),dI (sndE x.net (pcOf i k L[j]))])] ?_
     simp [hj]
     refine⟨hS,rfl,?_⟩
     unfold sndR
     by_cases hs:sndE x.net (pcOf i k L[j])=0
     ·rw [if_pos hs] at h5
      rw [if_pos hs,hs]
      refine⟨j+1,⟨x.ps,sndN x.net (pcOf i k L[j])⟩,0,⟨by omega,fun _=>⟨h4,by rw [← List.map_drop];exact h5⟩,fun h=>absurd rfl h⟩,by omega,[],[],?_⟩
      rw [wrap64 (by omega)];simp
     ·rw [if_neg hs] at h5
      rw [if_neg hs]
      refine⟨j+1,zRm,sndE x.net (pcOf i k L[j]),⟨by omega,fun h=>absurd h hs,fun _=>⟨by rw [← h5];exact if_pos hs,rfl⟩⟩,by omega,[],[],?_⟩
      rw [wrap64 (by omega)];simp
    ·have:j=L.length:=by omega
     subst this
     rw [List.drop_length] at h5
     simp
     rw [← h5,← h4]
     exact⟨leD_of_eq rfl,leD_of_eq rfl⟩
   ·obtain⟨h4,rfl⟩:=h3 he
    simp [he]
    rw [h4]
    exact⟨leD_of_eq rfl,leD_of_eq rfl⟩
inductive C543:FuncId→List D→Out→Prop
 | lrn (r:Rm) (i:Nat) (n:Nt) (hi:i<r.ps.length) (hl:okNs none r.ps[i]=true) (hn:okNt n=true) (hlen:r.ps[i].length≤100000) (hk:r.ps.length≤100000):C543 79 [dRm r,dI i,dNt n] (.ret (.tup [dRm (if lrnE r.ps[i] n=0 then ⟨r.ps.set i (lrnL r.ps[i] n),r.net⟩ else zRm),dI (lrnE r.ps[i] n)]))
 | rrd (b:List UInt8) (h:b.length≤1099511627776):C543 49 [.sl 1 (b.map dU)] (.ret (.tup [dNt (rRdN b h),dB (readB b).isSome]))
 | dlv (w:Nw) (i:Int):C543 81 [dNw w,dI i] (.ret (.tup [dPc (dlvP w i),dNw (lseN w i),dI (atE w i)]))
theorem h543:∀ f ds out,C543 f ds out→PCall Tryz.prog f ds out:=by
 intro f ds out h
 cases h with
 | lrn r i n hi hl hn hlen hk=>exact rLearnS r i n hi hl hn hlen hk
 | rrd b h=>exact(Classical.choose_spec (rRead b h)).1
 | dlv w i=>exact nwRdeliver w i
theorem dlv_ok{r:Rm}{at_:Int}(hR:okRm r=true) (hq:¬ (dlvP r.net at_).a=(dlvP r.net at_).b):okPc (dlvP r.net at_)=true∧okPq r.ps.length (dlvP r.net at_)=true:=by
 obtain⟨g1,g2,g3,g4,g5⟩:=okRm_iff.1 hR
 have:dlvP r.net at_∈r.net.q:=by
  unfold dlvP at hq ⊢
  split at hq
  ·exact absurd rfl hq
  ·rename_i hl
   rw [if_neg hl]
   unfold atP at hq ⊢
   split at hq
   ·rename_i ha
    rw [if_pos ha]
    obtain⟨_,hin⟩:=atE_zero.1 ha
    obtain⟨h1,h2⟩:=inQ_iff.1 hin
    rw [List.getD_eq_getElem?_getD,List.getElem?_eq_getElem (by omega)]
    exact List.getElem_mem _
   ·exact absurd rfl hq
 exact⟨okNw_all g3 _ this,g5 _ this⟩
theorem rDeliver(r:Rm) (m:Mv) (hR:okRm r=true):PCall Tryz.prog 40 [dRm r,dMv m] (.ret (.tup [dRm (dlvR r m.at_).1,dI (dlvR r m.at_).2])):=by
 obtain⟨g1,g2,g3,g4,g5⟩:=okRm_iff.1 hR
 have hD:=C543.dlv r.net m.at_
 refine pcall_of_vc h543 c40 (by simp [a40]) fun hr=>?_
 simp [a40]
 refine vc_path [.ret (.tup [dPc (dlvP r.net m.at_),dNw (lseN r.net m.at_),dI (atE r.net m.at_)])] ?_
 simp
 refine⟨hD,?_⟩
 unfold dlvR
 by_cases q1:atE r.net m.at_=0
 ·simp [q1]
  by_cases q2:(dlvP r.net m.at_).a=(dlvP r.net m.at_).b
  ·simp [q2]
   exact leD_of_eq rfl
  ·obtain⟨k1,k2⟩:=dlv_ok hR q2
   obtain⟨k3,k4,k5⟩:=okPc_len k1
   obtain⟨k6,k7,k8⟩:=okPq_iff.1 k2
   obtain⟨n,hn⟩:=Option.isSome_iff_exists.1 k6
   have hB:=C543.rrd (dlvP r.net m.at_).p k3
   rw [rRdN_eq hn,hn] at hB
   generalize dlvP r.net m.at_=p at *
   obtain⟨i,hi⟩:∃ i:Nat,p.b=i:=⟨p.b.toNat,by omega⟩
   have p3:i<r.ps.length:=by omega
   have hpe:=okPe_iff.1 (g4 _ (List.getElem_mem p3))
   have hL:=C543.lrn ⟨r.ps,lseN r.net m.at_⟩ i n p3 hpe.1 (readB_ok hn) (by have:=hpe.2;simp only;omega) (by simp only;omega)
   simp only at hL
   simp [q2,hn]
   refine vc_path [.ret (.tup [dNt n,dB true])] ?_
   simp
   refine⟨hB,?_⟩
   refine vc_path [.ret (.tup [dRm (if lrnE r.ps[i] n=0 then ⟨r.ps.set i (lrnL r.ps[i] n),lseN r.net m.at_⟩ else zRm),dI (lrnE r.ps[i] n)])] ?_
   simp [hi,p3]
   refine⟨hL,?_⟩
   by_cases e:lrnE r.ps[i] n=0
   ·simp only [e,if_true];exact⟨leD_of_eq rfl,leD_of_eq rfl⟩
   ·simp only [e,if_false];exact⟨leD_of_eq rfl,leD_of_eq rfl⟩
 ·simp [q1]
  exact leZRm
inductive C543b:FuncId→List D→Out→Prop
 | chk (r:Rm):C543b 17 [dRm r] (.ret (dI (rmE r)))
 | tell (r:Rm) (m:Mv) (hR:okRm r=true):C543b 38 [dRm r,dMv m] (.ret (.tup [dRm (tellX r m).1,dI (tellX r m).2]))
 | sync (r:Rm) (m:Mv) (hR:okRm r=true):C543b 39 [dRm r,dMv m] (.ret (.tup [dRm (syncX r m).1,dI (syncX r m).2]))
 | dlv (r:Rm) (m:Mv) (hR:okRm r=true):C543b 40 [dRm r,dMv m] (.ret (.tup [dRm (dlvR r m.at_).1,dI (dlvR r m.at_).2]))
 | lose (w:Nw) (i:Int):C543b 41 [dNw w,dI i] (.ret (.tup [dNw (lseN w i),dI (atE w i)]))
 | rep (w:Nw) (i:Int):C543b 42 [dNw w,dI i] (.ret (.tup [dNw (repN w i),dI (repE w i)]))
theorem h543b:∀ f ds out,C543b f ds out→PCall Tryz.prog f ds out:=by
 intro f ds out h
 cases h with
 | chk r=>exact rCheckS r
 | tell r m hR=>exact rTell r m hR
 | sync r m hR=>exact rSync r m hR
 | dlv r m hR=>exact rDeliver r m hR
 | lose w i=>exact nwRlose w i
 | rep w i=>exact nwRrepeat w i
theorem mvR_eq(r:Rm) (m:Mv) (h:okRm r=true):mvR r m=if m.kind=1 then tellX r m else if m.kind=2 then syncX r m else if m.kind=3 then dlvR r m.at_ else if m.kind=4 then (if atE r.net m.at_≠0 then (zRm,atE r.net m.at_) else (⟨r.ps,lseN r.net m.at_⟩,0)) else if m.kind=5 then (if repE r.net m.at_≠0 then (zRm,repE r.net m.at_) else (⟨r.ps,repN r.net m.at_⟩,0)) else (zRm,1):=by
 unfold mvR;rw [if_neg (by rw [h];simp)];rfl
theorem rDo(r:Rm) (m:Mv):PCall Tryz.prog 13 [dRm r,dMv m] (.ret (.tup [dRm (mvR r m).1,dI (mvR r m).2])):=by
 have hC:=C543b.chk r
 refine pcall_of_vc h543b c13 (by simp [a13]) fun hr=>?_
 simp [a13]
 refine vc_path [.ret (dI (rmE r))] ?_
 by_cases hR:okRm r=true
 ·rw [rmE_0 hR] at hC ⊢
  simp
  refine⟨hC,?_⟩
  rw [mvR_eq r m hR]
  have k1:=C543b.tell r m hR
  have k2:=C543b.sync r m hR
  have k3:=C543b.dlv r m hR
  have k4:=C543b.lose r.net m.at_
  have k5:=C543b.rep r.net m.at_
  by_cases m1:m.kind=1
  ·simp [m1]
   refine vc_path [.ret (.tup [dRm (tellX r m).1,dI (tellX r m).2])] ?_
   simp
   exact⟨by rw [← m1];exact k1,leD_of_eq rfl⟩
  by_cases m2:m.kind=2
  ·simp [m2]
   refine vc_path [.ret (.tup [dRm (syncX r m).1,dI (syncX r m).2])] ?_
   simp
   exact⟨by rw [← m2];exact k2,leD_of_eq rfl⟩
  by_cases m3:m.kind=3
  ·simp [m3]
   refine vc_path [.ret (.tup [dRm (dlvR r m.at_).1,dI (dlvR r m.at_).2])] ?_
   simp
   exact⟨by rw [← m3];exact k3,leD_of_eq rfl⟩
  by_cases m4:m.kind=4
  ·simp [m4]
   refine vc_path [.ret (.tup [dNw (lseN r.net m.at_),dI (atE r.net m.at_)])] ?_
   simp
   refine⟨k4,?_⟩
   by_cases e:atE r.net m.at_=0
   ·simp [e]
    exact leD_of_eq rfl
   ·simp [e]
    exact leZRm
  by_cases m5:m.kind=5
  ·simp [m5]
   refine vc_path [.ret (.tup [dNw (repN r.net m.at_),dI (repE r.net m.at_)])] ?_
   simp
   refine⟨k5,?_⟩
   by_cases e:repE r.net m.at_=0
   ·simp [e]
    exact leD_of_eq rfl
   ·simp [e]
    exact leZRm
  simp [m1,m2,m3,m4,m5]
  exact leZRm
 ·rw [rmE_530 hR] at hC ⊢
  simp
  refine⟨hC,?_⟩
  have e:mvR r m=(zRm,530):=by unfold mvR;rw [if_pos (by simpa using hR)]
  rw [e]
  exact⟨leZRm,leD_of_eq rfl⟩
end

section
attribute [local simp] dZ_agg dZ_nt dZ_noTup dZ_cells dZ_one bz_toList bz_size strV dSp_cells dSp_isAgg dSp_noTup dSp_nt dCh_cells dCh_isAgg dCh_noTup dCh_nt dNt_cells dNt_isAgg dNt_noTup dNt_nt dPe_cells dPe_isAgg dPe_noTup dPe_nt dRm_cells dRm_isAgg dRm_noTup dRm_nt dPc_cells dPc_agg dPc_noTup dNw_cells dNw_agg dNw_noTup dMv_cells dMv_isAgg dMv_noTup dMv_nt
set_option maxRecDepth 8000
set_option maxHeartbeats 40000000
theorem sNeed_t(n:Int):PCall Tryz.prog 68 [dB true,dI n] (.ret (.tup [])):=by
 refine pcall_of_vc (C:=fun _ _ _=>False) (by rintro _ _ _ ⟨⟩) c68 (by simp [a68]) fun hr=>?_
 simp [a68]
theorem sNeed_f(n:Int):PCall Tryz.prog 68 [dB false,dI n] (.pan (tE n)):=by
 refine pcall_of_vc (C:=fun _ _ _=>False) (by rintro _ _ _ ⟨⟩) c68 (by simp [a68]) fun hr=>?_
 simp [a68]
 refine regS_path [] ?_
 simp [tE]
theorem elsD_nts(l:List Nt):elsD 7 l.length (D.flat (l.map dNt))=l.map dNt:=by
 induction l with
 | nil=>rfl
 | cons a r ih =>
  have hl:=dNt_len a
  have e:D.flat ((a::r).map dNt)=(dNt a).cells++D.flat (r.map dNt):=rfl
  simp only [elsD] at ih ⊢
  rw [if_neg (by omega)] at ih ⊢
  rw [e,List.length_cons,chunkD,List.take_left' hl,List.drop_left' hl,ih]
  rfl
theorem flat_nts(l:List Nt):(D.flat (l.map dNt)).length=l.length*7:=by
 have:=flat_len (es:=l.map dNt) (sz:=7) (fun e he=>by
  obtain⟨x,_,rfl⟩:=List.mem_map.1 he;rfl)
 rw [this,List.length_map]
theorem snd_ok{w:Nw}{p:Pc}(h:okNw w=true) (hp:okPc p=true) (hl:w.q.length<4096):sndE w p=0∧okNw (sndN w p)=true∧(sndN w p).q.length=w.q.length+1:=by
 have e1:sndN w p=⟨w.q++[p],w.c⟩:=by unfold sndN;rw [if_pos ⟨h,hp,by omega⟩]
 refine⟨by unfold sndE;rw [if_pos ⟨h,hp⟩,if_neg (by omega)],?_,by rw [e1];simp⟩
 rw [e1]
 unfold okNw at h ⊢
 simp only [Bool.and_eq_true,decide_eq_true_eq,List.length_append,List.length_singleton,List.all_append,List.all_cons,List.all_nil,Bool.and_true] at h ⊢
 exact⟨by omega,⟨h.2.1,hp⟩,h.2.2⟩
theorem okPc_of{i j:Nat}{n:Nt}(hn:okNt n=true) (hi:i<24) (hj:j<24) (h:¬ j=i):okPc (pcOf i j n)=true:=by
 have:=msgB_len hn
 unfold okPc cValid pcOf
 simp only [Bool.and_eq_true,decide_eq_true_eq]
 refine⟨⟨⟨?_,?_⟩,?_⟩,by omega⟩
 all_goals (split <;> try split) <;> omega
theorem lem_a{n:Nat}(h:n+1<4096):(n+1)*64≤140737488355328:=by omega
theorem lem_b{p n:Nat}(h:p≤n+1):(p:Int)≤(n:Int)+1:=by omega
theorem lem_c{n:Nat}(h:n+1<4096):(n+1+1)*64≤140737488355328:=by omega
theorem lem_d{n:Nat}(h:n+1<4096):n≤9223372036854775805:=by omega
theorem wr_one(ps:List (List Nt)):∀ c∈wr (ps.map dPe),c.one=true:=fun c hc=>by
 rw [wr_pe] at hc
 obtain⟨l,_,rfl⟩:=List.mem_map.1 hc
 rfl
theorem wr_one1(n:Nt):∀ c∈wr [.agg [.lit (.int .i64 n.lang),.lit (.int .i64 n.seq),.lit (.int .i64 n.ch.at_),.lit (.int .i64 n.ch.kind),.lit (.int .i64 n.ch.sp.id),.lit (.int .i64 n.ch.sp.ver),dZ n.ch.sp.tx]],c.one=true:=fun c hc=>by
 simp only [wr,D.flat,List.flatMap_cons,List.flatMap_nil,D.cells,List.append_nil,List.map_cons,List.map_nil,List.mem_cons,List.not_mem_nil,or_false] at hc
 rcases hc with rfl | rfl | rfl | rfl | rfl | rfl | rfl <;> rfl
inductive C544:FuncId→List D→Out→Prop
 | chk (r:Rm):C544 16 [dRm r] (.ret (dI (rmE r)))
 | need_t (n:Int):C544 68 [dB true,dI n] (.ret (.tup []))
 | need_f (n:Int):C544 68 [dB false,dI n] (.pan (tE n))
 | formed (n:Nt):C544 69 [dNt n] (.ret (dB (okNt n)))
 | rd (b:List UInt8) (h:b.length≤1099511627776):C544 47 [.sl 1 (b.map dU)] (.ret (.tup [dNt (sRdN b h),dB (readB b).isSome]))
 | msg (n:Nt) (h:n.ch.sp.tx.length≤1000000):C544 73 [dNt n] (.ret (dZ (msgB n)))
 | search (l:List Nt) (n:Nt) (hl:okNs none l=true) (hn:okNt n=true) (hlen:l.length≤100000):C544 116 [.sl 7 (l.map dNt),dNt n,.fn (.func 90) [] []] (.ret (.tup [dI (posN l n),dB (decide (l[posN l n]?=some n))]))
 | snd (w:Nw) (p:Pc):C544 119 [dNw w,dPc p] (.ret (.tup [dNw (sndN w p),dI (sndE w p)]))
 | dlv (w:Nw) (i:Int):C544 75 [dNw w,dI i] (.ret (.tup [dPc (dlvP w i),dNw (lseN w i),dI (atE w i)]))
 | lose (w:Nw) (i:Int):C544 76 [dNw w,dI i] (.ret (.tup [dNw (lseN w i),dI (atE w i)]))
 | rep (w:Nw) (i:Int):C544 77 [dNw w,dI i] (.ret (.tup [dNw (repN w i),dI (repE w i)]))
theorem h544:∀ f ds out,C544 f ds out→PCall Tryz.prog f ds out:=by
 intro f ds out h
 cases h with
 | chk r=>exact sCheck r
 | need_t n=>exact sNeed_t n
 | need_f n=>exact sNeed_f n
 | formed n=>exact sFormed n
 | rd b h=>exact(Classical.choose_spec (sRead b h)).1
 | msg n h=>exact sMessage n h
 | search l n hl hn hlen=>exact sSearch l n hl hn hlen
 | snd w p=>exact nwSend w p
 | dlv w i=>exact nwDeliver w i
 | lose w i=>exact nwLose w i
 | rep w i=>exact nwRepeat w i
theorem sTell1(r:Rm) (m:Mv) (hR:okRm r=true) (m1:m.kind=1) (q1:inR r m.peer=false):PCall Tryz.prog 12 [dRm r,dMv m] (.ret (.tup [dRm (((zRm,1):Rm×Int)).1,dI (((zRm,1):Rm×Int)).2])):=by
 have hC:=C544.chk r
 refine pcall_of_vcZ h544 c12 (by simp [a12]) 4 fun hr=>?_
 simp [a12]
 refine vc_path [.ret (dI (rmE r))] ?_
 rw [rmE_0 hR] at hC ⊢
 have hR':=okRm_iff.1 hR
 simp
 refine⟨hC,?_⟩
 obtain⟨p0,pr,hps⟩:∃ p0 pr,r.ps=p0::pr:=by
  cases h:r.ps with
  | nil=>rw [h] at hR';simp at hR'
  | cons a b=>exact⟨a,b,rfl⟩
 have hcl:some (1,List.map dPe r.ps)=some (1,dPe p0::List.map dPe pr):=by rw [hps];rfl
 have hfold:dPe p0::List.map dPe pr=List.map dPe r.ps:=by rw [hps];rfl
 have hlen:pr.length+1=r.ps.length:=by rw [hps];rfl
 have h24:(r.ps.length*24≤140737488355328)=True:=eq_true (by omega)
 have hwl:(wr (List.map dPe r.ps)).length=r.ps.length:=by rw [wr_pe,List.length_map]
 have e1:(m.kind == 1)=true:=by simp [m1]
 simp [m1,e1]
 refine regS_path [] ?_
 simp
 rw [hcl]
 simp
 rw [hfold,hlen]
 simp only [h24,true_and]
 refine regS_path [] ?_
 simp
 refine icall_T (TF Tryz.prog a31) (hcall_of_vc c31) ?_
 simp [a31]
 refine regS_path [] ?_
 simp
 refine icall_T (TF Tryz.prog a67) (hcall_of_vc c67) ?_
 simp [a67]
 refine vc_path [.pan (tE 1)] ?_
 by_cases p1:0≤m.peer
 ·have p2:¬ m.peer<(r.ps.length:Int):=fun h=>by rw [inR_iff.2 ⟨p1,h⟩] at q1;cases q1
  simp [p1,p2]
  refine⟨.need_f 1,?_⟩
  refine leave_fn (TR1 Tryz.prog a36) (dcall_of_vcR1 c36) ?_
  simp [TR1_eq,a36,tE]
  exact leZRm
 ·simp [p1]
  refine⟨.need_f 1,?_⟩
  refine leave_fn (TR1 Tryz.prog a36) (dcall_of_vcR1 c36) ?_
  simp [TR1_eq,a36,tE]
  exact leZRm
theorem sTell2(r:Rm) (m:Mv) (hR:okRm r=true) (m1:m.kind=1) (q1:inR r m.peer=true) (q2:okNt m.note=false):PCall Tryz.prog 12 [dRm r,dMv m] (.ret (.tup [dRm (((zRm,530):Rm×Int)).1,dI (((zRm,530):Rm×Int)).2])):=by
 have hC:=C544.chk r
 refine pcall_of_vcZ h544 c12 (by simp [a12]) 4 fun hr=>?_
 simp [a12]
 refine vc_path [.ret (dI (rmE r))] ?_
 rw [rmE_0 hR] at hC ⊢
 have hR':=okRm_iff.1 hR
 simp
 refine⟨hC,?_⟩
 obtain⟨p0,pr,hps⟩:∃ p0 pr,r.ps=p0::pr:=by
  cases h:r.ps with
  | nil=>rw [h] at hR';simp at hR'
  | cons a b=>exact⟨a,b,rfl⟩
 have hcl:some (1,List.map dPe r.ps)=some (1,dPe p0::List.map dPe pr):=by rw [hps];rfl
 have hfold:dPe p0::List.map dPe pr=List.map dPe r.ps:=by rw [hps];rfl
 have hlen:pr.length+1=r.ps.length:=by rw [hps];rfl
 have h24:(r.ps.length*24≤140737488355328)=True:=eq_true (by omega)
 have hwl:(wr (List.map dPe r.ps)).length=r.ps.length:=by rw [wr_pe,List.length_map]
 have e1:(m.kind == 1)=true:=by simp [m1]
 simp [m1,e1]
 refine regS_path [] ?_
 simp
 rw [hcl]
 simp
 rw [hfold,hlen]
 simp only [h24,true_and]
 refine regS_path [] ?_
 simp
 refine icall_T (TF Tryz.prog a31) (hcall_of_vc c31) ?_
 simp [a31]
 refine regS_path [] ?_
 simp
 refine icall_T (TF Tryz.prog a67) (hcall_of_vc c67) ?_
 simp [a67]
 obtain⟨p1,p2⟩:=inR_iff.1 q1
 refine vc_path [.ret (.tup [])] ?_
 simp [p1,p2]
 refine⟨.need_t 1,?_⟩
 have hF:=C544.formed m.note
 rw [q2] at hF
 refine vc_path [.ret (dB false),.pan (tE 530)] ?_
 simp
 refine⟨hF,.need_f 530,?_⟩
 refine leave_fn (TR1 Tryz.prog a36) (dcall_of_vcR1 c36) ?_
 simp [TR1_eq,a36,tE]
 exact leZRm
theorem sTell3(r:Rm) (m:Mv) (hR:okRm r=true) (hq:r.net.q.length≤4000) (m1:m.kind=1) (q1:inR r m.peer=true) (q2:okNt m.note=true) (i:Nat) (hi:m.peer=i) (p3:i<r.ps.length) (hfd:r.ps[i][posN r.ps[i] m.note]?=some m.note):PCall Tryz.prog 12 [dRm r,dMv m] (.ret (.tup [dRm (finR r.ps (sndAll r.net (tellQ r.ps.length i m.note))).1,dI (finR r.ps (sndAll r.net (tellQ r.ps.length i m.note))).2])):=by
 have hC:=C544.chk r
 refine pcall_of_vcZ h544 c12 (by simp [a12]) 4 fun hr=>?_
 simp [a12]
 refine vc_path [.ret (dI (rmE r))] ?_
 rw [rmE_0 hR] at hC ⊢
 have hR':=okRm_iff.1 hR
 simp
 refine⟨hC,?_⟩
 obtain⟨p0,pr,hps⟩:∃ p0 pr,r.ps=p0::pr:=by
  cases h:r.ps with
  | nil=>rw [h] at hR';simp at hR'
  | cons a b=>exact⟨a,b,rfl⟩
 have hcl:some (1,List.map dPe r.ps)=some (1,dPe p0::List.map dPe pr):=by rw [hps];rfl
 have hfold:dPe p0::List.map dPe pr=List.map dPe r.ps:=by rw [hps];rfl
 have hlen:pr.length+1=r.ps.length:=by rw [hps];rfl
 have h24:(r.ps.length*24≤140737488355328)=True:=eq_true (by omega)
 have hwl:(wr (List.map dPe r.ps)).length=r.ps.length:=by rw [wr_pe,List.length_map]
 have e1:(m.kind == 1)=true:=by simp [m1]
 simp [m1,e1]
 refine regS_path [] ?_
 simp
 rw [hcl]
 simp
 rw [hfold,hlen]
 simp only [h24,true_and]
 refine regS_path [] ?_
 simp
 refine icall_T (TF Tryz.prog a31) (hcall_of_vc c31) ?_
 simp [a31]
 refine regS_path [] ?_
 simp
 refine icall_T (TF Tryz.prog a67) (hcall_of_vc c67) ?_
 simp [a67]
 obtain⟨p1,p2⟩:=inR_iff.1 q1
 refine vc_path [.ret (.tup [])] ?_
 simp [p1,p2]
 refine⟨.need_t 1,?_⟩
 have hF:=C544.formed m.note
 rw [q2] at hF
 refine vc_path [.ret (dB true),.ret (.tup [])] ?_
 simp
 refine⟨hF,.need_t 530,?_⟩
 refine regS_path [] ?_
 simp
 rw [hi] at p1 p2 ⊢
 refine icall_T (TF Tryz.prog a70) (hcall_of_vc c70) ?_
 have hwg:(wr (List.map dPe r.ps))[i]?=some (.d (.sl 7 (r.ps[i].map dNt))):=by rw [wr_pe];simp [p3]
 simp [a70,p3]
 have hpe:=okPe_iff.1 (hR'.2.2.2.1 _ (List.getElem_mem p3))
 have hS:=C544.search r.ps[i] m.note hpe.1 q2 (by omega)
 have hpl:=(posN_spec (okNs_pw hpe.1) m.note).1
 refine vc_pathD [.ret (.tup [dI (posN r.ps[i] m.note),dB (decide (r.ps[i][posN r.ps[i] m.note]?=some m.note))])] ?_
 have hfl:(D.flat (r.ps.map dPe)).length=r.ps.length*1:=by rw [flat_len (sz:=1) (by simp)];simp
 simp [hfd] at hS
 simp [hwg,hfd]
 refine⟨by omega,hS,rfl,?_⟩
 refine regS_path [] ?_
 simp
 refine icall_T (TF Tryz.prog a71) (hcall_of_vc c71) ?_
 simp [a71]
 refine vc_range (TF Tryz.prog a72) (hcall_of_vc c72) rfl (by rfl) (fun yl=>by rfl) (fun yl=>?_)
 simp [a72]
 have hlenR:r.ps.length≤24:=hR'.2.1
 generalize hO:finR r.ps (sndAll r.net (tellQ r.ps.length i m.note))=OUT
 refine vc_loopK [0,1,2,10] (Nat×Nw) (fun y=>[(11,true,.d (dI y.1))]) (fun y=>[(5,.box true [.bsl 6 0 1 r.ps.length r.ps.length,.d (.sl 3 (y.2.q.map dPc)),.d (.sl 2 (y.2.c.map dPr))])]) (fun y=>y.1≤r.ps.length∧finR r.ps (sndAll y.2 (restQ r.ps.length i y.1 m.note))=OUT∧okNw y.2=true∧y.2.q.length≤r.net.q.length+y.1) (fun y=>r.ps.length-y.1) (0,r.net) ⟨by omega,by rw [restQ_0];exact hO,hR'.2.2.1,Nat.le_add_right _ _⟩ ⟨[],[],?_⟩ (fun y hy=>?_)
 ·simp
  first | exact⟨wr_one _,fun x _=>by omega⟩ | exact⟨⟨wr_one _,wr_one1 _⟩,fun x _=>by omega⟩
 obtain⟨j,x⟩:=y
 obtain⟨k1,k2,k3,k4⟩:=hy
 simp only at k1 k2 k3 k4
 simp
 refine⟨fun hlt=>?_,fun hge=>?_⟩
 ·by_cases hji:j=i
  ·subst hji
   rw [restQ_eq hlt rfl] at k2
   simp [hlt]
   refine regK_path [.ret (dZ (msgB m.note))] [] ?_
   simp
   refine⟨rfl,j+1,x,⟨by omega,k2,k3,by omega⟩,by omega,[],[],?_⟩
   rw [wrap64 (by omega)]
   simp
   first | exact⟨wr_one _,fun x _=>by omega⟩ | exact⟨⟨wr_one _,wr_one1 _⟩,fun x _=>by omega⟩
  ·have hji':¬ (j:Int)=(i:Int):=by omega
   rw [restQ_ne hlt hji,sndAll_cons] at k2
   simp [hlt]
   refine regK_path [.ret (dZ (msgB m.note))] [] ?_
   simp [hji',dZ]
   refine⟨.msg m.note (okNt_tx6 q2),rfl,?_⟩
   refine vc_pathD [.ret (.tup [dNw (sndN x (pcOf i j m.note)),dI (sndE x (pcOf i j m.note))])] ?_
   simp
   have hS:=C544.snd x (pcOf i j m.note)
   refine⟨by rw [strD_bz];exact hS,rfl,?_⟩
   obtain⟨hs,hs2,hs3⟩:=snd_ok k3 (okPc_of q2 (by omega:i<24) (by omega:j<24) hji) (by omega)
   rw [if_pos hs] at k2
   rw [hs]
   refine vc_path [.ret (.tup [])] ?_
   simp
   refine⟨.need_t 0,j+1,sndN x (pcOf i j m.note),⟨by omega,k2,hs2,by omega⟩,by omega,[],[],?_⟩
   rw [wrap64 (by omega)]
   simp
   first | exact⟨wr_one _,fun x _=>by omega⟩ | exact⟨⟨wr_one _,wr_one1 _⟩,fun x _=>by omega⟩
 ·have:j=r.ps.length:=by omega
  subst this
  rw [restQ_end] at k2
  rw [← k2]
  have e:finR r.ps (sndAll x [])=(⟨r.ps,x⟩,0):=rfl
  rw [e]
  refine leave_fn (TR1 Tryz.prog a36) (dcall_of_vcR1 c36) ?_
  simp [TR1_eq,a36]
  rw [dRm,frz_agg]
  refine⟨?_,by simp⟩
  rw [frzL_cons,frzL_cons,frzL_cons,frzL_nil,frz_d,frz_d]
  exact⟨frz_rows (ag:=true) rfl dPe_z dPe_one (by first | (simp;done) | (simp [hPL];done)),LeD.refl _,LeD.refl _,trivial⟩
theorem sTell4(r:Rm) (m:Mv) (hR:okRm r=true) (hq:r.net.q.length≤4000) (m1:m.kind=1) (q1:inR r m.peer=true) (q2:okNt m.note=true) (i:Nat) (hi:m.peer=i) (p3:i<r.ps.length) (hfd:¬ r.ps[i][posN r.ps[i] m.note]?=some m.note) (h4:r.ps[i].length=4096):PCall Tryz.prog 12 [dRm r,dMv m] (.ret (.tup [dRm (((zRm,2):Rm×Int)).1,dI (((zRm,2):Rm×Int)).2])):=by
 have hC:=C544.chk r
 refine pcall_of_vcZ h544 c12 (by simp [a12]) 4 fun hr=>?_
 simp [a12]
 refine vc_path [.ret (dI (rmE r))] ?_
 rw [rmE_0 hR] at hC ⊢
 have hR':=okRm_iff.1 hR
 simp
 refine⟨hC,?_⟩
 obtain⟨p0,pr,hps⟩:∃ p0 pr,r.ps=p0::pr:=by
  cases h:r.ps with
  | nil=>rw [h] at hR';simp at hR'
  | cons a b=>exact⟨a,b,rfl⟩
 have hcl:some (1,List.map dPe r.ps)=some (1,dPe p0::List.map dPe pr):=by rw [hps];rfl
 have hfold:dPe p0::List.map dPe pr=List.map dPe r.ps:=by rw [hps];rfl
 have hlen:pr.length+1=r.ps.length:=by rw [hps];rfl
 have h24:(r.ps.length*24≤140737488355328)=True:=eq_true (by omega)
 have hwl:(wr (List.map dPe r.ps)).length=r.ps.length:=by rw [wr_pe,List.length_map]
 have e1:(m.kind == 1)=true:=by simp [m1]
 simp [m1,e1]
 refine regS_path [] ?_
 simp
 rw [hcl]
 simp
 rw [hfold,hlen]
 simp only [h24,true_and]
 refine regS_path [] ?_
 simp
 refine icall_T (TF Tryz.prog a31) (hcall_of_vc c31) ?_
 simp [a31]
 refine regS_path [] ?_
 simp
 refine icall_T (TF Tryz.prog a67) (hcall_of_vc c67) ?_
 simp [a67]
 obtain⟨p1,p2⟩:=inR_iff.1 q1
 refine vc_path [.ret (.tup [])] ?_
 simp [p1,p2]
 refine⟨.need_t 1,?_⟩
 have hF:=C544.formed m.note
 rw [q2] at hF
 refine vc_path [.ret (dB true),.ret (.tup [])] ?_
 simp
 refine⟨hF,.need_t 530,?_⟩
 refine regS_path [] ?_
 simp
 rw [hi] at p1 p2 ⊢
 refine icall_T (TF Tryz.prog a70) (hcall_of_vc c70) ?_
 have hwg:(wr (List.map dPe r.ps))[i]?=some (.d (.sl 7 (r.ps[i].map dNt))):=by rw [wr_pe];simp [p3]
 simp [a70,p3]
 have hpe:=okPe_iff.1 (hR'.2.2.2.1 _ (List.getElem_mem p3))
 have hS:=C544.search r.ps[i] m.note hpe.1 q2 (by omega)
 have hpl:=(posN_spec (okNs_pw hpe.1) m.note).1
 refine vc_pathD [.ret (.tup [dI (posN r.ps[i] m.note),dB (decide (r.ps[i][posN r.ps[i] m.note]?=some m.note))])] ?_
 have hfl:(D.flat (r.ps.map dPe)).length=r.ps.length*1:=by rw [flat_len (sz:=1) (by simp)];simp
 simp [hfd] at hS
 simp [hwg,hfd]
 refine⟨by omega,hS,rfl,?_⟩
 have h4i:decide ((r.ps[i].length:Int)<4096)=false:=decide_eq_false (by omega)
 refine vc_path [.pan (tE 2)] ?_
 simp [hwg,h4i]
 refine⟨by omega,.need_f 2,?_⟩
 refine leave_fn (TR1 Tryz.prog a36) (dcall_of_vcR1 c36) ?_
 simp [TR1_eq,a36,tE]
 exact leZRm
theorem sTell5(r:Rm) (m:Mv) (hR:okRm r=true) (hq:r.net.q.length≤4000) (m1:m.kind=1) (q1:inR r m.peer=true) (q2:okNt m.note=true) (i:Nat) (hi:m.peer=i) (p3:i<r.ps.length) (hfd:¬ r.ps[i][posN r.ps[i] m.note]?=some m.note) (h4:¬ r.ps[i].length=4096) (h0:r.ps[i]=[]):PCall Tryz.prog 12 [dRm r,dMv m] (.ret (.tup [dRm (finR (r.ps.set i (lrnL r.ps[i] m.note)) (sndAll r.net (tellQ r.ps.length i m.note))).1,dI (finR (r.ps.set i (lrnL r.ps[i] m.note)) (sndAll r.net (tellQ r.ps.length i m.note))).2])):=by
 have hC:=C544.chk r
 refine pcall_of_vcZ h544 c12 (by simp [a12]) 4 fun hr=>?_
 simp [a12]
 refine vc_path [.ret (dI (rmE r))] ?_
 rw [rmE_0 hR] at hC ⊢
 have hR':=okRm_iff.1 hR
 simp
 refine⟨hC,?_⟩
 obtain⟨p0,pr,hps⟩:∃ p0 pr,r.ps=p0::pr:=by
  cases h:r.ps with
  | nil=>rw [h] at hR';simp at hR'
  | cons a b=>exact⟨a,b,rfl⟩
 have hcl:some (1,List.map dPe r.ps)=some (1,dPe p0::List.map dPe pr):=by rw [hps];rfl
 have hfold:dPe p0::List.map dPe pr=List.map dPe r.ps:=by rw [hps];rfl
 have hlen:pr.length+1=r.ps.length:=by rw [hps];rfl
 have h24:(r.ps.length*24≤140737488355328)=True:=eq_true (by omega)
 have hwl:(wr (List.map dPe r.ps)).length=r.ps.length:=by rw [wr_pe,List.length_map]
 have e1:(m.kind == 1)=true:=by simp [m1]
 simp [m1,e1]
 refine regS_path [] ?_
 simp
 rw [hcl]
 simp
 rw [hfold,hlen]
 simp only [h24,true_and]
 refine regS_path [] ?_
 simp
 refine icall_T (TF Tryz.prog a31) (hcall_of_vc c31) ?_
 simp [a31]
 refine regS_path [] ?_
 simp
 refine icall_T (TF Tryz.prog a67) (hcall_of_vc c67) ?_
 simp [a67]
 obtain⟨p1,p2⟩:=inR_iff.1 q1
 refine vc_path [.ret (.tup [])] ?_
 simp [p1,p2]
 refine⟨.need_t 1,?_⟩
 have hF:=C544.formed m.note
 rw [q2] at hF
 refine vc_path [.ret (dB true),.ret (.tup [])] ?_
 simp
 refine⟨hF,.need_t 530,?_⟩
 refine regS_path [] ?_
 simp
 rw [hi] at p1 p2 ⊢
 refine icall_T (TF Tryz.prog a70) (hcall_of_vc c70) ?_
 have hwg:(wr (List.map dPe r.ps))[i]?=some (.d (.sl 7 (r.ps[i].map dNt))):=by rw [wr_pe];simp [p3]
 simp [a70,p3]
 have hpe:=okPe_iff.1 (hR'.2.2.2.1 _ (List.getElem_mem p3))
 have hS:=C544.search r.ps[i] m.note hpe.1 q2 (by omega)
 have hpl:=(posN_spec (okNs_pw hpe.1) m.note).1
 refine vc_pathD [.ret (.tup [dI (posN r.ps[i] m.note),dB (decide (r.ps[i][posN r.ps[i] m.note]?=some m.note))])] ?_
 have hfl:(D.flat (r.ps.map dPe)).length=r.ps.length*1:=by rw [flat_len (sz:=1) (by simp)];simp
 simp [hfd] at hS
 simp [hwg,hfd]
 refine⟨by omega,hS,rfl,?_⟩
 have h4i:decide ((r.ps[i].length:Int)<4096)=true:=decide_eq_true (by omega)
 refine vc_path [.ret (.tup [])] ?_
 simp [hwg,h4i]
 refine⟨by omega,.need_t 2,by omega,?_⟩
 have hW:=wr_pe_set r.ps i (lrnL r.ps[i] m.note)
 have eL:lrnL r.ps[i] m.note=r.ps[i].take (posN r.ps[i] m.note)++m.note::r.ps[i].drop (posN r.ps[i] m.note):=by unfold lrnL;rw [if_neg hfd,if_neg h4]
 have hbl:r.ps[i].length<4096:=by omega
 have hel1:elsD 7 1 (D.flat [.agg [.lit (.int .i64 m.note.lang),.lit (.int .i64 m.note.seq),.lit (.int .i64 m.note.ch.at_),.lit (.int .i64 m.note.ch.kind),.lit (.int .i64 m.note.ch.sp.id),.lit (.int .i64 m.note.ch.sp.ver),dZ m.note.ch.sp.tx]])=[dNt m.note]:=rfl
 generalize hPS:r.ps.set i (lrnL r.ps[i] m.note)=PS at *
 have hPL:PS.length=r.ps.length:=by rw [← hPS,List.length_set]
 generalize hL:r.ps[i]=L at *
 subst h0
 simp
 refine⟨⟨rfl,Nat.le_refl _⟩,by omega,rfl,?_⟩
 have hY:[dNt m.note]=(lrnL [] m.note).map dNt:=by rw [eL];rfl
 rw [hel1,hY,hW]
 refine regS_path [] ?_
 simp
 refine icall_T (TF Tryz.prog a71) (hcall_of_vc c71) ?_
 simp [a71]
 refine vc_range (TF Tryz.prog a72) (hcall_of_vc c72) rfl (by rfl) (fun yl=>by rfl) (fun yl=>?_)
 simp [a72]
 have hlenR:r.ps.length≤24:=hR'.2.1
 generalize hO:finR PS (sndAll r.net (tellQ r.ps.length i m.note))=OUT
 refine vc_loopK [0,1,2,10] (Nat×Nw) (fun y=>[(11,true,.d (dI y.1))]) (fun y=>[(5,.box true [.bsl 6 0 1 r.ps.length r.ps.length,.d (.sl 3 (y.2.q.map dPc)),.d (.sl 2 (y.2.c.map dPr))])]) (fun y=>y.1≤r.ps.length∧finR PS (sndAll y.2 (restQ r.ps.length i y.1 m.note))=OUT∧okNw y.2=true∧y.2.q.length≤r.net.q.length+y.1) (fun y=>r.ps.length-y.1) (0,r.net) ⟨by omega,by rw [restQ_0];exact hO,hR'.2.2.1,Nat.le_add_right _ _⟩ ⟨[],[],?_⟩ (fun y hy=>?_)
 ·simp
  first | exact⟨wr_one _,fun x _=>by omega⟩ | exact⟨⟨wr_one _,wr_one1 _⟩,fun x _=>by omega⟩
 obtain⟨j,x⟩:=y
 obtain⟨k1,k2,k3,k4⟩:=hy
 simp only at k1 k2 k3 k4
 simp
 refine⟨fun hlt=>?_,fun hge=>?_⟩
 ·by_cases hji:j=i
  ·subst hji
   rw [restQ_eq hlt rfl] at k2
   simp [hlt]
   refine regK_path [.ret (dZ (msgB m.note))] [] ?_
   simp
   refine⟨rfl,j+1,x,⟨by omega,k2,k3,by omega⟩,by omega,[],[],?_⟩
   rw [wrap64 (by omega)]
   simp
   first | exact⟨wr_one _,fun x _=>by omega⟩ | exact⟨⟨wr_one _,wr_one1 _⟩,fun x _=>by omega⟩
  ·have hji':¬ (j:Int)=(i:Int):=by omega
   rw [restQ_ne hlt hji,sndAll_cons] at k2
   simp [hlt]
   refine regK_path [.ret (dZ (msgB m.note))] [] ?_
   simp [hji',dZ]
   refine⟨.msg m.note (okNt_tx6 q2),rfl,?_⟩
   refine vc_pathD [.ret (.tup [dNw (sndN x (pcOf i j m.note)),dI (sndE x (pcOf i j m.note))])] ?_
   simp
   have hS:=C544.snd x (pcOf i j m.note)
   refine⟨by rw [strD_bz];exact hS,rfl,?_⟩
   obtain⟨hs,hs2,hs3⟩:=snd_ok k3 (okPc_of q2 (by omega:i<24) (by omega:j<24) hji) (by omega)
   rw [if_pos hs] at k2
   rw [hs]
   refine vc_path [.ret (.tup [])] ?_
   simp
   refine⟨.need_t 0,j+1,sndN x (pcOf i j m.note),⟨by omega,k2,hs2,by omega⟩,by omega,[],[],?_⟩
   rw [wrap64 (by omega)]
   simp
   first | exact⟨wr_one _,fun x _=>by omega⟩ | exact⟨⟨wr_one _,wr_one1 _⟩,fun x _=>by omega⟩
 ·have:j=r.ps.length:=by omega
  subst this
  rw [restQ_end] at k2
  rw [← k2]
  have e:finR PS (sndAll x [])=(⟨PS,x⟩,0):=rfl
  rw [e]
  refine leave_fn (TR1 Tryz.prog a36) (dcall_of_vcR1 c36) ?_
  simp [TR1_eq,a36]
  rw [dRm,frz_agg]
  refine⟨?_,by simp⟩
  rw [frzL_cons,frzL_cons,frzL_cons,frzL_nil,frz_d,frz_d]
  exact⟨frz_rows (ag:=true) rfl dPe_z dPe_one (by first | (simp;done) | (simp [hPL];done)),LeD.refl _,LeD.refl _,trivial⟩
theorem sTell6(r:Rm) (m:Mv) (hR:okRm r=true) (hq:r.net.q.length≤4000) (m1:m.kind=1) (q1:inR r m.peer=true) (q2:okNt m.note=true) (i:Nat) (hi:m.peer=i) (p3:i<r.ps.length) (hfd:¬ r.ps[i][posN r.ps[i] m.note]?=some m.note) (h4:¬ r.ps[i].length=4096) (h0:¬ r.ps[i]=[]):PCall Tryz.prog 12 [dRm r,dMv m] (.ret (.tup [dRm (finR (r.ps.set i (lrnL r.ps[i] m.note)) (sndAll r.net (tellQ r.ps.length i m.note))).1,dI (finR (r.ps.set i (lrnL r.ps[i] m.note)) (sndAll r.net (tellQ r.ps.length i m.note))).2])):=by
 have hC:=C544.chk r
 refine pcall_of_vcZ h544 c12 (by simp [a12]) 4 fun hr=>?_
 simp [a12]
 refine vc_path [.ret (dI (rmE r))] ?_
 rw [rmE_0 hR] at hC ⊢
 have hR':=okRm_iff.1 hR
 simp
 refine⟨hC,?_⟩
 obtain⟨p0,pr,hps⟩:∃ p0 pr,r.ps=p0::pr:=by
  cases h:r.ps with
  | nil=>rw [h] at hR';simp at hR'
  | cons a b=>exact⟨a,b,rfl⟩
 have hcl:some (1,List.map dPe r.ps)=some (1,dPe p0::List.map dPe pr):=by rw [hps];rfl
 have hfold:dPe p0::List.map dPe pr=List.map dPe r.ps:=by rw [hps];rfl
 have hlen:pr.length+1=r.ps.length:=by rw [hps];rfl
 have h24:(r.ps.length*24≤140737488355328)=True:=eq_true (by omega)
 have hwl:(wr (List.map dPe r.ps)).length=r.ps.length:=by rw [wr_pe,List.length_map]
 have e1:(m.kind == 1)=true:=by simp [m1]
 simp [m1,e1]
 refine regS_path [] ?_
 simp
 rw [hcl]
 simp
 rw [hfold,hlen]
 simp only [h24,true_and]
 refine regS_path [] ?_
 simp
 refine icall_T (TF Tryz.prog a31) (hcall_of_vc c31) ?_
 simp [a31]
 refine regS_path [] ?_
 simp
 refine icall_T (TF Tryz.prog a67) (hcall_of_vc c67) ?_
 simp [a67]
 obtain⟨p1,p2⟩:=inR_iff.1 q1
 refine vc_path [.ret (.tup [])] ?_
 simp [p1,p2]
 refine⟨.need_t 1,?_⟩
 have hF:=C544.formed m.note
 rw [q2] at hF
 refine vc_path [.ret (dB true),.ret (.tup [])] ?_
 simp
 refine⟨hF,.need_t 530,?_⟩
 refine regS_path [] ?_
 simp
 rw [hi] at p1 p2 ⊢
 refine icall_T (TF Tryz.prog a70) (hcall_of_vc c70) ?_
 have hwg:(wr (List.map dPe r.ps))[i]?=some (.d (.sl 7 (r.ps[i].map dNt))):=by rw [wr_pe];simp [p3]
 simp [a70,p3]
 have hpe:=okPe_iff.1 (hR'.2.2.2.1 _ (List.getElem_mem p3))
 have hS:=C544.search r.ps[i] m.note hpe.1 q2 (by omega)
 have hpl:=(posN_spec (okNs_pw hpe.1) m.note).1
 refine vc_pathD [.ret (.tup [dI (posN r.ps[i] m.note),dB (decide (r.ps[i][posN r.ps[i] m.note]?=some m.note))])] ?_
 have hfl:(D.flat (r.ps.map dPe)).length=r.ps.length*1:=by rw [flat_len (sz:=1) (by simp)];simp
 simp [hfd] at hS
 simp [hwg,hfd]
 refine⟨by omega,hS,rfl,?_⟩
 have h4i:decide ((r.ps[i].length:Int)<4096)=true:=decide_eq_true (by omega)
 refine vc_path [.ret (.tup [])] ?_
 simp [hwg,h4i]
 refine⟨by omega,.need_t 2,by omega,?_⟩
 have hW:=wr_pe_set r.ps i (lrnL r.ps[i] m.note)
 have eL:lrnL r.ps[i] m.note=r.ps[i].take (posN r.ps[i] m.note)++m.note::r.ps[i].drop (posN r.ps[i] m.note):=by unfold lrnL;rw [if_neg hfd,if_neg h4]
 have hbl:r.ps[i].length<4096:=by omega
 have hel1:elsD 7 1 (D.flat [.agg [.lit (.int .i64 m.note.lang),.lit (.int .i64 m.note.seq),.lit (.int .i64 m.note.ch.at_),.lit (.int .i64 m.note.ch.kind),.lit (.int .i64 m.note.ch.sp.id),.lit (.int .i64 m.note.ch.sp.ver),dZ m.note.ch.sp.tx]])=[dNt m.note]:=rfl
 generalize hPS:r.ps.set i (lrnL r.ps[i] m.note)=PS at *
 have hPL:PS.length=r.ps.length:=by rw [← hPS,List.length_set]
 generalize hL:r.ps[i]=L at *
 obtain⟨a,b,rfl⟩:∃ a b,L=a::b:=by cases L with
  | nil=>exact absurd rfl h0
  | cons a b=>exact⟨a,b,rfl⟩
 have hfa:(D.flat (dNt a::b.map dNt)).length=(b.length+1)*7:=flat_nts (a::b)
 have hela:elsD 7 (b.length+1) (D.flat (dNt a::b.map dNt))=(a::b).map dNt:=elsD_nts (a::b)
 have hY:List.take (posN (a::b) m.note) ((a::b).map dNt)++([dNt m.note]++List.drop (posN (a::b) m.note) ((a::b).map dNt))=(lrnL (a::b) m.note).map dNt:=by
  rw [eL,List.map_append,List.map_take,List.map_cons (f:=dNt) (a:=m.note),List.map_drop,List.singleton_append]
 have hpl2:posN (a::b) m.note≤b.length+1:=hpl
 have hbl2:b.length+1<4096:=hbl
 have hi1:i+1≤(D.flat (List.map dPe r.ps)).length:=by rw [hfl];omega
 clear hbl hpl h4i h4 hfd eL
 have g2:(b.length+1)*7≤(D.flat (dNt a::b.map dNt)).length:=Nat.le_of_eq hfa.symm
 clear hfa
 have hb:(b.length+1)*64≤140737488355328:=lem_a hbl2
 have g1:((posN (a::b) m.note:Nat):Int)≤(b.length:Int)+1:=lem_b hpl2
 have g3:(b.length+1+1)*64≤140737488355328:=lem_c hbl2
 have g4:b.length≤9223372036854775805:=lem_d hbl2
 simp [hb]
 refine⟨⟨g1,⟨g2,Nat.le_refl _⟩,g3,g4⟩,hi1,rfl,?_⟩
 rw [hela,hel1,hY,hW]
 refine regS_path [] ?_
 simp
 refine icall_T (TF Tryz.prog a71) (hcall_of_vc c71) ?_
 simp [a71]
 refine vc_range (TF Tryz.prog a72) (hcall_of_vc c72) rfl (by rfl) (fun yl=>by rfl) (fun yl=>?_)
 simp [a72]
 have hlenR:r.ps.length≤24:=hR'.2.1
 generalize hO:finR PS (sndAll r.net (tellQ r.ps.length i m.note))=OUT
 refine vc_loopK [0,1,2,10] (Nat×Nw) (fun y=>[(11,true,.d (dI y.1))]) (fun y=>[(5,.box true [.bsl 6 0 1 r.ps.length r.ps.length,.d (.sl 3 (y.2.q.map dPc)),.d (.sl 2 (y.2.c.map dPr))])]) (fun y=>y.1≤r.ps.length∧finR PS (sndAll y.2 (restQ r.ps.length i y.1 m.note))=OUT∧okNw y.2=true∧y.2.q.length≤r.net.q.length+y.1) (fun y=>r.ps.length-y.1) (0,r.net) ⟨by omega,by rw [restQ_0];exact hO,hR'.2.2.1,Nat.le_add_right _ _⟩ ⟨[],[],?_⟩ (fun y hy=>?_)
 ·simp
  first | exact⟨wr_one _,fun x _=>by omega⟩ | exact⟨⟨wr_one _,wr_one1 _⟩,fun x _=>by omega⟩
 obtain⟨j,x⟩:=y
 obtain⟨k1,k2,k3,k4⟩:=hy
 simp only at k1 k2 k3 k4
 simp
 refine⟨fun hlt=>?_,fun hge=>?_⟩
 ·by_cases hji:j=i
  ·subst hji
   rw [restQ_eq hlt rfl] at k2
   simp [hlt]
   refine regK_path [.ret (dZ (msgB m.note))] [] ?_
   simp
   refine⟨rfl,j+1,x,⟨by omega,k2,k3,by omega⟩,by omega,[],[],?_⟩
   rw [wrap64 (by omega)]
   simp
   first | exact⟨wr_one _,fun x _=>by omega⟩ | exact⟨⟨wr_one _,wr_one1 _⟩,fun x _=>by omega⟩
  ·have hji':¬ (j:Int)=(i:Int):=by omega
   rw [restQ_ne hlt hji,sndAll_cons] at k2
   simp [hlt]
   refine regK_path [.ret (dZ (msgB m.note))] [] ?_
   simp [hji',dZ]
   refine⟨.msg m.note (okNt_tx6 q2),rfl,?_⟩
   refine vc_pathD [.ret (.tup [dNw (sndN x (pcOf i j m.note)),dI (sndE x (pcOf i j m.note))])] ?_
   simp
   have hS:=C544.snd x (pcOf i j m.note)
   refine⟨by rw [strD_bz];exact hS,rfl,?_⟩
   obtain⟨hs,hs2,hs3⟩:=snd_ok k3 (okPc_of q2 (by omega:i<24) (by omega:j<24) hji) (by omega)
   rw [if_pos hs] at k2
   rw [hs]
   refine vc_path [.ret (.tup [])] ?_
   simp
   refine⟨.need_t 0,j+1,sndN x (pcOf i j m.note),⟨by omega,k2,hs2,by omega⟩,by omega,[],[],?_⟩
   rw [wrap64 (by omega)]
   simp
   first | exact⟨wr_one _,fun x _=>by omega⟩ | exact⟨⟨wr_one _,wr_one1 _⟩,fun x _=>by omega⟩
 ·have:j=r.ps.length:=by omega
  subst this
  rw [restQ_end] at k2
  rw [← k2]
  have e:finR PS (sndAll x [])=(⟨PS,x⟩,0):=rfl
  rw [e]
  refine leave_fn (TR1 Tryz.prog a36) (dcall_of_vcR1 c36) ?_
  simp [TR1_eq,a36]
  rw [dRm,frz_agg]
  refine⟨?_,by simp⟩
  rw [frzL_cons,frzL_cons,frzL_cons,frzL_nil,frz_d,frz_d]
  exact⟨frz_rows (ag:=true) rfl dPe_z dPe_one (by first | (simp;done) | (simp [hPL];done)),LeD.refl _,LeD.refl _,trivial⟩
theorem sSync1(r:Rm) (m:Mv) (hR:okRm r=true) (m1:m.kind=2) (q1:inR r m.peer=false):PCall Tryz.prog 12 [dRm r,dMv m] (.ret (.tup [dRm (((zRm,1):Rm×Int)).1,dI (((zRm,1):Rm×Int)).2])):=by
 have hC:=C544.chk r
 refine pcall_of_vcZ h544 c12 (by simp [a12]) 4 fun hr=>?_
 simp [a12]
 refine vc_path [.ret (dI (rmE r))] ?_
 rw [rmE_0 hR] at hC ⊢
 have hR':=okRm_iff.1 hR
 simp
 refine⟨hC,?_⟩
 obtain⟨p0,pr,hps⟩:∃ p0 pr,r.ps=p0::pr:=by
  cases h:r.ps with
  | nil=>rw [h] at hR';simp at hR'
  | cons a b=>exact⟨a,b,rfl⟩
 have hcl:some (1,List.map dPe r.ps)=some (1,dPe p0::List.map dPe pr):=by rw [hps];rfl
 have hfold:dPe p0::List.map dPe pr=List.map dPe r.ps:=by rw [hps];rfl
 have hlen:pr.length+1=r.ps.length:=by rw [hps];rfl
 have h24:(r.ps.length*24≤140737488355328)=True:=eq_true (by omega)
 have hwl:(wr (List.map dPe r.ps)).length=r.ps.length:=by rw [wr_pe,List.length_map]
 have e1:(m.kind == 1)=false:=by simp [m1]
 have e2:(m.kind == 2)=true:=by simp [m1]
 simp [m1,e1,e2]
 refine regS_path [] ?_
 simp
 rw [hcl]
 simp
 rw [hfold,hlen]
 simp only [h24,true_and]
 refine regS_path [] ?_
 simp
 refine icall_T (TF Tryz.prog a32) (hcall_of_vc c32) ?_
 simp [a32]
 refine regS_path [] ?_
 simp
 refine icall_T (TF Tryz.prog a67) (hcall_of_vc c67) ?_
 simp [a67]
 refine vc_path [.pan (tE 1)] ?_
 by_cases p1:0≤m.peer
 ·have p2:¬ m.peer<(r.ps.length:Int):=fun h=>by rw [inR_iff.2 ⟨p1,h⟩] at q1;cases q1
  simp [p1,p2]
  refine⟨.need_f 1,?_⟩
  refine leave_fn (TR1 Tryz.prog a36) (dcall_of_vcR1 c36) ?_
  simp [TR1_eq,a36,tE]
  exact leZRm
 ·simp [p1]
  refine⟨.need_f 1,?_⟩
  refine leave_fn (TR1 Tryz.prog a36) (dcall_of_vcR1 c36) ?_
  simp [TR1_eq,a36,tE]
  exact leZRm
theorem sSync2(r:Rm) (m:Mv) (hR:okRm r=true) (m1:m.kind=2) (q0:inR r m.peer=true) (q1:inR r m.to=false):PCall Tryz.prog 12 [dRm r,dMv m] (.ret (.tup [dRm (((zRm,1):Rm×Int)).1,dI (((zRm,1):Rm×Int)).2])):=by
 have hC:=C544.chk r
 refine pcall_of_vcZ h544 c12 (by simp [a12]) 4 fun hr=>?_
 simp [a12]
 refine vc_path [.ret (dI (rmE r))] ?_
 rw [rmE_0 hR] at hC ⊢
 have hR':=okRm_iff.1 hR
 simp
 refine⟨hC,?_⟩
 obtain⟨p0,pr,hps⟩:∃ p0 pr,r.ps=p0::pr:=by
  cases h:r.ps with
  | nil=>rw [h] at hR';simp at hR'
  | cons a b=>exact⟨a,b,rfl⟩
 have hcl:some (1,List.map dPe r.ps)=some (1,dPe p0::List.map dPe pr):=by rw [hps];rfl
 have hfold:dPe p0::List.map dPe pr=List.map dPe r.ps:=by rw [hps];rfl
 have hlen:pr.length+1=r.ps.length:=by rw [hps];rfl
 have h24:(r.ps.length*24≤140737488355328)=True:=eq_true (by omega)
 have hwl:(wr (List.map dPe r.ps)).length=r.ps.length:=by rw [wr_pe,List.length_map]
 have e1:(m.kind == 1)=false:=by simp [m1]
 have e2:(m.kind == 2)=true:=by simp [m1]
 simp [m1,e1,e2]
 refine regS_path [] ?_
 simp
 rw [hcl]
 simp
 rw [hfold,hlen]
 simp only [h24,true_and]
 refine regS_path [] ?_
 simp
 refine icall_T (TF Tryz.prog a32) (hcall_of_vc c32) ?_
 simp [a32]
 refine regS_path [] ?_
 simp
 refine icall_T (TF Tryz.prog a67) (hcall_of_vc c67) ?_
 simp [a67]
 obtain⟨p1,p2⟩:=inR_iff.1 q0
 refine vc_path [.ret (.tup [])] ?_
 simp [p1,p2]
 refine⟨.need_t 1,?_⟩
 refine regS_path [] ?_
 simp
 refine icall_T (TF Tryz.prog a67) (hcall_of_vc c67) ?_
 simp [a67]
 refine vc_path [.pan (tE 1)] ?_
 by_cases p1:0≤m.to
 ·have p2:¬ m.to<(r.ps.length:Int):=fun h=>by rw [inR_iff.2 ⟨p1,h⟩] at q1;cases q1
  simp [p1,p2]
  refine⟨.need_f 1,?_⟩
  refine leave_fn (TR1 Tryz.prog a36) (dcall_of_vcR1 c36) ?_
  simp [TR1_eq,a36,tE]
  exact leZRm
 ·simp [p1]
  refine⟨.need_f 1,?_⟩
  refine leave_fn (TR1 Tryz.prog a36) (dcall_of_vcR1 c36) ?_
  simp [TR1_eq,a36,tE]
  exact leZRm
theorem sSync3(r:Rm) (m:Mv) (hR:okRm r=true) (m1:m.kind=2) (q0:inR r m.peer=true) (q1:inR r m.to=true) (qe:m.peer=m.to):PCall Tryz.prog 12 [dRm r,dMv m] (.ret (.tup [dRm (((zRm,1):Rm×Int)).1,dI (((zRm,1):Rm×Int)).2])):=by
 have hC:=C544.chk r
 refine pcall_of_vcZ h544 c12 (by simp [a12]) 4 fun hr=>?_
 simp [a12]
 refine vc_path [.ret (dI (rmE r))] ?_
 rw [rmE_0 hR] at hC ⊢
 have hR':=okRm_iff.1 hR
 simp
 refine⟨hC,?_⟩
 obtain⟨p0,pr,hps⟩:∃ p0 pr,r.ps=p0::pr:=by
  cases h:r.ps with
  | nil=>rw [h] at hR';simp at hR'
  | cons a b=>exact⟨a,b,rfl⟩
 have hcl:some (1,List.map dPe r.ps)=some (1,dPe p0::List.map dPe pr):=by rw [hps];rfl
 have hfold:dPe p0::List.map dPe pr=List.map dPe r.ps:=by rw [hps];rfl
 have hlen:pr.length+1=r.ps.length:=by rw [hps];rfl
 have h24:(r.ps.length*24≤140737488355328)=True:=eq_true (by omega)
 have hwl:(wr (List.map dPe r.ps)).length=r.ps.length:=by rw [wr_pe,List.length_map]
 have e1:(m.kind == 1)=false:=by simp [m1]
 have e2:(m.kind == 2)=true:=by simp [m1]
 simp [m1,e1,e2]
 refine regS_path [] ?_
 simp
 rw [hcl]
 simp
 rw [hfold,hlen]
 simp only [h24,true_and]
 refine regS_path [] ?_
 simp
 refine icall_T (TF Tryz.prog a32) (hcall_of_vc c32) ?_
 simp [a32]
 refine regS_path [] ?_
 simp
 refine icall_T (TF Tryz.prog a67) (hcall_of_vc c67) ?_
 simp [a67]
 obtain⟨p1,p2⟩:=inR_iff.1 q0
 refine vc_path [.ret (.tup [])] ?_
 simp [p1,p2]
 refine⟨.need_t 1,?_⟩
 refine regS_path [] ?_
 simp
 refine icall_T (TF Tryz.prog a67) (hcall_of_vc c67) ?_
 simp [a67]
 obtain⟨p3,p4⟩:=inR_iff.1 q1
 refine vc_path [.ret (.tup [])] ?_
 simp [p3,p4]
 refine⟨.need_t 1,?_⟩
 refine vc_path [.pan (tE 1)] ?_
 simp [qe]
 refine⟨.need_f 1,?_⟩
 refine leave_fn (TR1 Tryz.prog a36) (dcall_of_vcR1 c36) ?_
 simp [TR1_eq,a36,tE]
 exact leZRm
theorem sSync4(r:Rm) (m:Mv) (hR:okRm r=true) (m1:m.kind=2) (q0:inR r m.peer=true) (q1:inR r m.to=true) (qe:¬ m.peer=m.to) (i k:Nat) (hi:m.peer=i) (hk:m.to=k) (p5:i<r.ps.length) (p6:k<r.ps.length) (hq:r.net.q.length+r.ps[i].length≤4000):PCall Tryz.prog 12 [dRm r,dMv m] (.ret (.tup [dRm (finR r.ps (sndAll r.net (r.ps[i].map fun n=>pcOf i k n))).1,dI (finR r.ps (sndAll r.net (r.ps[i].map fun n=>pcOf i k n))).2])):=by
 have hC:=C544.chk r
 refine pcall_of_vcZ h544 c12 (by simp [a12]) 4 fun hr=>?_
 simp [a12]
 refine vc_path [.ret (dI (rmE r))] ?_
 rw [rmE_0 hR] at hC ⊢
 have hR':=okRm_iff.1 hR
 simp
 refine⟨hC,?_⟩
 obtain⟨p0,pr,hps⟩:∃ p0 pr,r.ps=p0::pr:=by
  cases h:r.ps with
  | nil=>rw [h] at hR';simp at hR'
  | cons a b=>exact⟨a,b,rfl⟩
 have hcl:some (1,List.map dPe r.ps)=some (1,dPe p0::List.map dPe pr):=by rw [hps];rfl
 have hfold:dPe p0::List.map dPe pr=List.map dPe r.ps:=by rw [hps];rfl
 have hlen:pr.length+1=r.ps.length:=by rw [hps];rfl
 have h24:(r.ps.length*24≤140737488355328)=True:=eq_true (by omega)
 have hwl:(wr (List.map dPe r.ps)).length=r.ps.length:=by rw [wr_pe,List.length_map]
 have e1:(m.kind == 1)=false:=by simp [m1]
 have e2:(m.kind == 2)=true:=by simp [m1]
 simp [m1,e1,e2]
 refine regS_path [] ?_
 simp
 rw [hcl]
 simp
 rw [hfold,hlen]
 simp only [h24,true_and]
 refine regS_path [] ?_
 simp
 refine icall_T (TF Tryz.prog a32) (hcall_of_vc c32) ?_
 simp [a32]
 refine regS_path [] ?_
 simp
 refine icall_T (TF Tryz.prog a67) (hcall_of_vc c67) ?_
 simp [a67]
 obtain⟨p1,p2⟩:=inR_iff.1 q0
 refine vc_path [.ret (.tup [])] ?_
 simp [p1,p2]
 refine⟨.need_t 1,?_⟩
 refine regS_path [] ?_
 simp
 refine icall_T (TF Tryz.prog a67) (hcall_of_vc c67) ?_
 simp [a67]
 obtain⟨p3,p4⟩:=inR_iff.1 q1
 refine vc_path [.ret (.tup [])] ?_
 simp [p3,p4]
 refine⟨.need_t 1,?_⟩
 refine vc_path [.ret (.tup [])] ?_
 have hqb:(m.peer != m.to)=true:=by simp [qe]
 simp [hqb]
 refine⟨.need_t 1,?_⟩
 clear hqb
 rw [hi] at p1 p2 qe ⊢
 rw [hk] at p3 p4 qe ⊢
 refine regS_path [] ?_
 simp
 refine icall_T (TF Tryz.prog a71) (hcall_of_vc c71) ?_
 simp [a71]
 refine vc_range (TF Tryz.prog a74) (hcall_of_vc c74) rfl (by rfl) (fun yl=>by rfl) (fun yl=>?_)
 have hwg:(wr (List.map dPe r.ps))[i]?=some (.d (.sl 7 (r.ps[i].map dNt))):=by rw [wr_pe];simp [p5]
 have hpe:=okPe_iff.1 (hR'.2.2.2.1 _ (List.getElem_mem p5))
 have hok:=okNs_ok hpe.1
 have hfl:(D.flat (r.ps.map dPe)).length=r.ps.length*1:=by rw [flat_len (sz:=1) (by simp)];simp
 simp [a74,p5,hwg]
 refine⟨by omega,rfl,?_⟩
 have hlenR:r.ps.length≤24:=hR'.2.1
 have hL4:=hpe.2
 generalize hL:r.ps[i]=L at *
 generalize hO:finR r.ps (sndAll r.net (L.map fun n=>pcOf i k n))=OUT
 refine vc_loopK [0,1,2,15,16] (Nat×Nw) (fun y=>[(17,true,.d (dI y.1))]) (fun y=>[(5,.box true [.bsl 6 0 1 r.ps.length r.ps.length,.d (.sl 3 (y.2.q.map dPc)),.d (.sl 2 (y.2.c.map dPr))])]) (fun y=>y.1≤L.length∧finR r.ps (sndAll y.2 ((L.drop y.1).map fun n=>pcOf i k n))=OUT∧okNw y.2=true∧y.2.q.length≤r.net.q.length+y.1) (fun y=>L.length-y.1) (0,r.net) ⟨Nat.zero_le _,hO,hR'.2.2.1,Nat.le_add_right _ _⟩ ⟨[],[],?_⟩ (fun y hy=>?_)
 ·simp
  exact⟨wr_one _,fun x _=>by omega⟩
 obtain⟨j,x⟩:=y
 obtain⟨k1,k2,k3,k4⟩:=hy
 simp only at k1 k2 k3 k4
 simp
 refine⟨fun hlt=>?_,fun hge=>?_⟩
 ·have q7:okNt L[j]=true:=hok _ (List.getElem_mem hlt)
  rw [List.drop_eq_getElem_cons hlt,List.map_cons,sndAll_cons] at k2
  simp [hlt,dNt]
  refine regK_path [.ret (dZ (msgB L[j]))] [] ?_
  simp [dZ]
  refine⟨.msg L[j] (okNt_tx6 q7),rfl,?_⟩
  refine vc_pathD [.ret (.tup [dNw (sndN x (pcOf i k L[j])),dI (sndE x (pcOf i k L[j]))])] ?_
  simp
  have hS:=C544.snd x (pcOf i k L[j])
  refine⟨by rw [strD_bz];exact hS,rfl,?_⟩
  have hik:¬ k=i:=fun e=>qe (by rw [e])
  obtain⟨hs,hs2,hs3⟩:=snd_ok k3 (okPc_of q7 (by omega:i<24) (by omega:k<24) hik) (by omega)
  rw [if_pos hs] at k2
  rw [hs]
  refine vc_path [.ret (.tup [])] ?_
  simp
  refine⟨.need_t 0,j+1,sndN x (pcOf i k L[j]),⟨by omega,by rw [← List.map_drop];exact k2,hs2,by omega⟩,by omega,[],[],?_⟩
  rw [wrap64 (by omega)]
  simp
  exact⟨wr_one _,fun x _=>by omega⟩
 ·have:j=L.length:=by omega
  subst this
  rw [List.drop_length] at k2
  rw [← k2]
  have e:finR r.ps (sndAll x [])=(⟨r.ps,x⟩,0):=rfl
  rw [List.map_nil,e]
  refine leave_fn (TR1 Tryz.prog a36) (dcall_of_vcR1 c36) ?_
  simp [TR1_eq,a36]
  rw [dRm,frz_agg]
  refine⟨?_,by simp⟩
  rw [frzL_cons,frzL_cons,frzL_cons,frzL_nil,frz_d,frz_d]
  exact⟨frz_rows (ag:=true) rfl dPe_z dPe_one (by simp),LeD.refl _,LeD.refl _,trivial⟩
theorem sLose(r:Rm) (m:Mv) (hR:okRm r=true) (m1:m.kind=4):PCall Tryz.prog 12 [dRm r,dMv m] (.ret (.tup [dRm (if atE r.net m.at_≠0 then (zRm,atE r.net m.at_) else (⟨r.ps,lseN r.net m.at_⟩,0)).1,dI (if atE r.net m.at_≠0 then (zRm,atE r.net m.at_) else (⟨r.ps,lseN r.net m.at_⟩,0)).2])):=by
 have hC:=C544.chk r
 refine pcall_of_vcZ h544 c12 (by simp [a12]) 4 fun hr=>?_
 simp [a12]
 refine vc_path [.ret (dI (rmE r))] ?_
 rw [rmE_0 hR] at hC ⊢
 have hR':=okRm_iff.1 hR
 simp
 refine⟨hC,?_⟩
 obtain⟨p0,pr,hps⟩:∃ p0 pr,r.ps=p0::pr:=by
  cases h:r.ps with
  | nil=>rw [h] at hR';simp at hR'
  | cons a b=>exact⟨a,b,rfl⟩
 have hcl:some (1,List.map dPe r.ps)=some (1,dPe p0::List.map dPe pr):=by rw [hps];rfl
 have hfold:dPe p0::List.map dPe pr=List.map dPe r.ps:=by rw [hps];rfl
 have hlen:pr.length+1=r.ps.length:=by rw [hps];rfl
 have h24:(r.ps.length*24≤140737488355328)=True:=eq_true (by omega)
 have hwl:(wr (List.map dPe r.ps)).length=r.ps.length:=by rw [wr_pe,List.length_map]
 have e1:(m.kind == 1)=false:=by simp [m1]
 have e2:(m.kind == 2)=false:=by simp [m1]
 have e3:(m.kind == 3)=false:=by simp [m1]
 have e4:(m.kind == 4)=true:=by simp [m1]
 simp [m1,e1,e2,e3,e4]
 refine regS_path [] ?_
 simp
 rw [hcl]
 simp
 rw [hfold,hlen]
 simp only [h24,true_and]
 refine regS_path [] ?_
 simp
 refine icall_T (TF Tryz.prog a34) (hcall_of_vc c34) ?_
 simp [a34]
 have hD:=C544.lose r.net m.at_
 refine vc_pathD [.ret (.tup [dNw (lseN r.net m.at_),dI (atE r.net m.at_)])] ?_
 simp
 refine⟨hD,rfl,?_⟩
 by_cases e:atE r.net m.at_=0
 ·rw [e]
  refine vc_path [.ret (.tup [])] ?_
  simp
  refine⟨.need_t 0,?_⟩
  refine leave_fn (TR1 Tryz.prog a36) (dcall_of_vcR1 c36) ?_
  simp [TR1_eq,a36]
  rw [dRm,frz_agg]
  refine⟨?_,by simp⟩
  rw [frzL_cons,frzL_cons,frzL_cons,frzL_nil,frz_d,frz_d]
  exact⟨frz_rows (ag:=true) rfl dPe_z dPe_one (by simp),LeD.refl _,LeD.refl _,trivial⟩
 ·refine vc_path [.pan (tE (atE r.net m.at_))] ?_
  have hsd:((atE r.net m.at_ == 0)=false):=by simp [e]
  simp [hsd,e]
  refine⟨.need_f _,?_⟩
  refine leave_fn (TR1 Tryz.prog a36) (dcall_of_vcR1 c36) ?_
  simp [TR1_eq,a36,tE]
  exact leZRm
theorem sRepeat(r:Rm) (m:Mv) (hR:okRm r=true) (m1:m.kind=5):PCall Tryz.prog 12 [dRm r,dMv m] (.ret (.tup [dRm (if repE r.net m.at_≠0 then (zRm,repE r.net m.at_) else (⟨r.ps,repN r.net m.at_⟩,0)).1,dI (if repE r.net m.at_≠0 then (zRm,repE r.net m.at_) else (⟨r.ps,repN r.net m.at_⟩,0)).2])):=by
 have hC:=C544.chk r
 refine pcall_of_vcZ h544 c12 (by simp [a12]) 4 fun hr=>?_
 simp [a12]
 refine vc_path [.ret (dI (rmE r))] ?_
 rw [rmE_0 hR] at hC ⊢
 have hR':=okRm_iff.1 hR
 simp
 refine⟨hC,?_⟩
 obtain⟨p0,pr,hps⟩:∃ p0 pr,r.ps=p0::pr:=by
  cases h:r.ps with
  | nil=>rw [h] at hR';simp at hR'
  | cons a b=>exact⟨a,b,rfl⟩
 have hcl:some (1,List.map dPe r.ps)=some (1,dPe p0::List.map dPe pr):=by rw [hps];rfl
 have hfold:dPe p0::List.map dPe pr=List.map dPe r.ps:=by rw [hps];rfl
 have hlen:pr.length+1=r.ps.length:=by rw [hps];rfl
 have h24:(r.ps.length*24≤140737488355328)=True:=eq_true (by omega)
 have hwl:(wr (List.map dPe r.ps)).length=r.ps.length:=by rw [wr_pe,List.length_map]
 have e1:(m.kind == 1)=false:=by simp [m1]
 have e2:(m.kind == 2)=false:=by simp [m1]
 have e3:(m.kind == 3)=false:=by simp [m1]
 have e4:(m.kind == 4)=false:=by simp [m1]
 have e5:(m.kind == 5)=true:=by simp [m1]
 simp [m1,e1,e2,e3,e4,e5]
 refine regS_path [] ?_
 simp
 rw [hcl]
 simp
 rw [hfold,hlen]
 simp only [h24,true_and]
 refine regS_path [] ?_
 simp
 refine icall_T (TF Tryz.prog a35) (hcall_of_vc c35) ?_
 simp [a35]
 have hD:=C544.rep r.net m.at_
 refine vc_pathD [.ret (.tup [dNw (repN r.net m.at_),dI (repE r.net m.at_)])] ?_
 simp
 refine⟨hD,rfl,?_⟩
 by_cases e:repE r.net m.at_=0
 ·rw [e]
  refine vc_path [.ret (.tup [])] ?_
  simp
  refine⟨.need_t 0,?_⟩
  refine leave_fn (TR1 Tryz.prog a36) (dcall_of_vcR1 c36) ?_
  simp [TR1_eq,a36]
  rw [dRm,frz_agg]
  refine⟨?_,by simp⟩
  rw [frzL_cons,frzL_cons,frzL_cons,frzL_nil,frz_d,frz_d]
  exact⟨frz_rows (ag:=true) rfl dPe_z dPe_one (by simp),LeD.refl _,LeD.refl _,trivial⟩
 ·refine vc_path [.pan (tE (repE r.net m.at_))] ?_
  have hsd:((repE r.net m.at_ == 0)=false):=by simp [e]
  simp [hsd,e]
  refine⟨.need_f _,?_⟩
  refine leave_fn (TR1 Tryz.prog a36) (dcall_of_vcR1 c36) ?_
  simp [TR1_eq,a36,tE]
  exact leZRm
theorem sNone(r:Rm) (m:Mv) (hR:okRm r=true) (m1:¬ m.kind=1) (m2:¬ m.kind=2) (m3:¬ m.kind=3) (m4:¬ m.kind=4) (m5:¬ m.kind=5):PCall Tryz.prog 12 [dRm r,dMv m] (.ret (.tup [dRm (((zRm,1):Rm×Int)).1,dI (((zRm,1):Rm×Int)).2])):=by
 have hC:=C544.chk r
 refine pcall_of_vcZ h544 c12 (by simp [a12]) 4 fun hr=>?_
 simp [a12]
 refine vc_path [.ret (dI (rmE r))] ?_
 rw [rmE_0 hR] at hC ⊢
 have hR':=okRm_iff.1 hR
 simp
 refine⟨hC,?_⟩
 have e1:(m.kind == 1)=false:=by simp [m1]
 have e2:(m.kind == 2)=false:=by simp [m2]
 have e3:(m.kind == 3)=false:=by simp [m3]
 have e4:(m.kind == 4)=false:=by simp [m4]
 have e5:(m.kind == 5)=false:=by simp [m5]
 simp [e1,e2,e3,e4,e5]
 first | exact leZRm | exact⟨leZRm,leD_of_eq rfl⟩
theorem sDlv1(r:Rm) (m:Mv) (hR:okRm r=true) (m1:m.kind=3) (e:¬ atE r.net m.at_=0):PCall Tryz.prog 12 [dRm r,dMv m] (.ret (.tup [dRm (((zRm,atE r.net m.at_):Rm×Int)).1,dI (((zRm,atE r.net m.at_):Rm×Int)).2])):=by
 have hC:=C544.chk r
 refine pcall_of_vcZ h544 c12 (by simp [a12]) 4 fun hr=>?_
 simp [a12]
 refine vc_path [.ret (dI (rmE r))] ?_
 rw [rmE_0 hR] at hC ⊢
 have hR':=okRm_iff.1 hR
 simp
 refine⟨hC,?_⟩
 obtain⟨p0,pr,hps⟩:∃ p0 pr,r.ps=p0::pr:=by
  cases h:r.ps with
  | nil=>rw [h] at hR';simp at hR'
  | cons a b=>exact⟨a,b,rfl⟩
 have hcl:some (1,List.map dPe r.ps)=some (1,dPe p0::List.map dPe pr):=by rw [hps];rfl
 have hfold:dPe p0::List.map dPe pr=List.map dPe r.ps:=by rw [hps];rfl
 have hlen:pr.length+1=r.ps.length:=by rw [hps];rfl
 have h24:(r.ps.length*24≤140737488355328)=True:=eq_true (by omega)
 have hwl:(wr (List.map dPe r.ps)).length=r.ps.length:=by rw [wr_pe,List.length_map]
 have e1:(m.kind == 1)=false:=by simp [m1]
 have e2:(m.kind == 2)=false:=by simp [m1]
 have e3:(m.kind == 3)=true:=by simp [m1]
 simp [m1,e1,e2,e3]
 refine regS_path [] ?_
 simp
 rw [hcl]
 simp
 rw [hfold,hlen]
 simp only [h24,true_and]
 refine regS_path [] ?_
 simp
 refine icall_T (TF Tryz.prog a33) (hcall_of_vc c33) ?_
 simp [a33]
 have hD:=C544.dlv r.net m.at_
 refine vc_pathD [.ret (.tup [dPc (dlvP r.net m.at_),dNw (lseN r.net m.at_),dI (atE r.net m.at_)])] ?_
 simp
 refine⟨hD,rfl,?_⟩
 refine vc_path [.pan (tE (atE r.net m.at_))] ?_
 have hsd:((atE r.net m.at_ == 0)=false):=by simp [e]
 simp [hsd]
 refine⟨.need_f _,?_⟩
 refine leave_fn (TR1 Tryz.prog a36) (dcall_of_vcR1 c36) ?_
 simp [TR1_eq,a36,tE]
 exact leZRm
theorem sDlv2(r:Rm) (m:Mv) (hR:okRm r=true) (m1:m.kind=3) (e:atE r.net m.at_=0) (qab:(dlvP r.net m.at_).a=(dlvP r.net m.at_).b):PCall Tryz.prog 12 [dRm r,dMv m] (.ret (.tup [dRm (((⟨r.ps,lseN r.net m.at_⟩,0):Rm×Int)).1,dI (((⟨r.ps,lseN r.net m.at_⟩,0):Rm×Int)).2])):=by
 have hC:=C544.chk r
 refine pcall_of_vcZ h544 c12 (by simp [a12]) 4 fun hr=>?_
 simp [a12]
 refine vc_path [.ret (dI (rmE r))] ?_
 rw [rmE_0 hR] at hC ⊢
 have hR':=okRm_iff.1 hR
 simp
 refine⟨hC,?_⟩
 obtain⟨p0,pr,hps⟩:∃ p0 pr,r.ps=p0::pr:=by
  cases h:r.ps with
  | nil=>rw [h] at hR';simp at hR'
  | cons a b=>exact⟨a,b,rfl⟩
 have hcl:some (1,List.map dPe r.ps)=some (1,dPe p0::List.map dPe pr):=by rw [hps];rfl
 have hfold:dPe p0::List.map dPe pr=List.map dPe r.ps:=by rw [hps];rfl
 have hlen:pr.length+1=r.ps.length:=by rw [hps];rfl
 have h24:(r.ps.length*24≤140737488355328)=True:=eq_true (by omega)
 have hwl:(wr (List.map dPe r.ps)).length=r.ps.length:=by rw [wr_pe,List.length_map]
 have e1:(m.kind == 1)=false:=by simp [m1]
 have e2:(m.kind == 2)=false:=by simp [m1]
 have e3:(m.kind == 3)=true:=by simp [m1]
 simp [m1,e1,e2,e3]
 refine regS_path [] ?_
 simp
 rw [hcl]
 simp
 rw [hfold,hlen]
 simp only [h24,true_and]
 refine regS_path [] ?_
 simp
 refine icall_T (TF Tryz.prog a33) (hcall_of_vc c33) ?_
 simp [a33]
 have hD:=C544.dlv r.net m.at_
 refine vc_pathD [.ret (.tup [dPc (dlvP r.net m.at_),dNw (lseN r.net m.at_),dI (atE r.net m.at_)])] ?_
 simp
 refine⟨hD,rfl,?_⟩
 rw [e]
 refine vc_path [.ret (.tup [])] ?_
 simp [qab]
 refine⟨.need_t 0,?_⟩
 refine leave_fn (TR1 Tryz.prog a36) (dcall_of_vcR1 c36) ?_
 simp [TR1_eq,a36]
 rw [dRm,frz_agg]
 refine⟨?_,by simp⟩
 rw [frzL_cons,frzL_cons,frzL_cons,frzL_nil,frz_d,frz_d]
 exact⟨frz_rows (ag:=true) rfl dPe_z dPe_one (by simp),LeD.refl _,LeD.refl _,trivial⟩
theorem sDlv3(r:Rm) (m:Mv) (hR:okRm r=true) (m1:m.kind=3) (e:atE r.net m.at_=0) (qab:¬ (dlvP r.net m.at_).a=(dlvP r.net m.at_).b) (n:Nt) (hn:readB (dlvP r.net m.at_).p=some n) (q2:okNt n=true) (i:Nat) (hi:(dlvP r.net m.at_).b=i) (p3:i<r.ps.length) (hfd:r.ps[i][posN r.ps[i] n]?=some n):PCall Tryz.prog 12 [dRm r,dMv m] (.ret (.tup [dRm (((⟨r.ps,lseN r.net m.at_⟩,0):Rm×Int)).1,dI (((⟨r.ps,lseN r.net m.at_⟩,0):Rm×Int)).2])):=by
 have hC:=C544.chk r
 refine pcall_of_vcZ h544 c12 (by simp [a12]) 4 fun hr=>?_
 simp [a12]
 refine vc_path [.ret (dI (rmE r))] ?_
 rw [rmE_0 hR] at hC ⊢
 have hR':=okRm_iff.1 hR
 simp
 refine⟨hC,?_⟩
 obtain⟨p0,pr,hps⟩:∃ p0 pr,r.ps=p0::pr:=by
  cases h:r.ps with
  | nil=>rw [h] at hR';simp at hR'
  | cons a b=>exact⟨a,b,rfl⟩
 have hcl:some (1,List.map dPe r.ps)=some (1,dPe p0::List.map dPe pr):=by rw [hps];rfl
 have hfold:dPe p0::List.map dPe pr=List.map dPe r.ps:=by rw [hps];rfl
 have hlen:pr.length+1=r.ps.length:=by rw [hps];rfl
 have h24:(r.ps.length*24≤140737488355328)=True:=eq_true (by omega)
 have hwl:(wr (List.map dPe r.ps)).length=r.ps.length:=by rw [wr_pe,List.length_map]
 have e1:(m.kind == 1)=false:=by simp [m1]
 have e2:(m.kind == 2)=false:=by simp [m1]
 have e3:(m.kind == 3)=true:=by simp [m1]
 simp [m1,e1,e2,e3]
 refine regS_path [] ?_
 simp
 rw [hcl]
 simp
 rw [hfold,hlen]
 simp only [h24,true_and]
 refine regS_path [] ?_
 simp
 refine icall_T (TF Tryz.prog a33) (hcall_of_vc c33) ?_
 simp [a33]
 have hD:=C544.dlv r.net m.at_
 refine vc_pathD [.ret (.tup [dPc (dlvP r.net m.at_),dNw (lseN r.net m.at_),dI (atE r.net m.at_)])] ?_
 simp
 refine⟨hD,rfl,?_⟩
 rw [e]
 refine vc_path [.ret (.tup [])] ?_
 simp [qab]
 refine⟨.need_t 0,?_⟩
 obtain⟨k1,k2⟩:=dlv_ok hR qab
 obtain⟨k3,k4,k5⟩:=okPc_len k1
 have hB:=C544.rd (dlvP r.net m.at_).p k3
 rw [sRdN_eq hn,hn] at hB
 refine vc_path [.ret (.tup [dNt n,dB true])] ?_
 simp
 refine⟨hB,?_⟩
 refine regS_path [] ?_
 simp
 rw [hi]
 refine icall_T (TF Tryz.prog a70) (hcall_of_vc c70) ?_
 have hwg:(wr (List.map dPe r.ps))[i]?=some (.d (.sl 7 (r.ps[i].map dNt))):=by rw [wr_pe];simp [p3]
 simp [a70,p3]
 have hpe:=okPe_iff.1 (hR'.2.2.2.1 _ (List.getElem_mem p3))
 have hS:=C544.search r.ps[i] n hpe.1 q2 (by omega)
 have hpl:=(posN_spec (okNs_pw hpe.1) n).1
 refine vc_pathD [.ret (.tup [dI (posN r.ps[i] n),dB (decide (r.ps[i][posN r.ps[i] n]?=some n))])] ?_
 have hfl:(D.flat (r.ps.map dPe)).length=r.ps.length*1:=by rw [flat_len (sz:=1) (by simp)];simp
 simp [hfd] at hS
 simp [hwg,hfd]
 refine⟨by omega,hS,rfl,?_⟩
 refine leave_fn (TR1 Tryz.prog a36) (dcall_of_vcR1 c36) ?_
 simp [TR1_eq,a36]
 rw [dRm,frz_agg]
 refine⟨?_,by simp⟩
 rw [frzL_cons,frzL_cons,frzL_cons,frzL_nil,frz_d,frz_d]
 exact⟨frz_rows (ag:=true) rfl dPe_z dPe_one (by simp),LeD.refl _,LeD.refl _,trivial⟩
theorem sDlv4(r:Rm) (m:Mv) (hR:okRm r=true) (m1:m.kind=3) (e:atE r.net m.at_=0) (qab:¬ (dlvP r.net m.at_).a=(dlvP r.net m.at_).b) (n:Nt) (hn:readB (dlvP r.net m.at_).p=some n) (q2:okNt n=true) (i:Nat) (hi:(dlvP r.net m.at_).b=i) (p3:i<r.ps.length) (hfd:¬ r.ps[i][posN r.ps[i] n]?=some n) (h4:r.ps[i].length=4096):PCall Tryz.prog 12 [dRm r,dMv m] (.ret (.tup [dRm (((zRm,2):Rm×Int)).1,dI (((zRm,2):Rm×Int)).2])):=by
 have hC:=C544.chk r
 refine pcall_of_vcZ h544 c12 (by simp [a12]) 4 fun hr=>?_
 simp [a12]
 refine vc_path [.ret (dI (rmE r))] ?_
 rw [rmE_0 hR] at hC ⊢
 have hR':=okRm_iff.1 hR
 simp
 refine⟨hC,?_⟩
 obtain⟨p0,pr,hps⟩:∃ p0 pr,r.ps=p0::pr:=by
  cases h:r.ps with
  | nil=>rw [h] at hR';simp at hR'
  | cons a b=>exact⟨a,b,rfl⟩
 have hcl:some (1,List.map dPe r.ps)=some (1,dPe p0::List.map dPe pr):=by rw [hps];rfl
 have hfold:dPe p0::List.map dPe pr=List.map dPe r.ps:=by rw [hps];rfl
 have hlen:pr.length+1=r.ps.length:=by rw [hps];rfl
 have h24:(r.ps.length*24≤140737488355328)=True:=eq_true (by omega)
 have hwl:(wr (List.map dPe r.ps)).length=r.ps.length:=by rw [wr_pe,List.length_map]
 have e1:(m.kind == 1)=false:=by simp [m1]
 have e2:(m.kind == 2)=false:=by simp [m1]
 have e3:(m.kind == 3)=true:=by simp [m1]
 simp [m1,e1,e2,e3]
 refine regS_path [] ?_
 simp
 rw [hcl]
 simp
 rw [hfold,hlen]
 simp only [h24,true_and]
 refine regS_path [] ?_
 simp
 refine icall_T (TF Tryz.prog a33) (hcall_of_vc c33) ?_
 simp [a33]
 have hD:=C544.dlv r.net m.at_
 refine vc_pathD [.ret (.tup [dPc (dlvP r.net m.at_),dNw (lseN r.net m.at_),dI (atE r.net m.at_)])] ?_
 simp
 refine⟨hD,rfl,?_⟩
 rw [e]
 refine vc_path [.ret (.tup [])] ?_
 simp [qab]
 refine⟨.need_t 0,?_⟩
 obtain⟨k1,k2⟩:=dlv_ok hR qab
 obtain⟨k3,k4,k5⟩:=okPc_len k1
 have hB:=C544.rd (dlvP r.net m.at_).p k3
 rw [sRdN_eq hn,hn] at hB
 refine vc_path [.ret (.tup [dNt n,dB true])] ?_
 simp
 refine⟨hB,?_⟩
 refine regS_path [] ?_
 simp
 rw [hi]
 refine icall_T (TF Tryz.prog a70) (hcall_of_vc c70) ?_
 have hwg:(wr (List.map dPe r.ps))[i]?=some (.d (.sl 7 (r.ps[i].map dNt))):=by rw [wr_pe];simp [p3]
 simp [a70,p3]
 have hpe:=okPe_iff.1 (hR'.2.2.2.1 _ (List.getElem_mem p3))
 have hS:=C544.search r.ps[i] n hpe.1 q2 (by omega)
 have hpl:=(posN_spec (okNs_pw hpe.1) n).1
 refine vc_pathD [.ret (.tup [dI (posN r.ps[i] n),dB (decide (r.ps[i][posN r.ps[i] n]?=some n))])] ?_
 have hfl:(D.flat (r.ps.map dPe)).length=r.ps.length*1:=by rw [flat_len (sz:=1) (by simp)];simp
 simp [hfd] at hS
 simp [hwg,hfd]
 refine⟨by omega,hS,rfl,?_⟩
 have h4i:decide ((r.ps[i].length:Int)<4096)=false:=decide_eq_false (by omega)
 refine vc_path [.pan (tE 2)] ?_
 simp [hwg,h4i]
 refine⟨by omega,.need_f 2,?_⟩
 refine leave_fn (TR1 Tryz.prog a36) (dcall_of_vcR1 c36) ?_
 simp [TR1_eq,a36,tE]
 exact leZRm
theorem sDlv5(r:Rm) (m:Mv) (hR:okRm r=true) (m1:m.kind=3) (e:atE r.net m.at_=0) (qab:¬ (dlvP r.net m.at_).a=(dlvP r.net m.at_).b) (n:Nt) (hn:readB (dlvP r.net m.at_).p=some n) (q2:okNt n=true) (i:Nat) (hi:(dlvP r.net m.at_).b=i) (p3:i<r.ps.length) (hfd:¬ r.ps[i][posN r.ps[i] n]?=some n) (h4:¬ r.ps[i].length=4096) (h0:r.ps[i]=[]):PCall Tryz.prog 12 [dRm r,dMv m] (.ret (.tup [dRm (((⟨r.ps.set i (lrnL r.ps[i] n),lseN r.net m.at_⟩,0):Rm×Int)).1,dI (((⟨r.ps.set i (lrnL r.ps[i] n),lseN r.net m.at_⟩,0):Rm×Int)).2])):=by
 have hC:=C544.chk r
 refine pcall_of_vcZ h544 c12 (by simp [a12]) 4 fun hr=>?_
 simp [a12]
 refine vc_path [.ret (dI (rmE r))] ?_
 rw [rmE_0 hR] at hC ⊢
 have hR':=okRm_iff.1 hR
 simp
 refine⟨hC,?_⟩
 obtain⟨p0,pr,hps⟩:∃ p0 pr,r.ps=p0::pr:=by
  cases h:r.ps with
  | nil=>rw [h] at hR';simp at hR'
  | cons a b=>exact⟨a,b,rfl⟩
 have hcl:some (1,List.map dPe r.ps)=some (1,dPe p0::List.map dPe pr):=by rw [hps];rfl
 have hfold:dPe p0::List.map dPe pr=List.map dPe r.ps:=by rw [hps];rfl
 have hlen:pr.length+1=r.ps.length:=by rw [hps];rfl
 have h24:(r.ps.length*24≤140737488355328)=True:=eq_true (by omega)
 have hwl:(wr (List.map dPe r.ps)).length=r.ps.length:=by rw [wr_pe,List.length_map]
 have e1:(m.kind == 1)=false:=by simp [m1]
 have e2:(m.kind == 2)=false:=by simp [m1]
 have e3:(m.kind == 3)=true:=by simp [m1]
 simp [m1,e1,e2,e3]
 refine regS_path [] ?_
 simp
 rw [hcl]
 simp
 rw [hfold,hlen]
 simp only [h24,true_and]
 refine regS_path [] ?_
 simp
 refine icall_T (TF Tryz.prog a33) (hcall_of_vc c33) ?_
 simp [a33]
 have hD:=C544.dlv r.net m.at_
 refine vc_pathD [.ret (.tup [dPc (dlvP r.net m.at_),dNw (lseN r.net m.at_),dI (atE r.net m.at_)])] ?_
 simp
 refine⟨hD,rfl,?_⟩
 rw [e]
 refine vc_path [.ret (.tup [])] ?_
 simp [qab]
 refine⟨.need_t 0,?_⟩
 obtain⟨k1,k2⟩:=dlv_ok hR qab
 obtain⟨k3,k4,k5⟩:=okPc_len k1
 have hB:=C544.rd (dlvP r.net m.at_).p k3
 rw [sRdN_eq hn,hn] at hB
 refine vc_path [.ret (.tup [dNt n,dB true])] ?_
 simp
 refine⟨hB,?_⟩
 refine regS_path [] ?_
 simp
 rw [hi]
 refine icall_T (TF Tryz.prog a70) (hcall_of_vc c70) ?_
 have hwg:(wr (List.map dPe r.ps))[i]?=some (.d (.sl 7 (r.ps[i].map dNt))):=by rw [wr_pe];simp [p3]
 simp [a70,p3]
 have hpe:=okPe_iff.1 (hR'.2.2.2.1 _ (List.getElem_mem p3))
 have hS:=C544.search r.ps[i] n hpe.1 q2 (by omega)
 have hpl:=(posN_spec (okNs_pw hpe.1) n).1
 refine vc_pathD [.ret (.tup [dI (posN r.ps[i] n),dB (decide (r.ps[i][posN r.ps[i] n]?=some n))])] ?_
 have hfl:(D.flat (r.ps.map dPe)).length=r.ps.length*1:=by rw [flat_len (sz:=1) (by simp)];simp
 simp [hfd] at hS
 simp [hwg,hfd]
 refine⟨by omega,hS,rfl,?_⟩
 have h4i:decide ((r.ps[i].length:Int)<4096)=true:=decide_eq_true (by omega)
 refine vc_path [.ret (.tup [])] ?_
 simp [hwg,h4i]
 refine⟨by omega,.need_t 2,by omega,?_⟩
 have hW:=wr_pe_set r.ps i (lrnL r.ps[i] n)
 have eL:lrnL r.ps[i] n=r.ps[i].take (posN r.ps[i] n)++n::r.ps[i].drop (posN r.ps[i] n):=by unfold lrnL;rw [if_neg hfd,if_neg h4]
 have hbl:r.ps[i].length<4096:=by omega
 have hel1:elsD 7 1 (D.flat [.agg [.lit (.int .i64 n.lang),.lit (.int .i64 n.seq),.lit (.int .i64 n.ch.at_),.lit (.int .i64 n.ch.kind),.lit (.int .i64 n.ch.sp.id),.lit (.int .i64 n.ch.sp.ver),dZ n.ch.sp.tx]])=[dNt n]:=rfl
 generalize hPS:r.ps.set i (lrnL r.ps[i] n)=PS at *
 have hPL:PS.length=r.ps.length:=by rw [← hPS,List.length_set]
 generalize hL:r.ps[i]=L at *
 subst h0
 simp
 refine⟨⟨rfl,Nat.le_refl _⟩,by omega,rfl,?_⟩
 have hY:[dNt n]=(lrnL [] n).map dNt:=by rw [eL];rfl
 rw [hel1,hY,hW]
 refine leave_fn (TR1 Tryz.prog a36) (dcall_of_vcR1 c36) ?_
 simp [TR1_eq,a36]
 rw [dRm,frz_agg]
 refine⟨?_,by simp⟩
 rw [frzL_cons,frzL_cons,frzL_cons,frzL_nil,frz_d,frz_d]
 exact⟨frz_rows (ag:=true) rfl dPe_z dPe_one (by first | (simp;done) | (simp [hPL];done)),LeD.refl _,LeD.refl _,trivial⟩
theorem sDlv6(r:Rm) (m:Mv) (hR:okRm r=true) (m1:m.kind=3) (e:atE r.net m.at_=0) (qab:¬ (dlvP r.net m.at_).a=(dlvP r.net m.at_).b) (n:Nt) (hn:readB (dlvP r.net m.at_).p=some n) (q2:okNt n=true) (i:Nat) (hi:(dlvP r.net m.at_).b=i) (p3:i<r.ps.length) (hfd:¬ r.ps[i][posN r.ps[i] n]?=some n) (h4:¬ r.ps[i].length=4096) (h0:¬ r.ps[i]=[]):PCall Tryz.prog 12 [dRm r,dMv m] (.ret (.tup [dRm (((⟨r.ps.set i (lrnL r.ps[i] n),lseN r.net m.at_⟩,0):Rm×Int)).1,dI (((⟨r.ps.set i (lrnL r.ps[i] n),lseN r.net m.at_⟩,0):Rm×Int)).2])):=by
 have hC:=C544.chk r
 refine pcall_of_vcZ h544 c12 (by simp [a12]) 4 fun hr=>?_
 simp [a12]
 refine vc_path [.ret (dI (rmE r))] ?_
 rw [rmE_0 hR] at hC ⊢
 have hR':=okRm_iff.1 hR
 simp
 refine⟨hC,?_⟩
 obtain⟨p0,pr,hps⟩:∃ p0 pr,r.ps=p0::pr:=by
  cases h:r.ps with
  | nil=>rw [h] at hR';simp at hR'
  | cons a b=>exact⟨a,b,rfl⟩
 have hcl:some (1,List.map dPe r.ps)=some (1,dPe p0::List.map dPe pr):=by rw [hps];rfl
 have hfold:dPe p0::List.map dPe pr=List.map dPe r.ps:=by rw [hps];rfl
 have hlen:pr.length+1=r.ps.length:=by rw [hps];rfl
 have h24:(r.ps.length*24≤140737488355328)=True:=eq_true (by omega)
 have hwl:(wr (List.map dPe r.ps)).length=r.ps.length:=by rw [wr_pe,List.length_map]
 have e1:(m.kind == 1)=false:=by simp [m1]
 have e2:(m.kind == 2)=false:=by simp [m1]
 have e3:(m.kind == 3)=true:=by simp [m1]
 simp [m1,e1,e2,e3]
 refine regS_path [] ?_
 simp
 rw [hcl]
 simp
 rw [hfold,hlen]
 simp only [h24,true_and]
 refine regS_path [] ?_
 simp
 refine icall_T (TF Tryz.prog a33) (hcall_of_vc c33) ?_
 simp [a33]
 have hD:=C544.dlv r.net m.at_
 refine vc_pathD [.ret (.tup [dPc (dlvP r.net m.at_),dNw (lseN r.net m.at_),dI (atE r.net m.at_)])] ?_
 simp
 refine⟨hD,rfl,?_⟩
 rw [e]
 refine vc_path [.ret (.tup [])] ?_
 simp [qab]
 refine⟨.need_t 0,?_⟩
 obtain⟨k1,k2⟩:=dlv_ok hR qab
 obtain⟨k3,k4,k5⟩:=okPc_len k1
 have hB:=C544.rd (dlvP r.net m.at_).p k3
 rw [sRdN_eq hn,hn] at hB
 refine vc_path [.ret (.tup [dNt n,dB true])] ?_
 simp
 refine⟨hB,?_⟩
 refine regS_path [] ?_
 simp
 rw [hi]
 refine icall_T (TF Tryz.prog a70) (hcall_of_vc c70) ?_
 have hwg:(wr (List.map dPe r.ps))[i]?=some (.d (.sl 7 (r.ps[i].map dNt))):=by rw [wr_pe];simp [p3]
 simp [a70,p3]
 have hpe:=okPe_iff.1 (hR'.2.2.2.1 _ (List.getElem_mem p3))
 have hS:=C544.search r.ps[i] n hpe.1 q2 (by omega)
 have hpl:=(posN_spec (okNs_pw hpe.1) n).1
 refine vc_pathD [.ret (.tup [dI (posN r.ps[i] n),dB (decide (r.ps[i][posN r.ps[i] n]?=some n))])] ?_
 have hfl:(D.flat (r.ps.map dPe)).length=r.ps.length*1:=by rw [flat_len (sz:=1) (by simp)];simp
 simp [hfd] at hS
 simp [hwg,hfd]
 refine⟨by omega,hS,rfl,?_⟩
 have h4i:decide ((r.ps[i].length:Int)<4096)=true:=decide_eq_true (by omega)
 refine vc_path [.ret (.tup [])] ?_
 simp [hwg,h4i]
 refine⟨by omega,.need_t 2,by omega,?_⟩
 have hW:=wr_pe_set r.ps i (lrnL r.ps[i] n)
 have eL:lrnL r.ps[i] n=r.ps[i].take (posN r.ps[i] n)++n::r.ps[i].drop (posN r.ps[i] n):=by unfold lrnL;rw [if_neg hfd,if_neg h4]
 have hbl:r.ps[i].length<4096:=by omega
 have hel1:elsD 7 1 (D.flat [.agg [.lit (.int .i64 n.lang),.lit (.int .i64 n.seq),.lit (.int .i64 n.ch.at_),.lit (.int .i64 n.ch.kind),.lit (.int .i64 n.ch.sp.id),.lit (.int .i64 n.ch.sp.ver),dZ n.ch.sp.tx]])=[dNt n]:=rfl
 generalize hPS:r.ps.set i (lrnL r.ps[i] n)=PS at *
 have hPL:PS.length=r.ps.length:=by rw [← hPS,List.length_set]
 generalize hL:r.ps[i]=L at *
 obtain⟨a,b,rfl⟩:∃ a b,L=a::b:=by cases L with
  | nil=>exact absurd rfl h0
  | cons a b=>exact⟨a,b,rfl⟩
 have hfa:(D.flat (dNt a::b.map dNt)).length=(b.length+1)*7:=flat_nts (a::b)
 have hela:elsD 7 (b.length+1) (D.flat (dNt a::b.map dNt))=(a::b).map dNt:=elsD_nts (a::b)
 have hY:List.take (posN (a::b) n) ((a::b).map dNt)++([dNt n]++List.drop (posN (a::b) n) ((a::b).map dNt))=(lrnL (a::b) n).map dNt:=by
  rw [eL,List.map_append,List.map_take,List.map_cons (f:=dNt) (a:=n),List.map_drop,List.singleton_append]
 have hpl2:posN (a::b) n≤b.length+1:=hpl
 have hbl2:b.length+1<4096:=hbl
 have hi1:i+1≤(D.flat (List.map dPe r.ps)).length:=by rw [hfl];omega
 clear hbl hpl h4i h4 hfd eL
 have g2:(b.length+1)*7≤(D.flat (dNt a::b.map dNt)).length:=Nat.le_of_eq hfa.symm
 clear hfa
 have hb:(b.length+1)*64≤140737488355328:=lem_a hbl2
 have g1:((posN (a::b) n:Nat):Int)≤(b.length:Int)+1:=lem_b hpl2
 have g3:(b.length+1+1)*64≤140737488355328:=lem_c hbl2
 have g4:b.length≤9223372036854775805:=lem_d hbl2
 simp [hb]
 refine⟨⟨g1,⟨g2,Nat.le_refl _⟩,g3,g4⟩,hi1,rfl,?_⟩
 rw [hela,hel1,hY,hW]
 refine leave_fn (TR1 Tryz.prog a36) (dcall_of_vcR1 c36) ?_
 simp [TR1_eq,a36]
 rw [dRm,frz_agg]
 refine⟨?_,by simp⟩
 rw [frzL_cons,frzL_cons,frzL_cons,frzL_nil,frz_d,frz_d]
 exact⟨frz_rows (ag:=true) rfl dPe_z dPe_one (by first | (simp;done) | (simp [hPL];done)),LeD.refl _,LeD.refl _,trivial⟩
theorem sBad(r:Rm) (m:Mv) (hR:¬ okRm r=true):PCall Tryz.prog 12 [dRm r,dMv m] (.ret (.tup [dRm zRm,dI 530])):=by
 have hC:=C544.chk r
 refine pcall_of_vcZ h544 c12 (by simp [a12]) 4 fun hr=>?_
 simp [a12]
 refine vc_path [.ret (dI (rmE r))] ?_
 rw [rmE_530 hR] at hC ⊢
 simp
 exact⟨hC,leZRm⟩
def smR (r:Rm):Prop:=r.net.q.length≤2000∧∀ l∈r.ps,l.length≤1000
theorem sDo(r:Rm) (m:Mv) (hs:smR r):PCall Tryz.prog 12 [dRm r,dMv m] (.ret (.tup [dRm (mvR r m).1,dI (mvR r m).2])):=by
 by_cases hR:okRm r=true
 case neg =>
  have e:mvR r m=(zRm,530):=by unfold mvR;rw [if_pos (by simpa using hR)]
  rw [e]
  exact sBad r m hR
 rw [mvR_eq r m hR]
 obtain⟨g1,g2,g3,g4,g5⟩:=okRm_iff.1 hR
 by_cases m1:m.kind=1
 ·rw [if_pos m1]
  unfold tellX
  cases q1:inR r m.peer with
  | false=>exact sTell1 r m hR m1 q1
  | true =>
   cases q2:okNt m.note with
   | false=>exact sTell2 r m hR m1 q1 q2
   | true =>
    obtain⟨p1,p2⟩:=inR_iff.1 q1
    obtain⟨i,hi⟩:∃ i:Nat,m.peer=i:=⟨m.peer.toNat,by omega⟩
    have p3:i<r.ps.length:=by omega
    have hq:r.net.q.length≤4000:=by have:=hs.1;omega
    rw [if_neg (by simp),if_neg (by simp),hi,Int.toNat_natCast,tellR_eq p3]
    by_cases hfd:r.ps[i][posN r.ps[i] m.note]?=some m.note
    ·have e:lrnE r.ps[i] m.note=0:=by unfold lrnE;rw [if_pos hfd]
     have eL:lrnL r.ps[i] m.note=r.ps[i]:=by unfold lrnL;rw [if_pos hfd]
     rw [if_pos e,eL,List.set_getElem_self]
     exact sTell3 r m hR hq m1 q1 q2 i hi p3 hfd
    ·by_cases h4:r.ps[i].length=4096
     ·have e:lrnE r.ps[i] m.note=2:=by unfold lrnE;rw [if_neg hfd,if_pos h4]
      rw [e]
      exact sTell4 r m hR hq m1 q1 q2 i hi p3 hfd h4
     ·have e:lrnE r.ps[i] m.note=0:=by unfold lrnE;rw [if_neg hfd,if_neg h4]
      rw [if_pos e]
      by_cases h0:r.ps[i]=[]
      ·exact sTell5 r m hR hq m1 q1 q2 i hi p3 hfd h4 h0
      ·exact sTell6 r m hR hq m1 q1 q2 i hi p3 hfd h4 h0
 rw [if_neg m1]
 by_cases m2:m.kind=2
 ·rw [if_pos m2]
  unfold syncX
  cases q0:inR r m.peer with
  | false=>exact sSync1 r m hR m2 q0
  | true =>
   cases q1:inR r m.to with
   | false=>exact sSync2 r m hR m2 q0 q1
   | true =>
    by_cases qe:m.peer=m.to
    ·rw [if_pos (.inr qe)]
     exact sSync3 r m hR m2 q0 q1 qe
    ·obtain⟨p1,p2⟩:=inR_iff.1 q0
     obtain⟨p3,p4⟩:=inR_iff.1 q1
     obtain⟨i,hi⟩:∃ i:Nat,m.peer=i:=⟨m.peer.toNat,by omega⟩
     obtain⟨k,hk⟩:∃ i:Nat,m.to=i:=⟨m.to.toNat,by omega⟩
     have p5:i<r.ps.length:=by omega
     have p6:k<r.ps.length:=by omega
     have hq:r.net.q.length+r.ps[i].length≤4000:=by
      have:=hs.1;have:=hs.2 _ (List.getElem_mem p5);omega
     rw [if_neg (by rintro(h | h);cases h;exact qe h),hi,hk,Int.toNat_natCast,Int.toNat_natCast,syncR_eq p5]
     exact sSync4 r m hR m2 q0 q1 qe i k hi hk p5 p6 hq
 rw [if_neg m2]
 by_cases m3:m.kind=3
 ·rw [if_pos m3]
  unfold dlvR
  by_cases e:atE r.net m.at_=0
  case neg =>
   rw [if_pos e]
   exact sDlv1 r m hR m3 e
  rw [if_neg (fun h=>h e)]
  simp only
  by_cases qab:(dlvP r.net m.at_).a=(dlvP r.net m.at_).b
  ·rw [if_pos qab]
   exact sDlv2 r m hR m3 e qab
  ·rw [if_neg qab]
   obtain⟨k1,k2⟩:=dlv_ok hR qab
   obtain⟨k3,k4,k5⟩:=okPc_len k1
   obtain⟨k6,k7,k8⟩:=okPq_iff.1 k2
   obtain⟨n,hn⟩:=Option.isSome_iff_exists.1 k6
   have q2:=readB_ok hn
   obtain⟨i,hi⟩:∃ i:Nat,(dlvP r.net m.at_).b=i:=⟨(dlvP r.net m.at_).b.toNat,by omega⟩
   have p3:i<r.ps.length:=by omega
   rw [hn,hi,Int.toNat_natCast,List.getElem?_eq_getElem p3]
   simp only
   by_cases hfd:r.ps[i][posN r.ps[i] n]?=some n
   ·have e1:lrnE r.ps[i] n=0:=by unfold lrnE;rw [if_pos hfd]
    have eL:lrnL r.ps[i] n=r.ps[i]:=by unfold lrnL;rw [if_pos hfd]
    rw [if_neg (fun h=>h e1),eL,List.set_getElem_self]
    exact sDlv3 r m hR m3 e qab n hn q2 i hi p3 hfd
   ·by_cases h4:r.ps[i].length=4096
    ·have e1:lrnE r.ps[i] n=2:=by unfold lrnE;rw [if_neg hfd,if_pos h4]
     rw [e1]
     exact sDlv4 r m hR m3 e qab n hn q2 i hi p3 hfd h4
    ·have e1:lrnE r.ps[i] n=0:=by unfold lrnE;rw [if_neg hfd,if_neg h4]
     rw [if_neg (fun h=>h e1)]
     by_cases h0:r.ps[i]=[]
     ·exact sDlv5 r m hR m3 e qab n hn q2 i hi p3 hfd h4 h0
     ·exact sDlv6 r m hR m3 e qab n hn q2 i hi p3 hfd h4 h0
 rw [if_neg m3]
 by_cases m4:m.kind=4
 ·rw [if_pos m4]
  exact sLose r m hR m4
 rw [if_neg m4]
 by_cases m5:m.kind=5
 ·rw [if_pos m5]
  exact sRepeat r m hR m5
 rw [if_neg m5]
 exact sNone r m hR m1 m2 m3 m4 m5
end

section
attribute [local simp] dZ_agg dZ_nt dZ_noTup dZ_cells dZ_one bz_toList bz_size strV dSp_cells dSp_isAgg dSp_noTup dSp_nt dCh_cells dCh_isAgg dCh_noTup dCh_nt dNt_cells dNt_isAgg dNt_noTup dNt_nt dPe_cells dPe_isAgg dPe_noTup dPe_nt dRm_cells dRm_isAgg dRm_noTup dRm_nt dPc_cells dPc_agg dPc_noTup dNw_cells dNw_agg dNw_noTup dMv_cells dMv_isAgg dMv_noTup dMv_nt
set_option maxRecDepth 8000
set_option maxHeartbeats 4000000
inductive C558:FuncId→List D→Out→Prop
 | new1:C558 43 [] (.ret (dNw ⟨[],[]⟩))
 | new2:C558 44 [] (.ret (dNw ⟨[],[]⟩))
theorem h558:∀ f ds out,C558 f ds out→PCall Tryz.prog f ds out:=by
 intro f ds out h
 cases h with
 | new1=>exact nwNew1
 | new2=>exact nwNew2
theorem all2New:∀ k:Nat,All2 LeD (D.flat (List.replicate k (.agg [.nil 7]))) (D.flat ((List.replicate k ([]:List Nt)).map dPe))
 | 0=>.nil
 | k+1=>.cons (LeD.nil' 7 7) (all2New k)
theorem leNewPs(k:Nat):LeD (.sl 1 (List.replicate k (.agg [.nil 7]))) (.sl 1 ((List.replicate k ([]:List Nt)).map dPe)):=LeD_slx (all2New k) (by simp) dPe_z dPe_one
theorem sNew(n:Int):PCall Tryz.prog 14 [dI n] (.ret (.tup [dRm (newR n).1,dI (newR n).2])):=by
 refine pcall_of_vcZ h558 c14 (by simp [a14]) 4 fun hr=>?_
 simp [a14]
 refine vc_path [] ?_
 unfold newR
 by_cases q1:n<1
 ·rw [if_pos (.inl q1)]
  simp [q1]
  exact leZRm
 ·by_cases q2:24<n
  ·rw [if_pos (.inr q2)]
   simp [q1,q2]
   exact leZRm
  ·rw [if_neg (by omega)]
   simp [q1,q2]
   refine vc_pathD [.ret (dNw ⟨[],[]⟩)] ?_
   simp
   refine⟨⟨by omega,by omega,by omega,by omega⟩,.new1,rfl,?_⟩
   rw [dRm,frz_agg]
   refine⟨?_,by simp⟩
   rw [frzL_cons,frzL_cons,frzL_cons,frzL_nil,frz_d,frz_d,frz_own]
   exact⟨leNewPs _,LeD.refl _,LeD.refl _,trivial⟩
theorem rNewS(n:Int):PCall Tryz.prog 15 [dI n] (.ret (.tup [dRm (newR n).1,dI (newR n).2])):=by
 refine pcall_of_vcZ h558 c15 (by simp [a15]) 4 fun hr=>?_
 simp [a15]
 refine vc_path [] ?_
 unfold newR
 by_cases q1:n<1
 ·rw [if_pos (.inl q1)]
  simp [q1]
  exact leZRm
 ·by_cases q2:24<n
  ·rw [if_pos (.inr q2)]
   simp [q1,q2]
   exact leZRm
  ·rw [if_neg (by omega)]
   simp [q1,q2]
   refine vc_pathD [.ret (dNw ⟨[],[]⟩)] ?_
   simp
   refine⟨⟨by omega,by omega,by omega,by omega⟩,.new2,rfl,?_⟩
   rw [dRm,frz_agg]
   refine⟨?_,by simp⟩
   rw [frzL_cons,frzL_cons,frzL_cons,frzL_nil,frz_d,frz_d,frz_own]
   exact⟨leNewPs _,LeD.refl _,LeD.refl _,trivial⟩
theorem rSameN(x y:List Nt):PCall Tryz.prog 24 [.sl 7 (x.map dNt),.sl 7 (y.map dNt)] (.ret (dB (decide (x=y)))):=by
 refine pcall_of_vc noC c24 (by simp [a24]) fun hr=>?_
 have hlen:=(hr (.sl 7 (x.map dNt)) (by simp)).sl.1
 simp at hlen
 simp [a24]
 have hno:¬ x=y→LeD (dB false) (dB (decide (x=y))):=fun h=>leD_of_eq (by simp [h])
 refine⟨fun h=>hno (fun e=>h (by rw [e])),fun h=>?_⟩
 refine vc_loopK [0,1] Nat (fun i=>[(5,true,.d (dI i))]) (fun _=>[]) (fun i=>i≤x.length∧∀ j,(h:j<i)→(h2:j<x.length)→(h3:j<y.length)→x[j]=y[j]) (fun i=>x.length-i) 0 (by simp) ⟨[],[],?_⟩ (fun i hi=>?_)
 ·simp
 obtain⟨g1,g2⟩:=hi
 simp
 refine⟨fun hlt=>?_,fun hge=>?_⟩
 ·have hlt2:i<y.length:=by omega
  have heq:eqB [.lit (.int .i64 x[i].lang),.lit (.int .i64 x[i].seq),.lit (.int .i64 x[i].ch.at_),.lit (.int .i64 x[i].ch.kind),.lit (.int .i64 x[i].ch.sp.id),.lit (.int .i64 x[i].ch.sp.ver),dZ x[i].ch.sp.tx] [.lit (.int .i64 y[i].lang),.lit (.int .i64 y[i].seq),.lit (.int .i64 y[i].ch.at_),.lit (.int .i64 y[i].ch.kind),.lit (.int .i64 y[i].ch.sp.id),.lit (.int .i64 y[i].ch.sp.ver),dZ y[i].ch.sp.tx]=decide (x[i]=y[i]):=eqB_nt x[i] y[i]
  have hec:eqC [.int .i64,.int .i64,.int .i64,.int .i64,.int .i64,.int .i64,.str] [.lit (.int .i64 x[i].lang),.lit (.int .i64 x[i].seq),.lit (.int .i64 x[i].ch.at_),.lit (.int .i64 x[i].ch.kind),.lit (.int .i64 x[i].ch.sp.id),.lit (.int .i64 x[i].ch.sp.ver),dZ x[i].ch.sp.tx] [.lit (.int .i64 y[i].lang),.lit (.int .i64 y[i].seq),.lit (.int .i64 y[i].ch.at_),.lit (.int .i64 y[i].ch.kind),.lit (.int .i64 y[i].ch.sp.id),.lit (.int .i64 y[i].ch.sp.ver),dZ y[i].ch.sp.tx]=True:=by simp [eqC,dZ]
  simp [hlt,hlt2,heq,hec,dNt]
  refine⟨rfl,fun h=>hno (fun e=>by subst e;exact h rfl),fun h=>⟨i+1,⟨by omega,fun j hj q1 q2=>?_⟩,by omega,[],[],?_⟩⟩
  ·by_cases e:j=i
   ·subst e;exact h
   ·exact g2 j (by omega) q1 q2
  ·rw [wrap64 (by omega)];simp
 ·have:x=y:=List.ext_getElem (by omega) (fun j q1 q2=>g2 j (by omega) q1 q2)
  exact leD_of_eq (by simp [this])
inductive C559:FuncId→List D→Out→Prop
 | net (x y:Nw):C559 50 [dNw x,dNw y] (.ret (dB (decide (x=y))))
 | notes (x y:List Nt):C559 24 [.sl 7 (x.map dNt),.sl 7 (y.map dNt)] (.ret (dB (decide (x=y))))
theorem h559:∀ f ds out,C559 f ds out→PCall Tryz.prog f ds out:=by
 intro f ds out h
 cases h with
 | net x y=>exact nwSame x y
 | notes x y=>exact rSameN x y
theorem rSameR(x y:Rm):PCall Tryz.prog 18 [dRm x,dRm y] (.ret (dB (decide (x=y)))):=by
 refine pcall_of_vc h559 c18 (by simp [a18]) fun hr=>?_
 have hlen:=((hr (dRm x) (by simp)).agg (.sl 1 (x.ps.map dPe)) (by simp [dRm])).2.sl.1
 simp at hlen
 have hN:=C559.net x.net y.net
 simp [a18]
 refine vc_path [.ret (dB (decide (x.net=y.net)))] ?_
 have hno:¬ x=y→LeD (dB false) (dB (decide (x=y))):=fun h=>leD_of_eq (by simp [h])
 by_cases q1:x.ps.length=y.ps.length
 ·by_cases q2:x.net=y.net
  ·simp [q2] at hN
   simp [q1,q2]
   refine⟨hN,?_⟩
   refine vc_loopK [2,3] Nat (fun i=>[(5,true,.d (dI i))]) (fun _=>[]) (fun i=>i≤x.ps.length∧∀ j,(h:j<i)→(h2:j<x.ps.length)→(h3:j<y.ps.length)→x.ps[j]=y.ps[j]) (fun i=>x.ps.length-i) 0 (by simp) ⟨[],[],?_⟩ (fun i hi=>?_)
   ·simp
   obtain⟨g1,g2⟩:=hi
   simp
   refine⟨fun hlt=>?_,fun hge=>?_⟩
   ·have hlt2:i<y.ps.length:=by omega
    have hS:=C559.notes x.ps[i] y.ps[i]
    refine vc_pathD [.ret (dB (decide (x.ps[i]=y.ps[i])))] ?_
    by_cases e:x.ps[i]=y.ps[i]
    ·simp [e] at hS
     simp [hlt,hlt2,e,dPe]
     refine⟨hS,rfl,i+1,⟨by omega,fun j hj a1 a2=>?_⟩,by omega,[],[],?_⟩
     ·by_cases ej:j=i
      ·subst ej;exact e
      ·exact g2 j (by omega) a1 a2
     ·rw [wrap64 (by omega)];simp
    ·simp [e] at hS
     simp [hlt,hlt2,e,dPe]
     exact⟨hS,rfl,hno (fun h=>by subst h;exact e rfl)⟩
   ·have hp:x.ps=y.ps:=List.ext_getElem q1 (fun j a1 a2=>g2 j (by omega) a1 a2)
    have:x=y:=by cases x;cases y;simp only at hp q2;subst hp;subst q2;rfl
    exact leD_of_eq (by simp [this])
  ·simp [q2] at hN
   simp [q1,q2]
   exact⟨hN,hno (fun h=>q2 (by rw [h]))⟩
 ·have q1':¬ (x.ps.length:Int)=(y.ps.length:Int):=by omega
  simp [q1']
  exact hno (fun h=>q1 (by rw [h]))
def fewNw (w:Nw):Bool:=decide ((w.q.length:Int)≤40)&&decide ((w.c.length:Int)≤40)
def fewR (r:Rm):Bool:=(!(decide (5<r.ps.length)&&decide (r.ps.length≤24)))&&(fewNw r.net&&(((r.ps.take 30).all fun l=>decide (l.length≤30))&&r.net.q.all fun p=>decide (p.p.length≤1000)))
theorem sDoF(r:Rm) (m:Mv) (hf:fewR r=true):PCall Tryz.prog 12 [dRm r,dMv m] (.ret (.tup [dRm (mvR r m).1,dI (mvR r m).2])):=by
 by_cases hR:okRm r=true
 case neg =>
  have e:mvR r m=(zRm,530):=by unfold mvR;rw [if_pos (by simpa using hR)]
  rw [e]
  exact sBad r m hR
 refine sDo r m ?_
 have h24:=(okRm_iff.1 hR).2.1
 unfold fewR fewNw at hf
 simp only [Bool.and_eq_true,decide_eq_true_eq,List.all_eq_true] at hf
 obtain⟨_,⟨h1,_⟩,h2,_⟩:=hf
 rw [List.take_of_length_le (by omega)] at h2
 exact⟨by omega,fun l hl=>by have:=h2 l hl;omega⟩
inductive C560:FuncId→List D→Out→Prop
 | few (w:Nw):C560 30 [dNw w] (.ret (dB (fewNw w)))
theorem h560:∀ f ds out,C560 f ds out→PCall Tryz.prog f ds out:=by
 intro f ds out h
 cases h with
 | few w=>exact nwFew w
theorem rFew(r:Rm):PCall Tryz.prog 11 [dRm r] (.ret (dB (fewR r))):=by
 refine pcall_of_vc h560 c11 (by simp [a11]) fun hr=>?_
 have hlen:=((hr (dRm r) (by simp)).agg (.sl 1 (r.ps.map dPe)) (by simp [dRm])).2.sl.1
 have hlen2:=((hr (dRm r) (by simp)).agg (.sl 3 (r.net.q.map dPc)) (by simp [dRm])).2.sl.1
 simp at hlen hlen2
 have hF:=C560.few r.net
 simp [a11]
 refine vc_path [.ret (dB (fewNw r.net))] ?_
 have hfin:∀ b:Bool,fewR r=b→LeD (dB b) (dB (fewR r)):=fun b h=>leD_of_eq (by rw [h])
 have key:((decide (5<r.ps.length)&&decide (r.ps.length≤24))=true∨fewNw r.net=false)→fewR r=false:=fun h=>by
  unfold fewR
  rcases h with h | h
  ·rw [h];rfl
  ·rw [h];simp
 have hbad1:∀ k,(h:k<r.ps.length)→k<30→30<r.ps[k].length→fewR r=false:=fun k h h30 hb=>by
  unfold fewR
  have:((r.ps.take 30).all fun l=>decide (l.length≤30))=false:=by
   rw [Bool.eq_false_iff]
   intro hh
   have:=List.all_eq_true.1 hh r.ps[k] (List.mem_iff_getElem.2 ⟨k,by rw [List.length_take];omega,by rw [List.getElem_take]⟩)
   simp at this;omega
  rw [this];simp
 have hbad2:∀ k,(h:k<r.net.q.length)→1000<r.net.q[k].p.length→fewR r=false:=fun k h hb=>by
  unfold fewR
  have:(r.net.q.all fun p=>decide (p.p.length≤1000))=false:=by
   rw [Bool.eq_false_iff]
   intro hh
   have:=List.all_eq_true.1 hh _ (List.getElem_mem h)
   simp at this;omega
  rw [this];simp
 have hgood0:(!(decide (5<r.ps.length)&&decide (r.ps.length≤24)))=true→fewNw r.net=true→(∀ j,(h:j<30)→(h2:j<r.ps.length)→r.ps[j].length≤30)→(∀ j,(h2:j<r.net.q.length)→r.net.q[j].p.length≤1000)→fewR r=true:=fun a1 a2 a3 a4=>by
  unfold fewR
  rw [a1,a2]
  simp only [Bool.true_and,Bool.and_eq_true,List.all_eq_true,decide_eq_true_eq]
  refine⟨fun l hl=>?_,fun p hp=>?_⟩
  ·obtain⟨j,hj,rfl⟩:=List.mem_iff_getElem.1 hl
   rw [List.length_take] at hj
   rw [List.getElem_take]
   exact a3 j (by omega) (by omega)
  ·obtain⟨j,hj,rfl⟩:=List.mem_iff_getElem.1 hp
   exact a4 j hj
 by_cases q1:5<r.ps.length∧r.ps.length≤24
 ·have q1':(5:Int)<(r.ps.length:Int):=by omega
  have q2':(r.ps.length:Int)≤24:=by omega
  simp [q1',q2']
  exact hfin _ (key (.inl (by simp [q1.1,q1.2])))
 have hn:(!(decide (5<r.ps.length)&&decide (r.ps.length≤24)))=true:=by
  rw [Bool.not_eq_true',Bool.eq_false_iff];simp only [ne_eq,Bool.and_eq_true,decide_eq_true_eq];exact q1
 cases q3:fewNw r.net with
 | false =>
  rw [q3] at hF
  have hk:=hfin _ (key (.inr q3))
  by_cases q4:5<r.ps.length
  ·have q1':(5:Int)<(r.ps.length:Int):=by omega
   have q2':¬ (r.ps.length:Int)≤24:=by omega
   simp [q1',q2']
   exact⟨hF,hk⟩
  ·have q1':¬ (5:Int)<(r.ps.length:Int):=by omega
   simp [q1']
   exact⟨hF,hk⟩
 | true =>
  rw [q3] at hF
  have hgood:=hgood0 hn q3
  clear hgood0 key hn
  by_cases q4:5<r.ps.length
  ·have q1':(5:Int)<(r.ps.length:Int):=by omega
   have q2':¬ (r.ps.length:Int)≤24:=by omega
   simp [q1',q2']
   refine⟨hF,?_⟩
   refine vc_loopK [1] Nat (fun y=>[(3,true,.d (dI y))]) (fun y=>[]) (fun y=>y≤r.ps.length∧y≤30∧∀ j,(h:j<y)→(h2:j<r.ps.length)→r.ps[j].length≤30) (fun y=>r.ps.length-y) 0 (by simp) ⟨[],[],?_⟩ (fun k hk=>?_)
   ·simp
   obtain⟨k1,k2,k3⟩:=hk
   simp
   refine vc_path [] ?_
   by_cases hlt:k<r.ps.length
   ·by_cases h30:k<30
    ·have h30':(k:Int)<30:=by omega
     simp [hlt,h30',dPe]
     refine⟨fun hb=>hfin _ (hbad1 k hlt h30 (by omega)),fun hb=>⟨k+1,⟨by omega,by omega,fun j hj a2=>?_⟩,by omega,[],[],?_⟩⟩
     ·by_cases ej:j=k
      ·subst ej;omega
      ·exact k3 j (by omega) a2
     ·rw [wrap64 (by omega)];simp
    ·have h30':¬ (k:Int)<30:=by omega
     have hall:∀ j,(h:j<30)→(h2:j<r.ps.length)→r.ps[j].length≤30:=fun j a1 a2=>k3 j (by omega) a2
     simp [hlt,h30']
     refine vc_loopK [1] Nat (fun y=>[(4,true,.d (dI y))]) (fun y=>[]) (fun y=>y≤r.net.q.length∧∀ j,(h:j<y)→(h2:j<r.net.q.length)→r.net.q[j].p.length≤1000) (fun y=>r.net.q.length-y) 0 (by simp) ⟨[],[],?_⟩ (fun t ht=>?_)
     ·simp
     obtain⟨t1,t2⟩:=ht
     simp
     refine⟨fun tlt=>?_,fun tge=>?_⟩
     ·simp [tlt,dPc]
      refine⟨fun hb=>hfin _ (hbad2 t tlt (by omega)),fun hb=>⟨t+1,⟨by omega,fun j hj a2=>?_⟩,by omega,[],[],?_⟩⟩
      ·by_cases ej:j=t
       ·subst ej;omega
       ·exact t2 j (by omega) a2
      ·rw [wrap64 (by omega)];simp
     ·exact hfin _ (hgood hall fun j a2=>t2 j (by omega) a2)
   ·have hlt':¬ (k:Int)<(r.ps.length:Int):=by omega
    have hall:∀ j,(h:j<30)→(h2:j<r.ps.length)→r.ps[j].length≤30:=fun j a1 a2=>k3 j (by omega) a2
    simp [hlt,hlt']
    refine vc_loopK [1] Nat (fun y=>[(4,true,.d (dI y))]) (fun y=>[]) (fun y=>y≤r.net.q.length∧∀ j,(h:j<y)→(h2:j<r.net.q.length)→r.net.q[j].p.length≤1000) (fun y=>r.net.q.length-y) 0 (by simp) ⟨[],[],?_⟩ (fun t ht=>?_)
    ·simp
    obtain⟨t1,t2⟩:=ht
    simp
    refine⟨fun tlt=>?_,fun tge=>?_⟩
    ·simp [tlt,dPc]
     refine⟨fun hb=>hfin _ (hbad2 t tlt (by omega)),fun hb=>⟨t+1,⟨by omega,fun j hj a2=>?_⟩,by omega,[],[],?_⟩⟩
     ·by_cases ej:j=t
      ·subst ej;omega
      ·exact t2 j (by omega) a2
     ·rw [wrap64 (by omega)];simp
    ·exact hfin _ (hgood hall fun j a2=>t2 j (by omega) a2)
  ·have q1':¬ (5:Int)<(r.ps.length:Int):=by omega
   simp [q1']
   refine⟨hF,?_⟩
   refine vc_loopK [1] Nat (fun y=>[(3,true,.d (dI y))]) (fun y=>[]) (fun y=>y≤r.ps.length∧y≤30∧∀ j,(h:j<y)→(h2:j<r.ps.length)→r.ps[j].length≤30) (fun y=>r.ps.length-y) 0 (by simp) ⟨[],[],?_⟩ (fun k hk=>?_)
   ·simp
   obtain⟨k1,k2,k3⟩:=hk
   simp
   refine vc_path [] ?_
   by_cases hlt:k<r.ps.length
   ·by_cases h30:k<30
    ·have h30':(k:Int)<30:=by omega
     simp [hlt,h30',dPe]
     refine⟨fun hb=>hfin _ (hbad1 k hlt h30 (by omega)),fun hb=>⟨k+1,⟨by omega,by omega,fun j hj a2=>?_⟩,by omega,[],[],?_⟩⟩
     ·by_cases ej:j=k
      ·subst ej;omega
      ·exact k3 j (by omega) a2
     ·rw [wrap64 (by omega)];simp
    ·have h30':¬ (k:Int)<30:=by omega
     have hall:∀ j,(h:j<30)→(h2:j<r.ps.length)→r.ps[j].length≤30:=fun j a1 a2=>k3 j (by omega) a2
     simp [hlt,h30']
     refine vc_loopK [1] Nat (fun y=>[(4,true,.d (dI y))]) (fun y=>[]) (fun y=>y≤r.net.q.length∧∀ j,(h:j<y)→(h2:j<r.net.q.length)→r.net.q[j].p.length≤1000) (fun y=>r.net.q.length-y) 0 (by simp) ⟨[],[],?_⟩ (fun t ht=>?_)
     ·simp
     obtain⟨t1,t2⟩:=ht
     simp
     refine⟨fun tlt=>?_,fun tge=>?_⟩
     ·simp [tlt,dPc]
      refine⟨fun hb=>hfin _ (hbad2 t tlt (by omega)),fun hb=>⟨t+1,⟨by omega,fun j hj a2=>?_⟩,by omega,[],[],?_⟩⟩
      ·by_cases ej:j=t
       ·subst ej;omega
       ·exact t2 j (by omega) a2
      ·rw [wrap64 (by omega)];simp
     ·exact hfin _ (hgood hall fun j a2=>t2 j (by omega) a2)
   ·have hlt':¬ (k:Int)<(r.ps.length:Int):=by omega
    have hall:∀ j,(h:j<30)→(h2:j<r.ps.length)→r.ps[j].length≤30:=fun j a1 a2=>k3 j (by omega) a2
    simp [hlt,hlt']
    refine vc_loopK [1] Nat (fun y=>[(4,true,.d (dI y))]) (fun y=>[]) (fun y=>y≤r.net.q.length∧∀ j,(h:j<y)→(h2:j<r.net.q.length)→r.net.q[j].p.length≤1000) (fun y=>r.net.q.length-y) 0 (by simp) ⟨[],[],?_⟩ (fun t ht=>?_)
    ·simp
    obtain⟨t1,t2⟩:=ht
    simp
    refine⟨fun tlt=>?_,fun tge=>?_⟩
    ·simp [tlt,dPc]
     refine⟨fun hb=>hfin _ (hbad2 t tlt (by omega)),fun hb=>⟨t+1,⟨by omega,fun j hj a2=>?_⟩,by omega,[],[],?_⟩⟩
     ·by_cases ej:j=t
      ·subst ej;omega
      ·exact t2 j (by omega) a2
     ·rw [wrap64 (by omega)];simp
    ·exact hfin _ (hgood hall fun j a2=>t2 j (by omega) a2)
def zCh:Ch:=⟨0,0,⟨0,0,[],by omega,by omega⟩,by omega,by omega⟩
def isN (lang seq:Int) (x:Nt):Bool:=decide (x.lang=lang∧x.seq=seq)
theorem findN_eq(l:List Nt) (lang seq:Int):findN l lang seq=(l.find? (isN lang seq)).map (·.ch):=rfl
theorem rFindS(l:List Nt) (lang seq:Int):PCall Tryz.prog 52 [.sl 7 (l.map dNt),dI lang,dI seq] (.ret (.tup [dCh ((findN l lang seq).getD zCh),dB (findN l lang seq).isSome])):=by
 refine pcall_of_vc (C:=fun _ _ _=>False) (by rintro _ _ _ ⟨⟩) c52 (by simp [a52]) fun hr=>?_
 have hlen:=(hr (.sl 7 (l.map dNt)) (by simp)).sl.1
 simp at hlen
 simp [a52]
 refine vc_loopK [0,1,2,6] Nat (fun y=>[(8,true,.d (dI y))]) (fun y=>[]) (fun y=>y≤l.length∧l.find? (isN lang seq)=(l.drop y).find? (isN lang seq)) (fun y=>l.length-y) 0 (by simp) ⟨[],[],?_⟩ (fun k hk=>?_)
 ·simp
 obtain⟨h1,h2⟩:=hk
 simp
 refine⟨fun hlt=>?_,fun hge=>?_⟩
 ·rw [List.drop_eq_getElem_cons hlt,List.find?_cons] at h2
  simp [hlt,dNt]
  refine vc_path [] ?_
  cases hq:isN lang seq l[k] with
  | true =>
   rw [hq] at h2
   obtain⟨a1,a2⟩:l[k].lang=lang∧l[k].seq=seq:=of_decide_eq_true hq
   have e:findN l lang seq=some l[k].ch:=by rw [findN_eq,h2];rfl
   rw [e]
   simp [a1,a2,hlt]
   exact leD_of_eq rfl
  | false =>
   rw [hq] at h2
   have hne:¬ (l[k].lang=lang∧l[k].seq=seq):=of_decide_eq_false hq
   by_cases a1:l[k].lang=lang
   ·have a2:¬ l[k].seq=seq:=fun h=>hne ⟨a1,h⟩
    simp [a1,a2,hlt]
    refine⟨k+1,⟨by omega,h2⟩,by omega,[],[],?_⟩
    rw [wrap64 (by omega)];simp
   ·simp [a1,hlt]
    refine⟨k+1,⟨by omega,h2⟩,by omega,[],[],?_⟩
    rw [wrap64 (by omega)];simp
 ·have:k=l.length:=by omega
  subst this
  rw [List.drop_length] at h2
  have e:findN l lang seq=none:=by rw [findN_eq,h2];rfl
  rw [e]
  exact⟨leD_of_eq rfl,leD_of_eq rfl⟩
theorem pig:∀ (n:Nat) (l:List Nt),(∀ j:Nat,j<n→∃ x∈l,x.seq=(j:Int))→n≤l.length
 | 0,l,_=>Nat.zero_le _
 | n+1,l,h=>by
  obtain⟨x,hx,hs⟩:=h n (by omega)
  have h1:=pig n (l.erase x) (fun j hj=>by
   obtain⟨y,hy,hys⟩:=h j (by omega)
   have hne:y≠x:=fun e=>by subst e;omega
   exact⟨y,(List.mem_erase_of_ne hne).2 hy,hys⟩)
  rw [List.length_erase_of_mem hx] at h1
  have:0<l.length:=List.length_pos_of_mem hx
  omega
theorem findN_mem{l:List Nt}{lang seq:Int}(h:(findN l lang seq).isSome=true):∃ x∈l,x.seq=seq:=by
 rw [findN_eq] at h
 cases hx:l.find? (isN lang seq) with
 | none=>rw [hx] at h;cases h
 | some x =>
  have h1:=List.mem_of_find?_eq_some hx
  have h2:=List.find?_some hx
  exact⟨x,h1,(of_decide_eq_true h2).2⟩
theorem seen_len{l:List Nt}{lang:Int}{k:Nat}(h:∀ j:Nat,j<k→(findN l lang j).isSome=true):k≤l.length:=pig k l fun j hj=>findN_mem (h j hj)
inductive C561:FuncId→List D→Out→Prop
 | find (l:List Nt) (lang seq:Int):C561 52 [.sl 7 (l.map dNt),dI lang,dI seq] (.ret (.tup [dCh ((findN l lang seq).getD zCh),dB (findN l lang seq).isSome]))
 | valid (l:List Nt):C561 26 [dPe l] (.ret (dB (okPe l)))
 | dod (l:List Sp) (c:Ch):C561 53 [.sl 3 (l.map dSp),dCh c] (.ret (.tup [.sl 3 ((doDL l c).map dSp),dI (doDE l c)]))
theorem h561:∀ f ds out,C561 f ds out→PCall Tryz.prog f ds out:=by
 intro f ds out h
 cases h with
 | find l lang seq=>exact rFindS l lang seq
 | valid l=>exact rValid l
 | dod l c=>exact rDoD l c
theorem rSeen(l:List Nt) (lang:Int):PCall Tryz.prog 20 [dPe l,dI lang] (.ret (.tup [.sl 3 ((seenR l lang).1.map dSp),dI (seenR l lang).2,dI (seenE l lang)])):=by
 refine pcall_of_vc h561 c20 (by simp [a20]) fun hr=>?_
 have hV:=C561.valid l
 simp [a20]
 refine vc_path [.ret (dB (okPe l))] ?_
 cases q1:okPe l with
 | false =>
  rw [q1] at hV
  have e1:seenE l lang=530:=by unfold seenE;rw [if_pos q1]
  have e2:seenR l lang=([],0):=by unfold seenR;rw [e1];rfl
  rw [e1,e2]
  simp
  exact hV
 | true =>
  rw [q1] at hV
  simp
  refine⟨hV,?_⟩
  refine vc_path [] ?_
  by_cases q2:lang<0∨32≤lang
  ·have e1:seenE l lang=1:=by unfold seenE;rw [if_neg (by rw [q1];simp),if_pos q2]
   have e2:seenR l lang=([],0):=by unfold seenR;rw [e1];rfl
   rw [e1,e2]
   by_cases q3:lang<0
   ·simp [q3]
   ·have q4:32≤lang:=by omega
    simp [q3,q4]
  ·have q3:¬ lang<0:=fun h=>q2 (.inl h)
   have q4:¬ 32≤lang:=fun h=>q2 (.inr h)
   have e1:seenE l lang=0:=by unfold seenE;rw [if_neg (by rw [q1];simp),if_neg q2]
   have e2:seenR l lang=seenN l lang (l.length+1) [] 0:=by unfold seenR;rw [e1];rfl
   rw [e1,e2]
   simp [q3,q4]
   refine vc_path [.ret (.tup [dCh ((findN l lang 0).getD zCh),dB (findN l lang 0).isSome])] ?_
   simp
   refine⟨.find l lang 0,?_⟩
   have hlen:=((hr (dPe l) (by simp)).agg (.sl 7 (l.map dNt)) (by simp [dPe])).2.sl.1
   simp at hlen
   have h4096:l.length≤4096:=by unfold okPe at q1;simp only [Bool.and_eq_true,decide_eq_true_eq] at q1;exact q1.2
   generalize hO:seenN l lang (l.length+1) [] 0=OUT
   refine vc_loopK [1,2,9] (Nat×List Sp) (fun y=>[(7,true,.d (.sl 3 (y.2.map dSp))),(8,true,.d (dI y.1)),(10,true,.d (dB (findN l lang y.1).isSome))]) (fun y=>[(2,.box true ((dCh ((findN l lang y.1).getD zCh)).cells.map .d))]) (fun y=>(∀ j:Nat,j<y.1→(findN l lang j).isSome=true)∧seenN l lang (l.length+1-y.1) y.2 y.1=OUT) (fun y=>l.length-y.1) (0,[]) ⟨fun j hj=>absurd hj (Nat.not_lt_zero _),hO⟩ ⟨[],[],?_⟩ (fun y hy=>?_)
   ·simp
   obtain⟨k,x⟩:=y
   obtain⟨k1,k2⟩:=hy
   simp only at k1 k2
   have k3:=seen_len k1
   simp
   cases hf:findN l lang k with
   | none =>
    rw [show l.length+1-k=(l.length-k)+1 by omega,seenN,hf] at k2
    simp
    rw [← k2]
    exact⟨LeD.refl _,LeD.refl _⟩
   | some c =>
    have k4:k+1≤l.length:=seen_len (k:=k+1) fun j hj=>by
     by_cases e:j=k
     ·subst e;rw [hf];rfl
     ·exact k1 j (by omega)
    rw [show l.length+1-k=(l.length-k)+1 by omega,seenN,hf] at k2
    simp only at k2
    have hD:=C561.dod x c
    have hw:IntKind.i64.wrap ((k:Int)+1)=(k:Int)+1:=wrap64 (by omega)
    have hFd:=C561.find l lang ((k:Int)+1)
    have k5:∀ j:Nat,j<k+1→(findN l lang j).isSome=true:=fun j hj=>by
     by_cases e:j=k
     ·subst e;rw [hf];rfl
     ·exact k1 j (by omega)
    simp
    refine vc_path [.ret (.tup [.sl 3 ((doDL x c).map dSp),dI (doDE x c)])] ?_
    simp
    refine⟨hD,?_⟩
    by_cases hd:doDE x c=0
    ·rw [if_pos hd] at k2
     simp [hd,hw]
     refine vc_path [.ret (.tup [dCh ((findN l lang ((k:Int)+1)).getD zCh),dB (findN l lang ((k:Int)+1)).isSome])] ?_
     simp
     refine⟨hFd,k+1,doDL x c,⟨k5,by rw [show l.length+1-(k+1)=l.length-k by omega];exact k2⟩,by omega,[],[],?_⟩
     simp
    ·rw [if_neg hd] at k2
     simp [hd,hw]
     refine vc_path [.ret (.tup [dCh ((findN l lang ((k:Int)+1)).getD zCh),dB (findN l lang ((k:Int)+1)).isSome])] ?_
     simp
     refine⟨hFd,k+1,x,⟨k5,by rw [show l.length+1-(k+1)=l.length-k by omega];exact k2⟩,by omega,[],[],?_⟩
     simp
abbrev mE (e:Int×Ch):Value×AV:=(.int .i64 e.1,.d (dCh e.2))
theorem kFind_m(s:Int):∀ es:List (Int×Ch),kFind (.int .i64 s) (es.map mE)=some ((es.find? fun e=>e.1 == s).map fun e=>AV.d (dCh e.2))
 | []=>rfl
 | e::r=>by
  rw [List.map_cons,kFind_cons,kFind_m s r,List.find?_cons,kSame_int]
  by_cases h:e.1=s
  ·simp [h]
  ·have hb:(s == e.1)=false:=by simp;exact fun x=>h x.symm
   have hb2:(e.1 == s)=false:=by simp [h]
   rw [hb,hb2,if_pos rfl]
theorem leL_mE(ρ:Nat→Nat) (N:Nat→Option Nat) (ok:Nat→Bool) (k:Nat) (M:List (Int×Ch)):leA.leL ρ N ok k (List.map ((fun x=>x.snd)∘mE) M) (List.map ((fun x=>x.snd)∘mE) M):=by
 have e:List.map ((fun x=>x.snd)∘mE) M=(M.map fun e=>dCh e.2).map AV.d:=by simp [mE,Function.comp_def]
 rw [e];exact leL_map ρ N ok k _
theorem leL_mE2(ρ:Nat→Nat) (N:Nat→Option Nat) (ok:Nat→Bool) (k:Nat) (M:List (Int×Ch)) (c:Ch):leA.leL ρ N ok k (List.map ((fun x=>x.snd)∘mE) M++[AV.d (dCh c)]) (List.map ((fun x=>x.snd)∘mE) M++[AV.d (dCh c)]):=by
 have e:List.map ((fun x=>x.snd)∘mE) M++[AV.d (dCh c)]=((M.map fun e=>dCh e.2)++[dCh c]).map AV.d:=by simp [mE,Function.comp_def]
 rw [e];exact leL_map ρ N ok k _
theorem findN_snoc{l:List Nt}{lang s:Int}{i:Nat}(h:i<l.length):findN (l.take (i+1)) lang s=(findN (l.take i) lang s).or (if isN lang s l[i] then some l[i].ch else none):=by
 rw [findN_eq,findN_eq,List.take_succ_eq_append_getElem h,List.find?_append]
 cases (l.take i).find? (isN lang s) with
 | some x=>rfl
 | none =>
  rw [Option.none_or,Option.map_none,Option.none_or,List.find?_singleton]
  split <;> rfl
theorem sChanges(l:List Nt) (lang:Int):PCall Tryz.prog 51 [dPe l,dI lang] (.ret (.fn (.func 97) [] [.ip (dPe l),.ip (dI lang)])):=by
 refine pcall_of_vcZ (C:=fun _ _ _=>False) (by rintro _ _ _ ⟨⟩) c51 (by simp [a51]) 4 fun hr=>?_
 simp [a51]
inductive C562:FuncId→List D→Out→Prop
 | chg (l:List Nt) (lang:Int):C562 51 [dPe l,dI lang] (.ret (.fn (.func 97) [] [.ip (dPe l),.ip (dI lang)]))
 | valid (l:List Nt):C562 46 [dPe l] (.ret (dB (okPe l)))
 | dod (l:List Sp) (c:Ch):C562 27 [.sl 3 (l.map dSp),dCh c] (.ret (.tup [.sl 3 ((doDL l c).map dSp),dI (doDE l c)]))
theorem h562:∀ f ds out,C562 f ds out→PCall Tryz.prog f ds out:=by
 intro f ds out h
 cases h with
 | chg l lang=>exact sChanges l lang
 | valid l=>exact sValid l
 | dod l c=>exact dDo l c
theorem sSeen(l:List Nt) (lang:Int):PCall Tryz.prog 19 [dPe l,dI lang] (.ret (.tup [.sl 3 ((seenR l lang).1.map dSp),dI (seenR l lang).2,dI (seenE l lang)])):=by
 refine pcall_of_vc h562 c19 (by simp [a19]) fun hr=>?_
 have hV:=C562.valid l
 simp [a19]
 refine vc_path [.ret (dB (okPe l))] ?_
 cases q1:okPe l with
 | false =>
  rw [q1] at hV
  have e1:seenE l lang=530:=by unfold seenE;rw [if_pos q1]
  have e2:seenR l lang=([],0):=by unfold seenR;rw [e1];rfl
  rw [e1,e2]
  simp
  exact hV
 | true =>
  rw [q1] at hV
  simp
  refine⟨hV,?_⟩
  refine vc_path [] ?_
  by_cases q2:lang<0∨32≤lang
  ·have e1:seenE l lang=1:=by unfold seenE;rw [if_neg (by rw [q1];simp),if_pos q2]
   have e2:seenR l lang=([],0):=by unfold seenR;rw [e1];rfl
   rw [e1,e2]
   by_cases q3:lang<0
   ·simp [q3]
   ·have q4:32≤lang:=by omega
    simp [q3,q4]
  ·have q3:¬ lang<0:=fun h=>q2 (.inl h)
   have q4:¬ 32≤lang:=fun h=>q2 (.inr h)
   have e1:seenE l lang=0:=by unfold seenE;rw [if_neg (by rw [q1];simp),if_neg q2]
   have e2:seenR l lang=seenN l lang (l.length+1) [] 0:=by unfold seenR;rw [e1];rfl
   rw [e1,e2]
   simp [q3,q4]
   refine vc_path [.ret (.fn (.func 97) [] [.ip (dPe l),.ip (dI lang)])] ?_
   simp
   refine⟨.chg l lang,?_⟩
   refine vc_range (TF Tryz.prog a97) (hcall_of_vc c97) rfl (by rfl) (fun yl=>by rfl) (fun yl=>?_)
   have hlen:=((hr (dPe l) (by simp)).agg (.sl 7 (l.map dNt)) (by simp [dPe])).2.sl.1
   simp at hlen
   have h4096:l.length≤4096:=by unfold okPe at q1;simp only [Bool.and_eq_true,decide_eq_true_eq] at q1;exact q1.2
   generalize hO:seenN l lang (l.length+1) [] 0=OUT
   simp [a97,dPe]
   refine vc_loopK [0,2,4,14,15] (Nat×List (Int×Ch)) (fun y=>[(16,true,.d (dI y.1))]) (fun y=>[(5,.mapo (y.2.map mE))]) (fun y=>y.1≤l.length∧∀ s,(y.2.find? (fun e=>e.1 == s)).map (·.2)=findN (l.take y.1) lang s) (fun y=>l.length-y.1) (0,[]) ⟨Nat.zero_le _,fun s=>rfl⟩ ⟨[],[],?_⟩ (fun y hy=>?_)
   ·simp
    intro x hx;omega
   obtain⟨i,M⟩:=y
   obtain⟨i1,i2⟩:=hy
   simp only at i1 i2
   simp
   refine⟨fun hlt=>?_,fun hge=>?_⟩
   ·have hi2:=i2 l[i].seq
    cases hm:M.find? (fun e=>e.1 == l[i].seq) with
    | some e =>
     rw [hm] at hi2
     have hnx:∀ s,(M.find? (fun e=>e.1 == s)).map (·.2)=findN (l.take (i+1)) lang s:=fun s=>by
      rw [findN_snoc hlt,← i2 s]
      by_cases hs:isN lang s l[i]=true
      ·obtain⟨a1,a2⟩:l[i].lang=lang∧l[i].seq=s:=of_decide_eq_true hs
       rw [← a2,hm];rfl
      ·rw [if_neg hs];simp
     simp [hlt,dNt,kFind_m,hm]
     refine vc_path [] ?_
     by_cases a1:l[i].lang=lang
     ·simp [a1]
      refine⟨i+1,M,⟨by omega,hnx⟩,by omega,[],[],?_⟩
      rw [wrap64 (by omega)];simp
      exact⟨leL_mE _ _ _ _ _,fun x _=>by omega⟩
     ·simp [a1]
      refine⟨i+1,M,⟨by omega,hnx⟩,by omega,[],[],?_⟩
      rw [wrap64 (by omega)];simp
      exact⟨leL_mE _ _ _ _ _,fun x _=>by omega⟩
    | none =>
     rw [hm] at hi2
     simp [hlt,dNt,kFind_m,hm]
     refine vc_path [] ?_
     by_cases a1:l[i].lang=lang
     ·have hnx:∀ s,((M++[(l[i].seq,l[i].ch)]).find? (fun e=>e.1 == s)).map (·.2)=findN (l.take (i+1)) lang s:=fun s=>by
       rw [findN_snoc hlt,← i2 s,List.find?_append]
       cases hms:M.find? (fun e=>e.1 == s) with
       | some e=>rfl
       | none =>
        rw [Option.none_or,Option.map_none,Option.none_or,List.find?_singleton]
        unfold isN
        by_cases a2:l[i].seq=s
        ·simp [a1,a2]
        ·simp [a1,a2]
      simp [a1,hm,kFind_m]
      refine⟨i+1,M++[(l[i].seq,l[i].ch)],⟨by omega,hnx⟩,by omega,[],[],?_⟩
      rw [wrap64 (by omega)];simp
      exact⟨leL_mE2 _ _ _ _ _ _,fun x _=>by omega⟩
     ·have hnx:∀ s,(M.find? (fun e=>e.1 == s)).map (·.2)=findN (l.take (i+1)) lang s:=fun s=>by
       rw [findN_snoc hlt,← i2 s]
       have:¬ isN lang s l[i]=true:=fun h=>a1 (of_decide_eq_true h).1
       rw [if_neg this];simp
      simp [a1,hm]
      refine⟨i+1,M,⟨by omega,hnx⟩,by omega,[],[],?_⟩
      rw [wrap64 (by omega)];simp
      exact⟨leL_mE _ _ _ _ _,fun x _=>by omega⟩
   ·have hi:i=l.length:=by omega
    subst hi
    rw [List.take_length] at i2
    refine vc_loopK [0,4] (Nat×List Sp) (fun y=>[(9,true,.d (dI y.1))]) (fun y=>[(1,.box false [.d (.sl 3 (y.2.map dSp))]),(2,.box false [.d (dI y.1)])]) (fun y=>(∀ j:Nat,j<y.1→(findN l lang j).isSome=true)∧seenN l lang (l.length+1-y.1) y.2 y.1=OUT) (fun y=>l.length-y.1) (0,[]) ⟨fun j hj=>absurd hj (Nat.not_lt_zero _),hO⟩ ⟨[],[],?_⟩ (fun y hy=>?_)
    ·simp
     exact⟨leL_mE _ _ _ _ _,fun x _=>by omega⟩
    obtain⟨k,x⟩:=y
    obtain⟨k1,k2⟩:=hy
    simp only at k1 k2
    have k3:=seen_len k1
    have i3:=i2 (k:Int)
    cases hm:M.find? (fun e=>e.1 == (k:Int)) with
    | none =>
     rw [hm] at i3
     have hf:findN l lang k=none:=i3.symm
     rw [show l.length+1-k=(l.length-k)+1 by omega,seenN,hf] at k2
     simp [kFind_m,hm]
     refine regS_path [] ?_
     simp
     rw [← k2]
     exact⟨rfl,LeD.refl _,LeD.refl _⟩
    | some e =>
     rw [hm] at i3
     have hf:findN l lang k=some e.2:=i3.symm
     have k4:k+1≤l.length:=seen_len (k:=k+1) fun j hj=>by
      by_cases e:j=k
      ·subst e;rw [hf];rfl
      ·exact k1 j (by omega)
     rw [show l.length+1-k=(l.length-k)+1 by omega,seenN,hf] at k2
     simp only at k2
     simp [kFind_m,hm]
     refine regS_path [] ?_
     have hD:=C562.dod x e.2
     simp
     refine vc_path [.ret (.tup [.sl 3 ((doDL x e.2).map dSp),dI (doDE x e.2)])] ?_
     simp
     have k5:∀ j:Nat,j<k+1→(findN l lang j).isSome=true:=fun j hj=>by
      by_cases e:j=k
      ·subst e;rw [hf];rfl
      ·exact k1 j (by omega)
     have k6:l.length+1-(k+1)=l.length-k:=by omega
     refine⟨hD,fun hd=>?_,fun hd=>?_⟩
     ·rw [if_pos hd] at k2
      refine⟨k+1,doDL x e.2,⟨k5,by rw [k6];exact k2⟩,by omega,[],[],?_⟩
      rw [wrap64 (by omega)];simp
      exact⟨leL_mE _ _ _ _ _,fun x _=>by omega⟩
     ·rw [if_neg hd] at k2
      refine⟨k+1,x,⟨k5,by rw [k6];exact k2⟩,by omega,[],[],?_⟩
      rw [wrap64 (by omega)];simp
      exact⟨leL_mE _ _ _ _ _,fun x _=>by omega⟩
def putN (lang seq id:Int) (tx:List UInt8) (h1:-9223372036854775808≤lang∧lang<9223372036854775808) (h2:-9223372036854775808≤seq∧seq<9223372036854775808) (h3:-9223372036854775808≤id∧id<9223372036854775808):Nt:=⟨lang,seq,⟨7,1,⟨id,0,tx,h3,by omega⟩,by omega,by omega⟩,h1,h2⟩
theorem lPut(lang seq id:Int) (tx:List UInt8) (h1:-9223372036854775808≤lang∧lang<9223372036854775808) (h2:-9223372036854775808≤seq∧seq<9223372036854775808) (h3:-9223372036854775808≤id∧id<9223372036854775808):PCall Tryz.prog 28 [dI lang,dI seq,dI id,dZ tx] (.ret (dNt (putN lang seq id tx h1 h2 h3))):=by
 refine pcall_of_vc (C:=fun _ _ _=>False) (by rintro _ _ _ ⟨⟩) c28 (by simp [a28]) fun hr=>?_
 simp [a28]
 exact leD_of_eq rfl
def nA:Nt:=putN 3 0 5 [97] (by omega) (by omega) (by omega)
def nB2:Nt:=putN 3 2 6 [98] (by omega) (by omega) (by omega)
def nB1:Nt:=putN 3 1 5 [98] (by omega) (by omega) (by omega)
def nZ:Nt:=⟨0,0,⟨0,0,⟨0,0,[],by omega,by omega⟩,by omega,by omega⟩,by omega,by omega⟩
def rm0:Rm:=⟨[[],[]],⟨[],[]⟩⟩
def rm1:Rm:=⟨[[],[nA]],⟨[⟨1,0,msgB nA⟩],[]⟩⟩
def rm2:Rm:=⟨[[nA],[nA]],⟨[],[]⟩⟩
def mTell:Mv:=⟨1,1,0,0,nA,by omega⟩
def mBad:Mv:=⟨1,0,0,0,nZ,by omega⟩
def mDlv:Mv:=⟨3,0,0,0,nZ,by omega⟩
theorem val_new2:newR 2=(rm0,0):=by decide +kernel
theorem val_new0:newR 0=(zRm,1):=by decide +kernel
theorem val_tell:mvR rm0 mTell=(rm1,0):=by decide +kernel
theorem val_bad:mvR rm0 mBad=(zRm,530):=by decide +kernel
theorem val_no:mvR rm0 mDlv=(zRm,1):=by decide +kernel
theorem val_dlv:mvR rm1 mDlv=(rm2,0):=by decide +kernel
theorem val_ck0:rmE zRm=530:=by decide +kernel
theorem val_ck2:rmE rm2=0:=by decide +kernel
def spA:Sp:=⟨5,0,[97],by omega,by omega⟩
theorem val_s1:seenR [nA] 3=([spA],1)∧seenE [nA] 3=0:=by decide +kernel
theorem val_s2:seenR [nA] 2=([],0)∧seenE [nA] 2=0:=by decide +kernel
theorem val_s3:seenR [nA] 32=([],0)∧seenE [nA] 32=1:=by decide +kernel
theorem val_s4:seenR [nA,nB2] 3=([spA],1)∧seenE [nA,nB2] 3=0:=by decide +kernel
theorem val_s5:seenR [nA,nB1] 3=([spA],2)∧seenE [nA,nB1] 3=0:=by decide +kernel
theorem val_s6:seenR [nB2,nA] 3=([],0)∧seenE [nB2,nA] 3=530:=by decide +kernel
theorem sm0:smR rm0:=⟨by decide,by decide⟩
theorem sm1:smR rm1:=⟨by decide,by decide⟩
end

section
attribute [local simp] dZ_agg dZ_nt dZ_noTup dZ_cells dZ_one bz_toList bz_size strV dSp_cells dSp_isAgg dSp_noTup dSp_nt dCh_cells dCh_isAgg dCh_noTup dCh_nt dNt_cells dNt_isAgg dNt_noTup dNt_nt dPe_cells dPe_isAgg dPe_noTup dPe_nt dRm_cells dRm_isAgg dRm_noTup dRm_nt dPc_cells dPc_agg dPc_noTup dNw_cells dNw_agg dNw_noTup dMv_cells dMv_isAgg dMv_noTup dMv_nt
set_option maxRecDepth 8000
set_option maxHeartbeats 40000000
inductive C564:FuncId→List D→Out→Prop
 | new2:C564 14 [dI 2] (.ret (.tup [dRm rm0,dI 0]))
 | new0:C564 14 [dI 0] (.ret (.tup [dRm zRm,dI 1]))
 | tell:C564 12 [dRm rm0,dMv mTell] (.ret (.tup [dRm rm1,dI 0]))
 | bad:C564 12 [dRm rm0,dMv mBad] (.ret (.tup [dRm zRm,dI 530]))
 | no:C564 12 [dRm rm0,dMv mDlv] (.ret (.tup [dRm zRm,dI 1]))
 | dlv:C564 12 [dRm rm1,dMv mDlv] (.ret (.tup [dRm rm2,dI 0]))
 | putA:C564 28 [dI 3,dI 0,dI 5,dZ [97]] (.ret (dNt nA))
 | putB2:C564 28 [dI 3,dI 2,dI 6,dZ [98]] (.ret (dNt nB2))
 | putB1:C564 28 [dI 3,dI 1,dI 5,dZ [98]] (.ret (dNt nB1))
 | notes (x y:List Nt):C564 24 [.sl 7 (x.map dNt),.sl 7 (y.map dNt)] (.ret (dB (decide (x=y))))
 | msg:C564 29 [dNt nA] (.ret (.sl 1 ((msgB nA).map dU)))
 | chkZ:C564 16 [.agg [.nil 1,.nil 3,.nil 2]] (.ret (dI 530))
 | chk2:C564 16 [dRm rm2] (.ret (dI 0))
 | seen (l:List Nt) (lang:Int):C564 19 [dPe l,dI lang] (.ret (.tup [.sl 3 ((seenR l lang).1.map dSp),dI (seenR l lang).2,dI (seenE l lang)]))
 | same (x y:List Sp):C564 21 [.sl 3 (x.map dSp),.sl 3 (y.map dSp)] (.ret (dB (decide (x=y))))
theorem h564:∀ f ds out,C564 f ds out→PCall Tryz.prog f ds out:=by
 intro f ds out h
 cases h with
 | new2=>have:=sNew 2;rw [val_new2] at this;exact this
 | new0=>have:=sNew 0;rw [val_new0] at this;exact this
 | tell=>have:=sDo rm0 mTell sm0;rw [val_tell] at this;exact this
 | bad=>have:=sDo rm0 mBad sm0;rw [val_bad] at this;exact this
 | no=>have:=sDo rm0 mDlv sm0;rw [val_no] at this;exact this
 | dlv=>have:=sDo rm1 mDlv sm1;rw [val_dlv] at this;exact this
 | putA=>exact lPut 3 0 5 [97] _ _ _
 | putB2=>exact lPut 3 2 6 [98] _ _ _
 | putB1=>exact lPut 3 1 5 [98] _ _ _
 | notes x y=>exact rSameN x y
 | msg=>exact rMessage nA (by decide)
 | chkZ=>have:=sCheck zRm;rw [val_ck0] at this;exact this.le (.cons leZRm .nil)
 | chk2=>have:=sCheck rm2;rw [val_ck2] at this;exact this
 | seen l lang=>exact sSeen l lang
 | same x y=>exact rSame49 x y
theorem lSane:PCall Tryz.prog 10 [] (.ret (dB true)):=by
 refine pcall_of_vc h564 c10 (by simp [a10]) fun hr=>?_
 have k1:=C564.new2
 have k2:=C564.new0
 have k3:=C564.putA
 have k4:=C564.tell
 have k5:=C564.bad
 have k6:=C564.no
 have k7:=C564.dlv
 simp [a10]
 refine vc_path [.ret (.tup [dRm rm0,dI 0])] ?_
 simp
 refine⟨k1,?_⟩
 refine vc_path [.ret (.tup [dRm zRm,dI 1])] ?_
 simp
 refine⟨k2,?_⟩
 refine vc_pathD [.ret (dNt nA),.ret (.tup [dRm rm1,dI 0])] ?_
 simp
 refine⟨k3,k4,rfl,?_⟩
 refine vc_path [.ret (.tup [dRm zRm,dI 530])] ?_
 simp
 refine⟨k5,?_⟩
 refine vc_path [.ret (.tup [dRm zRm,dI 1])] ?_
 simp
 refine⟨k6,?_⟩
 refine vc_path [.ret (.tup [dRm rm2,dI 0])] ?_
 simp
 refine⟨k7,?_⟩
 refine vc_path [] ?_
 have z1:rm0.ps.length=2:=rfl
 have z2:rm1.ps.length=2:=rfl
 have z3:rm2.ps.length=2:=rfl
 simp [z1,z2,z3]
 refine vc_path [.ret (dNt nA)] ?_
 simp
 refine⟨k3,?_⟩
 have y1:rm1.ps=[[],[nA]]:=rfl
 have y2:rm1.net.q=[⟨1,0,msgB nA⟩]:=rfl
 have y3:rm2.ps=[[nA],[nA]]:=rfl
 have y4:rm2.net.q=[]:=rfl
 have k8:=C564.notes [nA] [nA]
 have k9:=C564.chkZ
 have k10:=C564.chk2
 simp at k8
 refine vc_pathD [.ret (.sl 1 ((msgB nA).map dU)),.ret (dB true)] ?_
 simp [y1,y2,dPc,dPe,bytesOf_map]
 refine⟨fun _ _=>rfl,.msg,fun _ _=>rfl,k8,rfl,?_⟩
 refine vc_path [.ret (dB true),.ret (dI 530),.ret (dI 0)] ?_
 simp [y3,y4,dPe]
 refine⟨k8,k9,k10,?_⟩
 have s1:=C564.seen [nA] 3
 have s2:=C564.seen [nA] 2
 have s3:=C564.seen [nA] 32
 have s4:=C564.seen [nA,nB2] 3
 have s5:=C564.seen [nA,nB1] 3
 have s6:=C564.seen [nB2,nA] 3
 rw [val_s1.1,val_s1.2] at s1
 rw [val_s2.1,val_s2.2] at s2
 rw [val_s3.1,val_s3.2] at s3
 rw [val_s4.1,val_s4.2] at s4
 rw [val_s5.1,val_s5.2] at s5
 rw [val_s6.1,val_s6.2] at s6
 simp at s1 s2 s3 s4 s5 s6
 refine vc_path [.ret (.tup [.sl 3 [dSp spA],dI 1,dI 0])] ?_
 simp [y3,dPe]
 refine⟨s1,?_⟩
 refine vc_path [.ret (.tup [.sl 3 [],dI 0,dI 0])] ?_
 simp [y3,dPe]
 refine⟨s2,?_⟩
 refine vc_path [.ret (.tup [.sl 3 [],dI 0,dI 1])] ?_
 simp [y3,dPe]
 refine⟨s3,?_⟩
 refine vc_path [.ret (dNt nA),.ret (dNt nB2),.ret (.tup [.sl 3 [dSp spA],dI 1,dI 0])] ?_
 simp
 refine⟨k3,.putB2,s4,?_⟩
 refine vc_path [.ret (dNt nA),.ret (dNt nB1),.ret (.tup [.sl 3 [dSp spA],dI 2,dI 0])] ?_
 simp
 refine⟨k3,.putB1,s5,?_⟩
 refine vc_path [.ret (dNt nB2),.ret (dNt nA),.ret (.tup [.sl 3 [],dI 0,dI 530])] ?_
 simp
 refine⟨.putB2,k3,s6,?_⟩
 refine vc_path [] ?_
 simp
 have q1:=C564.same [spA] [spA]
 simp at q1
 refine vc_path [.ret (dB true),.ret (dB true),.ret (dB true)] ?_
 simp
 exact q1
end

end Go.Proofs.YthimbimilnfdnaaGreatDoor
