/- Part of the proof: S562, S580, S581, S582, S583, S600, S601, S602, S603, S604, S605, S606, S610, S611, S612, S613, S615, S616, S617, S618, S619, S620, S621, S622, S623, S624. -/
import Derived.Test.YtmmlicjkdeankaaGreatDoorH
set_option linter.unnecessarySimpa false
set_option linter.unusedVariables false
set_option linter.unusedSimpArgs false
namespace Go.Proofs.YtmmlicjkdeankaaGreatDoor
open Go Go.Proofs.YtmmlicjkdeankaaGreatDoor.AL
section
attribute [local simp] dZ_agg dZ_nt dZ_noTup dZ_cells dZ_one bz_toList bz_size strV dSp_cells dSp_isAgg dSp_noTup dSp_nt dCh_cells dCh_isAgg dCh_noTup dCh_nt dNt_cells dNt_isAgg dNt_noTup dNt_nt dPe_cells dPe_isAgg dPe_noTup dPe_nt dRm_cells dRm_isAgg dRm_noTup dRm_nt dPc_cells dPc_agg dPc_noTup dNw_cells dNw_agg dNw_noTup dMv_cells dMv_isAgg dMv_noTup dMv_nt
set_option maxRecDepth 8000
set_option maxHeartbeats 4000000
abbrev mE (e:Int×Ch):Value×AV:=(.int .i64 e.1,.d (dCh e.2))
theorem kFind_m(s:Int):∀ es:List (Int×Ch),kFind (.int .i64 s) (es.map mE)=some ((es.find? fun e=>e.1 == s).map fun e=>AV.d (dCh e.2))
 | []=>rfl
 | e::r=>by
  rw [List.map_cons,kFind_cons,kFind_m s r,List.find?_cons,kSame_int]
  by_cases h:e.1=s
  ·simp [h]
  ·have hb:(s == e.1)=false:=by simp;exact fun x=>h x.symm
   have hb2:(e.1 == s)=false:=by simp [h]
   rw [hb,hb2,if_pos rfl]
theorem leL_mE(ρ:Nat->Nat) (N:Nat->Option Nat) (ok:Nat->Bool) (k:Nat) (M:List (Int×Ch)):leA.leL ρ N ok k (List.map ((fun x=>x.snd)∘mE) M) (List.map ((fun x=>x.snd)∘mE) M):=by
 have e:List.map ((fun x=>x.snd)∘mE) M=(M.map fun e=>dCh e.2).map AV.d:=by simp [mE,Function.comp_def]
 rw [e];exact leL_map ρ N ok k _
theorem leL_mE2(ρ:Nat->Nat) (N:Nat->Option Nat) (ok:Nat->Bool) (k:Nat) (M:List (Int×Ch)) (c:Ch):leA.leL ρ N ok k (List.map ((fun x=>x.snd)∘mE) M++[AV.d (dCh c)]) (List.map ((fun x=>x.snd)∘mE) M++[AV.d (dCh c)]):=by
 have e:List.map ((fun x=>x.snd)∘mE) M++[AV.d (dCh c)]=((M.map fun e=>dCh e.2)++[dCh c]).map AV.d:=by simp [mE,Function.comp_def]
 rw [e];exact leL_map ρ N ok k _
theorem findN_snoc{l:List Nt}{lang s:Int}{i:Nat}(h:i<l.length):findN (l.take (i+1)) lang s=(findN (l.take i) lang s).or (if isN lang s l[i] then some l[i].ch else none):=by
 rw [findN_eq,findN_eq,List.take_succ_eq_append_getElem h,List.find?_append]
 cases (l.take i).find? (isN lang s) with
 | some x=>rfl
 | none =>
  rw [Option.none_or,Option.map_none,Option.none_or,List.find?_singleton]
  split <;> rfl
theorem sChanges(l:List Nt) (lang:Int):PCall Tryz.prog 36 [dPe l,dI lang] (.ret (.fn (.func 80) [] [.ip (dPe l),.ip (dI lang)])):=by
 refine pcall_of_vcZ (C:=fun _ _ _=>False) (by rintro _ _ _ ⟨⟩) c36 (by simp [a36]) 4 fun hr=>?_
 simp [a36]
inductive C562:FuncId->List D->Out->Prop
 | chg (l:List Nt) (lang:Int):C562 36 [dPe l,dI lang] (.ret (.fn (.func 80) [] [.ip (dPe l),.ip (dI lang)]))
 | valid (l:List Nt):C562 19 [dPe l] (.ret (dB (okPe l)))
 | dod (l:List Sp) (c:Ch):C562 7 [.sl 3 (l.map dSp),dCh c] (.ret (.tup [.sl 3 ((doDL l c).map dSp),dI (doDE l c)]))
theorem h562:∀ f ds out,C562 f ds out->PCall Tryz.prog f ds out:=by
 intro f ds out h
 cases h with
 | chg l lang=>exact sChanges l lang
 | valid l=>exact sValid l
 | dod l c=>exact dDo l c
theorem sSeen(l:List Nt) (lang:Int):PCall Tryz.prog 9 [dPe l,dI lang] (.ret (.tup [.sl 3 ((seenR l lang).1.map dSp),dI (seenR l lang).2,dI (seenE l lang)])):=by
 refine pcall_of_vc h562 c9 (by simp [a9]) fun hr=>?_
 have hV:=C562.valid l
 simp [a9]
 refine vc_path [.ret (dB (okPe l))] ?_
 cases q1:okPe l with
 | false =>
  rw [q1] at hV
  have e1:seenE l lang=530:=by unfold seenE;rw [if_pos q1]
  have e2:seenR l lang=([],0):=by unfold seenR;rw [e1];rfl
  rw [e1,e2]
  simp
  exact hV
 | true =>
  rw [q1] at hV
  simp
  refine⟨hV,?_⟩
  refine vc_path [] ?_
  by_cases q2:lang<0∨32<=lang
  ·have e1:seenE l lang=1:=by unfold seenE;rw [if_neg (by rw [q1];simp),if_pos q2]
   have e2:seenR l lang=([],0):=by unfold seenR;rw [e1];rfl
   rw [e1,e2]
   by_cases q3:lang<0
   ·simp [q3]
   ·have q4:32<=lang:=by omega
    simp [q3,q4]
  ·have q3:¬ lang<0:=fun h=>q2 (.inl h)
   have q4:¬ 32<=lang:=fun h=>q2 (.inr h)
   have e1:seenE l lang=0:=by unfold seenE;rw [if_neg (by rw [q1];simp),if_neg q2]
   have e2:seenR l lang=seenN l lang (l.length+1) [] 0:=by unfold seenR;rw [e1];rfl
   rw [e1,e2]
   simp [q3,q4]
   refine vc_path [.ret (.fn (.func 80) [] [.ip (dPe l),.ip (dI lang)])] ?_
   simp
   refine⟨.chg l lang,?_⟩
   refine vc_range (TF Tryz.prog a80) (hcall_of_vc c80) rfl (by rfl) (fun yl=>by rfl) (fun yl=>?_)
   have hlen:=((hr (dPe l) (by simp)).agg (.sl 7 (l.map dNt)) (by simp [dPe])).2.sl.1
   simp at hlen
   have h4096:l.length<=4096:=by unfold okPe at q1;simp only [Bool.and_eq_true,decide_eq_true_eq] at q1;exact q1.2
   generalize hO:seenN l lang (l.length+1) [] 0=OUT
   simp [a80,dPe]
   refine vc_loopK [0,2,4,14,15] (Nat×List (Int×Ch)) (fun y=>[(16,true,.d (dI y.1))]) (fun y=>[(5,.mapo (y.2.map mE))]) (fun y=>y.1<=l.length∧∀ s,(y.2.find? (fun e=>e.1 == s)).map (·.2)=findN (l.take y.1) lang s) (fun y=>l.length-y.1) (0,[]) ⟨Nat.zero_le _,fun s=>rfl⟩ ⟨[],[],?_⟩ (fun y hy=>?_)
   ·simp
    intro x hx;omega
   obtain⟨i,M⟩:=y
   obtain⟨i1,i2⟩:=hy
   simp only at i1 i2
   simp
   refine⟨fun hlt=>?_,fun hge=>?_⟩
   ·have hi2:=i2 l[i].seq
    cases hm:M.find? (fun e=>e.1 == l[i].seq) with
    | some e =>
     rw [hm] at hi2
     have hnx:∀ s,(M.find? (fun e=>e.1 == s)).map (·.2)=findN (l.take (i+1)) lang s:=fun s=>by
      rw [findN_snoc hlt,<- i2 s]
      by_cases hs:isN lang s l[i]=true
      ·obtain⟨a1,a2⟩:l[i].lang=lang∧l[i].seq=s:=of_decide_eq_true hs
       rw [<- a2,hm];rfl
      ·rw [if_neg hs];simp
     simp [hlt,dNt,kFind_m,hm]
     refine vc_path [] ?_
     by_cases a1:l[i].lang=lang
     ·simp [a1]
      refine⟨i+1,M,⟨by omega,hnx⟩,by omega,[],[],?_⟩
      rw [wrap64 (by omega)];simp
      exact⟨leL_mE _ _ _ _ _,fun x _=>by omega⟩
     ·simp [a1]
      refine⟨i+1,M,⟨by omega,hnx⟩,by omega,[],[],?_⟩
      rw [wrap64 (by omega)];simp
      exact⟨leL_mE _ _ _ _ _,fun x _=>by omega⟩
    | none =>
     rw [hm] at hi2
     simp [hlt,dNt,kFind_m,hm]
     refine vc_path [] ?_
     by_cases a1:l[i].lang=lang
     ·have hnx:∀ s,((M++[(l[i].seq,l[i].ch)]).find? (fun e=>e.1 == s)).map (·.2)=findN (l.take (i+1)) lang s:=fun s=>by
       rw [findN_snoc hlt,<- i2 s,List.find?_append]
       cases hms:M.find? (fun e=>e.1 == s) with
       | some e=>rfl
       | none =>
        rw [Option.none_or,Option.map_none,Option.none_or,List.find?_singleton]
        unfold isN
        by_cases a2:l[i].seq=s
        ·simp [a1,a2]
        ·simp [a1,a2]
      simp [a1,hm,kFind_m]
      refine⟨i+1,M++[(l[i].seq,l[i].ch)],⟨by omega,hnx⟩,by omega,[],[],?_⟩
      rw [wrap64 (by omega)];simp
      exact⟨leL_mE2 _ _ _ _ _ _,fun x _=>by omega⟩
     ·have hnx:∀ s,(M.find? (fun e=>e.1 == s)).map (·.2)=findN (l.take (i+1)) lang s:=fun s=>by
       rw [findN_snoc hlt,<- i2 s]
       have:¬ isN lang s l[i]=true:=fun h=>a1 (of_decide_eq_true h).1
       rw [if_neg this];simp
      simp [a1,hm]
      refine⟨i+1,M,⟨by omega,hnx⟩,by omega,[],[],?_⟩
      rw [wrap64 (by omega)];simp
      exact⟨leL_mE _ _ _ _ _,fun x _=>by omega⟩
   ·have hi:i=l.length:=by omega
    subst hi
    rw [List.take_length] at i2
    refine vc_loopK [0,4] (Nat×List Sp) (fun y=>[(9,true,.d (dI y.1))]) (fun y=>[(1,.box false [.d (.sl 3 (y.2.map dSp))]),(2,.box false [.d (dI y.1)])]) (fun y=>(∀ j:Nat,j<y.1->(findN l lang j).isSome=true)∧seenN l lang (l.length+1-y.1) y.2 y.1=OUT) (fun y=>l.length-y.1) (0,[]) ⟨fun j hj=>absurd hj (Nat.not_lt_zero _),hO⟩ ⟨[],[],?_⟩ (fun y hy=>?_)
    ·simp
     exact⟨leL_mE _ _ _ _ _,fun x _=>by omega⟩
    obtain⟨k,x⟩:=y
    obtain⟨k1,k2⟩:=hy
    simp only at k1 k2
    have k3:=seen_len k1
    have i3:=i2 (k:Int)
    cases hm:M.find? (fun e=>e.1 == (k:Int)) with
    | none =>
     rw [hm] at i3
     have hf:findN l lang k=none:=i3.symm
     rw [show l.length+1-k=(l.length-k)+1 by omega,seenN,hf] at k2
     simp [kFind_m,hm]
     refine regS_path [] ?_
     simp
     rw [<- k2]
     exact⟨rfl,LeD.refl _,LeD.refl _⟩
    | some e =>
     rw [hm] at i3
     have hf:findN l lang k=some e.2:=i3.symm
     have k4:k+1<=l.length:=seen_len (k:=k+1) fun j hj=>by
      by_cases e:j=k
      ·subst e;rw [hf];rfl
      ·exact k1 j (by omega)
     rw [show l.length+1-k=(l.length-k)+1 by omega,seenN,hf] at k2
     simp only at k2
     simp [kFind_m,hm]
     refine regS_path [] ?_
     have hD:=C562.dod x e.2
     simp
     refine vc_path [.ret (.tup [.sl 3 ((doDL x e.2).map dSp),dI (doDE x e.2)])] ?_
     simp
     have k5:∀ j:Nat,j<k+1->(findN l lang j).isSome=true:=fun j hj=>by
      by_cases e:j=k
      ·subst e;rw [hf];rfl
      ·exact k1 j (by omega)
     have k6:l.length+1-(k+1)=l.length-k:=by omega
     refine⟨hD,fun hd=>?_,fun hd=>?_⟩
     ·rw [if_pos hd] at k2
      refine⟨k+1,doDL x e.2,⟨k5,by rw [k6];exact k2⟩,by omega,[],[],?_⟩
      rw [wrap64 (by omega)];simp
      exact⟨leL_mE _ _ _ _ _,fun x _=>by omega⟩
     ·rw [if_neg hd] at k2
      refine⟨k+1,x,⟨k5,by rw [k6];exact k2⟩,by omega,[],[],?_⟩
      rw [wrap64 (by omega)];simp
      exact⟨leL_mE _ _ _ _ _,fun x _=>by omega⟩
end

section
theorem nodup_le{α:Type} [DecidableEq α] (a:List α):∀ b:List α,a.Nodup->(∀ x∈a,x∈b)->a.length<=b.length:=by
 induction a with
 | nil=>intro b _ _;simp
 | cons x r ih =>
  intro b h1 h2
  rw [List.nodup_cons] at h1
  have hx:x∈b:=h2 x (by simp)
  have h3:=ih (b.erase x) h1.2 fun y hy=>(List.mem_erase_of_ne (fun e:y=x=>h1.1 (e ▸ hy))).2 (h2 y (by simp [hy]))
  rw [List.length_erase_of_mem hx] at h3
  have h4:0<b.length:=List.length_pos_of_mem hx
  simp only [List.length_cons];omega
theorem okNs_nodup{l:List Nt}(h:okNs none l=true):l.Nodup:=(okNs_pw h).imp fun {a b} hab e=>by
 subst e;rw [nLt,bLt_irr] at hab;cases hab
def GoodP (n:Nat) (told:List Nt) (p:Pc):Prop:=∃ (a b:Nat) (x:Nt),p=pcOf a b x∧a<n∧b<n∧a≠b∧x∈told∧okNt x=true
theorem GoodP.mono{n:Nat}{told told':List Nt}{p:Pc}(h:GoodP n told p) (ht:∀ x∈told,x∈told'):GoodP n told' p:=by
 obtain⟨a,b,x,h1,h2,h3,h4,h5,h6⟩:=h
 exact⟨a,b,x,h1,h2,h3,h4,ht x h5,h6⟩
structure InvR (n:Nat) (told:List Nt) (r:Rm):Prop where
 len:r.ps.length=n
 cut:r.net.c=[]
 pe:∀ l∈r.ps,okNs none l=true∧∀ x∈l,x∈told
 pk:∀ p∈r.net.q,GoodP n told p
theorem inv_len{n:Nat}{told:List Nt}{r:Rm}(h:InvR n told r):∀ l∈r.ps,l.length<=told.length:=fun l hl=>nodup_le l told (okNs_nodup (h.pe l hl).1) (h.pe l hl).2
theorem inv_ok{n:Nat}{told:List Nt}{r:Rm}(h:InvR n told r) (h1:1<=n) (h2:n<=24) (h3:told.length<=1000) (h4:r.net.q.length<=4096):okRm r=true:=by
 refine okRm_iff.2 ⟨by rw [h.len];exact h1,by rw [h.len];exact h2,?_,fun l hl=>okPe_iff.2 ⟨(h.pe l hl).1,by have:=inv_len h l hl;omega⟩,fun p hp=>?_⟩
 ·unfold okNw
  rw [h.cut]
  simp only [Bool.and_eq_true,decide_eq_true_eq,List.all_eq_true]
  refine⟨by omega,fun p hp=>?_,rfl⟩
  obtain⟨a,b,x,rfl,ha,hb,hab,hx,ho⟩:=h.pk p hp
  exact okPc_of ho (by omega) (by omega) (fun e=>hab e.symm)
 ·obtain⟨a,b,x,rfl,ha,hb,hab,hx,ho⟩:=h.pk p hp
  refine okPq_iff.2 ⟨?_,?_,?_⟩
  ·rw [show (pcOf a b x).p=msgB x from rfl,readB_msgB ho];rfl
  ·rw [h.len];exact Int.ofNat_lt.2 ha
  ·rw [h.len];exact Int.ofNat_lt.2 hb
theorem inv_sm{n:Nat}{told:List Nt}{r:Rm}(h:InvR n told r) (h3:told.length<=1000) (h4:r.net.q.length<=2000):smR r:=⟨h4,fun l hl=>by have:=inv_len h l hl;omega⟩
theorem sndAll_ok:∀ (L:List Pc) (w:Nw),okNw w=true->(∀ p∈L,okPc p=true)->w.q.length+L.length<=4096->sndAll w L=(⟨w.q++L,w.c⟩,0)
 | [],w,_,_,_=>by simp [sndAll]
 | p::L,w,h1,h2,h3=>by
  have hl:w.q.length<4096:=by simp at h3;omega
  have hp:=h2 p (by simp)
  obtain⟨e1,e2,e3⟩:=snd_ok h1 hp hl
  have e4:sndN w p=⟨w.q++[p],w.c⟩:=by unfold sndN;rw [if_pos ⟨h1,hp,by omega⟩]
  rw [sndAll_cons,if_pos e1,sndAll_ok L _ e2 (fun x hx=>h2 x (by simp [hx])) (by rw [e3];simp at h3;omega),e4]
  simp
theorem getD_ps{l:List (List Nt)}{i:Nat}(h:i<l.length):l.getD i []=l[i]:=by rw [List.getD_eq_getElem?_getD,List.getElem?_eq_getElem h];rfl
theorem tellQ_mem{k i:Nat}{n:Nt}{p:Pc}(h:p∈tellQ k i n):∃ j:Nat,p=pcOf i j n∧j<k∧¬ j=i:=by
 unfold tellQ at h
 obtain⟨j,hj,rfl⟩:=List.mem_map.1 h
 obtain⟨h1,h2⟩:=List.mem_filter.1 hj
 exact⟨j,rfl,List.mem_range.1 h1,by simpa using h2⟩
theorem tellQ_len(k i:Nat) (n:Nt):(tellQ k i n).length<=k:=by
 unfold tellQ
 rw [List.length_map]
 have:=List.length_filter_le (fun j=>j != i) (List.range k)
 rw [List.length_range] at this;exact this
theorem mv_tell{n:Nat}{told:List Nt}{r:Rm}{m:Mv}(h:InvR n told r) (h1:1<=n) (h2:n<=24) (h3:told.length<=1000) (h4:r.net.q.length<=2000) (hk:m.kind=1){i:Nat}(hp:m.peer=i) (hi:i<n) (ho:okNt m.note=true):mvR r m=(⟨r.ps.set i (lrnL (r.ps.getD i []) m.note),⟨r.net.q++tellQ n i m.note,[]⟩⟩,0):=by
 have hR:=inv_ok h h1 h2 h3 (by omega)
 have hi':i<r.ps.length:=by rw [h.len];exact hi
 have hl:=inv_len h _ (List.getElem_mem hi')
 have hq:=tellQ_len n i m.note
 rw [mvR_eq r m hR,if_pos hk]
 unfold tellX
 rw [if_neg (by rw [hp,Bool.not_eq_false];exact inR_iff.2 ⟨by omega,by omega⟩),if_neg (by rw [ho];simp),hp,Int.toNat_natCast,tellR_eq hi',if_pos (lrn_small (by omega)),getD_ps hi']
 rw [sndAll_ok _ _ (okRm_iff.1 hR).2.2.1 (fun p hp=>by
  obtain⟨j,rfl,hj,hji⟩:=tellQ_mem hp
  rw [h.len] at hj
  exact okPc_of ho (by omega) (by omega) hji) (by rw [h.len];omega),h.len,h.cut]
 rfl
theorem mv_sync{n:Nat}{told:List Nt}{r:Rm}{m:Mv}(h:InvR n told r) (h1:1<=n) (h2:n<=24) (h3:told.length<=1000) (h4:r.net.q.length<=2000) (hk:m.kind=2){i k:Nat}(hp:m.peer=i) (ht:m.to=k) (hi:i<n) (hkn:k<n) (hne:i≠k):mvR r m=(⟨r.ps,⟨r.net.q++(r.ps.getD i []).map (fun x=>pcOf i k x),[]⟩⟩,0):=by
 have hR:=inv_ok h h1 h2 h3 (by omega)
 have hi':i<r.ps.length:=by rw [h.len];exact hi
 have hl:=inv_len h _ (List.getElem_mem hi')
 have hpe:=h.pe _ (List.getElem_mem hi')
 rw [mvR_eq r m hR,if_neg (by omega),if_pos hk]
 unfold syncX
 rw [if_neg (by
  rintro(e | e)
  ·rw [Bool.and_eq_false_iff] at e
   rcases e with e | e
   ·rw [hp] at e;rw [inR_iff.2 ⟨by omega,by omega⟩] at e;cases e
   ·rw [ht] at e;rw [inR_iff.2 ⟨by omega,by have:=h.len;omega⟩] at e;cases e
  ·rw [hp,ht] at e;omega),hp,ht,Int.toNat_natCast,Int.toNat_natCast,syncR_eq hi',getD_ps hi']
 rw [sndAll_ok _ _ (okRm_iff.1 hR).2.2.1 (fun p hp=>by
  obtain⟨x,hx,rfl⟩:=List.mem_map.1 hp
  exact okPc_of (okNs_ok hpe.1 x hx) (by omega) (by omega) (fun e=>hne e.symm)) (by rw [List.length_map];omega),h.cut]
 rfl
theorem at_ok{n:Nat}{told:List Nt}{r:Rm}(h:InvR n told r) (h1:1<=n) (h2:n<=24) (h3:told.length<=1000) (h4:r.net.q.length<=2000){j:Nat}(hj:j<r.net.q.length):atE r.net j=0∧atP r.net j=r.net.q[j]∧lseN r.net j=⟨r.net.q.eraseIdx j,[]⟩:=by
 have hR:=inv_ok h h1 h2 h3 (by omega)
 have e:atE r.net j=0:=atE_zero.2 ⟨(okRm_iff.1 hR).2.2.1,inQ_iff.2 ⟨by omega,by omega⟩⟩
 refine⟨e,?_,?_⟩
 ·unfold atP
  rw [if_pos e,Int.toNat_natCast,List.getD_eq_getElem?_getD,List.getElem?_eq_getElem hj];rfl
 ·unfold lseN wo
  rw [if_pos e,Int.toNat_natCast,h.cut,List.eraseIdx_eq_take_drop_succ]
theorem mv_dlv{n:Nat}{told:List Nt}{r:Rm}{m:Mv}(h:InvR n told r) (h1:1<=n) (h2:n<=24) (h3:told.length<=1000) (h4:r.net.q.length<=2000) (hk:m.kind=3){j:Nat}(hm:m.at_=j) (hj:j<r.net.q.length):∃ (a b:Nat) (x:Nt),r.net.q[j]=pcOf a b x∧a<n∧b<n∧a≠b∧x∈told∧okNt x=true∧mvR r m=(⟨r.ps.set b (lrnL (r.ps.getD b []) x),⟨r.net.q.eraseIdx j,[]⟩⟩,0):=by
 have hR:=inv_ok h h1 h2 h3 (by omega)
 obtain⟨e1,e2,e3⟩:=at_ok h h1 h2 h3 h4 hj
 obtain⟨a,b,x,hp,ha,hb,hab,hx,ho⟩:=h.pk _ (List.getElem_mem hj)
 refine⟨a,b,x,hp,ha,hb,hab,hx,ho,?_⟩
 have hb':b<r.ps.length:=by rw [h.len];exact hb
 have hl:=inv_len h _ (List.getElem_mem hb')
 rw [mvR_eq r m hR,if_neg (by omega),if_neg (by omega),if_pos hk,hm]
 have hd:dlvP r.net j=pcOf a b x:=by
  unfold dlvP
  rw [h.cut,if_neg (by simp),e2,hp]
 have hab':¬ (pcOf (a:Int) (b:Int) x).a=(pcOf (a:Int) (b:Int) x).b:=fun e=>hab (Int.ofNat.inj e)
 unfold dlvR
 rw [if_neg (fun hh=>hh e1)]
 simp only
 rw [hd,if_neg hab',show (pcOf (a:Int) (b:Int) x).p=msgB x from rfl,readB_msgB ho,show (pcOf (a:Int) (b:Int) x).b.toNat=b from Int.toNat_natCast b,List.getElem?_eq_getElem hb']
 simp only
 rw [if_neg (fun hh=>hh (lrn_small (by omega))),e3,getD_ps hb']
theorem mv_lose{n:Nat}{told:List Nt}{r:Rm}{m:Mv}(h:InvR n told r) (h1:1<=n) (h2:n<=24) (h3:told.length<=1000) (h4:r.net.q.length<=2000) (hk:m.kind=4){j:Nat}(hm:m.at_=j) (hj:j<r.net.q.length):mvR r m=(⟨r.ps,⟨r.net.q.eraseIdx j,[]⟩⟩,0):=by
 have hR:=inv_ok h h1 h2 h3 (by omega)
 obtain⟨e1,e2,e3⟩:=at_ok h h1 h2 h3 h4 hj
 rw [mvR_eq r m hR,if_neg (by omega),if_neg (by omega),if_neg (by omega),if_pos hk,hm,if_neg (fun hh=>hh e1),e3]
theorem mv_rep{n:Nat}{told:List Nt}{r:Rm}{m:Mv}(h:InvR n told r) (h1:1<=n) (h2:n<=24) (h3:told.length<=1000) (h4:r.net.q.length<=2000) (hk:m.kind=5){j:Nat}(hm:m.at_=j) (hj:j<r.net.q.length):mvR r m=(⟨r.ps,⟨r.net.q++[r.net.q[j]],[]⟩⟩,0):=by
 have hR:=inv_ok h h1 h2 h3 (by omega)
 obtain⟨e1,e2,e3⟩:=at_ok h h1 h2 h3 h4 hj
 have hp:=okNw_all (okRm_iff.1 hR).2.2.1 _ (List.getElem_mem hj)
 obtain⟨s1,s2,s3⟩:=snd_ok (okRm_iff.1 hR).2.2.1 hp (by omega)
 have e4:repE r.net j=0:=by unfold repE;rw [if_pos e1,e2];exact s1
 have e5:repN r.net j=⟨r.net.q++[r.net.q[j]],[]⟩:=by
  unfold repN sndN
  rw [if_pos e1,e2,if_pos ⟨(okRm_iff.1 hR).2.2.1,hp,by omega⟩,h.cut]
 rw [mvR_eq r m hR,if_neg (by omega),if_neg (by omega),if_neg (by omega),if_neg (by omega),if_pos hk,hm,if_neg (fun hh=>hh e4),e5]
inductive StepR (n:Nat) (told:List Nt) (r:Rm) (m:Mv):Rm->Prop
 | tell (i:Nat) (hk:m.kind=1) (hp:m.peer=i) (hi:i<n) (ho:okNt m.note=true):StepR n told r m ⟨r.ps.set i (lrnL (r.ps.getD i []) m.note),⟨r.net.q++tellQ n i m.note,[]⟩⟩
 | sync (i k:Nat) (hk:m.kind=2) (hi:i<n) (hkn:k<n) (hne:i≠k):StepR n told r m ⟨r.ps,⟨r.net.q++(r.ps.getD i []).map (fun x=>pcOf i k x),[]⟩⟩
 | dlv (j a b:Nat) (x:Nt) (hk:m.kind=3) (hj:j<r.net.q.length) (hq:r.net.q[j]=pcOf a b x) (hb:b<n) (hx:okNt x=true) (ht:x∈told):StepR n told r m ⟨r.ps.set b (lrnL (r.ps.getD b []) x),⟨r.net.q.eraseIdx j,[]⟩⟩
 | lose (j:Nat) (hk:m.kind=4):StepR n told r m ⟨r.ps,⟨r.net.q.eraseIdx j,[]⟩⟩
 | rep (j:Nat) (hk:m.kind=5) (hj:j<r.net.q.length):StepR n told r m ⟨r.ps,⟨r.net.q++[r.net.q[j]],[]⟩⟩
theorem set_getD{l:List (List Nt)}{i k:Nat}{x:List Nt}(h:i<l.length):(l.set i x).getD k []=if k=i then x else l.getD k []:=by
 rw [List.getD_eq_getElem?_getD,List.getD_eq_getElem?_getD,List.getElem?_set]
 by_cases e:i=k
 ·subst e;rw [if_pos rfl,if_pos h,if_pos rfl];rfl
 ·rw [if_neg e,if_neg (fun x=>e x.symm)]
theorem lrn_in{l:List Nt}{x:Nt}{told:List Nt}(hl:okNs none l=true) (hs:∀ y∈l,y∈told) (hx:okNt x=true) (h3:told.length<=1000):okNs none (lrnL l x)=true∧∀ y,y∈lrnL l x↔y∈l∨y=x:=by
 have h4:=nodup_le l told (okNs_nodup hl) hs
 obtain⟨a,b,_,_⟩:=lrn_ok hl hx (lrn_small (by omega))
 exact⟨a,b⟩
theorem step_inv{n:Nat}{told:List Nt}{r:Rm}{m:Mv}{x:Rm}(h:InvR n told r) (hs:StepR n told r m x) (h3:told.length<=1000){told':List Nt}(ht:∀ y∈told,y∈told') (hm:m.kind=1->m.note∈told'):InvR n told' x:=by
 have hpe:∀ l∈r.ps,okNs none l=true∧∀ y∈l,y∈told':=fun l hl=>⟨(h.pe l hl).1,fun y hy=>ht y ((h.pe l hl).2 y hy)⟩
 have hpk:∀ p∈r.net.q,GoodP n told' p:=fun p hp=>(h.pk p hp).mono ht
 have hset:∀ (i:Nat) (y:Nt),i<n->okNt y=true->y∈told'->∀ l∈r.ps.set i (lrnL (r.ps.getD i []) y),okNs none l=true∧∀ z∈l,z∈told':=fun i y hi hy hyt l hl=>by
  rcases List.mem_or_eq_of_mem_set hl with e | e
  ·exact hpe l e
  ·subst e
   have hi':i<r.ps.length:=by rw [h.len];exact hi
   rw [getD_ps hi']
   have hq:=h.pe _ (List.getElem_mem hi')
   obtain⟨a,b⟩:=lrn_in hq.1 hq.2 hy h3
   exact⟨a,fun z hz=>((b z).1 hz).elim (fun e=>ht z (hq.2 z e)) (fun e=>e ▸ hyt)⟩
 cases hs with
 | tell i hk hp hi ho =>
  refine⟨by rw [List.length_set];exact h.len,rfl,hset i _ hi ho (hm hk),fun p hp=>?_⟩
  rcases List.mem_append.1 hp with e | e
  ·exact hpk p e
  ·obtain⟨j,rfl,hj,hji⟩:=tellQ_mem e
   exact⟨i,j,_,rfl,hi,hj,fun e=>hji e.symm,hm hk,ho⟩
 | sync i k hk hi hkn hne =>
  refine⟨h.len,rfl,hpe,fun p hp=>?_⟩
  rcases List.mem_append.1 hp with e | e
  ·exact hpk p e
  ·obtain⟨y,hy,rfl⟩:=List.mem_map.1 e
   have hi':i<r.ps.length:=by rw [h.len];exact hi
   rw [getD_ps hi'] at hy
   have hq:=h.pe _ (List.getElem_mem hi')
   exact⟨i,k,y,rfl,hi,hkn,hne,ht y (hq.2 y hy),okNs_ok hq.1 y hy⟩
 | dlv j a b y hk hj hq hb hx htl=>exact⟨by rw [List.length_set];exact h.len,rfl,hset b y hb hx (ht y htl),fun p hp=>hpk p (List.mem_of_mem_eraseIdx hp)⟩
 | lose j hk=>exact⟨h.len,rfl,hpe,fun p hp=>hpk p (List.mem_of_mem_eraseIdx hp)⟩
 | rep j hk hj =>
  refine⟨h.len,rfl,hpe,fun p hp=>?_⟩
  rcases List.mem_append.1 hp with e | e
  ·exact hpk p e
  ·rw [List.mem_singleton] at e
   subst e;exact hpk _ (List.getElem_mem hj)
theorem step_mono{n:Nat}{told:List Nt}{r:Rm}{m:Mv}{x:Rm}(h:InvR n told r) (hs:StepR n told r m x) (h3:told.length<=1000) (k:Nat) (y:Nt) (hy:y∈r.ps.getD k []):y∈x.ps.getD k []:=by
 have hset:∀ (i:Nat) (z:Nt),i<n->okNt z=true->y∈(r.ps.set i (lrnL (r.ps.getD i []) z)).getD k []:=fun i z hi hz=>by
  have hi':i<r.ps.length:=by rw [h.len];exact hi
  rw [set_getD hi']
  split
  ·rename_i e;subst e
   rw [getD_ps hi'] at hy ⊢
   have hq:=h.pe _ (List.getElem_mem hi')
   exact((lrn_in hq.1 hq.2 hz h3).2 y).2 (.inl hy)
  ·exact hy
 cases hs with
 | tell i hk hp hi ho=>exact hset i _ hi ho
 | sync i k hk hi hkn hne=>exact hy
 | dlv j a b z hk hj hq hb hx htl=>exact hset b z hb hx
 | lose j hk=>exact hy
 | rep j hk hj=>exact hy
def rchR (r:Rm) (k:Nat) (x:Nt):Prop:=x∈r.ps.getD k []∨∃ p∈r.net.q,p.b=k∧readB p.p=some x
theorem mem_erase_or{α:Type}{l:List α}{j:Nat}(hj:j<l.length){p:α}(hp:p∈l):p=l[j]∨p∈l.eraseIdx j:=by
 rw [List.eraseIdx_eq_take_drop_succ]
 rw [<- List.take_append_drop j l,List.drop_eq_getElem_cons hj,List.mem_append,List.mem_cons] at hp
 rw [List.mem_append]
 rcases hp with h | h | h
 ·exact .inr (.inl h)
 ·exact .inl h
 ·exact .inr (.inr h)
theorem rch_dlv{n:Nat}{told:List Nt}{r:Rm}(h:InvR n told r) (h3:told.length<=1000){j a b:Nat}{x:Nt}(hj:j<r.net.q.length) (hq:r.net.q[j]=pcOf a b x) (hb:b<n) (hx:okNt x=true) (k:Nat) (y:Nt):rchR ⟨r.ps.set b (lrnL (r.ps.getD b []) x),⟨r.net.q.eraseIdx j,[]⟩⟩ k y↔rchR r k y:=by
 have hb':b<r.ps.length:=by rw [h.len];exact hb
 have hpe:=h.pe _ (List.getElem_mem hb')
 have hmem:=(lrn_in hpe.1 hpe.2 hx h3).2 y
 have hrd:readB (pcOf (a:Int) (b:Int) x).p=some x:=readB_msgB hx
 unfold rchR
 simp only
 rw [set_getD hb',getD_ps hb']
 constructor
 ·rintro(h1 | ⟨p,hp,hpb,hr⟩)
  ·split at h1
   ·rename_i e;subst e
    rcases hmem.1 h1 with e | e
    ·exact .inl (by rw [getD_ps hb'];exact e)
    ·subst e
     exact .inr ⟨_,List.getElem_mem hj,by rw [hq];rfl,by rw [hq];exact hrd⟩
   ·exact .inl h1
  ·exact .inr ⟨p,List.mem_of_mem_eraseIdx hp,hpb,hr⟩
 ·rintro(h1 | ⟨p,hp,hpb,hr⟩)
  ·left
   split
   ·rename_i e;subst e
    rw [getD_ps hb'] at h1
    exact hmem.2 (.inl h1)
   ·exact h1
  ·rcases mem_erase_or hj hp with e | e
   ·left
    subst e
    rw [hq] at hpb hr
    have e1:b=k:=Int.ofNat.inj hpb
    subst e1
    rw [hrd] at hr
    injection hr with hr
    rw [if_pos rfl]
    exact hmem.2 (.inr hr.symm)
   ·exact .inr ⟨p,e,hpb,hr⟩
structure ActI (n k:Nat) (s:Rm×List Nt):Prop where
 inv:InvR n s.2 s.1
 ok:okNs none s.2=true
 tl:s.2.length<=k
 ql:s.1.net.q.length<=14*k
 kn:∀ x∈s.2,∃ i,i<n∧x∈s.1.ps.getD i []
theorem act_new{n:Nat}(h1:1<=n) (h2:n<=4):newR n=(⟨List.replicate n [],⟨[],[]⟩⟩,0)∧ActI n 0 (⟨List.replicate n [],⟨[],[]⟩⟩,[]):=by
 refine⟨?_,⟨by simp,rfl,fun l hl=>?_,fun p hp=>?_⟩,rfl,Nat.le_refl _,Nat.le_refl _,fun x hx=>?_⟩
 ·unfold newR
  rw [if_neg (by omega),Int.toNat_natCast]
 ·rw [List.eq_of_mem_replicate hl]
  exact⟨rfl,fun x hx=>by cases hx⟩
 ·cases hp
 ·cases hx
noncomputable def rchB (r:Rm) (k:Nat) (y:Nt):Bool:=@decide (rchR r k y) (Classical.propDecidable _)
theorem rchB_iff{r:Rm}{k:Nat}{y:Nt}:rchB r k y=true↔rchR r k y:=by unfold rchB;exact @decide_eq_true_iff _ (Classical.propDecidable _)
noncomputable def drnR (n:Nat) (told:List Nt) (r:Rm):Rm:=⟨(List.range n).map fun k=>told.filter fun y=>rchB r k y,⟨[],[]⟩⟩
theorem drn_end{n:Nat}{told:List Nt}{r0 r:Rm}(h:InvR n told r) (hok:okNs none told=true) (hr:∀ k y,rchR r k y↔rchR r0 k y) (hq:r.net.q=[]):r=drnR n told r0:=by
 have hc:=h.cut
 have hl:=h.len
 have hps:r.ps=(drnR n told r0).ps:=by
  refine List.ext_getElem (by simp [drnR,hl]) fun k hk hk2=>?_
  have hpe:=h.pe _ (List.getElem_mem hk)
  simp only [drnR,List.getElem_map,List.getElem_range]
  refine okNs_ext hpe.1 (okNs_mk (fun y hy=>okNs_ok hok y (List.mem_filter.1 hy).1) ((okNs_pw hok).filter _)) fun y=>?_
  rw [List.mem_filter,rchB_iff,<- hr k y]
  unfold rchR
  rw [getD_ps hk,hq]
  constructor
  ·exact fun hy=>⟨hpe.2 y hy,.inl hy⟩
  ·rintro⟨_,hy | ⟨p,hp,_⟩⟩
   ·exact hy
   ·cases hp
 cases r with
 | mk ps net =>
  cases net with
  | mk q c =>
   simp only at hps hq hc
   subst hps hq hc
   rfl
theorem drn_all{n:Nat}{told:List Nt}{r:Rm}(h:∀ k,k<n->∀ y∈told,rchR r k y):drnR n told r=⟨List.replicate n told,⟨[],[]⟩⟩:=by
 unfold drnR
 congr 1
 refine List.ext_getElem (by simp) fun k hk hk2=>?_
 simp only [List.getElem_map,List.getElem_range,List.getElem_replicate]
 refine List.filter_eq_self.2 fun y hy=>?_
 rw [rchB_iff]
 exact h k (by simpa using hk) y hy
theorem drn_dlv{n:Nat}{told:List Nt}{r r0:Rm}{m:Mv}(h:InvR n told r) (h1:1<=n) (h2:n<=24) (h3:told.length<=1000) (h4:r.net.q.length<=2000) (hr:∀ k y,rchR r k y↔rchR r0 k y) (hk:m.kind=3){j:Nat}(hm:m.at_=j) (hj:j<r.net.q.length):∃ x,mvR r m=(x,0)∧InvR n told x∧(∀ k y,rchR x k y↔rchR r0 k y)∧x.ps.length=n∧x.net.q.length+1=r.net.q.length:=by
 obtain⟨a,b,y,e1,e2,e3,e4,e5,e6,e7⟩:=mv_dlv h h1 h2 h3 h4 hk hm hj
 have hi:=step_inv (m:=m) h (.dlv j a b y hk hj e1 e3 e6 e5) h3 (told':=told) (fun _ hy=>hy) (fun e=>by omega)
 refine⟨_,e7,hi,fun k z=>(rch_dlv h h3 hj e1 e3 e6 k z).trans (hr k z),hi.len,?_⟩
 simp only
 rw [List.length_eraseIdx_of_lt hj]
 omega
theorem drn_sync{n:Nat}{told:List Nt}{r:Rm}{m:Mv}(h:InvR n told r) (h1:1<=n) (h2:n<=24) (h3:told.length<=1000) (h4:r.net.q.length<=2000) (hk:m.kind=2){i k:Nat}(hp:m.peer=i) (ht:m.to=k) (hi:i<n) (hkn:k<n) (hne:i≠k):∃ x,mvR r m=(x,0)∧InvR n told x∧x.ps=r.ps∧(∀ k y,rchR r k y->rchR x k y)∧(∀ y∈r.ps.getD i [],rchR x k y)∧x.net.q.length=r.net.q.length+(r.ps.getD i []).length:=by
 have e7:=mv_sync h h1 h2 h3 h4 hk hp ht hi hkn hne
 have hinv:=step_inv (m:=m) h (.sync i k hk hi hkn hne) h3 (told':=told) (fun _ hy=>hy) (fun e=>by omega)
 refine⟨_,e7,hinv,rfl,fun k y=>?_,fun y hy=>?_,?_⟩
 ·rintro(hy | ⟨p,hq,hb,hr⟩)
  ·exact .inl hy
  ·exact .inr ⟨p,List.mem_append.2 (.inl hq),hb,hr⟩
 ·refine .inr ⟨pcOf i k y,List.mem_append.2 (.inr (List.mem_map.2 ⟨y,hy,rfl⟩)),rfl,?_⟩
  have hi':i<r.ps.length:=by rw [h.len];exact hi
  rw [getD_ps hi'] at hy
  exact readB_msgB (okNs_ok (h.pe _ (List.getElem_mem hi')).1 y hy)
 ·simp only [List.length_append,List.length_map]
theorem okPe_sub{a l:List Nt}(h:okPe l=true) (hs:a.Sublist l):okPe a=true:=by
 obtain⟨h1,h2⟩:=okPe_iff.1 h
 have:=hs.length_le
 exact okPe_iff.2 ⟨okNs_mk (fun x hx=>okNs_ok h1 x (hs.subset hx)) ((okNs_pw h1).sublist hs),by omega⟩
theorem seenE_0{l:List Nt}{lang:Int}(h:okPe l=true) (h1:0<=lang) (h2:lang<32):seenE l lang=0:=by
 unfold seenE
 rw [if_neg (by rw [h];simp),if_neg (by omega)]
theorem seenR_0{l:List Nt}{lang:Int}(h:okPe l=true) (h1:0<=lang) (h2:lang<32):seenR l lang=seenN l lang (l.length+1) [] 0:=by
 unfold seenR
 rw [if_pos (seenE_0 h h1 h2)]
def runD:List Sp->List Ch->Option (List Sp)
 | x,[]=>some x
 | x,c::r=>if doDE x c=0 then runD (doDL x c) r else none
theorem runD_app{x:List Sp}{a b:List Ch}:runD x (a++b)=(runD x a).bind fun y=>runD y b:=by
 induction a generalizing x with
 | nil=>rfl
 | cons c a ih =>
  rw [List.cons_append,runD,runD]
  split
  ·exact ih
  ·rfl
theorem posL_split{L R:List Sp}{id:Int}(hL:∀ x∈L,x.id<id) (hR:∀ x∈R,¬ x.id<id):posL (L++R) id=L.length:=by
 unfold posL
 rw [List.takeWhile_append_of_pos (fun x hx=>by simpa using hL x hx),List.length_append]
 cases R with
 | nil=>simp
 | cons y R =>
  rw [List.takeWhile_cons_of_neg (by simpa using hR y (by simp))]
  simp
theorem get_split{L R:List Sp}:(L++R)[L.length]?=R.head?:=by
 rw [List.getElem?_append_right (Nat.le_refl _),Nat.sub_self,List.head?_eq_getElem?]
theorem disp_ok{l:List Sp}:dispE l=0↔l.length<=1024∧okRun (-1) l=true:=by
 unfold dispE
 by_cases h:1024<l.length
 ·rw [if_pos h]
  exact⟨fun e=>by omega,fun e=>by omega⟩
 ·rw [if_neg h]
  by_cases h2:okRun (-1) l=true
  ·rw [if_pos h2];exact⟨fun _=>⟨by omega,h2⟩,fun _=>rfl⟩
  ·rw [if_neg h2];exact⟨fun e=>by omega,fun e=>absurd e.2 h2⟩
section
variable {L R:List Sp}{c:Ch}
theorem do_put(hd:dispE (L++R)=0) (hc:okCh c=true) (hk:c.kind=1) (hL:∀ x∈L,x.id<c.sp.id) (hR:∀ x∈R,c.sp.id<x.id) (hl:(L++R).length<1024):doDE (L++R) c=0∧doDL (L++R) c=L++c.sp::R:=by
 have hp:posL (L++R) c.sp.id=L.length:=posL_split hL (fun x hx=>by have:=hR x hx;omega)
 have hh:hasL (L++R) c.sp.id=false:=by
  unfold hasL
  rw [hp,get_split]
  cases R with
  | nil=>rfl
  | cons y R =>
   have:=hR y (by simp)
   simp only [List.head?_cons]
   exact decide_eq_false (by omega)
 have hf:fitsL (L++R) c=true:=by unfold fitsL;rw [if_pos hk,hh];rfl
 have e:doDE (L++R) c=0:=by
  unfold doDE
  rw [if_neg (by rw [hd];simp),if_neg (by rw [hc,hf];simp),if_neg (by omega)]
 refine⟨e,?_⟩
 unfold doDL makeL
 rw [if_pos e]
 simp only
 rw [if_pos hk,hp,List.take_left' rfl,List.drop_left' rfl]
theorem do_drop{s:Sp}(hd:dispE (L++s::R)=0) (hc:okCh c=true) (hk:c.kind=2) (hL:∀ x∈L,x.id<c.sp.id) (hs:s=c.sp) (hR:∀ x∈R,s.id<x.id):doDE (L++s::R) c=0∧doDL (L++s::R) c=L++R:=by
 subst hs
 have hp:posL (L++c.sp::R) c.sp.id=L.length:=posL_split hL (fun x hx=>by
  rcases List.mem_cons.1 hx with rfl | hx
  ·omega
  ·have:=hR x hx;omega)
 have hf:fitsL (L++c.sp::R) c=true:=by unfold fitsL;rw [if_neg (by omega),if_pos hk,hp,get_split];simp
 have e:doDE (L++c.sp::R) c=0:=by
  unfold doDE
  rw [if_neg (by rw [hd];simp),if_neg (by rw [hc,hf];simp),if_neg (by omega)]
 refine⟨e,?_⟩
 unfold doDL makeL
 rw [if_pos e]
 simp only
 rw [if_neg (by omega),if_pos hk,hp,List.eraseIdx_append_of_length_le (Nat.le_refl _),Nat.sub_self];rfl
theorem do_swap{s:Sp}(hd:dispE (L++s::R)=0) (hc:okCh c=true) (hk:c.kind=3) (hL:∀ x∈L,x.id<c.sp.id) (hs:s.id=c.sp.id) (hv:s.ver≠c.sp.ver) (hR:∀ x∈R,s.id<x.id):doDE (L++s::R) c=0∧doDL (L++s::R) c=L++c.sp::R:=by
 have hp:posL (L++s::R) c.sp.id=L.length:=posL_split hL (fun x hx=>by
  rcases List.mem_cons.1 hx with rfl | hx
  ·omega
  ·have:=hR x hx;omega)
 have hf:fitsL (L++s::R) c=true:=by
  unfold fitsL
  rw [if_neg (by omega),if_neg (by omega),hp,get_split]
  simp [hs,hv]
 have e:doDE (L++s::R) c=0:=by
  unfold doDE
  rw [if_neg (by rw [hd];simp),if_neg (by rw [hc,hf];simp),if_neg (by omega)]
 refine⟨e,?_⟩
 unfold doDL makeL
 rw [if_pos e]
 simp only
 rw [if_neg (by omega),if_neg (by omega),hp,List.set_append_right _ _ (Nat.le_refl _),Nat.sub_self];rfl
end
theorem do_disp{l:List Sp}{c:Ch}(h:doDE l c=0):dispE l=0∧okCh c=true∧dispE (doDL l c)=0∧fitsL l c=true:=by
 have hd:dispE l=0:=by
  unfold doDE at h
  by_cases e:dispE l=0
  ·exact e
  ·rw [if_pos e] at h;exact h
 have h2:=h
 unfold doDE at h2
 rw [if_neg (fun e=>e hd)] at h2
 have hcf:okCh c=true∧fitsL l c=true:=by
  by_cases e:(okCh c&&fitsL l c)=false
  ·rw [if_pos e] at h2;omega
  ·rw [Bool.not_eq_false,Bool.and_eq_true] at e;exact e
 obtain⟨hc,hf⟩:=hcf
 rw [if_neg (by rw [hc,hf];simp)] at h2
 refine⟨hd,hc,?_,hf⟩
 obtain⟨d1,d2⟩:=disp_ok.1 hd
 obtain⟨p1,p2⟩:=posL_spec d2 c.sp.id
 have hsp:okSp c.sp=true:=by unfold okCh at hc;simp only [Bool.and_eq_true] at hc;exact hc.2.2.2
 have hid:-1<c.sp.id:=by
  unfold okSp okId at hsp;simp only [Bool.and_eq_true,decide_eq_true_eq] at hsp;omega
 have hkd:1<=c.kind∧c.kind<=3:=by unfold okCh at hc;simp only [Bool.and_eq_true,decide_eq_true_eq] at hc;exact⟨hc.2.1,hc.2.2.1⟩
 generalize hL:l.take (posL l c.sp.id)=L at *
 have hLl:∀ x∈L,x.id<c.sp.id:=fun x hx=>by
  rw [<- hL] at hx
  obtain⟨k,hk,rfl⟩:=List.mem_iff_getElem.1 hx
  rw [List.length_take] at hk
  rw [List.getElem_take]
  exact(p2 k (by omega)).2 (by omega)
 have hRl:∀ x∈l.drop (posL l c.sp.id),c.sp.id<=x.id:=fun x hx=>by
  obtain⟨k,hk,rfl⟩:=List.mem_iff_getElem.1 hx
  rw [List.length_drop] at hk
  rw [List.getElem_drop]
  have:=(p2 (posL l c.sp.id+k) (by omega))
  have h3:¬ posL l c.sp.id+k<posL l c.sp.id:=by omega
  have:=mt this.1 h3
  omega
 have hsplit:l=L++l.drop (posL l c.sp.id):=by rw [<- hL,List.take_append_drop]
 generalize l.drop (posL l c.sp.id)=R at *
 subst hsplit
 rw [okRun_app] at d2
 obtain⟨o1,o2,o3⟩:=d2
 have hhead:∀ s R',R=s::R'->(∀ x∈R',s.id<x.id)∧okRun s.id R'=true:=fun s R' e=>by
  subst e;rw [okRun_cons] at o2;exact⟨okRun_gt o2.2.2,o2.2.2⟩
 by_cases k1:c.kind=1
 ·rw [if_neg (fun e=>by rw [if_pos e] at h2;omega)] at h2
  have hR2:∀ x∈R,c.sp.id<x.id:=fun x hx=>by
   have h3:=hRl x hx
   unfold fitsL at hf
   rw [if_pos k1] at hf
   have hnot:¬ hasL (L++R) c.sp.id=true:=by simpa using hf
   rcases Int.lt_or_eq_of_le h3 with h4 | h4
   ·exact h4
   ·exact absurd ((hasL_iff (okRun_app.2 ⟨o1,o2,o3⟩) c.sp.id).2 ⟨x,List.mem_append.2 (.inr hx),h4.symm⟩) hnot
  have hlen:(L++R).length<1024:=by
   by_cases e:c.kind=1∧(L++R).length=1024
   ·have h5:=h;unfold doDE at h5
    rw [if_neg (fun e=>e hd),if_neg (by rw [hc,hf];simp),if_pos e] at h5;omega
   ·have:(L++R).length≠1024:=fun e'=>e ⟨k1,e'⟩
    omega
  obtain⟨_,e2⟩:=do_put hd hc k1 hLl hR2 hlen
  rw [e2]
  refine disp_ok.2 ⟨by simp at hlen ⊢;omega,okRun_app.2 ⟨o1,okRun_cons.2 ⟨hsp,hid,?_⟩,fun x hx y hy=>?_⟩⟩
  ·cases R with
   | nil=>rfl
   | cons s R'=>rw [okRun_cons] at o2 ⊢;exact⟨o2.1,hR2 s (by simp),o2.2.2⟩
  ·rcases List.mem_cons.1 hy with rfl | hy
   ·exact hLl x hx
   ·exact o3 x hx y hy
 ·have hp:posL (L++R) c.sp.id=L.length:=posL_split hLl (fun x hx=>by have:=hRl x hx;omega)
  by_cases k2:c.kind=2
  ·unfold fitsL at hf
   rw [if_neg k1,if_pos k2,hp,get_split] at hf
   cases R with
   | nil=>simp at hf
   | cons s R' =>
    have hs:s=c.sp:=by simpa using hf
    obtain⟨q1,q2⟩:=hhead s R' rfl
    obtain⟨_,e2⟩:=do_drop hd hc k2 hLl hs q1
    rw [e2]
    rw [okRun_cons] at o2
    exact disp_ok.2 ⟨by simp at d1 ⊢;omega,okRun_app.2 ⟨o1,okRun_mono q2 (by omega),fun x hx y hy=>o3 x hx y (by simp [hy])⟩⟩
  ·have k3:c.kind=3:=by omega
   unfold fitsL at hf
   rw [if_neg k1,if_neg k2,hp,get_split] at hf
   cases R with
   | nil=>simp at hf
   | cons s R' =>
    simp only [List.head?_cons,Bool.and_eq_true,decide_eq_true_eq] at hf
    obtain⟨q1,q2⟩:=hhead s R' rfl
    obtain⟨_,e2⟩:=do_swap hd hc k3 hLl hf.1 hf.2 q1
    rw [e2]
    rw [okRun_cons] at o2
    exact disp_ok.2 ⟨by simp at d1 ⊢;omega,okRun_app.2 ⟨o1,okRun_cons.2 ⟨hsp,hid,okRun_mono q2 (by omega)⟩,fun x hx y hy=>by
     rcases List.mem_cons.1 hy with rfl | hy
     ·exact hLl x hx
     ·exact o3 x hx y (by simp [hy])⟩⟩
def chOf (t:Int) (ht:-9223372036854775808<=t∧t<9223372036854775808) (k:Int) (hk:-9223372036854775808<=k∧k<9223372036854775808) (x:Sp):Ch:=⟨t,k,x,ht,hk⟩
section
variable (t:Int) (ht:-9223372036854775808<=t∧t<9223372036854775808)
def putC (x:Sp):Ch:=chOf t ht 1 (by omega) x
def dropC (x:Sp):Ch:=chOf t ht 2 (by omega) x
def swapC (x:Sp):Ch:=chOf t ht 3 (by omega) x
def mrg:List Sp->List Sp->List Ch
 | [],[]=>[]
 | x::a,[]=>dropC t ht x::mrg a []
 | [],y::b=>putC t ht y::mrg [] b
 | x::a,y::b =>
  if x.id<y.id then dropC t ht x::mrg a (y::b)
  else if y.id<x.id then putC t ht y::mrg (x::a) b
  else if x.ver≠y.ver then swapC t ht y::mrg a b
  else mrg a b
 termination_by a b=>a.length+b.length
end
def badM:List Sp->List Sp->Bool
 | x::a,y::b =>
  if x.id<y.id then badM a (y::b)
  else if y.id<x.id then badM (x::a) b
  else (decide (x.ver=y.ver)&&decide (x≠y))||badM a b
 | _,_=>false
 termination_by a b=>a.length+b.length
theorem okCh_of{t:Int}{ht:-9223372036854775808<=t∧t<9223372036854775808}{k:Int}{hk:-9223372036854775808<=k∧k<9223372036854775808}{x:Sp}(h0:okTm t=true) (hk':1<=k∧k<=3) (hx:okSp x=true):okCh (chOf t ht k hk x)=true:=by
 unfold okCh chOf
 simp only [Bool.and_eq_true,decide_eq_true_eq]
 exact⟨h0,hk'.1,hk'.2,hx⟩
theorem run_step{x y:List Sp}{c:Ch}{r:List Ch}(h:doDE x c=0∧doDL x c=y):runD x (c::r)=runD y r:=by
 rw [runD,if_pos h.1,h.2]
theorem mrg_run{t:Int}(ht:-9223372036854775808<=t∧t<9223372036854775808) (h0:okTm t=true):∀ (n:Nat) (B a b:List Sp),a.length+b.length<=n->badM a b=false->okRun (-1) (B++a)=true->okRun (-1) (B++b)=true->(B++a).length+b.length<=1024->runD (B++a) (mrg t ht a b)=some (B++b)
 | _,B,[],[],_,_,_,_,_=>by rw [mrg];rfl
 | 0,B,_::_,_,h,_,_,_,_=>by simp at h
 | 0,B,[],_::_,h,_,_,_,_=>by simp at h
 | n+1,B,x::a,[],h,hb,h1,h2,h3=>by
  rw [mrg]
  rw [okRun_app] at h1
  obtain⟨o1,o2,o3⟩:=h1
  rw [okRun_cons] at o2
  have hd:dispE (B++x::a)=0:=disp_ok.2 ⟨by simp at h3 ⊢;omega,okRun_app.2 ⟨o1,okRun_cons.2 o2,o3⟩⟩
  rw [run_step (do_drop (c:=dropC t ht x) hd (okCh_of h0 (by omega) o2.1) rfl (fun z hz=>o3 z hz x (by simp)) rfl (okRun_gt o2.2.2))]
  exact mrg_run ht h0 n B a [] (by simp at h ⊢;omega) (by cases a <;> rw [badM] <;> simp) (okRun_app.2 ⟨o1,okRun_mono o2.2.2 (by have:=o2.2.1;omega),fun z hz y hy=>o3 z hz y (by simp [hy])⟩) h2 (by simp at h3 ⊢;omega)
 | n+1,B,[],y::b,h,hb,h1,h2,h3=>by
  rw [mrg]
  rw [okRun_app] at h2
  obtain⟨o1,o2,o3⟩:=h2
  rw [okRun_cons] at o2
  have hd:dispE (B++[])=0:=disp_ok.2 ⟨by simp at h3 ⊢;omega,h1⟩
  rw [run_step (do_put (c:=putC t ht y) (R:=[]) hd (okCh_of h0 (by omega) o2.1) rfl (fun z hz=>o3 z hz y (by simp)) (fun z hz=>by cases hz) (by simp at h3 ⊢;omega))]
  have e:B++(putC t ht y).sp::[]=(B++[y])++[]:=by simp;rfl
  have e2:B++y::b=(B++[y])++b:=by simp
  rw [e,e2]
  exact mrg_run ht h0 n (B++[y]) [] b (by simp at h ⊢;omega) (by cases b <;> rw [badM] <;> simp) (by rw [List.append_nil];exact okRun_snoc.2 ⟨o1,o2.1,o2.2.1,fun z hz=>o3 z hz y (by simp)⟩) (by rw [<- e2];exact okRun_app.2 ⟨o1,okRun_cons.2 o2,o3⟩) (by simp at h3 ⊢;omega)
 | n+1,B,x::a,y::b,h,hb,h1,h2,h3=>by
  rw [badM] at hb
  rw [mrg]
  have h1':=h1
  have h2':=h2
  rw [okRun_app] at h1 h2
  obtain⟨o1,o2,o3⟩:=h1
  obtain⟨q1,q2,q3⟩:=h2
  rw [okRun_cons] at o2 q2
  have hd:dispE (B++x::a)=0:=disp_ok.2 ⟨by simp at h3 ⊢;omega,h1'⟩
  have e2:B++y::b=(B++[y])++b:=by simp
  by_cases c1:x.id<y.id
  ·rw [if_pos c1] at hb ⊢
   rw [run_step (do_drop (c:=dropC t ht x) hd (okCh_of h0 (by omega) o2.1) rfl (fun z hz=>o3 z hz x (by simp)) rfl (okRun_gt o2.2.2))]
   exact mrg_run ht h0 n B a (y::b) (by simp at h ⊢;omega) hb (okRun_app.2 ⟨o1,okRun_mono o2.2.2 (by have:=o2.2.1;omega),fun z hz y hy=>o3 z hz y (by simp [hy])⟩) h2' (by simp at h3 ⊢;omega)
  rw [if_neg c1] at hb ⊢
  by_cases c2:y.id<x.id
  ·rw [if_pos c2] at hb ⊢
   rw [run_step (do_put (c:=putC t ht y) (R:=x::a) hd (okCh_of h0 (by omega) q2.1) rfl (fun z hz=>q3 z hz y (by simp)) (fun z hz=>by
    show y.id<z.id
    rcases List.mem_cons.1 hz with rfl | hz
    ·exact c2
    ·have:=okRun_gt o2.2.2 z hz;omega) (by simp at h3 ⊢;omega))]
   have e:B++(putC t ht y).sp::x::a=(B++[y])++x::a:=by simp;rfl
   rw [e,e2]
   refine mrg_run ht h0 n (B++[y]) (x::a) b (by simp at h ⊢;omega) hb ?_ (by rw [<- e2];exact h2') (by simp at h3 ⊢;omega)
   rw [okRun_app]
   refine⟨okRun_snoc.2 ⟨o1,q2.1,q2.2.1,fun z hz=>q3 z hz y (by simp)⟩,okRun_cons.2 o2,fun z hz u hu=>?_⟩
   rcases List.mem_append.1 hz with hz | hz
   ·exact o3 z hz u hu
   ·rw [List.mem_singleton] at hz;subst hz
    rcases List.mem_cons.1 hu with rfl | hu
    ·exact c2
    ·have:=okRun_gt o2.2.2 u hu;omega
  rw [if_neg c2] at hb ⊢
  have hid:x.id=y.id:=by omega
  rw [Bool.or_eq_false_iff] at hb
  have hstep:∀ r,runD ((B++[y])++a) r=some (B++y::b)->runD (B++y::a) r=some (B++y::b):=fun r hr=>by
   have e:B++y::a=(B++[y])++a:=by simp
   rw [e];exact hr
  have hrest:runD ((B++[y])++a) (mrg t ht a b)=some (B++y::b):=by
   rw [e2]
   refine mrg_run ht h0 n (B++[y]) a b (by simp at h ⊢;omega) hb.2 ?_ (by rw [<- e2];exact h2') (by simp at h3 ⊢;omega)
   rw [okRun_app]
   refine⟨okRun_snoc.2 ⟨o1,q2.1,q2.2.1,fun z hz=>q3 z hz y (by simp)⟩,okRun_mono o2.2.2 (by have:=o2.2.1;omega),fun z hz u hu=>?_⟩
   rcases List.mem_append.1 hz with hz | hz
   ·exact o3 z hz u (by simp [hu])
   ·rw [List.mem_singleton] at hz;subst hz
    have:=okRun_gt o2.2.2 u hu;omega
  by_cases c3:x.ver≠y.ver
  ·rw [if_pos c3]
   rw [run_step (do_swap (c:=swapC t ht y) hd (okCh_of h0 (by omega) q2.1) rfl (fun z hz=>q3 z hz y (by simp)) hid c3 (okRun_gt o2.2.2))]
   exact hstep _ hrest
  ·rw [if_neg c3]
   have hxy:x=y:=by
    have h4:=hb.1
    rw [Bool.and_eq_false_iff] at h4
    rcases h4 with h4 | h4
    ·exact absurd (Decidable.not_not.1 c3) (of_decide_eq_false h4)
    ·exact Decidable.not_not.1 (of_decide_eq_false h4)
   subst hxy
   exact hstep _ hrest
def isW (c:Ch):Bool:=decide (c.kind≠1)
def keepB (b:List Sp) (x:Sp):Bool:=b.any fun y=>decide (y.id=x.id)&&decide (y.ver=x.ver)
theorem keepB_iff{b:List Sp}{x:Sp}:keepB b x=true↔∃ y∈b,y.id=x.id∧y.ver=x.ver:=by
 unfold keepB
 simp only [List.any_eq_true,Bool.and_eq_true,decide_eq_true_eq]
def lostI (a b:List Sp):Nat:=(a.filter fun x=>!keepB b x).length
theorem keepB_skip{y:Sp}{b:List Sp}{x:Sp}(h:¬ y.id=x.id):keepB (y::b) x=keepB b x:=by
 unfold keepB
 rw [List.any_cons,decide_eq_false h,Bool.false_and,Bool.false_or]
theorem keepB_none{b:List Sp}{x:Sp}(h:∀ y∈b,¬ y.id=x.id):keepB b x=false:=by
 rw [Bool.eq_false_iff]
 intro hk
 obtain⟨y,hy,e,_⟩:=keepB_iff.1 hk
 exact h y hy e
theorem lost_cons{x:Sp}{a b:List Sp}:lostI (x::a) b=(if keepB b x=true then 0 else 1)+lostI a b:=by
 unfold lostI
 cases h:keepB b x with
 | true=>rw [List.filter_cons_of_neg (by rw [h];simp)];simp
 | false=>rw [List.filter_cons_of_pos (by rw [h];rfl)];simp;omega
theorem lost_skip{y:Sp}{a b:List Sp}(h:∀ x∈a,¬ y.id=x.id):lostI a (y::b)=lostI a b:=by
 unfold lostI
 congr 1
 exact List.filter_congr fun x hx=>by rw [keepB_skip (h x hx)]
theorem mrg_lost{t:Int}(ht:-9223372036854775808<=t∧t<9223372036854775808):∀ (n:Nat) (p q:Int) (a b:List Sp),a.length+b.length<=n->okRun p a=true->okRun q b=true->((mrg t ht a b).filter isW).length=lostI a b
 | _,_,_,[],[],_,_,_=>by rw [mrg];rfl
 | 0,_,_,_::_,_,h,_,_=>by simp at h
 | 0,_,_,[],_::_,h,_,_=>by simp at h
 | n+1,p,q,x::a,[],h,h1,h2=>by
  rw [okRun_cons] at h1
  rw [mrg,lost_cons,if_neg (by simp [keepB]),List.filter_cons_of_pos (by rfl),List.length_cons,mrg_lost ht n x.id q a [] (by simp at h ⊢;omega) h1.2.2 h2]
  omega
 | n+1,p,q,[],y::b,h,h1,h2=>by
  rw [okRun_cons] at h2
  rw [mrg,List.filter_cons_of_neg (by show ¬ decide ((1:Int)≠1)=true;simp),mrg_lost ht n p y.id [] b (by simp at h ⊢;omega) h1 h2.2.2]
  rfl
 | n+1,p,q,x::a,y::b,h,h1,h2=>by
  have h1':=h1
  have h2':=h2
  rw [okRun_cons] at h1 h2
  have ga:=okRun_gt h1.2.2
  have gb:=okRun_gt h2.2.2
  rw [mrg]
  by_cases c1:x.id<y.id
  ·rw [if_pos c1,lost_cons,if_neg (by
    rw [keepB_none (fun z hz=>by
     rcases List.mem_cons.1 hz with rfl | hz
     ·omega
     ·have:=gb z hz;omega)];simp),List.filter_cons_of_pos (by rfl),List.length_cons,mrg_lost ht n x.id q a (y::b) (by simp at h ⊢;omega) h1.2.2 h2']
   omega
  rw [if_neg c1]
  by_cases c2:y.id<x.id
  ·rw [if_pos c2,lost_skip (fun z hz=>by
    rcases List.mem_cons.1 hz with rfl | hz
    ·omega
    ·have:=ga z hz;omega),List.filter_cons_of_neg (by show ¬ decide ((1:Int)≠1)=true;simp)]
   exact mrg_lost ht n p y.id (x::a) b (by simp at h ⊢;omega) h1' h2.2.2
  rw [if_neg c2]
  have hid:x.id=y.id:=by omega
  rw [lost_cons,lost_skip (fun z hz=>by have:=ga z hz;omega)]
  have ih:=mrg_lost ht n x.id y.id a b (by simp at h ⊢;omega) h1.2.2 h2.2.2
  by_cases c3:x.ver≠y.ver
  ·rw [if_pos c3,if_neg (by
    intro hk
    obtain⟨z,hz,e1,e2⟩:=keepB_iff.1 hk
    rcases List.mem_cons.1 hz with rfl | hz
    ·exact c3 e2.symm
    ·have:=gb z hz;omega),List.filter_cons_of_pos (by rfl),List.length_cons,ih]
   omega
  ·rw [if_neg c3,if_pos (keepB_iff.2 ⟨y,by simp,hid.symm,(Decidable.not_not.1 c3).symm⟩),ih]
   omega
theorem one_id{a:List Sp}{p i:Int}(h:okRun p a=true):(a.filter fun x=>decide (x.id=i)).length<=1:=by
 induction a generalizing p with
 | nil=>simp
 | cons x a ih =>
  rw [okRun_cons] at h
  by_cases e:x.id=i
  ·rw [List.filter_cons_of_pos (by simpa using e)]
   have:a.filter (fun x=>decide (x.id=i))=[]:=List.filter_eq_nil_iff.2 fun y hy=>by
    have:=okRun_gt h.2.2 y hy
    simp;omega
   rw [this];simp
  ·rw [List.filter_cons_of_neg (by simpa using e)]
   exact ih h.2.2
theorem filter_or{α:Type}(p q r:α->Bool):∀ l:List α,(∀ x∈l,p x=true->q x=true∨r x=true)->(l.filter p).length<=(l.filter q).length+(l.filter r).length
 | [],_=>by simp
 | x::l,h=>by
  have ih:=filter_or p q r l (fun y hy=>h y (by simp [hy]))
  cases hp:p x with
  | false =>
   rw [List.filter_cons_of_neg (by rw [hp];simp)]
   have h1:(l.filter q).length<=((x::l).filter q).length:=by rw [List.filter_cons];split <;> simp
   have h2:(l.filter r).length<=((x::l).filter r).length:=by rw [List.filter_cons];split <;> simp
   omega
  | true =>
   rw [List.filter_cons_of_pos hp,List.length_cons]
   rcases h x (by simp) hp with e | e
   ·rw [List.filter_cons_of_pos e,List.length_cons]
    have h2:(l.filter r).length<=((x::l).filter r).length:=by rw [List.filter_cons];split <;> simp
    omega
   ·rw [List.filter_cons_of_pos (p:=r) e,List.length_cons]
    have h1:(l.filter q).length<=((x::l).filter q).length:=by rw [List.filter_cons];split <;> simp
    omega
theorem lost_step{a l:List Sp}{p:Int}{c:Ch}(ha:okRun p a=true) (h:doDE l c=0):lostI a (doDL l c)<=lostI a l+(if isW c=true then 1 else 0):=by
 obtain⟨hd,hc,hd2,hf⟩:=do_disp h
 have e2:doDL l c=makeL l c:=by unfold doDL;rw [if_pos h]
 have hoth:∀ y∈l,¬ y.id=c.sp.id->y∈makeL l c:=fun y hy hne=>by
  obtain⟨k,hk,rfl⟩:=List.mem_iff_getElem.1 hy
  unfold makeL
  simp only
  split
  ·rw [List.mem_append,List.mem_cons]
   have hy2:l[k]∈l.take (posL l c.sp.id)++l.drop (posL l c.sp.id):=by rw [List.take_append_drop];exact hy
   exact(List.mem_append.1 hy2).elim .inl (fun q=>.inr (.inr q))
  ·split
   ·rename_i k1 k2
    unfold fitsL at hf
    rw [if_neg k1,if_pos k2,decide_eq_true_eq] at hf
    have hkp:k≠posL l c.sp.id:=fun e=>by
     subst e
     rw [List.getElem?_eq_getElem hk] at hf
     injection hf with hf;exact hne (by rw [hf])
    rw [List.eraseIdx_eq_take_drop_succ,List.mem_append]
    rcases Nat.lt_or_ge k (posL l c.sp.id) with q | q
    ·exact .inl (List.mem_iff_getElem.2 ⟨k,by rw [List.length_take];omega,List.getElem_take⟩)
    ·refine .inr (List.mem_iff_getElem.2 ⟨k-(posL l c.sp.id+1),by rw [List.length_drop];omega,?_⟩)
     rw [List.getElem_drop]
     congr 1;omega
   ·rename_i k1 k2
    unfold fitsL at hf
    rw [if_neg k1,if_neg k2] at hf
    have hkp:posL l c.sp.id≠k:=fun e=>by
     rw [e,List.getElem?_eq_getElem hk] at hf
     simp only [Bool.and_eq_true,decide_eq_true_eq] at hf
     exact hne hf.1
    refine List.mem_iff_getElem.2 ⟨k,by rw [List.length_set];exact hk,?_⟩
    rw [List.getElem_set_ne hkp]
 unfold lostI
 rw [e2]
 by_cases hw:isW c=true
 ·rw [if_pos hw]
  refine Nat.le_trans (filter_or _ (fun x=>!keepB l x) (fun x=>decide (x.id=c.sp.id)) a fun x _ hx=>?_) (Nat.add_le_add_left (one_id ha) _)
  by_cases e:x.id=c.sp.id
  ·exact .inr (by simpa using e)
  ·left
   rw [Bool.not_eq_true',Bool.eq_false_iff] at hx ⊢
   intro hk
   obtain⟨y,hy,e1,e3⟩:=keepB_iff.1 hk
   exact hx (keepB_iff.2 ⟨y,hoth y hy (fun e4=>e (by omega)),e1,e3⟩)
 ·rw [if_neg hw,Nat.add_zero]
  have k1:c.kind=1:=by
   unfold isW at hw
   simpa using hw
  have:=filter_or (fun x=>!keepB (makeL l c) x) (fun x=>!keepB l x) (fun _=>false) a fun x _ hx=>by
   left
   rw [Bool.not_eq_true',Bool.eq_false_iff] at hx ⊢
   intro hk
   obtain⟨y,hy,e1,e3⟩:=keepB_iff.1 hk
   refine hx (keepB_iff.2 ⟨y,hoth y hy (fun e4=>?_),e1,e3⟩)
   unfold fitsL at hf
   rw [if_pos k1] at hf
   have:=(hasL_iff (disp_ok.1 hd).2 c.sp.id).2 ⟨y,hy,e4⟩
   rw [this] at hf;cases hf
  have hz:(a.filter fun _=>false).length=0:=by simp
  omega
theorem run_lost{a:List Sp}{p:Int}(ha:okRun p a=true):∀ (cs:List Ch) (l m:List Sp),runD l cs=some m->lostI a m<=lostI a l+(cs.filter isW).length
 | [],l,m,h=>by rw [runD] at h;injection h with h;subst h;simp
 | c::cs,l,m,h=>by
  rw [runD] at h
  split at h
  ·rename_i e
   have h1:=lost_step ha e
   have h2:=run_lost ha cs _ m h
   rw [List.filter_cons]
   split
   ·rename_i hw;rw [if_pos hw] at h1;rw [List.length_cons];omega
   ·rename_i hw;rw [if_neg hw] at h1;omega
  ·cases h
theorem lost_self{a:List Sp}:lostI a a=0:=by
 unfold lostI
 rw [List.length_eq_zero_iff,List.filter_eq_nil_iff]
 intro x hx
 rw [keepB_iff.2 ⟨x,hx,rfl,rfl⟩];simp
theorem flatMap_cg{α β:Type}{f g:α->List β}:∀ {l:List α},(∀ x∈l,f x=g x)->l.flatMap f=l.flatMap g
 | [],_=>rfl
 | x::l,h=>by rw [List.flatMap_cons,List.flatMap_cons,h x (by simp),flatMap_cg fun y hy=>h y (by simp [hy])]
theorem any_cg{α:Type}{f g:α->Bool}:∀ {l:List α},(∀ x∈l,f x=g x)->l.any f=l.any g
 | [],_=>rfl
 | x::l,h=>by rw [List.any_cons,List.any_cons,h x (by simp),any_cg fun y hy=>h y (by simp [hy])]
def sid (l:List Sp) (i:Int):Option Sp:=l.find? fun s=>decide (s.id=i)
theorem sid_cons{x:Sp}{l:List Sp}{i:Int}:sid (x::l) i=if x.id=i then some x else sid l i:=by
 unfold sid
 rw [List.find?_cons]
 by_cases e:x.id=i
 ·rw [if_pos e,decide_eq_true e]
 ·rw [if_neg e,decide_eq_false e]
theorem sid_none{l:List Sp}{i:Int}(h:∀ x∈l,x.id≠i):sid l i=none:=by
 unfold sid
 rw [List.find?_eq_none]
 intro x hx
 simpa using h x hx
section
variable (t:Int) (ht:-9223372036854775808<=t∧t<9223372036854775808)
def difC:Option Sp->Option Sp->List Ch
 | some x,none=>[dropC t ht x]
 | none,some y=>[putC t ht y]
 | some x,some y=>if x.ver≠y.ver then [swapC t ht y] else []
 | none,none=>[]
end
def difB:Option Sp->Option Sp->Bool
 | some x,some y=>decide (x.ver=y.ver)&&decide (x≠y)
 | _,_=>false
def mids:List Sp->List Sp->List Int
 | [],[]=>[]
 | x::a,[]=>x.id::mids a []
 | [],y::b=>y.id::mids [] b
 | x::a,y::b =>
  if x.id<y.id then x.id::mids a (y::b)
  else if y.id<x.id then y.id::mids (x::a) b
  else x.id::mids a b
 termination_by a b=>a.length+b.length
theorem mids_mem:∀ (n:Nat) (a b:List Sp),a.length+b.length<=n->∀ z,z∈mids a b↔(∃ x∈a,x.id=z)∨∃ y∈b,y.id=z
 | _,[],[],_,z=>by rw [mids];simp
 | 0,_::_,_,h,_=>by simp at h
 | 0,[],_::_,h,_=>by simp at h
 | n+1,x::a,[],h,z=>by
  rw [mids,List.mem_cons,mids_mem n a [] (by simp at h ⊢;omega)]
  simp [eq_comm]
 | n+1,[],y::b,h,z=>by
  rw [mids,List.mem_cons,mids_mem n [] b (by simp at h ⊢;omega)]
  simp [eq_comm]
 | n+1,x::a,y::b,h,z=>by
  rw [mids]
  split
  ·rw [List.mem_cons,mids_mem n a (y::b) (by simp at h ⊢;omega)]
   simp only [List.mem_cons,exists_eq_or_imp,eq_comm (a:=z)]
   constructor
   ·rintro(q | q | q)
    ·exact .inl (.inl q)
    ·exact .inl (.inr q)
    ·exact .inr q
   ·rintro((q | q) | q)
    ·exact .inl q
    ·exact .inr (.inl q)
    ·exact .inr (.inr q)
  ·split
   ·rw [List.mem_cons,mids_mem n (x::a) b (by simp at h ⊢;omega)]
    simp only [List.mem_cons,exists_eq_or_imp,eq_comm (a:=z)]
    constructor
    ·rintro(q | q | q)
     ·exact .inr (.inl q)
     ·exact .inl q
     ·exact .inr (.inr q)
    ·rintro(q | q | q)
     ·exact .inr (.inl q)
     ·exact .inl q
     ·exact .inr (.inr q)
   ·have e:x.id=y.id:=by omega
    rw [List.mem_cons,mids_mem n a b (by simp at h ⊢;omega)]
    simp only [List.mem_cons,exists_eq_or_imp,eq_comm (a:=z)]
    constructor
    ·rintro(q | q | q)
     ·exact .inl (.inl q)
     ·exact .inl (.inr q)
     ·exact .inr (.inr q)
    ·rintro((q | q) | q | q)
     ·exact .inl q
     ·exact .inr (.inl q)
     ·exact .inl (by omega)
     ·exact .inr (.inr q)
theorem mids_lt:∀ (n:Nat) (p q:Int) (a b:List Sp),a.length+b.length<=n->okRun p a=true->okRun q b=true->(mids a b).Pairwise (· < ·)
 | _,_,_,[],[],_,_,_=>by rw [mids];exact .nil
 | 0,_,_,_::_,_,h,_,_=>by simp at h
 | 0,_,_,[],_::_,h,_,_=>by simp at h
 | n+1,p,q,x::a,[],h,h1,h2=>by
  rw [okRun_cons] at h1
  rw [mids,List.pairwise_cons]
  refine⟨fun z hz=>?_,mids_lt n x.id q a [] (by simp at h ⊢;omega) h1.2.2 h2⟩
  rcases (mids_mem n a [] (by simp at h ⊢;omega) z).1 hz with ⟨u,hu,rfl⟩ | ⟨u,hu,_⟩
  ·exact okRun_gt h1.2.2 u hu
  ·cases hu
 | n+1,p,q,[],y::b,h,h1,h2=>by
  rw [okRun_cons] at h2
  rw [mids,List.pairwise_cons]
  refine⟨fun z hz=>?_,mids_lt n p y.id [] b (by simp at h ⊢;omega) h1 h2.2.2⟩
  rcases (mids_mem n [] b (by simp at h ⊢;omega) z).1 hz with ⟨u,hu,_⟩ | ⟨u,hu,rfl⟩
  ·cases hu
  ·exact okRun_gt h2.2.2 u hu
 | n+1,p,q,x::a,y::b,h,h1,h2=>by
  have h1':=h1
  have h2':=h2
  rw [okRun_cons] at h1 h2
  have ga:=okRun_gt h1.2.2
  have gb:=okRun_gt h2.2.2
  rw [mids]
  split
  ·rename_i c1
   rw [List.pairwise_cons]
   refine⟨fun z hz=>?_,mids_lt n x.id q a (y::b) (by simp at h ⊢;omega) h1.2.2 h2'⟩
   rcases (mids_mem n a (y::b) (by simp at h ⊢;omega) z).1 hz with ⟨u,hu,rfl⟩ | ⟨u,hu,rfl⟩
   ·exact ga u hu
   ·rcases List.mem_cons.1 hu with rfl | hu
    ·exact c1
    ·have:=gb u hu;omega
  ·rename_i c1
   split
   ·rename_i c2
    rw [List.pairwise_cons]
    refine⟨fun z hz=>?_,mids_lt n p y.id (x::a) b (by simp at h ⊢;omega) h1' h2.2.2⟩
    rcases (mids_mem n (x::a) b (by simp at h ⊢;omega) z).1 hz with ⟨u,hu,rfl⟩ | ⟨u,hu,rfl⟩
    ·rcases List.mem_cons.1 hu with rfl | hu
     ·exact c2
     ·have:=ga u hu;omega
    ·exact gb u hu
   ·rename_i c2
    rw [List.pairwise_cons]
    refine⟨fun z hz=>?_,mids_lt n x.id y.id a b (by simp at h ⊢;omega) h1.2.2 h2.2.2⟩
    rcases (mids_mem n a b (by simp at h ⊢;omega) z).1 hz with ⟨u,hu,rfl⟩ | ⟨u,hu,rfl⟩
    ·exact ga u hu
    ·have:=gb u hu;omega
theorem mids_dif{t:Int}(ht:-9223372036854775808<=t∧t<9223372036854775808):∀ (n:Nat) (p q:Int) (a b:List Sp),a.length+b.length<=n->okRun p a=true->okRun q b=true ->
  ((mids a b).flatMap fun i=>difC t ht (sid a i) (sid b i))=mrg t ht a b∧((mids a b).any fun i=>difB (sid a i) (sid b i))=badM a b
 | _,_,_,[],[],_,_,_=>by rw [mids,mrg,badM] <;> simp
 | 0,_,_,_::_,_,h,_,_=>by simp at h
 | 0,_,_,[],_::_,h,_,_=>by simp at h
 | n+1,p,q,x::a,[],h,h1,h2=>by
  rw [okRun_cons] at h1
  have ga:=okRun_gt h1.2.2
  obtain⟨i1,i2⟩:=mids_dif ht n x.id q a [] (by simp at h ⊢;omega) h1.2.2 h2
  have hmem:=mids_mem n a [] (by simp at h ⊢;omega)
  have hsk:∀ i∈mids a [],sid (x::a) i=sid a i:=fun i hi=>by
   rw [sid_cons,if_neg]
   intro e
   rcases (hmem i).1 hi with ⟨u,hu,rfl⟩ | ⟨u,hu,_⟩
   ·have:=ga u hu;omega
   ·cases hu
  rw [mids,mrg,List.flatMap_cons,List.any_cons,sid_cons,if_pos rfl]
  refine⟨?_,?_⟩
  ·rw [flatMap_cg (g:=fun i=>difC t ht (sid a i) (sid [] i)) (fun i hi=>by rw [hsk i hi]),i1];rfl
  ·have:(mids a []).any (fun i=>difB (sid (x::a) i) (sid [] i))=(mids a []).any fun i=>difB (sid a i) (sid [] i):=any_cg fun i hi=>by rw [hsk i hi]
   rw [this,i2]
   cases a <;> rw [badM,badM] <;> simp [difB,sid]
 | n+1,p,q,[],y::b,h,h1,h2=>by
  rw [okRun_cons] at h2
  have gb:=okRun_gt h2.2.2
  obtain⟨i1,i2⟩:=mids_dif ht n p y.id [] b (by simp at h ⊢;omega) h1 h2.2.2
  have hmem:=mids_mem n [] b (by simp at h ⊢;omega)
  have hsk:∀ i∈mids [] b,sid (y::b) i=sid b i:=fun i hi=>by
   rw [sid_cons,if_neg]
   intro e
   rcases (hmem i).1 hi with ⟨u,hu,_⟩ | ⟨u,hu,rfl⟩
   ·cases hu
   ·have:=gb u hu;omega
  rw [mids,mrg,List.flatMap_cons,List.any_cons,sid_cons,if_pos rfl]
  refine⟨?_,?_⟩
  ·rw [flatMap_cg (g:=fun i=>difC t ht (sid [] i) (sid b i)) (fun i hi=>by rw [hsk i hi]),i1];rfl
  ·have:(mids [] b).any (fun i=>difB (sid [] i) (sid (y::b) i))=(mids [] b).any fun i=>difB (sid [] i) (sid b i):=any_cg fun i hi=>by rw [hsk i hi]
   rw [this,i2]
   cases b <;> rw [badM,badM] <;> simp [difB,sid]
 | n+1,p,q,x::a,y::b,h,h1,h2=>by
  have h1':=h1
  have h2':=h2
  rw [okRun_cons] at h1 h2
  have ga:=okRun_gt h1.2.2
  have gb:=okRun_gt h2.2.2
  rw [mids,mrg,badM]
  split
  ·rename_i c1
   obtain⟨i1,i2⟩:=mids_dif ht n x.id q a (y::b) (by simp at h ⊢;omega) h1.2.2 h2'
   have hmem:=mids_mem n a (y::b) (by simp at h ⊢;omega)
   have hsk:∀ i∈mids a (y::b),sid (x::a) i=sid a i:=fun i hi=>by
    rw [sid_cons,if_neg]
    intro e
    rcases (hmem i).1 hi with ⟨u,hu,rfl⟩ | ⟨u,hu,rfl⟩
    ·have:=ga u hu;omega
    ·rcases List.mem_cons.1 hu with rfl | hu
     ·omega
     ·have:=gb u hu;omega
   have hn:sid (y::b) x.id=none:=sid_none fun u hu=>by
    rcases List.mem_cons.1 hu with rfl | hu
    ·omega
    ·have:=gb u hu;omega
   rw [List.flatMap_cons,List.any_cons,sid_cons,if_pos rfl,hn]
   refine⟨?_,?_⟩
   ·rw [flatMap_cg (g:=fun i=>difC t ht (sid a i) (sid (y::b) i)) (fun i hi=>by rw [hsk i hi]),i1];rfl
   ·have:(mids a (y::b)).any (fun i=>difB (sid (x::a) i) (sid (y::b) i))=(mids a (y::b)).any fun i=>difB (sid a i) (sid (y::b) i):=any_cg fun i hi=>by rw [hsk i hi]
    rw [this,i2];simp [difB]
  ·rename_i c1
   split
   ·rename_i c2
    obtain⟨i1,i2⟩:=mids_dif ht n p y.id (x::a) b (by simp at h ⊢;omega) h1' h2.2.2
    have hmem:=mids_mem n (x::a) b (by simp at h ⊢;omega)
    have hsk:∀ i∈mids (x::a) b,sid (y::b) i=sid b i:=fun i hi=>by
     rw [sid_cons,if_neg]
     intro e
     rcases (hmem i).1 hi with ⟨u,hu,rfl⟩ | ⟨u,hu,rfl⟩
     ·rcases List.mem_cons.1 hu with rfl | hu
      ·omega
      ·have:=ga u hu;omega
     ·have:=gb u hu;omega
    have hn:sid (x::a) y.id=none:=sid_none fun u hu=>by
     rcases List.mem_cons.1 hu with rfl | hu
     ·omega
     ·have:=ga u hu;omega
    rw [List.flatMap_cons,List.any_cons,hn,sid_cons (l:=b),if_pos rfl]
    refine⟨?_,?_⟩
    ·rw [flatMap_cg (g:=fun i=>difC t ht (sid (x::a) i) (sid b i)) (fun i hi=>by rw [hsk i hi]),i1];rfl
    ·have:(mids (x::a) b).any (fun i=>difB (sid (x::a) i) (sid (y::b) i))=(mids (x::a) b).any fun i=>difB (sid (x::a) i) (sid b i):=any_cg fun i hi=>by rw [hsk i hi]
     rw [this,i2];simp [difB]
   ·rename_i c2
    have hid:x.id=y.id:=by omega
    obtain⟨i1,i2⟩:=mids_dif ht n x.id y.id a b (by simp at h ⊢;omega) h1.2.2 h2.2.2
    have hmem:=mids_mem n a b (by simp at h ⊢;omega)
    have hne:∀ i∈mids a b,x.id<i:=fun i hi=>by
     rcases (hmem i).1 hi with ⟨u,hu,rfl⟩ | ⟨u,hu,rfl⟩
     ·exact ga u hu
     ·have:=gb u hu;omega
    have hsk:∀ i∈mids a b,sid (x::a) i=sid a i∧sid (y::b) i=sid b i:=fun i hi=>by
     have:=hne i hi
     exact⟨by rw [sid_cons,if_neg (by omega)],by rw [sid_cons,if_neg (by omega)]⟩
    rw [List.flatMap_cons,List.any_cons,sid_cons (x:=x),if_pos rfl,sid_cons (x:=y),if_pos hid.symm]
    refine⟨?_,?_⟩
    ·rw [flatMap_cg (g:=fun i=>difC t ht (sid a i) (sid b i)) (fun i hi=>by rw [(hsk i hi).1,(hsk i hi).2]),i1]
     show (if x.ver≠y.ver then [swapC t ht y] else [])++mrg t ht a b=_
     by_cases c3:x.ver≠y.ver
     ·rw [if_pos c3,if_pos c3];rfl
     ·rw [if_neg c3,if_neg c3];rfl
    ·have:(mids a b).any (fun i=>difB (sid (x::a) i) (sid (y::b) i))=(mids a b).any fun i=>difB (sid a i) (sid b i):=any_cg fun i hi=>by rw [(hsk i hi).1,(hsk i hi).2]
     rw [this,i2];rfl
def shD (cs:List Ch) (k:Nat):List Sp:=(runD [] (cs.take k)).getD []
def noteOk (cs:List Ch) (lang:Int) (x:Nt):Prop:=x.lang=lang->∃ k:Nat,k<cs.length∧x.seq=(k:Int)∧cs[k]?=some x.ch
theorem findN_told{p:List Nt}{cs:List Ch}{lang:Int}(h:∀ x∈p,noteOk cs lang x){j:Nat}{c:Ch}(hf:findN p lang j=some c):j<cs.length∧cs[j]?=some c:=by
 rw [findN_eq] at hf
 cases hx:p.find? (isN lang j) with
 | none=>rw [hx] at hf;cases hf
 | some y =>
  rw [hx] at hf
  injection hf with hf
  have h0:=List.find?_some hx
  unfold isN at h0
  obtain⟨e1,e2⟩:y.lang=lang∧y.seq=(j:Int):=of_decide_eq_true h0
  obtain⟨k,hk,e3,e4⟩:=h y (List.mem_of_find?_eq_some hx) e1
  have hjk:k=j:=by omega
  subst hjk
  rw [<- hf]
  exact⟨hk,e4⟩
theorem run_take{cs:List Ch}{y:List Sp}(h:runD [] cs=some y) (k:Nat):∃ x,runD [] (cs.take k)=some x:=by
 rw [<- List.take_append_drop k cs,runD_app] at h
 cases hx:runD [] (cs.take k) with
 | none=>rw [hx] at h;cases h
 | some x=>exact⟨x,rfl⟩
theorem run_next{cs:List Ch}{y x:List Sp}{c:Ch}{k:Nat}(h:runD [] cs=some y) (hx:runD [] (cs.take k)=some x) (hc:cs[k]?=some c):doDE x c=0∧runD [] (cs.take (k+1))=some (doDL x c):=by
 obtain⟨hk,e⟩:=List.getElem?_eq_some_iff.1 hc
 obtain⟨z,hz⟩:=run_take h (k+1)
 have h2:=hz
 rw [List.take_succ_eq_append_getElem hk,runD_app,hx,Option.bind_some,e,runD] at h2
 by_cases e0:doDE x c=0
 ·rw [if_pos e0,runD] at h2
  exact⟨e0,by rw [hz,<- h2]⟩
 ·rw [if_neg e0] at h2;cases h2
theorem seen_shown{p:List Nt}{cs:List Ch}{lang:Int}{y:List Sp}(h:∀ x∈p,noteOk cs lang x) (hr:runD [] cs=some y):∀ (f:Nat) (x:List Sp) (k:Nat),k<=cs.length->runD [] (cs.take k)=some x->runD [] (cs.take (seenN p lang f x k).2)=some (seenN p lang f x k).1∧(seenN p lang f x k).2<=cs.length
 | 0,x,k,hk,hx=>⟨hx,hk⟩
 | f+1,x,k,hk,hx=>by
  cases hf:findN p lang k with
  | none =>
   have e:seenN p lang (f+1) x k=(x,k):=by rw [seenN,hf]
   rw [e];exact⟨hx,hk⟩
  | some c =>
   obtain⟨h1,h2⟩:=findN_told h hf
   obtain⟨h3,h4⟩:=run_next hr hx h2
   have e:seenN p lang (f+1) x k=seenN p lang f (doDL x c) (k+1):=by rw [seenN,hf];simp only;rw [if_pos h3]
   rw [e]
   exact seen_shown h hr f (doDL x c) (k+1) h1 h4
theorem seen_upto{p:List Nt}{cs:List Ch}{lang:Int}{y:List Sp}{K:Nat}(hr:runD [] cs=some y) (hK:K<=cs.length) (hf:∀ j:Nat,findN p lang j=if j<K then cs[j]? else none):∀ (f:Nat) (x:List Sp) (k:Nat),k<=K->K<f+k->runD [] (cs.take k)=some x->∃ z,seenN p lang f x k=(z,K)∧runD [] (cs.take K)=some z
 | 0,x,k,hk,hl,hx=>absurd hl (by omega)
 | f+1,x,k,hk,hl,hx=>by
  by_cases e:k=K
  ·subst e
   have h1:=hf k
   rw [if_neg (Nat.lt_irrefl _)] at h1
   exact⟨x,by rw [seenN,h1],hx⟩
  ·have h1:=hf k
   rw [if_pos (by omega)] at h1
   obtain⟨c,hc⟩:∃ c,cs[k]?=some c:=⟨_,List.getElem?_eq_getElem (by omega)⟩
   rw [hc] at h1
   obtain⟨h3,h4⟩:=run_next hr hx hc
   have e2:seenN p lang (f+1) x k=seenN p lang f (doDL x c) (k+1):=by rw [seenN,h1];simp only;rw [if_pos h3]
   rw [e2]
   exact seen_upto hr hK hf f (doDL x c) (k+1) (by omega) (by omega) h4
theorem findN_all{p:List Nt}{cs:List Ch}{lang:Int}{K:Nat}(h:∀ x∈p,noteOk cs lang x) (h1:∀ j:Nat,j<K->∃ x∈p,x.lang=lang∧x.seq=(j:Int)) (h2:∀ x∈p,x.lang=lang->x.seq<(K:Int)) (j:Nat):findN p lang j=if j<K then cs[j]? else none:=by
 cases hf:findN p lang j with
 | some c =>
  obtain⟨_,e⟩:=findN_told h hf
  rw [findN_eq] at hf
  cases hx:p.find? (isN lang j) with
  | none=>rw [hx] at hf;cases hf
  | some y =>
   have h0:=List.find?_some hx
   unfold isN at h0
   obtain⟨e1,e2⟩:y.lang=lang∧y.seq=(j:Int):=of_decide_eq_true h0
   have:=h2 y (List.mem_of_find?_eq_some hx) e1
   rw [if_pos (by omega),e]
 | none =>
  by_cases hj:j<K
  ·obtain⟨x,hx,e1,e2⟩:=h1 j hj
   rw [findN_eq,Option.map_eq_none_iff,List.find?_eq_none] at hf
   have:=hf x hx
   unfold isN at this
   exact absurd (decide_eq_true ⟨e1,e2⟩) this
  ·rw [if_neg hj]
theorem seen_K{p:List Nt}{cs:List Ch}{lang:Int}{K:Nat}{y:List Sp}(hp:okPe p=true) (hl:0<=lang) (hl2:lang<32) (hr:runD [] cs=some y) (hK:K<=cs.length) (hf:∀ j:Nat,findN p lang j=if j<K then cs[j]? else none):seenR p lang=(shD cs K,K)∧seenE p lang=0:=by
 have hlen:K<=p.length:=seen_len fun j hj=>by
  rw [hf j,if_pos hj,List.getElem?_eq_getElem (by omega)];rfl
 obtain⟨z,h1,h2⟩:=seen_upto hr hK hf (p.length+1) [] 0 (Nat.zero_le _) (by omega) rfl
 refine⟨?_,seenE_0 hp hl hl2⟩
 rw [seenR_0 hp hl hl2,h1]
 unfold shD
 rw [h2];rfl
theorem seen_some{p:List Nt}{cs:List Ch}{lang:Int}{y:List Sp}(hp:okPe p=true) (hl:0<=lang) (hl2:lang<32) (hr:runD [] cs=some y) (h:∀ x∈p,noteOk cs lang x):∃ k,k<=cs.length∧seenR p lang=(shD cs k,k)∧seenE p lang=0:=by
 obtain⟨h1,h2⟩:=seen_shown h hr (p.length+1) [] 0 (Nat.zero_le _) rfl
 refine⟨_,h2,?_,seenE_0 hp hl hl2⟩
 rw [seenR_0 hp hl hl2]
 unfold shD
 rw [h1];rfl
structure TopI (n T:Nat) (told:List Nt) (r:Rm):Prop where
 inv:InvR n told r
 ok:okNs none told=true
 k0:∀ x∈told,x∈r.ps.getD 0 []
 tl:told.length<=T
 ql:r.net.q.length<=4*T
theorem top_new{n:Nat}:TopI n 0 [] ⟨List.replicate n [],⟨[],[]⟩⟩:=⟨⟨by simp,rfl,fun l hl=>by
  rw [List.eq_of_mem_replicate hl]
  exact⟨rfl,fun x hx=>(by cases hx)⟩,fun p hp=>(by cases hp)⟩,rfl,fun x hx=>(by cases hx),Nat.le_refl _,Nat.le_refl _⟩
theorem top_tell{n T:Nat}{told:List Nt}{r:Rm}{m:Mv}(h:TopI n T told r) (h1:1<=n) (h2:n<=3) (hT:T<16) (hk:m.kind=1) (hp:m.peer=0) (ho:okNt m.note=true) :
  ∃ x,mvR r m=(x,0)∧InvR n (lrnL told m.note) x∧okNs none (lrnL told m.note)=true∧(∀ y,y∈lrnL told m.note↔y∈told∨y=m.note)∧(∀ y∈lrnL told m.note,y∈x.ps.getD 0 [])∧(lrnL told m.note).length<=T+1∧x.net.q.length<=4*T+3:=by
 have t1:=h.tl
 have t2:=h.ql
 have hm:=mv_tell h.inv h1 (by omega) (by omega) (by omega) hk (i:=0) (by omega) (by omega) ho
 have hst:StepR n told r m _:=.tell 0 hk (by omega) (by omega) ho
 obtain⟨a,b,c,d⟩:=lrn_ok h.ok ho (lrn_small (by omega))
 have hinv:=step_inv h.inv hst (by omega) (told':=lrnL told m.note) (fun y hy=>(b y).2 (.inl hy)) (fun _=>(b _).2 (.inr rfl))
 have h0:0<r.ps.length:=by rw [h.inv.len];omega
 have hpe:=h.inv.pe _ (List.getElem_mem h0)
 refine⟨_,hm,hinv,a,b,fun y hy=>?_,by omega,?_⟩
 ·rcases (b y).1 hy with e | e
  ·exact step_mono h.inv hst (by omega) 0 y (h.k0 y e)
  ·subst e
   rw [set_getD h0,if_pos rfl,getD_ps h0]
   exact((lrn_in hpe.1 hpe.2 ho (by omega)).2 _).2 (.inr rfl)
 ·have:=tellQ_len n 0 m.note
  simp only [List.length_append];omega
theorem top_other{n:Nat}{told:List Nt}{r:Rm}{m:Mv}{j:Nat}(hinv:InvR n told r) (h0:∀ y∈told,y∈r.ps.getD 0 []) (h1:1<=n) (h2:n<=3) (hT:told.length<=16) (hq:r.net.q.length<=100) (hk:m.kind=3∨m.kind=4∨m.kind=5) (hm:m.at_=j) (hj:j<r.net.q.length) :
  ∃ x,mvR r m=(x,0)∧InvR n told x∧(∀ y∈told,y∈x.ps.getD 0 [])∧x.net.q.length<=r.net.q.length+1:=by
 have key:∀ x,StepR n told r m x->mvR r m=(x,0)->x.net.q.length<=r.net.q.length+1->∃ x,mvR r m=(x,0)∧InvR n told x∧(∀ y∈told,y∈x.ps.getD 0 [])∧x.net.q.length<=r.net.q.length+1:=fun x hst he hl =>
  ⟨x,he,step_inv hinv hst (by omega) (fun y hy=>hy) (fun e=>by omega),fun y hy=>step_mono hinv hst (by omega) 0 y (h0 y hy),hl⟩
 rcases hk with hk | hk | hk
 ·obtain⟨a,b,y,e1,e2,e3,e4,e5,e6,e7⟩:=mv_dlv hinv h1 (by omega) (by omega) (by omega) hk hm hj
  refine key _ (.dlv j a b y hk hj e1 e3 e6 e5) e7 ?_
  have:=List.length_eraseIdx_le r.net.q j
  simp only;omega
 ·refine key _ (.lose j hk) (mv_lose hinv h1 (by omega) (by omega) (by omega) hk hm hj) ?_
  have:=List.length_eraseIdx_le r.net.q j
  simp only;omega
 ·refine key _ (.rep j hk hj) (mv_rep hinv h1 (by omega) (by omega) (by omega) hk hm hj) ?_
  simp only [List.length_append,List.length_singleton];omega
structure Vi where
 at_:Int
 who:Int
 kind:Int
 lang:Int
 ha:-9223372036854775808<=at_∧at_<9223372036854775808
 hw:-9223372036854775808<=who∧who<9223372036854775808
 hk:-9223372036854775808<=kind∧kind<9223372036854775808
 hl:-9223372036854775808<=lang∧lang<9223372036854775808
def dVi (x:Vi):D:=.agg [dI x.at_,dI x.who,dI x.kind,dI x.lang]
theorem dVi_cells(x:Vi):(dVi x).cells=[dI x.at_,dI x.who,dI x.kind,dI x.lang]:=rfl
theorem dVi_isAgg(x:Vi):(dVi x).isAgg=true:=rfl
theorem dVi_noTup(x:Vi):(AV.d (dVi x)).noTup=true:=rfl
theorem dVi_nt(x:Vi) (ds:List D):(dVi x=.tup ds)=False:=by simp [dVi]
abbrev Au:=List (Int×(Bool×Int))
def vGet (A:Au) (w:Int):Option (Bool×Int):=(A.find? fun e=>e.1 == w).map (·.2)
def vSet (w:Int) (v:Bool×Int):Au->Au
 | []=>[]
 | e::r=>if e.1=w then (e.1,v)::r else e::vSet w v r
theorem mem_vSet{w:Int}{v:Bool×Int}:∀ {A:Au}{e:Int×(Bool×Int)},e∈vSet w v A->e∈A∨e.2=v
 | [],e,h=>by cases h
 | x::r,e,h=>by
  unfold vSet at h
  split at h
  ·rcases List.mem_cons.1 h with h | h
   ·subst h;exact .inr rfl
   ·exact .inl (List.mem_cons_of_mem _ h)
  ·rcases List.mem_cons.1 h with h | h
   ·subst h;exact .inl (List.mem_cons_self ..)
   ·exact(mem_vSet h).imp (List.mem_cons_of_mem _) id
def vPut (A:Au) (w:Int) (v:Bool×Int):Au:=match vGet A w with
 | none=>A++[(w,v)]
 | some _=>vSet w v A
def vDo (kind lang:Int):Option (Bool×Int)->Option (Bool×Int)
 | none=>if kind=1 then some (true,lang) else none
 | some (on,l)=>if kind=2 then some (on,lang) else if kind=3∧on=true∧lang=0 then some (false,l) else if kind=4∧on=false∧lang=0 then some (true,l) else none
def okVi (x:Vi):Bool:=okTm x.at_&&(decide (0<=x.who)&&(decide (x.who<100000)&&(decide (1<=x.kind)&&(decide (x.kind<=4)&&(decide (0<=x.lang)&&decide (x.lang<32))))))
def perfV (A:Au) (x:Vi):Option Au:=if okVi x=true then (vDo x.kind x.lang (vGet A x.who)).map (vPut A x.who) else none
def badV:Au->Int->List Vi->Bool
 | _,_,[]=>false
 | A,last,x::r=>if x.at_<last then true else match perfV A x with
  | none=>true
  | some A'=>badV A' x.at_ r
def visE (l:List Vi):Int:=if 4096<l.length then 2 else if badV [] 0 l=true then 520 else 0
def untV (t:Int):Au->List Vi->Au
 | A,[]=>A
 | A,x::r=>if t<x.at_ then A else untV t ((perfV A x).getD A) r
def okAu (A:Au):Prop:=∀ e∈A,0<=e.2.2∧e.2.2<32
theorem vGet_mem{A:Au}{w:Int}{v:Bool×Int}(h:vGet A w=some v):(w,v)∈A:=by
 unfold vGet at h
 cases hx:A.find? (fun e=>e.1 == w) with
 | none=>rw [hx] at h;cases h
 | some e =>
  rw [hx] at h
  injection h with h
  have h1:=List.find?_some hx
  simp only [beq_iff_eq] at h1
  have h2:=List.mem_of_find?_eq_some hx
  obtain⟨e1,e2⟩:=e
  simp only at h h1
  subst h;subst h1;exact h2
theorem okAu_put{A:Au}{w:Int}{v:Bool×Int}(h:okAu A) (hv:0<=v.2∧v.2<32):okAu (vPut A w v):=by
 unfold vPut
 split
 ·intro e he
  rcases List.mem_append.1 he with q | q
  ·exact h e q
  ·rw [List.mem_singleton] at q;subst q;exact hv
 ·intro e he
  rcases mem_vSet he with q | q
  ·exact h e q
  ·rw [q];exact hv
theorem okAu_perf{A A':Au}{x:Vi}(h:okAu A) (hp:perfV A x=some A'):okAu A':=by
 unfold perfV at hp
 split at hp
 ·rename_i hx
  have hl:0<=x.lang∧x.lang<32:=by
   unfold okVi at hx
   simp only [Bool.and_eq_true,decide_eq_true_eq] at hx
   exact hx.2.2.2.2.2
  cases hd:vDo x.kind x.lang (vGet A x.who) with
  | none=>rw [hd] at hp;cases hp
  | some v =>
   rw [hd] at hp
   injection hp with hp;subst hp
   refine okAu_put h ?_
   cases hg:vGet A x.who with
   | none =>
    rw [hg] at hd
    unfold vDo at hd
    simp only at hd
    split at hd
    ·injection hd with hd;subst hd;exact hl
    ·cases hd
   | some u =>
    have hu:=h _ (vGet_mem hg)
    rw [hg] at hd
    obtain⟨on,l⟩:=u
    unfold vDo at hd
    simp only at hd hu
    split at hd
    ·injection hd with hd;subst hd;exact hl
    ·split at hd
     ·injection hd with hd;subst hd;exact hu
     ·split at hd
      ·injection hd with hd;subst hd;exact hu
      ·cases hd
 ·cases hp
theorem okAu_unt{t:Int}:∀ {l:List Vi}{A:Au},okAu A->okAu (untV t A l)
 | [],A,h=>h
 | x::r,A,h=>by
  rw [untV]
  split
  ·exact h
  ·refine okAu_unt ?_
   cases hp:perfV A x with
   | none=>exact h
   | some A'=>exact okAu_perf h hp
theorem bad_who:∀ {l:List Vi}{A:Au}{last:Int},badV A last l=false->∀ x∈l,okVi x=true
 | [],_,_,_,x,hx=>by cases hx
 | y::r,A,last,h,x,hx=>by
  rw [badV] at h
  split at h
  ·cases h
  ·cases hp:perfV A y with
   | none=>rw [hp] at h;cases h
   | some A' =>
    rw [hp] at h
    rcases List.mem_cons.1 hx with rfl | hx
    ·unfold perfV at hp
     split at hp
     ·assumption
     ·cases hp
    ·exact bad_who h x hx
def seeV (l:List Vi) (who t:Int):Int×Bool:=match vGet (untV t [] l) who with
 | some (true,lg)=>(lg,true)
 | _=>(0,false)
theorem seeV_r(l:List Vi) (who t:Int):0<=(seeV l who t).1∧(seeV l who t).1<32:=by
 unfold seeV
 split
 ·rename_i lg h
  exact okAu_unt (t:=t) (l:=l) (A:=[]) (fun e he=>by cases he) _ (vGet_mem h)
 ·exact⟨by simp,by simp⟩
end

section
attribute [local simp] dZ_agg dZ_nt dZ_noTup dZ_cells dZ_one bz_toList bz_size strV dSp_cells dSp_isAgg dSp_noTup dSp_nt dCh_cells dCh_isAgg dCh_noTup dCh_nt
set_option maxRecDepth 8000
set_option maxHeartbeats 4000000
def okTms:Int->List Ch->Bool
 | _,[]=>true
 | t,c::r=>okCh c&&(decide (t<=c.at_)&&okTms c.at_ r)
def chsE (l:List Ch):Int:=if 4096<l.length then 2 else if okTms 0 l then 0 else 490
def zChT:Ch:=⟨0,0,⟨0,0,[],by omega,by omega⟩,by omega,by omega⟩
theorem okCh_at{c:Ch}(h:okCh c=true):0<=c.at_∧c.at_<1099511627776:=by
 unfold okCh okTm at h
 simp only [Bool.and_eq_true,decide_eq_true_eq] at h
 exact h.1
theorem okTms_cons{t:Int}{c:Ch}{r:List Ch}:okTms t (c::r)=true↔okCh c=true∧t<=c.at_∧okTms c.at_ r=true:=by simp [okTms]
theorem chsE_0{l:List Ch}:chsE l=0↔l.length<=4096∧okTms 0 l=true:=by
 unfold chsE
 by_cases h:4096<l.length
 ·rw [if_pos h];simp;omega
 ·rw [if_neg h]
  cases okTms 0 l
  ·simp
  ·simp;omega
inductive C610:FuncId->List D->Out->Prop
 | right (c:Ch):C610 21 [dCh c] (.ret (dB (okCh c)))
theorem h610:∀ f ds out,C610 f ds out->PCall Tryz.prog f ds out:=by
 intro f ds out h
 cases h with
 | right c=>exact rRightC c
theorem rChanges(l:List Ch):PCall Tryz.prog 5 [.sl 5 (l.map dCh)] (.ret (dI (chsE l))):=by
 refine pcall_of_vc h610 c5 (by simp [a5]) fun hr=>?_
 have hlen:=(hr (.sl 5 (l.map dCh)) (by simp)).sl.1
 simp at hlen
 simp [a5]
 unfold chsE
 refine⟨fun q1=>leD_of_eq (by rw [if_pos (by omega)]),fun q1=>?_⟩
 rw [if_neg (by omega)]
 refine vc_loopK [0] Nat (fun y=>[(3,true,.d (dI y))]) (fun y=>[]) (fun y=>y<=l.length∧okTms (if y=0 then 0 else (l.getD (y-1) zChT).at_) (l.drop y)=okTms 0 l) (fun y=>l.length-y) 0 (by simp) ⟨[],[],?_⟩ (fun k hk=>?_)
 ·simp
 obtain⟨h1,h2⟩:=hk
 simp
 refine⟨fun hlt=>?_,fun hge=>?_⟩
 ·rw [List.drop_eq_getElem_cons hlt,okTms] at h2
  have hrt:=C610.right l[k]
  have hsp:∀ y:Ch,okCh y=true->0<=y.at_:=fun y h=>(okCh_at h).1
  cases hp:okCh l[k] with
  | false =>
   rw [hp] at hrt h2
   refine vc_pathD [.ret (dB false)] ?_
   simp [hlt] at hrt h2 ⊢
   refine⟨hrt,rfl,leD_of_eq (by simp [h2])⟩
  | true =>
   have h0:=hsp _ hp
   rw [hp] at hrt h2
   refine vc_pathD [.ret (dB true)] ?_
   cases k with
   | zero =>
    have hm:(0:Int)<=l[0].at_:=by omega
    simp [hlt,hm] at hrt h2 ⊢
    refine⟨hrt,rfl,1,⟨by omega,?_⟩,by omega,[],[],?_⟩
    ·simp [List.getD,hlt];simpa using h2
    ·rw [wrap64 (by omega)];simp
   | succ k =>
    have hk':k<l.length:=by omega
    have hw:IntKind.i64.wrap (k:Int)=k:=wrap64 (by omega)
    simp only [Nat.add_eq_zero_iff,Nat.one_ne_zero,and_false,if_false,Nat.add_sub_cancel] at h2
    have hgd:(l.getD k zChT)=l[k]:=by simp [List.getD,hk']
    rw [hgd] at h2
    have hb1:(0:Int)<=(k:Int)+1:=by omega
    have hb2:(k:Int)+1<(l.length:Int):=by omega
    by_cases q5:l[k].at_<=l[k+1].at_
    ·have q5':¬ l[k+1].at_<l[k].at_:=by omega
     simp [hlt,hk',hw,q5,q5',hb1,hb2] at hrt h2 ⊢
     refine⟨hrt,rfl,k+2,⟨by omega,?_⟩,by omega,[],[],?_⟩
     ·simp [List.getD,hlt];exact h2
     ·rw [wrap64 (by omega)];simp
      exact leD_of_eq (by congr 2)
    ·have q5':l[k+1].at_<l[k].at_:=by omega
     simp [hlt,hk',hw,q5,q5',hb1,hb2] at hrt h2 ⊢
     exact⟨hrt,rfl,leD_of_eq (by simp [h2])⟩
 ·have:k=l.length:=by omega
  subst this
  rw [List.drop_length,okTms] at h2
  exact leD_of_eq (by rw [<- h2];rfl)
def untL (l:List Ch) (t:Int):List Ch:=l.takeWhile fun c=>decide (c.at_<=t)
def plD (l:List Ch) (t:Int):List Sp:=(runD [] (untL l t)).getD []
theorem dUntil(l:List Ch) (t:Int):PCall Tryz.prog 81 [.sl 5 (l.map dCh),dI t] (.ret (.fn (.func 113) [] [.ip (.sl 5 (l.map dCh)),.ip (dI t)])):=by
 refine pcall_of_vcZ (C:=fun _ _ _=>False) (by rintro _ _ _ ⟨⟩) c81 (by simp [a81]) 4 fun hr=>?_
 simp [a81]
inductive C611:FuncId->List D->Out->Prop
 | need_t (n:Int):C611 57 [dB true,dI n] (.ret (.tup []))
 | right (x:Sp):C611 58 [dSp x] (.ret (dB (okSp x)))
 | time (n:Int):C611 67 [dI n] (.ret (dB (okTm n)))
 | kinds:C611 25 [] (.retM kMapD)
 | unt (l:List Ch) (t:Int):C611 81 [.sl 5 (l.map dCh),dI t] (.ret (.fn (.func 113) [] [.ip (.sl 5 (l.map dCh)),.ip (dI t)]))
 | search (l:List Sp) (id m:Int) (hl:okRun m l=true) (hlen:l.length<=100000):C611 68 [.sl 3 (l.map dSp),.agg [],.fn (.func 69) [dI id] []] (.ret (.tup [dI (posL l id),dB (hasL l id)]))
 | search0 (id:Int):C611 68 [.nil 3,.agg [],.fn (.func 69) [dI id] []] (.ret (.tup [dI 0,dB false]))
theorem h611:∀ f ds out,C611 f ds out->PCall Tryz.prog f ds out:=by
 intro f ds out h
 cases h with
 | need_t n=>exact dNeed_t n
 | right x=>exact dRight x
 | time x=>exact dTime x
 | kinds=>exact dKinds
 | unt l t=>exact dUntil l t
 | search l id m hl hlen=>exact dSearch l id m hl hlen
 | search0 id=>exact(dSearch [] id (-1) rfl (by simp)).le (.cons (.nil 3) (.cons (LeD.refl _) (.cons (LeD.refl _) .nil)))
theorem untL_cons{c:Ch}{r:List Ch}{t:Int}:untL (c::r) t=if c.at_<=t then c::untL r t else []:=by
 unfold untL
 rw [List.takeWhile_cons]
 by_cases h:c.at_<=t
 ·rw [if_pos h,if_pos (decide_eq_true h)]
 ·rw [if_neg h,if_neg (by simpa using h)]
def boxP:Option (List Sp)->List (Nat×HO)
 | none=>[(2,.box false [.d (.nil 3)])]
 | some x=>[(2,.box false [.bsl 7 0 3 x.length x.length]),(7,.box true (wr (x.map dSp)))]
theorem boxP_none:boxP none=[(2,.box false [.d (.nil 3)])]:=rfl
theorem boxP_some(x:List Sp):boxP (some x)=[(2,.box false [.bsl 7 0 3 x.length x.length]),(7,.box true (wr (x.map dSp)))]:=rfl
theorem wrS_one(x:List Sp):∀ c∈wr (x.map dSp),c.one=true:=Go.Proofs.YtmmlicjkdeankaaGreatDoor.AL.wr_one fun c hc=>by
 unfold D.flat at hc
 obtain⟨e,he,hc⟩:=List.mem_flatMap.1 hc
 obtain⟨s,_,rfl⟩:=List.mem_map.1 he
 rw [dSp_cells] at hc
 simp only [List.mem_cons,List.not_mem_nil,or_false] at hc
 rcases hc with rfl | rfl | rfl
 ·rfl
 ·rfl
 ·exact dZ_one _
theorem chK{c:Ch}(h:okCh c=true):c.kind=1∨c.kind=2∨c.kind=3:=by
 have:=okCh_sp h
 omega
theorem dPlay(l:List Ch) (t:Int) (y:List Sp) (h1:l.length<=4096) (h2:okTms 0 l=true) (h3:okTm t=true) (h4:runD [] l=some y):PCall Tryz.prog 12 [.sl 5 (l.map dCh),dI t] (.ret (.tup [.sl 3 ((plD l t).map dSp),dI 0])):=by
 refine pcall_of_vcZ h611 c12 (by simp [a12]) 4 fun hr=>?_
 simp [a12]
 refine regS_path [] ?_
 simp
 refine regS_path [] ?_
 simp
 refine icall_T (TF Tryz.prog a37) (hcall_of_vc c37) ?_
 have q1:(l.length:Int)<=4096:=by omega
 simp [a37,q1]
 refine vc_path [.ret (.tup [])] ?_
 simp [q1]
 refine⟨.need_t 2,vc_path [.retM kMapD] ?_⟩
 simp [kMapD,fnD]
 refine⟨.kinds,?_⟩
 refine vc_loopK [0,1,5,6,7,17,18] (Nat×Int) (fun y=>[(19,true,.d (dI y.1)),(8,true,.d (dI y.2))]) (fun y=>[]) (fun y=>y.1<=l.length∧okTms y.2 (l.drop y.1)=true) (fun y=>l.length-y.1) (0,0) ⟨Nat.zero_le _,h2⟩ ⟨[],[],?_⟩ (fun y hy=>?_)
 ·simp
 obtain⟨k,m⟩:=y
 obtain⟨i1,i2⟩:=hy
 simp only at i1 i2
 simp
 refine⟨fun hlt=>?_,fun hge=>?_⟩
 ·rw [List.drop_eq_getElem_cons hlt,okTms_cons] at i2
  obtain⟨c1,c2,c3⟩:=i2
  have hck:=chK c1
  have hw:IntKind.i64.wrap ((k:Int)+1)=(k:Int)+1:=wrap64 (by omega)
  have t1:=C611.time l[k].at_
  have t2:=C611.right l[k].sp
  have hok:okTm l[k].at_=true∧okSp l[k].sp=true:=by
   unfold okCh at c1
   simp only [Bool.and_eq_true] at c1
   exact⟨c1.1,c1.2.2.2⟩
  rw [hok.1] at t1
  rw [hok.2] at t2
  simp [hlt]
  rcases hck with e | e | e
  all_goals
   refine regS_path [] ?_
   simp
   refine icall_T (TF Tryz.prog a26) (hcall_of_vc c26) ?_
   simp [a26,e]
   refine vc_path [.ret (dB true),.ret (dB true),.ret (.tup [])] ?_
   simp
   refine⟨t1,t2,.need_t 490,?_⟩
   refine vc_path [.ret (.tup [])] ?_
   simp [c2]
   refine⟨.need_t 490,k+1,l[k].at_,⟨by omega,c3⟩,by omega,[],[],?_⟩
   simp [hw]
 have t3:=C611.time t
 rw [h3] at t3
 refine vc_path [.ret (dB true),.ret (.tup [])] ?_
 simp
 refine⟨t3,.need_t 1,?_⟩
 refine vc_path [.ret (.fn (.func 113) [] [.ip (.sl 5 (l.map dCh)),.ip (dI t)])] ?_
 simp
 refine⟨.unt l t,?_⟩
 refine vc_range (TF Tryz.prog a113) (hcall_of_vc c113) rfl (by rfl) (fun yl=>by rfl) (fun yl=>?_)
 simp [a113]
 refine vc_loopK [0,2,6,7] (Nat×Option (List Sp)) (fun y=>[(8,true,.d (dI y.1))]) (fun y=>boxP y.2) (fun y=>y.1<=l.length∧runD [] (l.take y.1)=some (y.2.getD [])∧untL l t=l.take y.1++untL (l.drop y.1) t) (fun y=>l.length-y.1) (0,none) ⟨Nat.zero_le _,rfl,by simp⟩ ⟨[],[],?_⟩ (fun y hy=>?_)
 ·simp [boxP_none]
  intro x hx;omega
 obtain⟨k,x⟩:=y
 obtain⟨i1,i2,i3⟩:=hy
 simp only at i1 i2 i3
 have hw:k<l.length->IntKind.i64.wrap ((k:Int)+1)=(k:Int)+1:=fun h=>wrap64 (by omega)
 have hnext:∀ hlt:k<l.length,l[k].at_<=t->runD [] (l.take (k+1))=some (doDL (x.getD []) l[k])∧doDE (x.getD []) l[k]=0∧untL l t=l.take (k+1)++untL (l.drop (k+1)) t:=fun hlt ha=>by
  obtain⟨e1,e2⟩:=run_next h4 i2 (List.getElem?_eq_getElem hlt)
  refine⟨e2,e1,?_⟩
  rw [i3,List.drop_eq_getElem_cons hlt,untL_cons,if_pos ha,List.take_succ_eq_append_getElem hlt,List.append_assoc];rfl
 have hun:(∀ hlt:k<l.length,¬ l[k].at_<=t)->untL l t=l.take k:=fun h=>by
  have e:untL (l.drop k) t=[]:=by
   by_cases hlt:k<l.length
   ·rw [List.drop_eq_getElem_cons hlt,untL_cons,if_neg (h hlt)]
   ·rw [List.drop_eq_nil_of_le (by omega)];rfl
  rw [i3,e,List.append_nil]
 have hend:(∀ hlt:k<l.length,¬ l[k].at_<=t)->plD l t=x.getD []:=fun h=>by
  unfold plD
  rw [hun h,i2];rfl
 cases x with
 | none =>
  simp [boxP_none]
  refine⟨fun hlt=>?_,fun hge=>?_⟩
  ·by_cases ha:l[k].at_<=t
   ·obtain⟨e1,e2,e3⟩:=hnext hlt ha
    have ha':¬ t<l[k].at_:=by omega
    obtain⟨f1,f2,f3,f4⟩:=do_disp e2
    have hk:l[k].kind=1:=by
     rcases chK f2 with e | e | e
     ·exact e
     ·simp [fitsL,e] at f4
     ·simp [fitsL,e] at f4
    have e2':doDE [] l[k]=0:=e2
    have hdl:doDL [] l[k]=[l[k].sp]:=by unfold doDL;rw [if_pos e2'];simp [makeL,hk]
    have hs:=C611.search0 l[k].sp.id
    have hel:elsD 3 1 (D.flat [.agg [.lit (.int .i64 l[k].sp.id),.lit (.int .i64 l[k].sp.ver),dZ l[k].sp.tx]])=[dSp l[k].sp]:=rfl
    simp [hlt,ha']
    refine regS_path [] ?_
    simp [ha']
    refine regS_path [] ?_
    simp
    refine icall_T (TF Tryz.prog a27) (hcall_of_vc c27) ?_
    simp [a27,hk]
    refine vc_path [.ret (.tup [dI 0,dB false])] ?_
    simp
    refine⟨hs,regS_path [.ret (.tup [])] ?_⟩
    simp
    refine icall_T (TF Tryz.prog a59) (hcall_of_vc c59) ?_
    simp [a59]
    refine⟨.need_t 490,regS_path [] ?_⟩
    simp
    refine icall_T (TF Tryz.prog aw60) (hcall_of_vc cw60) ?_
    simp [aw60]
    refine⟨by simp [D.flat],vc_path [.ret (.tup [])] ?_⟩
    simp [hel]
    refine⟨.need_t 2,?_⟩
    refine regS_path [] ?_
    simp
    refine icall_T (TF Tryz.prog a38) (hcall_of_vc c38) ?_
    simp [a38]
    refine⟨k+1,some [l[k].sp],⟨by omega,by rw [e1];show some (doDL [] l[k])=_;rw [hdl];rfl,e3⟩,by omega,[(7,14)],[],?_⟩
    simp [boxP_some,hw hlt]
    exact⟨wrS_one [l[k].sp],fun x hx=>.inr ⟨by rw [if_neg (by omega)];rfl,by omega⟩⟩
   ·have ha':t<l[k].at_:=by omega
    rw [hend fun _=>ha]
    simp [hlt,ha']
    refine regS_path [] ?_
    simp [ha']
    refine leave_fn (TR Tryz.prog a23) (dcall_of_vcR c23) ?_
    simp [a23]
  ·rw [hend fun h=>absurd h (by omega)]
   simp
   refine leave_fn (TR Tryz.prog a23) (dcall_of_vcR c23) ?_
   simp [a23]
 | some x =>
  simp [boxP_some]
  have hfl:x.length*3<=(D.flat (x.map dSp)).length:=by rw [flat_sps];omega
  have hels:=elsD_sps x
  refine⟨fun hlt=>?_,fun hge=>?_⟩
  ·by_cases ha:l[k].at_<=t
   ·obtain⟨e1,e2,e3⟩:=hnext hlt ha
    simp only [Option.getD_some] at e1 e2
    have ha':¬ t<l[k].at_:=by omega
    obtain⟨f1,f2,f3,f4⟩:=do_disp e2
    obtain⟨hl1,hl2⟩:=dispE_ok f1
    have hs:=C611.search x l[k].sp.id (-1) hl2 (by omega)
    have hpl:=(posL_spec hl2 l[k].sp.id).1
    have hdl:doDL x l[k]=makeL x l[k]:=by unfold doDL;rw [if_pos e2]
    have hln:(makeL x l[k]).length<=1024:=by rw [<- hdl];exact(dispE_ok f3).1
    have hto:((posL x l[k].sp.id:Int)).toNat=posL x l[k].sp.id:=by omega
    have hgt:=@hasL_get x l[k].sp.id
    have hz:∀ e∈x.map dSp,e.cells.length=3:=fun e he=>by
     obtain⟨y,_,rfl⟩:=List.mem_map.1 he
     exact dSp_len y
    rcases chK f2 with hk | hk | hk
    ·have hh:hasL x l[k].sp.id=false:=by simpa [fitsL,hk] using f4
     have hmk:makeL x l[k]=x.take (posL x l[k].sp.id)++l[k].sp::x.drop (posL x l[k].sp.id):=by simp [makeL,hk]
     rw [hdl,hmk] at e1
     rw [hmk] at hln
     rw [hh] at hs
     generalize posL x l[k].sp.id=p at *
     have hel1:elsD 3 1 (D.flat [.agg [.lit (.int .i64 l[k].sp.id),.lit (.int .i64 l[k].sp.ver),dZ l[k].sp.tx]])=[dSp l[k].sp]:=rfl
     have hmap:(x.map dSp).take p++dSp l[k].sp::(x.map dSp).drop p=(x.take p++l[k].sp::x.drop p).map dSp:=by simp [List.map_take,List.map_drop]
     have hnl:(x.take p++l[k].sp::x.drop p).length=x.length+1:=by simp;omega
     obtain⟨Y,hY⟩:∃ Y,Y=x.take p++l[k].sp::x.drop p:=⟨_,rfl⟩
     rw [<- hY] at e1 hnl hmap hln
     rw [hnl] at hln
     have hln':(x.length:Int)+1<=1024:=by omega
     have hl3:3<=(D.flat [.agg [.lit (.int .i64 l[k].sp.id),.lit (.int .i64 l[k].sp.ver),dZ l[k].sp.tx]]).length:=by simp [D.flat]
     simp [hlt,ha']
     refine regS_path [] ?_
     simp [ha']
     refine regS_path [] ?_
     simp
     refine icall_T (TF Tryz.prog a27) (hcall_of_vc c27) ?_
     simp [a27,hk]
     refine vc_path [.ret (.tup [dI p,dB false])] ?_
     simp [hfl,hels]
     refine⟨hs,free2 _ _,regS_path [.ret (.tup [])] ?_⟩
     simp
     refine icall_T (TF Tryz.prog a59) (hcall_of_vc c59) ?_
     simp [a59]
     refine⟨.need_t 490,regS_path [] ?_⟩
     simp
     refine icall_T (TF Tryz.prog aw60) (hcall_of_vc cw60) ?_
     simp [aw60,hels,hel1]
     refine⟨⟨by omega,⟨hfl,hl3⟩,by omega,by omega⟩,vc_path [.ret (.tup [])] ?_⟩
     simp [hln',hto]
     refine⟨.need_t 2,?_⟩
     refine regS_path [] ?_
     simp
     refine icall_T (TF Tryz.prog a38) (hcall_of_vc c38) ?_
     simp [a38]
     refine⟨k+1,some Y,⟨by omega,by rw [e1];rfl,e3⟩,by omega,[(7,15)],[],?_⟩
     simp [boxP_some,hw hlt,hnl,hmap]
     exact⟨wrS_one Y,fun x hx=>.inr ⟨by rw [if_neg (by omega)];rfl,by omega⟩⟩
    ·have hfit:x[posL x l[k].sp.id]?=some l[k].sp:=by simpa [fitsL,hk] using f4
     have hmk:makeL x l[k]=x.eraseIdx (posL x l[k].sp.id):=by simp [makeL,hk]
     have hh:hasL x l[k].sp.id=true:=by unfold hasL;rw [hfit];simp
     obtain⟨hp,hid⟩:=hgt hh
     rw [hdl,hmk] at e1
     rw [hmk] at hln
     rw [hh] at hs
     generalize posL x l[k].sp.id=p at *
     have hgetD:(x.map dSp)[p]?=some (dSp l[k].sp):=by rw [List.getElem?_map,hfit];rfl
     have hwt:((wr (x.map dSp)).drop (p*3)).take 3=[.d (.lit (.int .i64 l[k].sp.id)),.d (.lit (.int .i64 l[k].sp.ver)),.d (dZ l[k].sp.tx)]:=wr_take hz hgetD
     have heq:eqB [dZ l[k].sp.tx] [dZ l[k].sp.tx]=true:=by simp [eqB,dZ]
     have hec:eqC [.str] [dZ l[k].sp.tx] [dZ l[k].sp.tx]=True:=by simp [eqC,dZ]
     have hfl3:p*3+3<=(D.flat (x.map dSp)).length:=by omega
     have hw1:IntKind.i64.wrap ((p:Int)+1)=(p:Int)+1:=wrap64 (by omega)
     have hnl:(x.eraseIdx p).length=x.length-1:=by rw [List.length_eraseIdx,if_pos hp]
     have hmap:(x.map dSp).eraseIdx p=(x.eraseIdx p).map dSp:=map_eraseIdx' dSp x p
     have hln':((x.length-1:Nat):Int)<=1024:=by omega
     simp [hlt,ha']
     refine regS_path [] ?_
     simp [ha']
     refine regS_path [] ?_
     simp
     refine icall_T (TF Tryz.prog a27) (hcall_of_vc c27) ?_
     simp [a27,hk]
     refine vc_path [.ret (.tup [dI p,dB true])] ?_
     simp [hfl,hels]
     refine⟨hs,free2 _ _,regS_path [.ret (.tup [])] ?_⟩
     simp
     refine icall_T (TF Tryz.prog a62) (hcall_of_vc c62) ?_
     simp [a62]
     refine vc_pathD [] ?_
     simp [hto,hp,hfl3,hwt,hec]
     refine⟨rfl,by rw [heq];exact .need_t 490,regS_path [] ?_⟩
     simp
     refine icall_T (TF Tryz.prog aw63) (hcall_of_vc cw63) ?_
     simp [aw63]
     refine⟨⟨⟨hp,hw1⟩,hfl⟩,vc_path [.ret (.tup [])] ?_⟩
     simp [hels,hto,hln']
     refine⟨.need_t 2,?_⟩
     refine regS_path [] ?_
     simp
     refine icall_T (TF Tryz.prog a38) (hcall_of_vc c38) ?_
     simp [a38]
     refine⟨k+1,some (x.eraseIdx p),⟨by omega,by rw [e1];rfl,e3⟩,by omega,[(7,14)],[],?_⟩
     simp [boxP_some,hw hlt,hnl,hmap]
     exact⟨wrS_one (x.eraseIdx p),fun x hx=>.inr ⟨by rw [if_neg (by omega)];rfl,by omega⟩⟩
    ·have hmk:makeL x l[k]=x.set (posL x l[k].sp.id) l[k].sp:=by simp [makeL,hk]
     have hh:hasL x l[k].sp.id=true:=by
      rw [<- Bool.not_eq_false]
      intro h
      rw [hasL_no h (by omega)] at f4
      cases f4
     obtain⟨hp,hid⟩:=hgt hh
     have hvr:x[posL x l[k].sp.id].ver≠l[k].sp.ver:=by
      have h:=f4
      unfold fitsL at h
      rw [if_neg (by omega),if_neg (by omega),List.getElem?_eq_getElem hp] at h
      simp only [Bool.and_eq_true,decide_eq_true_eq] at h
      exact h.2
     rw [hdl,hmk] at e1
     rw [hmk] at hln
     rw [hh] at hs
     generalize posL x l[k].sp.id=p at *
     have hgetD:(x.map dSp)[p]?=some (dSp x[p]):=by rw [List.getElem?_map,List.getElem?_eq_getElem hp];rfl
     have hw1:(wr (x.map dSp))[p*3+1]?=some (.d (.lit (.int .i64 x[p].ver))):=wr_get hz hgetD (d:=.lit (.int .i64 x[p].ver)) rfl
     have hb:(x[p].ver != l[k].sp.ver)=true:=by simpa using hvr
     have hfl3:p*3+3<=(D.flat (x.map dSp)).length:=by omega
     have hfl4:p*3+1+1<=(D.flat (x.map dSp)).length:=by omega
     have hnl:(x.set p l[k].sp).length=x.length:=by simp
     have hws:(((wr (x.map dSp)).set (p*3) (.d (.lit (.int .i64 l[k].sp.id)))).set (p*3+1) (.d (.lit (.int .i64 l[k].sp.ver)))).set (p*3+1+1) (.d (dZ l[k].sp.tx))=wr ((x.set p l[k].sp).map dSp):=by
      rw [List.map_set]
      exact wr_set3 hz (by simp;omega)
     have hln':(x.length:Int)<=1024:=by omega
     simp [hlt,ha']
     refine regS_path [] ?_
     simp [ha']
     refine regS_path [] ?_
     simp
     refine icall_T (TF Tryz.prog a27) (hcall_of_vc c27) ?_
     simp [a27,hk]
     refine vc_path [.ret (.tup [dI p,dB true])] ?_
     simp [hfl,hels]
     refine⟨hs,free2 _ _,regS_path [.ret (.tup [])] ?_⟩
     simp
     refine icall_T (TF Tryz.prog a65) (hcall_of_vc c65) ?_
     simp [a65]
     refine vc_pathD [] ?_
     simp [hto,hp,hfl4,hw1,hb]
     refine⟨rfl,.need_t 490,regS_path [] ?_⟩
     simp
     refine icall_T (TF Tryz.prog a66) (hcall_of_vc c66) ?_
     simp [a66]
     refine⟨hp,hfl3,vc_path [.ret (.tup [])] ?_⟩
     simp [hln',hws]
     refine⟨.need_t 2,?_⟩
     refine regS_path [] ?_
     simp
     refine icall_T (TF Tryz.prog a38) (hcall_of_vc c38) ?_
     simp [a38]
     refine⟨k+1,some (x.set p l[k].sp),⟨by omega,by rw [e1];rfl,e3⟩,by omega,[],[],?_⟩
     simp [boxP_some,hw hlt,hnl,hws]
     exact⟨by have:=wrS_one (x.set p l[k].sp);rw [List.map_set] at this;exact this,fun x hx=>by omega⟩
   ·have ha':t<l[k].at_:=by omega
    rw [hend fun _=>ha]
    simp [hlt,ha']
    refine regS_path [] ?_
    simp [ha']
    refine leave_fn (TR Tryz.prog a23) (dcall_of_vcR c23) ?_
    simp [a23]
    exact⟨hfl,by rw [hels];exact LeD.refl _⟩
  ·rw [hend fun h=>absurd h (by omega)]
   simp
   refine leave_fn (TR Tryz.prog a23) (dcall_of_vcR c23) ?_
   simp [a23]
   exact⟨hfl,by rw [hels];exact LeD.refl _⟩
def wN (l:List Ch) (k:Nat):Int:=(((l.take k).filter isW).length:Nat)
theorem wN_le(l:List Ch) (k:Nat):0<=wN l k∧wN l k<=l.length:=by
 have h1:=List.length_filter_le isW (l.take k)
 have h2:=List.length_take_le k l
 have h3:(l.take k).length<=l.length:=by rw [List.length_take];omega
 unfold wN
 omega
theorem wN_succ{l:List Ch}{k:Nat}(h:k<l.length):wN l (k+1)=wN l k+(if isW l[k]=true then 1 else 0):=by
 unfold wN
 rw [List.take_succ_eq_append_getElem h,List.filter_append,List.length_append]
 cases h:isW l[k] <;> simp [h]
def boxW:Option (List Sp)->List (Nat×HO)
 | none=>[(3,.box false [.d (.nil 3)])]
 | some x=>[(3,.box false [.bsl 8 0 3 x.length x.length]),(8,.box true (wr (x.map dSp)))]
theorem boxW_none:boxW none=[(3,.box false [.d (.nil 3)])]:=rfl
theorem boxW_some(x:List Sp):boxW (some x)=[(3,.box false [.bsl 8 0 3 x.length x.length]),(8,.box true (wr (x.map dSp)))]:=rfl
theorem dWithdrawn(l:List Ch) (t:Int) (y:List Sp) (h1:l.length<=4096) (h2:okTms 0 l=true) (h3:okTm t=true) (h4:runD [] l=some y):PCall Tryz.prog 16 [.sl 5 (l.map dCh),dI t] (.ret (.tup [dI (((untL l t).filter isW).length:Nat),dI 0])):=by
 refine pcall_of_vc h611 c16 (by simp [a16]) fun hr=>?_
 simp [a16]
 refine regS_path [] ?_
 simp
 refine regS_path [] ?_
 simp
 refine regS_path [] ?_
 simp
 refine icall_T (TF Tryz.prog a37) (hcall_of_vc c37) ?_
 have q1:(l.length:Int)<=4096:=by omega
 simp [a37,q1]
 refine vc_path [.ret (.tup [])] ?_
 simp [q1]
 refine⟨.need_t 2,vc_path [.retM kMapD] ?_⟩
 simp [kMapD,fnD]
 refine⟨.kinds,?_⟩
 refine vc_loopK [0,1,5,6,7,17,18] (Nat×Int) (fun y=>[(19,true,.d (dI y.1)),(8,true,.d (dI y.2))]) (fun y=>[]) (fun y=>y.1<=l.length∧okTms y.2 (l.drop y.1)=true) (fun y=>l.length-y.1) (0,0) ⟨Nat.zero_le _,h2⟩ ⟨[],[],?_⟩ (fun y hy=>?_)
 ·simp
  intro x hx;omega
 obtain⟨k,m⟩:=y
 obtain⟨i1,i2⟩:=hy
 simp only at i1 i2
 simp
 refine⟨fun hlt=>?_,fun hge=>?_⟩
 ·rw [List.drop_eq_getElem_cons hlt,okTms_cons] at i2
  obtain⟨c1,c2,c3⟩:=i2
  have hck:=chK c1
  have hw:IntKind.i64.wrap ((k:Int)+1)=(k:Int)+1:=wrap64 (by omega)
  have t1:=C611.time l[k].at_
  have t2:=C611.right l[k].sp
  have hok:okTm l[k].at_=true∧okSp l[k].sp=true:=by
   unfold okCh at c1
   simp only [Bool.and_eq_true] at c1
   exact⟨c1.1,c1.2.2.2⟩
  rw [hok.1] at t1
  rw [hok.2] at t2
  simp [hlt]
  rcases hck with e | e | e
  all_goals
   refine regS_path [] ?_
   simp
   refine icall_T (TF Tryz.prog a26) (hcall_of_vc c26) ?_
   simp [a26,e]
   refine vc_path [.ret (dB true),.ret (dB true),.ret (.tup [])] ?_
   simp
   refine⟨t1,t2,.need_t 490,?_⟩
   refine vc_path [.ret (.tup [])] ?_
   simp [c2]
   refine⟨.need_t 490,k+1,l[k].at_,⟨by omega,c3⟩,by omega,[],[],?_⟩
   simp [hw]
   intro x hx;omega
 have t3:=C611.time t
 rw [h3] at t3
 refine vc_path [.ret (dB true),.ret (.tup [])] ?_
 simp
 refine⟨t3,.need_t 1,?_⟩
 refine vc_path [.ret (.fn (.func 113) [] [.ip (.sl 5 (l.map dCh)),.ip (dI t)])] ?_
 simp
 refine⟨.unt l t,?_⟩
 refine vc_range (TF Tryz.prog a113) (hcall_of_vc c113) rfl (by rfl) (fun yl=>by rfl) (fun yl=>?_)
 simp [a113]
 refine vc_loopK [0,2,6,7] (Nat×Option (List Sp)) (fun y=>[(8,true,.d (dI y.1))]) (fun y=>(0,.box false [.d (dI (wN l y.1))])::boxW y.2) (fun y=>y.1<=l.length∧runD [] (l.take y.1)=some (y.2.getD [])∧untL l t=l.take y.1++untL (l.drop y.1) t) (fun y=>l.length-y.1) (0,none) ⟨Nat.zero_le _,rfl,by simp⟩ ⟨[],[],?_⟩ (fun y hy=>?_)
 ·simp [boxW_none]
  exact⟨leD_of_eq rfl,fun x hx=>by omega⟩
 obtain⟨k,x⟩:=y
 obtain⟨i1,i2,i3⟩:=hy
 simp only at i1 i2 i3
 have hw:k<l.length->IntKind.i64.wrap ((k:Int)+1)=(k:Int)+1:=fun h=>wrap64 (by omega)
 have hnext:∀ hlt:k<l.length,l[k].at_<=t->runD [] (l.take (k+1))=some (doDL (x.getD []) l[k])∧doDE (x.getD []) l[k]=0∧untL l t=l.take (k+1)++untL (l.drop (k+1)) t:=fun hlt ha=>by
  obtain⟨e1,e2⟩:=run_next h4 i2 (List.getElem?_eq_getElem hlt)
  refine⟨e2,e1,?_⟩
  rw [i3,List.drop_eq_getElem_cons hlt,untL_cons,if_pos ha,List.take_succ_eq_append_getElem hlt,List.append_assoc];rfl
 have hun:(∀ hlt:k<l.length,¬ l[k].at_<=t)->untL l t=l.take k:=fun h=>by
  have e:untL (l.drop k) t=[]:=by
   by_cases hlt:k<l.length
   ·rw [List.drop_eq_getElem_cons hlt,untL_cons,if_neg (h hlt)]
   ·rw [List.drop_eq_nil_of_le (by omega)];rfl
  rw [i3,e,List.append_nil]
 have hend:(∀ hlt:k<l.length,¬ l[k].at_<=t)->plD l t=x.getD []:=fun h=>by
  unfold plD
  rw [hun h,i2];rfl
 have hcnt:∀ hlt:k<l.length,wN l (k+1)=wN l k+(if isW l[k]=true then 1 else 0):=fun hlt=>wN_succ hlt
 have hw0:IntKind.i64.wrap (wN l k+1)=wN l k+1:=by
  have:=wN_le l k
  exact wrap64 (by omega)
 have hendw:(∀ hlt:k<l.length,¬ l[k].at_<=t)->((((untL l t).filter isW).length:Nat):Int)=wN l k:=fun h=>by rw [hun h];rfl
 cases x with
 | none =>
  simp [boxW_none]
  refine⟨fun hlt=>?_,fun hge=>?_⟩
  ·by_cases ha:l[k].at_<=t
   ·obtain⟨e1,e2,e3⟩:=hnext hlt ha
    have ha':¬ t<l[k].at_:=by omega
    obtain⟨f1,f2,f3,f4⟩:=do_disp e2
    have hk:l[k].kind=1:=by
     rcases chK f2 with e | e | e
     ·exact e
     ·simp [fitsL,e] at f4
     ·simp [fitsL,e] at f4
    have e2':doDE [] l[k]=0:=e2
    have hdl:doDL [] l[k]=[l[k].sp]:=by unfold doDL;rw [if_pos e2'];simp [makeL,hk]
    have hs:=C611.search0 l[k].sp.id
    have hel:elsD 3 1 (D.flat [.agg [.lit (.int .i64 l[k].sp.id),.lit (.int .i64 l[k].sp.ver),dZ l[k].sp.tx]])=[dSp l[k].sp]:=rfl
    simp [hlt,ha']
    refine regS_path [] ?_
    simp [ha']
    refine regS_path [] ?_
    simp
    refine icall_T (TF Tryz.prog a27) (hcall_of_vc c27) ?_
    simp [a27,hk]
    refine vc_path [.ret (.tup [dI 0,dB false])] ?_
    simp
    refine⟨hs,regS_path [.ret (.tup [])] ?_⟩
    simp
    refine icall_T (TF Tryz.prog a59) (hcall_of_vc c59) ?_
    simp [a59]
    refine⟨.need_t 490,regS_path [] ?_⟩
    simp
    refine icall_T (TF Tryz.prog aw60) (hcall_of_vc cw60) ?_
    simp [aw60]
    refine⟨by simp [D.flat],vc_path [.ret (.tup [])] ?_⟩
    simp [hel]
    refine⟨.need_t 2,?_⟩
    refine regS_path [] ?_
    simp
    refine icall_T (TF Tryz.prog a43) (hcall_of_vc c43) ?_
    simp [a43,hk]
    have hcn:=hcnt hlt
    rw [show isW l[k]=false by simp [isW,hk]] at hcn
    simp only [if_true,if_false,Bool.false_eq_true] at hcn
    refine⟨k+1,some [l[k].sp],⟨by omega,by rw [e1];show some (doDL [] l[k])=_;rw [hdl];rfl,e3⟩,by omega,[(8,15)],[],?_⟩
    simp [boxW_some,hw hlt,hcn,hw0]
    exact⟨wrS_one [l[k].sp],fun x hx=>.inr ⟨by rw [if_neg (by omega)];rfl,by omega⟩⟩
   ·have ha':t<l[k].at_:=by omega
    rw [hendw (fun _=>ha)]
    simp [hlt,ha']
    refine regS_path [] ?_
    simp [ha']
    refine leave_fn (TR Tryz.prog a23) (dcall_of_vcR c23) ?_
    simp [a23]
    refine leave_fn (TD Tryz.prog a42) (dcall_of_vc c42) ?_
    simp [a42]
  ·rw [hendw (fun h=>absurd h (by omega))]
   try simp
   refine leave_fn (TR Tryz.prog a23) (dcall_of_vcR c23) ?_
   simp [a23]
   refine leave_fn (TD Tryz.prog a42) (dcall_of_vc c42) ?_
   simp [a42]
 | some x =>
  simp [boxW_some]
  have hfl:x.length*3<=(D.flat (x.map dSp)).length:=by rw [flat_sps];omega
  have hels:=elsD_sps x
  refine⟨fun hlt=>?_,fun hge=>?_⟩
  ·by_cases ha:l[k].at_<=t
   ·obtain⟨e1,e2,e3⟩:=hnext hlt ha
    simp only [Option.getD_some] at e1 e2
    have ha':¬ t<l[k].at_:=by omega
    obtain⟨f1,f2,f3,f4⟩:=do_disp e2
    obtain⟨hl1,hl2⟩:=dispE_ok f1
    have hs:=C611.search x l[k].sp.id (-1) hl2 (by omega)
    have hpl:=(posL_spec hl2 l[k].sp.id).1
    have hdl:doDL x l[k]=makeL x l[k]:=by unfold doDL;rw [if_pos e2]
    have hln:(makeL x l[k]).length<=1024:=by rw [<- hdl];exact(dispE_ok f3).1
    have hto:((posL x l[k].sp.id:Int)).toNat=posL x l[k].sp.id:=by omega
    have hgt:=@hasL_get x l[k].sp.id
    have hz:∀ e∈x.map dSp,e.cells.length=3:=fun e he=>by
     obtain⟨y,_,rfl⟩:=List.mem_map.1 he
     exact dSp_len y
    rcases chK f2 with hk | hk | hk
    ·have hh:hasL x l[k].sp.id=false:=by simpa [fitsL,hk] using f4
     have hmk:makeL x l[k]=x.take (posL x l[k].sp.id)++l[k].sp::x.drop (posL x l[k].sp.id):=by simp [makeL,hk]
     rw [hdl,hmk] at e1
     rw [hmk] at hln
     rw [hh] at hs
     generalize posL x l[k].sp.id=p at *
     have hel1:elsD 3 1 (D.flat [.agg [.lit (.int .i64 l[k].sp.id),.lit (.int .i64 l[k].sp.ver),dZ l[k].sp.tx]])=[dSp l[k].sp]:=rfl
     have hmap:(x.map dSp).take p++dSp l[k].sp::(x.map dSp).drop p=(x.take p++l[k].sp::x.drop p).map dSp:=by simp [List.map_take,List.map_drop]
     have hnl:(x.take p++l[k].sp::x.drop p).length=x.length+1:=by simp;omega
     obtain⟨Y,hY⟩:∃ Y,Y=x.take p++l[k].sp::x.drop p:=⟨_,rfl⟩
     rw [<- hY] at e1 hnl hmap hln
     rw [hnl] at hln
     have hln':(x.length:Int)+1<=1024:=by omega
     have hl3:3<=(D.flat [.agg [.lit (.int .i64 l[k].sp.id),.lit (.int .i64 l[k].sp.ver),dZ l[k].sp.tx]]).length:=by simp [D.flat]
     simp [hlt,ha']
     refine regS_path [] ?_
     simp [ha']
     refine regS_path [] ?_
     simp
     refine icall_T (TF Tryz.prog a27) (hcall_of_vc c27) ?_
     simp [a27,hk]
     refine vc_path [.ret (.tup [dI p,dB false])] ?_
     simp [hfl,hels]
     refine⟨hs,free2 _ _,regS_path [.ret (.tup [])] ?_⟩
     simp
     refine icall_T (TF Tryz.prog a59) (hcall_of_vc c59) ?_
     simp [a59]
     refine⟨.need_t 490,regS_path [] ?_⟩
     simp
     refine icall_T (TF Tryz.prog aw60) (hcall_of_vc cw60) ?_
     simp [aw60,hels,hel1]
     refine⟨⟨by omega,⟨hfl,hl3⟩,by omega,by omega⟩,vc_path [.ret (.tup [])] ?_⟩
     simp [hln',hto]
     refine⟨.need_t 2,?_⟩
     refine regS_path [] ?_
     simp
     refine icall_T (TF Tryz.prog a43) (hcall_of_vc c43) ?_
     simp [a43,hk]
     have hcn:=hcnt hlt
     rw [show isW l[k]=false by simp [isW,hk]] at hcn
     simp only [if_true,if_false,Bool.false_eq_true] at hcn
     refine⟨k+1,some Y,⟨by omega,by rw [e1];rfl,e3⟩,by omega,[(8,16)],[],?_⟩
     simp [boxW_some,hw hlt,hnl,hmap,hcn,hw0]
     exact⟨wrS_one Y,fun x hx=>.inr ⟨by rw [if_neg (by omega)];rfl,by omega⟩⟩
    ·have hfit:x[posL x l[k].sp.id]?=some l[k].sp:=by simpa [fitsL,hk] using f4
     have hmk:makeL x l[k]=x.eraseIdx (posL x l[k].sp.id):=by simp [makeL,hk]
     have hh:hasL x l[k].sp.id=true:=by unfold hasL;rw [hfit];simp
     obtain⟨hp,hid⟩:=hgt hh
     rw [hdl,hmk] at e1
     rw [hmk] at hln
     rw [hh] at hs
     generalize posL x l[k].sp.id=p at *
     have hgetD:(x.map dSp)[p]?=some (dSp l[k].sp):=by rw [List.getElem?_map,hfit];rfl
     have hwt:((wr (x.map dSp)).drop (p*3)).take 3=[.d (.lit (.int .i64 l[k].sp.id)),.d (.lit (.int .i64 l[k].sp.ver)),.d (dZ l[k].sp.tx)]:=wr_take hz hgetD
     have heq:eqB [dZ l[k].sp.tx] [dZ l[k].sp.tx]=true:=by simp [eqB,dZ]
     have hec:eqC [.str] [dZ l[k].sp.tx] [dZ l[k].sp.tx]=True:=by simp [eqC,dZ]
     have hfl3:p*3+3<=(D.flat (x.map dSp)).length:=by omega
     have hw1:IntKind.i64.wrap ((p:Int)+1)=(p:Int)+1:=wrap64 (by omega)
     have hnl:(x.eraseIdx p).length=x.length-1:=by rw [List.length_eraseIdx,if_pos hp]
     have hmap:(x.map dSp).eraseIdx p=(x.eraseIdx p).map dSp:=map_eraseIdx' dSp x p
     have hln':((x.length-1:Nat):Int)<=1024:=by omega
     simp [hlt,ha']
     refine regS_path [] ?_
     simp [ha']
     refine regS_path [] ?_
     simp
     refine icall_T (TF Tryz.prog a27) (hcall_of_vc c27) ?_
     simp [a27,hk]
     refine vc_path [.ret (.tup [dI p,dB true])] ?_
     simp [hfl,hels]
     refine⟨hs,free2 _ _,regS_path [.ret (.tup [])] ?_⟩
     simp
     refine icall_T (TF Tryz.prog a62) (hcall_of_vc c62) ?_
     simp [a62]
     refine vc_pathD [] ?_
     simp [hto,hp,hfl3,hwt,hec]
     refine⟨rfl,by rw [heq];exact .need_t 490,regS_path [] ?_⟩
     simp
     refine icall_T (TF Tryz.prog aw63) (hcall_of_vc cw63) ?_
     simp [aw63]
     refine⟨⟨⟨hp,hw1⟩,hfl⟩,vc_path [.ret (.tup [])] ?_⟩
     simp [hels,hto,hln']
     refine⟨.need_t 2,?_⟩
     refine regS_path [] ?_
     simp
     refine icall_T (TF Tryz.prog a43) (hcall_of_vc c43) ?_
     simp [a43,hk]
     have hcn:=hcnt hlt
     rw [show isW l[k]=true by simp [isW,hk]] at hcn
     simp only [if_true,if_false,Bool.false_eq_true] at hcn
     refine⟨k+1,some (x.eraseIdx p),⟨by omega,by rw [e1];rfl,e3⟩,by omega,[(8,15)],[],?_⟩
     simp [boxW_some,hw hlt,hnl,hmap,hcn,hw0]
     exact⟨wrS_one (x.eraseIdx p),fun x hx=>.inr ⟨by rw [if_neg (by omega)];rfl,by omega⟩⟩
    ·have hmk:makeL x l[k]=x.set (posL x l[k].sp.id) l[k].sp:=by simp [makeL,hk]
     have hh:hasL x l[k].sp.id=true:=by
      rw [<- Bool.not_eq_false]
      intro h
      rw [hasL_no h (by omega)] at f4
      cases f4
     obtain⟨hp,hid⟩:=hgt hh
     have hvr:x[posL x l[k].sp.id].ver≠l[k].sp.ver:=by
      have h:=f4
      unfold fitsL at h
      rw [if_neg (by omega),if_neg (by omega),List.getElem?_eq_getElem hp] at h
      simp only [Bool.and_eq_true,decide_eq_true_eq] at h
      exact h.2
     rw [hdl,hmk] at e1
     rw [hmk] at hln
     rw [hh] at hs
     generalize posL x l[k].sp.id=p at *
     have hgetD:(x.map dSp)[p]?=some (dSp x[p]):=by rw [List.getElem?_map,List.getElem?_eq_getElem hp];rfl
     have hw1:(wr (x.map dSp))[p*3+1]?=some (.d (.lit (.int .i64 x[p].ver))):=wr_get hz hgetD (d:=.lit (.int .i64 x[p].ver)) rfl
     have hb:(x[p].ver != l[k].sp.ver)=true:=by simpa using hvr
     have hfl3:p*3+3<=(D.flat (x.map dSp)).length:=by omega
     have hfl4:p*3+1+1<=(D.flat (x.map dSp)).length:=by omega
     have hnl:(x.set p l[k].sp).length=x.length:=by simp
     have hws:(((wr (x.map dSp)).set (p*3) (.d (.lit (.int .i64 l[k].sp.id)))).set (p*3+1) (.d (.lit (.int .i64 l[k].sp.ver)))).set (p*3+1+1) (.d (dZ l[k].sp.tx))=wr ((x.set p l[k].sp).map dSp):=by
      rw [List.map_set]
      exact wr_set3 hz (by simp;omega)
     have hln':(x.length:Int)<=1024:=by omega
     simp [hlt,ha']
     refine regS_path [] ?_
     simp [ha']
     refine regS_path [] ?_
     simp
     refine icall_T (TF Tryz.prog a27) (hcall_of_vc c27) ?_
     simp [a27,hk]
     refine vc_path [.ret (.tup [dI p,dB true])] ?_
     simp [hfl,hels]
     refine⟨hs,free2 _ _,regS_path [.ret (.tup [])] ?_⟩
     simp
     refine icall_T (TF Tryz.prog a65) (hcall_of_vc c65) ?_
     simp [a65]
     refine vc_pathD [] ?_
     simp [hto,hp,hfl4,hw1,hb]
     refine⟨rfl,.need_t 490,regS_path [] ?_⟩
     simp
     refine icall_T (TF Tryz.prog a66) (hcall_of_vc c66) ?_
     simp [a66]
     refine⟨hp,hfl3,vc_path [.ret (.tup [])] ?_⟩
     simp [hln',hws]
     refine⟨.need_t 2,?_⟩
     refine regS_path [] ?_
     simp
     refine icall_T (TF Tryz.prog a43) (hcall_of_vc c43) ?_
     simp [a43,hk]
     have hcn:=hcnt hlt
     rw [show isW l[k]=true by simp [isW,hk]] at hcn
     simp only [if_true,if_false,Bool.false_eq_true] at hcn
     refine⟨k+1,some (x.set p l[k].sp),⟨by omega,by rw [e1];rfl,e3⟩,by omega,[],[],?_⟩
     simp [boxW_some,hw hlt,hnl,hws,hcn,hw0]
     exact⟨by have:=wrS_one (x.set p l[k].sp);rw [List.map_set] at this;exact this,fun x hx=>by omega⟩
   ·have ha':t<l[k].at_:=by omega
    rw [hendw (fun _=>ha)]
    simp [hlt,ha']
    refine regS_path [] ?_
    simp [ha']
    refine leave_fn (TR Tryz.prog a23) (dcall_of_vcR c23) ?_
    simp [a23]
    refine leave_fn (TD Tryz.prog a42) (dcall_of_vc c42) ?_
    simp [a42]
  ·rw [hendw (fun h=>absurd h (by omega))]
   try simp
   refine leave_fn (TR Tryz.prog a23) (dcall_of_vcR c23) ?_
   simp [a23]
   refine leave_fn (TD Tryz.prog a42) (dcall_of_vc c42) ?_
   simp [a42]
theorem dCheckE(l:List Sp):PCall Tryz.prog 39 [.sl 3 (l.map dSp)] (.ret (dI (dispE l))):=by
 refine pcall_of_vc h523 c39 (by simp [a39]) fun hr=>?_
 simp [a39]
 refine regS_path [] ?_
 simp
 have hc:=C523.ck l
 by_cases q:dispE l=0
 ·rw [q] at hc ⊢
  simp only [oD,if_true] at hc
  refine vc_path [.ret (.tup [])] ?_
  simp
  refine⟨hc,?_⟩
  refine leave_fn (TR Tryz.prog a23) (dcall_of_vcR c23) ?_
  simp [a23]
 ·refine vc_path [.pan (tE (dispE l))] ?_
  simp [oD,q] at hc ⊢
  refine⟨hc,?_⟩
  refine leave_fn (TR Tryz.prog a23) (dcall_of_vcR c23) ?_
  simp [a23,tE]
theorem pId(x:Sp):PCall Tryz.prog 84 [dSp x] (.ret (dI x.id)):=by
 refine pcall_of_vc noC c84 (by simp [a84]) fun hr=>?_
 simp [a84]
abbrev mS (s:Sp):Value×AV:=(.int .i64 s.id,.d (dSp s))
theorem kFind_S(i:Int):∀ es:List Sp,kFind (.int .i64 i) (es.map mS)=some ((sid es i).map fun s=>AV.d (dSp s))
 | []=>rfl
 | e::r=>by
  rw [List.map_cons,kFind_cons,kFind_S i r,sid_cons,kSame_int]
  by_cases h:e.id=i
  ·simp [h]
  ·have hb:(i == e.id)=false:=by simp;exact fun x=>h x.symm
   rw [hb,if_neg h];rfl
theorem sid_take{l:List Sp}{m:Int}(h:okRun m l=true){k:Nat}(hk:k<l.length):sid (l.take k) l[k].id=none:=by
 have hp:=okRun_lt h
 refine sid_none fun x hx e=>?_
 obtain⟨j,hj,rfl⟩:=List.mem_iff_getElem.1 hx
 rw [List.length_take] at hj
 rw [List.getElem_take] at e
 have:=hp j k (by omega) hk
 omega
def mpS (l:List Sp) (k:Nat):List (Value×AV):=(l.take k).map mS
theorem mpS_find(l:List Sp) (k:Nat) (i:Int):kFind (.int .i64 i) (mpS l k)=some ((sid (l.take k) i).map fun s=>AV.d (dSp s)):=kFind_S i _
theorem mpS_succ{l:List Sp}{k:Nat}(h:k<l.length):mpS l (k+1)=mpS l k++[mS l[k]]:=by
 unfold mpS
 rw [List.take_succ_eq_append_getElem h,List.map_append];rfl
theorem mpS_leL(ρ:Nat->Nat) (N:Nat->Option Nat) (ok:Nat->Bool) (n:Nat) (l:List Sp) (k:Nat):leA.leL ρ N ok n ((mpS l k).map (·.2)) ((mpS l k).map (·.2)):=by
 have e:(mpS l k).map (·.2)=((l.take k).map fun e=>dSp e).map AV.d:=by simp [mpS,mS,Function.comp_def]
 rw [e];exact leL_map ρ N ok n _
theorem mpS_mkd(l:List Sp) (k:Nat):mkd (mpS l k)=false:=by
 unfold mpS
 cases l.take k <;> rfl
inductive C613:FuncId->List D->Out->Prop
 | id (x:Sp):C613 84 [dSp x] (.ret (dI x.id))
theorem h613:∀ f ds out,C613 f ds out->PCall Tryz.prog f ds out:=by
 intro f ds out h
 cases h with
 | id x=>exact pId x
def mpD (l:List Sp):List (Value×D):=l.map fun s=>(.int .i64 s.id,dSp s)
theorem pIndex(l:List Sp) (m:Int) (hl:okRun m l=true):PCall Tryz.prog 83 [.sl 3 (l.map dSp),.fn (.func 84) [] []] (.retM (mpD l)):=by
 refine pcall_of_vc h613 c83 (by simp [a83]) fun hr=>?_
 have hlen:=(hr (.sl 3 (l.map dSp)) (by simp)).sl.1
 simp at hlen
 simp [a83]
 refine vc_loopK [1,5,9,10] Nat (fun y=>[(11,true,.d (dI y))]) (fun y=>[(0,.mapo (mpS l y))]) (fun y=>y<=l.length) (fun y=>l.length-y) 0 (Nat.zero_le _) ⟨[],[],?_⟩ (fun k hk=>?_)
 ·simp [show mpS l 0=[] from rfl]
 simp
 refine⟨fun hlt=>?_,fun hge=>?_⟩
 ·have hw:IntKind.i64.wrap ((k:Int)+1)=(k:Int)+1:=wrap64 (by omega)
  have hs:=mpS_find l k l[k].id
  rw [sid_take hl hlt] at hs
  have hi:=C613.id l[k]
  simp [hlt]
  refine vc_pathD [.ret (dI l[k].id)] ?_
  simp [hs]
  refine⟨hi,rfl,k+1,by omega,by omega,[],[],?_⟩
  simp [hw,mpS_succ hlt]
  have:=mpS_leL (rho []) (newN [] [(0,HO.mapo (mpS l k++[mS l[k]]))]) (okN [] [(0,HO.mapo (mpS l k++[mS l[k]]))]) 2 l (k+1)
  rw [mpS_succ hlt,List.map_append] at this
  exact this
 ·have:k=l.length:=by omega
  subst this
  have e:mpS l l.length=l.map mS:=by unfold mpS;rw [List.take_length]
  have h1:=mpS_leL noRen noNew noOk 2 l l.length
  refine⟨⟨mpS_mkd l l.length,?_⟩,?_⟩
  ·rw [e];simp [mpD,mS]
  ·have e2:(mpD l).map (AV.d∘fun x=>x.snd)=(mpS l l.length).map (·.2):=by rw [e];simp [mpD,mS,Function.comp_def]
   rw [e2];exact h1
theorem pPairs(a b:List Sp):PCall Tryz.prog 41 [.sl 3 (a.map dSp),.sl 3 (b.map dSp)] (.ret (.fn (.func 82) [] [.ip (.sl 3 (a.map dSp)),.ip (.sl 3 (b.map dSp))])):=by
 refine pcall_of_vcZ (C:=fun _ _ _=>False) (by rintro _ _ _ ⟨⟩) c41 (by simp [a41]) 4 fun hr=>?_
 simp [a41]
inductive C615:FuncId->List D->Out->Prop
 | chk (l:List Sp):C615 39 [.sl 3 (l.map dSp)] (.ret (dI (dispE l)))
 | idx (l:List Sp) (m:Int) (hl:okRun m l=true):C615 83 [.sl 3 (l.map dSp),.fn (.func 84) [] []] (.retM (mpD l))
 | prs (a b:List Sp):C615 41 [.sl 3 (a.map dSp),.sl 3 (b.map dSp)] (.ret (.fn (.func 82) [] [.ip (.sl 3 (a.map dSp)),.ip (.sl 3 (b.map dSp))]))
theorem h615:∀ f ds out,C615 f ds out->PCall Tryz.prog f ds out:=by
 intro f ds out h
 cases h with
 | chk l=>exact dCheckE l
 | idx l m hl=>exact pIndex l m hl
 | prs a b=>exact pPairs a b
theorem mem_mpD{l:List Sp}{v:Value}{d:D}(h:(v,d)∈mpD l):∃ s∈l,v=.int .i64 s.id∧d=dSp s:=by
 obtain⟨s,hs,e⟩:=List.mem_map.1 h
 injection e with e1 e2
 exact⟨s,hs,e1.symm,e2.symm⟩
theorem mkd_mpD(l:List Sp):mkd (List.map (fun e=>(e.fst,AV.d e.snd)) (mpD l))=false:=by cases l <;> rfl
theorem mpD_len(l:List Sp):(mpD l).length=l.length:=by simp [mpD]
theorem kFind_D(l:List Sp) (i:Int):kFind (.int .i64 i) (List.map (fun e=>(e.fst,AV.d e.snd)) (mpD l))=some ((sid l i).map fun s=>AV.d (dSp s)):=by
 have e:List.map (fun e=>(e.fst,AV.d e.snd)) (mpD l)=l.map mS:=by simp [mpD,mS,Function.comp_def]
 rw [e];exact kFind_S i l
theorem leL_mpD2(ρ:Nat->Nat) (N:Nat->Option Nat) (ok:Nat->Bool) (k:Nat) (l:List Sp):leA.leL ρ N ok k (List.map ((fun x=>x.snd)∘fun e=>(e.fst,AV.d e.snd)) (mpD l)) (List.map ((fun x=>x.snd)∘fun e=>(e.fst,AV.d e.snd)) (mpD l)):=by
 have e:List.map ((fun x=>x.snd)∘fun e=>(e.fst,AV.d e.snd)) (mpD l)=((mpD l).map (·.2)).map AV.d:=by simp [Function.comp_def]
 rw [e];exact leL_map ρ N ok k _
theorem leL_tup0(ρ:Nat->Nat) (N:Nat->Option Nat) (ok:Nat->Bool) (k:Nat):∀ l:List AV,(∀ v∈l,v=.tup [])->leA.leL ρ N ok (k+1) l l
 | [],_=>by simp only [leA.leL]
 | v::r,h=>by
  simp only [leA.leL]
  have e:=h v (by simp)
  subst e
  exact⟨by simp only [leA,leA.leL],leL_tup0 ρ N ok k r fun v hv=>h v (by simp [hv])⟩
def bothK (a b:List Sp):List (Value×AV):=(Value.tuple #[],AV.tup [])::(List.map ((fun e=>(e.fst,AV.tup []))∘fun e=>(e.fst,AV.d e.snd)) (mpD a)++List.map ((fun e=>(e.fst,AV.tup []))∘fun e=>(e.fst,AV.d e.snd)) (mpD b))
theorem bothK_keys(a b:List Sp):keysOf (bothK a b)=(a++b).map fun s=>(.int .i64 s.id,AV.tup []):=by
 unfold keysOf bothK
 rw [if_pos (by rfl),List.tail_cons]
 simp [mpD,Function.comp_def]
theorem bothK_sort{a b:List Sp}{p q:Int}(ha:okRun p a=true) (hb:okRun q b=true):sortU (List.filterMap keyZ (keysOf (bothK a b)))=mids a b:=by
 refine lt_ext (sortU_lt _) (mids_lt _ p q a b (Nat.le_refl _) ha hb) fun z=>?_
 rw [mem_sortU,bothK_keys,mids_mem _ a b (Nat.le_refl _),List.mem_filterMap]
 constructor
 ·rintro⟨e,he,hz⟩
  obtain⟨s,hs,rfl⟩:=List.mem_map.1 he
  injection hz with hz
  rcases List.mem_append.1 hs with h | h
  ·exact .inl ⟨s,h,hz⟩
  ·exact .inr ⟨s,h,hz⟩
 ·rintro(⟨s,h,hz⟩ | ⟨s,h,hz⟩)
  ·exact⟨_,List.mem_map.2 ⟨s,List.mem_append.2 (.inl h),rfl⟩,by rw [<- hz];rfl⟩
  ·exact⟨_,List.mem_map.2 ⟨s,List.mem_append.2 (.inr h),rfl⟩,by rw [<- hz];rfl⟩
theorem bothK_int{a b:List Sp}{v:Value}{x:AV}(h:(v,x)∈keysOf (bothK a b)):∃ t,v=.int .i64 t∧-9223372036854775808<=t∧t<9223372036854775808:=by
 rw [bothK_keys] at h
 obtain⟨s,hs,e⟩:=List.mem_map.1 h
 injection e with e1 e2
 exact⟨s.id,e1.symm,s.hi⟩
theorem bothK_len(a b:List Sp):(keysOf (bothK a b)).length=a.length+b.length:=by rw [bothK_keys];simp
theorem leL_both(ρ:Nat->Nat) (N:Nat->Option Nat) (ok:Nat->Bool) (k:Nat) (a b:List Sp):leA.leL ρ N ok (k+1) (List.map (fun x=>x.snd) (bothK a b)) (List.map (fun x=>x.snd) (bothK a b)):=leL_tup0 ρ N ok k _ fun v hv=>by
 obtain⟨e,he,rfl⟩:=List.mem_map.1 hv
 unfold bothK at he
 rcases List.mem_cons.1 he with rfl | he
 ·rfl
 ·rcases List.mem_append.1 he with he | he <;> (obtain⟨x,_,rfl⟩:=List.mem_map.1 he;rfl)
theorem mids_len:∀ (n:Nat) (a b:List Sp),a.length+b.length<=n->(mids a b).length<=a.length+b.length
 | _,[],[],_=>by rw [mids];simp
 | 0,_::_,_,h=>by simp at h
 | 0,[],_::_,h=>by simp at h
 | n+1,x::a,[],h=>by
  have:=mids_len n a [] (by simp at h ⊢;omega)
  rw [mids];simp at this ⊢;omega
 | n+1,[],y::b,h=>by
  have:=mids_len n [] b (by simp at h ⊢;omega)
  rw [mids];simp at this ⊢;omega
 | n+1,x::a,y::b,h=>by
  have h1:=mids_len n a (y::b) (by simp at h ⊢;omega)
  have h2:=mids_len n (x::a) b (by simp at h ⊢;omega)
  have h3:=mids_len n a b (by simp at h ⊢;omega)
  rw [mids]
  split
  ·simp at h1 ⊢;omega
  ·split
   ·simp at h2 ⊢;omega
   ·simp at h3 ⊢;omega
def difT (t:Int) (ht:-9223372036854775808<=t∧t<9223372036854775808) (a b:List Sp) (k:Nat):List Ch:=((mids a b).take k).flatMap fun i=>difC t ht (sid a i) (sid b i)
theorem difT_succ{t:Int}{ht:-9223372036854775808<=t∧t<9223372036854775808}{a b:List Sp}{k:Nat}(h:k<(mids a b).length):difT t ht a b (k+1)=difT t ht a b k++difC t ht (sid a (mids a b)[k]) (sid b (mids a b)[k]):=by
 unfold difT
 rw [List.take_succ_eq_append_getElem h,List.flatMap_append,List.flatMap_singleton]
theorem difC_len{t:Int}{ht:-9223372036854775808<=t∧t<9223372036854775808}(x y:Option Sp):(difC t ht x y).length<=1:=by
 cases x <;> cases y <;> simp only [difC] <;> (try split) <;> simp
theorem difT_len{t:Int}{ht:-9223372036854775808<=t∧t<9223372036854775808}{a b:List Sp}:∀ k,k<=(mids a b).length->(difT t ht a b k).length<=k
 | 0,_=>by simp [difT]
 | k+1,h=>by
  rw [difT_succ (by omega),List.length_append]
  have h1:=difT_len k (by omega) (t:=t) (ht:=ht) (a:=a) (b:=b)
  have h2:=difC_len (t:=t) (ht:=ht) (sid a (mids a b)[k]) (sid b (mids a b)[k])
  omega
theorem pDiff(a b:List Sp) (t:Int) (ht:-9223372036854775808<=t∧t<9223372036854775808) (ha:dispE a=0) (hb:dispE b=0) (h0:okTm t=true):PCall Tryz.prog 14 [.sl 3 (a.map dSp),.sl 3 (b.map dSp),dI t] (.ret (.tup [.sl 5 ((if badM a b=true then [] else mrg t ht a b).map dCh),dI (if badM a b=true then 510 else 0)])):=by
 refine pcall_of_vcZ h615 c14 (by simp [a14]) 4 fun hr=>?_
 have ka:=C615.chk a
 have kb:=C615.chk b
 rw [ha] at ka
 rw [hb] at kb
 obtain⟨a1,a2⟩:=dispE_ok ha
 obtain⟨b1,b2⟩:=dispE_ok hb
 have t1:0<=t∧t<1099511627776:=by
  unfold okTm at h0
  simpa using h0
 have t2:¬ t<0:=by omega
 have t3:¬ 1099511627776<=t:=by omega
 simp [a14]
 refine vc_path [.ret (dI 0)] ?_
 simp
 refine⟨ka,?_⟩
 refine vc_path [.ret (dI 0)] ?_
 simp
 refine⟨kb,?_⟩
 refine vc_path [] ?_
 simp [t2,t3]
 refine vc_path [.ret (.fn (.func 82) [] [.ip (.sl 3 (a.map dSp)),.ip (.sl 3 (b.map dSp))])] ?_
 simp
 refine⟨.prs a b,?_⟩
 refine vc_range (TF Tryz.prog a82) (hcall_of_vc c82) rfl (by rfl) (fun yl=>by rfl) (fun yl=>?_)
 simp [a82]
 refine vc_pathD [.retM (mpD a),.retM (mpD b)] ?_
 simp
 have hB:(Value.tuple #[],AV.tup [])::(List.map ((fun e=>(e.fst,AV.tup []))∘fun e=>(e.fst,AV.d e.snd)) (mpD a)++List.map ((fun e=>(e.fst,AV.tup []))∘fun e=>(e.fst,AV.d e.snd)) (mpD b))=bothK a b:=rfl
 simp only [hB]
 have hS:=bothK_sort a2 b2
 simp only [hS]
 have hU:=mids_dif ht _ _ _ a b (Nat.le_refl _) a2 b2
 have hlen:(mids a b).length<=2048:=by
  have h1:=mids_len _ a b (Nat.le_refl _)
  omega
 refine⟨.idx a _ a2,.idx b _ b2,rfl,⟨⟨mkd_mpD a,mkd_mpD b⟩,?_,?_,?_⟩,⟨fun v x h=>bothK_int h,by rw [bothK_len];omega⟩,?_⟩
 ·rintro v x (⟨v',d,h,rfl,rfl⟩ | ⟨v',d,h,rfl,rfl⟩)
  ·obtain⟨s,_,rfl,_⟩:=mem_mpD h
   exact⟨s.id,rfl,s.hi⟩
  ·obtain⟨s,_,rfl,_⟩:=mem_mpD h
   exact⟨s.id,rfl,s.hi⟩
 ·rintro v x v' d h rfl rfl
  obtain⟨s,_,_,rfl⟩:=mem_mpD h
  exact⟨_,rfl,rfl⟩
 ·rw [mpD_len,mpD_len];omega
 refine vc_loopK [0,4,5,21,22] Nat (fun y=>[(23,true,.d (dI y))]) (fun y=>[(1,.box false [.own 10 5 ((difT t ht a b y).map dCh)]),(10,.row)]) (fun y=>y<=(mids a b).length∧∀ j,(h:j<(mids a b).length)->j<y->difB (sid a (mids a b)[j]) (sid b (mids a b)[j])=false) (fun y=>(mids a b).length-y) 0 ⟨Nat.zero_le _,fun j _ hj=>absurd hj (Nat.not_lt_zero _)⟩ ⟨[],[(10,5)],?_⟩ (fun k hk=>?_)
 ·simp [show difT t ht a b 0=[] from rfl]
  exact⟨⟨leL_mpD2 _ _ _ _ _,leL_mpD2 _ _ _ _ _,leL_both _ _ _ _ _ _⟩,fun x hx=>by first | omega | exact .inr ⟨by rw [if_neg (by omega)];rfl,by omega⟩⟩
 obtain⟨i1,i2⟩:=hk
 simp
 refine⟨fun hlt=>?_,fun hge=>?_⟩
 ·have hw:IntKind.i64.wrap ((k:Int)+1)=(k:Int)+1:=wrap64 (by omega)
  have hsu:=difT_succ (t:=t) (ht:=ht) hlt
  have hnx:difB (sid a (mids a b)[k]) (sid b (mids a b)[k])=false->∀ j,(h:j<(mids a b).length)->j<k+1->difB (sid a (mids a b)[j]) (sid b (mids a b)[j])=false:=fun hd j h hj=>by
   by_cases e:j=k
   ·subst e;exact hd
   ·exact i2 j h (by omega)
  have hdl:=difT_len (t:=t) (ht:=ht) (a:=a) (b:=b) k i1
  have hfa:=kFind_D a (mids a b)[k]
  have hfb:=kFind_D b (mids a b)[k]
  cases hA:sid a (mids a b)[k] with
  | none =>
   rw [hA] at hfa hsu hnx
   cases hB:sid b (mids a b)[k] with
   | none =>
    have hm:=(mids_mem _ a b (Nat.le_refl _) (mids a b)[k]).1 (List.getElem_mem hlt)
    rcases hm with ⟨s,hs,e⟩ | ⟨s,hs,e⟩
    ·unfold sid at hA
     rw [List.find?_eq_none] at hA
     exact absurd e (by simpa using hA s hs)
    ·unfold sid at hB
     rw [List.find?_eq_none] at hB
     exact absurd e (by simpa using hB s hs)
   | some y =>
    rw [hB] at hfb hsu hnx
    simp only [difC] at hsu
    simp [hlt,hfa,hfb]
    refine regS_path [] ?_
    simp
    refine regS_path [] ?_
    simp
    refine icall_T (TF Tryz.prog a40) (hcall_of_vc c40) ?_
    simp [a40]
    refine⟨⟨by omega,by omega⟩,k+1,⟨by omega,hnx rfl⟩,by omega,[(10,15)],[],?_⟩
    simp [hsu,hw,putC,dropC,swapC,chOf,dCh]
    exact⟨⟨leL_mpD2 _ _ _ _ _,leL_mpD2 _ _ _ _ _,leL_both _ _ _ _ _ _⟩,fun x hx=>by first | omega | exact .inr ⟨by rw [if_neg (by omega)];rfl,by omega⟩⟩
  | some x =>
   rw [hA] at hfa hsu hnx
   cases hB:sid b (mids a b)[k] with
   | none =>
    rw [hB] at hfb hsu hnx
    simp only [difC] at hsu
    simp [hlt,hfa,hfb]
    refine regS_path [] ?_
    simp
    refine regS_path [] ?_
    simp
    refine icall_T (TF Tryz.prog a40) (hcall_of_vc c40) ?_
    simp [a40]
    refine⟨⟨by omega,by omega⟩,k+1,⟨by omega,hnx rfl⟩,by omega,[(10,15)],[],?_⟩
    simp [hsu,hw,putC,dropC,swapC,chOf,dCh]
    exact⟨⟨leL_mpD2 _ _ _ _ _,leL_mpD2 _ _ _ _ _,leL_both _ _ _ _ _ _⟩,fun x hx=>by first | omega | exact .inr ⟨by rw [if_neg (by omega)];rfl,by omega⟩⟩
   | some y =>
    rw [hB] at hfb hsu hnx
    simp only [difC] at hsu
    by_cases hv:x.ver=y.ver
    ·by_cases hxy:x=y
     ·subst hxy
      simp [hlt,hfa,hfb]
      refine regS_path [] ?_
      simp
      have hq:eqB [dZ x.tx] [dZ x.tx]=true:=by simp [eqB,dZ]
      refine⟨by simp [eqC,dZ],fun h=>absurd h (by rw [hq];simp),fun _=>⟨k+1,⟨by omega,hnx (by simp [difB])⟩,by omega,[],[],?_⟩⟩
      rw [if_neg (by simp),List.append_nil] at hsu
      simp [hsu,hw]
      exact⟨⟨leL_mpD2 _ _ _ _ _,leL_mpD2 _ _ _ _ _,leL_both _ _ _ _ _ _⟩,fun x hx=>by first | omega | exact .inr ⟨by rw [if_neg (by omega)];rfl,by omega⟩⟩
     ·have hv':(x.ver != y.ver)=false:=by simpa using hv
      have heq:eqB [.lit (.int .i64 x.id),.lit (.int .i64 x.ver),dZ x.tx] [.lit (.int .i64 y.id),.lit (.int .i64 y.ver),dZ y.tx]=false:=(eqB_sp x y).trans (by simp [hxy])
      have hec:eqC [.int .i64,.int .i64,.str] [.lit (.int .i64 x.id),.lit (.int .i64 x.ver),dZ x.tx] [.lit (.int .i64 y.id),.lit (.int .i64 y.ver),dZ y.tx]=True:=by simp [eqC,dZ]
      simp [hlt,hfa,hfb]
      refine regS_path [] ?_
      simp [hv']
      have hbad:badM a b=true:=by
       rw [<- hU.2,List.any_eq_true]
       exact⟨_,List.getElem_mem hlt,by rw [hA,hB];simp [difB,hv,hxy]⟩
      refine⟨by simp [eqC,dZ],fun _=>by rw [hbad];exact⟨LeD.nil' _ _,LeD.refl _⟩,fun q1 q2 q3=>?_⟩
      have h:=heq
      simp [q1,q2,q3] at h
    ·have hv':(x.ver != y.ver)=true:=by simpa using hv
     rw [if_pos hv] at hsu
     simp [hlt,hfa,hfb]
     refine regS_path [] ?_
     simp [hv']
     refine regS_path [] ?_
     simp
     refine icall_T (TF Tryz.prog a40) (hcall_of_vc c40) ?_
     simp [a40]
     refine⟨⟨by omega,by omega⟩,k+1,⟨by omega,hnx (by simp [difB,hv])⟩,by omega,[(10,15)],[],?_⟩
     simp [hsu,hw,putC,dropC,swapC,chOf,dCh]
     exact⟨⟨leL_mpD2 _ _ _ _ _,leL_mpD2 _ _ _ _ _,leL_both _ _ _ _ _ _⟩,fun x hx=>by first | omega | exact .inr ⟨by rw [if_neg (by omega)];rfl,by omega⟩⟩
 ·have hk:k=(mids a b).length:=by omega
  have hbad:badM a b=false:=by
   rw [<- hU.2,List.any_eq_false]
   intro n hn
   obtain⟨j,hj,rfl⟩:=List.mem_iff_getElem.1 hn
   simpa using i2 j hj (by omega)
  have hall:difT t ht a b k=mrg t ht a b:=by
   unfold difT
   rw [hk,List.take_length]
   exact hU.1
  rw [hbad,hall]
  exact⟨LeD.refl _,LeD.refl _⟩
inductive C616:FuncId->List D->Out->Prop
 | chk (l:List Sp):C616 39 [.sl 3 (l.map dSp)] (.ret (dI (dispE l)))
 | dod (l:List Sp) (c:Ch):C616 7 [.sl 3 (l.map dSp),dCh c] (.ret (.tup [.sl 3 ((doDL l c).map dSp),dI (doDE l c)]))
theorem h616:∀ f ds out,C616 f ds out->PCall Tryz.prog f ds out:=by
 intro f ds out h
 cases h with
 | chk l=>exact dCheckE l
 | dod l c=>exact dDo l c
theorem pApply(a:List Sp) (p:List Ch) (x:List Sp) (hd:dispE a=0) (hl:p.length<=4096) (hx:runD a p=some x):PCall Tryz.prog 15 [.sl 3 (a.map dSp),.sl 5 (p.map dCh)] (.ret (.tup [.sl 3 (x.map dSp),dI 0])):=by
 refine pcall_of_vc h616 c15 (by simp [a15]) fun hr=>?_
 have ka:=C616.chk a
 rw [hd] at ka
 have q1:¬ (4096:Int)<(p.length:Int):=by omega
 simp [a15]
 refine vc_path [.ret (dI 0)] ?_
 simp [q1]
 refine⟨ka,?_⟩
 refine vc_loopK [17,18] (Nat×List Sp) (fun y=>[(19,true,.d (dI y.1)),(4,true,.d (.sl 3 (y.2.map dSp))),(5,true,.d (dI 0))]) (fun y=>[]) (fun y=>y.1<=p.length∧runD y.2 (p.drop y.1)=some x) (fun y=>p.length-y.1) (0,a) ⟨Nat.zero_le _,hx⟩ ⟨[],[],?_⟩ (fun y hy=>?_)
 ·simp
 obtain⟨k,z⟩:=y
 obtain⟨i1,i2⟩:=hy
 simp only at i1 i2
 simp
 refine⟨fun hlt=>?_,fun hge=>?_⟩
 ·have hw:IntKind.i64.wrap ((k:Int)+1)=(k:Int)+1:=wrap64 (by omega)
  rw [List.drop_eq_getElem_cons hlt,runD] at i2
  by_cases e:doDE z p[k]=0
  ·rw [if_pos e] at i2
   have kd:=C616.dod z p[k]
   rw [e] at kd
   simp [hlt]
   refine vc_path [.ret (.tup [.sl 3 ((doDL z p[k]).map dSp),dI 0])] ?_
   simp
   refine⟨kd,k+1,doDL z p[k],⟨by omega,i2⟩,by omega,[],[],?_⟩
   simp [hw]
  ·rw [if_neg e] at i2
   cases i2
 ·have:k=p.length:=by omega
  subst this
  rw [List.drop_length,runD] at i2
  injection i2 with i2
  subst i2
  simp
  trace_state
end

section
attribute [local simp] dVi_cells dVi_isAgg dVi_noTup dVi_nt
set_option maxRecDepth 8000
set_option maxHeartbeats 4000000
theorem vWithin(n m:Int):PCall Tryz.prog 90 [dI n,dI m] (.ret (dB (decide (0<=n)&&decide (n<m)))):=by
 refine pcall_of_vc noC c90 (by simp [a90]) fun hr=>?_
 simp [a90]
 refine vc_path [] ?_
 by_cases h:0<=n <;> simp [h]
def dActs:D:=.agg ([dB false,dB false,dB false,dB false,.lit .nilFunc]++([dB false,dB true,dB false,dB true,.fn (.func 139) [] []]++([dB true,dB true,dB true,dB true,.fn (.func 140) [] []]++([dB true,dB false,dB true,dB false,.fn (.func 141) [] []]++[dB true,dB true,dB false,dB false,.fn (.func 142) [] []]))))
theorem vActs:PCall Tryz.prog 118 [] (.ret dActs):=by
 refine pcall_of_vc noC c118 (by simp [a118]) fun hr=>?_
 simp [a118,dActs]
def dVw (v:Bool×Int):D:=.agg [dB v.1,dI v.2]
theorem vAct1(v:Bool×Int) (lg:Int):PCall Tryz.prog 139 [dVw v,dI lg] (.ret (dVw (true,lg))):=by
 refine pcall_of_vc noC c139 (by simp [a139]) fun hr=>?_
 simp [a139,dVw]
theorem vAct2(v:Bool×Int) (lg:Int):PCall Tryz.prog 140 [dVw v,dI lg] (.ret (dVw (v.1,lg))):=by
 refine pcall_of_vc noC c140 (by simp [a140]) fun hr=>?_
 simp [a140,dVw]
theorem vAct3(v:Bool×Int) (lg:Int):PCall Tryz.prog 141 [dVw v,dI lg] (.ret (dVw (false,v.2))):=by
 refine pcall_of_vc noC c141 (by simp [a141]) fun hr=>?_
 simp [a141,dVw]
theorem vAct4(v:Bool×Int) (lg:Int):PCall Tryz.prog 142 [dVw v,dI lg] (.ret (dVw (true,v.2))):=by
 refine pcall_of_vc noC c142 (by simp [a142]) fun hr=>?_
 simp [a142,dVw]
inductive C617:FuncId->List D->Out->Prop
 | win (n m:Int):C617 90 [dI n,dI m] (.ret (dB (decide (0<=n)&&decide (n<m))))
 | acts:C617 118 [] (.ret dActs)
 | a1 (v:Bool×Int) (lg:Int):C617 139 [dVw v,dI lg] (.ret (dVw (true,lg)))
 | a2 (v:Bool×Int) (lg:Int):C617 140 [dVw v,dI lg] (.ret (dVw (v.1,lg)))
 | a3 (v:Bool×Int) (lg:Int):C617 141 [dVw v,dI lg] (.ret (dVw (false,v.2)))
 | a4 (v:Bool×Int) (lg:Int):C617 142 [dVw v,dI lg] (.ret (dVw (true,v.2)))
theorem h617:∀ f ds out,C617 f ds out->PCall Tryz.prog f ds out:=by
 intro f ds out h
 cases h with
 | win n m=>exact vWithin n m
 | acts=>exact vActs
 | a1 v lg=>exact vAct1 v lg
 | a2 v lg=>exact vAct2 v lg
 | a3 v lg=>exact vAct3 v lg
 | a4 v lg=>exact vAct4 v lg
def mA (A:Au):List (Value×AV):=A.map fun e=>(.int .i64 e.1,.d (dVw e.2))
theorem mA_find(w:Int):∀ A:Au,kFind (.int .i64 w) (mA A)=some ((vGet A w).map fun v=>AV.d (dVw v))
 | []=>rfl
 | e::r=>by
  have ih:=mA_find w r
  unfold mA vGet at ih ⊢
  rw [List.map_cons,kFind_cons,ih,List.find?_cons,kSame_int]
  by_cases h:e.1=w
  ·simp [h]
  ·have hb:(w == e.1)=false:=by simp;exact fun x=>h x.symm
   have hb2:(e.1 == w)=false:=by simp [h]
   rw [hb,hb2,if_pos rfl]
theorem mA_set(w:Int) (v:Bool×Int):∀ A:Au,kPut (.int .i64 w) (.d (dVw v)) (mA A)=mA (vSet w v A)
 | []=>rfl
 | e::r=>by
  have ih:=mA_set w v r
  show kPut (.int .i64 w) (.d (dVw v)) ((.int .i64 e.1,.d (dVw e.2))::mA r)=_
  rw [kPut,kSame_int,if_pos rfl,vSet]
  by_cases h:e.1=w
  ·rw [if_pos h,h];simp [mA]
  ·have hb:(w == e.1)=false:=by simp;exact fun x=>h x.symm
   rw [hb,if_neg h]
   simp only [ih];rfl
theorem mA_snoc(A:Au) (w:Int) (v:Bool×Int):mA (A++[(w,v)])=mA A++[(.int .i64 w,.d (dVw v))]:=by simp [mA]
theorem mA_leL(ρ:Nat->Nat) (N:Nat->Option Nat) (ok:Nat->Bool) (k:Nat) (A:Au):leA.leL ρ N ok k ((mA A).map (·.2)) ((mA A).map (·.2)):=by
 have e:(mA A).map (·.2)=(A.map fun e=>dVw e.2).map AV.d:=by simp [mA,Function.comp_def]
 rw [e];exact leL_map ρ N ok k _
theorem mA_mkd(A:Au):mkd (mA A)=false:=by cases A <;> rfl
def TPerf (cx:Cx) (all:List AV) (h:List (Nat×HO)) (K:HOut->List (Nat×HO)->Prop):Prop :=
 ∃ (A:Au) (x:Vi),cx.B=2∧all=[.mp 0,.d (dVi x)]∧h=[(0,.mapo (mA A)),(1,.box true ((dVi x).cells.map .d))]∧K (.ret (.d (dB (perfV A x).isSome))) [(0,.mapo (mA ((perfV A x).getD A))),(1,.box true ((dVi x).cells.map .d))]
theorem snocL(ρ:Nat->Nat) (N:Nat->Option Nat) (ok:Nat->Bool) (k:Nat) (A:Au) (w:Int) (b:Bool) (n:Int):leA.leL ρ N ok k (List.map (fun x=>x.snd) (mA A)++[AV.d (D.agg [.lit (.bool b),.lit (.int .i64 n)])]) (List.map (fun x=>x.snd) (mA A)++[AV.d (D.agg [.lit (.bool b),.lit (.int .i64 n)])]):=by
 have:=mA_leL ρ N ok k (A++[(w,(b,n))])
 rw [mA_snoc,List.map_append] at this
 exact this
theorem hPerf:HCall Tryz.prog 89 TPerf:=hcall_weak c89 h617 (by
 rintro cx all h K ⟨A,x,hB,rfl,rfl,hK⟩
 rw [hB]
 have w1:=C617.win x.at_ 1099511627776
 have w2:=C617.win x.who 100000
 have w3:=C617.win (IntKind.i64.wrap (x.kind-1)) 4
 have w4:=C617.win x.lang 32
 have e3:(decide (0<=IntKind.i64.wrap (x.kind-1))&&decide (IntKind.i64.wrap (x.kind-1)<4))=(decide (1<=x.kind)&&decide (x.kind<=4)):=by
  have hr:=x.hk
  by_cases h:x.kind=-9223372036854775808
  ·rw [h];decide
  ·rw [wrap64 (by omega)]
   by_cases h1:1<=x.kind
   ·have h2:0<=x.kind-1:=by omega
    by_cases h3:x.kind<=4
    ·have h4:x.kind-1<4:=by omega
     simp [h1,h2,h3,h4]
    ·have h4:¬ x.kind-1<4:=by omega
     simp [h3,h4]
   ·have h2:¬ 0<=x.kind-1:=by omega
    simp [h1,h2]
 rw [e3] at w3
 have hok:okVi x=((decide (0<=x.at_)&&decide (x.at_<1099511627776))&&((decide (0<=x.who)&&decide (x.who<100000))&&((decide (1<=x.kind)&&decide (x.kind<=4))&&(decide (0<=x.lang)&&decide (x.lang<32))))):=by
  unfold okVi okTm
  simp only [Bool.and_assoc]
 have hkd:(decide (1<=x.kind)&&decide (x.kind<=4))=true->x.kind=1∨x.kind=2∨x.kind=3∨x.kind=4:=fun h=>by
  simp only [Bool.and_eq_true,decide_eq_true_eq] at h
  omega
 generalize (decide (0<=x.at_)&&decide (x.at_<1099511627776))=b1 at *
 generalize (decide (0<=x.who)&&decide (x.who<100000))=b2 at *
 generalize (decide (1<=x.kind)&&decide (x.kind<=4))=b3 at *
 generalize (decide (0<=x.lang)&&decide (x.lang<32))=b4 at *
 have hno:okVi x=false->K (.ret (.d (dB false))) [(0,.mapo (mA A)),(1,.box true ((dVi x).cells.map .d))]:=fun h=>by
  have e:perfV A x=none:=by unfold perfV;rw [if_neg (by rw [h];simp)]
  rw [e] at hK;exact hK
 have hle:=mA_leL
 simp [a89,dVi]
 cases b1 with
 | false =>
  have hK:=hno (by rw [hok];rfl)
  refine vc_pathD [.ret (dB false),.ret (dB false),.ret (dB false),.ret (dB false),.ret (dB false)] ?_
  simp
  refine⟨w1,rfl,_,_,⟨[],[],?_⟩,hK⟩
  simp
  exact⟨mA_leL _ _ _ _ _,fun x hx=>by omega⟩
 | true =>
 cases b2 with
 | false =>
  have hK:=hno (by rw [hok];rfl)
  refine vc_pathD [.ret (dB true),.ret (dB false),.ret (dB false),.ret (dB false),.ret (dB false)] ?_
  simp
  refine⟨w1,w2,rfl,_,_,⟨[],[],?_⟩,hK⟩
  simp
  exact⟨mA_leL _ _ _ _ _,fun x hx=>by omega⟩
 | true =>
 cases b3 with
 | false =>
  have hK:=hno (by rw [hok];rfl)
  refine vc_pathD [.ret (dB true),.ret (dB true),.ret dActs,.ret (dB false),.ret (dB false)] ?_
  simp
  refine⟨w1,w2,.acts,w3,rfl,_,_,⟨[],[],?_⟩,hK⟩
  simp
  exact⟨mA_leL _ _ _ _ _,fun x hx=>by omega⟩
 | true =>
 cases b4 with
 | false =>
  have hK:=hno (by rw [hok];rfl)
  refine vc_pathD [.ret (dB true),.ret (dB true),.ret dActs,.ret (dB true),.ret (dB false)] ?_
  simp
  refine⟨w1,w2,.acts,w3,w4,rfl,_,_,⟨[],[],?_⟩,hK⟩
  simp
  exact⟨mA_leL _ _ _ _ _,fun x hx=>by omega⟩
 | true =>
 refine vc_pathD [.ret (dB true),.ret (dB true),.ret dActs,.ret (dB true),.ret (dB true)] ?_
 simp
 refine⟨w1,w2,.acts,w3,w4,rfl,?_⟩
 have hokT:okVi x=true:=by rw [hok];rfl
 have hp:perfV A x=(vDo x.kind x.lang (vGet A x.who)).map (vPut A x.who):=by unfold perfV;rw [if_pos hokT]
 have hf:=mA_find x.who A
 have hno2:vDo x.kind x.lang (vGet A x.who)=none->K (.ret (.d (dB false))) [(0,.mapo (mA A)),(1,.box true ((dVi x).cells.map .d))]:=fun h=>by
  rw [hp,h] at hK;exact hK
 have hyes:∀ v,vDo x.kind x.lang (vGet A x.who)=some v->K (.ret (.d (dB true))) [(0,.mapo (mA (vPut A x.who v))),(1,.box true ((dVi x).cells.map .d))]:=fun v h=>by
  rw [hp,h] at hK;exact hK
 have hset:∀ (b:Bool) (n:Int),kPut (.int .i64 x.who) (AV.d (D.agg [.lit (.bool b),.lit (.int .i64 n)])) (mA A)=mA (vSet x.who (b,n) A):=fun b n=>mA_set x.who (b,n) A
 have hsn:∀ (b:Bool) (n:Int),mA (A++[(x.who,(b,n))])=mA A++[(.int .i64 x.who,AV.d (D.agg [.lit (.bool b),.lit (.int .i64 n)]))]:=fun b n=>mA_snoc A x.who (b,n)
 cases hg:vGet A x.who with
 | none =>
  rw [hg] at hf hno2 hyes
  have hy:∀ v,vPut A x.who v=A++[(x.who,v)]:=fun v=>by unfold vPut;rw [hg]
  simp [hf]
  refine vc_pathD [.ret dActs] ?_
  rcases hkd rfl with e | e | e | e
  ·by_cases h0:x.lang=0
   ·have hK:=hyes (true,0) (by simp [vDo,e,h0])
    rw [hy] at hK
    simp [e,dActs]
    refine⟨.acts,rfl,?_⟩
    refine vc_path [] ?_
    simp [h0,dVw]
    refine vc_pathD [.ret (dVw (true,0))] ?_
    simp [hf,dVw]
    refine⟨.a1 (false,0) 0,rfl,?_⟩
    refine⟨_,_,⟨[],[],?_⟩,hK⟩
    simp [e,h0,hsn]
    exact⟨snocL _ _ _ _ A x.who _ _,fun x hx=>by omega⟩
   ·have hK:=hyes (true,x.lang) (by simp [vDo,e,h0])
    rw [hy] at hK
    simp [e,dActs]
    refine⟨.acts,rfl,?_⟩
    refine vc_path [] ?_
    simp [h0,dVw]
    refine vc_pathD [.ret (dVw (true,x.lang))] ?_
    simp [hf,dVw]
    refine⟨.a1 (false,0) x.lang,rfl,?_⟩
    refine⟨_,_,⟨[],[],?_⟩,hK⟩
    simp [e,h0,hsn]
    exact⟨snocL _ _ _ _ A x.who _ _,fun x hx=>by omega⟩
  ·by_cases h0:x.lang=0
   ·have hK:=hno2 (by simp [vDo,e,h0])
    simp [e,dActs]
    refine⟨.acts,rfl,?_⟩
    refine vc_path [] ?_
    simp [h0,dVw]
    refine⟨_,_,⟨[],[],?_⟩,hK⟩
    simp [e,h0]
    exact⟨mA_leL _ _ _ _ _,fun x hx=>by omega⟩
   ·have hK:=hno2 (by simp [vDo,e,h0])
    simp [e,dActs]
    refine⟨.acts,rfl,?_⟩
    refine vc_path [] ?_
    simp [h0,dVw]
    refine⟨_,_,⟨[],[],?_⟩,hK⟩
    simp [e,h0]
    exact⟨mA_leL _ _ _ _ _,fun x hx=>by omega⟩
  ·by_cases h0:x.lang=0
   ·have hK:=hno2 (by simp [vDo,e,h0])
    simp [e,dActs]
    refine⟨.acts,rfl,?_⟩
    refine vc_path [] ?_
    simp [h0,dVw]
    refine⟨_,_,⟨[],[],?_⟩,hK⟩
    simp [e,h0]
    exact⟨mA_leL _ _ _ _ _,fun x hx=>by omega⟩
   ·have hK:=hno2 (by simp [vDo,e,h0])
    simp [e,dActs]
    refine⟨.acts,rfl,?_⟩
    refine vc_path [] ?_
    simp [h0,dVw]
    refine⟨_,_,⟨[],[],?_⟩,hK⟩
    simp [e,h0]
    exact⟨mA_leL _ _ _ _ _,fun x hx=>by omega⟩
  ·by_cases h0:x.lang=0
   ·have hK:=hno2 (by simp [vDo,e,h0])
    simp [e,dActs]
    refine⟨.acts,rfl,?_⟩
    refine vc_path [] ?_
    simp [h0,dVw]
    refine⟨_,_,⟨[],[],?_⟩,hK⟩
    simp [e,h0]
    exact⟨mA_leL _ _ _ _ _,fun x hx=>by omega⟩
   ·have hK:=hno2 (by simp [vDo,e,h0])
    simp [e,dActs]
    refine⟨.acts,rfl,?_⟩
    refine vc_path [] ?_
    simp [h0,dVw]
    refine⟨_,_,⟨[],[],?_⟩,hK⟩
    simp [e,h0]
    exact⟨mA_leL _ _ _ _ _,fun x hx=>by omega⟩
 | some v =>
  rw [hg] at hf hno2 hyes
  have hy:∀ v,vPut A x.who v=vSet x.who v A:=fun v=>by unfold vPut;rw [hg]
  obtain⟨on,lg⟩:=v
  cases on with
  | true =>
   simp [hf,dVw]
   refine vc_pathD [.ret dActs] ?_
   rcases hkd rfl with e | e | e | e
   ·by_cases h0:x.lang=0
    ·have hK:=hno2 (by simp [vDo,e,h0])
     simp [e,dActs]
     refine⟨.acts,rfl,?_⟩
     refine vc_path [] ?_
     simp [h0,dVw]
     refine⟨_,_,⟨[],[],?_⟩,hK⟩
     simp [e,h0]
     exact⟨mA_leL _ _ _ _ _,fun x hx=>by omega⟩
    ·have hK:=hno2 (by simp [vDo,e,h0])
     simp [e,dActs]
     refine⟨.acts,rfl,?_⟩
     refine vc_path [] ?_
     simp [h0,dVw]
     refine⟨_,_,⟨[],[],?_⟩,hK⟩
     simp [e,h0]
     exact⟨mA_leL _ _ _ _ _,fun x hx=>by omega⟩
   ·by_cases h0:x.lang=0
    ·have hK:=hyes (true,0) (by simp [vDo,e,h0])
     rw [hy] at hK
     simp [e,dActs]
     refine⟨.acts,rfl,?_⟩
     refine vc_path [] ?_
     simp [h0,dVw]
     refine vc_pathD [.ret (dVw (true,0))] ?_
     simp [hf,dVw]
     refine⟨.a2 (true,lg) 0,rfl,?_⟩
     refine⟨_,_,⟨[],[],?_⟩,hK⟩
     simp [e,h0,hset]
     exact⟨mA_leL _ _ _ _ _,fun x hx=>by omega⟩
    ·have hK:=hyes (true,x.lang) (by simp [vDo,e,h0])
     rw [hy] at hK
     simp [e,dActs]
     refine⟨.acts,rfl,?_⟩
     refine vc_path [] ?_
     simp [h0,dVw]
     refine vc_pathD [.ret (dVw (true,x.lang))] ?_
     simp [hf,dVw]
     refine⟨.a2 (true,lg) x.lang,rfl,?_⟩
     refine⟨_,_,⟨[],[],?_⟩,hK⟩
     simp [e,h0,hset]
     exact⟨mA_leL _ _ _ _ _,fun x hx=>by omega⟩
   ·by_cases h0:x.lang=0
    ·have hK:=hyes (false,lg) (by simp [vDo,e,h0])
     rw [hy] at hK
     simp [e,dActs]
     refine⟨.acts,rfl,?_⟩
     refine vc_path [] ?_
     simp [h0,dVw]
     refine vc_pathD [.ret (dVw (false,lg))] ?_
     simp [hf,dVw]
     refine⟨.a3 (true,lg) 0,rfl,?_⟩
     refine⟨_,_,⟨[],[],?_⟩,hK⟩
     simp [e,h0,hset]
     exact⟨mA_leL _ _ _ _ _,fun x hx=>by omega⟩
    ·have hK:=hno2 (by simp [vDo,e,h0])
     simp [e,dActs]
     refine⟨.acts,rfl,?_⟩
     refine vc_path [] ?_
     simp [h0,dVw]
     refine⟨_,_,⟨[],[],?_⟩,hK⟩
     simp [e,h0]
     exact⟨mA_leL _ _ _ _ _,fun x hx=>by omega⟩
   ·by_cases h0:x.lang=0
    ·have hK:=hno2 (by simp [vDo,e,h0])
     simp [e,dActs]
     refine⟨.acts,rfl,?_⟩
     refine vc_path [] ?_
     simp [h0,dVw]
     refine⟨_,_,⟨[],[],?_⟩,hK⟩
     simp [e,h0]
     exact⟨mA_leL _ _ _ _ _,fun x hx=>by omega⟩
    ·have hK:=hno2 (by simp [vDo,e,h0])
     simp [e,dActs]
     refine⟨.acts,rfl,?_⟩
     refine vc_path [] ?_
     simp [h0,dVw]
     refine⟨_,_,⟨[],[],?_⟩,hK⟩
     simp [e,h0]
     exact⟨mA_leL _ _ _ _ _,fun x hx=>by omega⟩
  | false =>
   simp [hf,dVw]
   refine vc_pathD [.ret dActs] ?_
   rcases hkd rfl with e | e | e | e
   ·by_cases h0:x.lang=0
    ·have hK:=hno2 (by simp [vDo,e,h0])
     simp [e,dActs]
     refine⟨.acts,rfl,?_⟩
     refine vc_path [] ?_
     simp [h0,dVw]
     refine⟨_,_,⟨[],[],?_⟩,hK⟩
     simp [e,h0]
     exact⟨mA_leL _ _ _ _ _,fun x hx=>by omega⟩
    ·have hK:=hno2 (by simp [vDo,e,h0])
     simp [e,dActs]
     refine⟨.acts,rfl,?_⟩
     refine vc_path [] ?_
     simp [h0,dVw]
     refine⟨_,_,⟨[],[],?_⟩,hK⟩
     simp [e,h0]
     exact⟨mA_leL _ _ _ _ _,fun x hx=>by omega⟩
   ·by_cases h0:x.lang=0
    ·have hK:=hyes (false,0) (by simp [vDo,e,h0])
     rw [hy] at hK
     simp [e,dActs]
     refine⟨.acts,rfl,?_⟩
     refine vc_path [] ?_
     simp [h0,dVw]
     refine vc_pathD [.ret (dVw (false,0))] ?_
     simp [hf,dVw]
     refine⟨.a2 (false,lg) 0,rfl,?_⟩
     refine⟨_,_,⟨[],[],?_⟩,hK⟩
     simp [e,h0,hset]
     exact⟨mA_leL _ _ _ _ _,fun x hx=>by omega⟩
    ·have hK:=hyes (false,x.lang) (by simp [vDo,e,h0])
     rw [hy] at hK
     simp [e,dActs]
     refine⟨.acts,rfl,?_⟩
     refine vc_path [] ?_
     simp [h0,dVw]
     refine vc_pathD [.ret (dVw (false,x.lang))] ?_
     simp [hf,dVw]
     refine⟨.a2 (false,lg) x.lang,rfl,?_⟩
     refine⟨_,_,⟨[],[],?_⟩,hK⟩
     simp [e,h0,hset]
     exact⟨mA_leL _ _ _ _ _,fun x hx=>by omega⟩
   ·by_cases h0:x.lang=0
    ·have hK:=hno2 (by simp [vDo,e,h0])
     simp [e,dActs]
     refine⟨.acts,rfl,?_⟩
     refine vc_path [] ?_
     simp [h0,dVw]
     refine⟨_,_,⟨[],[],?_⟩,hK⟩
     simp [e,h0]
     exact⟨mA_leL _ _ _ _ _,fun x hx=>by omega⟩
    ·have hK:=hno2 (by simp [vDo,e,h0])
     simp [e,dActs]
     refine⟨.acts,rfl,?_⟩
     refine vc_path [] ?_
     simp [h0,dVw]
     refine⟨_,_,⟨[],[],?_⟩,hK⟩
     simp [e,h0]
     exact⟨mA_leL _ _ _ _ _,fun x hx=>by omega⟩
   ·by_cases h0:x.lang=0
    ·have hK:=hyes (true,lg) (by simp [vDo,e,h0])
     rw [hy] at hK
     simp [e,dActs]
     refine⟨.acts,rfl,?_⟩
     refine vc_path [] ?_
     simp [h0,dVw]
     refine vc_pathD [.ret (dVw (true,lg))] ?_
     simp [hf,dVw]
     refine⟨.a4 (false,lg) 0,rfl,?_⟩
     refine⟨_,_,⟨[],[],?_⟩,hK⟩
     simp [e,h0,hset]
     exact⟨mA_leL _ _ _ _ _,fun x hx=>by omega⟩
    ·have hK:=hno2 (by simp [vDo,e,h0])
     simp [e,dActs]
     refine⟨.acts,rfl,?_⟩
     refine vc_path [] ?_
     simp [h0,dVw]
     refine⟨_,_,⟨[],[],?_⟩,hK⟩
     simp [e,h0]
     exact⟨mA_leL _ _ _ _ _,fun x hx=>by omega⟩)
theorem vCheck(l:List Vi):PCall Tryz.prog 44 [.sl 4 (l.map dVi)] (.ret (dI (visE l))):=by
 refine pcall_of_vc noC c44 (by simp [a44]) fun hr=>?_
 have hlen:=(hr (.sl 4 (l.map dVi)) (by simp)).sl.1
 simp at hlen
 unfold visE
 simp [a44]
 by_cases q1:4096<l.length
 ·have q1':(4096:Int)<(l.length:Int):=by omega
  rw [if_pos q1]
  have q1'':¬ (l.length:Int)<=4096:=by omega
  simp [q1',q1'']
 have q1'':(l.length:Int)<=4096:=by omega
 have q1':¬ (4096:Int)<(l.length:Int):=by omega
 rw [if_neg q1]
 simp [q1',q1'']
 refine vc_loopK [0,3,11,12] (Nat×Au×Int) (fun y=>[(13,true,.d (dI y.1)),(4,true,.d (dI y.2.2))]) (fun y=>[(0,.mapo (mA y.2.1))]) (fun y=>y.1<=l.length∧badV y.2.1 y.2.2 (l.drop y.1)=badV [] 0 l) (fun y=>l.length-y.1) (0,[],0) ⟨Nat.zero_le _,rfl⟩ ⟨[],[],?_⟩ (fun y hy=>?_)
 ·simp [show mA []=[] from rfl]
 obtain⟨k,A,last⟩:=y
 obtain⟨i1,i2⟩:=hy
 simp only at i1 i2
 simp
 refine⟨fun hlt=>?_,fun hge=>?_⟩
 ·have hw:IntKind.i64.wrap ((k:Int)+1)=(k:Int)+1:=wrap64 (by omega)
  rw [List.drop_eq_getElem_cons hlt,badV] at i2
  by_cases ha:l[k].at_<last
  ·rw [if_pos ha] at i2
   simp [hlt,ha]
   refine regS_path [] ?_
   simp [ha,<- i2]
  ·rw [if_neg ha] at i2
   simp [hlt,ha]
   refine regS_path [] ?_
   simp [ha]
   refine icall_T TPerf hPerf ?_
   refine⟨A,l[k],rfl,rfl,rfl,?_⟩
   cases hp:perfV A l[k] with
   | none =>
    rw [hp] at i2
    simp
    simp only at i2
    exact leD_of_eq (by rw [<- i2];rfl)
   | some A' =>
    rw [hp] at i2
    simp
    refine⟨k+1,A',l[k].at_,⟨by omega,i2⟩,by omega,[],[],?_⟩
    simp [hw]
    exact mA_leL _ _ _ _ _
 ·have:k=l.length:=by omega
  subst this
  rw [List.drop_length,badV] at i2
  rw [<- i2]
  simp
def mAD (A:Au):List (Value×D):=A.map fun e=>(.int .i64 e.1,dVw e.2)
theorem mAD_find(w:Int) (A:Au):kFind (.int .i64 w) (List.map (fun e=>(e.fst,AV.d e.snd)) (mAD A))=some ((vGet A w).map fun v=>AV.d (dVw v)):=by
 rw [<- mA_find w A]
 simp [mA,mAD,Function.comp_def]
theorem mAD_ret(A:Au):(mkd (mA A)=false∧List.map (fun x=>x.fst) (mA A)=List.map (fun x=>x.fst) (mAD A))∧leA.leL noRen noNew noOk 2 (List.map (fun x=>x.snd) (mA A)) (List.map (AV.d∘fun x=>x.snd) (mAD A)):=by
 have e:List.map (AV.d∘fun x=>x.snd) (mAD A)=(mA A).map (·.2):=by simp [mA,mAD,Function.comp_def]
 refine⟨⟨mA_mkd A,by simp [mA,mAD]⟩,?_⟩
 rw [e];exact mA_leL _ _ _ _ _
theorem dVw_cells(v:Bool×Int):(dVw v).cells=[dB v.1,dI v.2]:=rfl
theorem dVw_isAgg(v:Bool×Int):(dVw v).isAgg=true:=rfl
theorem dVw_noTup(v:Bool×Int):(AV.d (dVw v)).noTup=true:=rfl
theorem dVw_nt(v:Bool×Int) (ds:List D):(dVw v=.tup ds)=False:=by simp [dVw]
theorem vUntil(l:List Vi) (t:Int):PCall Tryz.prog 91 [.sl 4 (l.map dVi),dI t] (.retM (mAD (untV t [] l))):=by
 refine pcall_of_vc noC c91 (by simp [a91]) fun hr=>?_
 have hlen:=(hr (.sl 4 (l.map dVi)) (by simp)).sl.1
 simp at hlen
 generalize hU:untV t [] l=U
 simp [a91]
 refine vc_loopK [1,5,9,10] (Nat×Au) (fun y=>[(11,true,.d (dI y.1))]) (fun y=>[(0,.mapo (mA y.2))]) (fun y=>y.1<=l.length∧untV t y.2 (l.drop y.1)=U) (fun y=>l.length-y.1) (0,[]) ⟨Nat.zero_le _,hU⟩ ⟨[],[],?_⟩ (fun y hy=>?_)
 ·simp [show mA []=[] from rfl]
 obtain⟨k,A⟩:=y
 obtain⟨i1,i2⟩:=hy
 simp only at i1 i2
 simp
 refine⟨fun hlt=>?_,fun hge=>?_⟩
 ·have hw:IntKind.i64.wrap ((k:Int)+1)=(k:Int)+1:=wrap64 (by omega)
  rw [List.drop_eq_getElem_cons hlt,untV] at i2
  by_cases ha:t<l[k].at_
  ·rw [if_pos ha] at i2
   subst i2
   simp [hlt,ha]
   exact mAD_ret A
  ·rw [if_neg ha] at i2
   simp [hlt,ha]
   refine regS_path [] ?_
   simp
   refine icall_T TPerf hPerf ?_
   refine⟨A,l[k],rfl,rfl,rfl,?_⟩
   simp
   refine⟨k+1,(perfV A l[k]).getD A,⟨by omega,i2⟩,by omega,[],[],?_⟩
   simp [hw]
   exact mA_leL _ _ _ _ _
 ·have:k=l.length:=by omega
  subst this
  rw [List.drop_length,untV] at i2
  subst i2
  exact mAD_ret A
inductive C619:FuncId->List D->Out->Prop
 | win (n m:Int):C619 90 [dI n,dI m] (.ret (dB (decide (0<=n)&&decide (n<m))))
 | chk (l:List Vi):C619 44 [.sl 4 (l.map dVi)] (.ret (dI (visE l)))
 | unt (l:List Vi) (t:Int):C619 91 [.sl 4 (l.map dVi),dI t] (.retM (mAD (untV t [] l)))
theorem h619:∀ f ds out,C619 f ds out->PCall Tryz.prog f ds out:=by
 intro f ds out h
 cases h with
 | win n m=>exact vWithin n m
 | chk l=>exact vCheck l
 | unt l t=>exact vUntil l t
theorem vSees(l:List Vi) (who t:Int) (h1:visE l=0) (h2:0<=who∧who<100000) (h3:0<=t∧t<1099511627776):PCall Tryz.prog 45 [.sl 4 (l.map dVi),dI who,dI t] (.ret (.tup [dI (seeV l who t).1,dB (seeV l who t).2,dI 0])):=by
 refine pcall_of_vc h619 c45 (by simp [a45]) fun hr=>?_
 have k1:=C619.chk l
 rw [h1] at k1
 have k2:=C619.win who 100000
 have k3:=C619.win t 1099511627776
 rw [show (decide (0<=who)&&decide (who<100000))=true by simp [h2]] at k2
 rw [show (decide (0<=t)&&decide (t<1099511627776))=true by simp [h3]] at k3
 have hf:=mAD_find who (untV t [] l)
 simp [a45]
 refine vc_path [.ret (dI 0)] ?_
 simp
 refine⟨k1,?_⟩
 refine vc_path [.ret (dB true),.ret (dB true)] ?_
 simp
 refine⟨k2,k3,?_⟩
 refine vc_path [.retM (mAD (untV t [] l))] ?_
 have k4:=C619.unt l t
 unfold seeV
 generalize untV t [] l=U at *
 cases hg:vGet U who with
 | none =>
  rw [hg] at hf
  simp [hf]
  exact k4
 | some v =>
  obtain⟨on,lg⟩:=v
  rw [hg] at hf
  cases on with
  | true =>
   simp [hf,dVw_cells,dVw_isAgg,dVw_noTup,dVw_nt]
   exact k4
  | false =>
   simp [hf,dVw_cells,dVw_isAgg,dVw_noTup,dVw_nt]
   exact k4
end

section
attribute [local simp] dZ_agg dZ_nt dZ_noTup dZ_cells dZ_one bz_toList bz_size strV dSp_cells dSp_isAgg dSp_noTup dSp_nt dCh_cells dCh_isAgg dCh_noTup dCh_nt dNt_cells dNt_isAgg dNt_noTup dNt_nt dPe_cells dPe_isAgg dPe_noTup dPe_nt dRm_cells dRm_isAgg dRm_noTup dRm_nt dPc_cells dPc_agg dPc_noTup dNw_cells dNw_agg dNw_noTup dMv_cells dMv_isAgg dMv_noTup dMv_nt
set_option maxRecDepth 8000
set_option maxHeartbeats 4000000
inductive C620:FuncId->List D->Out->Prop
 | mv (r:Rm) (m:Mv) (hs:smR r):C620 8 [dRm r,dMv m] (.ret (.tup [dRm (mvR r m).1,dI (mvR r m).2]))
theorem h620:∀ f ds out,C620 f ds out->PCall Tryz.prog f ds out:=by
 intro f ds out h
 cases h with
 | mv r m hs=>exact sDo r m hs
def mvAtT (k:Int) (hk:-9223372036854775808<=k∧k<9223372036854775808) (j:Int):Mv:=⟨k,0,0,j,zNt,hk⟩
theorem tDrained(n:Nat) (told:List Nt) (r:Rm) (hI:InvR n told r) (h1:1<=n) (h2:n<=24) (h3:told.length<=1000) (h4:r.net.q.length<=1000) (hok:okNs none told=true) (o:List UInt8) (ho:o.length<=100):PCall Tryz.prog 11 [dRm r,.sl 1 (o.map dU)] (.ret (.tup [dRm (drnR n told r),dB true])):=by
 refine pcall_of_vc h620 c11 (by simp [a11]) fun hr=>?_
 simp [a11,hI.len]
 refine vc_loopK [1,2,4,5,6] (Nat×Rm) (fun y=>[(7,true,.d (dI y.1))]) (fun y=>[(0,.box true ((dRm y.2).cells.map .d))]) (fun y=>InvR n told y.2∧(∀ k z,rchR y.2 k z↔rchR r k z)∧y.2.net.q.length<=1000∧y.1+(y.2.net.q.length+(o.length-y.1))<=1100) (fun y=>y.2.net.q.length+(o.length-y.1)) (0,r) ⟨hI,fun _ _=>Iff.rfl,h4,by simp only;omega⟩ ⟨[],[],?_⟩ (fun y hy=>?_)
 ·simp
 obtain⟨i,x⟩:=y
 obtain⟨i1,i2,i3,i4⟩:=hy
 simp only at i1 i2 i3 i4
 simp
 refine⟨fun hlt=>?_,fun hge=>?_⟩
 ·have hw:IntKind.i64.wrap ((i:Int)+1)=(i:Int)+1:=wrap64 (by omega)
  by_cases hi:i<o.length
  ·have hi':(i:Int)<(o.length:Int):=by omega
   have hi2:¬ o.length<=i:=by omega
   have hu:IntKind.i64.wrap (o[i].toNat:Int)=(o[i].toNat:Int):=wrap64 (by have:=o[i].toNat_lt;omega)
   simp [hi',hi,hi2,dU,hu]
   have hq0:¬ x.net.q=[]:=fun e=>by have h:=hlt;rw [e] at h;exact absurd h (Nat.lt_irrefl 0)
   have hw2:IntKind.i64.wrap ((x.net.q.length:Int)-1)=(x.net.q.length:Int)-1:=wrap64 (by omega)
   obtain⟨y,m1,m2,m3,m4,m5⟩:=drn_dlv (m:=mvAtT 3 (by omega) (Int.tmod (o[i].toNat:Int) (x.net.q.length:Int))) i1 h1 h2 h3 (by omega) i2 rfl (j:=o[i].toNat % x.net.q.length) (Int.ofNat_tmod _ _).symm (Nat.mod_lt _ hlt)
   have k2:=C620.mv x (mvAtT 3 (by omega) (Int.tmod (o[i].toNat:Int) (x.net.q.length:Int))) (inv_sm i1 h3 (by omega))
   rw [m1] at k2
   have hq1:(y.net.q.length:Int)=(x.net.q.length:Int)-1:=by omega
   refine vc_pathD [.ret (.tup [dRm y,dI 0])] ?_
   simp [hq0]
   refine⟨k2,rfl,?_⟩
   refine vc_path [] ?_
   simp [m4,hw2,hq1,hw]
   refine⟨i+1,y,⟨m2,m3,by omega,by omega⟩,by omega,[],[],?_⟩
   simp
  ·have hi':¬ (i:Int)<(o.length:Int):=by omega
   have hi2:o.length<=i:=by omega
   simp [hi',hi,hi2]
   have hq0:¬ x.net.q=[]:=fun e=>by have h:=hlt;rw [e] at h;exact absurd h (Nat.lt_irrefl 0)
   have hw2:IntKind.i64.wrap ((x.net.q.length:Int)-1)=(x.net.q.length:Int)-1:=wrap64 (by omega)
   obtain⟨y,m1,m2,m3,m4,m5⟩:=drn_dlv (m:=mvAtT 3 (by omega) 0) i1 h1 h2 h3 (by omega) i2 rfl (j:=0) rfl hlt
   have k2:=C620.mv x (mvAtT 3 (by omega) 0) (inv_sm i1 h3 (by omega))
   rw [m1] at k2
   have hq1:(y.net.q.length:Int)=(x.net.q.length:Int)-1:=by omega
   refine vc_pathD [.ret (.tup [dRm y,dI 0])] ?_
   simp [hq0]
   refine⟨k2,rfl,?_⟩
   refine vc_path [] ?_
   simp [m4,hw2,hq1,hw]
   refine⟨i+1,y,⟨m2,m3,by omega,by omega⟩,by omega,[],[],?_⟩
   simp
 ·rw [<- drn_end i1 hok i2 hge]
  exact leD_of_eq rfl
end

section
theorem okTms_le:∀ {cs:List Ch}{a:Int},okTms a cs=true->∀ x∈cs,a<=x.at_
 | [],_,_,x,hx=>by cases hx
 | c::r,a,h,x,hx=>by
  obtain⟨_,h1,h2⟩:=okTms_cons.1 h
  rcases List.mem_cons.1 hx with rfl | hx
  ·exact h1
  ·have:=okTms_le h2 x hx
   omega
theorem unt_iff:∀ {cs:List Ch}{a t:Int},okTms a cs=true->∀ (j:Nat) (h:j<cs.length),cs[j].at_<=t↔j<(untL cs t).length
 | [],_,_,_,j,h=>by simp at h
 | c::r,a,t,hk,j,h=>by
  obtain⟨_,h1,h2⟩:=okTms_cons.1 hk
  rw [untL_cons]
  by_cases hc:c.at_<=t
  ·rw [if_pos hc]
   cases j with
   | zero=>simp [hc]
   | succ j =>
    have:=unt_iff (t:=t) h2 j (by simpa using h)
    simp [this]
  ·rw [if_neg hc]
   have:c.at_<=(c::r)[j].at_:=by
    cases j with
    | zero=>exact Int.le_refl _
    | succ j=>exact okTms_le h2 _ (List.getElem_mem _)
   simp;omega
theorem unt_take(cs:List Ch) (t:Int):untL cs t=cs.take (untL cs t).length:=List.prefix_iff_eq_take.1 (List.takeWhile_prefix _)
theorem unt_len(cs:List Ch) (t:Int):(untL cs t).length<=cs.length:=(List.takeWhile_prefix _).length_le
theorem unt_all{t:Int}:∀ {cs:List Ch},(∀ x∈cs,x.at_<=t)->untL cs t=cs
 | [],_=>rfl
 | c::r,h=>by rw [untL_cons,if_pos (h c (by simp)),unt_all fun x hx=>h x (by simp [hx])]
def knwL (p:List Nt) (lang t:Int):List Nt:=p.filter fun x=>decide (x.lang=lang)&&decide (x.ch.at_<=t)
structure KnwI (p:List Nt) (cs:List Ch) (lang:Int):Prop where
 ok:∀ x∈p,noteOk cs lang x
 ex:∀ j:Nat,j<cs.length->∃ x∈p,x.lang=lang∧x.seq=(j:Int)
theorem KnwI.find{p:List Nt}{cs:List Ch}{lang:Int}(h:KnwI p cs lang) (j:Nat):findN p lang j=if j<cs.length then cs[j]? else none :=
 findN_all h.ok h.ex (fun x hx hl=>by obtain⟨k,hk,e,_⟩:=h.ok x hx hl;omega) j
theorem seen_all_K{p:List Nt}{cs:List Ch}{lang:Int}{y:List Sp}(hp:okPe p=true) (hl:0<=lang) (hl2:lang<32) (hr:runD [] cs=some y) (h:KnwI p cs lang):seenR p lang=(y,cs.length)∧seenE p lang=0:=by
 have:=seen_K hp hl hl2 hr (Nat.le_refl _) h.find
 unfold shD at this
 rw [List.take_length,hr] at this
 exact this
theorem seen_known{p:List Nt}{cs:List Ch}{lang:Int}{y:List Sp}(hp:okPe p=true) (hl:0<=lang) (hl2:lang<32) (hr:runD [] cs=some y) (ht:okTms 0 cs=true) (h:KnwI p cs lang) (t:Int):(seenR (knwL p lang t) lang).1=plD cs t∧seenE (knwL p lang t) lang=0:=by
 have hs:(knwL p lang t).Sublist p:=List.filter_sublist
 have hp':=okPe_sub hp hs
 have hmem:∀ x,x∈knwL p lang t↔x∈p∧x.lang=lang∧x.ch.at_<=t:=fun x=>by
  unfold knwL
  rw [List.mem_filter,Bool.and_eq_true,decide_eq_true_eq,decide_eq_true_eq]
 have hf:∀ j:Nat,findN (knwL p lang t) lang j=if j<(untL cs t).length then cs[j]? else none:=findN_all (fun x hx=>h.ok x ((hmem x).1 hx).1) (fun j hj=>by
  have hjl:j<cs.length:=Nat.lt_of_lt_of_le hj (unt_len cs t)
  obtain⟨x,hx,e1,e2⟩:=h.ex j hjl
  refine⟨x,(hmem x).2 ⟨hx,e1,?_⟩,e1,e2⟩
  obtain⟨k,hk,e3,e4⟩:=h.ok x hx e1
  have:k=j:=by omega
  subst this
  rw [List.getElem?_eq_getElem hk] at e4
  injection e4 with e4
  rw [<- e4]
  exact(unt_iff ht k hk).2 hj) (fun x hx e1=>by
  obtain⟨hx,_,ha⟩:=(hmem x).1 hx
  obtain⟨k,hk,e3,e4⟩:=h.ok x hx e1
  rw [List.getElem?_eq_getElem hk] at e4
  injection e4 with e4
  rw [<- e4] at ha
  have:=(unt_iff ht k hk).1 ha
  omega)
 obtain⟨h1,h2⟩:=seen_K hp' hl hl2 hr (unt_len cs t) hf
 refine⟨?_,h2⟩
 rw [h1]
 unfold shD plD
 rw [<- unt_take]
end

section
attribute [local simp] dZ_agg dZ_nt dZ_noTup dZ_cells dZ_one bz_toList bz_size strV dSp_cells dSp_isAgg dSp_noTup dSp_nt dCh_cells dCh_isAgg dCh_noTup dCh_nt dNt_cells dNt_isAgg dNt_noTup dNt_nt dPe_cells dPe_isAgg dPe_noTup dPe_nt dVi_cells dVi_isAgg dVi_noTup dVi_nt
set_option maxRecDepth 8000
set_option maxHeartbeats 4000000
inductive C622:FuncId->List D->Out->Prop
 | chk (v:List Vi):C622 44 [.sl 4 (v.map dVi)] (.ret (dI (visE v)))
 | sees (v:List Vi) (who t:Int) (h1:visE v=0) (h2:0<=who∧who<100000) (h3:0<=t∧t<1099511627776):C622 45 [.sl 4 (v.map dVi),dI who,dI t] (.ret (.tup [dI (seeV v who t).1,dB (seeV v who t).2,dI 0]))
 | play (l:List Ch) (t:Int) (y:List Sp) (h1:l.length<=4096) (h2:okTms 0 l=true) (h3:okTm t=true) (h4:runD [] l=some y):C622 12 [.sl 5 (l.map dCh),dI t] (.ret (.tup [.sl 3 ((plD l t).map dSp),dI 0]))
 | seen (l:List Nt) (lang:Int):C622 9 [dPe l,dI lang] (.ret (.tup [.sl 3 ((seenR l lang).1.map dSp),dI (seenR l lang).2,dI (seenE l lang)]))
 | same (x y:List Sp):C622 10 [.sl 3 (x.map dSp),.sl 3 (y.map dSp)] (.ret (dB (decide (x=y))))
theorem h622:∀ f ds out,C622 f ds out->PCall Tryz.prog f ds out:=by
 intro f ds out h
 cases h with
 | chk v=>exact vCheck v
 | sees v who t h1 h2 h3=>exact vSees v who t h1 h2 h3
 | play l t y h1 h2 h3 h4=>exact dPlay l t y h1 h2 h3 h4
 | seen l lang=>exact sSeen l lang
 | same x y=>exact rSame49 x y
theorem knwL_succ{p:List Nt}{lang t:Int}{k:Nat}(h:k<p.length):knwL (p.take (k+1)) lang t=knwL (p.take k) lang t++(if p[k].lang=lang∧p[k].ch.at_<=t then [p[k]] else []):=by
 unfold knwL
 rw [List.take_succ_eq_append_getElem h,List.filter_append]
 congr 1
 by_cases h1:p[k].lang=lang <;> by_cases h2:p[k].ch.at_<=t <;> simp [h1,h2]
theorem tWatched(l m:List Ch) (v:List Vi) (t:Int) (ht:-9223372036854775808<=t∧t<9223372036854775808) (p:List Nt) (yl ym:List Sp) (hl:l.length<=8) (hm:m.length<=8) (l1:okTms 0 l=true) (m1:okTms 0 m=true) (l2:runD [] l=some yl) (m2:runD [] m=some ym) (hp:okPe p=true) (k0:KnwI p l 0) (k1:KnwI p m 1) :
  PCall Tryz.prog 17 [.sl 5 (l.map dCh),.sl 5 (m.map dCh),.sl 4 (v.map dVi),dI t,dPe p] (.ret (dB true)):=by
 refine pcall_of_vc h622 c17 (by simp [a17]) fun hr=>?_
 have hlen:=(hr (.sl 4 (v.map dVi)) (by simp)).sl.1
 simp at hlen
 have hpl:p.length<=4096:=by
  have h:=hp
  unfold okPe at h
  simp only [Bool.and_eq_true,decide_eq_true_eq] at h
  exact h.2
 have kc:=C622.chk v
 simp [a17]
 refine vc_path [.ret (dI (visE v))] ?_
 by_cases q0:visE v=0
 case neg =>
  simp [q0]
  exact kc
 rw [q0] at kc
 by_cases q1:t<0
 ·simp [q0,q1]
  exact kc
 by_cases q2:1099511627776<=t
 ·simp [q0,q1,q2]
  exact kc
 simp [q0,q1,q2]
 refine⟨kc,?_⟩
 have hT:okTm t=true:=by unfold okTm;simp;omega
 have hall:=bad_who (l:=v) (A:=[]) (last:=0) (by
  unfold visE at q0
  by_cases h:4096<v.length
  ·rw [if_pos h] at q0;simp at q0
  ·rw [if_neg h] at q0
   cases hb:badV [] 0 v
   ·rfl
   ·rw [hb] at q0;simp at q0)
 refine vc_loopK [0,1,2,3,9,36,37] Nat (fun y=>[(38,true,.d (dI y))]) (fun y=>[]) (fun y=>y<=v.length) (fun y=>v.length-y) 0 (Nat.zero_le _) ⟨[],[],?_⟩ (fun k hk=>?_)
 ·simp
 simp
 intro hlt
 have hw:IntKind.i64.wrap ((k:Int)+1)=(k:Int)+1:=wrap64 (by omega)
 have hx:=hall _ (List.getElem_mem hlt)
 have hwho:0<=v[k].who∧v[k].who<100000:=by
  unfold okVi at hx
  simp only [Bool.and_eq_true,decide_eq_true_eq] at hx
  exact⟨hx.2.1,hx.2.2.1⟩
 have ks:=C622.sees v v[k].who t q0 hwho ⟨by omega,by omega⟩
 have hr1:=seeV_r v v[k].who t
 generalize seeV v v[k].who t=S at *
 obtain⟨lg,b⟩:=S
 simp only at ks hr1
 simp [hlt]
 refine vc_path [.ret (.tup [dI lg,dB b,dI 0])] ?_
 simp
 refine⟨ks,?_⟩
 refine vc_path [] ?_
 cases b with
 | false =>
  simp
  refine⟨k+1,by omega,by omega,[],[],?_⟩
  simp [hw]
 | true =>
 by_cases hg:1<lg
 ·simp [hg]
  refine⟨k+1,by omega,by omega,[],[],?_⟩
  simp [hw]
 simp [hg]
 have key:∀ (cs:List Ch) (yc:List Sp),cs.length<=8->okTms 0 cs=true->runD [] cs=some yc->KnwI p cs lg->C622 12 [.sl 5 (cs.map dCh),dI t] (.ret (.tup [.sl 3 ((plD cs t).map dSp),dI 0]))∧(seenR (knwL p lg t) lg).1=plD cs t∧seenE (knwL p lg t) lg=0:=fun cs yc h1 h2 h3 h4 =>
  ⟨.play cs t yc (by omega) h2 hT h3,seen_known hp hr1.1 hr1.2 h3 h2 h4 t⟩
 rcases (by omega:lg=0∨lg=1) with rfl | rfl
 ·obtain⟨c1,c2,c3⟩:=key l yl hl l1 l2 k0
  refine⟨⟨⟨by omega,by omega⟩,by omega⟩,?_⟩
  refine vc_path [.ret (.tup [.sl 3 ((plD l t).map dSp),dI 0])] ?_
  simp
  refine⟨c1,?_⟩
  refine vc_loopK [0,1,2,3,9,36,37,38,13,17,18,71,72] Nat (fun y=>[(73,true,.d (dI y)),(19,true,.own 2 7 ((knwL (p.take y) 0 t).map dNt))]) (fun y=>[(2,.row)]) (fun y=>y<=p.length) (fun y=>p.length-y) 0 (Nat.zero_le _) ⟨[],[(2,7)],?_⟩ (fun j hj=>?_)
  ·simp [show knwL [] 0 t=[] from rfl]
  simp
  refine⟨fun hlt2=>?_,fun hge2=>?_⟩
  ·have hw2:IntKind.i64.wrap ((j:Int)+1)=(j:Int)+1:=wrap64 (by omega)
   have hsu:=knwL_succ (lang:=0) (t:=t) hlt2
   have hkl:(knwL (p.take j) 0 t).length<=j:=by
    have h:=List.length_filter_le (fun x:Nt=>decide (x.lang=0)&&decide (x.ch.at_<=t)) (p.take j)
    have h2:(p.take j).length<=j:=List.length_take_le j p
    unfold knwL;omega
   simp [hlt2,dNt]
   refine vc_path [] ?_
   by_cases g1:p[j].lang=0
   ·by_cases g2:p[j].ch.at_<=t
    ·rw [if_pos ⟨g1,g2⟩] at hsu
     simp [g1,g2]
     refine⟨⟨by omega,by omega⟩,j+1,by omega,by omega,[(2,5)],[],?_⟩
     simp [hw2,hsu,dNt,g1]
    ·rw [if_neg (fun h=>g2 h.2),List.append_nil] at hsu
     simp [g1,g2]
     refine⟨j+1,by omega,by omega,[],[],?_⟩
     simp [hw2,hsu]
   ·rw [if_neg (fun h=>g1 h.1),List.append_nil] at hsu
    simp [g1]
    refine⟨j+1,by omega,by omega,[],[],?_⟩
    simp [hw2,hsu]
  ·have e:j=p.length:=by omega
   subst e
   rw [List.take_length]
   have k5:=C622.seen (knwL p 0 t) 0
   have k6:=C622.same (plD l t) (plD l t)
   rw [c2,c3] at k5
   simp at k6
   generalize (seenR (knwL p 0 t) 0).2=Q at *
   refine vc_path [.ret (.tup [.sl 3 ((plD l t).map dSp),dI Q,dI 0])] ?_
   simp
   refine⟨k5,?_⟩
   refine vc_path [.ret (dB true)] ?_
   simp
   refine⟨k6,k+1,by omega,by omega,[],[],?_⟩
   simp [hw]
 ·obtain⟨c1,c2,c3⟩:=key m ym hm m1 m2 k1
  refine⟨⟨⟨by omega,by omega⟩,by omega⟩,?_⟩
  refine vc_path [.ret (.tup [.sl 3 ((plD m t).map dSp),dI 0])] ?_
  simp
  refine⟨c1,?_⟩
  refine vc_loopK [0,1,2,3,9,36,37,38,13,17,18,71,72] Nat (fun y=>[(73,true,.d (dI y)),(19,true,.own 2 7 ((knwL (p.take y) 1 t).map dNt))]) (fun y=>[(2,.row)]) (fun y=>y<=p.length) (fun y=>p.length-y) 0 (Nat.zero_le _) ⟨[],[(2,7)],?_⟩ (fun j hj=>?_)
  ·simp [show knwL [] 1 t=[] from rfl]
  simp
  refine⟨fun hlt2=>?_,fun hge2=>?_⟩
  ·have hw2:IntKind.i64.wrap ((j:Int)+1)=(j:Int)+1:=wrap64 (by omega)
   have hsu:=knwL_succ (lang:=1) (t:=t) hlt2
   have hkl:(knwL (p.take j) 1 t).length<=j:=by
    have h:=List.length_filter_le (fun x:Nt=>decide (x.lang=1)&&decide (x.ch.at_<=t)) (p.take j)
    have h2:(p.take j).length<=j:=List.length_take_le j p
    unfold knwL;omega
   simp [hlt2,dNt]
   refine vc_path [] ?_
   by_cases g1:p[j].lang=1
   ·by_cases g2:p[j].ch.at_<=t
    ·rw [if_pos ⟨g1,g2⟩] at hsu
     simp [g1,g2]
     refine⟨⟨by omega,by omega⟩,j+1,by omega,by omega,[(2,5)],[],?_⟩
     simp [hw2,hsu,dNt,g1]
    ·rw [if_neg (fun h=>g2 h.2),List.append_nil] at hsu
     simp [g1,g2]
     refine⟨j+1,by omega,by omega,[],[],?_⟩
     simp [hw2,hsu]
   ·rw [if_neg (fun h=>g1 h.1),List.append_nil] at hsu
    simp [g1]
    refine⟨j+1,by omega,by omega,[],[],?_⟩
    simp [hw2,hsu]
  ·have e:j=p.length:=by omega
   subst e
   rw [List.take_length]
   have k5:=C622.seen (knwL p 1 t) 1
   have k6:=C622.same (plD m t) (plD m t)
   rw [c2,c3] at k5
   simp at k6
   generalize (seenR (knwL p 1 t) 1).2=Q at *
   refine vc_path [.ret (.tup [.sl 3 ((plD m t).map dSp),dI Q,dI 0])] ?_
   simp
   refine⟨k5,?_⟩
   refine vc_path [.ret (dB true)] ?_
   simp
   refine⟨k6,k+1,by omega,by omega,[],[],?_⟩
   simp [hw]
end

section
theorem makeL_len(l:List Sp) (c:Ch):(makeL l c).length<=l.length+1:=by
 unfold makeL
 simp only
 split
 ·simp only [List.length_append,List.length_cons,List.length_take,List.length_drop];omega
 ·split
  ·have:=List.length_eraseIdx_le l (posL l c.sp.id);omega
  ·rw [List.length_set];omega
theorem run_len:∀ (cs:List Ch) (x y:List Sp),runD x cs=some y->y.length<=x.length+cs.length
 | [],x,y,h=>by rw [runD] at h;injection h with h;subst h;simp
 | c::cs,x,y,h=>by
  rw [runD] at h
  split at h
  ·rename_i e
   have h1:=run_len cs _ y h
   have e2:doDL x c=makeL x c:=by unfold doDL;rw [if_pos e]
   have h2:=makeL_len x c
   rw [e2] at h1
   simp only [List.length_cons];omega
  ·cases h
theorem run_disp:∀ (cs:List Ch) (x y:List Sp),dispE x=0->runD x cs=some y->dispE y=0
 | [],x,y,hd,h=>by rw [runD] at h;injection h with h;subst h;exact hd
 | c::cs,x,y,hd,h=>by
  rw [runD] at h
  split at h
  ·rename_i e
   exact run_disp cs _ y (do_disp e).2.2.1 h
  ·cases h
theorem shD_0(cs:List Ch):shD cs 0=[]:=rfl
theorem shD_eq{cs:List Ch}{k:Nat}{x:List Sp}(h:runD [] (cs.take k)=some x):shD cs k=x:=by unfold shD;rw [h];rfl
theorem shD_run{cs:List Ch}{y:List Sp}(h:runD [] cs=some y) (k:Nat):runD [] (cs.take k)=some (shD cs k):=by
 obtain⟨x,hx⟩:=run_take h k
 rw [shD_eq hx,hx]
theorem shD_all{cs:List Ch}{y:List Sp}(h:runD [] cs=some y):shD cs cs.length=y:=shD_eq (by rw [List.take_length];exact h)
theorem shD_next{cs:List Ch}{k:Nat}(h:runD [] (cs.take k)=some (shD cs k)) (hk:k<cs.length) (hd:doDE (shD cs k) cs[k]=0):doDL (shD cs k) cs[k]=shD cs (k+1)∧runD [] (cs.take (k+1))=some (shD cs (k+1)):=by
 have e:runD [] (cs.take (k+1))=some (doDL (shD cs k) cs[k]):=by
  rw [List.take_succ_eq_append_getElem hk,runD_app,h,Option.bind_some,runD,if_pos hd,runD]
 rw [shD_eq e]
 exact⟨rfl,e⟩
theorem disp_nil:dispE []=0:=disp_ok.2 ⟨by simp,rfl⟩
theorem shD_disp{cs:List Ch}{k:Nat}(h:runD [] (cs.take k)=some (shD cs k)):dispE (shD cs k)=0:=run_disp _ _ _ disp_nil h
theorem shD_len{cs:List Ch}{k:Nat}(h:runD [] (cs.take k)=some (shD cs k)):(shD cs k).length<=cs.length:=by
 have h1:=run_len _ _ _ h
 rw [List.length_take] at h1
 simp at h1;omega
theorem diff_run{cs:List Ch}{y:List Sp}{k:Nat}(hl:cs.length<=8) (hr:runD [] cs=some y) (hb:badM (shD cs k) y=false){t:Int}(ht:-9223372036854775808<=t∧t<9223372036854775808) (h0:okTm t=true):runD (shD cs k) (mrg t ht (shD cs k) y)=some y:=by
 have hk:=shD_run hr k
 have d1:=disp_ok.1 (shD_disp hk)
 have d2:=disp_ok.1 (run_disp _ _ _ disp_nil hr)
 have l1:=shD_len hk
 have l2:=run_len _ _ _ hr
 simp at l2
 exact mrg_run ht h0 ((shD cs k).length+y.length) [] (shD cs k) y (Nat.le_refl _) hb d1.2 d2.2 (by simp;omega)
theorem diff_lost{cs:List Ch}{y:List Sp}{k:Nat}(hr:runD [] cs=some y){t:Int}(ht:-9223372036854775808<=t∧t<9223372036854775808):((mrg t ht (shD cs k) y).filter isW).length<=(cs.filter isW).length:=by
 have hk:=shD_run hr k
 have d1:=disp_ok.1 (shD_disp hk)
 have d2:=disp_ok.1 (run_disp _ _ _ disp_nil hr)
 have h1:runD (shD cs k) (cs.drop k)=some y:=by
  have h:=hr
  rw [<- List.take_append_drop k cs,runD_app,hk,Option.bind_some] at h
  exact h
 rw [mrg_lost ht _ (-1) (-1) (shD cs k) y (Nat.le_refl _) d1.2 d2.2]
 have h2:=run_lost d1.2 _ _ _ h1
 rw [lost_self] at h2
 have h3:((cs.drop k).filter isW).length<=(cs.filter isW).length:=((List.drop_sublist k cs).filter _).length_le
 omega
theorem mrg_len{t:Int}(ht:-9223372036854775808<=t∧t<9223372036854775808):∀ (n:Nat) (a b:List Sp),a.length+b.length<=n->(mrg t ht a b).length<=n
 | _,[],[],_=>by rw [mrg];simp
 | 0,_::_,_,h=>by simp at h
 | 0,[],_::_,h=>by simp at h
 | n+1,x::a,[],h=>by
  rw [mrg]
  have:=mrg_len ht n a [] (by simp at h ⊢;omega)
  simp only [List.length_cons];omega
 | n+1,[],y::b,h=>by
  rw [mrg]
  have:=mrg_len ht n [] b (by simp at h ⊢;omega)
  simp only [List.length_cons];omega
 | n+1,x::a,y::b,h=>by
  rw [mrg]
  have h1:=mrg_len ht n a (y::b) (by simp at h ⊢;omega)
  have h2:=mrg_len ht n (x::a) b (by simp at h ⊢;omega)
  have h3:=mrg_len ht n a b (by simp at h ⊢;omega)
  split
  ·simp only [List.length_cons];omega
  ·split
   ·simp only [List.length_cons];omega
   ·split
    ·simp only [List.length_cons];omega
    ·omega
theorem diff_len{cs:List Ch}{y:List Sp}{k:Nat}(hl:cs.length<=8) (hr:runD [] cs=some y){t:Int}(ht:-9223372036854775808<=t∧t<9223372036854775808):(mrg t ht (shD cs k) y).length<=16:=by
 have l1:=shD_len (shD_run hr k)
 have l2:=run_len _ _ _ hr
 simp at l2
 exact mrg_len ht 16 _ _ (by omega)
theorem okTms_ok:∀ {cs:List Ch}{a:Int},okTms a cs=true->∀ x∈cs,okCh x=true
 | [],_,_,x,hx=>by cases hx
 | c::r,a,h,x,hx=>by
  obtain⟨h1,h2,h3⟩:=okTms_cons.1 h
  rcases List.mem_cons.1 hx with e | e
  ·subst e;exact h1
  ·exact okTms_ok h3 x e
theorem unt_end{cs:List Ch}(h:okTms 0 cs=true):untL cs 1099511627775=cs:=unt_all fun x hx=>by
 have:=okCh_at (okTms_ok h x hx);omega
theorem plD_end{cs:List Ch}{y:List Sp}(h:okTms 0 cs=true) (hr:runD [] cs=some y):plD cs 1099511627775=y:=by
 unfold plD
 rw [unt_end h,hr];rfl
structure PhI (n Q:Nat) (told:List Nt) (r:Rm) (l m:List Ch) (a b:Nat):Prop where
 inv:InvR n told r
 ok:okNs none told=true
 k0:∀ x∈told,x∈r.ps.getD 0 []
 tl:told.length<=a+b
 ql:r.net.q.length<=Q
 n0:∀ x∈told,noteOk l 0 x
 n1:∀ x∈told,noteOk m 1 x
 e0:∀ j:Nat,j<a->∃ x∈told,x.lang=0∧x.seq=(j:Int)
 e1:∀ j:Nat,j<b->∃ x∈told,x.lang=1∧x.seq=(j:Int)
theorem PhI.mono{n Q Q':Nat}{told:List Nt}{r:Rm}{l m:List Ch}{a b:Nat}(h:PhI n Q told r l m a b) (hq:Q<=Q'):PhI n Q' told r l m a b:=⟨h.inv,h.ok,h.k0,h.tl,Nat.le_trans h.ql hq,h.n0,h.n1,h.e0,h.e1⟩
theorem phi_new{n:Nat}(l m:List Ch):PhI n 0 [] ⟨List.replicate n [],⟨[],[]⟩⟩ l m 0 0 :=
 have h:=@top_new n
 ⟨h.inv,h.ok,h.k0,h.tl,h.ql,fun x hx=>(by cases hx),fun x hx=>(by cases hx),fun j hj=>absurd hj (Nat.not_lt_zero _),fun j hj=>absurd hj (Nat.not_lt_zero _)⟩
def ntOf (lang:Int) (j:Nat) (c:Ch) (h1:-9223372036854775808<=lang∧lang<9223372036854775808) (h2:-9223372036854775808<=(j:Int)∧(j:Int)<9223372036854775808):Nt:=⟨lang,j,c,h1,h2⟩
def telM (x:Nt):Mv:=⟨1,0,0,0,x,by omega⟩
theorem okNt_of{lang:Int}{j:Nat}{c:Ch}{h1:-9223372036854775808<=lang∧lang<9223372036854775808}{h2:-9223372036854775808<=(j:Int)∧(j:Int)<9223372036854775808}(hl:0<=lang∧lang<32) (hj:j<8) (hc:okCh c=true):okNt (ntOf lang j c h1 h2)=true:=by
 unfold okNt ntOf
 simp only [Bool.and_eq_true,decide_eq_true_eq]
 exact⟨hl.1,hl.2,by omega,by omega,hc⟩
theorem phi_tell{n a b a' b':Nat}{told:List Nt}{r:Rm}{l m:List Ch}{x:Nt}(h:PhI n (4*(a+b)) told r l m a b) (h1:1<=n) (h2:n<=3) (hT:a+b<16) (ho:okNt x=true) (hab:a'+b'=a+b+1) (q0:noteOk l 0 x) (q1:noteOk m 1 x)
  (c:(a'=a+1∧b'=b∧x.lang=0∧x.seq=(a:Int))∨(a'=a∧b'=b+1∧x.lang=1∧x.seq=(b:Int))) :
  ∃ y told',mvR r (telM x)=(y,0)∧PhI n (4*(a+b)+3) told' y l m a' b':=by
 have hT':TopI n (a+b) told r:=⟨h.inv,h.ok,h.k0,h.tl,h.ql⟩
 obtain⟨y,e1,e2,e3,e4,e5,e6,e7⟩:=top_tell (m:=telM x) hT' h1 h2 hT rfl rfl ho
 refine⟨y,_,e1,e2,e3,e5,by omega,e7,fun z hz=>?_,fun z hz=>?_,fun j hj=>?_,fun j hj=>?_⟩
 ·rcases (e4 z).1 hz with q | q
  ·exact h.n0 z q
  ·subst q;exact q0
 ·rcases (e4 z).1 hz with q | q
  ·exact h.n1 z q
  ·subst q;exact q1
 ·rcases c with ⟨c1,c2,c3,c4⟩ | ⟨c1,c2,c3,c4⟩
  ·by_cases e:j<a
   ·obtain⟨z,hz,z1,z2⟩:=h.e0 j e
    exact⟨z,(e4 z).2 (.inl hz),z1,z2⟩
   ·have:j=a:=by omega
    subst this
    exact⟨x,(e4 x).2 (.inr rfl),c3,c4⟩
  ·obtain⟨z,hz,z1,z2⟩:=h.e0 j (by omega)
   exact⟨z,(e4 z).2 (.inl hz),z1,z2⟩
 ·rcases c with ⟨c1,c2,c3,c4⟩ | ⟨c1,c2,c3,c4⟩
  ·obtain⟨z,hz,z1,z2⟩:=h.e1 j (by omega)
   exact⟨z,(e4 z).2 (.inl hz),z1,z2⟩
  ·by_cases e:j<b
   ·obtain⟨z,hz,z1,z2⟩:=h.e1 j e
    exact⟨z,(e4 z).2 (.inl hz),z1,z2⟩
   ·have:j=b:=by omega
    subst this
    exact⟨x,(e4 x).2 (.inr rfl),c3,c4⟩
theorem phi_tell0{n a b:Nat}{told:List Nt}{r:Rm}{l m:List Ch}(h:PhI n (4*(a+b)) told r l m a b) (h1:1<=n) (h2:n<=3) (hb:b<=8) (hl:l.length<=8) (hok:okTms 0 l=true) (ha:a<l.length) (p1:-9223372036854775808<=(0:Int)∧(0:Int)<9223372036854775808) (p2:-9223372036854775808<=(a:Int)∧(a:Int)<9223372036854775808) :
  ∃ y told',mvR r (telM (ntOf 0 a l[a] p1 p2))=(y,0)∧PhI n (4*(a+b)+3) told' y l m (a+1) b :=
 phi_tell h h1 h2 (by omega) (okNt_of ⟨by omega,by omega⟩ (by omega) (okTms_ok hok _ (List.getElem_mem ha))) (by omega) (fun _=>⟨a,ha,rfl,List.getElem?_eq_getElem ha⟩) (fun e=>by simp [ntOf] at e) (.inl ⟨rfl,rfl,rfl,rfl⟩)
theorem phi_tell1{n a b:Nat}{told:List Nt}{r:Rm}{l m:List Ch}(h:PhI n (4*(a+b)) told r l m a b) (h1:1<=n) (h2:n<=3) (hb:a<=8) (hl:m.length<=8) (hok:okTms 0 m=true) (ha:b<m.length) (p1:-9223372036854775808<=(1:Int)∧(1:Int)<9223372036854775808) (p2:-9223372036854775808<=(b:Int)∧(b:Int)<9223372036854775808) :
  ∃ y told',mvR r (telM (ntOf 1 b m[b] p1 p2))=(y,0)∧PhI n (4*(a+b)+3) told' y l m a (b+1) :=
 phi_tell h h1 h2 (by omega) (okNt_of ⟨by omega,by omega⟩ (by omega) (okTms_ok hok _ (List.getElem_mem ha))) (by omega) (fun e=>by simp [ntOf] at e) (fun _=>⟨b,ha,rfl,List.getElem?_eq_getElem ha⟩) (.inr ⟨rfl,rfl,rfl,rfl⟩)
theorem phi_other{n Q a b:Nat}{told:List Nt}{r:Rm}{l m:List Ch}{k j:Int}{hk:-9223372036854775808<=k∧k<9223372036854775808}(h:PhI n Q told r l m a b) (h1:1<=n) (h2:n<=3) (hT:a+b<=16) (hQ:Q<=100) (hkk:k=3∨k=4∨k=5) (hj:0<=j∧j<r.net.q.length) :
  ∃ y,mvR r (mvAtT k hk j)=(y,0)∧PhI n (Q+1) told y l m a b:=by
 have h3:=h.ql
 have h4:=h.tl
 obtain⟨y,e1,e2,e3,e4⟩:=top_other (m:=mvAtT k hk j) (j:=j.toNat) h.inv h.k0 h1 h2 (by omega) (by omega) hkk (by show j=_;omega) (by omega)
 exact⟨y,e1,e2,h.ok,e3,h.tl,by omega,h.n0,h.n1,h.e0,h.e1⟩
theorem phi_seen{n Q a b:Nat}{told:List Nt}{r:Rm}{l m:List Ch}{yl ym:List Sp}(h:PhI n Q told r l m a b) (hT:a+b<=16) (h0:runD [] l=some yl) (h1:runD [] m=some ym){p:List Nt}(hp:p∈r.ps) :
  (∃ k,k<=l.length∧seenR p 0=(shD l k,k)∧seenE p 0=0)∧(∃ k,k<=m.length∧seenR p 1=(shD m k,k)∧seenE p 1=0):=by
 have hpe:=h.inv.pe p hp
 have hl:=inv_len h.inv p hp
 have ht:=h.tl
 have hok:okPe p=true:=okPe_iff.2 ⟨hpe.1,by omega⟩
 exact⟨seen_some hok (by omega) (by omega) h0 fun x hx=>h.n0 x (hpe.2 x hx),seen_some hok (by omega) (by omega) h1 fun x hx=>h.n1 x (hpe.2 x hx)⟩
def synM (k:Int) (hk:-9223372036854775808<=k∧k<9223372036854775808):Mv:=⟨2,0,k,0,zNt,by omega⟩
structure SyI (n:Nat) (told:List Nt) (r:Rm) (k:Nat):Prop where
 inv:InvR n told r
 k0:∀ x∈told,x∈r.ps.getD 0 []
 tl:told.length<=16
 ql:r.net.q.length<=64+16*k
 rc:∀ j,j<k->∀ y∈told,rchR r j y
theorem syn_new{n:Nat}{told:List Nt}{r:Rm}{l m:List Ch}{a b:Nat}(h:PhI n 64 told r l m a b) (hT:a+b<=16):SyI n told r 1:=by
 have h3:=h.ql
 have h4:=h.tl
 exact⟨h.inv,h.k0,by omega,by omega,fun j hj y hy=>.inl (by
  have:j=0:=by omega
  subst this;exact h.k0 y hy)⟩
theorem syn_next{n:Nat}{told:List Nt}{r:Rm}{k:Nat}{p2:-9223372036854775808<=(k:Int)∧(k:Int)<9223372036854775808}(h:SyI n told r k) (h1:1<=k) (h2:k<n) (h3:n<=3):∃ y,mvR r (synM k p2)=(y,0)∧SyI n told y (k+1):=by
 have h4:=h.ql
 have h5:=h.tl
 obtain⟨y,e1,e2,e3,e4,e5,e6⟩:=drn_sync (m:=synM k p2) h.inv (by omega) (by omega) (by omega) (by omega) rfl (i:=0) (k:=k) rfl rfl (by omega) h2 (by omega)
 have h0:0<r.ps.length:=by rw [h.inv.len];omega
 have h6:=inv_len h.inv _ (List.getElem_mem h0)
 rw [<- getD_ps h0] at h6
 refine⟨y,e1,e2,fun x hx=>by rw [e3];exact h.k0 x hx,h.tl,by omega,fun j hj z hz=>?_⟩
 by_cases e:j<k
 ·exact e4 j z (h.rc j e z hz)
 ·have:j=k:=by omega
  subst this
  exact e5 z (h.k0 z hz)
theorem syn_drn{n:Nat}{told:List Nt}{r:Rm}(h:SyI n told r n):drnR n told r=⟨List.replicate n told,⟨[],[]⟩⟩:=drn_all h.rc
end

section
attribute [local simp] dZ_agg dZ_nt dZ_noTup dZ_cells dZ_one bz_toList bz_size strV dSp_cells dSp_isAgg dSp_noTup dSp_nt dCh_cells dCh_isAgg dCh_noTup dCh_nt dNt_cells dNt_isAgg dNt_noTup dNt_nt dPe_cells dPe_isAgg dPe_noTup dPe_nt dRm_cells dRm_isAgg dRm_noTup dRm_nt dPc_cells dPc_agg dPc_noTup dNw_cells dNw_agg dNw_noTup dMv_cells dMv_isAgg dMv_noTup dMv_nt dVi_cells dVi_isAgg dVi_noTup dVi_nt
set_option maxRecDepth 8000
set_option maxHeartbeats 40000000
inductive C624:FuncId->List D->Out->Prop
 | chkZ:C624 4 [.agg [.nil 1,.nil 3,.nil 2]] (.ret (dI 530))
 | chs (l:List Ch):C624 5 [.sl 5 (l.map dCh)] (.ret (dI (chsE l)))
 | new (n:Int):C624 6 [dI n] (.ret (.tup [dRm (newR n).1,dI (newR n).2]))
 | dod (d:D) (l:List Sp) (c:Ch) (h:LeD d (.sl 3 (l.map dSp))):C624 7 [d,dCh c] (.ret (.tup [.sl 3 ((doDL l c).map dSp),dI (doDE l c)]))
 | mv (r:Rm) (m:Mv) (hs:smR r):C624 8 [dRm r,dMv m] (.ret (.tup [dRm (mvR r m).1,dI (mvR r m).2]))
 | seen (l:List Nt) (lang:Int):C624 9 [dPe l,dI lang] (.ret (.tup [.sl 3 ((seenR l lang).1.map dSp),dI (seenR l lang).2,dI (seenE l lang)]))
 | same (d:D) (x y:List Sp) (h:LeD d (.sl 3 (y.map dSp))):C624 10 [.sl 3 (x.map dSp),d] (.ret (dB (decide (x=y))))
 | notes (x y:List Nt):C624 13 [.sl 7 (x.map dNt),.sl 7 (y.map dNt)] (.ret (dB (decide (x=y))))
 | drn (n:Nat) (told:List Nt) (r:Rm) (hI:InvR n told r) (h1:1<=n) (h2:n<=24) (h3:told.length<=1000) (h4:r.net.q.length<=1000) (hok:okNs none told=true) (o:List UInt8) (ho:o.length<=100):C624 11 [dRm r,.sl 1 (o.map dU)] (.ret (.tup [dRm (drnR n told r),dB true]))
 | play (l:List Ch) (t:Int) (y:List Sp) (h1:l.length<=4096) (h2:okTms 0 l=true) (h3:okTm t=true) (h4:runD [] l=some y):C624 12 [.sl 5 (l.map dCh),dI t] (.ret (.tup [.sl 3 ((plD l t).map dSp),dI 0]))
 | diff (a b:List Sp) (t:Int) (ht:-9223372036854775808<=t∧t<9223372036854775808) (ha:dispE a=0) (hb:dispE b=0) (h0:okTm t=true):C624 14 [.sl 3 (a.map dSp),.sl 3 (b.map dSp),dI t] (.ret (.tup [.sl 5 ((if badM a b=true then [] else mrg t ht a b).map dCh),dI (if badM a b=true then 510 else 0)]))
 | app (a:List Sp) (p:List Ch) (x:List Sp) (hd:dispE a=0) (hl:p.length<=4096) (hx:runD a p=some x):C624 15 [.sl 3 (a.map dSp),.sl 5 (p.map dCh)] (.ret (.tup [.sl 3 (x.map dSp),dI 0]))
 | gone (l:List Ch) (t:Int) (y:List Sp) (h1:l.length<=4096) (h2:okTms 0 l=true) (h3:okTm t=true) (h4:runD [] l=some y):C624 16 [.sl 5 (l.map dCh),dI t] (.ret (.tup [dI (((untL l t).filter isW).length:Nat),dI 0]))
 | wat (l m:List Ch) (v:List Vi) (t:Int) (ht:-9223372036854775808<=t∧t<9223372036854775808) (p:List Nt) (yl ym:List Sp) (hl:l.length<=8) (hm:m.length<=8) (l1:okTms 0 l=true) (m1:okTms 0 m=true) (l2:runD [] l=some yl) (m2:runD [] m=some ym) (hp:okPe p=true) (k0:KnwI p l 0) (k1:KnwI p m 1):C624 17 [.sl 5 (l.map dCh),.sl 5 (m.map dCh),.sl 4 (v.map dVi),dI t,dPe p] (.ret (dB true))
theorem h624:∀ f ds out,C624 f ds out->PCall Tryz.prog f ds out:=by
 intro f ds out h
 cases h with
 | chkZ=>exact(sCheck zRm).le (.cons leZRm .nil)
 | chs l=>exact rChanges l
 | new n=>exact sNew n
 | dod d l c h=>exact(dDo l c).le (.cons h (.cons (LeD.refl _) .nil))
 | mv r m hs=>exact sDo r m hs
 | seen l lang=>exact sSeen l lang
 | same d x y h=>exact(rSame49 x y).le (.cons (LeD.refl _) (.cons h .nil))
 | notes x y=>exact rSameN x y
 | drn n told r hI h1 h2 h3 h4 hok o ho=>exact tDrained n told r hI h1 h2 h3 h4 hok o ho
 | play l t y h1 h2 h3 h4=>exact dPlay l t y h1 h2 h3 h4
 | diff a b t ht ha hb h0=>exact pDiff a b t ht ha hb h0
 | app a p x hd hl hx=>exact pApply a p x hd hl hx
 | gone l t y h1 h2 h3 h4=>exact dWithdrawn l t y h1 h2 h3 h4
 | wat l m v t ht p yl ym hl hm l1 m1 l2 m2 hp k0 k1=>exact tWatched l m v t ht p yl ym hl hm l1 m1 l2 m2 hp k0 k1
def shL (cs:List Ch) (k:Nat):List D:=.nil 3::(List.range k).map fun j=>.sl 3 ((shD cs (j+1)).map dSp)
theorem shL_0(cs:List Ch):shL cs 0=[.nil 3]:=rfl
theorem shL_len(cs:List Ch) (k:Nat):(shL cs k).length=k+1:=by simp [shL]
theorem shL_succ(cs:List Ch) (k:Nat):shL cs (k+1)=shL cs k++[.sl 3 ((shD cs (k+1)).map dSp)]:=by
 unfold shL
 rw [List.range_succ,List.map_append];rfl
theorem shL_get(cs:List Ch) (k j:Nat) (h:j<(shL cs k).length):LeD (shL cs k)[j] (.sl 3 ((shD cs j).map dSp)):=by
 cases j with
 | zero=>exact LeD.nil' 3 3
 | succ j =>
  have e:(shL cs k)[j+1]=.sl 3 ((shD cs (j+1)).map dSp):=by simp [shL]
  rw [e];exact LeD.refl _
theorem shL_el(cs:List Ch) (k j:Nat) (h:j<(shL cs k).length):(shL cs k)[j].cells.length=1∧(shL cs k)[j].isAgg=false∧(shL cs k)[j].one=true:=by
 cases j with
 | zero=>exact⟨rfl,rfl,rfl⟩
 | succ j =>
  have e:(shL cs k)[j+1]=.sl 3 ((shD cs (j+1)).map dSp):=by simp [shL]
  rw [e];exact⟨rfl,rfl,rfl⟩
def mny (g:Int):Nat:=2+g.toNat % 2
theorem mny_r{g:Int}(h0:0<=g):2<=mny g∧mny g<=3∧IntKind.i64.wrap (2+Int.tmod g 2)=(mny g:Int):=by
 obtain⟨k,rfl⟩:∃ k:Nat,g=k:=⟨g.toNat,by omega⟩
 have h:mny (k:Int)=2+k % 2:=rfl
 have h2:=Nat.mod_lt k (show 0<2 by omega)
 refine⟨by omega,by omega,?_⟩
 have e:Int.tmod (k:Int) 2=((k % 2:Nat):Int):=(Int.ofNat_tmod k 2).symm
 rw [e,h,wrap64 (by omega)]
 omega
end

end Go.Proofs.YtmmlicjkdeankaaGreatDoor
