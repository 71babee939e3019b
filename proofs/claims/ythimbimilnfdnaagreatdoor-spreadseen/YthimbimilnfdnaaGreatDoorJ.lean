/- Part of the proof: S565, S566, S580, S583, S586, S587, S570, S571. -/
import Derived.Test.YthimbimilnfdnaaGreatDoorCards
import Derived.Test.YthimbimilnfdnaaGreatDoorTie
import Derived.Deep.DeepHandedRow
import Derived.Deep.DeepWitnessRowRef
import Derived.Lib.LaidIn
import Derived.Lib.LaidU8
import Derived.ProofKit
import Derived.SizedLaws
import Derived.PinnedBridge
import Derived.SevenTiedAt
import Derived.Test.YthimbimilnfdnaaGreatDoorI
set_option linter.unnecessarySimpa false
set_option linter.unusedVariables false
set_option linter.unusedSimpArgs false
namespace Go.Proofs.YthimbimilnfdnaaGreatDoor
open Go Go.Proofs.YthimbimilnfdnaaGreatDoor.AL
section
attribute [local simp] dZ_agg dZ_nt dZ_noTup dZ_cells dZ_one bz_toList bz_size strV dSp_cells dSp_isAgg dSp_noTup dSp_nt dCh_cells dCh_isAgg dCh_noTup dCh_nt dNt_cells dNt_isAgg dNt_noTup dNt_nt dPe_cells dPe_isAgg dPe_noTup dPe_nt dRm_cells dRm_isAgg dRm_noTup dRm_nt dPc_cells dPc_agg dPc_noTup dNw_cells dNw_agg dNw_noTup dMv_cells dMv_isAgg dMv_noTup dMv_nt
set_option maxRecDepth 8000
set_option maxHeartbeats 4000000
inductive C565:FuncId→List D→Out→Prop
 | sane:C565 10 [] (.ret (dB true))
 | few (r:Rm):C565 11 [dRm r] (.ret (dB (fewR r)))
 | do1 (r:Rm) (m:Mv) (hf:fewR r=true):C565 12 [dRm r,dMv m] (.ret (.tup [dRm (mvR r m).1,dI (mvR r m).2]))
 | do2 (r:Rm) (m:Mv):C565 13 [dRm r,dMv m] (.ret (.tup [dRm (mvR r m).1,dI (mvR r m).2]))
 | new1 (n:Int):C565 14 [dI n] (.ret (.tup [dRm (newR n).1,dI (newR n).2]))
 | new2 (n:Int):C565 15 [dI n] (.ret (.tup [dRm (newR n).1,dI (newR n).2]))
 | chk1 (r:Rm):C565 16 [dRm r] (.ret (dI (rmE r)))
 | chk2 (r:Rm):C565 17 [dRm r] (.ret (dI (rmE r)))
 | same (x y:Rm):C565 18 [dRm x,dRm y] (.ret (dB (decide (x=y))))
 | seen1 (l:List Nt) (lang:Int):C565 19 [dPe l,dI lang] (.ret (.tup [.sl 3 ((seenR l lang).1.map dSp),dI (seenR l lang).2,dI (seenE l lang)]))
 | seen2 (l:List Nt) (lang:Int):C565 20 [dPe l,dI lang] (.ret (.tup [.sl 3 ((seenR l lang).1.map dSp),dI (seenR l lang).2,dI (seenE l lang)]))
 | sameD (x y:List Sp):C565 21 [.sl 3 (x.map dSp),.sl 3 (y.map dSp)] (.ret (dB (decide (x=y))))
theorem h565:∀ f ds out,C565 f ds out→PCall Tryz.prog f ds out:=by
 intro f ds out h
 cases h with
 | sane=>exact lSane
 | few r=>exact rFew r
 | do1 r m hf=>exact sDoF r m hf
 | do2 r m=>exact rDo r m
 | new1 n=>exact sNew n
 | new2 n=>exact rNewS n
 | chk1 r=>exact sCheck r
 | chk2 r=>exact rCheckS r
 | same x y=>exact rSameR x y
 | seen1 l lang=>exact sSeen l lang
 | seen2 l lang=>exact rSeen l lang
 | sameD x y=>exact rSame49 x y
theorem spreadSeenSpec(l:List Nt) (lang:Int):PCall Tryz.prog 4 [dPe l,dI lang] (.ret (dB true)):=by
 refine pcall_of_vc h565 c4 (by simp [a4]) fun hr=>?_
 have k1:=C565.seen1 l lang
 have k2:=C565.seen2 l lang
 have k3:=C565.sameD (seenR l lang).1 (seenR l lang).1
 simp at k3
 simp [a4]
 refine vc_path [.ret (dB true)] ?_
 simp
 refine⟨.sane,fun h=>?_⟩
 refine vc_path [.ret (.tup [.sl 3 ((seenR l lang).1.map dSp),dI (seenR l lang).2,dI (seenE l lang)])] ?_
 simp
 refine⟨k1,?_⟩
 refine vc_path [.ret (.tup [.sl 3 ((seenR l lang).1.map dSp),dI (seenR l lang).2,dI (seenE l lang)])] ?_
 simp
 refine⟨k2,?_⟩
 refine vc_path [.ret (dB true)] ?_
 simp
 exact k3
end

section
theorem nodup_le{α:Type} [DecidableEq α] (a:List α):∀ b:List α,a.Nodup→(∀ x∈a,x∈b)→a.length≤b.length:=by
 induction a with
 | nil=>intro b _ _;simp
 | cons x r ih =>
  intro b h1 h2
  rw [List.nodup_cons] at h1
  have hx:x∈b:=h2 x (by simp)
  have h3:=ih (b.erase x) h1.2 fun y hy=>(List.mem_erase_of_ne (fun e:y=x=>h1.1 (e ▸ hy))).2 (h2 y (by simp [hy]))
  rw [List.length_erase_of_mem hx] at h3
  have h4:0<b.length:=List.length_pos_of_mem hx
  simp only [List.length_cons];omega
def GoodP (n:Nat) (told:List Nt) (p:Pc):Prop:=∃ (a b:Nat) (x:Nt),p=pcOf a b x∧a<n∧b<n∧a≠b∧x∈told∧okNt x=true
theorem GoodP.mono{n:Nat}{told told':List Nt}{p:Pc}(h:GoodP n told p) (ht:∀ x∈told,x∈told'):GoodP n told' p:=by
 obtain⟨a,b,x,h1,h2,h3,h4,h5,h6⟩:=h
 exact⟨a,b,x,h1,h2,h3,h4,ht x h5,h6⟩
theorem seenN_more{l:List Nt}{lang:Int}:∀ (f g:Nat) (x:List Sp) (k:Nat),(∀ j:Nat,j<k→(findN l lang j).isSome=true)→l.length<f+k→l.length<g+k→seenN l lang f x k=seenN l lang g x k
 | 0,g,x,k,h,h1,_=>absurd (seen_len h) (by omega)
 | f+1,0,x,k,h,_,h2=>absurd (seen_len h) (by omega)
 | f+1,g+1,x,k,h,h1,h2=>by
  rw [seenN,seenN]
  cases hf:findN l lang k with
  | none=>rfl
  | some c =>
   exact seenN_more f g _ (k+1) (fun j hj=>by
    by_cases e:j=k
    ·subst e;rw [hf];rfl
    ·exact h j (by omega)) (by omega) (by omega)
theorem seenN_ext{a b:List Nt}{lang:Int}(h:∀ s,findN a lang s=findN b lang s):∀ (f:Nat) (x:List Sp) (k:Nat),seenN a lang f x k=seenN b lang f x k
 | 0,x,k=>rfl
 | f+1,x,k=>by
  rw [seenN,seenN,h k]
  cases findN b lang k with
  | none=>rfl
  | some c=>exact seenN_ext h f _ (k+1)
theorem seenN_same{a b:List Nt}{lang:Int}(h:∀ s,findN a lang s=findN b lang s) (hl:a.length≤b.length):seenN a lang (a.length+1) [] 0=seenN b lang (b.length+1) [] 0:=by
 rw [seenN_more (a.length+1) (b.length+1) [] 0 (fun j hj=>absurd hj (Nat.not_lt_zero _)) (by omega) (by omega)]
 exact seenN_ext h _ _ _
def ownL (l:List Nt) (lang:Int):List Nt:=l.filter fun x=>decide (x.lang=lang)
theorem findN_own(l:List Nt) (lang s:Int):findN (ownL l lang) lang s=findN l lang s:=by
 rw [findN_eq,findN_eq]
 congr 1
 unfold ownL
 induction l with
 | nil=>rfl
 | cons x r ih =>
  by_cases e:x.lang=lang
  ·rw [List.filter_cons_of_pos (by simpa using e),List.find?_cons,List.find?_cons,ih]
  ·rw [List.filter_cons_of_neg (by simpa using e),ih,List.find?_cons]
   have:isN lang s x=false:=decide_eq_false fun h=>e h.1
   rw [this]
theorem okPe_sub{a l:List Nt}(h:okPe l=true) (hs:a.Sublist l):okPe a=true:=by
 obtain⟨h1,h2⟩:=okPe_iff.1 h
 have:=hs.length_le
 exact okPe_iff.2 ⟨okNs_mk (fun x hx=>okNs_ok h1 x (hs.subset hx)) ((okNs_pw h1).sublist hs),by omega⟩
theorem seenE_0{l:List Nt}{lang:Int}(h:okPe l=true) (h1:0≤lang) (h2:lang<32):seenE l lang=0:=by
 unfold seenE
 rw [if_neg (by rw [h];simp),if_neg (by omega)]
theorem seenR_0{l:List Nt}{lang:Int}(h:okPe l=true) (h1:0≤lang) (h2:lang<32):seenR l lang=seenN l lang (l.length+1) [] 0:=by
 unfold seenR
 rw [if_pos (seenE_0 h h1 h2)]
theorem seen_own{l:List Nt}{lang:Int}(h:okPe l=true) (h1:0≤lang) (h2:lang<32):seenR (ownL l lang) lang=seenN l lang (l.length+1) [] 0∧seenE (ownL l lang) lang=0:=by
 have hs:(ownL l lang).Sublist l:=List.filter_sublist
 have ho:=okPe_sub h hs
 exact⟨by rw [seenR_0 ho h1 h2];exact seenN_same (findN_own l lang) hs.length_le,seenE_0 ho h1 h2⟩
def selK (b:Nat→Bool) (l:List Nt):Nat→List Nt
 | 0=>[]
 | k+1=>selK b l k++(if b k then l.drop k |>.take 1 else [])
theorem selK_succ{b:Nat→Bool}{l:List Nt}{k:Nat}(h:k<l.length):selK b l (k+1)=selK b l k++(if b k then [l[k]] else []):=by
 rw [selK,List.drop_eq_getElem_cons h];rfl
theorem selK_sub(b:Nat→Bool) (l:List Nt):∀ k,k≤l.length→(selK b l k).Sublist (l.take k)
 | 0,_=>by simp [selK]
 | k+1,h=>by
  rw [selK_succ (by omega),List.take_succ_eq_append_getElem (by omega)]
  refine(selK_sub b l k (by omega)).append ?_
  split
  ·exact List.Sublist.refl _
  ·exact List.nil_sublist _
def uniN (l:List Nt) (lang:Int):Prop:=∀ (i:Nat) (h:i<l.length),l[i].lang=lang→findN (l.take i) lang l[i].seq=none
theorem uni_find{l:List Nt}{lang:Int}(h:uniN l lang){y:Nt}(hy:y∈l) (hl:y.lang=lang):findN l lang y.seq=some y.ch:=by
 obtain⟨i,hi,rfl⟩:=List.mem_iff_getElem.1 hy
 have h1:=h i hi hl
 rw [findN_eq] at h1 ⊢
 rw [Option.map_eq_none_iff] at h1
 have e:l.find? (isN lang l[i].seq)=(l.take i++l[i]::l.drop (i+1)).find? (isN lang l[i].seq):=by rw [← List.drop_eq_getElem_cons hi,List.take_append_drop]
 rw [e,List.find?_append,h1,Option.none_or,List.find?_cons]
 have:isN lang l[i].seq l[i]=true:=decide_eq_true ⟨hl,rfl⟩
 rw [this];rfl
theorem uni_sub{a l:List Nt}{lang s:Int}{c:Ch}(h:uniN l lang) (hs:∀ x∈a,x∈l) (hf:findN a lang s=some c):findN l lang s=some c:=by
 rw [findN_eq] at hf
 cases hx:a.find? (isN lang s) with
 | none=>rw [hx] at hf;cases hf
 | some y =>
  rw [hx] at hf
  injection hf with hf
  have h0:=List.find?_some hx
  unfold isN at h0
  obtain⟨e1,e2⟩:y.lang=lang∧y.seq=s:=of_decide_eq_true h0
  have:=uni_find h (hs y (List.mem_of_find?_eq_some hx)) e1
  rw [e2] at this
  rw [this,← hf]
theorem seen_pre{a l:List Nt}{lang:Int}(h:∀ s c,findN a lang s=some c→findN l lang s=some c):∀ (f F:Nat) (x:List Sp) (k:Nat),f≤F→k≤(seenN a lang f x k).2∧seenN l lang F x k=seenN l lang (F-((seenN a lang f x k).2-k)) (seenN a lang f x k).1 (seenN a lang f x k).2
 | 0,F,x,k,_=>by simp [seenN]
 | f+1,F,x,k,hF=>by
  cases hf:findN a lang k with
  | none =>
   have e:seenN a lang (f+1) x k=(x,k):=by rw [seenN,hf]
   rw [e];simp
  | some c =>
   have hl:=h _ _ hf
   obtain⟨F,rfl⟩:∃ F',F=F'+1:=⟨F-1,by omega⟩
   have e:seenN a lang (f+1) x k=seenN a lang f (if doDE x c=0 then doDL x c else x) (k+1):=by rw [seenN,hf]
   have e2:seenN l lang (F+1) x k=seenN l lang F (if doDE x c=0 then doDL x c else x) (k+1):=by rw [seenN,hl]
   rw [e,e2]
   obtain⟨i1,i2⟩:=seen_pre h f F (if doDE x c=0 then doDL x c else x) (k+1) (by omega)
   refine⟨by omega,?_⟩
   rw [i2]
   congr 1
   omega
theorem seen_next{l:List Nt}{lang:Int}{f:Nat}{x:List Sp}{k:Nat}{OUT:List Sp×Nat}(h:seenN l lang f x k=OUT):k≤OUT.2∧(OUT.2≤k→OUT.1=x)∧(k<OUT.2→∃ c f',f=f'+1∧findN l lang k=some c∧seenN l lang f' (if doDE x c=0 then doDL x c else x) (k+1)=OUT):=by
 cases f with
 | zero=>subst h;exact⟨Nat.le_refl _,fun _=>rfl,fun h=>absurd h (Nat.lt_irrefl _)⟩
 | succ f =>
  cases hf:findN l lang k with
  | none =>
   rw [seenN,hf] at h
   subst h;exact⟨Nat.le_refl _,fun _=>rfl,fun h=>absurd h (Nat.lt_irrefl _)⟩
  | some c =>
   rw [seenN,hf] at h
   simp only at h
   have hk:=(seen_pre (a:=l) (l:=l) (lang:=lang) (fun _ _ h=>h) f f (if doDE x c=0 then doDL x c else x) (k+1) (Nat.le_refl _)).1
   rw [h] at hk
   exact⟨by omega,fun h=>by omega,fun _=>⟨c,f,rfl,rfl,h⟩⟩
theorem seen_all{l:List Nt}{lang:Int}:∀ (f:Nat) (x:List Sp) (k:Nat),(∀ j:Nat,j<k→(findN l lang j).isSome=true)→∀ j:Nat,j<(seenN l lang f x k).2→(findN l lang j).isSome=true
 | 0,x,k,h=>h
 | f+1,x,k,h=>by
  cases hf:findN l lang k with
  | none =>
   have e:seenN l lang (f+1) x k=(x,k):=by rw [seenN,hf]
   rw [e];exact h
  | some c =>
   have e:seenN l lang (f+1) x k=seenN l lang f (if doDE x c=0 then doDL x c else x) (k+1):=by rw [seenN,hf]
   rw [e]
   exact seen_all f _ (k+1) fun j hj=>by
    by_cases e:j=k
    ·subst e;rw [hf];rfl
    ·exact h j (by omega)
theorem seen_keys{l:List Nt}{lang:Int}{n:Nat}(h:∀ j:Nat,j<n→(findN l lang j).isSome=true){M:List (Int×Ch)}(hM:∀ s,(M.find? (fun e=>e.1 == s)).map (·.2)=findN l lang s):n≤M.length:=by
 have h1:=nodup_le ((List.range n).map fun j:Nat=>(j:Int)) (M.map (·.1)) (by
  rw [List.nodup_iff_pairwise_ne,List.pairwise_map]
  exact(List.nodup_iff_pairwise_ne.1 List.nodup_range).imp fun hab e=>hab (Int.ofNat.inj e)) (fun s hs=>by
  obtain⟨j,hj,rfl⟩:=List.mem_map.1 hs
  have h2:=h j (List.mem_range.1 hj)
  rw [← hM] at h2
  cases hx:M.find? (fun e=>e.1 == (j:Int)) with
  | none=>rw [hx] at h2;cases h2
  | some e =>
   have h3:=List.find?_some hx
   simp only [beq_iff_eq] at h3
   exact List.mem_map.2 ⟨e,List.mem_of_find?_eq_some hx,h3⟩)
 rw [List.length_map,List.length_map,List.length_range] at h1
 exact h1
end

section
attribute [local simp] dZ_agg dZ_nt dZ_noTup dZ_cells dZ_one bz_toList bz_size strV dSp_cells dSp_isAgg dSp_noTup dSp_nt dCh_cells dCh_isAgg dCh_noTup dCh_nt dNt_cells dNt_isAgg dNt_noTup dNt_nt dPe_cells dPe_isAgg dPe_noTup dPe_nt dRm_cells dRm_isAgg dRm_noTup dRm_nt dPc_cells dPc_agg dPc_noTup dNw_cells dNw_agg dNw_noTup dMv_cells dMv_isAgg dMv_noTup dMv_nt
set_option maxRecDepth 8000
set_option maxHeartbeats 4000000
inductive C586:FuncId→List D→Out→Prop
 | sane:C586 10 [] (.ret (dB true))
 | valid (l:List Nt):C586 26 [dPe l] (.ret (dB (okPe l)))
 | seen (l:List Nt) (lang:Int):C586 19 [dPe l,dI lang] (.ret (.tup [.sl 3 ((seenR l lang).1.map dSp),dI (seenR l lang).2,dI (seenE l lang)]))
 | dod (l:List Sp) (c:Ch):C586 27 [.sl 3 (l.map dSp),dCh c] (.ret (.tup [.sl 3 ((doDL l c).map dSp),dI (doDE l c)]))
 | same (x y:List Sp):C586 21 [.sl 3 (x.map dSp),.sl 3 (y.map dSp)] (.ret (dB (decide (x=y))))
theorem h586:∀ f ds out,C586 f ds out→PCall Tryz.prog f ds out:=by
 intro f ds out h
 cases h with
 | sane=>exact lSane
 | valid l=>exact rValid l
 | seen l lang=>exact sSeen l lang
 | dod l c=>exact dDo l c
 | same x y=>exact rSame49 x y
theorem langN{g:Int}(h0:0≤g):0≤Int.tmod g 32∧Int.tmod g 32<32:=by
 have e:Int.tmod g 32=((g.toNat % 32:Nat):Int):=by
  have:g=(g.toNat:Int):=by omega
  rw [this];exact(Int.ofNat_tmod _ _).symm
 have h:g.toNat % 32<32:=Nat.mod_lt _ (by omega)
 rw [e];omega
theorem ownL_succ{l:List Nt}{k:Nat}(h:k<l.length) (n:Int):ownL (l.take (k+1)) n=ownL (l.take k) n++(if l[k].lang=n then [l[k]] else []):=by
 unfold ownL
 rw [List.take_succ_eq_append_getElem h,List.filter_append]
 congr 1
 by_cases e:l[k].lang=n
 ·rw [if_pos e,List.filter_cons_of_pos (by simpa using e)];rfl
 ·rw [if_neg e,List.filter_cons_of_neg (by simpa using e)];rfl
theorem lSeen(l:List Nt) (g:Int) (g0:0≤g) (g1:g≤255):PCall Tryz.prog 8 [dPe l,.lit (.int .u8 g)] (.ret (dB true)):=by
 refine pcall_of_vc h586 c8 (by simp [a8]) fun hr=>?_
 have hwg:IntKind.i64.wrap g=g:=wrap64 (by omega)
 obtain⟨n0,n1⟩:=langN g0
 have k1:=C586.valid l
 simp [a8]
 refine vc_path [.ret (dB true)] ?_
 simp
 refine⟨.sane,?_⟩
 by_cases hl:l.length≤30
 case neg =>
  have hl':(30:Int)<(l.length:Int):=by omega
  refine vc_path [.ret (dB (okPe l))] ?_
  simp [dPe,hl']
 have hl':¬ (30:Int)<(l.length:Int):=by omega
 refine vc_path [.ret (dB (okPe l))] ?_
 cases hv:okPe l with
 | false =>
  rw [hv] at k1
  simp [dPe,hl'] at k1 ⊢
  exact k1
 | true =>
  rw [hv] at k1
  generalize hgn:Int.tmod g 32=n at *
  have k2:=C586.seen l n
  rw [seenE_0 hv n0 n1,seenR_0 hv n0 n1] at k2
  generalize hO:seenN l n (l.length+1) [] 0=OUT at *
  simp [dPe,hl'] at k1 ⊢
  refine⟨k1,?_⟩
  simp [hwg,hgn]
  refine vc_path [.ret (.tup [.sl 3 (OUT.1.map dSp),dI OUT.2,dI 0])] ?_
  simp [hwg,hgn]
  refine⟨k2,?_⟩
  refine vc_loopK [2,5,6,7,8,10,47,48] (Nat×List (Int×Ch)) (fun y=>[(49,true,.d (dI y.1)),(9,true,.own 2 7 ((ownL (l.take y.1) n).map dNt))]) (fun y=>[(1,.mapo (y.2.map mE)),(2,.row)]) (fun y=>y.1≤l.length∧∀ s,(y.2.find? (fun e=>e.1 == s)).map (·.2)=findN (l.take y.1) n s) (fun y=>l.length-y.1) (0,[]) ⟨Nat.zero_le _,fun s=>rfl⟩ ⟨[],[(2,7)],?_⟩ (fun y hy=>?_)
  ·simp
   rfl
  obtain⟨i,M⟩:=y
  obtain⟨i1,i2⟩:=hy
  simp only at i1 i2
  simp
  refine⟨fun hlt=>?_,fun hge=>?_⟩
  ·have hw:IntKind.i64.wrap ((i:Int)+1)=(i:Int)+1:=wrap64 (by omega)
   have hi2:=i2 l[i].seq
   have ho:=ownL_succ hlt n
   have hol:(ownL (l.take i) n).length≤30:=by
    have h1:(ownL (l.take i) n).length≤(l.take i).length:=List.length_filter_le _ _
    rw [List.length_take] at h1;omega
   by_cases a1:l[i].lang=n
   case neg =>
    rw [if_neg a1,List.append_nil] at ho
    have hnx:∀ s,(M.find? (fun e=>e.1 == s)).map (·.2)=findN (l.take (i+1)) n s:=fun s=>by
     rw [findN_snoc hlt,← i2 s]
     have:¬ isN n s l[i]=true:=fun h=>a1 (of_decide_eq_true h).1
     rw [if_neg this];simp
    simp [hlt,dNt,a1,hw]
    refine⟨i+1,M,⟨by omega,hnx⟩,by omega,[],[],?_⟩
    rw [ho]
    simp
    exact leL_mE _ _ _ _ _
   case pos =>
    rw [if_pos a1] at ho
    cases hm:M.find? (fun e=>e.1 == l[i].seq) with
    | some e =>
     have hnx:∀ s,(M.find? (fun e=>e.1 == s)).map (·.2)=findN (l.take (i+1)) n s:=fun s=>by
      rw [findN_snoc hlt,← i2 s]
      by_cases hs:isN n s l[i]=true
      ·obtain⟨b1,b2⟩:l[i].lang=n∧l[i].seq=s:=of_decide_eq_true hs
       rw [← b2,hm];rfl
      ·rw [if_neg hs];simp
     simp [hlt,dNt,a1,kFind_m,hm,hw]
     refine⟨⟨by omega,by omega⟩,i+1,M,⟨by omega,hnx⟩,by omega,[(2,5)],[],?_⟩
     rw [ho]
     simp [dNt,a1]
     exact leL_mE _ _ _ _ _
    | none =>
     have hnx:∀ s,((M++[(l[i].seq,l[i].ch)]).find? (fun e=>e.1 == s)).map (·.2)=findN (l.take (i+1)) n s:=fun s=>by
      rw [findN_snoc hlt,← i2 s,List.find?_append]
      cases hms:M.find? (fun e=>e.1 == s) with
      | some e=>rfl
      | none =>
       rw [Option.none_or,Option.map_none,Option.none_or,List.find?_singleton]
       unfold isN
       by_cases a2:l[i].seq=s
       ·simp [a1,a2]
       ·simp [a1,a2]
     simp [hlt,dNt,a1,kFind_m,hm,hw]
     refine⟨⟨by omega,by omega⟩,i+1,M++[(l[i].seq,l[i].ch)],⟨by omega,hnx⟩,by omega,[(2,5)],[],?_⟩
     rw [ho]
     simp [dNt,a1]
     exact leL_mE2 _ _ _ _ _ l[i].ch
  ·have e:i=l.length:=by omega
   subst e
   rw [List.take_length] at i2
   have hkF:∀ s,kFind (.int .i64 s) (M.map mE)=some ((findN l n s).map fun c=>AV.d (dCh c)):=fun s=>by rw [kFind_m,← i2 s,Option.map_map];rfl
   have hol:(ownL l n).length≤30:=Nat.le_trans (List.length_filter_le _ _) hl
   cases hf0:findN l n 0 with
   | none =>
    simp [hkF,hf0]
    refine vc_loopK [2,5,6,7,8,10,9,17] (Nat×List Sp) (fun y=>[(15,true,.d (.sl 3 (y.2.map dSp))),(16,true,.d (dI y.1)),(18,true,.d (dB (findN l n y.1).isSome))]) (fun y=>[(3,.box true ((dCh ((findN l n y.1).getD zCh)).cells.map .d))]) (fun y=>(∀ j:Nat,j<y.1→(findN l n j).isSome=true)∧seenN l n (l.length+1-y.1) y.2 y.1=OUT) (fun y=>l.length-y.1) (0,[]) ⟨fun j hj=>absurd hj (Nat.not_lt_zero _),hO⟩ ⟨[],[],?_⟩ (fun y hy=>?_)
    ·simp [hf0]
     refine⟨leL_mE _ _ _ _ _,?_⟩
     simp [zCh]
     exact leD_of_eq rfl
    obtain⟨k,x⟩:=y
    obtain⟨j1,j2⟩:=hy
    simp only at j1 j2
    have k3:=seen_len j1
    simp
    refine⟨fun hs=>?_,fun hs=>?_⟩
    ·obtain⟨c,hc⟩:=Option.isSome_iff_exists.1 hs
     have k4:k+1≤l.length:=seen_len (k:=k+1) fun j hj=>by
      by_cases e:j=k
      ·subst e;rw [hc];rfl
      ·exact j1 j (by omega)
     have k5:∀ j:Nat,j<k+1→(findN l n j).isSome=true:=fun j hj=>by
      by_cases e:j=k
      ·subst e;rw [hc];rfl
      ·exact j1 j (by omega)
     rw [show l.length+1-k=(l.length-k)+1 by omega,seenN,hc] at j2
     simp only at j2
     have hw:IntKind.i64.wrap ((k:Int)+1)=(k:Int)+1:=wrap64 (by omega)
     have hD:=C586.dod x c
     have hkk:=hkF ((k:Int)+1)
     simp [hc]
     refine vc_path [.ret (.tup [.sl 3 ((doDL x c).map dSp),dI (doDE x c)])] ?_
     simp
     refine⟨hD,?_⟩
     by_cases hd:doDE x c=0
     ·rw [if_pos hd] at j2
      cases hf:findN l n ((k:Int)+1) with
      | none =>
       simp [hd,hw,hkF,hf]
       refine⟨k+1,doDL x c,⟨k5,by rw [show l.length+1-(k+1)=l.length-k by omega];exact j2⟩,by omega,[(3,4)],[],?_⟩
       simp [hf]
       exact⟨leL_mE _ _ _ _ _,leD_of_eq rfl,leD_of_eq rfl,leD_of_eq rfl,leD_of_eq rfl,leD_of_eq rfl⟩
      | some d =>
       simp [hd,hw,hkF,hf]
       refine⟨k+1,doDL x c,⟨k5,by rw [show l.length+1-(k+1)=l.length-k by omega];exact j2⟩,by omega,[(3,4)],[],?_⟩
       simp [hf]
       exact leL_mE _ _ _ _ _
     ·rw [if_neg hd] at j2
      cases hf:findN l n ((k:Int)+1) with
      | none =>
       simp [hd,hw,hkF,hf]
       refine⟨k+1,x,⟨k5,by rw [show l.length+1-(k+1)=l.length-k by omega];exact j2⟩,by omega,[(3,4)],[],?_⟩
       simp [hf]
       exact⟨leL_mE _ _ _ _ _,leD_of_eq rfl,leD_of_eq rfl,leD_of_eq rfl,leD_of_eq rfl,leD_of_eq rfl⟩
      | some d =>
       simp [hd,hw,hkF,hf]
       refine⟨k+1,x,⟨k5,by rw [show l.length+1-(k+1)=l.length-k by omega];exact j2⟩,by omega,[(3,4)],[],?_⟩
       simp [hf]
       exact leL_mE _ _ _ _ _
    ·have hs:findN l n k=none:=by simpa using hs
     rw [show l.length+1-k=(l.length-k)+1 by omega,seenN,hs] at j2
     simp only at j2
     subst j2
     have k6:=C586.seen (ownL l n) n
     rw [(seen_own hv n0 n1).1,(seen_own hv n0 n1).2,hO] at k6
     have k7:=C586.same x x
     simp at k7
     simp [hs]
     refine vc_path [.ret (.tup [.sl 3 (x.map dSp),dI k,dI 0])] ?_
     simp
     refine⟨k6,?_⟩
     refine vc_path [.ret (dB true),.ret (dB true)] ?_
     simp
     exact k7
   | some c0 =>
    simp [hkF,hf0]
    refine vc_loopK [2,5,6,7,8,10,9,17] (Nat×List Sp) (fun y=>[(15,true,.d (.sl 3 (y.2.map dSp))),(16,true,.d (dI y.1)),(18,true,.d (dB (findN l n y.1).isSome))]) (fun y=>[(3,.box true ((dCh ((findN l n y.1).getD zCh)).cells.map .d))]) (fun y=>(∀ j:Nat,j<y.1→(findN l n j).isSome=true)∧seenN l n (l.length+1-y.1) y.2 y.1=OUT) (fun y=>l.length-y.1) (0,[]) ⟨fun j hj=>absurd hj (Nat.not_lt_zero _),hO⟩ ⟨[],[],?_⟩ (fun y hy=>?_)
    ·simp [hf0]
     exact leL_mE _ _ _ _ _
    obtain⟨k,x⟩:=y
    obtain⟨j1,j2⟩:=hy
    simp only at j1 j2
    have k3:=seen_len j1
    simp
    refine⟨fun hs=>?_,fun hs=>?_⟩
    ·obtain⟨c,hc⟩:=Option.isSome_iff_exists.1 hs
     have k4:k+1≤l.length:=seen_len (k:=k+1) fun j hj=>by
      by_cases e:j=k
      ·subst e;rw [hc];rfl
      ·exact j1 j (by omega)
     have k5:∀ j:Nat,j<k+1→(findN l n j).isSome=true:=fun j hj=>by
      by_cases e:j=k
      ·subst e;rw [hc];rfl
      ·exact j1 j (by omega)
     rw [show l.length+1-k=(l.length-k)+1 by omega,seenN,hc] at j2
     simp only at j2
     have hw:IntKind.i64.wrap ((k:Int)+1)=(k:Int)+1:=wrap64 (by omega)
     have hD:=C586.dod x c
     have hkk:=hkF ((k:Int)+1)
     simp [hc]
     refine vc_path [.ret (.tup [.sl 3 ((doDL x c).map dSp),dI (doDE x c)])] ?_
     simp
     refine⟨hD,?_⟩
     by_cases hd:doDE x c=0
     ·rw [if_pos hd] at j2
      cases hf:findN l n ((k:Int)+1) with
      | none =>
       simp [hd,hw,hkF,hf]
       refine⟨k+1,doDL x c,⟨k5,by rw [show l.length+1-(k+1)=l.length-k by omega];exact j2⟩,by omega,[(3,4)],[],?_⟩
       simp [hf]
       exact⟨leL_mE _ _ _ _ _,leD_of_eq rfl,leD_of_eq rfl,leD_of_eq rfl,leD_of_eq rfl,leD_of_eq rfl⟩
      | some d =>
       simp [hd,hw,hkF,hf]
       refine⟨k+1,doDL x c,⟨k5,by rw [show l.length+1-(k+1)=l.length-k by omega];exact j2⟩,by omega,[(3,4)],[],?_⟩
       simp [hf]
       exact leL_mE _ _ _ _ _
     ·rw [if_neg hd] at j2
      cases hf:findN l n ((k:Int)+1) with
      | none =>
       simp [hd,hw,hkF,hf]
       refine⟨k+1,x,⟨k5,by rw [show l.length+1-(k+1)=l.length-k by omega];exact j2⟩,by omega,[(3,4)],[],?_⟩
       simp [hf]
       exact⟨leL_mE _ _ _ _ _,leD_of_eq rfl,leD_of_eq rfl,leD_of_eq rfl,leD_of_eq rfl,leD_of_eq rfl⟩
      | some d =>
       simp [hd,hw,hkF,hf]
       refine⟨k+1,x,⟨k5,by rw [show l.length+1-(k+1)=l.length-k by omega];exact j2⟩,by omega,[(3,4)],[],?_⟩
       simp [hf]
       exact leL_mE _ _ _ _ _
    ·have hs:findN l n k=none:=by simpa using hs
     rw [show l.length+1-k=(l.length-k)+1 by omega,seenN,hs] at j2
     simp only at j2
     subst j2
     have k6:=C586.seen (ownL l n) n
     rw [(seen_own hv n0 n1).1,(seen_own hv n0 n1).2,hO] at k6
     have k7:=C586.same x x
     simp at k7
     simp [hs]
     refine vc_path [.ret (.tup [.sl 3 (x.map dSp),dI k,dI 0])] ?_
     simp
     refine⟨k6,?_⟩
     refine vc_path [.ret (dB true),.ret (dB true)] ?_
     simp
     exact k7
def shM (u:Int) (i:Nat):Int:=match shiftV false .u32 u i with
 | .int _ m=>m
 | _=>0
theorem shM_eq(u:Int) (i:Nat):shiftV false .u32 u i=.int .u32 (shM u i):=rfl
def bitM (u:Int) (i:Nat):Bool:=decide (IntKind.u32.wrap (((shM u i % 2 ^ IntKind.u32.bits).toNat&&&((1:Int) % 2 ^ IntKind.u32.bits).toNat:Nat):Int)=0)
theorem lMore(l:List Nt) (g u:Int) (g0:0≤g) (g1:g≤255):PCall Tryz.prog 9 [dPe l,.lit (.int .u8 g),.lit (.int .u32 u)] (.ret (dB true)):=by
 refine pcall_of_vc h586 c9 (by simp [a9]) fun hr=>?_
 have hwg:IntKind.i64.wrap g=g:=wrap64 (by omega)
 obtain⟨n0,n1⟩:=langN g0
 have k1:=C586.valid l
 simp [a9]
 refine vc_path [.ret (dB true)] ?_
 simp
 refine⟨.sane,?_⟩
 by_cases hl:l.length≤30
 case neg =>
  have hl':(30:Int)<(l.length:Int):=by omega
  refine vc_path [.ret (dB (okPe l))] ?_
  simp [dPe,hl']
 have hl':¬ (30:Int)<(l.length:Int):=by omega
 refine vc_path [.ret (dB (okPe l))] ?_
 cases hv:okPe l with
 | false =>
  rw [hv] at k1
  simp [dPe,hl'] at k1 ⊢
  exact k1
 | true =>
  rw [hv] at k1
  generalize hgn:Int.tmod g 32=n at *
  simp [dPe,hl'] at k1 ⊢
  refine⟨k1,?_⟩
  simp [hwg,hgn]
  refine vc_loopK [2,3,7,9,39,40] (Nat×List (Int×Ch)) (fun y=>[(41,true,.d (dI y.1)),(8,true,.own 2 7 ((selK (bitM u) l y.1).map dNt))]) (fun y=>[(1,.mapo (y.2.map mE)),(2,.row)]) (fun y=>y.1≤l.length∧(∀ s,(y.2.find? (fun e=>e.1 == s)).map (·.2)=findN (l.take y.1) n s)∧(∀ (j:Nat) (h:j<l.length),j<y.1→l[j].lang=n→findN (l.take j) n l[j].seq=none)∧y.2.length≤y.1) (fun y=>l.length-y.1) (0,[]) ⟨Nat.zero_le _,fun s=>rfl,fun j _ h=>absurd h (Nat.not_lt_zero _),Nat.le_refl _⟩ ⟨[],[(2,7)],?_⟩ (fun y hy=>?_)
  ·simp
   rfl
  obtain⟨i,M⟩:=y
  obtain⟨i1,i2,i3,i4⟩:=hy
  simp only at i1 i2 i3 i4
  simp
  refine⟨fun hlt=>?_,fun hge=>?_⟩
  ·have hw:IntKind.i64.wrap ((i:Int)+1)=(i:Int)+1:=wrap64 (by omega)
   have hi2:=i2 l[i].seq
   have hsel:=selK_succ (b:=bitM u) hlt
   have hol:(selK (bitM u) l i).length≤30:=by
    have h1:=(selK_sub (bitM u) l i (by omega)).length_le
    rw [List.length_take] at h1;omega
   by_cases hb:bitM u i=true
   case pos =>
    have hb':=of_decide_eq_true hb
    rw [if_pos hb] at hsel
    by_cases a1:l[i].lang=n
    case neg =>
     have hnx:∀ s,(M.find? (fun e=>e.1 == s)).map (·.2)=findN (l.take (i+1)) n s:=fun s=>by
      rw [findN_snoc hlt,← i2 s]
      have:¬ isN n s l[i]=true:=fun h=>a1 (of_decide_eq_true h).1
      rw [if_neg this];simp
     simp [hlt,dNt,shM_eq,hb',a1,hw]
     refine⟨⟨by omega,by omega⟩,i+1,M,⟨by omega,hnx,fun j h hj hln=>by
      by_cases e:j=i
      ·subst e;exact absurd hln a1
      ·exact i3 j h (by omega) hln,by omega⟩,by omega,[(2,5)],[],?_⟩
     rw [hsel]
     simp [dNt,a1]
     exact leL_mE _ _ _ _ _
    case pos =>
     cases hm:M.find? (fun e=>e.1 == l[i].seq) with
     | some e =>
      simp [hlt,dNt,shM_eq,hb',a1,kFind_m,hm,hw]
      omega
     | none =>
      rw [hm] at hi2
      have hnx:∀ s,((M++[(l[i].seq,l[i].ch)]).find? (fun e=>e.1 == s)).map (·.2)=findN (l.take (i+1)) n s:=fun s=>by
       rw [findN_snoc hlt,← i2 s,List.find?_append]
       cases hms:M.find? (fun e=>e.1 == s) with
       | some e=>rfl
       | none =>
        rw [Option.none_or,Option.map_none,Option.none_or,List.find?_singleton]
        unfold isN
        by_cases a2:l[i].seq=s
        ·simp [a1,a2]
        ·simp [a1,a2]
      simp [hlt,dNt,shM_eq,hb',a1,kFind_m,hm,hw]
      refine⟨⟨by omega,by omega⟩,i+1,M++[(l[i].seq,l[i].ch)],⟨by omega,hnx,fun j h hj hln=>by
       by_cases e:j=i
       ·subst e;exact hi2.symm
       ·exact i3 j h (by omega) hln,by simp;omega⟩,by omega,[(2,5)],[],?_⟩
      rw [hsel]
      simp [dNt,a1]
      exact leL_mE2 _ _ _ _ _ l[i].ch
   case neg =>
    have hb':=of_decide_eq_false (Bool.eq_false_iff.2 hb)
    rw [if_neg hb,List.append_nil] at hsel
    by_cases a1:l[i].lang=n
    case neg =>
     have hnx:∀ s,(M.find? (fun e=>e.1 == s)).map (·.2)=findN (l.take (i+1)) n s:=fun s=>by
      rw [findN_snoc hlt,← i2 s]
      have:¬ isN n s l[i]=true:=fun h=>a1 (of_decide_eq_true h).1
      rw [if_neg this];simp
     simp [hlt,dNt,shM_eq,hb',a1,hw]
     refine⟨i+1,M,⟨by omega,hnx,fun j h hj hln=>by
      by_cases e:j=i
      ·subst e;exact absurd hln a1
      ·exact i3 j h (by omega) hln,by omega⟩,by omega,[],[],?_⟩
     rw [hsel]
     simp [dNt,a1]
     exact leL_mE _ _ _ _ _
    case pos =>
     cases hm:M.find? (fun e=>e.1 == l[i].seq) with
     | some e =>
      simp [hlt,dNt,shM_eq,hb',a1,kFind_m,hm,hw]
     | none =>
      rw [hm] at hi2
      have hnx:∀ s,((M++[(l[i].seq,l[i].ch)]).find? (fun e=>e.1 == s)).map (·.2)=findN (l.take (i+1)) n s:=fun s=>by
       rw [findN_snoc hlt,← i2 s,List.find?_append]
       cases hms:M.find? (fun e=>e.1 == s) with
       | some e=>rfl
       | none =>
        rw [Option.none_or,Option.map_none,Option.none_or,List.find?_singleton]
        unfold isN
        by_cases a2:l[i].seq=s
        ·simp [a1,a2]
        ·simp [a1,a2]
      simp [hlt,dNt,shM_eq,hb',a1,kFind_m,hm,hw]
      refine⟨i+1,M++[(l[i].seq,l[i].ch)],⟨by omega,hnx,fun j h hj hln=>by
       by_cases e:j=i
       ·subst e;exact hi2.symm
       ·exact i3 j h (by omega) hln,by simp;omega⟩,by omega,[],[],?_⟩
      rw [hsel]
      simp [dNt,a1]
      exact leL_mE2 _ _ _ _ _ l[i].ch
  ·have e:i=l.length:=by omega
   subst e
   rw [List.take_length] at i2
   have hu:uniN l n:=fun j h hln=>i3 j h h hln
   have hkF:∀ s,kFind (.int .i64 s) (M.map mE)=some ((findN l n s).map fun c=>AV.d (dCh c)):=fun s=>by rw [kFind_m,← i2 s,Option.map_map];rfl
   have hsub:(selK (bitM u) l l.length).Sublist l:=by
    have:=selK_sub (bitM u) l l.length (Nat.le_refl _)
    rwa [List.take_length] at this
   generalize selK (bitM u) l l.length=sm at *
   have hsv:=okPe_sub hv hsub
   have k2:=C586.seen sm n
   have k3:=C586.seen l n
   rw [seenE_0 hsv n0 n1,seenR_0 hsv n0 n1] at k2
   rw [seenE_0 hv n0 n1,seenR_0 hv n0 n1] at k3
   have hsl:=hsub.length_le
   have hpre:=seen_pre (a:=sm) (l:=l) (lang:=n) (fun s c h=>uni_sub hu (fun x hx=>hsub.subset hx) h) (sm.length+1) (l.length+1) [] 0 (by omega)
   have hall:=seen_all (l:=l) (lang:=n) (l.length+1) [] 0 (fun j hj=>absurd hj (Nat.not_lt_zero _))
   generalize seenN sm n (sm.length+1) [] 0=A at *
   generalize seenN l n (l.length+1) [] 0=OUT at *
   obtain⟨x0,few⟩:=A
   obtain⟨_,hpre⟩:=hpre
   simp only at hpre
   have hfew:=(seen_next hpre.symm).1
   have hmany:=seen_keys hall i2
   simp only at k2
   refine vc_path [.ret (.tup [.sl 3 (x0.map dSp),dI few,dI 0])] ?_
   simp
   refine⟨k2,?_⟩
   refine vc_path [.ret (.tup [.sl 3 (OUT.1.map dSp),dI OUT.2,dI 0])] ?_
   simp
   refine⟨k3,?_⟩
   have f1:¬ (few:Int)<0:=by omega
   have f2:¬ (OUT.2:Int)<(few:Int):=by omega
   have f3:¬ (M.length:Int)<(OUT.2:Int):=by omega
   refine vc_path [] ?_
   simp [f1,f2,f3]
   refine⟨by omega,?_⟩
   refine vc_loopK [9,17,18] (Nat×List Sp) (fun y=>[(20,true,.d (dI y.1)),(14,true,.d (.sl 3 (y.2.map dSp)))]) (fun y=>[]) (fun y=>y.1≤OUT.2∧∃ f,seenN l n f y.2 y.1=OUT) (fun y=>OUT.2-y.1) (few,x0) ⟨hfew,_,hpre.symm⟩ ⟨[],[],?_⟩ (fun y hy=>?_)
   ·simp
    exact leL_mE _ _ _ _ _
   obtain⟨k,x⟩:=y
   obtain⟨q1,f,q2⟩:=hy
   simp only at q1 q2
   obtain⟨p1,p2,p3⟩:=seen_next q2
   simp
   refine⟨fun hlt=>?_,fun hge=>?_⟩
   ·obtain⟨c,f',_,hc,hn⟩:=p3 hlt
    have hw:IntKind.i64.wrap ((k:Int)+1)=(k:Int)+1:=wrap64 (by omega)
    have hD:=C586.dod x c
    simp [hlt,hkF,hc]
    refine vc_path [.ret (.tup [.sl 3 ((doDL x c).map dSp),dI (doDE x c)])] ?_
    simp [hw,hkF,hc]
    refine⟨hD,fun hd=>?_,fun hd=>?_⟩
    ·rw [if_pos hd] at hn
     refine⟨k+1,doDL x c,⟨by omega,f',hn⟩,by omega,[],[],?_⟩
     simp
     exact leL_mE _ _ _ _ _
    ·rw [if_neg hd] at hn
     refine⟨k+1,x,⟨by omega,f',hn⟩,by omega,[],[],?_⟩
     simp
     exact leL_mE _ _ _ _ _
   ·have e:OUT.1=x:=p2 hge
    rw [← e]
    have k4:=C586.same OUT.1 OUT.1
    simp at k4
    refine vc_path [.ret (dB true)] ?_
    simp
    exact k4
end

section
noncomputable def fsOf (t:TypeId):Array Field:=match Tryz.prog.underlying t with
 | some (.struct fs)=>fs
 | _=>#[]
noncomputable def fld (t:TypeId) (i:Nat):Field:=(fsOf t).getD i ⟨ "",0,0,false,"","",0⟩
theorem utI:Tryz.prog.underlying 3=some (.int .i64):=by kernel_rfl
theorem utB8:Tryz.prog.underlying 5=some (.int .u8):=by kernel_rfl
theorem utStr:Tryz.prog.underlying 9=some .string:=by kernel_rfl
theorem utSp:Tryz.prog.underlying 30=some (.struct #[fld 30 0,fld 30 1,fld 30 2]):=by kernel_rfl
theorem ztSp:Tryz.prog.cellsOf 30=3:=by kernel_rfl
theorem utCh:Tryz.prog.underlying 32=some (.struct #[fld 32 0,fld 32 1,fld 32 2]):=by kernel_rfl
theorem ztCh:Tryz.prog.cellsOf 32=5:=by kernel_rfl
theorem utNt:Tryz.prog.underlying 34=some (.struct #[fld 34 0,fld 34 1,fld 34 2]):=by kernel_rfl
theorem ztNt:Tryz.prog.cellsOf 34=7:=by kernel_rfl
theorem utPe:Tryz.prog.underlying 48=some (.struct #[fld 48 0]):=by kernel_rfl
theorem ztPe:Tryz.prog.cellsOf 48=1:=by kernel_rfl
theorem utNts:Tryz.prog.underlying 46=some (.slice 34):=by kernel_rfl
theorem ztNts:Tryz.prog.cellsOf 46=1:=by kernel_rfl
theorem ztI8:Tryz.prog.cellsOf 3=1:=by kernel_rfl
theorem ztStr:Tryz.prog.cellsOf 9=1:=by kernel_rfl
theorem one_Nt(n:Nt):∀ c∈(dNt n).cells,c.one=true:=fun c hc=>by
 rw [dNt_cells] at hc;simp at hc
 rcases hc with rfl | rfl | rfl | rfl | rfl | rfl | rfl <;> rfl
theorem one_Pe(l:List Nt):∀ c∈(dPe l).cells,c.one=true:=fun c hc=>by
 rw [dPe_cells] at hc;simp at hc;subst hc;rfl
section
variable {H:Type}{enc:TypeId×Value→H}{w:World}
theorem shows_i64R{P:Program}{t:TypeId}(ht:P.underlying t=some (.int .i64)):Shows enc P w t (fun y:{n:Int // -9223372036854775808≤n∧n<9223372036854775808}=>dI y.1):=by
 intro fuel cs x h
 obtain⟨n,rfl,_,hw⟩:=DataW.trod_int ht h
 have hs:Sc (.int .i64 n):=by simpa [Sc,Lit.wf] using hw
 have hs':-9223372036854775808≤n∧n<9223372036854775808:=by
  simp [Sc,IntKind.min,IntKind.max,IntKind.signed,IntKind.bits] at hs
  omega
 exact⟨⟨n,hs'⟩,repL_one (.lit hs)⟩
theorem shStr:Shows enc Tryz.prog w 9 dZ:=shows_str utStr
theorem shSp:Shows enc Tryz.prog w 30 dSp:=shows_map (shows_structN utSp (by rw [ztSp];kernel_rfl)
 (showsR_cons (t:=3) (off':=1) (by kernel_rfl) (by kernel_rfl) (by rw [ztI8]) (shows_i64R utI) (showsR_cons (t:=3) (off':=2) (by kernel_rfl) (by kernel_rfl) (by rw [ztI8]) (shows_i64R utI) (showsR_cons (t:=9) (off':=3) (by kernel_rfl) (by kernel_rfl) (by rw [ztStr]) shStr showsR_nil))))
 (fun y=>⟨⟨y.1.1,y.2.1.1,y.2.2.1,y.1.2,y.2.1.2⟩,rfl⟩)
theorem shCh:Shows enc Tryz.prog w 32 dCh:=shows_map (shows_structN utCh (by rw [ztCh];kernel_rfl)
 (showsR_cons (t:=3) (off':=1) (by kernel_rfl) (by kernel_rfl) (by rw [ztI8]) (shows_i64R utI) (showsR_cons (t:=3) (off':=2) (by kernel_rfl) (by kernel_rfl) (by rw [ztI8]) (shows_i64R utI) (showsR_cons (t:=30) (off':=5) (by kernel_rfl) (by kernel_rfl) (by rw [ztSp]) shSp showsR_nil))))
 (fun y=>⟨⟨y.1.1,y.2.1.1,y.2.2.1,y.1.2,y.2.1.2⟩,rfl⟩)
theorem shNt:Shows enc Tryz.prog w 34 dNt:=shows_map (shows_structN utNt (by rw [ztNt];kernel_rfl)
 (showsR_cons (t:=3) (off':=1) (by kernel_rfl) (by kernel_rfl) (by rw [ztI8]) (shows_i64R utI) (showsR_cons (t:=3) (off':=2) (by kernel_rfl) (by kernel_rfl) (by rw [ztI8]) (shows_i64R utI) (showsR_cons (t:=32) (off':=7) (by kernel_rfl) (by kernel_rfl) (by rw [ztCh]) shCh showsR_nil))))
 (fun y=>⟨⟨y.1.1,y.2.1.1,y.2.2.1,y.1.2,y.2.1.2⟩,rfl⟩)
theorem shNts:Shows enc Tryz.prog w 46 (fun l:List Nt=>.sl 7 (l.map dNt)):=shows_slice utNts ztNt dNt_len one_Nt shNt
theorem shPe:Shows enc Tryz.prog w 48 dPe:=shows_map (shows_structN utPe (by rw [ztPe];kernel_rfl)
 (showsR_cons (t:=46) (off':=1) (by kernel_rfl) (by kernel_rfl) (by rw [ztNts]) shNts showsR_nil))
 (fun y=>⟨y.1,rfl⟩)
end
theorem sPe:Sees Tryz.prog 48 (fun x=>∃ n:List Nt,x=dPe n):=sees_agg (by rw [utPe]) shPe (fun _=>rfl) one_Pe
end

section
open Go Go.Proofs.YthimbimilnfdnaaGreatDoor.AL Go.ChangeShapes Go.WideShapes Go.ChangeAt Go.RowKit Go.Lib Go.Shelf
theorem own:ownKnob Tryz.prog.godebug=none:=by kernel_rfl
theorem laidOut:laidOutB Tryz.prog=true:=by kernel_rfl
theorem ip_of{w:World}{cs:List D}{g:Nat}(h:∀ (k:Nat) (c:D),cs[k]?=some c→∃ v,w.cell? ⟨g,k,none⟩=some v∧c=.lit v∧Sc v):Rep (allI w) w (.ip (.agg cs)) (.pointer (some ⟨g,0,none⟩)):=by
 have ha:∀ k,(⟨g,0,none⟩:Addr).add k=⟨g,k,none⟩:=fun k=>by
  cases k <;> simp [Addr.add]
 refine .ip ⟨g,0,none⟩ (fun k=>(w.cell? ⟨g,k,none⟩).getD (.bool false)) ?_ ?_ ?_
 ·intro c hc
  obtain⟨k,hk⟩:=List.mem_iff_getElem?.1 hc
  obtain⟨v,_,rfl,_⟩:=h k c hk
  rfl
 ·intro k c hk
  obtain⟨v,hv,_,_⟩:=h k c hk
  rw [ha]
  exact⟨by simp [allI,hv],by simp [hv]⟩
 ·intro k c hk
  obtain⟨v,hv,rfl,hs⟩:=h k c hk
  simp only [hv,Option.getD_some]
  exact .lit hs
theorem sc_first(c:Nat):Sc (.int .u8 (firstT c)):=by
 have h:=firstT_cases c
 simp only [Sc,IntKind.min,IntKind.max]
 rcases h with h | h | h | h | h | h | h | h | h <;> rw [h] <;> decide
theorem sc_lo(i:Nat):Sc (.int .u8 (accLo i)):=by
 have h:accLo i≤255:=by
  unfold accLo
  repeat' split
  all_goals omega
 exact⟨by simp [IntKind.min,IntKind.signed],by simp [IntKind.max,IntKind.signed,IntKind.bits];omega⟩
theorem sc_hi(i:Nat):Sc (.int .u8 (accHi i)):=by
 have h:accHi i≤255:=by
  unfold accHi
  repeat' split
  all_goals omega
 exact⟨by simp [IntKind.min,IntKind.signed],by simp [IntKind.max,IntKind.signed,IntKind.bits];omega⟩
theorem pairs_get(lo hi:Nat→D):∀ (n b k:Nat) (c:D),((List.range' b n).flatMap fun i=>[lo i,hi i])[k]?=some c →
  ∃ i,b≤i∧i<b+n∧((k=2*(i-b)∧c=lo i)∨(k=2*(i-b)+1∧c=hi i))
 | 0,b,k,c,h=>by simp at h
 | n+1,b,0,c,h=>by
  simp [List.range'_succ] at h
  exact⟨b,by omega,by omega,.inl ⟨by omega,h.symm⟩⟩
 | n+1,b,1,c,h=>by
  simp [List.range'_succ] at h
  exact⟨b,by omega,by omega,.inr ⟨by omega,h.symm⟩⟩
 | n+1,b,k+2,c,h=>by
  simp only [List.range'_succ,List.flatMap_cons,List.cons_append,List.nil_append,List.getElem?_cons_succ] at h
  obtain⟨i,h1,h2,h3⟩:=pairs_get lo hi n (b+1) k c h
  refine⟨i,by omega,by omega,?_⟩
  rcases h3 with ⟨h3,h4⟩ | ⟨h3,h4⟩
  ·exact .inl ⟨by omega,h4⟩
  ·exact .inr ⟨by omega,h4⟩
abbrev laidL:List (String×DataW Unit):=[("unicode/utf8.acceptRanges",Rows.laid_unicode_utf8_acceptRanges),("unicode/utf8.first",Rows.laid_unicode_utf8_first)]
set_option maxRecDepth 1000000 in
theorem tabs_rd{W:World}(h:laidMet Tryz.prog laidL W):Lib.Utf8Tabs 1 2 W :=
 utf8Tabs_of_reads (ρ:=Tryz.lays197_ren) {Tryz.lays197 with} ⟨by kernel_rfl,by kernel_rfl,by kernel_rfl,by kernel_rfl,by kernel_rfl,by kernel_rfl,by kernel_rfl⟩ (Lib.laidMet.reads h (.tail _ (.head _))) (Lib.laidMet.reads h (.head _))
theorem glOk_of{W:World}(h0:laidMet Tryz.prog laidL W):GlOk (allI W) W:=by
 have h:=tabs_rd h0
 intro p hp
 simp only [glbTab,List.mem_cons,List.not_mem_nil,or_false] at hp
 rcases hp with rfl | rfl
 ·refine ip_of fun k c hk=>?_
  rw [List.getElem?_map] at hk
  obtain⟨j,hj,rfl⟩:=Option.map_eq_some_iff.1 hk
  obtain⟨hl,he⟩:=List.getElem?_eq_some_iff.1 hj
  simp at hl he
  subst he
  exact⟨_,h.1 _ hl,rfl,sc_first _⟩
 ·refine ip_of fun k c hk=>?_
  rw [List.range_eq_range'] at hk
  obtain⟨i,_,h2,h3⟩:=pairs_get _ _ 16 0 k c hk
  have hi:=h.2 i (by omega)
  rcases h3 with ⟨rfl,rfl⟩ | ⟨rfl,rfl⟩
  ·exact⟨_,hi.1,rfl,sc_lo _⟩
  ·exact⟨_,hi.2,rfl,sc_hi _⟩
noncomputable def laidWorld (os:Os):World :=
 let w0:=World.holding Tryz.prog os ⟨#[],#[],[]⟩
 let put (h:Array Obj) (g:Nat) (cs:Array Value):Array Obj:=h.modify g fun
  | .cells _ t frozen=>.cells cs t frozen
  | o=>o
 let h1:=put w0.heap 1 (Lib.firstTab.map fun z=>Value.int .u8 z).toArray
 let h2:=put h1 2 ((List.range 16).flatMap fun i=>[Value.int .u8 (Lib.accLo i),Value.int .u8 (Lib.accHi i)]).toArray
 {w0 with heap:=h2}
theorem sU8i:Sees Tryz.prog 5 (fun x=>∃ n:Int,(IntKind.u8.min≤n∧n≤IntKind.u8.max)∧x=.lit (.int .u8 n)):=sees_int utB8
end

end Go.Proofs.YthimbimilnfdnaaGreatDoor
