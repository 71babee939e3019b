/- Part of the proof: S369, S370, S371, S372, S373, S374, S375, S376, S377, S378, S379, S386, S385, S380, S381, S382, S383, S384, S387, S388, S389, S390, S391, S392, S393, S394, S395, S396, S397, S398, S399, S400, S401, S330, S402. -/
import Derived.Ground.SlbNamesProg
import Derived.Shelf.Bytes.SlJoin
import Derived.Test.YtfegfnekphobmaaGreatDoorI
set_option linter.unnecessarySimpa false
set_option linter.unusedVariables false
set_option linter.unusedSimpArgs false
namespace Go.Proofs.YtfegfnekphobmaaGreatDoor
open Go Go.Proofs.YtfegfnekphobmaaGreatDoor.AL
section
attribute [local simp] dZ_agg dZ_nt dZ_noTup dZ_cells dZ_one bz_toList bz_size strV dV_cells dV_isAgg dV_noTup dV_nt dBy_cells dBy_one dBy_agg dBy_noTup dBy_nt
attribute [local simp] dLn_cells dLn_isAgg dLn_noTup dLn_nt dPg_isAgg dPg_noTup dPg_nt dPg_len
set_option maxRecDepth 8000
set_option maxHeartbeats 4000000
theorem rBytes(d:List UInt8) (hd:d.length=32):PCall Tryz.prog 43 [dDg d] (.ret (dBy d)):=by
 refine pcall_of_vc noC c43 (by simp [a43]) fun hr=>?_
 simp [a43,dDg,dBy]
 refine vc_loopK [1] Nat (fun i=>[(4,true,.d (dI i)),(3,true,.own 1 1 ((d.map dU).take i))]) (fun i=>[(1,.row)]) (fun i=>i≤32) (fun i=>32-i) 0 (by simp) ⟨[],[],?_⟩ (fun i hi=>?_)
 ·simp [leL_mdU,dU_oneT]
 have hw1:IntKind.i64.wrap ((i:Int)+1)=(i:Int)+1:=wrap64 (by omega)
 rcases Nat.lt_or_ge i 32 with hlt | hge
 ·have hlt':(i:Int)<32:=by omega
  have hid:i<d.length:=by omega
  have hts:(d.map dU).take (i+1)=(d.map dU).take i++[dU d[i]]:=by
   rw [List.take_add_one];simp [hid]
  have hg:d[i]?=some d[i]:=List.getElem?_eq_getElem hid
  simp [hlt',hlt,hw1,hg,hd]
  refine⟨by omega,⟨rfl,fun ds=>by simp [dU]⟩,⟨by omega,by omega⟩,i+1,by omega,by omega,[(1,3)],[],?_⟩
  simp only [hts]
  simp [leL_mdU,dU_oneT]
 ·have hge':¬ (i:Int)<32:=by omega
  have hta:(d.map dU).take i=d.map dU:=List.take_of_length_le (by simp;omega)
  simp [hge',hta]
theorem rNumber(n:Int):PCall Tryz.prog 113 [dI n] (.ret (dV (nV n))):=by
 refine pcall_of_vc noC c113 (by simp [a113]) fun hr=>?_
 simp [a113,nV,dV_eq,dZ]
 exact leD_tail rfl rfl rfl
inductive CRvl:FuncId→List D→Out→Prop
 | num (n:Int):CRvl 113 [dI n] (.ret (dV (nV n)))
theorem hRvl:∀ f ds out,CRvl f ds out→PCall Tryz.prog f ds out:=by
 intro f ds out h
 cases h with
 | num n=>exact rNumber n
theorem rValue(x:Ln) (h:okLn x=true):PCall Tryz.prog 88 [dLn x] (.ret (dV (lineV x))):=by
 refine pcall_of_vc hRvl c88 (by simp [a88]) fun hr=>?_
 have hwl:=(okLn_iff.1 h).2.2.2.2.1
 have k1:=CRvl.num x.sp
 have k2:=CRvl.num x.fr
 simp [a88]
 refine vc_loopK [1,2,3] Nat (fun i=>[(4,true,.d (dI i))]) (fun i=>[(2,.box true [.d (dI 3),.d (dI 0),.d (dZ []),.own 3 4 ((x.ws.map rawT).take i)]),(3,.row)]) (fun i=>i≤x.ws.length) (fun i=>x.ws.length-i) 0 (by simp) ⟨[],[(3,4)],?_⟩ (fun i hi=>?_)
 ·simp [dZ]
  exact LeD.refl _
 have hw1:IntKind.i64.wrap ((i:Int)+1)=(i:Int)+1:=wrap64 (by omega)
 rcases Nat.lt_or_ge i x.ws.length with hlt | hge
 ·have hlt':(i:Int)<x.ws.length:=by omega
  have hts:(x.ws.map rawT).take (i+1)=(x.ws.map rawT).take i++[rawT x.ws[i]]:=by
   rw [List.take_add_one];simp [hlt]
  simp [hlt,hlt',hw1,dZ_eq]
  refine⟨⟨by omega,by omega⟩,rfl,i+1,by omega,by omega,[(3,5)],[],?_⟩
  simp only [rawT_eq',hts]
  simp
 ·have hge':¬ (i:Int)<x.ws.length:=by omega
  have hta:(x.ws.map rawT).take i=x.ws.map rawT:=List.take_of_length_le (by simp;omega)
  simp [hge,hge',hta]
  refine vc_pathD [.ret (dV (nV x.sp)),.ret (dV (nV x.fr))] ?_
  simp
  refine⟨k1,k2,rfl,?_⟩
  rw [show dV (lineV x)=.agg [dI 3,dI 0,dZ [],.sl 4 ([nV x.sp,nV x.fr,lV (x.ws.map tV)].map dV)] from dV_eq _ _ _ _]
  have hle:=leSl4 (es:=[dV (nV x.sp),dV (nV x.fr),rawL (x.ws.map rawT)]) (vs:=[nV x.sp,nV x.fr,lV (x.ws.map tV)]) (.cons (LeV.refl _) (.cons (LeV.refl _) (.cons (rawL_le (all2_map2 rawT_le _)) .nil)))
  simp
  exact⟨LeD.refl _,hle⟩
inductive CRtx:FuncId→List D→Out→Prop
 | val (x:Ln) (h:okLn x=true):CRtx 88 [dLn x] (.ret (dV (lineV x)))
 | bytes (d:List UInt8) (hd:d.length=32):CRtx 43 [dDg d] (.ret (dBy d))
 | enc (p:Pg) (hg:p.gone=false) (h:okPg p=true) (d:D) (hd:LeV d (pageV p)) (ha:d.isAgg=true):CRtx 89 [d] (.ret (.tup [dBy (encV (pageV p)),dI 0]))
theorem rEncPage(p:Pg) (hg:p.gone=false) (h:okPg p=true):PCall Tryz.prog 89 [dV (pageV p)] (.ret (.tup [dBy (encV (pageV p)),dI 0])):=by
 have hb:=pageV_len hg h
 have:=rEncode (pageV p) (by have:=dpV_pageV p;omega) (by omega)
 rw [encR_pageV] at this
 exact this
theorem hRtx:∀ f ds out,CRtx f ds out→PCall Tryz.prog f ds out:=by
 intro f ds out h
 cases h with
 | val x h=>exact rValue x h
 | bytes d hd=>exact rBytes d hd
 | enc p hg h d hd ha=>exact(rEncPage p hg h).le (.cons (hd.agg ha) .nil)
theorem rText(p:Pg) (hg:p.gone=false) (h:okPg p=true):PCall Tryz.prog 66 [dPg p] (.ret (dBy (encV (pageV p)))):=by
 refine pcall_of_vc hRtx c66 (by simp [a66]) fun hr=>?_
 have q1:=p.h1
 have q2:=p.h2
 obtain⟨o1,o2,o3⟩:=(okPg_iff hg).1 h
 have kb:=CRtx.bytes p.salt p.h1
 simp [a66,dPg_cells,-List.reduceReplicate]
 refine vc_loopK [1,3] Nat (fun i=>[(4,true,.d (dI i))]) (fun i=>[(1,.box true [.d (dI 3),.d (dI 0),.d (dZ []),.own 2 4 ((p.ls.map fun x=>dV (lineV x)).take i)]),(2,.row)]) (fun i=>i≤p.ls.length) (fun i=>p.ls.length-i) 0 (by simp) ⟨[],[(2,4)],?_⟩ (fun i hi=>?_)
 ·simp [dZ,pg_leL,pg_ones]
  exact LeD.refl _
 have hw1:IntKind.i64.wrap ((i:Int)+1)=(i:Int)+1:=wrap64 (by omega)
 rcases Nat.lt_or_ge i p.ls.length with hlt | hge
 ·have hlt':(i:Int)<p.ls.length:=by omega
  have kc:=CRtx.val p.ls[i] (o2 _ (List.getElem_mem hlt))
  have hts:(p.ls.map fun x=>dV (lineV x)).take (i+1)=(p.ls.map fun x=>dV (lineV x)).take i++[dV (lineV p.ls[i])]:=by
   rw [List.take_add_one];simp [hlt]
  simp [hlt,hlt']
  refine vc_pathD [.ret (dV (lineV p.ls[i]))] ?_
  simp [hlt,hlt',hw1]
  refine⟨kc,⟨by omega,by omega⟩,rfl,i+1,by omega,by omega,[(2,4)],[],?_⟩
  simp only [hts]
  simp [pg_leL,pg_ones]
 ·have hge':¬ (i:Int)<p.ls.length:=by omega
  have hta:(p.ls.map fun x=>dV (lineV x)).take i=p.ls.map fun x=>dV (lineV x):=List.take_of_length_le (by simp;omega)
  have pt:=pg_take p
  rw [hg] at pt
  have ke:=CRtx.enc p hg h (rawL [rawL (p.ls.map fun x=>dV (lineV x)),rawT p.salt]) (rawL_le (.cons (rawL_le (all2_map2 (fun x=>LeV.refl _) _)) (.cons (rawT_le _) .nil))) rfl
  generalize encV (pageV p)=B at *
  simp [hge,hge',hta,-List.reduceReplicate]
  refine vc_path [.ret (dBy p.salt)] ?_
  simp [pt,allD_dU,q1,q2,bytesOf_map,dBy,-List.reduceReplicate]
  refine⟨kb,fun _ _=>rfl,vc_path [.ret (.tup [dBy B,dI 0])] ?_⟩
  simp [-List.reduceReplicate]
  exact⟨ke,LeD.refl _⟩
inductive CRlf:FuncId→List D→Out→Prop
 | text (p:Pg) (hg:p.gone=false) (h:okPg p=true):CRlf 66 [dPg p] (.ret (dBy (encV (pageV p))))
 | tag (t b:List UInt8) (ht:t.length≤1000) (hb:b.length≤10000000000):CRlf 55 [dZ t,dBy b] (.ret (.agg ((tagL t b).map dU)))
theorem hRlf:∀ f ds out,CRlf f ds out→PCall Tryz.prog f ds out:=by
 intro f ds out h
 cases h with
 | text p hg h=>exact rText p hg h
 | tag t b ht hb=>exact rtagged t b ht hb
theorem rLeaf(p:Pg) (h:okPg p=true):PCall Tryz.prog 38 [dPg p] (.ret (dDg (leafP p))):=by
 refine pcall_of_vc hRlf c38 (by simp [a38]) fun hr=>?_
 have q1:=p.h1
 have q2:=p.h2
 simp [a38,dPg_cells,pg_gone,q1,q2,-List.reduceReplicate]
 cases hg:p.gone with
 | true =>
  have pt:=pg_leftG q1 p.left true
  have pl:(p.left.map (AV.d∘dU)).take 32=p.left.map (AV.d∘dU):=List.take_of_length_le (by simp [q2])
  have e:leafP p=p.left:=by unfold leafP;rw [if_pos hg]
  rw [e]
  simp [pt,pl,allD_dU,q2,setAt_all,-List.reduceReplicate]
  exact LeD.refl _
 | false =>
  have e:leafP p=tagL tPage (encV (pageV p)):=by unfold leafP;rw [if_neg (by simp [hg])]
  have hl32:=leafP_len p
  rw [e] at hl32 ⊢
  have k1:=CRlf.text p hg h
  have hb:=pageV_len hg h
  have k2:=CRlf.tag tPage (encV (pageV p)) (by simp [tPage]) (by omega)
  generalize tagL tPage (encV (pageV p))=T at *
  generalize encV (pageV p)=B at *
  have pa:=pg_allDG p.salt p.left false
  have p65:=pg_take65 p
  rw [hg] at p65
  simp [-List.reduceReplicate]
  refine vc_path [.ret (dBy B),.ret (.agg (T.map dU))] ?_
  simp [q1,q2,pa,p65,setAt_all,hl32,-List.reduceReplicate]
  refine⟨by have:=k1;unfold dPg at this;rw [hg] at this;exact this,k2,?_⟩
  rw [List.take_of_length_le (by simp [hl32]),allD_dU]
  simp
  exact LeD.refl _
end

section
open Go Go.Proofs.YtfegfnekphobmaaGreatDoor.AL Go.Proofs Go.Shelf Go.Lib Go.RowKit
def Tryz.laysJ14_ren : Go.Shelf.Ren := ⟨fun | 14 => 116 | 15 => 137 | n => n, fun | 26 => 60 | 22 => 47 | 3 => 3 | 4 => 4 | 0 => 0 | 9 => 9 | 20 => 20 | 5 => 5 | n => n, fun | n => n⟩
theorem Tryz.laysJ14 : Go.Proofs.SlLaysJ.n14 Tryz.prog Tryz.laysJ14_ren := {
  mixed := by kernel_rfl
  f14 := Tryz.func116.trans (congrArg some (by kernel_rfl))
  f15 := Tryz.func137.trans (congrArg some (by kernel_rfl))
  t0 := Tryz.underlying0
  a0 := Tryz.isAgg0
  z0 := Tryz.sizeOf0
  v0 := Tryz.zeroValue0
  t3 := Tryz.underlying3
  a3 := Tryz.isAgg3
  z3 := Tryz.sizeOf3
  v3 := Tryz.zeroValue3
  t4 := Tryz.underlying4
  a4 := Tryz.isAgg4
  z4 := Tryz.sizeOf4
  v4 := Tryz.zeroValue4
  t9 := Tryz.underlying9
  a9 := Tryz.isAgg9
  z9 := Tryz.sizeOf9
  v9 := Tryz.zeroValue9
  t20 := Tryz.underlying20
  a20 := Tryz.isAgg20
  z20 := Tryz.sizeOf20
  v20 := Tryz.zeroValue20
  t22 := Tryz.underlying47
  a22 := Tryz.isAgg47
  z22 := Tryz.sizeOf47
  v22 := Tryz.zeroValue47
  t26 := Tryz.underlying60
  a26 := Tryz.isAgg60
  z26 := Tryz.sizeOf60
  v26 := Tryz.zeroValue60
  t5 := Tryz.underlying5
  z5 := Tryz.sizeOf5
  i5 := by kernel_rfl }
theorem holds_of_rep{I:Addr→Prop}{w:World}{l:List UInt8}{v:Value}(hr:Rep I w (dBy l) v):HoldsBytes w v l:=by
 have hfl:D.flat (l.map dU)=l.map dU:=flat_onesD _ (fun d hd=>by obtain⟨x,_,rfl⟩:=List.mem_map.1 hd;rfl)
 obtain⟨n,A,cap,ad,vs,rfl,hn,hc,hm,hA,hz,h1,hcell,hrep⟩:=Rep.sl_inv hr
 rw [hfl] at hcell hrep
 simp only [List.length_map] at hn
 subst hn
 refine⟨A,cap,rfl,fun h=>?_,fun a ha i x hx=>?_⟩
 ·rcases hA with h' | h'
  ·rw [h] at h';cases h'
  ·simpa using h'
 ·have hne:l≠[]:=by rintro rfl;simp at hx
  have ead:a=ad:=by
   rcases hA with h' | h'
   ·rw [ha] at h';injection h'
   ·exact absurd (by simpa using h') hne
  subst ead
  have hg:(l.map dU)[i]?=some (dU x):=by simp [hx]
  rw [(hcell i _ hg).2]
  have h3:=hrep i _ hg
  generalize vs i=u at h3
  cases h3
  rfl
theorem spot_none{w:World}{a:Addr}(h:(w.cell? a).isSome=true):a=⟨a.block,a.off,none⟩:=by
 obtain⟨b,o,s⟩:=a
 unfold World.cell? at h
 split at h
 ·cases s with
  | none=>rfl
  | some k=>simp at h
 ·simp at h
theorem bytesOf_zs{zs:List Int}{l:List UInt8}{n:Nat}(hn:n=l.length) (hz:∀ x∈zs,0≤x∧x<256) (h:Lib.bytesOf (zs.take n)=l) (k:Nat) (hk:k<l.length) (hkz:k<zs.length):zs[k]=(l[k].toNat:Int):=by
 have e:=congrArg (fun l=>l[k]?) h
 simp only [Lib.bytesOf,List.getElem?_map,List.getElem?_take] at e
 rw [if_pos (by omega),List.getElem?_eq_getElem hkz,List.getElem?_eq_getElem hk] at e
 simp at e
 have hb:=hz zs[k] (List.getElem_mem hkz)
 rw [← e,UInt8.toNat_ofNat',Nat.mod_eq_of_lt (by omega)]
 omega
theorem rep_fresh{I:Addr→Prop}{w w':World}{l:List UInt8}{v:Value}(hI:∀ a,I a→(w.cell? a).isSome=true) (hf:FreshBytes w.heap.size w' v l) (hb:Below w.heap.size w w') :
  ∃ I',(∀ a,I a→I' a)∧(∀ a,I' a→I a∨w.heap.size≤a.block)∧(∀ a,I' a→(w'.cell? a).isSome=true)∧Rep I' w' (dBy l) v:=by
 obtain⟨g,cap,zs,rfl,h1,h2,h3,h4,h5,h6,h7,h8⟩:=hf
 have hfl:D.flat (l.map dU)=l.map dU:=flat_onesD _ (fun d hd=>by obtain⟨x,_,rfl⟩:=List.mem_map.1 hd;rfl)
 have hgrow:Grow w w':=⟨hb.os,hb.tape,hb.output,hb.size,hb.block⟩
 have hzk:∀ k (hk:k<l.length),zs.getD k 0=(l[k].toNat:Int):=fun k hk=>by
  have:=bytesOf_zs rfl h5 h6 k hk (by omega)
  simp [List.getD,show k<zs.length by omega,this]
 refine⟨fun a=>I a∨(a.block=g∧a.spot=none∧a.off<l.length),fun _ h=>.inl h,fun a h=>?_,fun a h=>?_,?_⟩
 ·rcases h with h | h
  ·exact .inl h
  ·exact .inr (by omega)
 ·rcases h with h | ⟨q1,q2,q3⟩
  ·obtain⟨x,hx⟩:=Option.isSome_iff_exists.1 (hI a h)
   rw [hgrow.cell (World.block_lt_of_cell? w a hx)];exact hI a h
  ·have ea:a=⟨g,a.off,none⟩:=by cases a;simp_all
   rw [ea,h7 _ (by omega)];rfl
 ·refine .sl ⟨g,0,none⟩ (fun k=>.int .u8 (zs.getD k 0)) (by simp) h2 (by unfold maxLen at h3;exact h3) (.inl rfl) (fun e he=>by obtain⟨x,_,rfl⟩:=List.mem_map.1 he;rfl) (fun c hc=>by rw [hfl] at hc;obtain⟨x,_,rfl⟩:=List.mem_map.1 hc;rfl) (fun k c hk=>?_) (fun k c hk=>?_)
  ·rw [hfl] at hk
   have hkl:k<l.length:=by have:=(List.getElem?_eq_some_iff.1 hk).1;simpa using this
   rw [add_mk,Nat.zero_add]
   exact⟨.inr ⟨rfl,rfl,hkl⟩,h7 k (by omega)⟩
  ·rw [hfl] at hk
   have hkl:k<l.length:=by have:=(List.getElem?_eq_some_iff.1 hk).1;simpa using this
   simp [hkl] at hk
   subst hk
   show Rep _ w' _ (.int .u8 (zs.getD k 0))
   rw [hzk k hkl]
   exact .lit (by have:=l[k].toNat_lt;simp [Sc,IntKind.min,IntKind.max,IntKind.bits,IntKind.signed];omega)
theorem flat_dBy(ls:List (List UInt8)):D.flat (ls.map dBy)=ls.map dBy:=flat_onesD _ (fun d hd=>by obtain⟨x,_,rfl⟩:=List.mem_map.1 hd;rfl)
theorem join_flat(ls:List (List UInt8)):Lib.join ls []=ls.flatten:=by
 cases ls with
 | nil=>rfl
 | cons x r =>
  rw [Lib.join_cons]
  simp [Lib.joinTail]
theorem joinB(ls:List (List UInt8)) (hl:ls.length≤100000) (hb:ls.flatten.length≤100000000000):PCall Tryz.prog 116 [.sl 1 (ls.map dBy),.nil 1] (.ret (dBy ls.flatten)):=by
 refine⟨(hcall_of_vc c116).1,fun I w vals hI hgl hr=>?_⟩
 obtain⟨v1,v2,rfl⟩:∃ v1 v2,vals=#[v1,v2]:=by
  have:=hr.1
  match vals,this with
  | ⟨[v1,v2]⟩,_=>exact⟨v1,v2,rfl⟩
 have hv1:=hr.2 0 _ v1 rfl rfl
 have hv2:=hr.2 1 _ v2 rfl rfl
 have e2:v2=.slice none 0 0:=by cases hv2;rfl
 subst e2
 have hS:HoldsBytes w (.slice none 0 0) []:=⟨none,0,rfl,fun _=>rfl,fun a ha=>by cases ha⟩
 obtain⟨n,A,cap,ad,vs,rfl,hn,hc,hm,hA,hz,h1,hcell,hrep⟩:=hv1.sl_inv
 rw [flat_dBy] at hcell hrep
 simp only [List.length_map] at hn
 subst hn
 match ls,hl,hb,hc,hA,hcell,hrep with
 | [],_,_,hc,hA,hcell,hrep =>
  refine(Any.bytes_Join_none Tryz.laysJ14 A cap (.slice none 0 0) w).mono fun e w' h=>?_
  obtain⟨rfl,rfl⟩:=h
  have g:=Grow.alloc w (.cells #[] (Tryz.laysJ14_ren.t 5))
  refine⟨I,_,fun _ h=>h,fun _ h=>.inl h,fun a ha=>?_,g,rfl,?_⟩
  ·obtain⟨x,hx⟩:=Option.isSome_iff_exists.1 (hI a ha)
   rw [g.cell (World.block_lt_of_cell? w a hx)];exact hI a ha
  ·exact .sl ⟨w.heap.size,0,none⟩ (fun _=>undef) rfl (Nat.le_refl _) (by omega) (.inr rfl) (by simp) (by simp [D.flat]) (by simp [D.flat]) (by simp [D.flat])
 | [l0],_,hb,hc,hA,hcell,hrep =>
  obtain⟨q1,q2⟩:=hcell 0 (dBy l0) rfl
  have hr0:=hrep 0 (dBy l0) rfl
  have ea:A=some ad:=by
   rcases hA with h | h
   ·exact h
   ·simp at h
  subst ea
  rw [show ad.add 0=ad from rfl] at q1 q2
  have esp:=spot_none (by rw [q2];rfl:(w.cell? ad).isSome=true)
  obtain⟨p0,c0,hv,hp0,hcc⟩:=holds_of_rep hr0
  rw [hv] at q2
  generalize hbk:ad.block=bk at esp
  generalize hof:ad.off=of at esp
  subst esp
  by_cases h0:l0.length=0
  ·have hl0:l0=[]:=List.eq_nil_of_length_eq_zero h0
   subst hl0
   refine(Any.bytes_Join_one_empty Tryz.laysJ14 bk of cap p0 c0 (.slice none 0 0) w q2).mono fun e w' h=>?_
   obtain⟨rfl,rfl⟩:=h
   exact⟨I,_,fun _ h=>h,fun _ h=>.inl h,hI,Grow.refl _,rfl,LeD.nil 1 _ _ _ .nil⟩
  ·obtain⟨ad0,rfl⟩:∃ ad0,p0=some ad0:=by
    cases p0 with
    | none=>exact absurd (by rw [hp0 rfl];rfl) h0
    | some a=>exact⟨a,rfl⟩
   refine(Any.bytes_Join_one Tryz.laysJ14 bk of cap ad0 c0 l0 (.slice none 0 0) w q2 (hcc ad0 rfl) (by omega) (by simp at hb;omega)).mono fun e w' h=>?_
   obtain⟨v',rfl,hf,hbl⟩:=h
   obtain⟨I',i1,i2,i3,i4⟩:=rep_fresh hI hf hbl
   exact⟨I',_,i1,i2,i3,⟨hbl.os,hbl.tape,hbl.output,hbl.size,hbl.block⟩,rfl,by simpa using i4⟩
 | l0::l1::r,hl,hb,hc,hA,hcell,hrep =>
  obtain⟨q1,q2⟩:=hcell 0 (dBy l0) rfl
  have ea:A=some ad:=by
   rcases hA with h | h
   ·exact h
   ·simp at h
  subst ea
  rw [show ad.add 0=ad from rfl] at q1 q2
  have esp:=spot_none (by have:=hI ad q1;exact this:(w.cell? ad).isSome=true)
  generalize hbk:ad.block=bk at esp
  generalize hof:ad.off=of at esp
  subst esp
  generalize hls:l0::l1::r=ls at *
  have hln:2≤ls.length:=by rw [← hls];simp
  have hP:PartsAt w ⟨bk,of,none⟩ ((List.range ls.length).map vs) ls:=by
   refine⟨by simp,fun i v hv=>?_,fun i v l hv hl=>?_⟩
   ·obtain⟨hi,hv⟩:=List.getElem?_eq_some_iff.1 hv
    simp at hi hv
    have:=(hcell i (dBy ls[i]) (by simp [hi])).2
    rw [this,hv]
   ·obtain⟨hi,hv⟩:=List.getElem?_eq_some_iff.1 hv
    simp at hi hv
    have hr:=hrep i (dBy l) (by simp [hl])
    rw [hv] at hr
    exact holds_of_rep hr
  refine(Any.bytes_Join_many Tryz.laysJ14 bk of ls.length cap ((List.range ls.length).map vs) ls (.slice none 0 0) [] w rfl hln hP hc hS (by omega) (by rw [List.length_nil,Nat.zero_mul,Nat.add_zero,show lens ls=ls.flatten.length from(List.length_flatten ..).symm];omega)).mono fun e w' h=>?_
  obtain⟨v',rfl,hf,hbl⟩:=h
  rw [join_flat ls] at hf
  obtain⟨I',i1,i2,i3,i4⟩:=rep_fresh hI hf hbl
  exact⟨I',_,i1,i2,i3,⟨hbl.os,hbl.tape,hbl.output,hbl.size,hbl.block⟩,rfl,i4⟩
end

section
attribute [local simp] dZ_agg dZ_nt dZ_noTup dZ_cells dZ_one bz_toList bz_size strV dV_cells dV_isAgg dV_noTup dV_nt dBy_cells dBy_one dBy_agg dBy_noTup dBy_nt
attribute [local simp] dG_isAgg dG_noTup dG_nt dG_len
set_option maxRecDepth 8000
set_option maxHeartbeats 4000000
inductive CMt:FuncId→List D→Out→Prop
 | sum (b:List UInt8) (hb:b.length<1152921504606846976):CMt 71 [dBy b] (.ret (.agg ((shaL b).map dU)))
 | join (ls:List (List UInt8)) (hl:ls.length≤100000) (hb:ls.flatten.length≤100000000000):CMt 116 [.sl 1 (ls.map dBy),.nil 1] (.ret (dBy ls.flatten))
theorem hMt:∀ f ds out,CMt f ds out→PCall Tryz.prog f ds out:=by
 intro f ds out h
 cases h with
 | sum b hb=>exact sum b hb
 | join ls hl hb=>exact joinB ls hl hb
def mtext (t:List UInt8) (ls:List (List UInt8)):List UInt8:=shaL t++ls.flatten
theorem merkleText(t:List UInt8) (ls:List (List UInt8)) (ht:t.length≤1000) (hl:ls.length≤100000) (hb:ls.flatten.length≤10000000000):PCall Tryz.prog 91 [dZ t,.sl 1 (ls.map dBy)] (.ret (dBy (mtext t ls))):=by
 refine pcall_of_vc hMt c91 (by simp [a91]) fun hr=>?_
 have h1:=CMt.sum t (by omega)
 have hl1:=shaL_len t
 have h2:=CMt.join ls hl (by omega)
 unfold mtext
 generalize ls.flatten=F at *
 simp [a91,dZ_eq,-List.reduceReplicate]
 refine vc_path [.ret (.agg ((shaL t).map dU))] ?_
 simp [strD_bz,-List.reduceReplicate]
 refine⟨h1,hl1,vc_pathD [.ret (dBy F)] ?_⟩
 generalize shaL t=A at *
 rw [show D.sl 1 (ls.map dBy)=D.sl 1 (ls.map dBy) from rfl] at h2
 simp [setAt_all,hl1,allD_dU,dBy,elsD_dU A 32 hl1,-List.reduceReplicate]
 exact⟨h2,⟨by omega,by omega⟩,rfl⟩
inductive CMn:FuncId→List D→Out→Prop
 | sum (b:List UInt8) (hb:b.length<1152921504606846976):CMn 71 [dBy b] (.ret (.agg ((shaL b).map dU)))
 | text (t:List UInt8) (ls:List (List UInt8)) (ht:t.length≤1000) (hl:ls.length≤100000) (hb:ls.flatten.length≤10000000000):CMn 91 [dZ t,.sl 1 (ls.map dBy)] (.ret (dBy (mtext t ls)))
theorem hMn:∀ f ds out,CMn f ds out→PCall Tryz.prog f ds out:=by
 intro f ds out h
 cases h with
 | sum b hb=>exact sum b hb
 | text t ls ht hl hb=>exact merkleText t ls ht hl hb
theorem mtext_len(t:List UInt8) (ls:List (List UInt8)):(mtext t ls).length=32+ls.flatten.length:=by
 unfold mtext;rw [List.length_append,shaL_len]
theorem leafHash(b:List UInt8) (hb:b.length≤10000000000):PCall Tryz.prog 75 [dBy b] (.ret (dDg (leafH b))):=by
 refine pcall_of_vc hMn c75 (by simp [a75]) fun hr=>?_
 have h1:=CMn.text tLeaf [b] (by simp [tLeaf]) (by simp) (by simp;exact hb)
 have hm:=mtext_len tLeaf [b]
 have h2:=CMn.sum (mtext tLeaf [b]) (by rw [hm];simp;omega)
 have e:shaL (mtext tLeaf [b])=leafH b:=by unfold mtext leafH tagL;simp
 rw [e] at h2
 have hl:=tagL_len tLeaf b
 rw [show tagL tLeaf b=leafH b from rfl] at hl
 generalize leafH b=H at *
 generalize mtext tLeaf [b]=T at *
 simp [a75,-List.reduceReplicate]
 refine vc_path [.ret (dBy T),.ret (.agg (H.map dU))] ?_
 simp [setAt_all,hl,-List.reduceReplicate]
 refine⟨h1,h2,?_⟩
 rw [List.take_of_length_le (by simp [hl]),allD_dU]
 simp
 exact LeD.refl _
theorem mnode(a b:List UInt8) (ha:a.length=32) (hb:b.length=32):PCall Tryz.prog 93 [dDg a,dDg b] (.ret (dBy (mtext tNode [a,b]))):=by
 refine pcall_of_vc hMn c93 (by simp [a93]) fun hr=>?_
 have h1:=CMn.text tNode [a,b] (by simp [tNode]) (by simp) (by simp;omega)
 generalize mtext tNode [a,b]=T at *
 simp [a93,dDg,-List.reduceReplicate]
 refine vc_pathD [.ret (dBy T)] ?_
 simp [ha,hb,allD_dU,elsD_dU a 32 ha,elsD_dU b 32 hb,-List.reduceReplicate]
 exact⟨h1,rfl⟩
theorem upL_drop:∀ (row:List (List UInt8)) (k:Nat),2*k≤row.length→(upL row).take k++upL (row.drop (2*k))=upL row
 | row,0,_=>by simp
 | [],k+1,h=>by simp at h
 | [a],k+1,h=>by simp at h;omega
 | a::b::r,k+1,h=>by
  have ih:=upL_drop r k (by simp at h;omega)
  rw [show 2*(k+1)=2*k+1+1 by omega]
  simp only [upL,List.take_succ_cons,List.drop_succ_cons,List.cons_append]
  rw [ih]
theorem upL_take(row:List (List UInt8)) (k:Nat) (a b:List UInt8) (r:List (List UInt8)) (h:row.drop (2*k)=a::b::r):(upL row).take (k+1)=(upL row).take k++[nodeH a b]:=by
 have hlt:2*k+1<row.length:=by
  have:=congrArg List.length h
  simp at this;omega
 have hd:=upL_drop row k (by omega)
 rw [h] at hd
 have hl:((upL row).take k).length=k:=by
  rw [List.length_take,upL_len];omega
 conv=>lhs;rw [← hd]
 rw [List.take_append,hl,List.take_of_length_le (by omega),show k+1-k=1 by omega,upL]
 simp
inductive CUp:FuncId→List D→Out→Prop
 | node (a b:List UInt8) (ha:a.length=32) (hb:b.length=32):CUp 93 [dDg a,dDg b] (.ret (dBy (mtext tNode [a,b])))
 | sum (b:List UInt8) (hb:b.length<1152921504606846976):CUp 71 [dBy b] (.ret (dDg (shaL b)))
theorem hUp:∀ f ds out,CUp f ds out→PCall Tryz.prog f ds out:=by
 intro f ds out h
 cases h with
 | node a b ha hb=>exact mnode a b ha hb
 | sum b hb=>exact sum b hb
theorem sha_node(a b:List UInt8):shaL (mtext tNode [a,b])=nodeH a b:=by unfold mtext nodeH tagL;simp
theorem mup(row:List (List UInt8)) (h32:∀ x∈row,x.length=32) (hl:row.length≤100000):PCall Tryz.prog 76 [.sl 32 (row.map dDg)] (.ret (.sl 32 ((upL row).map dDg))):=by
 refine pcall_of_vc hUp c76 (by simp [a76]) fun hr=>?_
 simp [a76]
 refine vc_loopK [] Nat (fun k=>[(0,true,.d (.sl 32 ((row.drop (2*k)).map dDg))),(2,true,.own 0 32 (((upL row).map dDg).take k))]) (fun k=>[(0,.row)]) (fun k=>2*k≤row.length) (fun k=>row.length-2*k) 0 (by simp) ⟨[],[(0,32)],?_⟩ (fun k hk=>?_)
 ·simp
 rcases Nat.lt_or_ge 1 (row.drop (2*k)).length with hlt | hge
 ·obtain⟨a,b,r,hd⟩:∃ a b r,row.drop (2*k)=a::b::r:=by
   match hm:row.drop (2*k),hlt with
   | a::b::r,_=>exact⟨a,b,r,rfl⟩
  have ha:a.length=32:=h32 a (List.mem_of_mem_drop (by rw [hd];simp:a∈row.drop (2*k)))
  have hb:b.length=32:=h32 b (List.mem_of_mem_drop (by rw [hd];simp:b∈row.drop (2*k)))
  have hts:((upL row).map dDg).take (k+1)=((upL row).map dDg).take k++[dDg (nodeH a b)]:=by
   rw [← List.map_take,upL_take row k a b r hd];simp
  have hnx:row.drop (2*(k+1))=r:=by
   rw [show 2*(k+1)=2*k+2 by omega,← List.drop_drop,hd];rfl
  have hlen:2*k+2≤row.length:=by
   have:=congrArg List.length hd
   simp at this;omega
  have k1:=CUp.node a b ha hb
  have hm:=mtext_len tNode [a,b]
  have k2:=CUp.sum (mtext tNode [a,b]) (by rw [hm];simp;omega)
  rw [sha_node] at k2
  generalize mtext tNode [a,b]=T at *
  have hc1:(1:Int)<r.length+1+1:=by omega
  have hc2:¬ ((r.length:Int)+1+1≤1):=by omega
  simp [hd,hc1,hc2]
  refine vc_pathD [.ret (dBy T),.ret (dDg (nodeH a b))] ?_
  have dgl:∀ x:List UInt8,x.length=32→(dDg x).cells.length=32:=fun x hx=>by simp [dDg_cells,hx]
  have dgn:(nodeH a b).length=32:=tagL_len _ _
  simp [hd,dgl a ha,dgl b hb,dgl _ dgn,dDg_isAgg,dDg_nt,dDg_noTup]
  have hul:=upL_len row
  refine⟨by omega,by omega,k1,k2,⟨by omega,by omega⟩,rfl,by omega,k+1,by omega,by omega,[(0,2)],[],?_⟩
  have ht2:((r.length:Int)+1+1).toNat=r.length+2:=by omega
  have htt:(dDg a::dDg b::r.map dDg).take (r.length+2)=dDg a::dDg b::r.map dDg:=List.take_of_length_le (by simp)
  have hnx2:(row.map dDg).drop (2*(k+1))=r.map dDg:=by rw [← List.map_drop,hnx]
  rw [ht2,htt,hts,hnx2]
  simp
 ·have hta:(upL row).take k++row.drop (2*k)=upL row:=by
   have:=upL_drop row k hk
   have e:upL (row.drop (2*k))=row.drop (2*k):=by
    match hm:row.drop (2*k),hge with
    | [],_=>rfl
    | [a],_=>rfl
    | a::b::r,hge=>simp at hge
   rw [e] at this;exact this
  have hul:=upL_len row
  have hdl:(row.drop (2*k)).length≤1:=hge
  generalize row.drop (2*k)=rest at *
  have hge':¬ (1:Int)<rest.length:=by omega
  have htm:((upL row).map dDg).take k++rest.map dDg=(upL row).map dDg:=by rw [← List.map_take,← List.map_append,hta]
  simp [hge',hge]
  refine⟨⟨by omega,by omega⟩,?_⟩
  rw [htm]
  exact LeD.refl _
end

section
attribute [local simp] dZ_agg dZ_nt dZ_noTup dZ_cells dZ_one bz_toList bz_size strV dV_cells dV_isAgg dV_noTup dV_nt dBy_cells dBy_one dBy_agg dBy_noTup dBy_nt
attribute [local simp] dG_isAgg dG_noTup dG_nt dG_len dDg_isAgg dDg_noTup dDg_nt
set_option maxRecDepth 8000
set_option maxHeartbeats 4000000
inductive CRo:FuncId→List D→Out→Prop
 | leaf (b:List UInt8) (hb:b.length≤10000000000):CRo 75 [dBy b] (.ret (dDg (leafH b)))
 | up (row:List (List UInt8)) (h32:∀ x∈row,x.length=32) (hl:row.length≤100000):CRo 76 [.sl 32 (row.map dDg)] (.ret (.sl 32 ((upL row).map dDg)))
 | rows (l:List (List UInt8)):CRo 47 [.sl 1 (l.map dBy)] (.ret (.fn (.func 74) [] [.ip (.sl 1 (l.map dBy))]))
 | tag0 (t:List UInt8) (ht:t.length≤1000):CRo 45 [dZ t,.nil 0] (.ret (dDg (tagL t [])))
theorem rowsF(l:List (List UInt8)):PCall Tryz.prog 47 [.sl 1 (l.map dBy)] (.ret (.fn (.func 74) [] [.ip (.sl 1 (l.map dBy))])):=by
 refine pcall_of_vcZ noC c47 (by simp [a47]) 4 fun hr=>?_
 simp [a47]
theorem hRo:∀ f ds out,CRo f ds out→PCall Tryz.prog f ds out:=by
 intro f ds out h
 cases h with
 | leaf b hb=>exact leafHash b hb
 | up row h32 hl=>exact mup row h32 hl
 | rows l=>exact rowsF l
 | tag0 t ht=>exact(tagged t [] ht (by simp)).le (.cons (LeD.refl _) (.cons (LeD.nil' _ _) .nil))
theorem dg_len(l:List UInt8) (h:l.length=32):(dDg l).cells.length=32:=by simp [dDg_cells,h]
theorem mroot(l:List (List UInt8)) (hl:l.length≤100000) (hb:∀ x∈l,x.length≤10000000000):PCall Tryz.prog 26 [.sl 1 (l.map dBy)] (.ret (dDg (rootL l))):=by
 refine pcall_of_vc hRo c26 (by simp [a26]) fun hr=>?_
 simp [a26,-List.reduceReplicate]
 by_cases h0:l=[]
 ·subst h0
  have k:=CRo.tag0 tNone (by simp [tNone])
  have e:rootL []=tagL tNone []:=rfl
  have hh:=tagL_len tNone []
  rw [e]
  generalize tagL tNone []=T at *
  simp [-List.reduceReplicate]
  refine vc_path [.ret (dDg T)] ?_
  simp [setAt_all,hh,dDg,-List.reduceReplicate]
  refine⟨k,?_⟩
  rw [List.take_of_length_le (by simp [hh]),allD_dU]
  simp
 ·simp [h0,-List.reduceReplicate]
  refine vc_path [.ret (.fn (.func 74) [] [.ip (.sl 1 (l.map dBy))])] ?_
  simp [-List.reduceReplicate]
  refine⟨.rows l,?_⟩
  refine vc_range (TF Tryz.prog a74) (hcall_of_vc c74) rfl (by rfl) (fun yl=>by rfl) (fun yl=>?_)
  simp [a74,-List.reduceReplicate]
  refine vc_loopK [0,6,7] Nat (fun i=>[(8,true,.d (dI i)),(3,true,.own 3 32 ((l.map fun b=>dDg (leafH b)).take i))]) (fun i=>[(3,.row)]) (fun i=>i≤l.length) (fun i=>l.length-i) 0 (by simp) ⟨[],[(3,32)],?_⟩ (fun i hi=>?_)
  ·simp
   intro x hx;omega
  have hw1:IntKind.i64.wrap ((i:Int)+1)=(i:Int)+1:=wrap64 (by omega)
  rcases Nat.lt_or_ge i l.length with hlt | hge
  ·have hlt':(i:Int)<l.length:=by omega
   have kc:=CRo.leaf l[i] (hb _ (List.getElem_mem hlt))
   have hlh:=dg_len (leafH l[i]) (tagL_len _ _)
   have hts:(l.map fun b=>dDg (leafH b)).take (i+1)=(l.map fun b=>dDg (leafH b)).take i++[dDg (leafH l[i])]:=by
    rw [List.take_add_one];simp [hlt]
   simp [hlt,hlt',-List.reduceReplicate]
   refine vc_path [.ret (dDg (leafH l[i]))] ?_
   simp [hlt,hlt',hw1,hlh,-List.reduceReplicate]
   refine⟨kc,⟨by omega,by omega⟩,i+1,by omega,by omega,[(3,5)],[],?_⟩
   simp only [hts]
   simp
   exact fun x hx=>.inr ⟨by rw [if_neg (by omega)];rfl,by omega⟩
  have hge':¬ (i:Int)<l.length:=by omega
  have hta:(l.map fun b=>dDg (leafH b)).take i=(l.map leafH).map dDg:=by rw [List.take_of_length_le (by simp;omega)];simp
  have h32:=leaves_32 l
  have hrl:(l.map leafH).length≤100000:=by simpa using hl
  have hne:l.map leafH≠[]:=by simpa using h0
  have hR:rootL l=rootR (l.map leafH):=by unfold rootL;rw [if_neg h0]
  rw [hR]
  generalize l.map leafH=row0 at *
  simp [hge,hge',hta,-List.reduceReplicate]
  refine vc_loopK [0] (List (List UInt8)×List UInt8) (fun x=>[(3,true,.d (.sl 32 (x.1.map dDg)))]) (fun x=>[(0,.box true (x.2.map (AV.d∘dU)))]) (fun x=>x.1≠[]∧(∀ y∈x.1,y.length=32)∧x.1.length≤100000∧x.2.length=32∧rootR x.1=rootR row0) (fun x=>x.1.length) (row0,z32U) ⟨hne,h32,hrl,z32U_len,rfl⟩ ⟨[],[],?_⟩ (fun x hx=>?_)
  ·simp [leL_mdU,dU_oneT,-List.reduceReplicate]
   refine⟨?_,fun x hx=>by omega⟩
   have e:z32U.map (AV.d∘dU)=(z32U.map dU).map AV.d:=by simp
   rw [e]
   exact leL_map _ _ _ _ (z32U.map dU)
  obtain⟨row,cur⟩:=x
  obtain⟨g1,g2,g3,g4,g5⟩:=hx
  simp only at g1 g2 g3 g4 g5
  obtain⟨d,r,rfl⟩:∃ d r,row=d::r:=by
   cases row with
   | nil=>exact absurd rfl g1
   | cons d r=>exact⟨d,r,rfl⟩
  have hd:=g2 d (List.mem_cons_self ..)
  simp
  refine regS_path [] ?_
  have htk:(d.map (AV.d∘dU)).take 32=d.map (AV.d∘dU):=List.take_of_length_le (by simp [hd])
  simp [dg_len d hd,dDg_cells,setAt_all,g4,hd,htk,allD_dU]
  refine⟨fun h1=>?_,fun h1=>?_⟩
  ·have hr1:1<(d::r).length:=by simp;omega
   have kc:=CRo.up (d::r) g2 g3
   have hup:=rootR_step hr1
   have hne2:upL (d::r)≠[]:=fun h=>by
    have:=upL_len (d::r)
    rw [h] at this;simp at this;omega
   have h322:=upL_32 _ g2
   have hul:=upL_len (d::r)
   rw [hup] at g5
   generalize hU:upL (d::r)=U at *
   refine vc_path [.ret (.sl 32 (U.map dDg))] ?_
   simp
   simp only [List.length_cons] at hul g3
   refine⟨kc,U,d,⟨hne2,h322,by omega,hd,g5⟩,by omega,[],[],?_⟩
   simp [leL_mdU,dU_oneT]
   intro x hx;omega
  ·have hr0:r=[]:=List.eq_nil_of_length_eq_zero (by omega)
   subst hr0
   have:rootR [d]=d:=by rw [rootR_one (by simp)];rfl
   rw [this] at g5
   rw [← g5]
   exact LeD.refl _
theorem xor_le(i:Nat):i^^^1≤i+1:=by rw [xor1];split <;> omega
theorem mprove(l:List (List UInt8)) (i:Int) (hl:l.length≤100000) (hb:∀ x∈l,x.length≤10000000000):PCall Tryz.prog 39 [.sl 1 (l.map dBy),dI i] (.ret (.tup [.sl 32 ((proveL l i).map dDg),dI (proveE l.length i)])):=by
 refine pcall_of_vc hRo c39 (by simp [a39]) fun hr=>?_
 simp [a39]
 have hbad:proveE l.length i=1→proveL l i=[]:=fun h=>by unfold proveL;rw [if_neg (by omega)]
 by_cases h0:65536<l.length∨i<0∨l.length≤i
 case pos =>
  have e:proveE l.length i=1:=by unfold proveE;rw [if_pos h0]
  rw [e,hbad e]
  refine vc_path [] ?_
  simp
  exact fun q1 q2 q3=>absurd h0 (by omega)
 have e:proveE l.length i=0:=by unfold proveE;rw [if_neg h0]
 obtain⟨n,rfl⟩:∃ n:Nat,i=n:=⟨i.toNat,by omega⟩
 have e2:proveL l n=pathR (l.map leafH) n:=by unfold proveL;rw [if_pos e];simp
 rw [e,e2]
 have f1:¬ (65536:Int)<l.length:=by omega
 have f2:¬ (l.length:Int)≤n:=by omega
 have f3:¬ l.length≤n:=by omega
 refine vc_path [] ?_
 have f4:¬ (n:Int)<0:=by omega
 simp [f1,f2,f3,f4]
 refine vc_path [.ret (.fn (.func 74) [] [.ip (.sl 1 (l.map dBy))])] ?_
 simp
 refine⟨.rows l,?_⟩
 refine vc_range (TF Tryz.prog a74) (hcall_of_vc c74) rfl (by rfl) (fun yl=>by rfl) (fun yl=>?_)
 simp [a74]
 refine vc_loopK [0,6,7] Nat (fun i=>[(8,true,.d (dI i)),(3,true,.own 4 32 ((l.map fun b=>dDg (leafH b)).take i))]) (fun i=>[(4,.row)]) (fun i=>i≤l.length) (fun i=>l.length-i) 0 (by simp) ⟨[],[(4,32)],?_⟩ (fun i hi=>?_)
 ·simp
  intro x hx;omega
 have hw1:IntKind.i64.wrap ((i:Int)+1)=(i:Int)+1:=wrap64 (by omega)
 rcases Nat.lt_or_ge i l.length with hlt | hge
 ·have hlt':(i:Int)<l.length:=by omega
  have kc:=CRo.leaf l[i] (hb _ (List.getElem_mem hlt))
  have hlh:=dg_len (leafH l[i]) (tagL_len _ _)
  have hts:(l.map fun b=>dDg (leafH b)).take (i+1)=(l.map fun b=>dDg (leafH b)).take i++[dDg (leafH l[i])]:=by
   rw [List.take_add_one];simp [hlt]
  simp [hlt,hlt']
  refine vc_path [.ret (dDg (leafH l[i]))] ?_
  simp [hlt,hlt',hw1,hlh]
  refine⟨kc,⟨by omega,by omega⟩,i+1,by omega,by omega,[(4,6)],[],?_⟩
  simp only [hts]
  simp
  exact fun x hx=>.inr ⟨by rw [if_neg (by omega)];rfl,by omega⟩
 have hge':¬ (i:Int)<l.length:=by omega
 have hta:(l.map fun b=>dDg (leafH b)).take i=(l.map leafH).map dDg:=by rw [List.take_of_length_le (by simp;omega)];simp
 have h32:=leaves_32 l
 have hrl:(l.map leafH).length≤65536:=by simp;omega
 have hne:l.map leafH≠[]:=by intro h;have:=congrArg List.length h;simp at this;simp [this] at f3
 have hnl:n<(l.map leafH).length:=by simp;omega
 generalize l.map leafH=row0 at *
 simp [hge,hge',hta]
 refine vc_loopK [0] (List (List UInt8)×List (List UInt8)×Nat) (fun x=>[(3,true,.d (.sl 32 (x.1.map dDg)))]) (fun x=>[(0,.box false [.d (dI x.2.2)]),(1,.box false [.own 5 32 (x.2.1.map dDg)]),(5,.row)]) (fun x=>x.1≠[]∧(∀ y∈x.1,y.length=32)∧x.1.length≤65536∧x.2.2<x.1.length∧x.2.1.length+x.1.length≤100000∧x.2.1++pathR x.1 x.2.2=pathR row0 n) (fun x=>x.1.length) (row0,[],n) ⟨hne,h32,hrl,hnl,by simp;omega,by simp⟩ ⟨[],[(5,32)],?_⟩ (fun x hx=>?_)
 ·simp
  intro x hx;omega
 obtain⟨row,acc,k⟩:=x
 obtain⟨g1,g2,g3,g4,g5,g6⟩:=hx
 simp only at g1 g2 g3 g4 g5 g6
 have hx1:IntKind.i64.wrap ((k % 2 ^ IntKind.i64.bits^^^1 % 2 ^ IntKind.i64.bits:Nat):Int)=((k^^^1:Nat):Int):=by
  rw [show k % 2 ^ IntKind.i64.bits=k by simp [IntKind.bits];omega,show 1 % 2 ^ IntKind.i64.bits=1 by simp [IntKind.bits]]
  have:=xor_le k
  exact wrap64 (by omega)
 have hq:IntKind.i64.wrap ((k:Int) / 2)=((k / 2:Nat):Int):=by
  rw [wrap64 (by omega)];omega
 simp
 refine regS_path [] ?_
 have hox:=xor1 k
 have hstep:=pathR_step (row:=row) k
 have hone:=pathR_one (row:=row) k
 have hul:=upL_len row
 have h322:=upL_32 row g2
 have next:∀ (h1:1<row.length),upL row≠[]∧(∀ y∈upL row,y.length=32)∧(upL row).length≤65536∧k / 2<(upL row).length:=fun h1=>⟨fun h=>by rw [h] at hul;simp at hul;omega,h322,by omega,by omega⟩
 have kc:=CRo.up row g2 (by omega)
 generalize hO:k^^^1=o at *
 rcases Nat.lt_or_ge o row.length with ho | ho
 ·have h1:1<row.length:=by split at hox <;> omega
  have ho':(o:Int)<row.length:=by omega
  have h1':(1:Int)<row.length:=by omega
  have hdo:=dg_len row[o] (g2 _ (List.getElem_mem ho))
  have hp:=hstep h1
  rw [List.getElem?_eq_getElem ho] at hp
  obtain⟨n1,n2,n3,n4⟩:=next h1
  generalize upL row=U at *
  simp [hx1,hq,ho,ho',h1',hdo]
  refine⟨⟨by omega,by omega⟩,rfl,vc_path [.ret (.sl 32 (U.map dDg))] ?_⟩
  simp
  refine⟨kc,U,acc++[row[o]],k / 2,⟨n1,n2,n3,n4,by simp;omega,by rw [← g6,hp];simp⟩,by omega,[(5,7)],[],?_⟩
  simp
  exact fun x hx=>.inr ⟨by rw [if_neg (by omega)];rfl,by omega⟩
 ·have ho':¬ (o:Int)<row.length:=by omega
  by_cases h1:1<row.length
  ·have h1':(1:Int)<row.length:=by omega
   have hp:=hstep h1
   rw [List.getElem?_eq_none (by omega)] at hp
   obtain⟨n1,n2,n3,n4⟩:=next h1
   generalize upL row=U at *
   simp [hx1,hq,ho,ho',h1',h1]
   refine vc_path [.ret (.sl 32 (U.map dDg))] ?_
   simp
   refine⟨kc,U,acc,k / 2,⟨n1,n2,n3,n4,by omega,by rw [← g6,hp];simp⟩,by omega,[],[],?_⟩
   simp
   try (intro x hx;omega)
  ·have h1':¬ (1:Int)<row.length:=by omega
   have hp:=hone h1
   simp [hx1,hq,ho,ho',h1',h1]
   rw [hp,List.append_nil] at g6
   rw [g6]
   exact LeD.refl _
def climbW (n i:Nat) (ds:List (List UInt8)) (ts:List D) (p:List (List UInt8)):List (List UInt8)×List D×Bool :=
 if h:1<n then
  if n≤i^^^1 then climbW ((n+1) / 2) (i / 2) (ds++[ds.getLast?.getD []]) (ts++[.nil 1]) p
  else match p with
   | []=>([],[],false)
   | x::r=>climbW ((n+1) / 2) (i / 2) (ds++[if i % 2=0 then nodeH (ds.getLast?.getD []) x else nodeH x (ds.getLast?.getD [])]) (ts++[dBy (mtext tNode (if i % 2=0 then [ds.getLast?.getD [],x] else [x,ds.getLast?.getD []]))]) r
 else (ds,ts,decide (p=[]))
termination_by n
decreasing_by all_goals omega
theorem climbW_one{n:Nat}(i:Nat) (ds:List (List UInt8)) (ts:List D) (p:List (List UInt8)) (h:¬ 1<n):climbW n i ds ts p=(ds,ts,decide (p=[])):=by rw [climbW.eq_def,dif_neg h]
theorem climbW_alone{n i:Nat}(ds:List (List UInt8)) (d:List UInt8) (ts:List D) (p:List (List UInt8)) (h:1<n) (h2:n≤i^^^1):climbW n i (ds++[d]) ts p=climbW ((n+1) / 2) (i / 2) (ds++[d]++[d]) (ts++[.nil 1]) p:=by rw [climbW.eq_def,dif_pos h,if_pos h2];simp
theorem climbW_nil{n i:Nat}(ds:List (List UInt8)) (ts:List D) (h:1<n) (h2:¬ n≤i^^^1):climbW n i ds ts []=([],[],false):=by rw [climbW.eq_def,dif_pos h,if_neg h2]
theorem climbW_cons{n i:Nat}(ds:List (List UInt8)) (d:List UInt8) (ts:List D) (x:List UInt8) (r:List (List UInt8)) (h:1<n) (h2:¬ n≤i^^^1):climbW n i (ds++[d]) ts (x::r)=climbW ((n+1) / 2) (i / 2) (ds++[d]++[if i % 2=0 then nodeH d x else nodeH x d]) (ts++[dBy (mtext tNode (if i % 2=0 then [d,x] else [x,d]))]) r:=by rw [climbW.eq_def,dif_pos h,if_neg h2];simp
theorem climbW_R:∀ (n i:Nat) (ds:List (List UInt8)) (d:List UInt8) (ts:List D) (p:List (List UInt8)),(climbW n i (ds++[d]) ts p).2.2=(climbR n i d p).isSome∧∀ x,climbR n i d p=some x→(climbW n i (ds++[d]) ts p).1.getLast?=some x:=by
 intro n
 induction n using Nat.strongRecOn with
 | _ n ih =>
  intro i ds d ts p
  by_cases h:1<n
  ·by_cases h2:n≤i^^^1
   ·rw [climbR_alone d p h h2,climbW_alone ds d ts p h h2]
    exact ih _ (by omega) _ _ _ _ _
   ·cases p with
    | nil=>rw [climbR_nil d h h2,climbW_nil _ ts h h2];simp
    | cons y r =>
     rw [climbR_cons d y r h h2,climbW_cons ds d ts y r h h2]
     exact ih _ (by omega) _ _ _ _ _
  ·rw [climbR_one i d p h,climbW_one i _ ts p h]
   cases p <;> simp
inductive CCl:FuncId→List D→Out→Prop
 | sum (b:List UInt8) (hb:b.length<1152921504606846976):CCl 71 [dBy b] (.ret (.agg ((shaL b).map dU)))
 | text (t:List UInt8) (ls:List (List UInt8)) (ht:t.length≤1000) (hl:ls.length≤100000) (hb:ls.flatten.length≤10000000000):CCl 91 [dZ t,.sl 1 (ls.map dBy)] (.ret (dBy (mtext t ls)))
 | node (a b:List UInt8) (ha:a.length=32) (hb:b.length=32):CCl 93 [dDg a,dDg b] (.ret (dBy (mtext tNode [a,b])))
theorem hCl:∀ f ds out,CCl f ds out→PCall Tryz.prog f ds out:=by
 intro f ds out h
 cases h with
 | sum b hb=>exact sum b hb
 | text t ls ht hl hb=>exact merkleText t ls ht hl hb
 | node a b ha hb=>exact mnode a b ha hb
theorem mclimb(n i:Nat) (leaf:List UInt8) (p:List (List UInt8)) (hn:n≤65536) (hi:i<n) (hlf:leaf.length≤10000000000) (hp:∀ x∈p,x.length=32) (hpl:p.length≤1000000):PCall Tryz.prog 67 [dI n,dI i,dBy leaf,.sl 32 (p.map dDg)] (.ret (.tup [.agg [.sl 32 ((climbW n i [leafH leaf] [dBy (mtext tLeaf [leaf])] p).1.map dDg),.sl 1 (climbW n i [leafH leaf] [dBy (mtext tLeaf [leaf])] p).2.1],dB (climbW n i [leafH leaf] [dBy (mtext tLeaf [leaf])] p).2.2])):=by
 refine pcall_of_vc hCl c67 (by simp [a67]) fun hr=>?_
 simp [a67,-List.reduceReplicate]
 have k1:=CCl.text tLeaf [leaf] (by simp [tLeaf]) (by simp) (by simp;exact hlf)
 have hm:=mtext_len tLeaf [leaf]
 have k2:=CCl.sum (mtext tLeaf [leaf]) (by rw [hm];simp;omega)
 have e:shaL (mtext tLeaf [leaf])=leafH leaf:=by unfold mtext leafH tagL;simp
 rw [e] at k2
 have hH:(leafH leaf).length=32:=tagL_len _ _
 generalize leafH leaf=H at *
 generalize mtext tLeaf [leaf]=T at *
 refine regK_path [.ret (dBy T)] [] ?_
 simp
 refine⟨k1,rfl,icall_T (TF Tryz.prog a90) (hcall_of_vc c90) ?_⟩
 simp [a90]
 refine vc_pathD [.ret (.agg (H.map dU))] ?_
 simp [hH]
 refine⟨k2,rfl,regS_path [] ?_⟩
 simp
 refine icall_T (TF Tryz.prog a92) (hcall_of_vc c92) ?_
 simp [a92]
 refine vc_range (TF Tryz.prog a117) (hcall_of_vc c117) rfl (by rfl) (fun yl=>by rfl) (fun yl=>?_)
 simp [a117,argA]
 refine vc_loopK [0,1,2] (Nat×Nat×Nat×List (List UInt8)×List UInt8×List D×List (List UInt8)) (fun _=>[]) (fun x=>if x.1=0 then [(0,.box false [.d (.sl 32 (x.2.2.2.2.2.2.map dDg))]),(1,.box true [.own 8 32 (x.2.2.2.1.map dDg++[dDg x.2.2.2.2.1]),.own 6 1 x.2.2.2.2.2.1]),(9,.box false [.d (dI x.2.1)]),(10,.box false [.d (dI x.2.2.1)]),(6,.row),(8,.row)] else [(0,.box false [.d (.sl 32 (x.2.2.2.2.2.2.map dDg))]),(1,.box true [.own 13 32 (x.2.2.2.1.map dDg++[dDg x.2.2.2.2.1]),.own 14 1 x.2.2.2.2.2.1]),(9,.box false [.d (dI x.2.1)]),(10,.box false [.d (dI x.2.2.1)]),(6,.dead),(8,.dead),(13,.row),(14,.row)]) (fun x=>climbW n i [H] [dBy T] p=climbW x.2.1 x.2.2.1 (x.2.2.2.1++[x.2.2.2.2.1]) x.2.2.2.2.2.1 x.2.2.2.2.2.2∧x.2.2.1<x.2.1∧x.2.1≤65536∧x.2.2.2.2.1.length=32∧(∀ y∈x.2.2.2.2.2.2,y.length=32)∧x.2.2.2.2.2.2.length≤1000000∧x.2.2.2.1.length+x.2.1≤65536∧x.2.2.2.2.2.1.length=x.2.2.2.1.length+1) (fun x=>x.2.1) (0,n,i,[],H,[dBy T],p) ⟨rfl,hi,hn,hH,hp,hpl,by simp;omega,rfl⟩ ⟨[],[],?_⟩ (fun x hx=>?_)
 ·simp [dDg]
  try (intro x hx;omega)
 obtain⟨b,n,i,ds,d,ts,p⟩:=x
 obtain⟨g0,g1,g2,g3,g4,g5,g6,g7⟩:=hx
 simp only at g0 g1 g2 g3 g4 g5 g6 g7
 rw [g0]
 have hwl:IntKind.i64.wrap (ds.length:Int)=(ds.length:Int):=wrap64 (by omega)
 have hget:(List.map dDg ds++[dDg d])[ds.length]?.getD default=dDg d:=by simp
 have hdc:(dDg d).cells=d.map dU:=dDg_cells d
 have htk:List.take 32 (d.map (AV.d∘dU))=d.map (AV.d∘dU):=List.take_of_length_le (by simp [g3])
 have hfo:D.agg (d.map dU)=dDg d:=rfl
 have hq1:IntKind.i64.wrap (((n:Int)+1).tdiv 2)=(((n+1) / 2:Nat):Int):=by rw [Int.tdiv_eq_ediv_of_nonneg (by omega),wrap64 (by omega)];omega
 have hq2:IntKind.i64.wrap ((i:Int) / 2)=((i / 2:Nat):Int):=by rw [wrap64 (by omega)];omega
 have hq0:IntKind.i64.wrap ((n:Int)+1)=(n:Int)+1:=wrap64 (by omega)
 have hxr:=xor1 i
 have hx1:IntKind.i64.wrap ((i % 2 ^ IntKind.i64.bits^^^1 % 2 ^ IntKind.i64.bits:Nat):Int)=((i^^^1:Nat):Int):=by
  rw [show i % 2 ^ IntKind.i64.bits=i by simp [IntKind.bits];omega,show 1 % 2 ^ IntKind.i64.bits=1 by simp [IntKind.bits]]
  have:=xor_le i
  exact wrap64 (by omega)
 by_cases h1:1<n
 case neg =>
  have h1':¬ (1:Int)<n:=by omega
  have h1n:(n:Int)≤1:=by omega
  rw [climbW_one _ _ _ _ h1]
  cases b
  all_goals
   simp [h1',h1n]
   refine⟨rfl,?_⟩
   cases p <;> simp <;> exact LeD.refl _
 have h1':(1:Int)<n:=by omega
 have h1n:¬ (n:Int)≤1:=by omega
 by_cases ho:n≤i^^^1
 case pos =>
  have hon:¬ i^^^1<n:=by omega
  rw [climbW_alone ds d ts p h1 ho]
  cases b
  all_goals
   simp [h1',h1n]
   refine regS_path [] ?_
   simp [hx1,hwl,hget,hdc,g3,setAt_all]
   simp [ho,hon,htk,allD_dU,hfo,hdc,g3,hq0,hq1,hq2]
   refine⟨by omega,⟨by omega,by omega⟩,⟨by omega,by omega⟩,rfl,rfl,1,(n+1) / 2,i / 2,ds++[d],d,ts++[.nil 1],p,⟨by simp,by split at hxr <;> omega,by omega,g3,g4,g5,by simp;omega,by simp;omega⟩,by omega,?_⟩
   first | (refine⟨[(13,18),(14,16)],[],?_⟩;simp;exact fun x hx=>.inr ⟨by rw [if_neg (by omega),if_neg (by omega)];rfl,by omega⟩) | (refine⟨[(13,20),(14,18)],[],?_⟩;simp;exact fun x hx=>.inr ⟨by rw [if_neg (by omega),if_neg (by omega)];rfl,by omega⟩)
 match p,g4,g5 with
 | [],_,_ =>
  rw [climbW_nil _ ts h1 ho]
  cases b
  all_goals
   simp [h1',h1n]
   refine regS_path [] ?_
   simp [hx1,hwl,hget,hdc,g3,setAt_all]
   simp [ho]
   exact⟨by omega,fun _=>.agg (.cons (.nil _) (.cons (.nil _) .nil)) (by simp [D.one])⟩
 | y::r,g4,g5 =>
  have hy:=g4 y (by simp)
  have hrl:¬ ((r.length:Int)+1=0):=by omega
  have hyc:(dDg y).cells=y.map dU:=dDg_cells y
  rw [climbW_cons ds d ts y r h1 ho]
  rcases Nat.mod_two_eq_zero_or_one i with hm | hm
  ·have hm2:(i:Int).tmod 2=0:=by rw [Int.tmod_eq_emod_of_nonneg (by omega)];omega
   rw [if_pos hm,if_pos hm]
   have k3:=CCl.node d y g3 hy
   have hm3:=mtext_len tNode [d,y]
   have k4:=CCl.sum (mtext tNode [d,y]) (by rw [hm3];simp;omega)
   rw [sha_node] at k4
   generalize mtext tNode [d,y]=U at *
   have hN:(nodeH d y).length=32:=tagL_len _ _
   generalize nodeH d y=N at *
   have hfN:D.agg (N.map dU)=dDg N:=rfl
   cases b
   all_goals
    simp [h1',h1n]
    refine regS_path [] ?_
    simp [hx1,hwl,hget,hdc,g3,setAt_all]
    simp [ho,hm2,hrl]
    refine⟨by omega,fun _=>regK_path [.ret (dBy U)] [] ?_⟩
    simp [htk,allD_dU,hfo,hdc,g3,hyc,hy]
    refine⟨k3,rfl,icall_T (TF Tryz.prog a90) (hcall_of_vc c90) ?_⟩
    simp [a90]
    refine⟨⟨by omega,by omega⟩,vc_pathD [.ret (.agg (N.map dU))] ?_⟩
    simp [hN,hfN,hq0,hq1,hq2]
    refine⟨k4,by simp [dDg_cells,hN],⟨by omega,by omega⟩,rfl,by omega,rfl,1,(n+1) / 2,i / 2,ds++[d],N,ts++[dBy U],r,⟨by simp,by split at hxr <;> omega,by omega,hN,fun z hz=>g4 z (by simp [hz]),by simp at g5;omega,by simp;omega,by simp;omega⟩,by omega,?_⟩
    first | (refine⟨[(13,18),(14,16)],[],?_⟩;simp;exact⟨by rw [List.take_of_length_le (by simp)];exact LeD.refl _,fun x hx=>.inr ⟨by rw [if_neg (by omega),if_neg (by omega)];rfl,by omega⟩⟩) | (refine⟨[(13,20),(14,18)],[],?_⟩;simp;exact⟨by rw [List.take_of_length_le (by simp)];exact LeD.refl _,fun x hx=>.inr ⟨by rw [if_neg (by omega),if_neg (by omega)];rfl,by omega⟩⟩)
  ·have hm2:¬ (i:Int).tmod 2=0:=by rw [Int.tmod_eq_emod_of_nonneg (by omega)];omega
   rw [if_neg (by omega),if_neg (by omega)]
   have k3:=CCl.node y d hy g3
   have hm3:=mtext_len tNode [y,d]
   have k4:=CCl.sum (mtext tNode [y,d]) (by rw [hm3];simp;omega)
   rw [sha_node] at k4
   generalize mtext tNode [y,d]=U at *
   have hN:(nodeH y d).length=32:=tagL_len _ _
   generalize nodeH y d=N at *
   have hfN:D.agg (N.map dU)=dDg N:=rfl
   cases b
   all_goals
    simp [h1',h1n]
    refine regS_path [] ?_
    simp [hx1,hwl,hget,hdc,g3,setAt_all]
    simp [ho,hm2,hrl]
    refine⟨by omega,fun _=>regK_path [.ret (dBy U)] [] ?_⟩
    simp [htk,allD_dU,hfo,hdc,g3,hyc,hy]
    refine⟨k3,rfl,icall_T (TF Tryz.prog a90) (hcall_of_vc c90) ?_⟩
    simp [a90]
    refine⟨⟨by omega,by omega⟩,vc_pathD [.ret (.agg (N.map dU))] ?_⟩
    simp [hN,hfN,hq0,hq1,hq2]
    refine⟨k4,by simp [dDg_cells,hN],⟨by omega,by omega⟩,rfl,by omega,rfl,1,(n+1) / 2,i / 2,ds++[d],N,ts++[dBy U],r,⟨by simp,by split at hxr <;> omega,by omega,hN,fun z hz=>g4 z (by simp [hz]),by simp at g5;omega,by simp;omega,by simp;omega⟩,by omega,?_⟩
    first | (refine⟨[(13,18),(14,16)],[],?_⟩;simp;exact⟨by rw [List.take_of_length_le (by simp)];exact LeD.refl _,fun x hx=>.inr ⟨by rw [if_neg (by omega),if_neg (by omega)];rfl,by omega⟩⟩) | (refine⟨[(13,20),(14,18)],[],?_⟩;simp;exact⟨by rw [List.take_of_length_le (by simp)];exact LeD.refl _,fun x hx=>.inr ⟨by rw [if_neg (by omega),if_neg (by omega)];rfl,by omega⟩⟩)
theorem climbW_len:∀ (n i:Nat) (ds:List (List UInt8)) (d:List UInt8) (ts:List D) (p:List (List UInt8)),(climbW n i (ds++[d]) ts p).1.length≤ds.length+1+n:=by
 intro n
 induction n using Nat.strongRecOn with
 | _ n ih =>
  intro i ds d ts p
  by_cases h:1<n
  ·by_cases h2:n≤i^^^1
   ·rw [climbW_alone ds d ts p h h2]
    have:=ih ((n+1) / 2) (by omega) (i / 2) (ds++[d]) d (ts++[.nil 1]) p
    simp at this ⊢;omega
   ·cases p with
    | nil=>rw [climbW_nil _ ts h h2];simp
    | cons y r =>
     rw [climbW_cons ds d ts y r h h2]
     have:=ih ((n+1) / 2) (by omega) (i / 2) (ds++[d]) (if i % 2=0 then nodeH d y else nodeH y d) (ts++[dBy (mtext tNode (if i % 2=0 then [d,y] else [y,d]))]) r
     simp at this ⊢;omega
  ·rw [climbW_one i _ ts p h];simp
inductive CCm:FuncId→List D→Out→Prop
 | climb (n i:Nat) (leaf:List UInt8) (p:List (List UInt8)) (hn:n≤65536) (hi:i<n) (hlf:leaf.length≤10000000000) (hp:∀ x∈p,x.length=32) (hpl:p.length≤1000000):CCm 67 [dI n,dI i,dBy leaf,.sl 32 (p.map dDg)] (.ret (.tup [.agg [.sl 32 ((climbW n i [leafH leaf] [dBy (mtext tLeaf [leaf])] p).1.map dDg),.sl 1 (climbW n i [leafH leaf] [dBy (mtext tLeaf [leaf])] p).2.1],dB (climbW n i [leafH leaf] [dBy (mtext tLeaf [leaf])] p).2.2]))
theorem hCm:∀ f ds out,CCm f ds out→PCall Tryz.prog f ds out:=by
 intro f ds out h
 cases h with
 | climb n i leaf p hn hi hlf hp hpl=>exact mclimb n i leaf p hn hi hlf hp hpl
theorem mClimb(n i:Int) (leaf:List UInt8) (p:List (List UInt8)) (hlf:leaf.length≤10000000000) (hp:∀ x∈p,x.length=32) (hpl:p.length≤1000000):PCall Tryz.prog 41 [dI n,dI i,dBy leaf,.sl 32 (p.map dDg)] (.ret (.tup [dDg (climbL n i leaf p),dI (climbE n i leaf p)])):=by
 refine pcall_of_vc hCm c41 (by simp [a41]) fun hr=>?_
 simp [a41,-List.reduceReplicate]
 by_cases h0:65536<n∨i<0∨n≤i
 case pos =>
  have e:climbE n i leaf p=1:=by unfold climbE;rw [if_pos h0]
  have e2:climbL n i leaf p=z32U:=by unfold climbL;rw [e,if_neg (by omega)]
  rw [e,e2]
  refine vc_path [] ?_
  simp
  exact⟨fun _=>LeD.refl _,fun _=>⟨fun _=>LeD.refl _,fun _=>⟨fun _=>LeD.refl _,fun _=>by omega⟩⟩⟩
 obtain⟨n,rfl⟩:∃ m:Nat,n=m:=⟨n.toNat,by omega⟩
 obtain⟨i,rfl⟩:∃ m:Nat,i=m:=⟨i.toNat,by omega⟩
 have k:=CCm.climb n i leaf p (by omega) (by omega) hlf hp hpl
 obtain⟨w1,w2⟩:=climbW_R n i [] (leafH leaf) [dBy (mtext tLeaf [leaf])] p
 have w3:=climbW_len n i [] (leafH leaf) [dBy (mtext tLeaf [leaf])] p
 simp only [List.nil_append] at w1 w2 w3
 have e:climbE n i leaf p=if (climbR n i (leafH leaf) p).isSome then 0 else 70:=by unfold climbE;rw [if_neg h0];simp
 have hl:∀ x,climbR n i (leafH leaf) p=some x→x.length=32:=fun x hx=>climbR_32 _ _ _ _ x (tagL_len _ _) hx
 have f1:¬ (65536:Int)<n:=by omega
 have f2:¬ (n:Int)≤i:=by omega
 have f3:¬ n≤i:=by omega
 have f4:¬ (i:Int)<0:=by omega
 refine vc_path [] ?_
 simp [f1,f2,f3,f4]
 generalize climbW n i [leafH leaf] [dBy (mtext tLeaf [leaf])] p=W at *
 obtain⟨ds,ts,b⟩:=W
 simp only at w1 w2 w3 k
 refine vc_path [.ret (.tup [.agg [.sl 32 (ds.map dDg),.sl 1 ts],dB b])] ?_
 cases hc:climbR n i (leafH leaf) p with
 | none =>
  rw [hc] at w1 e
  have e2:climbL n i leaf p=z32U:=by unfold climbL;rw [e];simp
  simp at w1 e
  rw [e,e2]
  subst w1
  simp
  exact⟨k,LeD.refl _⟩
 | some x =>
  rw [hc] at w1 e
  have e2:climbL n i leaf p=x:=by unfold climbL;rw [e];simp [hc]
  have hx:=hl x hc
  simp at w1 e
  rw [e,e2]
  subst w1
  have hg:=w2 x hc
  obtain⟨ds',rfl⟩:=List.getLast?_eq_some_iff.1 hg
  have hdc:(dDg x).cells=x.map dU:=dDg_cells x
  have htk:List.take 32 (x.map (AV.d∘dU))=x.map (AV.d∘dU):=List.take_of_length_le (by simp [hx])
  have hwl:IntKind.i64.wrap (ds'.length:Int)=(ds'.length:Int):=wrap64 (by simp at w3;omega)
  simp [hwl,hdc,hx,setAt_all,htk,allD_dU]
  exact⟨by simpa using k,by omega,LeD.refl _⟩
theorem setAt_all1(a:AV) (cs news:List AV) (h:news.length=cs.length):setAt (a::cs) 1 news=a::news:=by
 apply List.ext_getElem?
 intro i
 rw [get_setAt]
 rcases i with _ | i
 ·simp
 ·simp only [List.length_cons,List.getElem?_cons_succ]
  split
  ·next hh=>rw [show i+1-1=i by omega]
  ·rw [List.getElem?_eq_none (by omega),List.getElem?_eq_none (by omega)]
theorem leavesF(l:List Pg):PCall Tryz.prog 31 [.sl 66 (l.map dPg)] (.ret (.fn (.func 53) [] [.ip (.sl 66 (l.map dPg))])):=by
 refine pcall_of_vcZ noC c31 (by simp [a31]) 4 fun hr=>?_
 simp [a31]
inductive CAs:FuncId→List D→Out→Prop
 | leaf (p:Pg) (h:okPg p=true):CAs 36 [dPg p] (.ret (dDg (leafP p)))
theorem hAs:∀ f ds out,CAs f ds out→PCall Tryz.prog f ds out:=by
 intro f ds out h
 cases h with
 | leaf p h=>exact leafPg p h
theorem appendLv(l:List Pg) (hok:∀ p∈l,okPg p=true) (hl:l.length≤1024):PCall Tryz.prog 52 [.nil 1,.fn (.func 53) [] [.ip (.sl 66 (l.map dPg))]] (.ret (.sl 1 ((leavesL l).map dBy))):=by
 refine pcall_of_vc hAs c52 (by simp [a52]) fun hr=>?_
 simp [a52]
 refine vc_range (TF Tryz.prog a53) (hcall_of_vc c53) rfl (by rfl) (fun yl=>by rfl) (fun yl=>?_)
 simp [a53,-List.reduceReplicate]
 have hll:(leavesL l).length=l.length:=by simp [leavesL]
 refine vc_loopK [0,6,7] Nat (fun i=>[(8,true,.d (dI i))]) (fun i=>[(0,.box false [.own 3 1 (((leavesL l).map dBy).take i)]),(3,.row)]) (fun i=>i≤l.length) (fun i=>l.length-i) 0 (by simp) ⟨[],[(3,1)],?_⟩ (fun i hi=>?_)
 ·simp [-List.reduceReplicate]
  try (intro x hx;omega)
 have hw1:IntKind.i64.wrap ((i:Int)+1)=(i:Int)+1:=wrap64 (by omega)
 rcases Nat.lt_or_ge i l.length with hlt | hge
 ·have hlt':(i:Int)<l.length:=by omega
  have kc:=CAs.leaf l[i] (hok _ (List.getElem_mem hlt))
  have hlp:=leafP_len l[i]
  have hts:((leavesL l).map dBy).take (i+1)=((leavesL l).map dBy).take i++[dBy (leafP l[i])]:=by
   rw [List.take_add_one];simp [leavesL,hlt]
  have q1:=l[i].h1
  have q2:=l[i].h2
  generalize leafP l[i]=L at *
  generalize hPi:l[i]=P at *
  simp [hlt,hlt',hPi,dPg_len,dPg_isAgg,dPg_noTup,-List.reduceReplicate]
  have hta:(dPg P).cells=.sl 3 (P.ls.map dLn)::(P.salt.map dU++(dB P.gone::P.left.map dU)):=dPg_cells P
  simp [hta,q1,q2,pg_allD,pg_take65,setAt_all,-List.reduceReplicate]
  refine vc_path [.ret (dDg L)] ?_
  have hLc:(dDg L).cells=L.map dU:=dDg_cells L
  have hLk:List.take 32 (L.map (AV.d∘dU))=L.map (AV.d∘dU):=List.take_of_length_le (by simp [hlp])
  have hfo:D.agg (D.sl 3 (P.ls.map dLn)::(P.salt.map dU++(D.lit (.bool P.gone)::P.left.map dU)))=dPg P:=rfl
  simp [hta,q1,q2,pg_take66,pg_allD,pg_take65,hfo,hLc,hlp,hLk,allD_dU,setAt_all,setAt_all1,-List.reduceReplicate]
  refine⟨kc,regS_path [] ?_⟩
  have hel:D.sl 1 (elsD 1 32 (L.map dU))=dBy L:=by rw [elsD_dU L 32 hlp];rfl
  simp [hLk,hlp,allD_dU,hw1,hel,-List.reduceReplicate]
  refine⟨⟨by omega,by omega⟩,i+1,by omega,by omega,[(3,7)],[],?_⟩
  simp only [hts]
  simp [-List.reduceReplicate]
  exact fun x hx=>.inr ⟨by rw [if_neg (by omega)];rfl,by omega⟩
 ·have hge':¬ (i:Int)<l.length:=by omega
  have hta:((leavesL l).map dBy).take i=(leavesL l).map dBy:=List.take_of_length_le (by simp;omega)
  simp [hge,hge',hta,-List.reduceReplicate]
inductive CCo:FuncId→List D→Out→Prop
 | app (l:List Pg) (hok:∀ p∈l,okPg p=true) (hl:l.length≤1024):CCo 52 [.nil 1,.fn (.func 53) [] [.ip (.sl 66 (l.map dPg))]] (.ret (.sl 1 ((leavesL l).map dBy)))
theorem hCo:∀ f ds out,CCo f ds out→PCall Tryz.prog f ds out:=by
 intro f ds out h
 cases h with
 | app l hok hl=>exact appendLv l hok hl
theorem collectLv(l:List Pg) (hok:∀ p∈l,okPg p=true) (hl:l.length≤1024):PCall Tryz.prog 30 [.fn (.func 53) [] [.ip (.sl 66 (l.map dPg))]] (.ret (.sl 1 ((leavesL l).map dBy))):=by
 refine pcall_of_vc hCo c30 (by simp [a30]) fun hr=>?_
 have k:=CCo.app l hok hl
 simp [a30]
 refine vc_path [.ret (.sl 1 ((leavesL l).map dBy))] ?_
 simp
 exact k
end

section
attribute [local simp] dZ_agg dZ_nt dZ_noTup dZ_cells dZ_one bz_toList bz_size strV dV_cells dV_isAgg dV_noTup dV_nt dBy_cells dBy_one dBy_agg dBy_noTup dBy_nt
attribute [local simp] dG_isAgg dG_noTup dG_nt dG_len dDg_isAgg dDg_noTup dDg_nt
attribute [local simp] dVo_isAgg dVo_noTup dVo_nt dVo_len
set_option maxRecDepth 8000
set_option maxHeartbeats 4000000
theorem leafP_short(p:Pg):(leafP p).length≤10000000000:=by have:=leafP_len p;omega
theorem leavesL_short(l:List Pg):∀ x∈leavesL l,x.length≤10000000000:=by
 intro x hx
 obtain⟨p,_,rfl⟩:=List.mem_map.1 hx
 exact leafP_short p
theorem leavesL_len(l:List Pg):(leavesL l).length=l.length:=by simp [leavesL]
inductive CSe:FuncId→List D→Out→Prop
 | all (l:List Pg):CSe 27 [.sl 66 (l.map dPg),(.fn (.func 28) [] [])] (.ret (dB (l.all okPg)))
 | leaves (l:List Pg):CSe 31 [.sl 66 (l.map dPg)] (.ret (.fn (.func 53) [] [.ip (.sl 66 (l.map dPg))]))
 | coll (l:List Pg) (hok:∀ p∈l,okPg p=true) (hl:l.length≤1024):CSe 30 [.fn (.func 53) [] [.ip (.sl 66 (l.map dPg))]] (.ret (.sl 1 ((leavesL l).map dBy)))
 | root (l:List (List UInt8)) (hl:l.length≤100000) (hb:∀ x∈l,x.length≤10000000000):CSe 26 [.sl 1 (l.map dBy)] (.ret (dDg (rootL l)))
theorem hSe:∀ f ds out,CSe f ds out→PCall Tryz.prog f ds out:=by
 intro f ds out h
 cases h with
 | all l=>exact allPg l
 | leaves l=>exact leavesF l
 | coll l hok hl=>exact collectLv l hok hl
 | root l hl hb=>exact mroot l hl hb
theorem frzL_dU(h:List (Nat×HO)) (k:Nat) (R:List UInt8):frz.frzL h k (R.map (AV.d∘dU)) (R.map dU):=by
 induction R with
 | nil=>simp
 | cons a r ih=>simp only [List.map_cons,Function.comp];rw [frzL_cons];exact⟨by rw [frz_d];exact LeD.refl _,ih⟩
theorem elsD_pgs(l:List Pg):elsD 66 l.length (D.flat (l.map dPg))=l.map dPg:=by
 induction l with
 | nil=>rfl
 | cons a r ih =>
  have hl:=dPg_len a
  have e:D.flat ((a::r).map dPg)=(dPg a).cells++D.flat (r.map dPg):=rfl
  simp only [elsD] at ih ⊢
  rw [if_neg (by omega)] at ih ⊢
  rw [e,List.length_cons,chunkD,List.take_left' hl,List.drop_left' hl,ih]
  rfl
theorem elsD_pg1(p:Pg) (r:List Pg):elsD 66 (r.length+1) (D.flat (dPg p::r.map dPg))=dPg p::r.map dPg:=elsD_pgs (p::r)
theorem flat_pgs(l:List Pg):(D.flat (l.map dPg)).length=l.length*66:=by
 have:=flat_len (es:=l.map dPg) (sz:=66) (fun e he=>by
  obtain⟨p,_,rfl⟩:=List.mem_map.1 he
  exact dPg_len p)
 simpa using this
theorem leVo0:LeD (.agg (.nil 66::z32U.map dU)) (dVo vo0):=by
 refine .agg (.cons (.nil 66) ?_) ?_
 ·exact all2_refl LeD.refl _
 ·intro d hd
  rcases List.mem_cons.1 hd with rfl | hd
  ·rfl
  ·exact dUs_one _ d hd
theorem vseal(l:List Pg):PCall Tryz.prog 9 [.sl 66 (l.map dPg)] (.ret (.tup [dVo (sealV l),dI (sealE l)])):=by
 refine pcall_of_vcZ hSe c9 (by simp [a9]) 4 fun hr=>?_
 simp [a9,-List.reduceReplicate]
 by_cases h0:1024<l.length
 ·have e:sealE l=2:=by unfold sealE;rw [if_pos h0]
  have e2:sealV l=vo0:=by unfold sealV;rw [e,if_neg (by omega)]
  have h0':(1024:Int)<l.length:=by omega
  have h0n:¬ (l.length:Int)≤1024:=by omega
  rw [e,e2]
  simp [h0',h0n,-List.reduceReplicate]
  exact leVo0
 ·have h0':¬ (1024:Int)<l.length:=by omega
  have k1:=CSe.all l
  have h0n:(l.length:Int)≤1024:=by omega
  simp [h0',h0n,-List.reduceReplicate]
  refine vc_path [.ret (dB (l.all okPg))] ?_
  cases ha:l.all okPg with
  | false =>
   have e:sealE l=560:=by unfold sealE;rw [if_neg h0,if_neg (by simp [ha])]
   have e2:sealV l=vo0:=by unfold sealV;rw [e,if_neg (by omega)]
   rw [e,e2]
   rw [ha] at k1
   simp [-List.reduceReplicate]
   exact⟨k1,leVo0⟩
  | true =>
   have e:sealE l=0:=by unfold sealE;rw [if_neg h0,if_pos ha]
   have e2:sealV l=⟨l,sealL l,sealL_len l⟩:=by unfold sealV;rw [if_pos e]
   rw [e]
   rw [ha] at k1
   have k2:=CSe.leaves l
   have k3:=CSe.coll l (by simpa using ha) (by omega)
   have k4:=CSe.root (leavesL l) (by rw [leavesL_len];omega) (leavesL_short l)
   simp [-List.reduceReplicate]
   refine⟨k1,vc_path [.ret (.fn (.func 53) [] [.ip (.sl 66 (l.map dPg))]),.ret (.sl 1 ((leavesL l).map dBy)),.ret (dDg (rootL (leavesL l)))] ?_⟩
   have hR:(rootL (leavesL l)).length=32:=rootL_len _
   have hRc:(dDg (rootL (leavesL l))).cells=(rootL (leavesL l)).map dU:=dDg_cells _
   have hLk:List.take 32 ((rootL (leavesL l)).map (AV.d∘dU))=(rootL (leavesL l)).map (AV.d∘dU):=List.take_of_length_le (by simp [hR])
   rw [e2,show dVo ⟨l,sealL l,sealL_len l⟩=D.agg (.sl 66 (l.map dPg)::(rootL (leavesL l)).map dU) from rfl]
   clear e2
   generalize rootL (leavesL l)=R at *
   cases l with
   | nil =>
    simp [hR,hRc,hLk,setAt_all,setAt_all1,allD_dU,leL_mdU,dU_oneT,-List.reduceReplicate]
    exact⟨k2,k3,k4,frzL_dU _ _ _⟩
   | cons p r =>
    have hrl:r.length≤1023:=by simp at h0;omega
    simp only [List.map_cons] at k2 k3 k4
    simp [hR,hRc,hLk,setAt_all,setAt_all1,allD_dU,leL_mdU,dU_oneT,-List.reduceReplicate]
    have hfl:=flat_pgs (p::r)
    simp only [List.map_cons,List.length_cons] at hfl
    refine⟨by omega,k2,k3,k4,⟨by omega,?_⟩,frzL_dU _ _ _⟩
    rw [elsD_pg1]
    exact LeD.refl _
inductive CCk:FuncId→List D→Out→Prop
 | sealing (l:List Pg):CCk 9 [.sl 66 (l.map dPg)] (.ret (.tup [dVo (sealV l),dI (sealE l)]))
theorem hCk:∀ f ds out,CCk f ds out→PCall Tryz.prog f ds out:=by
 intro f ds out h
 cases h with
 | sealing l=>exact vseal l
theorem vcheck(v:Vo):PCall Tryz.prog 14 [dVo v] (.ret (dI (checkE v))):=by
 refine pcall_of_vc hCk c14 (by simp [a14]) fun hr=>?_
 simp [a14,dVo_cells,-List.reduceReplicate]
 have k:=CCk.sealing v.ps
 have q1:=v.h
 have q2:=(sealV v.ps).h
 refine vc_path [.ret (.tup [dVo (sealV v.ps),dI (sealE v.ps)])] ?_
 simp [dVo_cells,q1,q2,setAt_all,setAt_all1,-List.reduceReplicate]
 refine⟨k,?_⟩
 by_cases hs:sealE v.ps=0
 case neg =>
  have e:checkE v=sealE v.ps:=by unfold checkE;rw [if_pos hs]
  rw [e]
  refine vc_path [] ?_
  simp [hs,-List.reduceReplicate]
  try exact LeD.refl _
 have e:checkE v=if sealL v.ps=v.sl then 0 else 560:=by unfold checkE;rw [if_neg (by simpa using hs)]
 have es:(sealV v.ps).sl=sealL v.ps:=by unfold sealV;rw [if_pos hs]
 rw [e,← es]
 generalize (sealV v.ps).sl=S at *
 have plx:(S.map (AV.d∘dU)).take 32=S.map (AV.d∘dU):=List.take_of_length_le (by simp [q2])
 have ply:(v.sl.map (AV.d∘dU)).take 32=v.sl.map (AV.d∘dU):=List.take_of_length_le (by simp [q1])
 have c1:=eqC_dU q2 q1
 have b1:=eqB_dU _ _ (q2.trans q1.symm)
 by_cases he:S=v.sl
 ·rw [decide_eq_true he] at b1
  rw [if_pos he]
  refine vc_path [] ?_
  simp [hs,plx,ply,allD_dU,q1,q2,c1,b1,-List.reduceReplicate]
  trace_state
 ·rw [decide_eq_false he] at b1
  rw [if_neg he]
  refine vc_path [] ?_
  simp [hs,plx,ply,allD_dU,q1,q2,c1,b1,-List.reduceReplicate]
  trace_state
theorem sealE_ok{l:List Pg}(h:sealE l=0):(∀ p∈l,okPg p=true)∧l.length≤1024:=by
 unfold sealE at h
 split at h
 ·omega
 ·split at h
  ·next h2=>exact⟨by simpa using h2,by omega⟩
  ·omega
theorem checkE_ok{v:Vo}(h:checkE v=0):sealE v.ps=0:=by
 unfold checkE at h
 by_cases hs:sealE v.ps=0
 ·exact hs
 ·rw [if_pos hs] at h;exact h
inductive CPv:FuncId→List D→Out→Prop
 | check (v:Vo):CPv 14 [dVo v] (.ret (dI (checkE v)))
 | within (n l:Int):CPv 35 [dI n,dI l] (.ret (dB (decide (0≤n)&&decide (n<l))))
 | leaves (l:List Pg):CPv 31 [.sl 66 (l.map dPg)] (.ret (.fn (.func 53) [] [.ip (.sl 66 (l.map dPg))]))
 | coll (l:List Pg) (hok:∀ p∈l,okPg p=true) (hl:l.length≤1024):CPv 30 [.fn (.func 53) [] [.ip (.sl 66 (l.map dPg))]] (.ret (.sl 1 ((leavesL l).map dBy)))
 | prove (l:List (List UInt8)) (i:Int) (hl:l.length≤100000) (hb:∀ x∈l,x.length≤10000000000):CPv 39 [.sl 1 (l.map dBy),dI i] (.ret (.tup [.sl 32 ((proveL l i).map dDg),dI (proveE l.length i)]))
 | right (p:Pg):CPv 28 [dPg p] (.ret (dB (okPg p)))
 | leaf (p:Pg) (h:okPg p=true):CPv 36 [dPg p] (.ret (dDg (leafP p)))
 | climb (n i:Int) (leaf:List UInt8) (p:List (List UInt8)) (hlf:leaf.length≤10000000000) (hp:∀ x∈p,x.length=32) (hpl:p.length≤1000000):CPv 41 [dI n,dI i,dBy leaf,.sl 32 (p.map dDg)] (.ret (.tup [dDg (climbL n i leaf p),dI (climbE n i leaf p)]))
theorem hPv:∀ f ds out,CPv f ds out→PCall Tryz.prog f ds out:=by
 intro f ds out h
 cases h with
 | check v=>exact vcheck v
 | within n l=>exact within n l
 | leaves l=>exact leavesF l
 | coll l hok hl=>exact collectLv l hok hl
 | prove l i hl hb=>exact mprove l i hl hb
 | right p=>exact rightPg p
 | leaf p h=>exact leafPg p h
 | climb n i leaf p hlf hp hpl=>exact mClimb n i leaf p hlf hp hpl
theorem vprove(v:Vo) (i:Int):PCall Tryz.prog 17 [dVo v,dI i] (.ret (.tup [.sl 32 ((prvL v i).map dDg),dI (prvE v i)])):=by
 refine pcall_of_vc hPv c17 (by simp [a17]) fun hr=>?_
 have q1:=v.h
 have k1:=CPv.check v
 simp [a17,dVo_cells,-List.reduceReplicate]
 have hal:allD (List.map (AV.d∘dU) v.sl)=some (v.sl.map dU):=allD_dU _
 have hfo:D.agg (.sl 66 (v.ps.map dPg)::v.sl.map dU)=dVo v:=rfl
 have htk:List.take 32 (v.sl.map (AV.d∘dU))=v.sl.map (AV.d∘dU):=List.take_of_length_le (by simp [q1])
 refine vc_path [.ret (dI (checkE v))] ?_
 by_cases hc:checkE v=0
 case neg =>
  have e:prvE v i=checkE v:=by unfold prvE;rw [if_pos hc]
  have e2:prvL v i=[]:=by unfold prvL;rw [e,if_neg hc]
  rw [e,e2]
  simp [hc,q1,hal,htk,hfo,-List.reduceReplicate]
  exact k1
 obtain⟨hok,hlen⟩:=sealE_ok (checkE_ok hc)
 rw [hc] at k1
 have k2:=CPv.within i v.ps.length
 rw [hc]
 simp [q1,hal,htk,hfo,-List.reduceReplicate]
 refine⟨k1,vc_path [.ret (dB (decide (0≤i)&&decide (i<v.ps.length)))] ?_⟩
 by_cases hi:i<0∨v.ps.length≤i
 case pos =>
  have e:prvE v i=1:=by unfold prvE;rw [if_neg (by omega),if_pos hi]
  have e2:prvL v i=[]:=by unfold prvL;rw [e,if_neg (by omega)]
  have eb:(decide (0≤i)&&decide (i<v.ps.length))=false:=by
   rcases hi with h | h
   ·rw [decide_eq_false (by omega:¬ 0≤i)];rfl
   ·rw [decide_eq_false (by omega:¬ i<v.ps.length)];simp
  rw [eb] at k2 ⊢
  rw [e,e2]
  simp [-List.reduceReplicate]
  exact k2
 have eb:(decide (0≤i)&&decide (i<v.ps.length))=true:=by
  rw [decide_eq_true (by omega),decide_eq_true (by omega)];rfl
 rw [eb] at k2 ⊢
 have e:prvE v i=0:=by unfold prvE;rw [if_neg (by omega),if_neg hi]
 have k3:=CPv.leaves v.ps
 have k4:=CPv.coll v.ps hok hlen
 have k5:=CPv.prove (leavesL v.ps) i (by rw [leavesL_len];omega) (leavesL_short v.ps)
 have e3:proveE (leavesL v.ps).length i=0:=by unfold proveE;rw [leavesL_len,if_neg (by omega)]
 have e4:prvL v i=proveL (leavesL v.ps) i:=by unfold prvL proveL;rw [if_pos e,if_pos e3]
 rw [e,e4]
 rw [e3] at k5
 simp [-List.reduceReplicate]
 refine⟨k2,vc_path [.ret (.fn (.func 53) [] [.ip (.sl 66 (v.ps.map dPg))]),.ret (.sl 1 ((leavesL v.ps).map dBy)),.ret (.tup [.sl 32 ((proveL (leavesL v.ps) i).map dDg),dI 0])] ?_⟩
 simp [-List.reduceReplicate]
 exact⟨k3,k4,k5⟩
theorem allD1_dU(p:List UInt8):allD1 (p.map (AV.d∘dU))=some (p.map dU):=by
 induction p with
 | nil=>rfl
 | cons a r ih=>simp [allD1,ih,AV.toD1]
theorem vverify(S:List UInt8) (hS:S.length=32) (many i:Int) (hm:-9223372036854775808≤many∧many<9223372036854775808) (p:Pg) (path:List (List UInt8)) (hp:∀ x∈path,x.length=32) (hpl:path.length≤1000000):PCall Tryz.prog 19 [dDg S,dI many,dI i,dPg p,.sl 32 (path.map dDg)] (.ret (.tup [dB (verB S many i p path),dI (verE many i p path)])):=by
 refine pcall_of_vc hPv c19 (by simp [a19]) fun hr=>?_
 have q1:=p.h1
 have q2:=p.h2
 have hta:(dPg p).cells=.sl 3 (p.ls.map dLn)::(p.salt.map dU++(dB p.gone::p.left.map dU)):=dPg_cells p
 have hSc:(dDg S).cells=S.map dU:=dDg_cells S
 have hfo:D.agg (D.sl 3 (p.ls.map dLn)::(p.salt.map dU++(D.lit (.bool p.gone)::p.left.map dU)))=dPg p:=rfl
 have bad:∀ e:Int,e≠0→verE many i p path=e→verB S many i p path=false:=fun e he h=>by unfold verB;rw [h,decide_eq_false he];rfl
 simp [a19,dPg_noTup,hta,hSc,-List.reduceReplicate]
 have k1:=CPv.within (IntKind.i64.wrap (many-1)) 1024
 have k2:=CPv.within i many
 have hw:(decide (0≤IntKind.i64.wrap (many-1))&&decide (IntKind.i64.wrap (many-1)<1024))=decide (1≤many∧many≤1024):=by
  by_cases h:many=-9223372036854775808
  ·subst h;rfl
  ·rw [wrap64 (by omega),← Bool.decide_and]
   congr 1
   exact propext ⟨fun h=>by omega,fun h=>by omega⟩
 rw [hw] at k1
 by_cases h1:1≤many∧many≤1024
 case neg =>
  have e:verE many i p path=1:=by unfold verE;rw [if_pos (by omega)]
  rw [e,bad 1 (by omega) e]
  rw [decide_eq_false h1] at k1
  refine vc_path [.ret (dB false)] ?_
  simp [-List.reduceReplicate]
  exact k1
 rw [decide_eq_true h1] at k1
 by_cases h2:0≤i∧i<many
 case neg =>
  have e:verE many i p path=1:=by unfold verE;rw [if_pos (by omega)]
  have eb:(decide (0≤i)&&decide (i<many))=false:=by rw [← Bool.decide_and,decide_eq_false h2]
  rw [e,bad 1 (by omega) e]
  rw [eb] at k2
  refine vc_path [.ret (dB true),.ret (dB false)] ?_
  simp [-List.reduceReplicate]
  exact⟨k1,k2⟩
 have eb:(decide (0≤i)&&decide (i<many))=true:=by rw [← Bool.decide_and,decide_eq_true h2]
 rw [eb] at k2
 have k3:=CPv.right p
 refine vc_path [.ret (dB true),.ret (dB true)] ?_
 simp [-List.reduceReplicate]
 refine⟨k1,k2,vc_path [.ret (dB (okPg p))] ?_⟩
 by_cases ho:okPg p=true
 case neg =>
  have ho:okPg p=false:=by simpa using ho
  have e:verE many i p path=560:=by unfold verE;rw [if_neg (by omega),ho];rfl
  rw [e,bad 560 (by omega) e]
  rw [ho] at k3 ⊢
  simp [q1,q2,pg_take66,pg_allD,pg_take65,hfo,-List.reduceReplicate]
  exact k3
 have e:verE many i p path=climbE many i (leafP p) path:=by unfold verE;rw [if_neg (by omega),if_pos ho]
 have hlp:=leafP_len p
 have k4:=CPv.leaf p ho
 have k5:=CPv.climb many i (leafP p) path (leafP_short p) hp hpl
 have eV:verB S many i p path=(decide (climbE many i (leafP p) path=0)&&decide (climbL many i (leafP p) path=S)):=by unfold verB;rw [e]
 have hcl:=climbL_len many i (leafP p) path
 rw [e,eV]
 rw [ho] at k3 ⊢
 simp [q1,q2,pg_take66,pg_allD,pg_take65,hfo,-List.reduceReplicate]
 refine⟨k3,vc_path [.ret (dDg (leafP p))] ?_⟩
 have hLc:(dDg (leafP p)).cells=(leafP p).map dU:=dDg_cells _
 have hLk:List.take 32 ((leafP p).map (AV.d∘dU))=(leafP p).map (AV.d∘dU):=List.take_of_length_le (by simp [hlp])
 generalize leafP p=L at *
 generalize climbL many i L path=X at *
 generalize climbE many i L path=E at *
 have hXc:(dDg X).cells=X.map dU:=dDg_cells _
 have hXk:List.take 32 (X.map (AV.d∘dU))=X.map (AV.d∘dU):=List.take_of_length_le (by simp [hcl])
 have hSk:List.take 32 (S.map (AV.d∘dU))=S.map (AV.d∘dU):=List.take_of_length_le (by simp [hS])
 simp [hta,q1,q2,pg_take66,pg_allD,pg_take65,hfo,hLc,hlp,hLk,allD_dU,setAt_all,-List.reduceReplicate]
 refine⟨k4,vc_path [.ret (.tup [dDg X,dI E])] ?_⟩
 have hel:D.sl 1 (elsD 1 32 (L.map dU))=dBy L:=by rw [elsD_dU L 32 hlp];rfl
 simp [hLk,hlp,allD_dU,allD1_dU,hel,hXc,hcl,setAt_all,-List.reduceReplicate]
 have hfree:Free (D.tup [dDg X,D.lit (Value.int IntKind.i64 E)]):=.tup fun c hc=>by
  rcases List.mem_cons.1 hc with rfl | hc
  ·refine .agg fun c hc=>?_
   obtain⟨u,_,rfl⟩:=List.mem_map.1 hc
   exact .lit _
  ·rw [List.mem_singleton.1 hc];exact .lit _
 have c1:=eqC_dU hcl hS
 have b1:=eqB_dU _ _ (hcl.trans hS.symm)
 refine⟨k5,hfree,vc_path [] ?_⟩
 by_cases hE:E=0
 ·subst hE
  simp [hXk,hSk,hXc,hcl,hS,allD_dU,c1,b1,setAt_all,-List.reduceReplicate]
 ·simp [hE,hXk,hSk,hXc,hcl,hS,allD_dU,c1,b1,setAt_all,-List.reduceReplicate]
end

section
set_option maxRecDepth 8000
set_option maxHeartbeats 4000000
theorem setAt_right(A B news:List AV) (m:Nat):setAt (A++B) (A.length+m) news=A++setAt B m news:=by
 apply List.ext_getElem?
 intro k
 rw [get_setAt]
 by_cases hk:k<A.length
 ·rw [if_neg (by omega),List.getElem?_append_left hk,List.getElem?_append_left hk]
 ·rw [List.getElem?_append_right (l₂:=setAt B m news) (by omega),get_setAt,List.getElem?_append_right (by omega),List.length_append]
  by_cases hc:m≤k-A.length∧k-A.length<m+news.length∧k-A.length<B.length
  ·rw [if_pos hc,if_pos (by omega),show k-(A.length+m)=k-A.length-m by omega]
  ·rw [if_neg hc,if_neg (by omega)]
theorem setAt_left(A B news:List AV) (h:news.length=A.length):setAt (A++B) 0 news=news++B:=by
 apply List.ext_getElem?
 intro k
 rw [get_setAt,List.length_append]
 by_cases hk:k<A.length
 ·rw [if_pos (by omega),List.getElem?_append_left (by omega),Nat.sub_zero]
 ·rw [if_neg (by omega),List.getElem?_append_right (by omega),List.getElem?_append_right (by omega),h]
theorem wr_cons(x:D) (l:List D):wr (x::l)=x.cells.map .d++wr l:=by simp [wr,D.flat]
theorem wr_setN{z:Nat}:∀ {es:List D}{n:Nat}{cs:List D},(∀ e∈es,e.cells.length=z)→cs.length=z→n<es.length→setAt (wr es) (n*z) (cs.map AV.d)=wr (es.set n (.agg cs))
 | [],n,cs,_,_,h=>by simp at h
 | e::es,0,cs,hz,hc,_=>by
  have he:=hz e (by simp)
  rw [wr_cons,Nat.zero_mul,setAt_left _ _ _ (by simp [he,hc]),List.set_cons_zero,wr_cons];rfl
 | e::es,n+1,cs,hz,hc,h=>by
  have he:=hz e (by simp)
  have ih:=wr_setN (es:=es) (n:=n) (cs:=cs) (fun x hx=>hz x (by simp [hx])) hc (by simpa using h)
  rw [wr_cons,show (n+1)*z=(e.cells.map AV.d).length+n*z by simp [he,Nat.add_mul,Nat.add_comm],setAt_right,ih,List.set_cons_succ,wr_cons]
theorem allD_wr(es:List D):allD (wr es)=some (D.flat es):=allD_map _
def rawG (L:List UInt8):List D:=.nil 3::(z32U.map dU++(dB true::L.map dU))
theorem rawG_len(L:List UInt8) (h:L.length=32):(rawG L).length=66:=by simp [rawG,h,z32U_len]
theorem rawG_le(P:Pg):All2 LeD (rawG (leafP P)) (dPg (goneP P)).cells:=by
 show All2 LeD (.nil 3::(z32U.map dU++(dB true::(leafP P).map dU))) (.sl 3 []::(z32U.map dU++(dB true::(leafP P).map dU)))
 exact .cons (.nil 3) (all2_refl LeD.refl _)
theorem pgs_all2{P:Pg}:∀ {ps:List Pg}{n:Nat},ps[n]?=some P→All2 (fun x y:D=>All2 LeD x.cells y.cells) ((ps.map dPg).set n (.agg (rawG (leafP P)))) ((ps.modify n goneP).map dPg)
 | [],n,h=>by simp at h
 | p::r,0,h=>by
  simp at h;subst h
  simp only [List.map_cons,List.set_cons_zero,List.modify_zero_cons]
  exact .cons (rawG_le p) (all2_refl (R:=fun x y:D=>All2 LeD x.cells y.cells) (fun x=>all2_refl LeD.refl x.cells) _)
 | p::r,n+1,h=>by
  simp only [List.map_cons,List.set_cons_succ,List.modify_succ_cons]
  exact .cons (all2_refl LeD.refl _) (pgs_all2 (by simpa using h))
theorem pgs_le{ps:List Pg}{n:Nat}{P:Pg}(hn:ps[n]?=some P):LeD (.sl 66 ((ps.map dPg).set n (.agg (rawG (leafP P))))) (.sl 66 ((ps.modify n goneP).map dPg)):=by
 refine LeD_sl (all2_flat (pgs_all2 hn)) ?_ ?_ ?_
 ·simp
 ·intro e he
  obtain⟨v,_,rfl⟩:=List.mem_map.1 he
  exact dPg_len v
 ·intro c hc
  obtain⟨d,hd,hcd⟩:=List.mem_flatMap.1 hc
  obtain⟨v,_,rfl⟩:=List.mem_map.1 hd
  rw [dPg_cells] at hcd
  rcases List.mem_cons.1 hcd with rfl | hcd
  ·rfl
  ·rcases List.mem_append.1 hcd with hcd | hcd
   ·exact dUs_one _ c hcd
   ·rcases List.mem_cons.1 hcd with rfl | hcd
    ·rfl
    ·exact dUs_one _ c hcd
theorem elsD_set(ps:List Pg) (n:Nat) (cs:List D) (hc:cs.length=66):elsD 66 ps.length (D.flat ((ps.map dPg).set n (.agg cs)))=(ps.map dPg).set n (.agg cs):=by
 have:=chunkD_wr (z:=66) ((ps.map dPg).set n (.agg cs)) (fun e he=>by
  rcases List.mem_or_eq_of_mem_set he with he | rfl
  ·obtain⟨s,_,rfl⟩:=List.mem_map.1 he;exact⟨rfl,dPg_len s⟩
  ·exact⟨rfl,hc⟩)
 rw [List.length_set,List.length_map] at this
 unfold elsD
 rw [if_neg (by decide),this]
theorem rawG_set(L:List UInt8) (hL:L.length=32):setAt (AV.d (.nil 3)::(List.replicate 32 (AV.d (D.lit (.int .u8 0)))++(AV.d (D.lit (.bool true))::List.replicate 32 (AV.d (D.lit (.int .u8 0)))))) 34 (L.map (AV.d∘dU))=(rawG L).map AV.d:=by
 have h:=setAt_right (AV.d (.nil 3)::(List.replicate 32 (AV.d (D.lit (.int .u8 0)))++[AV.d (D.lit (.bool true))])) (List.replicate 32 (AV.d (D.lit (.int .u8 0)))) (L.map (AV.d∘dU)) 0
 rw [setAt_all _ _ (by simp [hL])] at h
 simp only [List.cons_append,List.append_assoc,List.nil_append] at h
 rw [show (AV.d (.nil 3)::(List.replicate 32 (AV.d (D.lit (.int .u8 0)))++[AV.d (D.lit (.bool true))])).length+0=34 from rfl] at h
 rw [h]
 simp [rawG]
 rfl
end

section
attribute [local simp] dZ_agg dZ_nt dZ_noTup dZ_cells dZ_one bz_toList bz_size strV dV_cells dV_isAgg dV_noTup dV_nt dBy_cells dBy_one dBy_agg dBy_noTup dBy_nt
attribute [local simp] dG_isAgg dG_noTup dG_nt dG_len dDg_isAgg dDg_noTup dDg_nt
attribute [local simp] dVo_isAgg dVo_noTup dVo_nt dVo_len
set_option maxRecDepth 8000
set_option maxHeartbeats 4000000
theorem vredact(v:Vo) (i:Int):PCall Tryz.prog 11 [dVo v,dI i] (.ret (.tup [dVo (redV v i),dI (redE v i)])):=by
 refine pcall_of_vcZ hPv c11 (by simp [a11]) 4 fun hr=>?_
 have q1:=v.h
 have k1:=CPv.check v
 simp [a11,dVo_cells,-List.reduceReplicate]
 have hal:allD (List.map (AV.d∘dU) v.sl)=some (v.sl.map dU):=allD_dU _
 have hfo:D.agg (.sl 66 (v.ps.map dPg)::v.sl.map dU)=dVo v:=rfl
 have htk:List.take 32 (v.sl.map (AV.d∘dU))=v.sl.map (AV.d∘dU):=List.take_of_length_le (by simp [q1])
 refine vc_path [.ret (dI (checkE v))] ?_
 by_cases hc:checkE v=0
 case neg =>
  have e:redE v i=checkE v:=by unfold redE;rw [if_pos hc]
  have e2:redV v i=vo0:=by unfold redV;rw [e,if_neg hc]
  rw [e,e2]
  simp [hc,q1,hal,htk,hfo,-List.reduceReplicate]
  exact⟨k1,leVo0⟩
 obtain⟨hok,hlen⟩:=sealE_ok (checkE_ok hc)
 rw [hc] at k1
 have k2:=CPv.within i v.ps.length
 rw [hc]
 simp [q1,hal,htk,hfo,-List.reduceReplicate]
 refine⟨k1,vc_path [.ret (dB (decide (0≤i)&&decide (i<v.ps.length)))] ?_⟩
 by_cases hi:i<0∨v.ps.length≤i
 case pos =>
  have e:redE v i=1:=by unfold redE;rw [if_neg (by omega),if_pos hi]
  have e2:redV v i=vo0:=by unfold redV;rw [e,if_neg (by omega)]
  have eb:(decide (0≤i)&&decide (i<v.ps.length))=false:=by
   rcases hi with h | h
   ·rw [decide_eq_false (by omega:¬ 0≤i)];rfl
   ·rw [decide_eq_false (by omega:¬ i<v.ps.length)];simp
  rw [eb] at k2 ⊢
  rw [e,e2]
  simp [-List.reduceReplicate]
  exact⟨k2,leVo0⟩
 have eb:(decide (0≤i)&&decide (i<v.ps.length))=true:=by
  rw [decide_eq_true (by omega),decide_eq_true (by omega)];rfl
 rw [eb] at k2 ⊢
 have e:redE v i=0:=by unfold redE;rw [if_neg (by omega),if_neg hi]
 obtain⟨n,rfl⟩:∃ n:Nat,i=n:=⟨i.toNat,by omega⟩
 have e2:redV v n=⟨v.ps.modify n goneP,v.sl,v.h⟩:=by unfold redV;rw [if_pos e];simp
 have hn:n<v.ps.length:=by omega
 have k3:=CPv.leaf v.ps[n] (hok _ (List.getElem_mem hn))
 rw [e,e2,show dVo ⟨v.ps.modify n goneP,v.sl,v.h⟩=D.agg (.sl 66 ((v.ps.modify n goneP).map dPg)::v.sl.map dU) from rfl]
 clear hfo e2 e eb k1 hc hal hr
 obtain⟨ps,sl,hsl⟩:=v
 simp only at *
 cases ps with
 | nil=>simp at hn
 | cons p r =>
  simp [q1,htk,setAt_all,setAt_all1,allD_dU,-List.reduceReplicate]
  simp only [List.length_cons] at hn hlen
  have hn2:(n:Int)<r.length+1:=by omega
  obtain⟨P,hP⟩:∃ P,(p::r)[n]=P:=⟨_,rfl⟩
  rw [hP] at k3
  have hgp:(dPg p::List.map dPg r)[n]?=some (dPg P):=by
   rw [← List.map_cons,List.getElem?_map,List.getElem?_eq_getElem hn,hP];rfl
  have p1:=P.h1
  have p2:=P.h2
  have hta:(dPg P).cells=.sl 3 (P.ls.map dLn)::(P.salt.map dU++(dB P.gone::P.left.map dU)):=dPg_cells P
  have hL:=leafP_len P
  have hLc:=dDg_cells (leafP P)
  have hgo:(goneP P).left=leafP P:=rfl
  have hgc:(dPg (goneP P)).cells=.sl 3 []::(z32U.map dU++(dB true::(leafP P).map dU)):=rfl
  have hpl:=pgs_le (ps:=p::r) (n:=n) (P:=P) (by rw [List.getElem?_eq_getElem hn,hP])
  generalize leafP P=L at *
  refine⟨by simpa using k2,by omega,rfl,vc_pathD [.ret (dDg L)] ?_⟩
  have hgn:∀ h,(dPg p::List.map dPg r)[n]'h=dPg P:=fun h=>by
   have:=List.getElem?_eq_getElem h
   rw [hgp] at this;exact(Option.some.inj this).symm
  have hset:=rawG_set L hL
  simp only [List.reduceReplicate,List.cons_append,List.nil_append] at hset
  have hrl:=rawG_len L hL
  have hwr:setAt (wr (dPg p::List.map dPg r)) (n*66) ((rawG L).map AV.d)=wr ((dPg p::List.map dPg r).set n (.agg (rawG L))):=by
   refine wr_setN (fun e he=>?_) hrl (by simpa using hn)
   rw [← List.map_cons] at he
   obtain⟨q,_,rfl⟩:=List.mem_map.1 he
   exact dPg_len q
  have hfl:=flat_pgs (p::r)
  simp only [List.map_cons,List.length_cons] at hfl
  have hsk:List.take 32 (sl.map (AV.d∘dU))=sl.map (AV.d∘dU):=List.take_of_length_le (by simp [hsl])
  have hRa:allD ((rawG L).map AV.d)=some (rawG L):=allD_map _
  simp [hn,hn2,hgn,dPg_len,dPg_isAgg,dPg_noTup,hLc,hL,hset,hRa,hrl,hwr,hsl,hsk,setAt_all,setAt_all1,-List.reduceReplicate]
  have hels:=elsD_set (p::r) n (rawG L) hrl
  have hsl2:(D.flat ((dPg p::List.map dPg r).set n (.agg (rawG L)))).length=(r.length+1)*66:=by
   have:=flat_len (es:=(dPg p::List.map dPg r).set n (.agg (rawG L))) (sz:=66) (fun e he=>by
    rcases List.mem_or_eq_of_mem_set he with he | rfl
    ·rw [← List.map_cons] at he
     obtain⟨q,_,rfl⟩:=List.mem_map.1 he
     exact dPg_len q
    ·exact hrl)
   simpa using this
  simp only [List.map_cons,List.length_cons] at hels hpl
  refine⟨k3,by omega,rfl,⟨⟨by omega,?_⟩,frzL_dU _ _ _⟩,fun a _=>rfl⟩
  rw [hels]
  exact hpl
end

section
attribute [local simp] dZ_agg dZ_nt dZ_noTup dZ_cells dZ_one bz_toList bz_size strV dV_cells dV_isAgg dV_noTup dV_nt dBy_cells dBy_one dBy_agg dBy_noTup dBy_nt
attribute [local simp] dG_isAgg dG_noTup dG_nt dG_len dDg_isAgg dDg_noTup dDg_nt
set_option maxRecDepth 8000
set_option maxHeartbeats 4000000
inductive Cr7t:FuncId→List D→Out→Prop
 | sum (b:List UInt8) (hb:b.length≤100000000000):Cr7t 83 [dBy b] (.ret (.agg ((shaL b).map dU)))
theorem hr7t:∀ f ds out,Cr7t f ds out→PCall Tryz.prog f ds out:=by
 intro f ds out h
 cases h with
 | sum b hb=>exact rsum b hb
theorem r7text(t b:List UInt8) (ht:t.length≤1000) (hb:b.length≤10000000000):PCall Tryz.prog 84 [dZ t,dBy b] (.ret (dBy (mtext t [b]))):=by
 refine pcall_of_vc hr7t c84 (by simp [a84]) fun hr=>?_
 have h1:=Cr7t.sum t (by omega)
 have hl1:=shaL_len t
 have e:mtext t [b]=shaL t++b:=by simp [mtext]
 rw [e]
 simp [a84,dZ_eq,-List.reduceReplicate]
 refine vc_path [.ret (.agg ((shaL t).map dU))] ?_
 simp [strD_bz,-List.reduceReplicate]
 generalize shaL t=A at *
 simp [setAt_all,hl1,allD_dU,dBy,elsD_dU A 32 hl1,-List.reduceReplicate]
 exact⟨h1,by omega,by omega⟩
inductive Cr7w:FuncId→List D→Out→Prop
 | text (t b:List UInt8) (ht:t.length≤1000) (hb:b.length≤10000000000):Cr7w 84 [dZ t,dBy b] (.ret (dBy (mtext t [b])))
theorem hr7w:∀ f ds out,Cr7w f ds out→PCall Tryz.prog f ds out:=by
 intro f ds out h
 cases h with
 | text t b ht hb=>exact r7text t b ht hb
theorem r7two(a b:List UInt8) (ha:a.length=32) (hb:b.length=32):PCall Tryz.prog 85 [dDg a,dDg b] (.ret (dBy (mtext tNode [a,b]))):=by
 refine pcall_of_vc hr7w c85 (by simp [a85]) fun hr=>?_
 have h1:=Cr7w.text tNode (a++b) (by simp [tNode]) (by simp;omega)
 have e:mtext tNode [a++b]=mtext tNode [a,b]:=by simp [mtext]
 rw [e] at h1
 generalize mtext tNode [a,b]=T at *
 simp [a85,dDg,-List.reduceReplicate]
 refine vc_pathD [.ret (dBy T)] ?_
 have e2:D.sl 1 (a.map dU++b.map dU)=dBy (a++b):=by simp [dBy]
 simp [ha,hb,allD_dU,elsD_dU a 32 ha,elsD_dU b 32 hb,e2,-List.reduceReplicate]
 exact⟨h1,rfl⟩
inductive Cr7n:FuncId→List D→Out→Prop
 | text (t b:List UInt8) (ht:t.length≤1000) (hb:b.length≤10000000000):Cr7n 84 [dZ t,dBy b] (.ret (dBy (mtext t [b])))
 | two (a b:List UInt8) (ha:a.length=32) (hb:b.length=32):Cr7n 85 [dDg a,dDg b] (.ret (dBy (mtext tNode [a,b])))
 | sum (b:List UInt8) (hb:b.length≤100000000000):Cr7n 83 [dBy b] (.ret (.agg ((shaL b).map dU)))
theorem hr7n:∀ f ds out,Cr7n f ds out→PCall Tryz.prog f ds out:=by
 intro f ds out h
 cases h with
 | text t b ht hb=>exact r7text t b ht hb
 | two a b ha hb=>exact r7two a b ha hb
 | sum b hb=>exact rsum b hb
theorem sha_leaf(b:List UInt8):shaL (mtext tLeaf [b])=leafH b:=by unfold mtext leafH tagL;simp
theorem r7first(l:List (List UInt8)) (hl:l.length≤100000) (hb:∀ x∈l,x.length≤10000000000):PCall Tryz.prog 56 [.sl 1 (l.map dBy)] (.ret (.sl 32 ((l.map leafH).map dDg))):=by
 refine pcall_of_vc hr7n c56 (by simp [a56]) fun hr=>?_
 simp [a56]
 refine vc_loopK [0] Nat (fun i=>[(4,true,.d (dI i)),(3,true,.own 0 32 ((l.map fun b=>dDg (leafH b)).take i))]) (fun i=>[(0,.row)]) (fun i=>i≤l.length) (fun i=>l.length-i) 0 (by simp) ⟨[],[],?_⟩ (fun i hi=>?_)
 ·simp
  try (intro x hx;omega)
 have hw1:IntKind.i64.wrap ((i:Int)+1)=(i:Int)+1:=wrap64 (by omega)
 rcases Nat.lt_or_ge i l.length with hlt | hge
 ·have hlt':(i:Int)<l.length:=by omega
  have k1:=Cr7n.text tLeaf l[i] (by simp [tLeaf]) (hb _ (List.getElem_mem hlt))
  have hm:=mtext_len tLeaf [l[i]]
  have hbi:=hb _ (List.getElem_mem hlt)
  have k2:=Cr7n.sum (mtext tLeaf [l[i]]) (by rw [hm];simp;omega)
  rw [sha_leaf] at k2
  have hlh:=dg_len (leafH l[i]) (tagL_len _ _)
  have hts:(l.map fun b=>dDg (leafH b)).take (i+1)=(l.map fun b=>dDg (leafH b)).take i++[dDg (leafH l[i])]:=by
   rw [List.take_add_one];simp [hlt]
  have hfo:D.agg ((leafH l[i]).map dU)=dDg (leafH l[i]):=rfl
  generalize mtext tLeaf [l[i]]=T at *
  simp [hlt,hlt']
  refine vc_path [.ret (dBy T),.ret (dDg (leafH l[i]))] ?_
  simp [hlt,hlt',hw1,hlh]
  refine⟨k1,k2,⟨by omega,by omega⟩,i+1,by omega,by omega,[(0,2)],[],?_⟩
  simp only [hts]
  simp
 ·have hge':¬ (i:Int)<l.length:=by omega
  have hta:(l.map fun b=>dDg (leafH b)).take i=(l.map leafH).map dDg:=by rw [List.take_of_length_le (by simp;omega)];simp
  simp [hge',hge,hta]
  try exact LeD.refl _
theorem r7next(row:List (List UInt8)) (h32:∀ x∈row,x.length=32) (hl:row.length≤100000):PCall Tryz.prog 57 [.sl 32 (row.map dDg)] (.ret (.sl 32 ((upL row).map dDg))):=by
 refine pcall_of_vc hr7n c57 (by simp [a57]) fun hr=>?_
 simp [a57]
 have hul:=upL_len row
 refine vc_loopK [0] Nat (fun k=>[(4,true,.d (dI (2*k:Nat))),(3,true,.own 0 32 (((upL row).map dDg).take k))]) (fun i=>[(0,.row)]) (fun k=>k≤(upL row).length) (fun k=>(upL row).length-k) 0 (by simp) ⟨[],[],?_⟩ (fun k hk=>?_)
 ·simp
  try (intro x hx;omega)
 have hw1:IntKind.i64.wrap (2*(k:Int)+1)=2*(k:Int)+1:=wrap64 (by omega)
 have hw2:IntKind.i64.wrap (2*(k:Int)+2)=2*(k:Int)+2:=wrap64 (by omega)
 have hg:=upL_get row k
 have ht1:(2*(k:Int)).toNat=2*k:=by omega
 have ht2:(2*(k:Int)+1).toNat=2*k+1:=by omega
 have hp0:0≤2*(k:Int):=by omega
 rcases Nat.lt_or_ge (2*k) row.length with hlt | hge
 ·have hlt':(2*(k:Int))<row.length:=by omega
  rw [List.getElem?_eq_getElem hlt] at hg
  have ha:=h32 _ (List.getElem_mem hlt)
  rcases Nat.lt_or_ge (2*k+1) row.length with hl2 | hl2
  ·have hl2':(2*(k:Int)+1)<row.length:=by omega
   rw [List.getElem?_eq_getElem hl2] at hg
   simp only at hg
   have hb:=h32 _ (List.getElem_mem hl2)
   have hts:((upL row).map dDg).take (k+1)=((upL row).map dDg).take k++[dDg (nodeH row[2*k] row[2*k+1])]:=by
    rw [List.take_add_one];simp [hg]
   have k1:=Cr7n.two row[2*k] row[2*k+1] ha hb
   have hm:=mtext_len tNode [row[2*k],row[2*k+1]]
   have k2:=Cr7n.sum (mtext tNode [row[2*k],row[2*k+1]]) (by rw [hm];simp;omega)
   rw [sha_node] at k2
   have hlh:=dg_len (nodeH row[2*k] row[2*k+1]) (tagL_len _ _)
   have dga:=dg_len _ ha
   have dgb:=dg_len _ hb
   generalize mtext tNode [row[2*k],row[2*k+1]]=T at *
   simp [hlt,hlt',hl2,hl2',hw1,hw2,ht1,ht2,hp0]
   refine vc_pathD [.ret (dBy T),.ret (dDg (nodeH row[2*k] row[2*k+1]))] ?_
   simp [hlt,hlt',hl2,hl2',hw1,hw2,ht1,ht2,hp0,hlh,dga,dgb]
   refine⟨by omega,k1,k2,⟨by omega,by omega⟩,rfl,k+1,by omega,by omega,[(0,2)],[],?_⟩
   simp only [hts]
   simp
   rw [show 2*((k:Int)+1)=2*k+2 by omega];exact LeD.refl _
  ·have hl2':¬ (2*(k:Int)+1)<row.length:=by omega
   rw [List.getElem?_eq_none hl2] at hg
   simp only at hg
   have hts:((upL row).map dDg).take (k+1)=((upL row).map dDg).take k++[dDg row[2*k]]:=by
    rw [List.take_add_one];simp [hg]
   have dga:=dg_len _ ha
   simp [hlt,hlt',hl2,hl2',hw1,hw2,ht1,ht2,hp0,dga]
   refine⟨⟨by omega,by omega⟩,k+1,by omega,by omega,[(0,2)],[],?_⟩
   simp only [hts]
   simp
   rw [show 2*((k:Int)+1)=2*k+2 by omega];exact LeD.refl _
 ·have hge':¬ (2*(k:Int))<row.length:=by omega
  have hta:((upL row).map dDg).take k=(upL row).map dDg:=List.take_of_length_le (by simp;omega)
  simp [hge,hge',hta]
  try exact LeD.refl _
inductive Cr7r:FuncId→List D→Out→Prop
 | first (l:List (List UInt8)) (hl:l.length≤100000) (hb:∀ x∈l,x.length≤10000000000):Cr7r 56 [.sl 1 (l.map dBy)] (.ret (.sl 32 ((l.map leafH).map dDg)))
 | next (row:List (List UInt8)) (h32:∀ x∈row,x.length=32) (hl:row.length≤100000):Cr7r 57 [.sl 32 (row.map dDg)] (.ret (.sl 32 ((upL row).map dDg)))
 | tag0 (t:List UInt8) (ht:t.length≤1000):Cr7r 55 [dZ t,.nil 0] (.ret (dDg (tagL t [])))
theorem hr7r:∀ f ds out,Cr7r f ds out→PCall Tryz.prog f ds out:=by
 intro f ds out h
 cases h with
 | first l hl hb=>exact r7first l hl hb
 | next row h32 hl=>exact r7next row h32 hl
 | tag0 t ht=>exact(rtagged t [] ht (by simp)).le (.cons (LeD.refl _) (.cons (LeD.nil' _ _) .nil))
theorem r7root(l:List (List UInt8)) (hl:l.length≤100000) (hb:∀ x∈l,x.length≤10000000000):PCall Tryz.prog 33 [.sl 1 (l.map dBy)] (.ret (dDg (rootL l))):=by
 refine pcall_of_vc hr7r c33 (by simp [a33]) fun hr=>?_
 simp [a33,-List.reduceReplicate]
 by_cases h0:l=[]
 ·subst h0
  have k:=Cr7r.tag0 tNone (by simp [tNone])
  have e:rootL []=tagL tNone []:=rfl
  have hh:=tagL_len tNone []
  rw [e]
  generalize tagL tNone []=T at *
  simp [-List.reduceReplicate]
  refine vc_path [.ret (dDg T)] ?_
  simp [setAt_all,hh,dDg,-List.reduceReplicate]
  refine⟨k,?_⟩
  rw [List.take_of_length_le (by simp [hh]),allD_dU]
  simp
 ·have k1:=Cr7r.first l hl hb
  have h32:=leaves_32 l
  have hrl:(l.map leafH).length≤100000:=by simpa using hl
  have hne:l.map leafH≠[]:=by simpa using h0
  have hR:rootL l=rootR (l.map leafH):=by unfold rootL;rw [if_neg h0]
  rw [hR]
  generalize l.map leafH=row0 at *
  simp [h0,-List.reduceReplicate]
  refine vc_path [.ret (.sl 32 (row0.map dDg))] ?_
  simp [-List.reduceReplicate]
  refine⟨k1,?_⟩
  refine vc_loopK [2] (List (List UInt8)) (fun x=>[(3,true,.d (.sl 32 (x.map dDg)))]) (fun x=>[]) (fun x=>x≠[]∧(∀ y∈x,y.length=32)∧x.length≤100000∧rootR x=rootR row0) (fun x=>x.length) row0 ⟨hne,h32,hrl,rfl⟩ ⟨[],[],?_⟩ (fun row hx=>?_)
  ·simp [-List.reduceReplicate]
  obtain⟨g1,g2,g3,g5⟩:=hx
  obtain⟨d,r,rfl⟩:∃ d r,row=d::r:=by
   cases row with
   | nil=>exact absurd rfl g1
   | cons d r=>exact⟨d,r,rfl⟩
  have hd:=g2 d (List.mem_cons_self ..)
  have htk:(d.map (AV.d∘dU)).take 32=d.map (AV.d∘dU):=List.take_of_length_le (by simp [hd])
  by_cases h1:0<r.length
  ·have h1':(1:Int)<r.length+1:=by omega
   have h1n:¬ (r.length:Int)+1≤1:=by omega
   have hr1:1<(d::r).length:=by simp;omega
   have kc:=Cr7r.next (d::r) g2 g3
   have hup:=rootR_step hr1
   have hne2:upL (d::r)≠[]:=fun h=>by
    have:=upL_len (d::r)
    rw [h] at this;simp at this;omega
   have h322:=upL_32 _ g2
   have hul:=upL_len (d::r)
   rw [hup] at g5
   generalize hU:upL (d::r)=U at *
   simp [h1',h1n,-List.reduceReplicate]
   refine vc_path [.ret (.sl 32 (U.map dDg))] ?_
   simp [-List.reduceReplicate]
   simp only [List.length_cons] at hul g3
   refine⟨kc,U,⟨hne2,h322,by omega,g5⟩,by omega,[],[],?_⟩
   simp [-List.reduceReplicate]
  ·have hr0:r=[]:=List.eq_nil_of_length_eq_zero (by omega)
   subst hr0
   have e1:rootR [d]=d:=by rw [rootR_one (by simp)];rfl
   rw [← g5,e1]
   simp [dg_len d hd,dDg_cells,setAt_all,hd,htk,allD_dU,-List.reduceReplicate]
   exact LeD.refl _
theorem r7alone{n i:Nat}(h:i<n):(n≤i^^^1)↔¬ (i % 2=1∨i+1<n):=by
 rw [xor1];split <;> omega
theorem r7length(n i:Nat) (hn:n≤65536) (hi:i<n):PCall Tryz.prog 68 [dI n,dI i] (.ret (dI (lenR n i:Nat))):=by
 refine pcall_of_vc noC c68 (by simp [a68]) fun hr=>?_
 simp [a68]
 refine vc_loopK [] (Nat×Nat×Nat) (fun x=>[(0,true,.d (dI x.1)),(1,true,.d (dI x.2.1)),(5,true,.d (dI x.2.2))]) (fun x=>[]) (fun x=>x.1≤65536∧x.2.1<x.1∧x.2.2+x.1≤65536∧x.2.2+lenR x.1 x.2.1=lenR n i) (fun x=>x.1) (n,i,0) ⟨hn,hi,by simp;omega,by simp⟩ ⟨[],[],?_⟩ (fun x hx=>?_)
 ·simp
 obtain⟨n,i,k⟩:=x
 obtain⟨g1,g2,g3,g4⟩:=hx
 simp only at g1 g2 g3 g4
 rw [← g4]
 have hq1:IntKind.i64.wrap (((n:Int)+1) / 2)=(((n+1) / 2:Nat):Int):=by rw [wrap64 (by omega)];omega
 have hq1':IntKind.i64.wrap (((n:Int)+1).tdiv 2)=(((n+1) / 2:Nat):Int):=by rw [Int.tdiv_eq_ediv_of_nonneg (by omega),wrap64 (by omega)];omega
 have hq2:IntKind.i64.wrap ((i:Int) / 2)=((i / 2:Nat):Int):=by rw [wrap64 (by omega)];omega
 have hq0:IntKind.i64.wrap ((n:Int)+1)=(n:Int)+1:=wrap64 (by omega)
 have hqi:IntKind.i64.wrap ((i:Int)+1)=(i:Int)+1:=wrap64 (by omega)
 have hqk:IntKind.i64.wrap ((k:Int)+1)=(k:Int)+1:=wrap64 (by omega)
 have ha:=r7alone g2
 have hm:(i:Int).tmod 2=((i % 2:Nat):Int):=by rw [Int.tmod_eq_emod_of_nonneg (by omega)];omega
 by_cases h1:1<n
 case neg =>
  have h1':¬ (1:Int)<n:=by omega
  have h1n:(n:Int)≤1:=by omega
  rw [lenR_one i h1]
  simp [h1',h1n]
 have h1':(1:Int)<n:=by omega
 have h1n:¬ (n:Int)≤1:=by omega
 rw [lenR_step i h1]
 by_cases hod:i % 2=1
 ·rw [if_neg (by rw [ha];simp [hod])]
  have hod':(i:Int).tmod 2=1:=by rw [hm,hod];rfl
  simp [h1',h1n,hod']
  refine vc_path [] ?_
  simp [hod',hq0,hq1,hq1',hq2,hqk,hqi]
  refine⟨(n+1) / 2,i / 2,k+1,⟨by omega,by omega,by omega,by omega⟩,by omega,[],[],?_⟩
  simp
 ·have hod':¬ (i:Int).tmod 2=1:=by rw [hm];omega
  by_cases hlt:i+1<n
  ·rw [if_neg (by rw [ha];simp [hlt])]
   have hlt':(i:Int)+1<n:=by omega
   simp [h1',h1n]
   refine vc_path [] ?_
   simp [hod',hlt,hlt',hq0,hq1,hq1',hq2,hqk,hqi]
   refine⟨(n+1) / 2,i / 2,k+1,⟨by omega,by omega,by omega,by omega⟩,by omega,[],[],?_⟩
   simp
  ·rw [if_pos (by rw [ha];omega)]
   have hlt':¬ (i:Int)+1<n:=by omega
   simp [h1',h1n]
   refine vc_path [] ?_
   simp [hod',hlt,hlt',hq0,hq1,hq1',hq2,hqk,hqi]
   refine⟨(n+1) / 2,i / 2,k,⟨by omega,by omega,by omega,by omega⟩,by omega,[],[],?_⟩
   simp
theorem r7prove(l:List (List UInt8)) (i:Int) (hl:l.length≤100000) (hb:∀ x∈l,x.length≤10000000000):PCall Tryz.prog 40 [.sl 1 (l.map dBy),dI i] (.ret (.tup [.sl 32 ((proveL l i).map dDg),dI (proveE l.length i)])):=by
 refine pcall_of_vc hr7r c40 (by simp [a40]) fun hr=>?_
 simp [a40]
 have hbad:proveE l.length i=1→proveL l i=[]:=fun h=>by unfold proveL;rw [if_neg (by omega)]
 by_cases h0:65536<l.length∨i<0∨l.length≤i
 case pos =>
  have e:proveE l.length i=1:=by unfold proveE;rw [if_pos h0]
  rw [e,hbad e]
  refine vc_path [] ?_
  simp
  exact fun q1 q2 q3=>absurd h0 (by omega)
 have e:proveE l.length i=0:=by unfold proveE;rw [if_neg h0]
 obtain⟨n,rfl⟩:∃ n:Nat,i=n:=⟨i.toNat,by omega⟩
 have e2:proveL l n=pathR (l.map leafH) n:=by unfold proveL;rw [if_pos e];simp
 rw [e,e2]
 have f1:¬ (65536:Int)<l.length:=by omega
 have f2:¬ (l.length:Int)≤n:=by omega
 have f3:¬ l.length≤n:=by omega
 have k1:=Cr7r.first l hl hb
 have h32:=leaves_32 l
 have hrl:(l.map leafH).length≤65536:=by simp;omega
 have hne:l.map leafH≠[]:=by intro h;have:=congrArg List.length h;simp at this;simp [this] at f3
 have hnl:n<(l.map leafH).length:=by simp;omega
 generalize l.map leafH=row0 at *
 refine vc_path [] ?_
 have f4:¬ (n:Int)<0:=by omega
 simp [f1,f2,f3,f4]
 refine vc_path [.ret (.sl 32 (row0.map dDg))] ?_
 simp
 refine⟨k1,?_⟩
 refine vc_loopK [0] (List (List UInt8)×List (List UInt8)×Nat) (fun x=>[(7,true,.d (.sl 32 (x.1.map dDg))),(1,true,.d (dI x.2.2)),(6,true,.own 0 32 (x.2.1.map dDg))]) (fun x=>[(0,.row)]) (fun x=>x.1≠[]∧(∀ y∈x.1,y.length=32)∧x.1.length≤65536∧x.2.2<x.1.length∧x.2.1.length+x.1.length≤100000∧x.2.1++pathR x.1 x.2.2=pathR row0 n) (fun x=>x.1.length) (row0,[],n) ⟨hne,h32,hrl,hnl,by simp;omega,by simp⟩ ⟨[],[],?_⟩ (fun x hx=>?_)
 ·simp
 obtain⟨row,acc,k⟩:=x
 obtain⟨g1,g2,g3,g4,g5,g6⟩:=hx
 simp only at g1 g2 g3 g4 g5 g6
 have hm:(k:Int).tmod 2=((k % 2:Nat):Int):=by rw [Int.tmod_eq_emod_of_nonneg (by omega)];omega
 have hq:IntKind.i64.wrap ((k:Int) / 2)=((k / 2:Nat):Int):=by rw [wrap64 (by omega)];omega
 have hp1:IntKind.i64.wrap ((k:Int)+1)=(k:Int)+1:=wrap64 (by omega)
 have hm1:IntKind.i64.wrap ((k:Int)-1)=(k:Int)-1:=wrap64 (by omega)
 have hox:=xor1 k
 have hstep:=pathR_step (row:=row) k
 have hone:=pathR_one (row:=row) k
 have hul:=upL_len row
 have h322:=upL_32 row g2
 have next:∀ (h1:1<row.length),upL row≠[]∧(∀ y∈upL row,y.length=32)∧(upL row).length≤65536∧k / 2<(upL row).length:=fun h1=>⟨fun h=>by rw [h] at hul;simp at hul;omega,h322,by omega,by omega⟩
 have kc:=Cr7r.next row g2 (by omega)
 by_cases h1:1<row.length
 case neg =>
  have h1':¬ (1:Int)<row.length:=by omega
  have h1n:(row.length:Int)≤1:=by omega
  have hp:=hone h1
  simp [h1',h1n,h1]
  rw [hp,List.append_nil] at g6
  rw [g6]
  try exact LeD.refl _
 have h1':(1:Int)<row.length:=by omega
 have h1n:¬ (row.length:Int)≤1:=by omega
 have hp:=hstep h1
 obtain⟨n1,n2,n3,n4⟩:=next h1
 by_cases hod:k % 2=1
 ·rw [if_neg (by omega)] at hox
  have hod':(k:Int).tmod 2=1:=by rw [hm,hod];rfl
  have hk1:k-1<row.length:=by omega
  have ht:((k:Int)-1).toNat=k-1:=by omega
  have hk0:1≤(k:Int):=by omega
  have hkl:(k:Int)-1<row.length:=by omega
  have hdo:=dg_len row[k-1] (g2 _ (List.getElem_mem hk1))
  rw [hox,List.getElem?_eq_getElem hk1] at hp
  generalize upL row=U at *
  simp [h1,h1',h1n,hod',hm1,hq,ht,hk0,hk1,hkl,hdo]
  refine⟨⟨by omega,by omega⟩,vc_path [.ret (.sl 32 (U.map dDg))] ?_⟩
  simp [hq]
  refine⟨kc,U,acc++[row[k-1]],k / 2,⟨n1,n2,n3,n4,by simp;omega,by rw [← g6,hp];simp⟩,by omega,[(0,2)],[],?_⟩
  simp
 ·rw [if_pos (by omega)] at hox
  have hod':¬ (k:Int).tmod 2=1:=by rw [hm];omega
  have ht:((k:Int)+1).toNat=k+1:=by omega
  by_cases hk1:k+1<row.length
  ·have hkl:(k:Int)+1<row.length:=by omega
   have hdo:=dg_len row[k+1] (g2 _ (List.getElem_mem hk1))
   rw [hox,List.getElem?_eq_getElem hk1] at hp
   generalize upL row=U at *
   simp [h1,h1',h1n,hod',hp1,hq,ht,hk1,hkl,hdo]
   refine⟨by omega,⟨by omega,by omega⟩,vc_path [.ret (.sl 32 (U.map dDg))] ?_⟩
   simp [hq]
   refine⟨kc,U,acc++[row[k+1]],k / 2,⟨n1,n2,n3,n4,by simp;omega,by rw [← g6,hp];simp⟩,by omega,[(0,2)],[],?_⟩
   simp
  ·have hkl:¬ (k:Int)+1<row.length:=by omega
   rw [hox,List.getElem?_eq_none (by omega)] at hp
   generalize upL row=U at *
   simp [h1,h1',h1n,hod',hp1,hq,ht,hk1,hkl]
   refine vc_path [.ret (.sl 32 (U.map dDg))] ?_
   simp [hq]
   refine⟨kc,U,acc,k / 2,⟨n1,n2,n3,n4,by omega,by rw [← g6,hp];simp⟩,by omega,[],[],?_⟩
   simp
theorem r7way(n i:Nat) (leaf:List UInt8) (p:List (List UInt8)) (hn:n≤65536) (hi:i<n) (hlf:leaf.length≤10000000000) (hp:∀ x∈p,x.length=32) (hpl:p.length=lenR n i) (hpm:p.length≤1000000):PCall Tryz.prog 69 [dI n,dI i,dBy leaf,.sl 32 (p.map dDg)] (.ret (.tup [.sl 32 ((climbW n i [leafH leaf] [dBy (mtext tLeaf [leaf])] p).1.map dDg),.sl 1 (climbW n i [leafH leaf] [dBy (mtext tLeaf [leaf])] p).2.1])):=by
 refine pcall_of_vc hr7n c69 (by simp [a69]) fun hr=>?_
 simp [a69,-List.reduceReplicate]
 have k1:=Cr7n.text tLeaf leaf (by simp [tLeaf]) hlf
 have hm:=mtext_len tLeaf [leaf]
 have k2:=Cr7n.sum (mtext tLeaf [leaf]) (by rw [hm];simp;omega)
 rw [sha_leaf] at k2
 have hH:(leafH leaf).length=32:=tagL_len _ _
 generalize leafH leaf=H at *
 generalize mtext tLeaf [leaf]=T at *
 refine vc_path [.ret (dBy T)] ?_
 simp [-List.reduceReplicate]
 refine⟨k1,vc_path [.ret (dDg H)] ?_⟩
 simp [dg_len H hH,-List.reduceReplicate]
 refine⟨k2,?_⟩
 refine vc_loopK [3] (Nat×Nat×List (List UInt8)×List UInt8×List D×Nat) (fun x=>[(0,true,.d (dI x.1)),(1,true,.d (dI x.2.1)),(11,true,.own 0 32 (x.2.2.1.map dDg++[dDg x.2.2.2.1])),(12,true,.own 1 1 x.2.2.2.2.1),(13,true,.d (dI x.2.2.2.2.2))]) (fun x=>[(0,.row),(1,.row)]) (fun x=>climbW n i [H] [dBy T] p=climbW x.1 x.2.1 (x.2.2.1++[x.2.2.2.1]) x.2.2.2.2.1 (p.drop x.2.2.2.2.2)∧x.2.1<x.1∧x.1≤65536∧x.2.2.2.1.length=32∧x.2.2.2.2.2+lenR x.1 x.2.1=p.length∧x.2.2.1.length+x.1≤65536∧x.2.2.2.2.1.length=x.2.2.1.length+1) (fun x=>x.1) (n,i,[],H,[dBy T],0) ⟨by simp,hi,hn,hH,by simp [hpl],by simp;omega,rfl⟩ ⟨[],[],?_⟩ (fun x hx=>?_)
 ·simp [-List.reduceReplicate]
 obtain⟨n,i,ds,d,ts,k⟩:=x
 obtain⟨g0,g1,g2,g3,g4,g6,g7⟩:=hx
 simp only at g0 g1 g2 g3 g4 g6 g7
 rw [g0]
 have hwl:IntKind.i64.wrap (ds.length:Int)=(ds.length:Int):=wrap64 (by omega)
 have hget:(List.map dDg ds++[dDg d])[ds.length]?.getD default=dDg d:=by simp
 have hdc:(dDg d).cells=d.map dU:=dDg_cells d
 have htk:List.take 32 (d.map (AV.d∘dU))=d.map (AV.d∘dU):=List.take_of_length_le (by simp [g3])
 have hfo:D.agg (d.map dU)=dDg d:=rfl
 have hq1:IntKind.i64.wrap (((n:Int)+1) / 2)=(((n+1) / 2:Nat):Int):=by rw [wrap64 (by omega)];omega
 have hq1':IntKind.i64.wrap (((n:Int)+1).tdiv 2)=(((n+1) / 2:Nat):Int):=by rw [Int.tdiv_eq_ediv_of_nonneg (by omega),wrap64 (by omega)];omega
 have hq2:IntKind.i64.wrap ((i:Int) / 2)=((i / 2:Nat):Int):=by rw [wrap64 (by omega)];omega
 have hq0:IntKind.i64.wrap ((n:Int)+1)=(n:Int)+1:=wrap64 (by omega)
 have hqi:IntKind.i64.wrap ((i:Int)+1)=(i:Int)+1:=wrap64 (by omega)
 have hqk:IntKind.i64.wrap ((k:Int)+1)=(k:Int)+1:=wrap64 (by omega)
 have ha:=r7alone g1
 have hxr:=xor1 i
 have hm:(i:Int).tmod 2=((i % 2:Nat):Int):=by rw [Int.tmod_eq_emod_of_nonneg (by omega)];omega
 by_cases h1:1<n
 case neg =>
  have h1':¬ (1:Int)<n:=by omega
  have h1n:(n:Int)≤1:=by omega
  rw [climbW_one _ _ _ _ h1]
  simp [h1',h1n,-List.reduceReplicate]
  try exact⟨LeD.refl _,LeD.refl _⟩
 have h1':(1:Int)<n:=by omega
 have h1n:¬ (n:Int)≤1:=by omega
 have hls:=lenR_step i h1
 by_cases ho:n≤i^^^1
 case pos =>
  rw [climbW_alone ds d ts _ h1 ho]
  rw [if_pos ho] at hls
  have hod:¬ i % 2=1:=fun h=>(ha.1 ho) (.inl h)
  have hod':¬ (i:Int).tmod 2=1:=by rw [hm];omega
  have hlt:¬ (i:Int)+1<n:=fun h=>(ha.1 ho) (.inr (by omega))
  simp [h1',h1n,hwl,hget,hdc,g3,setAt_all,htk,allD_dU,hfo,-List.reduceReplicate]
  refine⟨by omega,vc_path [] ?_⟩
  simp [hod',hlt,hqi,hwl,hget,hdc,g3,setAt_all,htk,allD_dU,hfo,hq0,hq1,hq1',hq2,-List.reduceReplicate]
  refine⟨⟨by omega,by omega⟩,⟨by omega,by omega⟩,(n+1) / 2,i / 2,ds++[d],d,ts++[.nil 1],k,⟨by simp,by omega,by omega,g3,by omega,by simp;omega,by simp;omega⟩,by omega,[(0,4),(1,6)],[],?_⟩
  simp [-List.reduceReplicate]
 obtain⟨y,hyk⟩:∃ y,p[k]?=some y:=by
  rw [if_neg ho] at hls
  have:k<p.length:=by omega
  exact⟨p[k],List.getElem?_eq_getElem this⟩
 obtain⟨hkl,hye⟩:=List.getElem?_eq_some_iff.1 hyk
 have hy:y.length=32:=hp y (by rw [← hye];exact List.getElem_mem hkl)
 have hd:=g3
 have hyc:=dDg_cells y
 have hkl':(k:Int)<p.length:=by omega
 have hdr:p.drop k=y::p.drop (k+1):=by rw [List.drop_eq_getElem_cons hkl,hye]
 rw [hdr,climbW_cons ds d ts y _ h1 ho]
 rw [if_neg ho] at hls
 rcases Nat.mod_two_eq_zero_or_one i with hod | hod
 ·have hod':¬ (i:Int).tmod 2=1:=by rw [hm];omega
  have hlt:(i:Int)+1<n:=by rw [if_pos (by omega)] at hxr;omega
  simp [h1',h1n,hwl,hget,hdc,g3,setAt_all,htk,allD_dU,hfo,-List.reduceReplicate]
  refine⟨by omega,vc_path [] ?_⟩
  simp [hod',hqi,hlt,hq0,hq1,hq1',hq2,hqk,-List.reduceReplicate]
  rw [show (if i % 2=0 then nodeH d y else nodeH y d)=nodeH d y from if_pos hod,show (if i % 2=0 then [d,y] else [y,d])=[d,y] from if_pos hod]
  have k3:=Cr7n.two d y hd hy
  have hm3:=mtext_len tNode [d,y]
  have k4:=Cr7n.sum (mtext tNode [d,y]) (by rw [hm3];simp;omega)
  rw [sha_node] at k4
  have hN:(nodeH d y).length=32:=tagL_len _ _
  generalize mtext tNode [d,y]=U at *
  generalize nodeH d y=N at *
  refine vc_pathD [.ret (dBy U)] ?_
  simp [hkl,hkl',hye,hy,hyc,hdc,g3,htk,allD_dU,hfo,-List.reduceReplicate]
  refine⟨k3,rfl,vc_path [.ret (dDg N)] ?_⟩
  simp [dg_len N hN,hq0,hq1,hq1',hq2,hqk,-List.reduceReplicate]
  refine⟨k4,⟨by omega,by omega⟩,⟨by omega,by omega⟩,(n+1) / 2,i / 2,ds++[d],N,ts++[dBy U],k+1,⟨by simp,by omega,by omega,hN,by omega,by simp;omega,by simp;omega⟩,by omega,[(0,4),(1,6)],[],?_⟩
  simp [-List.reduceReplicate]
 ·have hod':(i:Int).tmod 2=1:=by rw [hm,hod];rfl
  have hlt:True:=trivial
  simp [h1',h1n,hwl,hget,hdc,g3,setAt_all,htk,allD_dU,hfo,-List.reduceReplicate]
  refine⟨by omega,vc_path [] ?_⟩
  simp [hod',hqi,hlt,hq0,hq1,hq1',hq2,hqk,-List.reduceReplicate]
  rw [show (if i % 2=0 then nodeH d y else nodeH y d)=nodeH y d from if_neg (by omega),show (if i % 2=0 then [d,y] else [y,d])=[y,d] from if_neg (by omega)]
  have k3:=Cr7n.two y d hy hd
  have hm3:=mtext_len tNode [y,d]
  have k4:=Cr7n.sum (mtext tNode [y,d]) (by rw [hm3];simp;omega)
  rw [sha_node] at k4
  have hN:(nodeH y d).length=32:=tagL_len _ _
  generalize mtext tNode [y,d]=U at *
  generalize nodeH y d=N at *
  refine vc_pathD [.ret (dBy U)] ?_
  simp [hkl,hkl',hye,hy,hyc,hdc,g3,htk,allD_dU,hfo,-List.reduceReplicate]
  refine⟨k3,rfl,vc_path [.ret (dDg N)] ?_⟩
  simp [dg_len N hN,hq0,hq1,hq1',hq2,hqk,-List.reduceReplicate]
  refine⟨k4,⟨by omega,by omega⟩,⟨by omega,by omega⟩,(n+1) / 2,i / 2,ds++[d],N,ts++[dBy U],k+1,⟨by simp,by omega,by omega,hN,by omega,by simp;omega,by simp;omega⟩,by omega,[(0,4),(1,6)],[],?_⟩
  simp [-List.reduceReplicate]
inductive Cr7c:FuncId→List D→Out→Prop
 | len (n i:Nat) (hn:n≤65536) (hi:i<n):Cr7c 68 [dI n,dI i] (.ret (dI (lenR n i:Nat)))
 | way (n i:Nat) (leaf:List UInt8) (p:List (List UInt8)) (hn:n≤65536) (hi:i<n) (hlf:leaf.length≤10000000000) (hp:∀ x∈p,x.length=32) (hpl:p.length=lenR n i) (hpm:p.length≤1000000):Cr7c 69 [dI n,dI i,dBy leaf,.sl 32 (p.map dDg)] (.ret (.tup [.sl 32 ((climbW n i [leafH leaf] [dBy (mtext tLeaf [leaf])] p).1.map dDg),.sl 1 (climbW n i [leafH leaf] [dBy (mtext tLeaf [leaf])] p).2.1]))
theorem hr7c:∀ f ds out,Cr7c f ds out→PCall Tryz.prog f ds out:=by
 intro f ds out h
 cases h with
 | len n i hn hi=>exact r7length n i hn hi
 | way n i leaf p hn hi hlf hp hpl hpm=>exact r7way n i leaf p hn hi hlf hp hpl hpm
theorem r7Climb(n i:Int) (leaf:List UInt8) (p:List (List UInt8)) (hlf:leaf.length≤10000000000) (hp:∀ x∈p,x.length=32) (hpl:p.length≤1000000):PCall Tryz.prog 42 [dI n,dI i,dBy leaf,.sl 32 (p.map dDg)] (.ret (.tup [dDg (climbL n i leaf p),dI (climbE n i leaf p)])):=by
 refine pcall_of_vc hr7c c42 (by simp [a42]) fun hr=>?_
 simp [a42,-List.reduceReplicate]
 by_cases h0:65536<n∨i<0∨n≤i
 case pos =>
  have e:climbE n i leaf p=1:=by unfold climbE;rw [if_pos h0]
  have e2:climbL n i leaf p=z32U:=by unfold climbL;rw [e,if_neg (by omega)]
  rw [e,e2]
  refine vc_path [] ?_
  simp
  exact⟨fun _=>LeD.refl _,fun _=>⟨fun _=>LeD.refl _,fun _=>⟨fun _=>LeD.refl _,fun _=>by omega⟩⟩⟩
 obtain⟨n,rfl⟩:∃ m:Nat,n=m:=⟨n.toNat,by omega⟩
 obtain⟨i,rfl⟩:∃ m:Nat,i=m:=⟨i.toNat,by omega⟩
 have k0:=Cr7c.len n i (by omega) (by omega)
 obtain⟨w1,w2⟩:=climbW_R n i [] (leafH leaf) [dBy (mtext tLeaf [leaf])] p
 have w3:=climbW_len n i [] (leafH leaf) [dBy (mtext tLeaf [leaf])] p
 simp only [List.nil_append] at w1 w2 w3
 have e:climbE n i leaf p=if (climbR n i (leafH leaf) p).isSome then 0 else 70:=by unfold climbE;rw [if_neg h0];simp
 have hl:∀ x,climbR n i (leafH leaf) p=some x→x.length=32:=fun x hx=>climbR_32 _ _ _ _ x (tagL_len _ _) hx
 have hcl:=climbR_len n i (leafH leaf) p
 have f1:¬ (65536:Int)<n:=by omega
 have f2:¬ (n:Int)≤i:=by omega
 have f3:¬ n≤i:=by omega
 have f4:¬ (i:Int)<0:=by omega
 refine vc_path [] ?_
 simp [f1,f2,f3,f4,-List.reduceReplicate]
 refine vc_path [.ret (dI (lenR n i:Nat))] ?_
 by_cases hlen:p.length=lenR n i
 case neg =>
  rw [decide_eq_false hlen] at hcl
  rw [hcl] at e
  have e2:climbL n i leaf p=z32U:=by unfold climbL;rw [e];simp
  rw [e,e2]
  simp [hlen]
  exact⟨k0,fun _=>LeD.refl _,fun h=>absurd h (by omega)⟩
 rw [decide_eq_true hlen] at hcl
 obtain⟨x,hc⟩:=Option.isSome_iff_exists.1 hcl
 have k:=Cr7c.way n i leaf p (by omega) (by omega) hlf hp hlen hpl
 rw [hcl] at e
 have e2:climbL n i leaf p=x:=by unfold climbL;rw [e];simp [hc]
 have hx:=hl x hc
 rw [e,e2]
 have hg:=w2 x hc
 generalize climbW n i [leafH leaf] [dBy (mtext tLeaf [leaf])] p=W at *
 obtain⟨ds,ts,b⟩:=W
 simp only at w1 w2 w3 k hg
 obtain⟨ds',rfl⟩:=List.getLast?_eq_some_iff.1 hg
 simp [hlen,-List.reduceReplicate]
 refine⟨k0,vc_path [.ret (.tup [.sl 32 ((ds'++[x]).map dDg),.sl 1 ts])] ?_⟩
 have hdc:(dDg x).cells=x.map dU:=dDg_cells x
 have htk:List.take 32 (x.map (AV.d∘dU))=x.map (AV.d∘dU):=List.take_of_length_le (by simp [hx])
 have hwl:IntKind.i64.wrap (ds'.length:Int)=(ds'.length:Int):=wrap64 (by simp at w3;omega)
 simp [hwl,hdc,hx,setAt_all,htk,allD_dU,-List.reduceReplicate]
 exact⟨by simpa using k,by omega,LeD.refl _⟩
end

section
attribute [local simp] dZ_agg dZ_nt dZ_noTup dZ_cells dZ_one bz_toList bz_size strV dV_cells dV_isAgg dV_noTup dV_nt dBy_cells dBy_one dBy_agg dBy_noTup dBy_nt
attribute [local simp] dG_isAgg dG_noTup dG_nt dG_len dDg_isAgg dDg_noTup dDg_nt
attribute [local simp] dVo_isAgg dVo_noTup dVo_nt dVo_len dPg_isAgg dPg_noTup dPg_nt dPg_len
set_option maxRecDepth 8000
set_option maxHeartbeats 4000000
inductive CRlv:FuncId→List D→Out→Prop
 | leaf (p:Pg) (h:okPg p=true):CRlv 38 [dPg p] (.ret (dDg (leafP p)))
 | bytes (x:List UInt8) (h:x.length=32):CRlv 43 [dDg x] (.ret (dBy x))
theorem hRlv:∀ f ds out,CRlv f ds out→PCall Tryz.prog f ds out:=by
 intro f ds out h
 cases h with
 | leaf p h=>exact rLeaf p h
 | bytes x h=>exact rBytes x h
theorem rLeaves(l:List Pg) (hok:∀ p∈l,okPg p=true) (hl:l.length≤1024):PCall Tryz.prog 34 [.sl 66 (l.map dPg)] (.ret (.sl 1 ((leavesL l).map dBy))):=by
 refine pcall_of_vc hRlv c34 (by simp [a34]) fun hr=>?_
 simp [a34]
 have hll:(leavesL l).length=l.length:=by simp [leavesL]
 refine vc_loopK [0] Nat (fun i=>[(4,true,.d (dI i)),(3,true,.own 0 1 (((leavesL l).map dBy).take i))]) (fun i=>[(0,.row)]) (fun i=>i≤l.length) (fun i=>l.length-i) 0 (by simp) ⟨[],[],?_⟩ (fun i hi=>?_)
 ·simp
 have hw1:IntKind.i64.wrap ((i:Int)+1)=(i:Int)+1:=wrap64 (by omega)
 rcases Nat.lt_or_ge i l.length with hlt | hge
 ·have hlt':(i:Int)<l.length:=by omega
  have k1:=CRlv.leaf l[i] (hok _ (List.getElem_mem hlt))
  have k2:=CRlv.bytes (leafP l[i]) (leafP_len _)
  have hts:((leavesL l).map dBy).take (i+1)=((leavesL l).map dBy).take i++[dBy (leafP l[i])]:=by
   rw [List.take_add_one];simp [leavesL,hlt]
  simp [hlt,hlt']
  refine vc_path [.ret (dDg (leafP l[i])),.ret (dBy (leafP l[i]))] ?_
  simp [hlt,hlt',hw1]
  refine⟨k1,k2,⟨by omega,by omega⟩,i+1,by omega,by omega,[(0,2)],[],?_⟩
  simp only [hts]
  simp
 ·have hge':¬ (i:Int)<l.length:=by omega
  have hta:((leavesL l).map dBy).take i=(leavesL l).map dBy:=List.take_of_length_le (by simp;omega)
  simp [hge',hge,hta]
  try exact LeD.refl _
inductive CRs:FuncId→List D→Out→Prop
 | right (p:Pg):CRs 32 [dPg p] (.ret (dB (okPg p)))
 | leaves (l:List Pg) (hok:∀ p∈l,okPg p=true) (hl:l.length≤1024):CRs 34 [.sl 66 (l.map dPg)] (.ret (.sl 1 ((leavesL l).map dBy)))
 | root (l:List (List UInt8)) (hl:l.length≤100000) (hb:∀ x∈l,x.length≤10000000000):CRs 33 [.sl 1 (l.map dBy)] (.ret (dDg (rootL l)))
theorem hRs:∀ f ds out,CRs f ds out→PCall Tryz.prog f ds out:=by
 intro f ds out h
 cases h with
 | right p=>exact rRight p
 | leaves l hok hl=>exact rLeaves l hok hl
 | root l hl hb=>exact r7root l hl hb
theorem rSeal(l:List Pg):PCall Tryz.prog 10 [.sl 66 (l.map dPg)] (.ret (.tup [dVo (sealV l),dI (sealE l)])):=by
 refine pcall_of_vc hRs c10 (by simp [a10]) fun hr=>?_
 simp [a10,-List.reduceReplicate]
 by_cases h0:1024<l.length
 ·have e:sealE l=2:=by unfold sealE;rw [if_pos h0]
  have e2:sealV l=vo0:=by unfold sealV;rw [e,if_neg (by omega)]
  have h0':(1024:Int)<l.length:=by omega
  have h0n:¬ (l.length:Int)≤1024:=by omega
  rw [e,e2]
  simp [h0',h0n,-List.reduceReplicate]
  exact leVo0
 have h0':¬ (1024:Int)<l.length:=by omega
 have h0n:(l.length:Int)≤1024:=by omega
 simp [h0',h0n,-List.reduceReplicate]
 refine vc_loopK [0,2,3] Nat (fun i=>[(4,true,.d (dI i))]) (fun i=>[]) (fun i=>i≤l.length∧∀ j,(h:j<i)→(h2:j<l.length)→okPg l[j]=true) (fun i=>l.length-i) 0 (by simp) ⟨[],[],?_⟩ (fun i hi=>?_)
 ·simp [-List.reduceReplicate]
 obtain⟨g1,g2⟩:=hi
 have hw1:IntKind.i64.wrap ((i:Int)+1)=(i:Int)+1:=wrap64 (by omega)
 rcases Nat.lt_or_ge i l.length with hlt | hge
 ·have hlt':(i:Int)<l.length:=by omega
  have k1:=CRs.right l[i]
  cases hb:okPg l[i] with
  | false =>
   rw [hb] at k1
   have ha:l.all okPg=false:=by
    rw [Bool.eq_false_iff]
    intro h
    rw [List.all_eq_true.1 h _ (List.getElem_mem hlt)] at hb;cases hb
   have e:sealE l=560:=by unfold sealE;rw [if_neg h0,if_neg (by simp [ha])]
   have e2:sealV l=vo0:=by unfold sealV;rw [e,if_neg (by omega)]
   rw [e,e2]
   simp [hlt,hlt',-List.reduceReplicate]
   refine vc_path [.ret (dB false)] ?_
   simp [hlt,hlt',-List.reduceReplicate]
   exact⟨k1,leVo0⟩
  | true =>
   rw [hb] at k1
   simp [hlt,hlt',-List.reduceReplicate]
   refine vc_path [.ret (dB true)] ?_
   simp [hlt,hlt',hw1,-List.reduceReplicate]
   refine⟨k1,i+1,⟨by omega,fun j hj hj2=>?_⟩,by omega,[],[],?_⟩
   ·by_cases e:j=i
    ·subst e;exact hb
    ·exact g2 j (by omega) hj2
   ·simp [-List.reduceReplicate]
 ·have hge':¬ (i:Int)<l.length:=by omega
  have hok:∀ p∈l,okPg p=true:=fun p hp=>by
   obtain⟨j,hj,rfl⟩:=List.mem_iff_getElem.1 hp
   exact g2 j (by omega) hj
  have ha:l.all okPg=true:=List.all_eq_true.2 hok
  have e:sealE l=0:=by unfold sealE;rw [if_neg h0,if_pos ha]
  have e2:sealV l=⟨l,sealL l,sealL_len l⟩:=by unfold sealV;rw [if_pos e]
  have k3:=CRs.leaves l hok (by omega)
  have k4:=CRs.root (leavesL l) (by rw [leavesL_len];omega) (leavesL_short l)
  have hR:(rootL (leavesL l)).length=32:=rootL_len _
  have hRc:(dDg (rootL (leavesL l))).cells=(rootL (leavesL l)).map dU:=dDg_cells _
  have hLk:List.take 32 ((rootL (leavesL l)).map (AV.d∘dU))=(rootL (leavesL l)).map (AV.d∘dU):=List.take_of_length_le (by simp [hR])
  rw [e,e2,show dVo ⟨l,sealL l,sealL_len l⟩=D.agg (.sl 66 (l.map dPg)::(rootL (leavesL l)).map dU) from rfl]
  clear e2
  generalize rootL (leavesL l)=R at *
  simp [hge',hge,-List.reduceReplicate]
  refine vc_path [.ret (.sl 1 ((leavesL l).map dBy)),.ret (dDg R)] ?_
  simp [hR,hRc,hLk,setAt_all,setAt_all1,allD_dU,-List.reduceReplicate]
  exact⟨k3,k4⟩
end

section
attribute [local simp] dZ_agg dZ_nt dZ_noTup dZ_cells dZ_one bz_toList bz_size strV dV_cells dV_isAgg dV_noTup dV_nt dBy_cells dBy_one dBy_agg dBy_noTup dBy_nt
attribute [local simp] dG_isAgg dG_noTup dG_nt dG_len dDg_isAgg dDg_noTup dDg_nt
attribute [local simp] dVo_isAgg dVo_noTup dVo_nt dVo_len
set_option maxRecDepth 8000
set_option maxHeartbeats 4000000
inductive CRk:FuncId→List D→Out→Prop
 | sealing (l:List Pg):CRk 10 [.sl 66 (l.map dPg)] (.ret (.tup [dVo (sealV l),dI (sealE l)]))
theorem hRk:∀ f ds out,CRk f ds out→PCall Tryz.prog f ds out:=by
 intro f ds out h
 cases h with
 | sealing l=>exact rSeal l
theorem rCheck(v:Vo):PCall Tryz.prog 15 [dVo v] (.ret (dI (checkE v))):=by
 refine pcall_of_vc hRk c15 (by simp [a15]) fun hr=>?_
 simp [a15,dVo_cells,-List.reduceReplicate]
 have k:=CRk.sealing v.ps
 have q1:=v.h
 have q2:=(sealV v.ps).h
 refine vc_path [.ret (.tup [dVo (sealV v.ps),dI (sealE v.ps)])] ?_
 simp [dVo_cells,q1,q2,setAt_all,setAt_all1,-List.reduceReplicate]
 refine⟨k,?_⟩
 by_cases hs:sealE v.ps=0
 case neg =>
  have e:checkE v=sealE v.ps:=by unfold checkE;rw [if_pos hs]
  rw [e]
  simp [hs,-List.reduceReplicate]
 have e:checkE v=if sealL v.ps=v.sl then 0 else 560:=by unfold checkE;rw [if_neg (by simpa using hs)]
 have es:(sealV v.ps).sl=sealL v.ps:=by unfold sealV;rw [if_pos hs]
 rw [e,← es]
 generalize (sealV v.ps).sl=S at *
 have plx:(S.map (AV.d∘dU)).take 32=S.map (AV.d∘dU):=List.take_of_length_le (by simp [q2])
 have ply:(v.sl.map (AV.d∘dU)).take 32=v.sl.map (AV.d∘dU):=List.take_of_length_le (by simp [q1])
 have c1:=eqC_dU q2 q1
 have b1:=eqB_dU _ _ (q2.trans q1.symm)
 by_cases he:S=v.sl
 ·rw [decide_eq_true he] at b1
  rw [if_pos he]
  simp [hs,plx,ply,allD_dU,q1,q2,c1,b1,-List.reduceReplicate]
 ·rw [decide_eq_false he] at b1
  rw [if_neg he]
  simp [hs,plx,ply,allD_dU,q1,q2,c1,b1,-List.reduceReplicate]
inductive CRv:FuncId→List D→Out→Prop
 | check (v:Vo):CRv 15 [dVo v] (.ret (dI (checkE v)))
 | within (n l:Int):CRv 37 [dI n,dI l] (.ret (dB (decide (0≤n)&&decide (n<l))))
 | leaves (l:List Pg) (hok:∀ p∈l,okPg p=true) (hl:l.length≤1024):CRv 34 [.sl 66 (l.map dPg)] (.ret (.sl 1 ((leavesL l).map dBy)))
 | prove (l:List (List UInt8)) (i:Int) (hl:l.length≤100000) (hb:∀ x∈l,x.length≤10000000000):CRv 40 [.sl 1 (l.map dBy),dI i] (.ret (.tup [.sl 32 ((proveL l i).map dDg),dI (proveE l.length i)]))
 | right (p:Pg):CRv 32 [dPg p] (.ret (dB (okPg p)))
 | leaf (p:Pg) (h:okPg p=true):CRv 38 [dPg p] (.ret (dDg (leafP p)))
 | bytes (x:List UInt8) (h:x.length=32):CRv 43 [dDg x] (.ret (dBy x))
 | climb (n i:Int) (leaf:List UInt8) (p:List (List UInt8)) (hlf:leaf.length≤10000000000) (hp:∀ x∈p,x.length=32) (hpl:p.length≤1000000):CRv 42 [dI n,dI i,dBy leaf,.sl 32 (p.map dDg)] (.ret (.tup [dDg (climbL n i leaf p),dI (climbE n i leaf p)]))
theorem hRv:∀ f ds out,CRv f ds out→PCall Tryz.prog f ds out:=by
 intro f ds out h
 cases h with
 | check v=>exact rCheck v
 | within n l=>exact rwithin n l
 | leaves l hok hl=>exact rLeaves l hok hl
 | prove l i hl hb=>exact r7prove l i hl hb
 | right p=>exact rRight p
 | leaf p h=>exact rLeaf p h
 | bytes x h=>exact rBytes x h
 | climb n i leaf p hlf hp hpl=>exact r7Climb n i leaf p hlf hp hpl
theorem rProve(v:Vo) (i:Int):PCall Tryz.prog 18 [dVo v,dI i] (.ret (.tup [.sl 32 ((prvL v i).map dDg),dI (prvE v i)])):=by
 refine pcall_of_vc hRv c18 (by simp [a18]) fun hr=>?_
 have q1:=v.h
 have k1:=CRv.check v
 simp [a18,dVo_cells,-List.reduceReplicate]
 have hal:allD (List.map (AV.d∘dU) v.sl)=some (v.sl.map dU):=allD_dU _
 have hfo:D.agg (.sl 66 (v.ps.map dPg)::v.sl.map dU)=dVo v:=rfl
 have htk:List.take 32 (v.sl.map (AV.d∘dU))=v.sl.map (AV.d∘dU):=List.take_of_length_le (by simp [q1])
 refine vc_path [.ret (dI (checkE v))] ?_
 by_cases hc:checkE v=0
 case neg =>
  have e:prvE v i=checkE v:=by unfold prvE;rw [if_pos hc]
  have e2:prvL v i=[]:=by unfold prvL;rw [e,if_neg hc]
  rw [e,e2]
  simp [hc,q1,hal,htk,hfo,-List.reduceReplicate]
  exact k1
 obtain⟨hok,hlen⟩:=sealE_ok (checkE_ok hc)
 rw [hc] at k1
 have k2:=CRv.within i v.ps.length
 rw [hc]
 simp [q1,hal,htk,hfo,-List.reduceReplicate]
 refine⟨k1,vc_path [.ret (dB (decide (0≤i)&&decide (i<v.ps.length)))] ?_⟩
 by_cases hi:i<0∨v.ps.length≤i
 case pos =>
  have e:prvE v i=1:=by unfold prvE;rw [if_neg (by omega),if_pos hi]
  have e2:prvL v i=[]:=by unfold prvL;rw [e,if_neg (by omega)]
  have eb:(decide (0≤i)&&decide (i<v.ps.length))=false:=by
   rcases hi with h | h
   ·rw [decide_eq_false (by omega:¬ 0≤i)];rfl
   ·rw [decide_eq_false (by omega:¬ i<v.ps.length)];simp
  rw [eb] at k2 ⊢
  rw [e,e2]
  simp [-List.reduceReplicate]
  exact k2
 have eb:(decide (0≤i)&&decide (i<v.ps.length))=true:=by
  rw [decide_eq_true (by omega),decide_eq_true (by omega)];rfl
 rw [eb] at k2 ⊢
 have e:prvE v i=0:=by unfold prvE;rw [if_neg (by omega),if_neg hi]
 have k4:=CRv.leaves v.ps hok hlen
 have k5:=CRv.prove (leavesL v.ps) i (by rw [leavesL_len];omega) (leavesL_short v.ps)
 have e3:proveE (leavesL v.ps).length i=0:=by unfold proveE;rw [leavesL_len,if_neg (by omega)]
 have e4:prvL v i=proveL (leavesL v.ps) i:=by unfold prvL proveL;rw [if_pos e,if_pos e3]
 rw [e,e4]
 rw [e3] at k5
 simp [-List.reduceReplicate]
 refine⟨k2,vc_path [.ret (.sl 1 ((leavesL v.ps).map dBy)),.ret (.tup [.sl 32 ((proveL (leavesL v.ps) i).map dDg),dI 0])] ?_⟩
 simp [-List.reduceReplicate]
 exact⟨k4,k5⟩
theorem rVerify(S:List UInt8) (hS:S.length=32) (many i:Int) (p:Pg) (path:List (List UInt8)) (hp:∀ x∈path,x.length=32) (hpl:path.length≤1000000):PCall Tryz.prog 20 [dDg S,dI many,dI i,dPg p,.sl 32 (path.map dDg)] (.ret (.tup [dB (verB S many i p path),dI (verE many i p path)])):=by
 refine pcall_of_vc hRv c20 (by simp [a20]) fun hr=>?_
 have q1:=p.h1
 have q2:=p.h2
 have hta:(dPg p).cells=.sl 3 (p.ls.map dLn)::(p.salt.map dU++(dB p.gone::p.left.map dU)):=dPg_cells p
 have hSc:(dDg S).cells=S.map dU:=dDg_cells S
 have hfo:D.agg (D.sl 3 (p.ls.map dLn)::(p.salt.map dU++(D.lit (.bool p.gone)::p.left.map dU)))=dPg p:=rfl
 have bad:∀ e:Int,e≠0→verE many i p path=e→verB S many i p path=false:=fun e he h=>by unfold verB;rw [h,decide_eq_false he];rfl
 simp [a20,dPg_noTup,hta,hSc,-List.reduceReplicate]
 have k2:=CRv.within i many
 by_cases h1:many<1
 case pos =>
  have e:verE many i p path=1:=by unfold verE;rw [if_pos (by omega)]
  rw [e,bad 1 (by omega) e]
  refine vc_path [] ?_
  simp [h1,-List.reduceReplicate]
 by_cases h1b:1024<many
 case pos =>
  have e:verE many i p path=1:=by unfold verE;rw [if_pos (by omega)]
  rw [e,bad 1 (by omega) e]
  refine vc_path [] ?_
  simp [h1,h1b,-List.reduceReplicate]
 by_cases h2:0≤i∧i<many
 case neg =>
  have e:verE many i p path=1:=by unfold verE;rw [if_pos (by omega)]
  have eb:(decide (0≤i)&&decide (i<many))=false:=by rw [← Bool.decide_and,decide_eq_false h2]
  rw [e,bad 1 (by omega) e]
  rw [eb] at k2
  refine vc_path [.ret (dB false)] ?_
  simp [h1,h1b,-List.reduceReplicate]
  exact k2
 have eb:(decide (0≤i)&&decide (i<many))=true:=by rw [← Bool.decide_and,decide_eq_true h2]
 rw [eb] at k2
 have k3:=CRv.right p
 refine vc_path [.ret (dB true)] ?_
 simp [h1,h1b,-List.reduceReplicate]
 refine⟨k2,vc_path [.ret (dB (okPg p))] ?_⟩
 by_cases ho:okPg p=true
 case neg =>
  have ho:okPg p=false:=by simpa using ho
  have e:verE many i p path=560:=by unfold verE;rw [if_neg (by omega),ho];rfl
  rw [e,bad 560 (by omega) e]
  rw [ho] at k3 ⊢
  simp [q1,q2,pg_take66,pg_allD,pg_take65,hfo,-List.reduceReplicate]
  exact k3
 have e:verE many i p path=climbE many i (leafP p) path:=by unfold verE;rw [if_neg (by omega),if_pos ho]
 have hlp:=leafP_len p
 have k4:=CRv.leaf p ho
 have k6:=CRv.bytes (leafP p) hlp
 have k5:=CRv.climb many i (leafP p) path (leafP_short p) hp hpl
 have eV:verB S many i p path=(decide (climbE many i (leafP p) path=0)&&decide (climbL many i (leafP p) path=S)):=by unfold verB;rw [e]
 have hcl:=climbL_len many i (leafP p) path
 rw [e,eV]
 rw [ho] at k3 ⊢
 simp [q1,q2,pg_take66,pg_allD,pg_take65,hfo,-List.reduceReplicate]
 generalize leafP p=L at *
 generalize climbL many i L path=X at *
 generalize climbE many i L path=E at *
 refine⟨k3,vc_path [.ret (dDg L),.ret (dBy L),.ret (.tup [dDg X,dI E])] ?_⟩
 have hXc:(dDg X).cells=X.map dU:=dDg_cells _
 have hXk:List.take 32 (X.map (AV.d∘dU))=X.map (AV.d∘dU):=List.take_of_length_le (by simp [hcl])
 have hSk:List.take 32 (S.map (AV.d∘dU))=S.map (AV.d∘dU):=List.take_of_length_le (by simp [hS])
 simp [hta,q1,q2,pg_take66,pg_allD,pg_take65,hfo,hlp,hXc,hcl,allD_dU,setAt_all,-List.reduceReplicate]
 have c1:=eqC_dU hcl hS
 have b1:=eqB_dU _ _ (hcl.trans hS.symm)
 refine⟨k4,k6,k5,?_⟩
 by_cases hE:E=0
 ·subst hE
  simp [hXk,hSk,hXc,hcl,hS,allD_dU,c1,b1,setAt_all,-List.reduceReplicate]
 ·simp [hE,hXk,hSk,hXc,hcl,hS,allD_dU,c1,b1,setAt_all,-List.reduceReplicate]
theorem rRedact(v:Vo) (i:Int):PCall Tryz.prog 12 [dVo v,dI i] (.ret (.tup [dVo (redV v i),dI (redE v i)])):=by
 refine pcall_of_vcZ hRv c12 (by simp [a12]) 4 fun hr=>?_
 have q1:=v.h
 have k1:=CRv.check v
 simp [a12,dVo_cells,-List.reduceReplicate]
 have hal:allD (List.map (AV.d∘dU) v.sl)=some (v.sl.map dU):=allD_dU _
 have hfo:D.agg (.sl 66 (v.ps.map dPg)::v.sl.map dU)=dVo v:=rfl
 have htk:List.take 32 (v.sl.map (AV.d∘dU))=v.sl.map (AV.d∘dU):=List.take_of_length_le (by simp [q1])
 refine vc_path [.ret (dI (checkE v))] ?_
 by_cases hc:checkE v=0
 case neg =>
  have e:redE v i=checkE v:=by unfold redE;rw [if_pos hc]
  have e2:redV v i=vo0:=by unfold redV;rw [e,if_neg hc]
  rw [e,e2]
  simp [hc,q1,hal,htk,hfo,-List.reduceReplicate]
  exact⟨k1,leVo0⟩
 obtain⟨hok,hlen⟩:=sealE_ok (checkE_ok hc)
 rw [hc] at k1
 have k2:=CRv.within i v.ps.length
 rw [hc]
 simp [q1,hal,htk,hfo,-List.reduceReplicate]
 refine⟨k1,vc_path [.ret (dB (decide (0≤i)&&decide (i<v.ps.length)))] ?_⟩
 by_cases hi:i<0∨v.ps.length≤i
 case pos =>
  have e:redE v i=1:=by unfold redE;rw [if_neg (by omega),if_pos hi]
  have e2:redV v i=vo0:=by unfold redV;rw [e,if_neg (by omega)]
  have eb:(decide (0≤i)&&decide (i<v.ps.length))=false:=by
   rcases hi with h | h
   ·rw [decide_eq_false (by omega:¬ 0≤i)];rfl
   ·rw [decide_eq_false (by omega:¬ i<v.ps.length)];simp
  rw [eb] at k2 ⊢
  rw [e,e2]
  simp [-List.reduceReplicate]
  exact⟨k2,leVo0⟩
 have eb:(decide (0≤i)&&decide (i<v.ps.length))=true:=by
  rw [decide_eq_true (by omega),decide_eq_true (by omega)];rfl
 rw [eb] at k2 ⊢
 have e:redE v i=0:=by unfold redE;rw [if_neg (by omega),if_neg hi]
 obtain⟨n,rfl⟩:∃ n:Nat,i=n:=⟨i.toNat,by omega⟩
 have e2:redV v n=⟨v.ps.modify n goneP,v.sl,v.h⟩:=by unfold redV;rw [if_pos e];simp
 have hn:n<v.ps.length:=by omega
 have k3:=CRv.leaf v.ps[n] (hok _ (List.getElem_mem hn))
 rw [e,e2,show dVo ⟨v.ps.modify n goneP,v.sl,v.h⟩=D.agg (.sl 66 ((v.ps.modify n goneP).map dPg)::v.sl.map dU) from rfl]
 clear hfo e2 e eb k1 hc hal hr
 obtain⟨ps,sl,hsl⟩:=v
 simp only at *
 cases ps with
 | nil=>simp at hn
 | cons p r =>
  simp only [List.length_cons] at hn hlen
  have hn2:(n:Int)<r.length+1:=by omega
  obtain⟨P,hP⟩:∃ P,(p::r)[n]=P:=⟨_,rfl⟩
  rw [hP] at k3
  have hgp:(dPg p::List.map dPg r)[n]?=some (dPg P):=by
   rw [← List.map_cons,List.getElem?_map,List.getElem?_eq_getElem hn,hP];rfl
  have p1:=P.h1
  have p2:=P.h2
  have hta:(dPg P).cells=.sl 3 (P.ls.map dLn)::(P.salt.map dU++(dB P.gone::P.left.map dU)):=dPg_cells P
  have hL:=leafP_len P
  have hLc:=dDg_cells (leafP P)
  have hgo:(goneP P).left=leafP P:=rfl
  have hgc:(dPg (goneP P)).cells=.sl 3 []::(z32U.map dU++(dB true::(leafP P).map dU)):=rfl
  have hpl:=pgs_le (ps:=p::r) (n:=n) (P:=P) (by rw [List.getElem?_eq_getElem hn,hP])
  generalize leafP P=L at *
  have hgn:∀ h,(dPg p::List.map dPg r)[n]'h=dPg P:=fun h=>by
   have:=List.getElem?_eq_getElem h
   rw [hgp] at this;exact(Option.some.inj this).symm
  have hset:=rawG_set L hL
  simp only [List.reduceReplicate,List.cons_append,List.nil_append] at hset
  have hrl:=rawG_len L hL
  have hwr:setAt (wr (dPg p::List.map dPg r)) (n*66) ((rawG L).map AV.d)=wr ((dPg p::List.map dPg r).set n (.agg (rawG L))):=by
   refine wr_setN (fun e he=>?_) hrl (by simpa using hn)
   rw [← List.map_cons] at he
   obtain⟨q,_,rfl⟩:=List.mem_map.1 he
   exact dPg_len q
  have hfl:=flat_pgs (p::r)
  simp only [List.map_cons,List.length_cons] at hfl
  have hsk:List.take 32 (sl.map (AV.d∘dU))=sl.map (AV.d∘dU):=List.take_of_length_le (by simp [hsl])
  have hRa:allD ((rawG L).map AV.d)=some (rawG L):=allD_map _
  simp [q1,htk,setAt_all,setAt_all1,allD_dU,-List.reduceReplicate]
  refine⟨by simpa using k2,⟨by omega,by omega⟩,vc_path [.ret (dDg L)] ?_⟩
  simp [hn,hn2,hgn,dPg_len,dPg_isAgg,dPg_noTup,hLc,hL,hset,hRa,hrl,hwr,hsl,hsk,allD_dU,setAt_all,setAt_all1,-List.reduceReplicate]
  have hels:=elsD_set (p::r) n (rawG L) hrl
  have hsl2:(D.flat ((dPg p::List.map dPg r).set n (.agg (rawG L)))).length=(r.length+1)*66:=by
   have:=flat_len (es:=(dPg p::List.map dPg r).set n (.agg (rawG L))) (sz:=66) (fun e he=>by
    rcases List.mem_or_eq_of_mem_set he with he | rfl
    ·rw [← List.map_cons] at he
     obtain⟨q,_,rfl⟩:=List.mem_map.1 he
     exact dPg_len q
    ·exact hrl)
   simpa using this
  simp only [List.map_cons,List.length_cons] at hels hpl
  refine⟨k3,by omega,⟨⟨by omega,?_⟩,frzL_dU _ _ _⟩,fun a _=>rfl⟩
  rw [hels]
  exact hpl
end

section
attribute [local simp] dZ_agg dZ_nt dZ_noTup dZ_cells dZ_one bz_toList bz_size strV dV_cells dV_isAgg dV_noTup dV_nt dBy_cells dBy_one dBy_agg dBy_noTup dBy_nt
attribute [local simp] dG_isAgg dG_noTup dG_nt dG_len dDg_isAgg dDg_noTup dDg_nt
attribute [local simp] dVo_isAgg dVo_noTup dVo_nt dVo_len dPg_isAgg dPg_noTup dPg_nt dPg_len
set_option maxRecDepth 8000
set_option maxHeartbeats 4000000
theorem dU_cells1(s:UInt8):(dU s).cells=[dU s]:=rfl
theorem dU_noTup1(s:UInt8):(AV.d (dU s)).noTup=true:=rfl
theorem lawPage(s:UInt8) (ws:List (List UInt8)) (hs:(s::List.replicate 31 0).length=32):PCall Tryz.prog 25 [dU s,.sl 1 (ws.map dZ)] (.ret (dPg ⟨[⟨3,10,ws,by omega,by omega⟩],s::List.replicate 31 0,false,z32U,hs,z32U_len⟩)):=by
 refine pcall_of_vcZ noC c25 (by simp [a25]) 4 fun hr=>?_
 simp [a25,dU_cells1,dU_noTup1,allD]
 simp [dPg,dLn,z32U]
 exact⟨LeD.refl _,rfl,rfl⟩
def useP (ps:List Pg):Bool:=decide (ps.length≤8)&&(fewPs ps&&ps.all okPg)
def sdV (ps:List Pg):Vo:=if useP ps then sealV ps else vo0
inductive CSd:FuncId→List D→Out→Prop
 | few (ps:List Pg):CSd 8 [.sl 66 (ps.map dPg)] (.ret (dB (fewPs ps)))
 | right (p:Pg):CSd 32 [dPg p] (.ret (dB (okPg p)))
 | sealing (l:List Pg):CSd 9 [.sl 66 (l.map dPg)] (.ret (.tup [dVo (sealV l),dI (sealE l)]))
theorem hSd:∀ f ds out,CSd f ds out→PCall Tryz.prog f ds out:=by
 intro f ds out h
 cases h with
 | few ps=>exact fewPages ps
 | right p=>exact rRight p
 | sealing l=>exact vseal l
theorem lawSealed(l:List Pg):PCall Tryz.prog 22 [.sl 66 (l.map dPg)] (.ret (.tup [dVo (sdV l),dB (useP l),dB true])):=by
 refine pcall_of_vc hSd c22 (by simp [a22]) fun hr=>?_
 have k1:=CSd.few l
 have no:useP l=false→sdV l=vo0:=fun h=>by unfold sdV;rw [h];rfl
 simp [a22,-List.reduceReplicate]
 by_cases h0:8<l.length
 ·have e:useP l=false:=by unfold useP;rw [decide_eq_false (by omega)];rfl
  rw [e,no e]
  have h0':(8:Int)<l.length:=by omega
  refine vc_path [] ?_
  simp [h0',-List.reduceReplicate]
  exact leVo0
 have h0':¬ (8:Int)<l.length:=by omega
 refine vc_path [.ret (dB (fewPs l))] ?_
 cases hf:fewPs l with
 | false =>
  have e:useP l=false:=by unfold useP;rw [hf];simp
  rw [e,no e]
  rw [hf] at k1
  simp [h0',-List.reduceReplicate]
  exact⟨k1,leVo0⟩
 | true =>
  rw [hf] at k1
  simp [h0',-List.reduceReplicate]
  refine⟨k1,?_⟩
  refine vc_loopK [0,2,3,4,17,18] Nat (fun i=>[(19,true,.d (dI i))]) (fun i=>[]) (fun i=>i≤l.length∧∀ j,(h:j<i)→(h2:j<l.length)→okPg l[j]=true) (fun i=>l.length-i) 0 (by simp) ⟨[],[],?_⟩ (fun i hi=>?_)
  ·simp [-List.reduceReplicate]
  obtain⟨g1,g2⟩:=hi
  have hw1:IntKind.i64.wrap ((i:Int)+1)=(i:Int)+1:=wrap64 (by omega)
  rcases Nat.lt_or_ge i l.length with hlt | hge
  ·have hlt':(i:Int)<l.length:=by omega
   have k2:=CSd.right l[i]
   have q1:=l[i].h1
   have q2:=l[i].h2
   obtain⟨P,hPi⟩:∃ P,l[i]=P:=⟨_,rfl⟩
   have hbad:okPg l[i]=false→useP l=false:=fun hb=>by
    unfold useP
    have ha:l.all okPg=false:=by
     rw [Bool.eq_false_iff]
     intro h
     rw [List.all_eq_true.1 h _ (List.getElem_mem hlt)] at hb;cases hb
    rw [ha];simp
   rw [hPi] at k2 q1 q2 hbad
   have hta:(dPg P).cells=.sl 3 (P.ls.map dLn)::(P.salt.map dU++(dB P.gone::P.left.map dU)):=dPg_cells P
   have hfo:D.agg (D.sl 3 (P.ls.map dLn)::(P.salt.map dU++(D.lit (.bool P.gone)::P.left.map dU)))=dPg P:=rfl
   simp [hlt,hlt',hPi,dPg_len,dPg_isAgg,dPg_noTup,-List.reduceReplicate]
   simp [hta,q1,q2,pg_allD,pg_take65,setAt_all,setAt_all1,-List.reduceReplicate]
   refine vc_path [.ret (dB (okPg P))] ?_
   cases hb:okPg P with
   | false =>
    rw [hb] at k2
    have e:=hbad hb
    rw [e,no e]
    simp [hta,q1,q2,pg_take66,pg_allD,pg_take65,hfo,setAt_all,setAt_all1,-List.reduceReplicate]
    exact⟨k2,leVo0⟩
   | true =>
    rw [hb] at k2
    simp [hta,q1,q2,pg_take66,pg_allD,pg_take65,hfo,hw1,setAt_all,setAt_all1,-List.reduceReplicate]
    refine⟨k2,i+1,⟨by omega,fun j hj hj2=>?_⟩,by omega,[],[],?_⟩
    ·by_cases e:j=i
     ·subst e;rw [hPi];exact hb
     ·exact g2 j (by omega) hj2
    ·simp [-List.reduceReplicate]
  ·have hge':¬ (i:Int)<l.length:=by omega
   have hok:∀ p∈l,okPg p=true:=fun p hp=>by
    obtain⟨j,hj,rfl⟩:=List.mem_iff_getElem.1 hp
    exact g2 j (by omega) hj
   have ha:l.all okPg=true:=List.all_eq_true.2 hok
   have eu:useP l=true:=by unfold useP;rw [decide_eq_true (by omega),hf,ha];rfl
   have es:sealE l=0:=by unfold sealE;rw [if_neg (by omega),if_pos ha]
   have ev:sealV l=⟨l,sealL l,sealL_len l⟩:=by unfold sealV;rw [if_pos es]
   have e1:sdV l=sealV l:=by unfold sdV;rw [eu];rfl
   have k3:=CSd.sealing l
   have hvl:(sealV l).ps.length=l.length:=by rw [ev]
   have q2:=(sealV l).h
   rw [es] at k3
   rw [eu,e1]
   simp [hge,hge',-List.reduceReplicate]
   refine vc_path [.ret (.tup [dVo (sealV l),dI 0])] ?_
   simp [dVo_cells,q2,setAt_all,setAt_all1,-List.reduceReplicate]
   refine⟨k3,vc_path [] ?_⟩
   have plx:List.take 32 ((sealV l).sl.map (AV.d∘dU))=(sealV l).sl.map (AV.d∘dU):=List.take_of_length_le (by simp [q2])
   simp [dVo_cells,q2,plx,allD_dU,hvl,setAt_all,setAt_all1,-List.reduceReplicate]
   exact LeD.refl _
end

section
theorem none_ne:(tagL tNone [] == z32U)=false:=by decide +kernel
theorem check_zero:checkE vo0=560:=by
 unfold checkE
 have h:sealE vo0.ps=0:=rfl
 rw [if_neg (by rw [h];simp),if_neg]
 intro he
 have h2:tagL tNone []=z32U:=he
 have h3:=none_ne
 rw [h2] at h3
 simp at h3
theorem check_seal{l:List Pg}(h:sealE l=0):checkE (sealV l)=0:=by
 have e:sealV l=⟨l,sealL l,sealL_len l⟩:=by unfold sealV;rw [if_pos h]
 rw [e]
 unfold checkE
 rw [if_neg (by simpa using h),if_pos rfl]
theorem check_sl{v:Vo}(h:checkE v=0):sealL v.ps=v.sl:=by
 have hs:=checkE_ok h
 unfold checkE at h
 rw [if_neg (by simpa using hs)] at h
 split at h
 ·assumption
 ·omega
theorem red_ok{v:Vo}{n:Nat}(h:checkE v=0) (hn:n<v.ps.length):redE v n=0∧redV v n=⟨v.ps.modify n goneP,v.sl,v.h⟩:=by
 have e:redE v n=0:=by unfold redE;rw [if_neg (by omega),if_neg (by omega)]
 exact⟨e,by unfold redV;rw [if_pos e];simp⟩
theorem check_red{v:Vo}{n:Nat}(h:checkE v=0) (hn:n<v.ps.length):checkE (redV v n)=0:=by
 rw [(red_ok h hn).2]
 obtain⟨hok,hlen⟩:=sealE_ok (checkE_ok h)
 have hs:sealE (v.ps.modify n goneP)=0:=by
  unfold sealE
  rw [if_neg (by simp;omega),if_pos]
  rw [List.all_eq_true]
  intro p hp
  obtain⟨j,hj,rfl⟩:=List.mem_iff_getElem.1 hp
  rw [List.getElem_modify]
  split
  ·exact okPg_gone _
  ·exact hok _ (List.getElem_mem _)
 unfold checkE
 rw [if_neg (by simpa using hs),if_pos]
 show sealL (v.ps.modify n goneP)=v.sl
 unfold sealL
 rw [leaves_modify]
 exact check_sl h
theorem prv_ok{v:Vo}{n:Nat}(h:checkE v=0) (hn:n<v.ps.length):prvE v n=0∧prvL v n=pathR ((leavesL v.ps).map leafH) n:=by
 have e:prvE v n=0:=by unfold prvE;rw [if_neg (by omega),if_neg (by omega)]
 exact⟨e,by unfold prvL;rw [if_pos e];simp⟩
theorem ver_ok{v:Vo}{n:Nat}{p:Pg}(h:checkE v=0) (hn:n<v.ps.length) (hp:okPg p=true) (hl:leafP p=leafP v.ps[n]):verE v.ps.length n p (prvL v n)=0∧verB v.sl v.ps.length n p (prvL v n)=true:=by
 obtain⟨hok,hlen⟩:=sealE_ok (checkE_ok h)
 have hne:leavesL v.ps≠[]:=by
  intro he
  have:=congrArg List.length he
  rw [leavesL_len,List.length_nil] at this
  omega
 have hrow:((leavesL v.ps).map leafH)[n]?=some (leafH (leafP p)):=by
  rw [hl];simp [leavesL,hn]
 have hc:=climb_path v.ps.length ((leavesL v.ps).map leafH) n (leafH (leafP p)) (by simp [leavesL]) hrow
 have hroot:rootR ((leavesL v.ps).map leafH)=v.sl:=by
  rw [← check_sl h];unfold sealL rootL;rw [if_neg hne]
 have e1:climbE v.ps.length n (leafP p) (prvL v n)=0:=by
  unfold climbE
  rw [if_neg (by omega),(prv_ok h hn).2]
  simp [hc]
 have e2:climbL v.ps.length n (leafP p) (prvL v n)=v.sl:=by
  unfold climbL
  rw [if_pos e1,(prv_ok h hn).2]
  simp [hc,hroot]
 have e3:verE v.ps.length n p (prvL v n)=0:=by
  unfold verE;rw [if_neg (by omega),if_pos hp,e1]
 exact⟨e3,by unfold verB;rw [e3,e2];simp⟩
theorem s32(s:UInt8):(s::List.replicate 31 0).length=32:=by simp
def pgX (s:UInt8) (ws:List (List UInt8)):Pg:=⟨[⟨3,10,ws,by omega,by omega⟩],s::List.replicate 31 0,false,z32U,s32 s,z32U_len⟩
def pg1:Pg:=pgX 1 [[119,101],[115,105,116]]
def pg2:Pg:=pgX 2 []
def pgB:Pg:=pgX 1 [[97,32,98]]
def pg0:Pg:=⟨[],z32U,false,z32U,z32U_len,z32U_len⟩
theorem ok1:okPg pg1=true:=by decide +kernel
theorem ok2:okPg pg2=true:=by decide +kernel
theorem okB:okPg pgB=false:=by decide +kernel
theorem seN:sealE []=0:=rfl
theorem se2:sealE [pg1,pg2]=0:=by
 unfold sealE;rw [if_neg (by simp),if_pos (by simp [ok1,ok2])]
theorem seB:sealE [pgB]=560:=by
 unfold sealE;rw [if_neg (by simp),if_neg (by simp [okB])]
theorem seM:sealE (List.replicate 1025 pg0)=2:=by
 unfold sealE;rw [if_pos (by rw [List.length_replicate];omega)]
theorem vN:sealV []=⟨[],sealL [],sealL_len []⟩:=by unfold sealV;rw [if_pos seN]
theorem v2:sealV [pg1,pg2]=⟨[pg1,pg2],sealL [pg1,pg2],sealL_len _⟩:=by unfold sealV;rw [if_pos se2]
theorem ckN:checkE (sealV [])=0:=check_seal seN
theorem ck2':checkE (sealV [pg1,pg2])=0:=check_seal se2
theorem rdN:redE (sealV []) 0=1:=by
 unfold redE;rw [if_neg (by rw [ckN];simp),if_pos (by rw [vN];simp)]
theorem veN(p:Pg):verE 0 0 p []=1:=by unfold verE;rw [if_pos (by omega)]
theorem rd2:redE (sealV [pg1,pg2]) 0=0∧redV (sealV [pg1,pg2]) 0=⟨[goneP pg1,pg2],sealL [pg1,pg2],sealL_len _⟩:=by
 have h:=red_ok (n:=0) ck2' (by rw [v2];simp)
 refine⟨h.1,h.2.trans ?_⟩
 rw [v2];rfl
theorem ckG:checkE (redV (sealV [pg1,pg2]) 0)=0:=check_red (n:=0) ck2' (by rw [v2];simp)
theorem pr2:prvE (sealV [pg1,pg2]) 0=0:=(prv_ok (n:=0) ck2' (by rw [v2];simp)).1
theorem ve2:verE 2 0 pg1 (prvL (sealV [pg1,pg2]) 0)=0∧verB (sealL [pg1,pg2]) 2 0 pg1 (prvL (sealV [pg1,pg2]) 0)=true:=by
 have h:=ver_ok (v:=sealV [pg1,pg2]) (n:=0) (p:=pg1) ck2' (by rw [v2];simp) ok1 (by simp only [v2];rfl)
 simp only [v2] at h ⊢
 exact h
end

section
attribute [local simp] dZ_agg dZ_nt dZ_noTup dZ_cells dZ_one bz_toList bz_size strV dV_cells dV_isAgg dV_noTup dV_nt dBy_cells dBy_one dBy_agg dBy_noTup dBy_nt
attribute [local simp] dG_isAgg dG_noTup dG_nt dG_len dDg_isAgg dDg_noTup dDg_nt
attribute [local simp] dVo_isAgg dVo_noTup dVo_nt dVo_len dPg_isAgg dPg_noTup dPg_nt dPg_len
set_option maxRecDepth 8000
set_option maxHeartbeats 4000000
def rawZ:D:=.agg (.nil 3::(z32U.map dU++(dB false::z32U.map dU)))
theorem rawZ_le:All2 LeD rawZ.cells (dPg pg0).cells:=by
 show All2 LeD (.nil 3::(z32U.map dU++(dB false::z32U.map dU))) (.sl 3 []::(z32U.map dU++(dB false::z32U.map dU)))
 exact .cons (.nil 3) (all2_refl LeD.refl _)
theorem pgs_ones(ps:List Pg):∀ c∈D.flat (ps.map dPg),c.one=true:=fun c hc=>by
 obtain⟨d,hd,hcd⟩:=List.mem_flatMap.1 hc
 obtain⟨v,_,rfl⟩:=List.mem_map.1 hd
 rw [dPg_cells] at hcd
 rcases List.mem_cons.1 hcd with rfl | hcd
 ·rfl
 ·rcases List.mem_append.1 hcd with hcd | hcd
  ·exact dUs_one _ c hcd
  ·rcases List.mem_cons.1 hcd with rfl | hcd
   ·rfl
   ·exact dUs_one _ c hcd
theorem rep_all2(n:Nat):All2 (fun x y:D=>All2 LeD x.cells y.cells) (List.replicate n rawZ) ((List.replicate n pg0).map dPg):=by
 induction n with
 | zero=>exact .nil
 | succ n ih=>rw [List.replicate_succ,List.replicate_succ,List.map_cons];exact .cons rawZ_le ih
theorem rep_le(n:Nat):LeD (.sl 66 (List.replicate n rawZ)) (.sl 66 ((List.replicate n pg0).map dPg)):=by
 refine LeD_sl (all2_flat (rep_all2 n)) ?_ ?_ (pgs_ones _)
 ·simp
 ·intro e he
  obtain⟨v,_,rfl⟩:=List.mem_map.1 he
  exact dPg_len v
theorem zPage_le:LeD rawZ (dPg pg0):=by
 refine LeD.agg (cs:=.nil 3::(z32U.map dU++(dB false::z32U.map dU))) (ds:=.sl 3 []::(z32U.map dU++(dB false::z32U.map dU))) rawZ_le fun c hc=>?_
 refine pgs_ones [pg0] c (List.mem_flatMap.2 ⟨dPg pg0,by simp,?_⟩)
 rw [dPg_cells];exact hc
end

section
set_option maxRecDepth 8000
inductive CSan:FuncId→List D→Out→Prop
 | sealN:CSan 9 [.nil 0] (.ret (.tup [dVo (sealV []),dI (sealE [])]))
 | seals (l:List Pg):CSan 9 [.sl 66 (l.map dPg)] (.ret (.tup [dVo (sealV l),dI (sealE l)]))
 | sealZ (n:Nat):CSan 9 [.sl 66 (List.replicate n rawZ)] (.ret (.tup [dVo (sealV (List.replicate n pg0)),dI (sealE (List.replicate n pg0))]))
 | page (s:UInt8) (ws:List (List UInt8)):CSan 25 [dU s,.sl 1 (ws.map dZ)] (.ret (dPg (pgX s ws)))
 | pageN (s:UInt8):CSan 25 [dU s,.nil 0] (.ret (dPg (pgX s [])))
 | red (v:Vo) (i:Int):CSan 11 [dVo v,dI i] (.ret (.tup [dVo (redV v i),dI (redE v i)]))
 | verify (S:List UInt8) (hS:S.length=32) (many i:Int) (hm:-9223372036854775808≤many∧many<9223372036854775808) (p:Pg) (path:List (List UInt8)) (hp:∀ x∈path,x.length=32) (hpl:path.length≤1000000):CSan 19 [dDg S,dI many,dI i,dPg p,.sl 32 (path.map dDg)] (.ret (.tup [dB (verB S many i p path),dI (verE many i p path)]))
 | verZ:CSan 19 [dDg z32U,dI 0,dI 0,rawZ,.nil 0] (.ret (.tup [dB (verB z32U 0 0 pg0 []),dI (verE 0 0 pg0 [])]))
 | check (v:Vo):CSan 14 [dVo v] (.ret (dI (checkE v)))
 | checkZ:CSan 14 [.agg (.nil 66::z32U.map dU)] (.ret (dI 560))
 | prove (v:Vo) (i:Int):CSan 17 [dVo v,dI i] (.ret (.tup [.sl 32 ((prvL v i).map dDg),dI (prvE v i)]))
 | samePage (x y:Pg):CSan 23 [dPg x,dPg y] (.ret (dB (decide (x=y))))
 | rootN:CSan 26 [.nil 0] (.ret (dDg (rootL [])))
theorem hSan:∀ f ds out,CSan f ds out→PCall Tryz.prog f ds out:=by
 intro f ds out h
 cases h with
 | sealN=>exact(vseal []).le (.cons (LeD.nil' _ _) .nil)
 | seals l=>exact vseal l
 | sealZ n=>exact(vseal _).le (.cons (rep_le n) .nil)
 | page s ws=>exact lawPage s ws (s32 s)
 | pageN s=>exact(lawPage s [] (s32 s)).le (.cons (LeD.refl _) (.cons (LeD.nil' _ _) .nil))
 | red v i=>exact vredact v i
 | verify S hS many i hm p path hp hpl=>exact vverify S hS many i hm p path hp hpl
 | verZ=>exact(vverify z32U z32U_len 0 0 (by omega) pg0 [] (by simp) (by simp)).le (.cons (LeD.refl _) (.cons (LeD.refl _) (.cons (LeD.refl _) (.cons zPage_le (.cons (LeD.nil' _ _) .nil)))))
 | check v=>exact vcheck v
 | checkZ =>
  have:=(vcheck vo0).le (.cons leVo0 .nil)
  rw [check_zero] at this;exact this
 | prove v i=>exact vprove v i
 | samePage x y=>exact samePage x y
 | rootN=>exact(mroot [] (by simp) (by simp)).le (.cons (LeD.nil' _ _) .nil)
end

section
attribute [local simp] dZ_agg dZ_nt dZ_noTup dZ_cells dZ_one bz_toList bz_size strV dV_cells dV_isAgg dV_noTup dV_nt dBy_cells dBy_one dBy_agg dBy_noTup dBy_nt
attribute [local simp] dG_isAgg dG_noTup dG_nt dG_len dDg_isAgg dDg_noTup dDg_nt
attribute [local simp] dVo_isAgg dVo_noTup dVo_nt dVo_len dPg_isAgg dPg_noTup dPg_nt dPg_len
set_option maxRecDepth 8000
set_option maxHeartbeats 4000000
theorem pathR_32:∀ (n:Nat) (row:List (List UInt8)) (i:Nat),row.length=n→(∀ x∈row,x.length=32)→∀ x∈pathR row i,x.length=32:=by
 intro n
 induction n using Nat.strongRecOn with
 | _ n ih =>
  intro row i hn h x hx
  by_cases h1:1<row.length
  ·rw [pathR_step i h1] at hx
   rcases List.mem_append.1 hx with hx | hx
   ·obtain hx:=Option.mem_toList.1 hx
    exact h x (List.mem_of_getElem? hx)
   ·exact ih _ (by rw [← hn];have:=upL_len row;omega) (upL row) (i / 2) rfl (upL_32 row h) x hx
  ·rw [pathR_one i h1] at hx;cases hx
theorem prvL_32(v:Vo) (i:Int):∀ x∈prvL v i,x.length=32:=by
 intro x hx
 unfold prvL at hx
 split at hx
 ·exact pathR_32 _ _ _ rfl (leaves_32 _) x hx
 ·cases hx
theorem lawSane:PCall Tryz.prog 7 [] (.ret (dB true)):=by
 refine pcall_of_vc hSan c7 (by simp [a7]) fun hr=>?_
 have k1:=CSan.sealN
 rw [seN] at k1
 have qN:=(sealV []).h
 have pN:(sealV []).ps=[]:=by rw [vN]
 simp [a7,-List.reduceReplicate]
 refine vc_path [.ret (.tup [dVo (sealV []),dI 0])] ?_
 simp [dVo_cells,qN,setAt_all,setAt_all1,-List.reduceReplicate]
 refine⟨k1,?_⟩
 have k2:=CSan.page 1 [[119,101],[115,105,116]]
 have k3:=CSan.pageN 2
 have k4:=CSan.seals [pg1,pg2]
 rw [se2] at k4
 have q2:=(sealV [pg1,pg2]).h
 refine vc_path [.ret (dPg pg1),.ret (dPg pg2),.ret (.tup [dVo (sealV [pg1,pg2]),dI 0])] ?_
 simp [dVo_cells,q2,setAt_all,setAt_all1,-List.reduceReplicate]
 refine⟨k2,k3,k4,?_⟩
 have k5:=CSan.page 1 [[97,32,98]]
 have k6:=CSan.seals [pgB]
 rw [seB] at k6
 have qB:=(sealV [pgB]).h
 refine vc_path [.ret (dPg pgB),.ret (.tup [dVo (sealV [pgB]),dI 560])] ?_
 simp [dVo_cells,qB,setAt_all,setAt_all1,-List.reduceReplicate]
 refine⟨k5,k6,?_⟩
 have k7:=CSan.red (sealV []) 0
 rw [rdN] at k7
 have eN:redV (sealV []) 0=vo0:=by unfold redV;rw [rdN,if_neg (by omega)]
 rw [eN] at k7
 have qZ:=vo0.h
 have tN:List.take 32 ((sealV []).sl.map (AV.d∘dU))=(sealV []).sl.map (AV.d∘dU):=List.take_of_length_le (by simp [qN])
 have fN:D.agg (.sl 66 []::(sealV []).sl.map dU)=dVo (sealV []):=by rw [show dVo (sealV [])=D.agg (.sl 66 ((sealV []).ps.map dPg)::(sealV []).sl.map dU) from rfl,pN];rfl
 refine vc_path [.ret (.tup [dVo vo0,dI 1])] ?_
 simp [dVo_cells,pN,qN,qZ,tN,fN,allD_dU,setAt_all,setAt_all1,-List.reduceReplicate]
 refine⟨k7,?_⟩
 have k8:=CSan.verZ
 rw [veN] at k8
 generalize verB z32U 0 0 pg0 []=bz at k8
 refine vc_path [.ret (.tup [dB bz,dI 1])] ?_
 simp [setAt_all,setAt_all1,allD,-List.reduceReplicate]
 refine⟨k8,?_⟩
 have k9:=CSan.sealZ 1025
 have eM:sealV (List.replicate 1025 pg0)=vo0:=by unfold sealV;rw [seM,if_neg (by omega)]
 rw [seM,eM] at k9
 have hrl:(List.replicate 1025 rawZ).length=1025:=List.length_replicate ..
 refine vc_path [.ret (.tup [dVo vo0,dI 2])] ?_
 simp [dVo_cells,qZ,setAt_all,setAt_all1,-List.reduceReplicate]
 refine⟨k9,?_⟩
 have k10:=CSan.checkZ
 have k11:=CSan.check (sealV [])
 rw [ckN] at k11
 have p2:(sealV [pg1,pg2]).ps=[pg1,pg2]:=by rw [v2]
 refine vc_path [.ret (dI 560),.ret (dI 0)] ?_
 simp [dVo_cells,p2,pN,qN,tN,fN,allD_dU,setAt_all,setAt_all1,allD,-List.reduceReplicate]
 refine⟨k10,k11,?_⟩
 have k12:=CSan.prove (sealV [pg1,pg2]) 0
 rw [pr2] at k12
 have t2:List.take 32 ((sealV [pg1,pg2]).sl.map (AV.d∘dU))=(sealV [pg1,pg2]).sl.map (AV.d∘dU):=List.take_of_length_le (by simp [q2])
 have f2:D.agg (.sl 66 [dPg pg1,dPg pg2]::(sealV [pg1,pg2]).sl.map dU)=dVo (sealV [pg1,pg2]):=by rw [show dVo (sealV [pg1,pg2])=D.agg (.sl 66 ((sealV [pg1,pg2]).ps.map dPg)::(sealV [pg1,pg2]).sl.map dU) from rfl,p2];rfl
 refine vc_path [.ret (.tup [.sl 32 ((prvL (sealV [pg1,pg2]) 0).map dDg),dI 0])] ?_
 simp [q2,t2,f2,allD_dU,setAt_all,setAt_all1,-List.reduceReplicate]
 have hpl:(prvL (sealV [pg1,pg2]) 0).length≤1000000:=by
  have h:prvL (sealV [pg1,pg2]) 0=pathR ((leavesL (sealV [pg1,pg2]).ps).map leafH) 0:=(prv_ok (v:=sealV [pg1,pg2]) (n:=0) ck2' (by rw [v2];simp)).2
  have:(prvL (sealV [pg1,pg2]) 0).length≤1:=by
   rw [h,p2]
   rw [pathR_step _ (by simp [leavesL]),pathR_one _ (by rw [upL_len];simp [leavesL]),List.append_nil]
   cases ((leavesL [pg1,pg2]).map leafH)[0^^^1]? <;> simp
  omega
 have k13:=CSan.verify (sealV [pg1,pg2]).sl q2 2 0 (by omega) pg1 (prvL (sealV [pg1,pg2]) 0) (prvL_32 _ _) hpl
 have h2:(sealV [pg1,pg2]).sl=sealL [pg1,pg2]:=by rw [v2]
 rw [ve2.1,show verB (sealV [pg1,pg2]).sl 2 0 pg1 (prvL (sealV [pg1,pg2]) 0)=true by rw [h2];exact ve2.2] at k13
 generalize prvL (sealV [pg1,pg2]) 0=PT at *
 refine⟨k12,vc_pathD [.ret (dPg pg1),.ret (.tup [dB true,dI 0])] ?_⟩
 simp [q2,t2,f2,allD_dU,setAt_all,setAt_all1,-List.reduceReplicate]
 refine⟨k2,k13,rfl,?_⟩
 have k14:=CSan.red (sealV [pg1,pg2]) 0
 rw [rd2.1] at k14
 have pG:(redV (sealV [pg1,pg2]) 0).ps=[goneP pg1,pg2]:=by rw [rd2.2]
 have hG:(redV (sealV [pg1,pg2]) 0).sl=(sealV [pg1,pg2]).sl:=by rw [rd2.2,v2]
 have k15:=CSan.check (redV (sealV [pg1,pg2]) 0)
 rw [ckG] at k15
 generalize redV (sealV [pg1,pg2]) 0=G at *
 have qG:=G.h
 refine vc_path [.ret (.tup [dVo G,dI 0])] ?_
 simp [dVo_cells,q2,qG,t2,f2,allD_dU,setAt_all,setAt_all1,-List.reduceReplicate]
 refine⟨k14,?_⟩
 have k16:=CSan.rootN
 have hN:(sealV []).sl=rootL []:=by rw [vN];rfl
 have b1:=eqB_dU (sealV []).sl (rootL []) (by rw [hN])
 rw [decide_eq_true hN] at b1
 have hrl:(rootL []).length=32:=by rw [← hN];exact qN
 have c1:=eqC_dU qN hrl
 have hrc:(dDg (rootL [])).cells=(rootL []).map dU:=dDg_cells _
 generalize rootL []=RL at *
 have rcl:List.take 32 (RL.map (AV.d∘dU))=RL.map (AV.d∘dU):=List.take_of_length_le (by simp [hrl])
 obtain⟨P,hP⟩:∃ P,goneP pg1=P:=⟨_,rfl⟩
 have e1:P.gone=true:=by rw [← hP];rfl
 have e2:P.ls=[]:=by rw [← hP];rfl
 have e3:P.salt=z32U:=by rw [← hP];rfl
 have p1:=P.h1
 have p3:=P.h2
 have hta:(dPg P).cells=.sl 3 (P.ls.map dLn)::(P.salt.map dU++(dB P.gone::P.left.map dU)):=dPg_cells P
 have hfo:D.agg (D.sl 3 (P.ls.map dLn)::(P.salt.map dU++(D.lit (.bool P.gone)::P.left.map dU)))=dPg P:=rfl
 rw [hP] at pG
 have tG:List.take 32 (G.sl.map (AV.d∘dU))=G.sl.map (AV.d∘dU):=List.take_of_length_le (by simp [qG])
 have fG:D.agg (.sl 66 [dPg P,dPg pg2]::G.sl.map dU)=dVo G:=by rw [show dVo G=D.agg (.sl 66 (G.ps.map dPg)::G.sl.map dU) from rfl,pG];rfl
 refine vc_pathD [.ret (.agg (RL.map dU))] ?_
 simp [pG,qN,tN,hrl,hrc,rcl,b1,c1,dPg_len,dPg_isAgg,dPg_noTup,hta,p1,p3,qG,tG,allD_dU,setAt_all,setAt_all1,-List.reduceReplicate]
 refine⟨k16,rfl,?_⟩
 have b2:=eqB_dU P.salt z32U (by rw [p1,z32U_len])
 rw [decide_eq_true e3,← zlit] at b2
 have c2:=eqC_dU p1 z32U_len
 rw [← zlit] at c2
 have b3:=eqB_dU G.sl (sealV [pg1,pg2]).sl (by rw [qG,q2])
 rw [decide_eq_true hG] at b3
 have c3:=eqC_dU qG q2
 have k17:=CSan.samePage pg2 pg2
 rw [decide_eq_true rfl] at k17
 refine vc_pathD [.ret (dPg pg2),.ret (dB true),.ret (dI 0)] ?_
 simp [pG,e1,e2,p1,p3,q2,qG,t2,tG,f2,fG,pg_allD,pg_take65,pg_take66,b2,b3,c2,c3,allD_dU,setAt_all,setAt_all1,-List.reduceReplicate]
 exact⟨k3,k17,k15,rfl⟩
theorem pathDg(a:List (List UInt8)) (h:∀ x∈a,x.length=32):(a.pmap Dg.mk h).map dG=a.map dDg:=by
 induction a with
 | nil=>rfl
 | cons x r ih=>simp only [List.pmap,List.map_cons];rw [ih];rfl
inductive CVl:FuncId→List D→Out→Prop
 | sane:CVl 7 [] (.ret (dB true))
 | few (ps:List Pg):CVl 8 [.sl 66 (ps.map dPg)] (.ret (dB (fewPs ps)))
 | fewPage (p:Pg):CVl 16 [dPg p] (.ret (dB (fewPg p)))
 | seals (l:List Pg):CVl 9 [.sl 66 (l.map dPg)] (.ret (.tup [dVo (sealV l),dI (sealE l)]))
 | rseals (l:List Pg):CVl 10 [.sl 66 (l.map dPg)] (.ret (.tup [dVo (sealV l),dI (sealE l)]))
 | red (v:Vo) (i:Int):CVl 11 [dVo v,dI i] (.ret (.tup [dVo (redV v i),dI (redE v i)]))
 | rred (v:Vo) (i:Int):CVl 12 [dVo v,dI i] (.ret (.tup [dVo (redV v i),dI (redE v i)]))
 | check (v:Vo):CVl 14 [dVo v] (.ret (dI (checkE v)))
 | rcheck (v:Vo):CVl 15 [dVo v] (.ret (dI (checkE v)))
 | same (x y:Vo):CVl 13 [dVo x,dVo y] (.ret (dB (decide (x=y))))
 | prove (v:Vo) (i:Int):CVl 17 [dVo v,dI i] (.ret (.tup [.sl 32 ((prvL v i).map dDg),dI (prvE v i)]))
 | rprove (v:Vo) (i:Int):CVl 18 [dVo v,dI i] (.ret (.tup [.sl 32 ((prvL v i).map dDg),dI (prvE v i)]))
 | verify (S:List UInt8) (hS:S.length=32) (many i:Int) (hm:-9223372036854775808≤many∧many<9223372036854775808) (p:Pg) (path:List (List UInt8)) (hp:∀ x∈path,x.length=32) (hpl:path.length≤1000000):CVl 19 [dDg S,dI many,dI i,dPg p,.sl 32 (path.map dDg)] (.ret (.tup [dB (verB S many i p path),dI (verE many i p path)]))
 | rverify (S:List UInt8) (hS:S.length=32) (many i:Int) (p:Pg) (path:List (List UInt8)) (hp:∀ x∈path,x.length=32) (hpl:path.length≤1000000):CVl 20 [dDg S,dI many,dI i,dPg p,.sl 32 (path.map dDg)] (.ret (.tup [dB (verB S many i p path),dI (verE many i p path)]))
 | samePath (a b:List Dg):CVl 21 [.sl 32 (a.map dG),.sl 32 (b.map dG)] (.ret (dB (decide (a=b))))
 | samePage (x y:Pg):CVl 23 [dPg x,dPg y] (.ret (dB (decide (x=y))))
 | samePathL (a:List (List UInt8)) (h:∀ x∈a,x.length=32):CVl 21 [.sl 32 (a.map dDg),.sl 32 (a.map dDg)] (.ret (dB true))
 | leaf (p:Pg) (h:okPg p=true):CVl 24 [dPg p] (.ret (dDg (leafP p)))
 | isSealed (l:List Pg):CVl 22 [.sl 66 (l.map dPg)] (.ret (.tup [dVo (sdV l),dB (useP l),dB true]))
theorem hVl:∀ f ds out,CVl f ds out→PCall Tryz.prog f ds out:=by
 intro f ds out h
 cases h with
 | sane=>exact lawSane
 | few ps=>exact fewPages ps
 | fewPage p=>exact fewPage p
 | seals l=>exact vseal l
 | rseals l=>exact rSeal l
 | red v i=>exact vredact v i
 | rred v i=>exact rRedact v i
 | check v=>exact vcheck v
 | rcheck v=>exact rCheck v
 | same x y=>exact sameVo x y
 | prove v i=>exact vprove v i
 | rprove v i=>exact rProve v i
 | verify S hS many i hm p path hp hpl=>exact vverify S hS many i hm p path hp hpl
 | rverify S hS many i p path hp hpl=>exact rVerify S hS many i p path hp hpl
 | samePath a b=>exact samePath a b
 | samePage x y=>exact samePage x y
 | samePathL a h =>
  have e:=pathDg a h
  have k:=samePath (a.pmap Dg.mk h) (a.pmap Dg.mk h)
  rw [decide_eq_true rfl,e] at k
  exact k
 | leaf p h=>exact lawLeaf p h
 | isSealed l=>exact lawSealed l
theorem gone_gone(p:Pg):goneP (goneP p)=goneP p:=by
 refine Pg.ext' rfl rfl rfl ?_
 exact leafP_gone p
theorem mod_comm(l:List Pg) (i k:Nat):(l.modify i goneP).modify k goneP=(l.modify k goneP).modify i goneP:=by
 refine List.ext_getElem (by simp) fun n h1 h2=>?_
 simp only [List.getElem_modify]
 split <;> split <;> rfl
theorem mod_twice(l:List Pg) (i:Nat):(l.modify i goneP).modify i goneP=l.modify i goneP:=by
 refine List.ext_getElem (by simp) fun n h1 h2=>?_
 simp only [List.getElem_modify]
 split
 ·exact gone_gone _
 ·rfl
theorem useP_ok{l:List Pg}(h:useP l=true):l.length≤8∧sdV l=sealV l∧sealE l=0∧(sealV l).ps=l∧checkE (sealV l)=0∧∀ p∈l,okPg p=true:=by
 have h0:=h
 unfold useP at h
 simp only [Bool.and_eq_true,decide_eq_true_eq,List.all_eq_true] at h
 obtain⟨h1,_,h3⟩:=h
 have hs:sealE l=0:=by
  unfold sealE
  rw [if_neg (by omega),if_pos (List.all_eq_true.2 h3)]
 refine⟨h1,by unfold sdV;rw [if_pos h0],hs,by unfold sealV;rw [if_pos hs],check_seal hs,h3⟩
theorem volumesOrder(pages:List Pg) (a b:UInt8):PCall Tryz.prog 6 [.sl 66 (pages.map dPg),dU a,dU b] (.ret (dB true)):=by
 refine pcall_of_vc hVl c6 (by simp [a6]) fun hr=>?_
 simp [a6,-List.reduceReplicate]
 refine vc_path [.ret (dB true)] ?_
 simp [-List.reduceReplicate]
 refine⟨.sane,?_⟩
 have k1:=CVl.isSealed pages
 have q0:=(sdV pages).h
 by_cases hu:useP pages=true
 case neg =>
  have hu:useP pages=false:=by simpa using hu
  rw [hu] at k1
  refine vc_path [.ret (.tup [dVo (sdV pages),dB false,dB true])] ?_
  simp [dVo_cells,q0,setAt_all,setAt_all1,-List.reduceReplicate]
  refine⟨k1,?_⟩
  refine vc_path [] ?_
  simp [-List.reduceReplicate]
 obtain⟨u1,u2,u3,u4,u5,u6⟩:=useP_ok hu
 rw [hu,u2] at k1
 rw [u2] at q0
 generalize sealV pages=V at *
 refine vc_path [.ret (.tup [dVo V,dB true,dB true])] ?_
 simp [dVo_cells,q0,setAt_all,setAt_all1,-List.reduceReplicate]
 refine⟨k1,?_⟩
 by_cases h0:pages=[]
 ·subst h0
  refine vc_path [] ?_
  simp [-List.reduceReplicate]
 have h0':0<pages.length:=List.length_pos_iff.2 h0
 obtain⟨i,hi⟩:∃ i,i=a.toNat % pages.length:=⟨_,rfl⟩
 obtain⟨k,hk⟩:∃ k,k=b.toNat % pages.length:=⟨_,rfl⟩
 have hil:i<pages.length:=by rw [hi];exact Nat.mod_lt _ h0'
 have hkl:k<pages.length:=by rw [hk];exact Nat.mod_lt _ h0'
 have hiw:(IntKind.i64.wrap (a.toNat:Int)).tmod (pages.length:Int)=(i:Nat):=by
  have:=a.toNat_lt
  rw [wrap64 (by omega),Int.tmod_eq_emod_of_nonneg (by omega),hi]
  rfl
 have hkw:(IntKind.i64.wrap (b.toNat:Int)).tmod (pages.length:Int)=(k:Nat):=by
  have:=b.toNat_lt
  rw [wrap64 (by omega),Int.tmod_eq_emod_of_nonneg (by omega),hk]
  rfl
 have x1:=red_ok (v:=V) (n:=i) u5 (by rw [u4];exact hil)
 have x2:=check_red (v:=V) (n:=i) u5 (by rw [u4];exact hil)
 have z1:=red_ok (v:=V) (n:=k) u5 (by rw [u4];exact hkl)
 have z2:=check_red (v:=V) (n:=k) u5 (by rw [u4];exact hkl)
 have kx:=CVl.red V i
 have kz:=CVl.red V k
 rw [x1.1] at kx
 rw [z1.1] at kz
 have px:(redV V i).ps=pages.modify i goneP:=by rw [x1.2];simp [u4]
 have pz:(redV V k).ps=pages.modify k goneP:=by rw [z1.2];simp [u4]
 have sx:(redV V i).sl=V.sl:=by rw [x1.2]
 have sz:(redV V k).sl=V.sl:=by rw [z1.2]
 generalize redV V i=X at *
 generalize redV V k=Z at *
 have y1:=red_ok (v:=X) (n:=k) x2 (by rw [px];simpa using hkl)
 have w1:=red_ok (v:=Z) (n:=i) z2 (by rw [pz];simpa using hil)
 have t1:=red_ok (v:=X) (n:=i) x2 (by rw [px];simpa using hil)
 have ky:=CVl.red X k
 have kw:=CVl.red Z i
 have kt:=CVl.red X i
 rw [y1.1] at ky
 rw [w1.1] at kw
 rw [t1.1] at kt
 have eyw:redV X k=redV Z i:=by
  rw [y1.2,w1.2]
  refine Vo.ext' ?_ ?_
  ·simp only [px,pz];exact mod_comm _ _ _
  ·simp only [sx,sz]
 have etx:redV X i=X:=by
  rw [t1.2]
  refine Vo.ext' ?_ rfl
  simp only [px];exact mod_twice _ _
 rw [eyw] at ky
 rw [etx] at kt
 generalize redV Z i=Y at *
 have qx:=X.h
 have qz:=Z.h
 have qy:=Y.h
 have fV:D.agg (.sl 66 (V.ps.map dPg)::V.sl.map dU)=dVo V:=rfl
 have fX:D.agg (.sl 66 (X.ps.map dPg)::X.sl.map dU)=dVo X:=rfl
 have fZ:D.agg (.sl 66 (Z.ps.map dPg)::Z.sl.map dU)=dVo Z:=rfl
 have fY:D.agg (.sl 66 (Y.ps.map dPg)::Y.sl.map dU)=dVo Y:=rfl
 have tV:List.take 32 (V.sl.map (AV.d∘dU))=V.sl.map (AV.d∘dU):=List.take_of_length_le (by simp [q0])
 have tX:List.take 32 (X.sl.map (AV.d∘dU))=X.sl.map (AV.d∘dU):=List.take_of_length_le (by simp [qx])
 have tZ:List.take 32 (Z.sl.map (AV.d∘dU))=Z.sl.map (AV.d∘dU):=List.take_of_length_le (by simp [qz])
 have tY:List.take 32 (Y.sl.map (AV.d∘dU))=Y.sl.map (AV.d∘dU):=List.take_of_length_le (by simp [qy])
 refine vc_path [] ?_
 simp [h0,h0',dU,hiw,hkw,-List.reduceReplicate]
 refine⟨rfl,vc_path [.ret (.tup [dVo X,dI 0])] ?_⟩
 simp [dVo_cells,q0,qx,qz,qy,tV,tX,tZ,tY,fV,fX,fZ,fY,allD_dU,setAt_all,setAt_all1,-List.reduceReplicate]
 refine⟨kx,vc_path [.ret (.tup [dVo Y,dI 0])] ?_⟩
 simp [dVo_cells,q0,qx,qz,qy,tV,tX,tZ,tY,fV,fX,fZ,fY,allD_dU,setAt_all,setAt_all1,-List.reduceReplicate]
 refine⟨ky,vc_path [.ret (.tup [dVo Z,dI 0])] ?_⟩
 simp [dVo_cells,q0,qx,qz,qy,tV,tX,tZ,tY,fV,fX,fZ,fY,allD_dU,setAt_all,setAt_all1,-List.reduceReplicate]
 refine⟨kz,vc_path [.ret (.tup [dVo Y,dI 0])] ?_⟩
 simp [dVo_cells,q0,qx,qz,qy,tV,tX,tZ,tY,fV,fX,fZ,fY,allD_dU,setAt_all,setAt_all1,-List.reduceReplicate]
 refine⟨kw,vc_path [.ret (.tup [dVo X,dI 0])] ?_⟩
 simp [dVo_cells,q0,qx,qz,qy,tV,tX,tZ,tY,fV,fX,fZ,fY,allD_dU,setAt_all,setAt_all1,-List.reduceReplicate]
 refine⟨kt,?_⟩
 have hXn:X.ps.length=pages.length:=by rw [px];simp
 have hXl:i<X.ps.length:=by rw [hXn];exact hil
 obtain⟨P,hP⟩:∃ P,pages[i]=P:=⟨_,rfl⟩
 obtain⟨Q,hQ⟩:∃ Q,goneP P=Q:=⟨_,rfl⟩
 have hXi:X.ps[i]=Q:=by simp only [px,List.getElem_modify];simp [hP,hQ]
 have hok:=u6 P (by rw [← hP];exact List.getElem_mem hil)
 have kl:=CVl.leaf P hok
 have hl:leafP P=Q.left:=by rw [← hQ];rfl
 rw [hl] at kl
 have p1:=P.h1
 have p2:=P.h2
 have g1:=Q.h1
 have g2:=Q.h2
 have hta:(dPg P).cells=.sl 3 (P.ls.map dLn)::(P.salt.map dU++(dB P.gone::P.left.map dU)):=dPg_cells P
 have htq:(dPg Q).cells=.sl 3 (Q.ls.map dLn)::(Q.salt.map dU++(dB Q.gone::Q.left.map dU)):=dPg_cells Q
 have kyw:=CVl.same Y Y
 have ktx:=CVl.same X X
 rw [decide_eq_true rfl] at kyw ktx
 have hil':(i:Int)<pages.length:=by omega
 have hXl':(i:Int)<X.ps.length:=by omega
 have hdl:List.take 32 (List.drop 33 (Q.salt.map dU++D.lit (.bool Q.gone)::Q.left.map dU))=Q.left.map dU:=by
  rw [List.drop_append,List.drop_of_length_le (by simp [g1]),List.length_map,g1]
  exact List.take_of_length_le (by simp [g2])
 have c1:=eqC_dU g2 g2
 have b1:=eqB_dU Q.left Q.left rfl
 rw [decide_eq_true rfl] at b1
 refine vc_path [] ?_
 simp [hXn,-List.reduceReplicate]
 refine vc_pathD [.ret (dB true),.ret (dB true),.ret (.agg (Q.left.map dU))] ?_
 simp [h0,h0',hil,hil',hXl,hXl',hXi,hP,hXn,q0,qx,qy,p1,p2,g1,g2,hta,htq,hdl,tX,tY,fX,fY,c1,b1,dPg_len,dPg_isAgg,dPg_noTup,pg_take65,pg_take66,pg_allD,allD_dU,setAt_all,setAt_all1,-List.reduceReplicate]
 exact⟨kyw,ktx,kl,rfl⟩
structure SvI (pages:List Pg) (V X:Vo) (W:List Bool):Prop where
 ck:checkE X=0
 sl:X.sl=V.sl
 xl:X.ps.length=pages.length
 wl:W.length=pages.length
 at_:∀ (j:Nat) (h:j<pages.length) (h1:j<X.ps.length) (h2:j<W.length),X.ps[j]=if W[j] then goneP pages[j] else pages[j]
theorem SvI.init{pages:List Pg}{V:Vo}(h:checkE V=0) (hp:V.ps=pages):SvI pages V V (List.replicate pages.length false) :=
 ⟨h,rfl,by rw [hp],by simp,fun j h h1 h2=>by simp [hp]⟩
theorem SvI.red{pages:List Pg}{V X:Vo}{W:List Bool}(h:SvI pages V X W){i:Nat}(hi:i<pages.length):redE X i=0∧SvI pages V (redV X i) (W.set i true):=by
 have hX:i<X.ps.length:=by rw [h.xl];exact hi
 have x1:=red_ok (v:=X) (n:=i) h.ck hX
 refine⟨x1.1,check_red h.ck hX,by rw [x1.2];exact h.sl,by rw [x1.2];simpa using h.xl,by simpa using h.wl,fun j k1 k2 k3=>?_⟩
 have hj:j<X.ps.length:=by rw [h.xl];exact k1
 have hw:j<W.length:=by rw [h.wl];exact k1
 have h0:=h.at_ j k1 hj hw
 simp only [x1.2,List.getElem_modify,List.getElem_set]
 by_cases e:i=j
 ·subst e
  simp only [if_true]
  rw [h0]
  split
  ·exact gone_gone _
  ·rfl
 ·simp only [e,if_false]
  exact h0
theorem SvI.leaf{pages:List Pg}{V X:Vo}{W:List Bool}(h:SvI pages V X W){j:Nat}(hj:j<pages.length) (h1:j<X.ps.length):leafP X.ps[j]=leafP pages[j]:=by
 rw [h.at_ j hj h1 (by rw [h.wl];exact hj)]
 split
 ·exact leafP_gone _
 ·rfl
theorem SvI.leaves{pages:List Pg}{V X:Vo}{W:List Bool}(h:SvI pages V X W):leavesL X.ps=leavesL pages:=by
 unfold leavesL
 refine List.ext_getElem (by simp [h.xl]) fun n h1 h2=>?_
 simp only [List.getElem_map]
 exact h.leaf (by simpa using h2) (by simpa using h1)
theorem SvI.ok{pages:List Pg}{V X:Vo}{W:List Bool}(h:SvI pages V X W):∀ p∈X.ps,okPg p=true:=(sealE_ok (checkE_ok h.ck)).1
theorem SvI.prv{pages:List Pg}{V X:Vo}{W:List Bool}(h:SvI pages V X W) (hV:checkE V=0) (hp:V.ps=pages){j:Nat}(hj:j<pages.length):prvE X j=0∧prvL X j=prvL V j:=by
 have a:=prv_ok (v:=X) (n:=j) h.ck (by rw [h.xl];exact hj)
 have b:=prv_ok (v:=V) (n:=j) hV (by rw [hp];exact hj)
 refine⟨a.1,?_⟩
 rw [a.2,b.2,h.leaves,hp]
theorem SvI.sealing{pages:List Pg}{V X:Vo}{W:List Bool}(h:SvI pages V X W):sealE X.ps=0∧sealV X.ps=X:=by
 have hs:=checkE_ok h.ck
 refine⟨hs,?_⟩
 unfold sealV
 rw [if_pos hs]
 exact Vo.ext' rfl (check_sl h.ck)
theorem SvI.ver{pages:List Pg}{V:Vo}(hV:checkE V=0) (hp:V.ps=pages){j:Nat}(hj:j<pages.length){p:Pg}(ho:okPg p=true) (hl:leafP p=leafP pages[j]):verE pages.length j p (prvL V j)=0∧verB V.sl pages.length j p (prvL V j)=true:=by
 subst hp
 exact ver_ok hV hj ho hl
theorem pathR_le:∀ (n:Nat) (row:List (List UInt8)) (i:Nat),row.length=n→(pathR row i).length≤n:=by
 intro n
 induction n using Nat.strongRecOn with
 | _ n ih =>
  intro row i hn
  by_cases h1:1<row.length
  ·rw [pathR_step i h1]
   have h2:=ih ((row.length+1) / 2) (by omega) (upL row) (i / 2) (upL_len row)
   have h3:(row[i^^^1]?).toList.length≤1:=by cases row[i^^^1]? <;> simp
   simp only [List.length_append]
   omega
  ·rw [pathR_one i h1];simp
theorem prvL_le{V:Vo}(hV:checkE V=0){j:Nat}(hj:j<V.ps.length):(prvL V (j:Nat)).length≤V.ps.length:=by
 rw [(prv_ok hV hj).2]
 exact pathR_le _ _ _ (by simp [leavesL])
def dPh (p:List (List UInt8)):D:=.sl 32 (p.map dDg)
def pathsL (V:Vo) (n:Nat):List D:=(List.range n).map fun j=>dPh (prvL V (j:Nat))
theorem pathsL_len(V:Vo) (n:Nat):(pathsL V n).length=n:=by simp [pathsL]
theorem pathsL_succ(V:Vo) (n:Nat):pathsL V (n+1)=pathsL V n++[dPh (prvL V (n:Nat))]:=by
 simp [pathsL,List.range_succ]
theorem pathsL_get(V:Vo) (n j:Nat) (h:j<n):(pathsL V n)[j]?=some (dPh (prvL V (j:Nat))):=by
 simp [pathsL,h]
theorem leL_mdBB(ρ:Nat→Nat) (N:Nat→Option Nat) (ok:Nat→Bool) (k:Nat) (l:List Bool):leA.leL ρ N ok k (l.map fun b=>AV.d (D.lit (.bool b))) (l.map fun b=>AV.d (D.lit (.bool b)))=True:=by
 have:(l.map fun b=>AV.d (D.lit (.bool b)))=(l.map dB).map AV.d:=by rw [List.map_map];rfl
 rw [this];exact eq_true (leL_map ρ N ok k _)
theorem bb_one(W:List Bool):(∀ c:AV,false∈W∧AV.d (D.lit (.bool false))=c∨true∈W∧AV.d (D.lit (.bool true))=c→c.one=true)=True:=eq_true (by
 rintro c (⟨_,rfl⟩ | ⟨_,rfl⟩) <;> rfl)
theorem volumesSurvive(pages:List Pg) (gone:List UInt8):PCall Tryz.prog 5 [.sl 66 (pages.map dPg),dBy gone] (.ret (dB true)):=by
 refine pcall_of_vc hVl c5 (by simp [a5]) fun hr=>?_
 simp [a5,-List.reduceReplicate]
 refine vc_path [.ret (dB true)] ?_
 simp [-List.reduceReplicate]
 refine⟨.sane,?_⟩
 have k1:=CVl.isSealed pages
 have q0:=(sdV pages).h
 by_cases hu:useP pages=true
 case neg =>
  have hu:useP pages=false:=by simpa using hu
  rw [hu] at k1
  refine vc_path [.ret (.tup [dVo (sdV pages),dB false,dB true])] ?_
  simp [dVo_cells,q0,setAt_all,setAt_all1,-List.reduceReplicate]
  refine⟨k1,?_⟩
  refine vc_path [] ?_
  simp [-List.reduceReplicate]
 obtain⟨u1,u2,u3,u4,u5,u6⟩:=useP_ok hu
 rw [hu,u2] at k1
 rw [u2] at q0
 generalize sealV pages=V at *
 refine vc_path [.ret (.tup [dVo V,dB true,dB true])] ?_
 simp [dVo_cells,q0,setAt_all,setAt_all1,-List.reduceReplicate]
 refine⟨k1,?_⟩
 have fV:D.agg (.sl 66 (V.ps.map dPg)::V.sl.map dU)=dVo V:=rfl
 have tV:List.take 32 (V.sl.map (AV.d∘dU))=V.sl.map (AV.d∘dU):=List.take_of_length_le (by simp [q0])
 by_cases hgl:gone.length≤10
 case neg =>
  have hgl':(10:Int)<gone.length:=by omega
  refine vc_path [] ?_
  simp [dBy,hgl',-List.reduceReplicate]
 have hgl':¬ (10:Int)<gone.length:=by omega
 refine vc_path [] ?_
 simp [dBy,hgl',-List.reduceReplicate]
 refine vc_loopK [0,1,5,49,50] Nat (fun i=>[(51,true,.d (dI i)),(8,true,.own 1 1 (pathsL V i))]) (fun i=>[(1,.row)]) (fun i=>i≤pages.length) (fun i=>pages.length-i) 0 (by simp) ⟨[],[(1,1)],?_⟩ (fun i hi=>?_)
 ·simp [pathsL,leL_mdU,dU_oneT]
 have hw1:IntKind.i64.wrap ((i:Int)+1)=(i:Int)+1:=wrap64 (by omega)
 rcases Nat.lt_or_ge i pages.length with hlt | hge
 ·have hlt':(i:Int)<pages.length:=by omega
  simp [hlt,hlt',dVo_cells,q0,tV,fV,allD_dU,-List.reduceReplicate]
  have kp:=CVl.prove V i
  rw [(prv_ok (v:=V) (n:=i) u5 (by rw [u4];exact hlt)).1] at kp
  refine vc_path [.ret (.tup [dPh (prvL V i),dI 0])] ?_
  simp [hw1,dVo_cells,q0,tV,fV,allD_dU,-List.reduceReplicate]
  have hpn:=pathsL_len V i
  refine⟨kp,⟨rfl,fun ds=>by simp [dPh]⟩,⟨by omega,by omega⟩,i+1,by omega,by omega,[(1,3)],[],?_⟩
  simp [pathsL_succ,leL_mdU,dU_oneT]
 ·have hge':¬ (i:Int)<pages.length:=by omega
  obtain rfl:i=pages.length:=by omega
  have hrep:wr (List.replicate pages.length (D.lit (.bool false)))=(List.replicate pages.length false).map fun b=>AV.d (dB b):=by
   unfold wr D.flat
   induction pages.length with
   | zero=>rfl
   | succ n ih=>simp only [List.replicate_succ,List.flatMap_cons,List.map_cons] at ih ⊢;rw [← ih];rfl
  simp [hge,hge',hrep,dVo_cells,q0,tV,fV,allD_dU,setAt_all,setAt_all1,-List.reduceReplicate,-List.map_replicate]
  refine⟨⟨by omega,by omega,by omega⟩,?_⟩
  refine vc_loopK [0,1,5,8,12,13,71,72] (Nat×Vo×List Bool) (fun x=>[(73,true,.d (dI x.1))]) (fun x=>[(2,.box true (.d (.sl 66 (x.2.1.ps.map dPg))::x.2.1.sl.map (AV.d∘dU))),(3,.box true (x.2.2.map fun b=>AV.d (dB b)))]) (fun x=>x.1≤gone.length∧SvI pages V x.2.1 x.2.2) (fun x=>gone.length-x.1) (0,V,List.replicate pages.length false) ⟨by simp,.init u5 u4⟩ ⟨[],[],?_⟩ (fun x hx=>?_)
  ·simp [leL_mdU,leL_mdBB,bb_one,dU_oneT,-List.reduceReplicate,-List.map_replicate]
  obtain⟨k,X,W⟩:=x
  obtain⟨hk,hI⟩:=hx
  simp only at hk hI
  have hw1:IntKind.i64.wrap ((k:Int)+1)=(k:Int)+1:=wrap64 (by omega)
  have qx:=X.h
  have fX:D.agg (.sl 66 (X.ps.map dPg)::X.sl.map dU)=dVo X:=rfl
  have tX:List.take 32 (X.sl.map (AV.d∘dU))=X.sl.map (AV.d∘dU):=List.take_of_length_le (by simp [qx])
  rcases Nat.lt_or_ge k gone.length with hlt | hge2
  ·have hlt':(k:Int)<gone.length:=by omega
   by_cases h0:pages=[]
   ·subst h0
    have hx0:X.ps=[]:=List.eq_nil_of_length_eq_zero hI.xl
    simp [hlt,hlt',dU,hx0,-List.reduceReplicate]
    refine vc_loopK [0,5,8,12,13,119,120] Nat (fun j=>[(121,true,.d (dI j))]) (fun _=>[]) (fun j=>j=0) (fun j=>0) 0 (by simp) ⟨[],[],?_⟩ (fun j hj=>?_)
    ·simp [leL_mdU,leL_mdBB,bb_one,dU_oneT,-List.reduceReplicate,-List.map_replicate]
    subst hj
    simp [-List.reduceReplicate]
    obtain⟨s1,s2⟩:=hI.sealing
    have ks:=CVl.seals X.ps
    have km:=CVl.same X X
    rw [decide_eq_true rfl] at km
    rw [s1,s2,hx0] at ks
    have fX0:D.agg (.sl 66 []::X.sl.map dU)=dVo X:=by rw [← fX,hx0];rfl
    refine vc_path [.ret (.tup [dVo X,dI 0])] ?_
    simp [hx0,fX0,dVo_cells,q0,qx,tX,allD_dU,setAt_all,setAt_all1,-List.reduceReplicate]
    refine⟨ks,vc_path [.ret (dB true)] ?_⟩
    simp [hx0,fX0,dVo_cells,q0,qx,tX,allD_dU,setAt_all,setAt_all1,-List.reduceReplicate]
    exact km
   have h0':0<pages.length:=List.length_pos_iff.2 h0
   obtain⟨i,hi⟩:∃ i,i=gone[k].toNat % pages.length:=⟨_,rfl⟩
   have hil:i<pages.length:=by rw [hi];exact Nat.mod_lt _ h0'
   have hiw:(IntKind.i64.wrap (gone[k].toNat:Int)).tmod (pages.length:Int)=(i:Nat):=by
    have:=gone[k].toNat_lt
    rw [wrap64 (by omega),Int.tmod_eq_emod_of_nonneg (by omega),hi]
    rfl
   obtain⟨r1,r2⟩:=hI.red hil
   have kr:=CVl.red X i
   rw [r1] at kr
   have kc:=CVl.check (redV X i)
   rw [r2.ck] at kc
   have hil':(i:Int)<pages.length:=by omega
   generalize redV X i=Y at *
   have qy:=Y.h
   have yn:=r2.xl
   have ys:=r2.sl
   have fY:D.agg (.sl 66 (Y.ps.map dPg)::Y.sl.map dU)=dVo Y:=rfl
   have tY:List.take 32 (Y.sl.map (AV.d∘dU))=Y.sl.map (AV.d∘dU):=List.take_of_length_le (by simp [qy])
   have c1:=eqC_dU qy q0
   have b1:=eqB_dU Y.sl V.sl (qy.trans q0.symm)
   rw [decide_eq_true ys] at b1
   simp [hlt,hlt',h0,h0',hiw,dU,dVo_cells,qx,tX,fX,allD_dU,setAt_all,setAt_all1,-List.reduceReplicate]
   refine vc_path [.ret (.tup [dVo Y,dI 0])] ?_
   simp [yn,dVo_cells,q0,qx,qy,tV,fV,tX,fX,tY,fY,allD_dU,setAt_all,setAt_all1,-List.reduceReplicate]
   refine⟨kr,?_⟩
   refine vc_path [.ret (dI 0)] ?_
   simp [yn,c1,b1,dVo_cells,q0,qx,qy,tV,fV,tX,fX,tY,fY,allD_dU,setAt_all,setAt_all1,-List.reduceReplicate]
   have hwl:=hI.wl
   refine⟨kc,hil,by omega,k+1,Y,W.set i true,⟨by omega,r2⟩,by omega,[],[],?_⟩
   rw [hw1,show (W.map fun b=>AV.d (D.lit (.bool b))).set i (AV.d (D.lit (.bool true)))=(W.set i true).map fun b=>AV.d (D.lit (.bool b)) from(List.map_set ..).symm]
   generalize W.set i true=W2
   simp [leL_mdU,leL_mdBB,bb_one,dU_oneT]
  ·have hge2':¬ (k:Int)<gone.length:=by omega
   simp [hge2,hge2',-List.reduceReplicate]
   have hxl:=hI.xl
   have hwl:=hI.wl
   refine vc_loopK [0,5,8,12,13,119,120] Nat (fun j=>[(121,true,.d (dI j))]) (fun _=>[]) (fun j=>j≤X.ps.length) (fun j=>X.ps.length-j) 0 (by simp) ⟨[],[],?_⟩ (fun j hj=>?_)
   ·simp [leL_mdU,leL_mdBB,bb_one,dU_oneT,-List.reduceReplicate,-List.map_replicate]
   rcases Nat.lt_or_ge j X.ps.length with hlt | hge3
   ·have hlt':(j:Int)<X.ps.length:=by omega
    have hjp:j<pages.length:=by omega
    have hjw:j<W.length:=by omega
    have hat:=hI.at_ j hjp hlt hjw
    have hlf:=hI.leaf hjp hlt
    have hok:=hI.ok _ (List.getElem_mem hlt)
    obtain⟨P,hP⟩:∃ P,X.ps[j]=P:=⟨_,rfl⟩
    obtain⟨O,hO⟩:∃ O,pages[j]=O:=⟨_,rfl⟩
    obtain⟨w,hw⟩:∃ w,W[j]=w:=⟨_,rfl⟩
    rw [hP,hO,hw] at hat
    rw [hP] at hok hlf
    rw [hO] at hlf
    have hok2:=u6 O (by rw [← hO];exact List.getElem_mem hjp)
    have p1:=P.h1
    have p2:=P.h2
    have o1:=O.h1
    have o2:=O.h2
    have hta:(dPg P).cells=.sl 3 (P.ls.map dLn)::(P.salt.map dU++(dB P.gone::P.left.map dU)):=dPg_cells P
    have hfo:D.agg (D.sl 3 (P.ls.map dLn)::(P.salt.map dU++(D.lit (.bool P.gone)::P.left.map dU)))=dPg P:=rfl
    simp [hlt,hlt',hP,hO,hw,dPg_len,dPg_isAgg,dPg_noTup,hta,p1,p2,pg_allD,pg_take65,pg_take66,setAt_all,setAt_all1,-List.reduceReplicate]
    have v1:=SvI.ver u5 u4 hjp hok (by rw [hO];exact hlf)
    have v2:=SvI.ver u5 u4 hjp hok2 (by rw [hO])
    have hpl:=prvL_le (V:=V) u5 (j:=j) (by rw [u4];exact hjp)
    rw [u4] at hpl
    have hjw':j+1≤W.length:=hjw
    have kv1:=CVl.verify V.sl q0 pages.length j (by omega) P (prvL V j) (prvL_32 V j) (by omega)
    have kv2:=CVl.verify V.sl q0 pages.length j (by omega) O (prvL V j) (prvL_32 V j) (by omega)
    rw [v1.1,v1.2] at kv1
    rw [v2.1,v2.2] at kv2
    obtain⟨w1,w2⟩:=hI.prv u5 u4 hjp
    have kp:=CVl.prove X j
    rw [w1,w2] at kp
    have kq:=CVl.samePathL (prvL V j) (prvL_32 V j)
    have kpg:=CVl.samePage P O
    have hjg:=pathsL_get V pages.length j hjp
    have hw1:IntKind.i64.wrap ((j:Int)+1)=(j:Int)+1:=wrap64 (by omega)
    cases w
    case' false =>
     have hat:P=O:=by simpa using hat
     rw [decide_eq_true hat] at kpg
     refine vc_pathD [.ret (dB true)] ?_
     simp [hjp,hjw,hjw',hlt,hlt',hP,hO,hw,hfo,dPg_len,dPg_isAgg,dPg_noTup,hta,p1,p2,pg_allD,pg_take65,pg_take66,allD_dU,setAt_all,setAt_all1,-List.reduceReplicate]
     refine⟨kpg,rfl,?_⟩
    case' true =>
     have hat:P=goneP O:=by simpa using hat
     have e1:P.gone=true:=by rw [hat];rfl
     have e2:P.ls=[]:=by rw [hat];rfl
     have e3:P.salt=z32U:=by rw [hat];rfl
     have b2:=eqB_dU P.salt z32U (by rw [p1,z32U_len])
     rw [decide_eq_true e3,← zlit] at b2
     have c2:=eqC_dU p1 z32U_len
     rw [← zlit] at c2
     refine vc_pathD [] ?_
     simp [hjp,hjw,hjw',hlt,hlt',hP,hO,hw,hfo,e1,e2,b2,c2,dPg_len,dPg_isAgg,dPg_noTup,hta,p1,p2,pg_allD,pg_take65,pg_take66,allD_dU,setAt_all,setAt_all1,-List.reduceReplicate]
     refine⟨rfl,?_⟩
     have hfo1:D.agg (D.sl 3 []::(P.salt.map dU++(D.lit (.bool true)::P.left.map dU)))=dPg P:=by
      have h:=hfo
      rw [e1,e2] at h;exact h
     have t65:=pg_take65 P
     rw [e1] at t65
    case' false =>
     have hfo1:=hfo
     have t65:=pg_take65 P
    all_goals
     have hpn:=pathsL_len V pages.length
     have hje:∀ h,(pathsL V pages.length)[j]'h=dPh (prvL V j):=fun h=>by
      have:=List.getElem?_eq_getElem h
      rw [hjg] at this;exact(Option.some.inj this).symm
     have hP1:(dPh (prvL V j)).cells.length=1:=rfl
     have hP2:(dPh (prvL V j)).isAgg=false:=rfl
     have hP3:(dPh (prvL V j)).one=true:=rfl
     refine vc_pathD [.ret (.tup [dB true,dI 0])] ?_
     simp [hjp,hlt,hlt',hje,hpn,hP1,hP2,hP3,hO,hfo1,t65,q0,tV,fV,dPg_len,dPg_isAgg,dPg_noTup,hta,p1,p2,pg_allDG,pg_take65,pg_take66,allD_dU,setAt_all,setAt_all1,-List.reduceReplicate]
     refine⟨kv1,rfl,vc_pathD [.ret (.tup [dB true,dI 0])] ?_⟩
     simp [hjp,hlt,hlt',hje,hpn,hP1,hP2,hP3,hO,hfo1,t65,q0,tV,fV,dPg_len,dPg_isAgg,dPg_noTup,hta,p1,p2,pg_allDG,pg_take65,pg_take66,allD_dU,setAt_all,setAt_all1,-List.reduceReplicate]
     refine⟨kv2,rfl,vc_path [.ret (.tup [dPh (prvL V j),dI 0])] ?_⟩
     simp [hjp,hlt,hlt',hje,hpn,hP1,hP2,hP3,hO,q0,qx,tX,fX,allD_dU,setAt_all,setAt_all1,-List.reduceReplicate]
     refine⟨kp,vc_path [.ret (dB true)] ?_⟩
     simp [hjp,hlt,hlt',hje,hpn,hP1,hP2,hP3,hO,hw1,allD_dU,setAt_all,setAt_all1,-List.reduceReplicate]
     refine⟨kq,j+1,by omega,by omega,[],[],?_⟩
     simp [leL_mdU,leL_mdBB,bb_one,dU_oneT]
   ·have hge3':¬ (j:Int)<X.ps.length:=by omega
    simp [hge3,hge3',-List.reduceReplicate]
    obtain⟨s1,s2⟩:=hI.sealing
    have ks:=CVl.seals X.ps
    have km:=CVl.same X X
    rw [decide_eq_true rfl] at km
    rw [s1,s2] at ks
    refine vc_path [.ret (.tup [dVo X,dI 0])] ?_
    simp [dVo_cells,q0,qx,tX,fX,allD_dU,setAt_all,setAt_all1,-List.reduceReplicate]
    refine⟨ks,vc_path [.ret (dB true)] ?_⟩
    simp [dVo_cells,q0,qx,tX,fX,allD_dU,setAt_all,setAt_all1,-List.reduceReplicate]
    exact km
end

section
section
variable {H:Type}{enc:TypeId×Value→H}{P:Program}{w:World}
theorem shows_arrU8{t e:TypeId}{n:Nat}(ht:P.underlying t=some (.array n e)) (he:P.underlying e=some (.int .u8)) (hc:P.cellsOf e=1) (hct:P.cellsOf t=n):Shows enc P w t (fun y:{l:List UInt8 // l.length=n}=>.agg (y.1.map dU)):=by
 intro fuel cs x h
 obtain⟨xs,m,_,_,hl,hx,k⟩:=DataW.trod_array ht h
 have hcs:cs.length=n:=by rw [hl,hct]
 have hel:∀ i:Fin n,∃ y:UInt8,RepL (allI w) w [dU y] #[cs[i.val]'(by omega)]:=fun i=>by
  have k1:=k i.val (by omega)
  rw [hc,Nat.mul_one,List.getElem?_eq_getElem (by omega)] at k1
  obtain⟨y,hy⟩:=shows_u8 he _ _ _ k1
  refine⟨y,?_⟩
  have e1:(cs.drop i.val).take 1=[cs[i.val]'(by omega)]:=by
   rw [List.drop_eq_getElem_cons (by omega)];rfl
  rw [e1] at hy
  exact hy
 let l:List UInt8:=List.ofFn fun i:Fin n=>Classical.choose (hel i)
 have hll:l.length=n:=by simp [l]
 refine⟨⟨l,hll⟩,⟨by simp [D.cells,hll,hcs],fun j c v hj hv=>?_⟩⟩
 simp only [D.cells,List.getElem?_map,Option.map_eq_some_iff] at hj
 obtain⟨y,hy,rfl⟩:=hj
 have hjl:j<n:=by
  have:=(List.getElem?_eq_some_iff.1 hy).1;omega
 have h1:=Classical.choose_spec (hel ⟨j,hjl⟩)
 have h2:l[j]?=some (Classical.choose (hel ⟨j,hjl⟩)):=by simp [l,hjl]
 rw [h2] at hy
 injection hy with hy
 rw [← hy]
 have hv':cs[j]'(by omega)=v:=by
  have hv:cs[j]?=some v:=by simpa using hv
  rw [List.getElem?_eq_getElem (by omega)] at hv
  exact Option.some.inj hv
 rw [← hv']
 exact h1.2 0 _ _ rfl rfl
end
noncomputable def fsOf (t:TypeId):Array Field:=match Tryz.prog.underlying t with
 | some (.struct fs)=>fs
 | _=>#[]
noncomputable def fld (t:TypeId) (i:Nat):Field:=(fsOf t).getD i ⟨ "",0,0,false,"","",0⟩
theorem uI:Tryz.prog.underlying 3=some (.int .i64):=by kernel_rfl
theorem uB:Tryz.prog.underlying 4=some .bool:=by kernel_rfl
theorem uB8:Tryz.prog.underlying 5=some (.int .u8):=by kernel_rfl
theorem uStr:Tryz.prog.underlying 9=some .string:=by kernel_rfl
theorem uStrs:Tryz.prog.underlying 67=some (.slice 9):=by kernel_rfl
theorem uDg:Tryz.prog.underlying 24=some (.array 32 5):=by kernel_rfl
theorem uBs8:Tryz.prog.underlying 47=some (.slice 5):=by kernel_rfl
theorem uLn:Tryz.prog.underlying 69=some (.struct #[fld 69 0,fld 69 1,fld 69 2]):=by kernel_rfl
theorem uLns:Tryz.prog.underlying 36=some (.slice 69):=by kernel_rfl
theorem uPg:Tryz.prog.underlying 38=some (.struct #[fld 38 0,fld 38 1,fld 38 2,fld 38 3]):=by kernel_rfl
theorem uPgs:Tryz.prog.underlying 22=some (.slice 38):=by kernel_rfl
theorem zI8:Tryz.prog.cellsOf 3=1:=by kernel_rfl
theorem zB:Tryz.prog.cellsOf 4=1:=by kernel_rfl
theorem zB8:Tryz.prog.cellsOf 5=1:=by kernel_rfl
theorem zStr:Tryz.prog.cellsOf 9=1:=by kernel_rfl
theorem zStrs:Tryz.prog.cellsOf 67=1:=by kernel_rfl
theorem zDg:Tryz.prog.cellsOf 24=32:=by kernel_rfl
theorem zLn:Tryz.prog.cellsOf 69=3:=by kernel_rfl
theorem zLns:Tryz.prog.cellsOf 36=1:=by kernel_rfl
theorem zPg:Tryz.prog.cellsOf 38=66:=by kernel_rfl
theorem ln_one(y:Ln):∀ c∈(dLn y).cells,c.one=true:=fun c hc=>by
 have:(dLn y).cells=[dI y.sp,dI y.fr,.sl 1 (y.ws.map dZ)]:=rfl
 rw [this] at hc
 simp at hc
 rcases hc with rfl | rfl | rfl <;> rfl
theorem pgc_one(y:Pg):∀ c∈(dPg y).cells,c.one=true:=fun c hc=>pgs_ones [y] c (List.mem_flatMap.2 ⟨dPg y,by simp,hc⟩)
section
variable {H:Type}{enc:TypeId×Value→H}{w:World}
theorem shows_i64R{P:Program}{t:TypeId}(ht:P.underlying t=some (.int .i64)):Shows enc P w t (fun y:{n:Int // -9223372036854775808≤n∧n<9223372036854775808}=>dI y.1):=by
 intro fuel cs x h
 obtain⟨n,rfl,_,hw⟩:=DataW.trod_int ht h
 have hs:Sc (.int .i64 n):=by simpa [Sc,Lit.wf] using hw
 have hs':-9223372036854775808≤n∧n<9223372036854775808:=by
  simp [Sc,IntKind.min,IntKind.max,IntKind.signed,IntKind.bits] at hs
  omega
 exact⟨⟨n,hs'⟩,repL_one (.lit hs)⟩
theorem shBs8:Shows enc Tryz.prog w 47 dBy:=shows_slice uBs8 zB8 (fun _=>rfl) (fun y c hc=>by simp [AL.dU,D.cells] at hc;subst hc;rfl) (shows_u8 uB8)
theorem shStr:Shows enc Tryz.prog w 9 dZ:=shows_str uStr
theorem shStrs:Shows enc Tryz.prog w 67 (fun l:List (List UInt8)=>.sl 1 (l.map dZ)):=shows_slice uStrs zStr (fun _=>rfl) (fun y c hc=>by simp [dZ,D.cells] at hc;subst hc;rfl) shStr
theorem shDg:Shows enc Tryz.prog w 24 (fun y:{l:List UInt8 // l.length=32}=>.agg (y.1.map dU)):=shows_arrU8 uDg uB8 zB8 zDg
theorem shLn:Shows enc Tryz.prog w 69 dLn:=shows_map (shows_structN uLn (by rw [zLn];kernel_rfl)
 (showsR_cons (t:=3) (off':=1) (by kernel_rfl) (by kernel_rfl) (by rw [zI8]) (shows_i64R uI) (showsR_cons (t:=3) (off':=2) (by kernel_rfl) (by kernel_rfl) (by rw [zI8]) (shows_i64R uI) (showsR_cons (t:=67) (off':=3) (by kernel_rfl) (by kernel_rfl) (by rw [zStrs]) shStrs showsR_nil))))
 (fun y=>⟨⟨y.1.1,y.2.1.1,y.2.2.1,y.1.2,y.2.1.2⟩,rfl⟩)
theorem shLns:Shows enc Tryz.prog w 36 (fun l:List Ln=>.sl 3 (l.map dLn)):=shows_slice uLns zLn (fun _=>rfl) ln_one shLn
theorem shPg:Shows enc Tryz.prog w 38 dPg:=shows_map (shows_structN uPg (by rw [zPg];kernel_rfl)
 (showsR_cons (t:=36) (off':=1) (by kernel_rfl) (by kernel_rfl) (by rw [zLns]) shLns (showsR_cons (t:=24) (off':=33) (by kernel_rfl) (by kernel_rfl) (by rw [zDg]) shDg (showsR_cons (t:=4) (off':=34) (by kernel_rfl) (by kernel_rfl) (by rw [zB]) (shows_bool uB) (showsR_cons (t:=24) (off':=66) (by kernel_rfl) (by kernel_rfl) (by rw [zDg]) shDg showsR_nil)))))
 (fun y=>⟨⟨y.1,y.2.1.1,y.2.2.1,y.2.2.2.1.1,y.2.1.2,y.2.2.2.1.2⟩,by simp [dPg,D.cells]⟩)
theorem shPgs:Shows enc Tryz.prog w 22 (fun l:List Pg=>.sl 66 (l.map dPg)):=shows_slice uPgs zPg dPg_len pgc_one shPg
end
theorem sPgs:Sees Tryz.prog 22 (fun x=>∃ l:List Pg,x=.sl 66 (l.map dPg)):=sees_slice uPgs shPgs
theorem sBs8:Sees Tryz.prog 47 (fun x=>∃ l:List UInt8,x=dBy l):=sees_slice uBs8 shBs8
end

end Go.Proofs.YtfegfnekphobmaaGreatDoor
