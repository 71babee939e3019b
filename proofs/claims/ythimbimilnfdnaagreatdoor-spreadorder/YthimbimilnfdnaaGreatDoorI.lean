/- Part of the proof: S543, S544, S545, S546, S547, S548, S549, S550, S551, S552, S553, S554, S555, S556, S557, S558, S559, S560, S561, S562, S563, S564, S565, S566, S580, S581, S582, S583, S584, S585, S590, S588, S589, S586, S587, S570, S571. -/
import Derived.Test.YthimbimilnfdnaaGreatDoorCards
import Derived.Test.YthimbimilnfdnaaGreatDoorTie
import Derived.Deep.DeepHandedRow
import Derived.Deep.DeepWitnessRowRef
import Derived.Lib.LaidIn
import Derived.Lib.LaidU8
import Derived.ProofKit
import Derived.SizedLaws
import Derived.PinnedBridge
import Derived.SevenTiedAt
import Derived.Test.YthimbimilnfdnaaGreatDoorH
set_option linter.unnecessarySimpa false
set_option linter.unusedVariables false
set_option linter.unusedSimpArgs false
namespace Go.Proofs.YthimbimilnfdnaaGreatDoor
open Go Go.Proofs.YthimbimilnfdnaaGreatDoor.AL
section
attribute [local simp] dZ_agg dZ_nt dZ_noTup dZ_cells dZ_one bz_toList bz_size strV dSp_cells dSp_isAgg dSp_noTup dSp_nt dCh_cells dCh_isAgg dCh_noTup dCh_nt dNt_cells dNt_isAgg dNt_noTup dNt_nt dPe_cells dPe_isAgg dPe_noTup dPe_nt dRm_cells dRm_isAgg dRm_noTup dRm_nt dPc_cells dPc_agg dPc_noTup dNw_cells dNw_agg dNw_noTup dMv_cells dMv_isAgg dMv_noTup dMv_nt
set_option maxRecDepth 8000
set_option maxHeartbeats 4000000
def syncX (r:Rm) (m:Mv):Rm×Int:=if (inR r m.peer&&inR r m.to)=false∨m.peer=m.to then (zRm,1) else syncR r m.peer.toNat m.to.toNat
theorem dlv_ok{r:Rm}{at_:Int}(hR:okRm r=true) (hq:¬ (dlvP r.net at_).a=(dlvP r.net at_).b):okPc (dlvP r.net at_)=true∧okPq r.ps.length (dlvP r.net at_)=true:=by
 obtain⟨g1,g2,g3,g4,g5⟩:=okRm_iff.1 hR
 have:dlvP r.net at_∈r.net.q:=by
  unfold dlvP at hq ⊢
  split at hq
  ·exact absurd rfl hq
  ·rename_i hl
   rw [if_neg hl]
   unfold atP at hq ⊢
   split at hq
   ·rename_i ha
    rw [if_pos ha]
    obtain⟨_,hin⟩:=atE_zero.1 ha
    obtain⟨h1,h2⟩:=inQ_iff.1 hin
    rw [List.getD_eq_getElem?_getD,List.getElem?_eq_getElem (by omega)]
    exact List.getElem_mem _
   ·exact absurd rfl hq
 exact⟨okNw_all g3 _ this,g5 _ this⟩
theorem mvR_eq(r:Rm) (m:Mv) (h:okRm r=true):mvR r m=if m.kind=1 then tellX r m else if m.kind=2 then syncX r m else if m.kind=3 then dlvR r m.at_ else if m.kind=4 then (if atE r.net m.at_≠0 then (zRm,atE r.net m.at_) else (⟨r.ps,lseN r.net m.at_⟩,0)) else if m.kind=5 then (if repE r.net m.at_≠0 then (zRm,repE r.net m.at_) else (⟨r.ps,repN r.net m.at_⟩,0)) else (zRm,1):=by
 unfold mvR;rw [if_neg (by rw [h];simp)];rfl
end

section
attribute [local simp] dZ_agg dZ_nt dZ_noTup dZ_cells dZ_one bz_toList bz_size strV dSp_cells dSp_isAgg dSp_noTup dSp_nt dCh_cells dCh_isAgg dCh_noTup dCh_nt dNt_cells dNt_isAgg dNt_noTup dNt_nt dPe_cells dPe_isAgg dPe_noTup dPe_nt dRm_cells dRm_isAgg dRm_noTup dRm_nt dPc_cells dPc_agg dPc_noTup dNw_cells dNw_agg dNw_noTup dMv_cells dMv_isAgg dMv_noTup dMv_nt
set_option maxRecDepth 8000
set_option maxHeartbeats 40000000
theorem sNeed_t(n:Int):PCall Tryz.prog 68 [dB true,dI n] (.ret (.tup [])):=by
 refine pcall_of_vc (C:=fun _ _ _=>False) (by rintro _ _ _ ⟨⟩) c68 (by simp [a68]) fun hr=>?_
 simp [a68]
theorem sNeed_f(n:Int):PCall Tryz.prog 68 [dB false,dI n] (.pan (tE n)):=by
 refine pcall_of_vc (C:=fun _ _ _=>False) (by rintro _ _ _ ⟨⟩) c68 (by simp [a68]) fun hr=>?_
 simp [a68]
 refine regS_path [] ?_
 simp [tE]
theorem elsD_nts(l:List Nt):elsD 7 l.length (D.flat (l.map dNt))=l.map dNt:=by
 induction l with
 | nil=>rfl
 | cons a r ih =>
  have hl:=dNt_len a
  have e:D.flat ((a::r).map dNt)=(dNt a).cells++D.flat (r.map dNt):=rfl
  simp only [elsD] at ih ⊢
  rw [if_neg (by omega)] at ih ⊢
  rw [e,List.length_cons,chunkD,List.take_left' hl,List.drop_left' hl,ih]
  rfl
theorem flat_nts(l:List Nt):(D.flat (l.map dNt)).length=l.length*7:=by
 have:=flat_len (es:=l.map dNt) (sz:=7) (fun e he=>by
  obtain⟨x,_,rfl⟩:=List.mem_map.1 he;rfl)
 rw [this,List.length_map]
theorem snd_ok{w:Nw}{p:Pc}(h:okNw w=true) (hp:okPc p=true) (hl:w.q.length<4096):sndE w p=0∧okNw (sndN w p)=true∧(sndN w p).q.length=w.q.length+1:=by
 have e1:sndN w p=⟨w.q++[p],w.c⟩:=by unfold sndN;rw [if_pos ⟨h,hp,by omega⟩]
 refine⟨by unfold sndE;rw [if_pos ⟨h,hp⟩,if_neg (by omega)],?_,by rw [e1];simp⟩
 rw [e1]
 unfold okNw at h ⊢
 simp only [Bool.and_eq_true,decide_eq_true_eq,List.length_append,List.length_singleton,List.all_append,List.all_cons,List.all_nil,Bool.and_true] at h ⊢
 exact⟨by omega,⟨h.2.1,hp⟩,h.2.2⟩
theorem okPc_of{i j:Nat}{n:Nt}(hn:okNt n=true) (hi:i<24) (hj:j<24) (h:¬ j=i):okPc (pcOf i j n)=true:=by
 have:=msgB_len hn
 unfold okPc cValid pcOf
 simp only [Bool.and_eq_true,decide_eq_true_eq]
 refine⟨⟨⟨?_,?_⟩,?_⟩,by omega⟩
 all_goals (split <;> try split) <;> omega
theorem lem_a{n:Nat}(h:n+1<4096):(n+1)*64≤140737488355328:=by omega
theorem lem_b{p n:Nat}(h:p≤n+1):(p:Int)≤(n:Int)+1:=by omega
theorem lem_c{n:Nat}(h:n+1<4096):(n+1+1)*64≤140737488355328:=by omega
theorem lem_d{n:Nat}(h:n+1<4096):n≤9223372036854775805:=by omega
theorem wr_one(ps:List (List Nt)):∀ c∈wr (ps.map dPe),c.one=true:=fun c hc=>by
 rw [wr_pe] at hc
 obtain⟨l,_,rfl⟩:=List.mem_map.1 hc
 rfl
theorem wr_one1(n:Nt):∀ c∈wr [.agg [.lit (.int .i64 n.lang),.lit (.int .i64 n.seq),.lit (.int .i64 n.ch.at_),.lit (.int .i64 n.ch.kind),.lit (.int .i64 n.ch.sp.id),.lit (.int .i64 n.ch.sp.ver),dZ n.ch.sp.tx]],c.one=true:=fun c hc=>by
 simp only [wr,D.flat,List.flatMap_cons,List.flatMap_nil,D.cells,List.append_nil,List.map_cons,List.map_nil,List.mem_cons,List.not_mem_nil,or_false] at hc
 rcases hc with rfl | rfl | rfl | rfl | rfl | rfl | rfl <;> rfl
inductive C544:FuncId→List D→Out→Prop
 | chk (r:Rm):C544 16 [dRm r] (.ret (dI (rmE r)))
 | need_t (n:Int):C544 68 [dB true,dI n] (.ret (.tup []))
 | need_f (n:Int):C544 68 [dB false,dI n] (.pan (tE n))
 | formed (n:Nt):C544 69 [dNt n] (.ret (dB (okNt n)))
 | rd (b:List UInt8) (h:b.length≤1099511627776):C544 47 [.sl 1 (b.map dU)] (.ret (.tup [dNt (sRdN b h),dB (readB b).isSome]))
 | msg (n:Nt) (h:n.ch.sp.tx.length≤1000000):C544 73 [dNt n] (.ret (dZ (msgB n)))
 | search (l:List Nt) (n:Nt) (hl:okNs none l=true) (hn:okNt n=true) (hlen:l.length≤100000):C544 116 [.sl 7 (l.map dNt),dNt n,.fn (.func 90) [] []] (.ret (.tup [dI (posN l n),dB (decide (l[posN l n]?=some n))]))
 | snd (w:Nw) (p:Pc):C544 119 [dNw w,dPc p] (.ret (.tup [dNw (sndN w p),dI (sndE w p)]))
 | dlv (w:Nw) (i:Int):C544 75 [dNw w,dI i] (.ret (.tup [dPc (dlvP w i),dNw (lseN w i),dI (atE w i)]))
 | lose (w:Nw) (i:Int):C544 76 [dNw w,dI i] (.ret (.tup [dNw (lseN w i),dI (atE w i)]))
 | rep (w:Nw) (i:Int):C544 77 [dNw w,dI i] (.ret (.tup [dNw (repN w i),dI (repE w i)]))
theorem h544:∀ f ds out,C544 f ds out→PCall Tryz.prog f ds out:=by
 intro f ds out h
 cases h with
 | chk r=>exact sCheck r
 | need_t n=>exact sNeed_t n
 | need_f n=>exact sNeed_f n
 | formed n=>exact sFormed n
 | rd b h=>exact(Classical.choose_spec (sRead b h)).1
 | msg n h=>exact sMessage n h
 | search l n hl hn hlen=>exact sSearch l n hl hn hlen
 | snd w p=>exact nwSend w p
 | dlv w i=>exact nwDeliver w i
 | lose w i=>exact nwLose w i
 | rep w i=>exact nwRepeat w i
theorem sTell1(r:Rm) (m:Mv) (hR:okRm r=true) (m1:m.kind=1) (q1:inR r m.peer=false):PCall Tryz.prog 12 [dRm r,dMv m] (.ret (.tup [dRm (((zRm,1):Rm×Int)).1,dI (((zRm,1):Rm×Int)).2])):=by
 have hC:=C544.chk r
 refine pcall_of_vcZ h544 c12 (by simp [a12]) 4 fun hr=>?_
 simp [a12]
 refine vc_path [.ret (dI (rmE r))] ?_
 rw [rmE_0 hR] at hC ⊢
 have hR':=okRm_iff.1 hR
 simp
 refine⟨hC,?_⟩
 obtain⟨p0,pr,hps⟩:∃ p0 pr,r.ps=p0::pr:=by
  cases h:r.ps with
  | nil=>rw [h] at hR';simp at hR'
  | cons a b=>exact⟨a,b,rfl⟩
 have hcl:some (1,List.map dPe r.ps)=some (1,dPe p0::List.map dPe pr):=by rw [hps];rfl
 have hfold:dPe p0::List.map dPe pr=List.map dPe r.ps:=by rw [hps];rfl
 have hlen:pr.length+1=r.ps.length:=by rw [hps];rfl
 have h24:(r.ps.length*24≤140737488355328)=True:=eq_true (by omega)
 have hwl:(wr (List.map dPe r.ps)).length=r.ps.length:=by rw [wr_pe,List.length_map]
 have e1:(m.kind == 1)=true:=by simp [m1]
 simp [m1,e1]
 refine regS_path [] ?_
 simp
 rw [hcl]
 simp
 rw [hfold,hlen]
 simp only [h24,true_and]
 refine regS_path [] ?_
 simp
 refine icall_T (TF Tryz.prog a31) (hcall_of_vc c31) ?_
 simp [a31]
 refine regS_path [] ?_
 simp
 refine icall_T (TF Tryz.prog a67) (hcall_of_vc c67) ?_
 simp [a67]
 refine vc_path [.pan (tE 1)] ?_
 by_cases p1:0≤m.peer
 ·have p2:¬ m.peer<(r.ps.length:Int):=fun h=>by rw [inR_iff.2 ⟨p1,h⟩] at q1;cases q1
  simp [p1,p2]
  refine⟨.need_f 1,?_⟩
  refine leave_fn (TR1 Tryz.prog a36) (dcall_of_vcR1 c36) ?_
  simp [TR1_eq,a36,tE]
  exact leZRm
 ·simp [p1]
  refine⟨.need_f 1,?_⟩
  refine leave_fn (TR1 Tryz.prog a36) (dcall_of_vcR1 c36) ?_
  simp [TR1_eq,a36,tE]
  exact leZRm
theorem sTell2(r:Rm) (m:Mv) (hR:okRm r=true) (m1:m.kind=1) (q1:inR r m.peer=true) (q2:okNt m.note=false):PCall Tryz.prog 12 [dRm r,dMv m] (.ret (.tup [dRm (((zRm,530):Rm×Int)).1,dI (((zRm,530):Rm×Int)).2])):=by
 have hC:=C544.chk r
 refine pcall_of_vcZ h544 c12 (by simp [a12]) 4 fun hr=>?_
 simp [a12]
 refine vc_path [.ret (dI (rmE r))] ?_
 rw [rmE_0 hR] at hC ⊢
 have hR':=okRm_iff.1 hR
 simp
 refine⟨hC,?_⟩
 obtain⟨p0,pr,hps⟩:∃ p0 pr,r.ps=p0::pr:=by
  cases h:r.ps with
  | nil=>rw [h] at hR';simp at hR'
  | cons a b=>exact⟨a,b,rfl⟩
 have hcl:some (1,List.map dPe r.ps)=some (1,dPe p0::List.map dPe pr):=by rw [hps];rfl
 have hfold:dPe p0::List.map dPe pr=List.map dPe r.ps:=by rw [hps];rfl
 have hlen:pr.length+1=r.ps.length:=by rw [hps];rfl
 have h24:(r.ps.length*24≤140737488355328)=True:=eq_true (by omega)
 have hwl:(wr (List.map dPe r.ps)).length=r.ps.length:=by rw [wr_pe,List.length_map]
 have e1:(m.kind == 1)=true:=by simp [m1]
 simp [m1,e1]
 refine regS_path [] ?_
 simp
 rw [hcl]
 simp
 rw [hfold,hlen]
 simp only [h24,true_and]
 refine regS_path [] ?_
 simp
 refine icall_T (TF Tryz.prog a31) (hcall_of_vc c31) ?_
 simp [a31]
 refine regS_path [] ?_
 simp
 refine icall_T (TF Tryz.prog a67) (hcall_of_vc c67) ?_
 simp [a67]
 obtain⟨p1,p2⟩:=inR_iff.1 q1
 refine vc_path [.ret (.tup [])] ?_
 simp [p1,p2]
 refine⟨.need_t 1,?_⟩
 have hF:=C544.formed m.note
 rw [q2] at hF
 refine vc_path [.ret (dB false),.pan (tE 530)] ?_
 simp
 refine⟨hF,.need_f 530,?_⟩
 refine leave_fn (TR1 Tryz.prog a36) (dcall_of_vcR1 c36) ?_
 simp [TR1_eq,a36,tE]
 exact leZRm
theorem sTell3(r:Rm) (m:Mv) (hR:okRm r=true) (hq:r.net.q.length≤4000) (m1:m.kind=1) (q1:inR r m.peer=true) (q2:okNt m.note=true) (i:Nat) (hi:m.peer=i) (p3:i<r.ps.length) (hfd:r.ps[i][posN r.ps[i] m.note]?=some m.note):PCall Tryz.prog 12 [dRm r,dMv m] (.ret (.tup [dRm (finR r.ps (sndAll r.net (tellQ r.ps.length i m.note))).1,dI (finR r.ps (sndAll r.net (tellQ r.ps.length i m.note))).2])):=by
 have hC:=C544.chk r
 refine pcall_of_vcZ h544 c12 (by simp [a12]) 4 fun hr=>?_
 simp [a12]
 refine vc_path [.ret (dI (rmE r))] ?_
 rw [rmE_0 hR] at hC ⊢
 have hR':=okRm_iff.1 hR
 simp
 refine⟨hC,?_⟩
 obtain⟨p0,pr,hps⟩:∃ p0 pr,r.ps=p0::pr:=by
  cases h:r.ps with
  | nil=>rw [h] at hR';simp at hR'
  | cons a b=>exact⟨a,b,rfl⟩
 have hcl:some (1,List.map dPe r.ps)=some (1,dPe p0::List.map dPe pr):=by rw [hps];rfl
 have hfold:dPe p0::List.map dPe pr=List.map dPe r.ps:=by rw [hps];rfl
 have hlen:pr.length+1=r.ps.length:=by rw [hps];rfl
 have h24:(r.ps.length*24≤140737488355328)=True:=eq_true (by omega)
 have hwl:(wr (List.map dPe r.ps)).length=r.ps.length:=by rw [wr_pe,List.length_map]
 have e1:(m.kind == 1)=true:=by simp [m1]
 simp [m1,e1]
 refine regS_path [] ?_
 simp
 rw [hcl]
 simp
 rw [hfold,hlen]
 simp only [h24,true_and]
 refine regS_path [] ?_
 simp
 refine icall_T (TF Tryz.prog a31) (hcall_of_vc c31) ?_
 simp [a31]
 refine regS_path [] ?_
 simp
 refine icall_T (TF Tryz.prog a67) (hcall_of_vc c67) ?_
 simp [a67]
 obtain⟨p1,p2⟩:=inR_iff.1 q1
 refine vc_path [.ret (.tup [])] ?_
 simp [p1,p2]
 refine⟨.need_t 1,?_⟩
 have hF:=C544.formed m.note
 rw [q2] at hF
 refine vc_path [.ret (dB true),.ret (.tup [])] ?_
 simp
 refine⟨hF,.need_t 530,?_⟩
 refine regS_path [] ?_
 simp
 rw [hi] at p1 p2 ⊢
 refine icall_T (TF Tryz.prog a70) (hcall_of_vc c70) ?_
 have hwg:(wr (List.map dPe r.ps))[i]?=some (.d (.sl 7 (r.ps[i].map dNt))):=by rw [wr_pe];simp [p3]
 simp [a70,p3]
 have hpe:=okPe_iff.1 (hR'.2.2.2.1 _ (List.getElem_mem p3))
 have hS:=C544.search r.ps[i] m.note hpe.1 q2 (by omega)
 have hpl:=(posN_spec (okNs_pw hpe.1) m.note).1
 refine vc_pathD [.ret (.tup [dI (posN r.ps[i] m.note),dB (decide (r.ps[i][posN r.ps[i] m.note]?=some m.note))])] ?_
 have hfl:(D.flat (r.ps.map dPe)).length=r.ps.length*1:=by rw [flat_len (sz:=1) (by simp)];simp
 simp [hfd] at hS
 simp [hwg,hfd]
 refine⟨by omega,hS,rfl,?_⟩
 refine regS_path [] ?_
 simp
 refine icall_T (TF Tryz.prog a71) (hcall_of_vc c71) ?_
 simp [a71]
 refine vc_range (TF Tryz.prog a72) (hcall_of_vc c72) rfl (by rfl) (fun yl=>by rfl) (fun yl=>?_)
 simp [a72]
 have hlenR:r.ps.length≤24:=hR'.2.1
 generalize hO:finR r.ps (sndAll r.net (tellQ r.ps.length i m.note))=OUT
 refine vc_loopK [0,1,2,10] (Nat×Nw) (fun y=>[(11,true,.d (dI y.1))]) (fun y=>[(5,.box true [.bsl 6 0 1 r.ps.length r.ps.length,.d (.sl 3 (y.2.q.map dPc)),.d (.sl 2 (y.2.c.map dPr))])]) (fun y=>y.1≤r.ps.length∧finR r.ps (sndAll y.2 (restQ r.ps.length i y.1 m.note))=OUT∧okNw y.2=true∧y.2.q.length≤r.net.q.length+y.1) (fun y=>r.ps.length-y.1) (0,r.net) ⟨by omega,by rw [restQ_0];exact hO,hR'.2.2.1,Nat.le_add_right _ _⟩ ⟨[],[],?_⟩ (fun y hy=>?_)
 ·simp
  first | exact⟨wr_one _,fun x _=>by omega⟩ | exact⟨⟨wr_one _,wr_one1 _⟩,fun x _=>by omega⟩
 obtain⟨j,x⟩:=y
 obtain⟨k1,k2,k3,k4⟩:=hy
 simp only at k1 k2 k3 k4
 simp
 refine⟨fun hlt=>?_,fun hge=>?_⟩
 ·by_cases hji:j=i
  ·subst hji
   rw [restQ_eq hlt rfl] at k2
   simp [hlt]
   refine regK_path [.ret (dZ (msgB m.note))] [] ?_
   simp
   refine⟨rfl,j+1,x,⟨by omega,k2,k3,by omega⟩,by omega,[],[],?_⟩
   rw [wrap64 (by omega)]
   simp
   first | exact⟨wr_one _,fun x _=>by omega⟩ | exact⟨⟨wr_one _,wr_one1 _⟩,fun x _=>by omega⟩
  ·have hji':¬ (j:Int)=(i:Int):=by omega
   rw [restQ_ne hlt hji,sndAll_cons] at k2
   simp [hlt]
   refine regK_path [.ret (dZ (msgB m.note))] [] ?_
   simp [hji',dZ]
   refine⟨.msg m.note (okNt_tx6 q2),rfl,?_⟩
   refine vc_pathD [.ret (.tup [dNw (sndN x (pcOf i j m.note)),dI (sndE x (pcOf i j m.note))])] ?_
   simp
   have hS:=C544.snd x (pcOf i j m.note)
   refine⟨by rw [strD_bz];exact hS,rfl,?_⟩
   obtain⟨hs,hs2,hs3⟩:=snd_ok k3 (okPc_of q2 (by omega:i<24) (by omega:j<24) hji) (by omega)
   rw [if_pos hs] at k2
   rw [hs]
   refine vc_path [.ret (.tup [])] ?_
   simp
   refine⟨.need_t 0,j+1,sndN x (pcOf i j m.note),⟨by omega,k2,hs2,by omega⟩,by omega,[],[],?_⟩
   rw [wrap64 (by omega)]
   simp
   first | exact⟨wr_one _,fun x _=>by omega⟩ | exact⟨⟨wr_one _,wr_one1 _⟩,fun x _=>by omega⟩
 ·have:j=r.ps.length:=by omega
  subst this
  rw [restQ_end] at k2
  rw [← k2]
  have e:finR r.ps (sndAll x [])=(⟨r.ps,x⟩,0):=rfl
  rw [e]
  refine leave_fn (TR1 Tryz.prog a36) (dcall_of_vcR1 c36) ?_
  simp [TR1_eq,a36]
  rw [dRm,frz_agg]
  refine⟨?_,by simp⟩
  rw [frzL_cons,frzL_cons,frzL_cons,frzL_nil,frz_d,frz_d]
  exact⟨frz_rows (ag:=true) rfl dPe_z dPe_one (by first | (simp;done) | (simp [hPL];done)),LeD.refl _,LeD.refl _,trivial⟩
theorem sTell4(r:Rm) (m:Mv) (hR:okRm r=true) (hq:r.net.q.length≤4000) (m1:m.kind=1) (q1:inR r m.peer=true) (q2:okNt m.note=true) (i:Nat) (hi:m.peer=i) (p3:i<r.ps.length) (hfd:¬ r.ps[i][posN r.ps[i] m.note]?=some m.note) (h4:r.ps[i].length=4096):PCall Tryz.prog 12 [dRm r,dMv m] (.ret (.tup [dRm (((zRm,2):Rm×Int)).1,dI (((zRm,2):Rm×Int)).2])):=by
 have hC:=C544.chk r
 refine pcall_of_vcZ h544 c12 (by simp [a12]) 4 fun hr=>?_
 simp [a12]
 refine vc_path [.ret (dI (rmE r))] ?_
 rw [rmE_0 hR] at hC ⊢
 have hR':=okRm_iff.1 hR
 simp
 refine⟨hC,?_⟩
 obtain⟨p0,pr,hps⟩:∃ p0 pr,r.ps=p0::pr:=by
  cases h:r.ps with
  | nil=>rw [h] at hR';simp at hR'
  | cons a b=>exact⟨a,b,rfl⟩
 have hcl:some (1,List.map dPe r.ps)=some (1,dPe p0::List.map dPe pr):=by rw [hps];rfl
 have hfold:dPe p0::List.map dPe pr=List.map dPe r.ps:=by rw [hps];rfl
 have hlen:pr.length+1=r.ps.length:=by rw [hps];rfl
 have h24:(r.ps.length*24≤140737488355328)=True:=eq_true (by omega)
 have hwl:(wr (List.map dPe r.ps)).length=r.ps.length:=by rw [wr_pe,List.length_map]
 have e1:(m.kind == 1)=true:=by simp [m1]
 simp [m1,e1]
 refine regS_path [] ?_
 simp
 rw [hcl]
 simp
 rw [hfold,hlen]
 simp only [h24,true_and]
 refine regS_path [] ?_
 simp
 refine icall_T (TF Tryz.prog a31) (hcall_of_vc c31) ?_
 simp [a31]
 refine regS_path [] ?_
 simp
 refine icall_T (TF Tryz.prog a67) (hcall_of_vc c67) ?_
 simp [a67]
 obtain⟨p1,p2⟩:=inR_iff.1 q1
 refine vc_path [.ret (.tup [])] ?_
 simp [p1,p2]
 refine⟨.need_t 1,?_⟩
 have hF:=C544.formed m.note
 rw [q2] at hF
 refine vc_path [.ret (dB true),.ret (.tup [])] ?_
 simp
 refine⟨hF,.need_t 530,?_⟩
 refine regS_path [] ?_
 simp
 rw [hi] at p1 p2 ⊢
 refine icall_T (TF Tryz.prog a70) (hcall_of_vc c70) ?_
 have hwg:(wr (List.map dPe r.ps))[i]?=some (.d (.sl 7 (r.ps[i].map dNt))):=by rw [wr_pe];simp [p3]
 simp [a70,p3]
 have hpe:=okPe_iff.1 (hR'.2.2.2.1 _ (List.getElem_mem p3))
 have hS:=C544.search r.ps[i] m.note hpe.1 q2 (by omega)
 have hpl:=(posN_spec (okNs_pw hpe.1) m.note).1
 refine vc_pathD [.ret (.tup [dI (posN r.ps[i] m.note),dB (decide (r.ps[i][posN r.ps[i] m.note]?=some m.note))])] ?_
 have hfl:(D.flat (r.ps.map dPe)).length=r.ps.length*1:=by rw [flat_len (sz:=1) (by simp)];simp
 simp [hfd] at hS
 simp [hwg,hfd]
 refine⟨by omega,hS,rfl,?_⟩
 have h4i:decide ((r.ps[i].length:Int)<4096)=false:=decide_eq_false (by omega)
 refine vc_path [.pan (tE 2)] ?_
 simp [hwg,h4i]
 refine⟨by omega,.need_f 2,?_⟩
 refine leave_fn (TR1 Tryz.prog a36) (dcall_of_vcR1 c36) ?_
 simp [TR1_eq,a36,tE]
 exact leZRm
theorem sTell5(r:Rm) (m:Mv) (hR:okRm r=true) (hq:r.net.q.length≤4000) (m1:m.kind=1) (q1:inR r m.peer=true) (q2:okNt m.note=true) (i:Nat) (hi:m.peer=i) (p3:i<r.ps.length) (hfd:¬ r.ps[i][posN r.ps[i] m.note]?=some m.note) (h4:¬ r.ps[i].length=4096) (h0:r.ps[i]=[]):PCall Tryz.prog 12 [dRm r,dMv m] (.ret (.tup [dRm (finR (r.ps.set i (lrnL r.ps[i] m.note)) (sndAll r.net (tellQ r.ps.length i m.note))).1,dI (finR (r.ps.set i (lrnL r.ps[i] m.note)) (sndAll r.net (tellQ r.ps.length i m.note))).2])):=by
 have hC:=C544.chk r
 refine pcall_of_vcZ h544 c12 (by simp [a12]) 4 fun hr=>?_
 simp [a12]
 refine vc_path [.ret (dI (rmE r))] ?_
 rw [rmE_0 hR] at hC ⊢
 have hR':=okRm_iff.1 hR
 simp
 refine⟨hC,?_⟩
 obtain⟨p0,pr,hps⟩:∃ p0 pr,r.ps=p0::pr:=by
  cases h:r.ps with
  | nil=>rw [h] at hR';simp at hR'
  | cons a b=>exact⟨a,b,rfl⟩
 have hcl:some (1,List.map dPe r.ps)=some (1,dPe p0::List.map dPe pr):=by rw [hps];rfl
 have hfold:dPe p0::List.map dPe pr=List.map dPe r.ps:=by rw [hps];rfl
 have hlen:pr.length+1=r.ps.length:=by rw [hps];rfl
 have h24:(r.ps.length*24≤140737488355328)=True:=eq_true (by omega)
 have hwl:(wr (List.map dPe r.ps)).length=r.ps.length:=by rw [wr_pe,List.length_map]
 have e1:(m.kind == 1)=true:=by simp [m1]
 simp [m1,e1]
 refine regS_path [] ?_
 simp
 rw [hcl]
 simp
 rw [hfold,hlen]
 simp only [h24,true_and]
 refine regS_path [] ?_
 simp
 refine icall_T (TF Tryz.prog a31) (hcall_of_vc c31) ?_
 simp [a31]
 refine regS_path [] ?_
 simp
 refine icall_T (TF Tryz.prog a67) (hcall_of_vc c67) ?_
 simp [a67]
 obtain⟨p1,p2⟩:=inR_iff.1 q1
 refine vc_path [.ret (.tup [])] ?_
 simp [p1,p2]
 refine⟨.need_t 1,?_⟩
 have hF:=C544.formed m.note
 rw [q2] at hF
 refine vc_path [.ret (dB true),.ret (.tup [])] ?_
 simp
 refine⟨hF,.need_t 530,?_⟩
 refine regS_path [] ?_
 simp
 rw [hi] at p1 p2 ⊢
 refine icall_T (TF Tryz.prog a70) (hcall_of_vc c70) ?_
 have hwg:(wr (List.map dPe r.ps))[i]?=some (.d (.sl 7 (r.ps[i].map dNt))):=by rw [wr_pe];simp [p3]
 simp [a70,p3]
 have hpe:=okPe_iff.1 (hR'.2.2.2.1 _ (List.getElem_mem p3))
 have hS:=C544.search r.ps[i] m.note hpe.1 q2 (by omega)
 have hpl:=(posN_spec (okNs_pw hpe.1) m.note).1
 refine vc_pathD [.ret (.tup [dI (posN r.ps[i] m.note),dB (decide (r.ps[i][posN r.ps[i] m.note]?=some m.note))])] ?_
 have hfl:(D.flat (r.ps.map dPe)).length=r.ps.length*1:=by rw [flat_len (sz:=1) (by simp)];simp
 simp [hfd] at hS
 simp [hwg,hfd]
 refine⟨by omega,hS,rfl,?_⟩
 have h4i:decide ((r.ps[i].length:Int)<4096)=true:=decide_eq_true (by omega)
 refine vc_path [.ret (.tup [])] ?_
 simp [hwg,h4i]
 refine⟨by omega,.need_t 2,by omega,?_⟩
 have hW:=wr_pe_set r.ps i (lrnL r.ps[i] m.note)
 have eL:lrnL r.ps[i] m.note=r.ps[i].take (posN r.ps[i] m.note)++m.note::r.ps[i].drop (posN r.ps[i] m.note):=by unfold lrnL;rw [if_neg hfd,if_neg h4]
 have hbl:r.ps[i].length<4096:=by omega
 have hel1:elsD 7 1 (D.flat [.agg [.lit (.int .i64 m.note.lang),.lit (.int .i64 m.note.seq),.lit (.int .i64 m.note.ch.at_),.lit (.int .i64 m.note.ch.kind),.lit (.int .i64 m.note.ch.sp.id),.lit (.int .i64 m.note.ch.sp.ver),dZ m.note.ch.sp.tx]])=[dNt m.note]:=rfl
 generalize hPS:r.ps.set i (lrnL r.ps[i] m.note)=PS at *
 have hPL:PS.length=r.ps.length:=by rw [← hPS,List.length_set]
 generalize hL:r.ps[i]=L at *
 subst h0
 simp
 refine⟨⟨rfl,Nat.le_refl _⟩,by omega,rfl,?_⟩
 have hY:[dNt m.note]=(lrnL [] m.note).map dNt:=by rw [eL];rfl
 rw [hel1,hY,hW]
 refine regS_path [] ?_
 simp
 refine icall_T (TF Tryz.prog a71) (hcall_of_vc c71) ?_
 simp [a71]
 refine vc_range (TF Tryz.prog a72) (hcall_of_vc c72) rfl (by rfl) (fun yl=>by rfl) (fun yl=>?_)
 simp [a72]
 have hlenR:r.ps.length≤24:=hR'.2.1
 generalize hO:finR PS (sndAll r.net (tellQ r.ps.length i m.note))=OUT
 refine vc_loopK [0,1,2,10] (Nat×Nw) (fun y=>[(11,true,.d (dI y.1))]) (fun y=>[(5,.box true [.bsl 6 0 1 r.ps.length r.ps.length,.d (.sl 3 (y.2.q.map dPc)),.d (.sl 2 (y.2.c.map dPr))])]) (fun y=>y.1≤r.ps.length∧finR PS (sndAll y.2 (restQ r.ps.length i y.1 m.note))=OUT∧okNw y.2=true∧y.2.q.length≤r.net.q.length+y.1) (fun y=>r.ps.length-y.1) (0,r.net) ⟨by omega,by rw [restQ_0];exact hO,hR'.2.2.1,Nat.le_add_right _ _⟩ ⟨[],[],?_⟩ (fun y hy=>?_)
 ·simp
  first | exact⟨wr_one _,fun x _=>by omega⟩ | exact⟨⟨wr_one _,wr_one1 _⟩,fun x _=>by omega⟩
 obtain⟨j,x⟩:=y
 obtain⟨k1,k2,k3,k4⟩:=hy
 simp only at k1 k2 k3 k4
 simp
 refine⟨fun hlt=>?_,fun hge=>?_⟩
 ·by_cases hji:j=i
  ·subst hji
   rw [restQ_eq hlt rfl] at k2
   simp [hlt]
   refine regK_path [.ret (dZ (msgB m.note))] [] ?_
   simp
   refine⟨rfl,j+1,x,⟨by omega,k2,k3,by omega⟩,by omega,[],[],?_⟩
   rw [wrap64 (by omega)]
   simp
   first | exact⟨wr_one _,fun x _=>by omega⟩ | exact⟨⟨wr_one _,wr_one1 _⟩,fun x _=>by omega⟩
  ·have hji':¬ (j:Int)=(i:Int):=by omega
   rw [restQ_ne hlt hji,sndAll_cons] at k2
   simp [hlt]
   refine regK_path [.ret (dZ (msgB m.note))] [] ?_
   simp [hji',dZ]
   refine⟨.msg m.note (okNt_tx6 q2),rfl,?_⟩
   refine vc_pathD [.ret (.tup [dNw (sndN x (pcOf i j m.note)),dI (sndE x (pcOf i j m.note))])] ?_
   simp
   have hS:=C544.snd x (pcOf i j m.note)
   refine⟨by rw [strD_bz];exact hS,rfl,?_⟩
   obtain⟨hs,hs2,hs3⟩:=snd_ok k3 (okPc_of q2 (by omega:i<24) (by omega:j<24) hji) (by omega)
   rw [if_pos hs] at k2
   rw [hs]
   refine vc_path [.ret (.tup [])] ?_
   simp
   refine⟨.need_t 0,j+1,sndN x (pcOf i j m.note),⟨by omega,k2,hs2,by omega⟩,by omega,[],[],?_⟩
   rw [wrap64 (by omega)]
   simp
   first | exact⟨wr_one _,fun x _=>by omega⟩ | exact⟨⟨wr_one _,wr_one1 _⟩,fun x _=>by omega⟩
 ·have:j=r.ps.length:=by omega
  subst this
  rw [restQ_end] at k2
  rw [← k2]
  have e:finR PS (sndAll x [])=(⟨PS,x⟩,0):=rfl
  rw [e]
  refine leave_fn (TR1 Tryz.prog a36) (dcall_of_vcR1 c36) ?_
  simp [TR1_eq,a36]
  rw [dRm,frz_agg]
  refine⟨?_,by simp⟩
  rw [frzL_cons,frzL_cons,frzL_cons,frzL_nil,frz_d,frz_d]
  exact⟨frz_rows (ag:=true) rfl dPe_z dPe_one (by first | (simp;done) | (simp [hPL];done)),LeD.refl _,LeD.refl _,trivial⟩
theorem sTell6(r:Rm) (m:Mv) (hR:okRm r=true) (hq:r.net.q.length≤4000) (m1:m.kind=1) (q1:inR r m.peer=true) (q2:okNt m.note=true) (i:Nat) (hi:m.peer=i) (p3:i<r.ps.length) (hfd:¬ r.ps[i][posN r.ps[i] m.note]?=some m.note) (h4:¬ r.ps[i].length=4096) (h0:¬ r.ps[i]=[]):PCall Tryz.prog 12 [dRm r,dMv m] (.ret (.tup [dRm (finR (r.ps.set i (lrnL r.ps[i] m.note)) (sndAll r.net (tellQ r.ps.length i m.note))).1,dI (finR (r.ps.set i (lrnL r.ps[i] m.note)) (sndAll r.net (tellQ r.ps.length i m.note))).2])):=by
 have hC:=C544.chk r
 refine pcall_of_vcZ h544 c12 (by simp [a12]) 4 fun hr=>?_
 simp [a12]
 refine vc_path [.ret (dI (rmE r))] ?_
 rw [rmE_0 hR] at hC ⊢
 have hR':=okRm_iff.1 hR
 simp
 refine⟨hC,?_⟩
 obtain⟨p0,pr,hps⟩:∃ p0 pr,r.ps=p0::pr:=by
  cases h:r.ps with
  | nil=>rw [h] at hR';simp at hR'
  | cons a b=>exact⟨a,b,rfl⟩
 have hcl:some (1,List.map dPe r.ps)=some (1,dPe p0::List.map dPe pr):=by rw [hps];rfl
 have hfold:dPe p0::List.map dPe pr=List.map dPe r.ps:=by rw [hps];rfl
 have hlen:pr.length+1=r.ps.length:=by rw [hps];rfl
 have h24:(r.ps.length*24≤140737488355328)=True:=eq_true (by omega)
 have hwl:(wr (List.map dPe r.ps)).length=r.ps.length:=by rw [wr_pe,List.length_map]
 have e1:(m.kind == 1)=true:=by simp [m1]
 simp [m1,e1]
 refine regS_path [] ?_
 simp
 rw [hcl]
 simp
 rw [hfold,hlen]
 simp only [h24,true_and]
 refine regS_path [] ?_
 simp
 refine icall_T (TF Tryz.prog a31) (hcall_of_vc c31) ?_
 simp [a31]
 refine regS_path [] ?_
 simp
 refine icall_T (TF Tryz.prog a67) (hcall_of_vc c67) ?_
 simp [a67]
 obtain⟨p1,p2⟩:=inR_iff.1 q1
 refine vc_path [.ret (.tup [])] ?_
 simp [p1,p2]
 refine⟨.need_t 1,?_⟩
 have hF:=C544.formed m.note
 rw [q2] at hF
 refine vc_path [.ret (dB true),.ret (.tup [])] ?_
 simp
 refine⟨hF,.need_t 530,?_⟩
 refine regS_path [] ?_
 simp
 rw [hi] at p1 p2 ⊢
 refine icall_T (TF Tryz.prog a70) (hcall_of_vc c70) ?_
 have hwg:(wr (List.map dPe r.ps))[i]?=some (.d (.sl 7 (r.ps[i].map dNt))):=by rw [wr_pe];simp [p3]
 simp [a70,p3]
 have hpe:=okPe_iff.1 (hR'.2.2.2.1 _ (List.getElem_mem p3))
 have hS:=C544.search r.ps[i] m.note hpe.1 q2 (by omega)
 have hpl:=(posN_spec (okNs_pw hpe.1) m.note).1
 refine vc_pathD [.ret (.tup [dI (posN r.ps[i] m.note),dB (decide (r.ps[i][posN r.ps[i] m.note]?=some m.note))])] ?_
 have hfl:(D.flat (r.ps.map dPe)).length=r.ps.length*1:=by rw [flat_len (sz:=1) (by simp)];simp
 simp [hfd] at hS
 simp [hwg,hfd]
 refine⟨by omega,hS,rfl,?_⟩
 have h4i:decide ((r.ps[i].length:Int)<4096)=true:=decide_eq_true (by omega)
 refine vc_path [.ret (.tup [])] ?_
 simp [hwg,h4i]
 refine⟨by omega,.need_t 2,by omega,?_⟩
 have hW:=wr_pe_set r.ps i (lrnL r.ps[i] m.note)
 have eL:lrnL r.ps[i] m.note=r.ps[i].take (posN r.ps[i] m.note)++m.note::r.ps[i].drop (posN r.ps[i] m.note):=by unfold lrnL;rw [if_neg hfd,if_neg h4]
 have hbl:r.ps[i].length<4096:=by omega
 have hel1:elsD 7 1 (D.flat [.agg [.lit (.int .i64 m.note.lang),.lit (.int .i64 m.note.seq),.lit (.int .i64 m.note.ch.at_),.lit (.int .i64 m.note.ch.kind),.lit (.int .i64 m.note.ch.sp.id),.lit (.int .i64 m.note.ch.sp.ver),dZ m.note.ch.sp.tx]])=[dNt m.note]:=rfl
 generalize hPS:r.ps.set i (lrnL r.ps[i] m.note)=PS at *
 have hPL:PS.length=r.ps.length:=by rw [← hPS,List.length_set]
 generalize hL:r.ps[i]=L at *
 obtain⟨a,b,rfl⟩:∃ a b,L=a::b:=by cases L with
  | nil=>exact absurd rfl h0
  | cons a b=>exact⟨a,b,rfl⟩
 have hfa:(D.flat (dNt a::b.map dNt)).length=(b.length+1)*7:=flat_nts (a::b)
 have hela:elsD 7 (b.length+1) (D.flat (dNt a::b.map dNt))=(a::b).map dNt:=elsD_nts (a::b)
 have hY:List.take (posN (a::b) m.note) ((a::b).map dNt)++([dNt m.note]++List.drop (posN (a::b) m.note) ((a::b).map dNt))=(lrnL (a::b) m.note).map dNt:=by
  rw [eL,List.map_append,List.map_take,List.map_cons (f:=dNt) (a:=m.note),List.map_drop,List.singleton_append]
 have hpl2:posN (a::b) m.note≤b.length+1:=hpl
 have hbl2:b.length+1<4096:=hbl
 have hi1:i+1≤(D.flat (List.map dPe r.ps)).length:=by rw [hfl];omega
 clear hbl hpl h4i h4 hfd eL
 have g2:(b.length+1)*7≤(D.flat (dNt a::b.map dNt)).length:=Nat.le_of_eq hfa.symm
 clear hfa
 have hb:(b.length+1)*64≤140737488355328:=lem_a hbl2
 have g1:((posN (a::b) m.note:Nat):Int)≤(b.length:Int)+1:=lem_b hpl2
 have g3:(b.length+1+1)*64≤140737488355328:=lem_c hbl2
 have g4:b.length≤9223372036854775805:=lem_d hbl2
 simp [hb]
 refine⟨⟨g1,⟨g2,Nat.le_refl _⟩,g3,g4⟩,hi1,rfl,?_⟩
 rw [hela,hel1,hY,hW]
 refine regS_path [] ?_
 simp
 refine icall_T (TF Tryz.prog a71) (hcall_of_vc c71) ?_
 simp [a71]
 refine vc_range (TF Tryz.prog a72) (hcall_of_vc c72) rfl (by rfl) (fun yl=>by rfl) (fun yl=>?_)
 simp [a72]
 have hlenR:r.ps.length≤24:=hR'.2.1
 generalize hO:finR PS (sndAll r.net (tellQ r.ps.length i m.note))=OUT
 refine vc_loopK [0,1,2,10] (Nat×Nw) (fun y=>[(11,true,.d (dI y.1))]) (fun y=>[(5,.box true [.bsl 6 0 1 r.ps.length r.ps.length,.d (.sl 3 (y.2.q.map dPc)),.d (.sl 2 (y.2.c.map dPr))])]) (fun y=>y.1≤r.ps.length∧finR PS (sndAll y.2 (restQ r.ps.length i y.1 m.note))=OUT∧okNw y.2=true∧y.2.q.length≤r.net.q.length+y.1) (fun y=>r.ps.length-y.1) (0,r.net) ⟨by omega,by rw [restQ_0];exact hO,hR'.2.2.1,Nat.le_add_right _ _⟩ ⟨[],[],?_⟩ (fun y hy=>?_)
 ·simp
  first | exact⟨wr_one _,fun x _=>by omega⟩ | exact⟨⟨wr_one _,wr_one1 _⟩,fun x _=>by omega⟩
 obtain⟨j,x⟩:=y
 obtain⟨k1,k2,k3,k4⟩:=hy
 simp only at k1 k2 k3 k4
 simp
 refine⟨fun hlt=>?_,fun hge=>?_⟩
 ·by_cases hji:j=i
  ·subst hji
   rw [restQ_eq hlt rfl] at k2
   simp [hlt]
   refine regK_path [.ret (dZ (msgB m.note))] [] ?_
   simp
   refine⟨rfl,j+1,x,⟨by omega,k2,k3,by omega⟩,by omega,[],[],?_⟩
   rw [wrap64 (by omega)]
   simp
   first | exact⟨wr_one _,fun x _=>by omega⟩ | exact⟨⟨wr_one _,wr_one1 _⟩,fun x _=>by omega⟩
  ·have hji':¬ (j:Int)=(i:Int):=by omega
   rw [restQ_ne hlt hji,sndAll_cons] at k2
   simp [hlt]
   refine regK_path [.ret (dZ (msgB m.note))] [] ?_
   simp [hji',dZ]
   refine⟨.msg m.note (okNt_tx6 q2),rfl,?_⟩
   refine vc_pathD [.ret (.tup [dNw (sndN x (pcOf i j m.note)),dI (sndE x (pcOf i j m.note))])] ?_
   simp
   have hS:=C544.snd x (pcOf i j m.note)
   refine⟨by rw [strD_bz];exact hS,rfl,?_⟩
   obtain⟨hs,hs2,hs3⟩:=snd_ok k3 (okPc_of q2 (by omega:i<24) (by omega:j<24) hji) (by omega)
   rw [if_pos hs] at k2
   rw [hs]
   refine vc_path [.ret (.tup [])] ?_
   simp
   refine⟨.need_t 0,j+1,sndN x (pcOf i j m.note),⟨by omega,k2,hs2,by omega⟩,by omega,[],[],?_⟩
   rw [wrap64 (by omega)]
   simp
   first | exact⟨wr_one _,fun x _=>by omega⟩ | exact⟨⟨wr_one _,wr_one1 _⟩,fun x _=>by omega⟩
 ·have:j=r.ps.length:=by omega
  subst this
  rw [restQ_end] at k2
  rw [← k2]
  have e:finR PS (sndAll x [])=(⟨PS,x⟩,0):=rfl
  rw [e]
  refine leave_fn (TR1 Tryz.prog a36) (dcall_of_vcR1 c36) ?_
  simp [TR1_eq,a36]
  rw [dRm,frz_agg]
  refine⟨?_,by simp⟩
  rw [frzL_cons,frzL_cons,frzL_cons,frzL_nil,frz_d,frz_d]
  exact⟨frz_rows (ag:=true) rfl dPe_z dPe_one (by first | (simp;done) | (simp [hPL];done)),LeD.refl _,LeD.refl _,trivial⟩
theorem sSync1(r:Rm) (m:Mv) (hR:okRm r=true) (m1:m.kind=2) (q1:inR r m.peer=false):PCall Tryz.prog 12 [dRm r,dMv m] (.ret (.tup [dRm (((zRm,1):Rm×Int)).1,dI (((zRm,1):Rm×Int)).2])):=by
 have hC:=C544.chk r
 refine pcall_of_vcZ h544 c12 (by simp [a12]) 4 fun hr=>?_
 simp [a12]
 refine vc_path [.ret (dI (rmE r))] ?_
 rw [rmE_0 hR] at hC ⊢
 have hR':=okRm_iff.1 hR
 simp
 refine⟨hC,?_⟩
 obtain⟨p0,pr,hps⟩:∃ p0 pr,r.ps=p0::pr:=by
  cases h:r.ps with
  | nil=>rw [h] at hR';simp at hR'
  | cons a b=>exact⟨a,b,rfl⟩
 have hcl:some (1,List.map dPe r.ps)=some (1,dPe p0::List.map dPe pr):=by rw [hps];rfl
 have hfold:dPe p0::List.map dPe pr=List.map dPe r.ps:=by rw [hps];rfl
 have hlen:pr.length+1=r.ps.length:=by rw [hps];rfl
 have h24:(r.ps.length*24≤140737488355328)=True:=eq_true (by omega)
 have hwl:(wr (List.map dPe r.ps)).length=r.ps.length:=by rw [wr_pe,List.length_map]
 have e1:(m.kind == 1)=false:=by simp [m1]
 have e2:(m.kind == 2)=true:=by simp [m1]
 simp [m1,e1,e2]
 refine regS_path [] ?_
 simp
 rw [hcl]
 simp
 rw [hfold,hlen]
 simp only [h24,true_and]
 refine regS_path [] ?_
 simp
 refine icall_T (TF Tryz.prog a32) (hcall_of_vc c32) ?_
 simp [a32]
 refine regS_path [] ?_
 simp
 refine icall_T (TF Tryz.prog a67) (hcall_of_vc c67) ?_
 simp [a67]
 refine vc_path [.pan (tE 1)] ?_
 by_cases p1:0≤m.peer
 ·have p2:¬ m.peer<(r.ps.length:Int):=fun h=>by rw [inR_iff.2 ⟨p1,h⟩] at q1;cases q1
  simp [p1,p2]
  refine⟨.need_f 1,?_⟩
  refine leave_fn (TR1 Tryz.prog a36) (dcall_of_vcR1 c36) ?_
  simp [TR1_eq,a36,tE]
  exact leZRm
 ·simp [p1]
  refine⟨.need_f 1,?_⟩
  refine leave_fn (TR1 Tryz.prog a36) (dcall_of_vcR1 c36) ?_
  simp [TR1_eq,a36,tE]
  exact leZRm
theorem sSync2(r:Rm) (m:Mv) (hR:okRm r=true) (m1:m.kind=2) (q0:inR r m.peer=true) (q1:inR r m.to=false):PCall Tryz.prog 12 [dRm r,dMv m] (.ret (.tup [dRm (((zRm,1):Rm×Int)).1,dI (((zRm,1):Rm×Int)).2])):=by
 have hC:=C544.chk r
 refine pcall_of_vcZ h544 c12 (by simp [a12]) 4 fun hr=>?_
 simp [a12]
 refine vc_path [.ret (dI (rmE r))] ?_
 rw [rmE_0 hR] at hC ⊢
 have hR':=okRm_iff.1 hR
 simp
 refine⟨hC,?_⟩
 obtain⟨p0,pr,hps⟩:∃ p0 pr,r.ps=p0::pr:=by
  cases h:r.ps with
  | nil=>rw [h] at hR';simp at hR'
  | cons a b=>exact⟨a,b,rfl⟩
 have hcl:some (1,List.map dPe r.ps)=some (1,dPe p0::List.map dPe pr):=by rw [hps];rfl
 have hfold:dPe p0::List.map dPe pr=List.map dPe r.ps:=by rw [hps];rfl
 have hlen:pr.length+1=r.ps.length:=by rw [hps];rfl
 have h24:(r.ps.length*24≤140737488355328)=True:=eq_true (by omega)
 have hwl:(wr (List.map dPe r.ps)).length=r.ps.length:=by rw [wr_pe,List.length_map]
 have e1:(m.kind == 1)=false:=by simp [m1]
 have e2:(m.kind == 2)=true:=by simp [m1]
 simp [m1,e1,e2]
 refine regS_path [] ?_
 simp
 rw [hcl]
 simp
 rw [hfold,hlen]
 simp only [h24,true_and]
 refine regS_path [] ?_
 simp
 refine icall_T (TF Tryz.prog a32) (hcall_of_vc c32) ?_
 simp [a32]
 refine regS_path [] ?_
 simp
 refine icall_T (TF Tryz.prog a67) (hcall_of_vc c67) ?_
 simp [a67]
 obtain⟨p1,p2⟩:=inR_iff.1 q0
 refine vc_path [.ret (.tup [])] ?_
 simp [p1,p2]
 refine⟨.need_t 1,?_⟩
 refine regS_path [] ?_
 simp
 refine icall_T (TF Tryz.prog a67) (hcall_of_vc c67) ?_
 simp [a67]
 refine vc_path [.pan (tE 1)] ?_
 by_cases p1:0≤m.to
 ·have p2:¬ m.to<(r.ps.length:Int):=fun h=>by rw [inR_iff.2 ⟨p1,h⟩] at q1;cases q1
  simp [p1,p2]
  refine⟨.need_f 1,?_⟩
  refine leave_fn (TR1 Tryz.prog a36) (dcall_of_vcR1 c36) ?_
  simp [TR1_eq,a36,tE]
  exact leZRm
 ·simp [p1]
  refine⟨.need_f 1,?_⟩
  refine leave_fn (TR1 Tryz.prog a36) (dcall_of_vcR1 c36) ?_
  simp [TR1_eq,a36,tE]
  exact leZRm
theorem sSync3(r:Rm) (m:Mv) (hR:okRm r=true) (m1:m.kind=2) (q0:inR r m.peer=true) (q1:inR r m.to=true) (qe:m.peer=m.to):PCall Tryz.prog 12 [dRm r,dMv m] (.ret (.tup [dRm (((zRm,1):Rm×Int)).1,dI (((zRm,1):Rm×Int)).2])):=by
 have hC:=C544.chk r
 refine pcall_of_vcZ h544 c12 (by simp [a12]) 4 fun hr=>?_
 simp [a12]
 refine vc_path [.ret (dI (rmE r))] ?_
 rw [rmE_0 hR] at hC ⊢
 have hR':=okRm_iff.1 hR
 simp
 refine⟨hC,?_⟩
 obtain⟨p0,pr,hps⟩:∃ p0 pr,r.ps=p0::pr:=by
  cases h:r.ps with
  | nil=>rw [h] at hR';simp at hR'
  | cons a b=>exact⟨a,b,rfl⟩
 have hcl:some (1,List.map dPe r.ps)=some (1,dPe p0::List.map dPe pr):=by rw [hps];rfl
 have hfold:dPe p0::List.map dPe pr=List.map dPe r.ps:=by rw [hps];rfl
 have hlen:pr.length+1=r.ps.length:=by rw [hps];rfl
 have h24:(r.ps.length*24≤140737488355328)=True:=eq_true (by omega)
 have hwl:(wr (List.map dPe r.ps)).length=r.ps.length:=by rw [wr_pe,List.length_map]
 have e1:(m.kind == 1)=false:=by simp [m1]
 have e2:(m.kind == 2)=true:=by simp [m1]
 simp [m1,e1,e2]
 refine regS_path [] ?_
 simp
 rw [hcl]
 simp
 rw [hfold,hlen]
 simp only [h24,true_and]
 refine regS_path [] ?_
 simp
 refine icall_T (TF Tryz.prog a32) (hcall_of_vc c32) ?_
 simp [a32]
 refine regS_path [] ?_
 simp
 refine icall_T (TF Tryz.prog a67) (hcall_of_vc c67) ?_
 simp [a67]
 obtain⟨p1,p2⟩:=inR_iff.1 q0
 refine vc_path [.ret (.tup [])] ?_
 simp [p1,p2]
 refine⟨.need_t 1,?_⟩
 refine regS_path [] ?_
 simp
 refine icall_T (TF Tryz.prog a67) (hcall_of_vc c67) ?_
 simp [a67]
 obtain⟨p3,p4⟩:=inR_iff.1 q1
 refine vc_path [.ret (.tup [])] ?_
 simp [p3,p4]
 refine⟨.need_t 1,?_⟩
 refine vc_path [.pan (tE 1)] ?_
 simp [qe]
 refine⟨.need_f 1,?_⟩
 refine leave_fn (TR1 Tryz.prog a36) (dcall_of_vcR1 c36) ?_
 simp [TR1_eq,a36,tE]
 exact leZRm
theorem sSync4(r:Rm) (m:Mv) (hR:okRm r=true) (m1:m.kind=2) (q0:inR r m.peer=true) (q1:inR r m.to=true) (qe:¬ m.peer=m.to) (i k:Nat) (hi:m.peer=i) (hk:m.to=k) (p5:i<r.ps.length) (p6:k<r.ps.length) (hq:r.net.q.length+r.ps[i].length≤4000):PCall Tryz.prog 12 [dRm r,dMv m] (.ret (.tup [dRm (finR r.ps (sndAll r.net (r.ps[i].map fun n=>pcOf i k n))).1,dI (finR r.ps (sndAll r.net (r.ps[i].map fun n=>pcOf i k n))).2])):=by
 have hC:=C544.chk r
 refine pcall_of_vcZ h544 c12 (by simp [a12]) 4 fun hr=>?_
 simp [a12]
 refine vc_path [.ret (dI (rmE r))] ?_
 rw [rmE_0 hR] at hC ⊢
 have hR':=okRm_iff.1 hR
 simp
 refine⟨hC,?_⟩
 obtain⟨p0,pr,hps⟩:∃ p0 pr,r.ps=p0::pr:=by
  cases h:r.ps with
  | nil=>rw [h] at hR';simp at hR'
  | cons a b=>exact⟨a,b,rfl⟩
 have hcl:some (1,List.map dPe r.ps)=some (1,dPe p0::List.map dPe pr):=by rw [hps];rfl
 have hfold:dPe p0::List.map dPe pr=List.map dPe r.ps:=by rw [hps];rfl
 have hlen:pr.length+1=r.ps.length:=by rw [hps];rfl
 have h24:(r.ps.length*24≤140737488355328)=True:=eq_true (by omega)
 have hwl:(wr (List.map dPe r.ps)).length=r.ps.length:=by rw [wr_pe,List.length_map]
 have e1:(m.kind == 1)=false:=by simp [m1]
 have e2:(m.kind == 2)=true:=by simp [m1]
 simp [m1,e1,e2]
 refine regS_path [] ?_
 simp
 rw [hcl]
 simp
 rw [hfold,hlen]
 simp only [h24,true_and]
 refine regS_path [] ?_
 simp
 refine icall_T (TF Tryz.prog a32) (hcall_of_vc c32) ?_
 simp [a32]
 refine regS_path [] ?_
 simp
 refine icall_T (TF Tryz.prog a67) (hcall_of_vc c67) ?_
 simp [a67]
 obtain⟨p1,p2⟩:=inR_iff.1 q0
 refine vc_path [.ret (.tup [])] ?_
 simp [p1,p2]
 refine⟨.need_t 1,?_⟩
 refine regS_path [] ?_
 simp
 refine icall_T (TF Tryz.prog a67) (hcall_of_vc c67) ?_
 simp [a67]
 obtain⟨p3,p4⟩:=inR_iff.1 q1
 refine vc_path [.ret (.tup [])] ?_
 simp [p3,p4]
 refine⟨.need_t 1,?_⟩
 refine vc_path [.ret (.tup [])] ?_
 have hqb:(m.peer != m.to)=true:=by simp [qe]
 simp [hqb]
 refine⟨.need_t 1,?_⟩
 clear hqb
 rw [hi] at p1 p2 qe ⊢
 rw [hk] at p3 p4 qe ⊢
 refine regS_path [] ?_
 simp
 refine icall_T (TF Tryz.prog a71) (hcall_of_vc c71) ?_
 simp [a71]
 refine vc_range (TF Tryz.prog a74) (hcall_of_vc c74) rfl (by rfl) (fun yl=>by rfl) (fun yl=>?_)
 have hwg:(wr (List.map dPe r.ps))[i]?=some (.d (.sl 7 (r.ps[i].map dNt))):=by rw [wr_pe];simp [p5]
 have hpe:=okPe_iff.1 (hR'.2.2.2.1 _ (List.getElem_mem p5))
 have hok:=okNs_ok hpe.1
 have hfl:(D.flat (r.ps.map dPe)).length=r.ps.length*1:=by rw [flat_len (sz:=1) (by simp)];simp
 simp [a74,p5,hwg]
 refine⟨by omega,rfl,?_⟩
 have hlenR:r.ps.length≤24:=hR'.2.1
 have hL4:=hpe.2
 generalize hL:r.ps[i]=L at *
 generalize hO:finR r.ps (sndAll r.net (L.map fun n=>pcOf i k n))=OUT
 refine vc_loopK [0,1,2,15,16] (Nat×Nw) (fun y=>[(17,true,.d (dI y.1))]) (fun y=>[(5,.box true [.bsl 6 0 1 r.ps.length r.ps.length,.d (.sl 3 (y.2.q.map dPc)),.d (.sl 2 (y.2.c.map dPr))])]) (fun y=>y.1≤L.length∧finR r.ps (sndAll y.2 ((L.drop y.1).map fun n=>pcOf i k n))=OUT∧okNw y.2=true∧y.2.q.length≤r.net.q.length+y.1) (fun y=>L.length-y.1) (0,r.net) ⟨Nat.zero_le _,hO,hR'.2.2.1,Nat.le_add_right _ _⟩ ⟨[],[],?_⟩ (fun y hy=>?_)
 ·simp
  exact⟨wr_one _,fun x _=>by omega⟩
 obtain⟨j,x⟩:=y
 obtain⟨k1,k2,k3,k4⟩:=hy
 simp only at k1 k2 k3 k4
 simp
 refine⟨fun hlt=>?_,fun hge=>?_⟩
 ·have q7:okNt L[j]=true:=hok _ (List.getElem_mem hlt)
  rw [List.drop_eq_getElem_cons hlt,List.map_cons,sndAll_cons] at k2
  simp [hlt,dNt]
  refine regK_path [.ret (dZ (msgB L[j]))] [] ?_
  simp [dZ]
  refine⟨.msg L[j] (okNt_tx6 q7),rfl,?_⟩
  refine vc_pathD [.ret (.tup [dNw (sndN x (pcOf i k L[j])),dI (sndE x (pcOf i k L[j]))])] ?_
  simp
  have hS:=C544.snd x (pcOf i k L[j])
  refine⟨by rw [strD_bz];exact hS,rfl,?_⟩
  have hik:¬ k=i:=fun e=>qe (by rw [e])
  obtain⟨hs,hs2,hs3⟩:=snd_ok k3 (okPc_of q7 (by omega:i<24) (by omega:k<24) hik) (by omega)
  rw [if_pos hs] at k2
  rw [hs]
  refine vc_path [.ret (.tup [])] ?_
  simp
  refine⟨.need_t 0,j+1,sndN x (pcOf i k L[j]),⟨by omega,by rw [← List.map_drop];exact k2,hs2,by omega⟩,by omega,[],[],?_⟩
  rw [wrap64 (by omega)]
  simp
  exact⟨wr_one _,fun x _=>by omega⟩
 ·have:j=L.length:=by omega
  subst this
  rw [List.drop_length] at k2
  rw [← k2]
  have e:finR r.ps (sndAll x [])=(⟨r.ps,x⟩,0):=rfl
  rw [List.map_nil,e]
  refine leave_fn (TR1 Tryz.prog a36) (dcall_of_vcR1 c36) ?_
  simp [TR1_eq,a36]
  rw [dRm,frz_agg]
  refine⟨?_,by simp⟩
  rw [frzL_cons,frzL_cons,frzL_cons,frzL_nil,frz_d,frz_d]
  exact⟨frz_rows (ag:=true) rfl dPe_z dPe_one (by simp),LeD.refl _,LeD.refl _,trivial⟩
theorem sLose(r:Rm) (m:Mv) (hR:okRm r=true) (m1:m.kind=4):PCall Tryz.prog 12 [dRm r,dMv m] (.ret (.tup [dRm (if atE r.net m.at_≠0 then (zRm,atE r.net m.at_) else (⟨r.ps,lseN r.net m.at_⟩,0)).1,dI (if atE r.net m.at_≠0 then (zRm,atE r.net m.at_) else (⟨r.ps,lseN r.net m.at_⟩,0)).2])):=by
 have hC:=C544.chk r
 refine pcall_of_vcZ h544 c12 (by simp [a12]) 4 fun hr=>?_
 simp [a12]
 refine vc_path [.ret (dI (rmE r))] ?_
 rw [rmE_0 hR] at hC ⊢
 have hR':=okRm_iff.1 hR
 simp
 refine⟨hC,?_⟩
 obtain⟨p0,pr,hps⟩:∃ p0 pr,r.ps=p0::pr:=by
  cases h:r.ps with
  | nil=>rw [h] at hR';simp at hR'
  | cons a b=>exact⟨a,b,rfl⟩
 have hcl:some (1,List.map dPe r.ps)=some (1,dPe p0::List.map dPe pr):=by rw [hps];rfl
 have hfold:dPe p0::List.map dPe pr=List.map dPe r.ps:=by rw [hps];rfl
 have hlen:pr.length+1=r.ps.length:=by rw [hps];rfl
 have h24:(r.ps.length*24≤140737488355328)=True:=eq_true (by omega)
 have hwl:(wr (List.map dPe r.ps)).length=r.ps.length:=by rw [wr_pe,List.length_map]
 have e1:(m.kind == 1)=false:=by simp [m1]
 have e2:(m.kind == 2)=false:=by simp [m1]
 have e3:(m.kind == 3)=false:=by simp [m1]
 have e4:(m.kind == 4)=true:=by simp [m1]
 simp [m1,e1,e2,e3,e4]
 refine regS_path [] ?_
 simp
 rw [hcl]
 simp
 rw [hfold,hlen]
 simp only [h24,true_and]
 refine regS_path [] ?_
 simp
 refine icall_T (TF Tryz.prog a34) (hcall_of_vc c34) ?_
 simp [a34]
 have hD:=C544.lose r.net m.at_
 refine vc_pathD [.ret (.tup [dNw (lseN r.net m.at_),dI (atE r.net m.at_)])] ?_
 simp
 refine⟨hD,rfl,?_⟩
 by_cases e:atE r.net m.at_=0
 ·rw [e]
  refine vc_path [.ret (.tup [])] ?_
  simp
  refine⟨.need_t 0,?_⟩
  refine leave_fn (TR1 Tryz.prog a36) (dcall_of_vcR1 c36) ?_
  simp [TR1_eq,a36]
  rw [dRm,frz_agg]
  refine⟨?_,by simp⟩
  rw [frzL_cons,frzL_cons,frzL_cons,frzL_nil,frz_d,frz_d]
  exact⟨frz_rows (ag:=true) rfl dPe_z dPe_one (by simp),LeD.refl _,LeD.refl _,trivial⟩
 ·refine vc_path [.pan (tE (atE r.net m.at_))] ?_
  have hsd:((atE r.net m.at_ == 0)=false):=by simp [e]
  simp [hsd,e]
  refine⟨.need_f _,?_⟩
  refine leave_fn (TR1 Tryz.prog a36) (dcall_of_vcR1 c36) ?_
  simp [TR1_eq,a36,tE]
  exact leZRm
theorem sRepeat(r:Rm) (m:Mv) (hR:okRm r=true) (m1:m.kind=5):PCall Tryz.prog 12 [dRm r,dMv m] (.ret (.tup [dRm (if repE r.net m.at_≠0 then (zRm,repE r.net m.at_) else (⟨r.ps,repN r.net m.at_⟩,0)).1,dI (if repE r.net m.at_≠0 then (zRm,repE r.net m.at_) else (⟨r.ps,repN r.net m.at_⟩,0)).2])):=by
 have hC:=C544.chk r
 refine pcall_of_vcZ h544 c12 (by simp [a12]) 4 fun hr=>?_
 simp [a12]
 refine vc_path [.ret (dI (rmE r))] ?_
 rw [rmE_0 hR] at hC ⊢
 have hR':=okRm_iff.1 hR
 simp
 refine⟨hC,?_⟩
 obtain⟨p0,pr,hps⟩:∃ p0 pr,r.ps=p0::pr:=by
  cases h:r.ps with
  | nil=>rw [h] at hR';simp at hR'
  | cons a b=>exact⟨a,b,rfl⟩
 have hcl:some (1,List.map dPe r.ps)=some (1,dPe p0::List.map dPe pr):=by rw [hps];rfl
 have hfold:dPe p0::List.map dPe pr=List.map dPe r.ps:=by rw [hps];rfl
 have hlen:pr.length+1=r.ps.length:=by rw [hps];rfl
 have h24:(r.ps.length*24≤140737488355328)=True:=eq_true (by omega)
 have hwl:(wr (List.map dPe r.ps)).length=r.ps.length:=by rw [wr_pe,List.length_map]
 have e1:(m.kind == 1)=false:=by simp [m1]
 have e2:(m.kind == 2)=false:=by simp [m1]
 have e3:(m.kind == 3)=false:=by simp [m1]
 have e4:(m.kind == 4)=false:=by simp [m1]
 have e5:(m.kind == 5)=true:=by simp [m1]
 simp [m1,e1,e2,e3,e4,e5]
 refine regS_path [] ?_
 simp
 rw [hcl]
 simp
 rw [hfold,hlen]
 simp only [h24,true_and]
 refine regS_path [] ?_
 simp
 refine icall_T (TF Tryz.prog a35) (hcall_of_vc c35) ?_
 simp [a35]
 have hD:=C544.rep r.net m.at_
 refine vc_pathD [.ret (.tup [dNw (repN r.net m.at_),dI (repE r.net m.at_)])] ?_
 simp
 refine⟨hD,rfl,?_⟩
 by_cases e:repE r.net m.at_=0
 ·rw [e]
  refine vc_path [.ret (.tup [])] ?_
  simp
  refine⟨.need_t 0,?_⟩
  refine leave_fn (TR1 Tryz.prog a36) (dcall_of_vcR1 c36) ?_
  simp [TR1_eq,a36]
  rw [dRm,frz_agg]
  refine⟨?_,by simp⟩
  rw [frzL_cons,frzL_cons,frzL_cons,frzL_nil,frz_d,frz_d]
  exact⟨frz_rows (ag:=true) rfl dPe_z dPe_one (by simp),LeD.refl _,LeD.refl _,trivial⟩
 ·refine vc_path [.pan (tE (repE r.net m.at_))] ?_
  have hsd:((repE r.net m.at_ == 0)=false):=by simp [e]
  simp [hsd,e]
  refine⟨.need_f _,?_⟩
  refine leave_fn (TR1 Tryz.prog a36) (dcall_of_vcR1 c36) ?_
  simp [TR1_eq,a36,tE]
  exact leZRm
theorem sNone(r:Rm) (m:Mv) (hR:okRm r=true) (m1:¬ m.kind=1) (m2:¬ m.kind=2) (m3:¬ m.kind=3) (m4:¬ m.kind=4) (m5:¬ m.kind=5):PCall Tryz.prog 12 [dRm r,dMv m] (.ret (.tup [dRm (((zRm,1):Rm×Int)).1,dI (((zRm,1):Rm×Int)).2])):=by
 have hC:=C544.chk r
 refine pcall_of_vcZ h544 c12 (by simp [a12]) 4 fun hr=>?_
 simp [a12]
 refine vc_path [.ret (dI (rmE r))] ?_
 rw [rmE_0 hR] at hC ⊢
 have hR':=okRm_iff.1 hR
 simp
 refine⟨hC,?_⟩
 have e1:(m.kind == 1)=false:=by simp [m1]
 have e2:(m.kind == 2)=false:=by simp [m2]
 have e3:(m.kind == 3)=false:=by simp [m3]
 have e4:(m.kind == 4)=false:=by simp [m4]
 have e5:(m.kind == 5)=false:=by simp [m5]
 simp [e1,e2,e3,e4,e5]
 first | exact leZRm | exact⟨leZRm,leD_of_eq rfl⟩
theorem sDlv1(r:Rm) (m:Mv) (hR:okRm r=true) (m1:m.kind=3) (e:¬ atE r.net m.at_=0):PCall Tryz.prog 12 [dRm r,dMv m] (.ret (.tup [dRm (((zRm,atE r.net m.at_):Rm×Int)).1,dI (((zRm,atE r.net m.at_):Rm×Int)).2])):=by
 have hC:=C544.chk r
 refine pcall_of_vcZ h544 c12 (by simp [a12]) 4 fun hr=>?_
 simp [a12]
 refine vc_path [.ret (dI (rmE r))] ?_
 rw [rmE_0 hR] at hC ⊢
 have hR':=okRm_iff.1 hR
 simp
 refine⟨hC,?_⟩
 obtain⟨p0,pr,hps⟩:∃ p0 pr,r.ps=p0::pr:=by
  cases h:r.ps with
  | nil=>rw [h] at hR';simp at hR'
  | cons a b=>exact⟨a,b,rfl⟩
 have hcl:some (1,List.map dPe r.ps)=some (1,dPe p0::List.map dPe pr):=by rw [hps];rfl
 have hfold:dPe p0::List.map dPe pr=List.map dPe r.ps:=by rw [hps];rfl
 have hlen:pr.length+1=r.ps.length:=by rw [hps];rfl
 have h24:(r.ps.length*24≤140737488355328)=True:=eq_true (by omega)
 have hwl:(wr (List.map dPe r.ps)).length=r.ps.length:=by rw [wr_pe,List.length_map]
 have e1:(m.kind == 1)=false:=by simp [m1]
 have e2:(m.kind == 2)=false:=by simp [m1]
 have e3:(m.kind == 3)=true:=by simp [m1]
 simp [m1,e1,e2,e3]
 refine regS_path [] ?_
 simp
 rw [hcl]
 simp
 rw [hfold,hlen]
 simp only [h24,true_and]
 refine regS_path [] ?_
 simp
 refine icall_T (TF Tryz.prog a33) (hcall_of_vc c33) ?_
 simp [a33]
 have hD:=C544.dlv r.net m.at_
 refine vc_pathD [.ret (.tup [dPc (dlvP r.net m.at_),dNw (lseN r.net m.at_),dI (atE r.net m.at_)])] ?_
 simp
 refine⟨hD,rfl,?_⟩
 refine vc_path [.pan (tE (atE r.net m.at_))] ?_
 have hsd:((atE r.net m.at_ == 0)=false):=by simp [e]
 simp [hsd]
 refine⟨.need_f _,?_⟩
 refine leave_fn (TR1 Tryz.prog a36) (dcall_of_vcR1 c36) ?_
 simp [TR1_eq,a36,tE]
 exact leZRm
theorem sDlv2(r:Rm) (m:Mv) (hR:okRm r=true) (m1:m.kind=3) (e:atE r.net m.at_=0) (qab:(dlvP r.net m.at_).a=(dlvP r.net m.at_).b):PCall Tryz.prog 12 [dRm r,dMv m] (.ret (.tup [dRm (((⟨r.ps,lseN r.net m.at_⟩,0):Rm×Int)).1,dI (((⟨r.ps,lseN r.net m.at_⟩,0):Rm×Int)).2])):=by
 have hC:=C544.chk r
 refine pcall_of_vcZ h544 c12 (by simp [a12]) 4 fun hr=>?_
 simp [a12]
 refine vc_path [.ret (dI (rmE r))] ?_
 rw [rmE_0 hR] at hC ⊢
 have hR':=okRm_iff.1 hR
 simp
 refine⟨hC,?_⟩
 obtain⟨p0,pr,hps⟩:∃ p0 pr,r.ps=p0::pr:=by
  cases h:r.ps with
  | nil=>rw [h] at hR';simp at hR'
  | cons a b=>exact⟨a,b,rfl⟩
 have hcl:some (1,List.map dPe r.ps)=some (1,dPe p0::List.map dPe pr):=by rw [hps];rfl
 have hfold:dPe p0::List.map dPe pr=List.map dPe r.ps:=by rw [hps];rfl
 have hlen:pr.length+1=r.ps.length:=by rw [hps];rfl
 have h24:(r.ps.length*24≤140737488355328)=True:=eq_true (by omega)
 have hwl:(wr (List.map dPe r.ps)).length=r.ps.length:=by rw [wr_pe,List.length_map]
 have e1:(m.kind == 1)=false:=by simp [m1]
 have e2:(m.kind == 2)=false:=by simp [m1]
 have e3:(m.kind == 3)=true:=by simp [m1]
 simp [m1,e1,e2,e3]
 refine regS_path [] ?_
 simp
 rw [hcl]
 simp
 rw [hfold,hlen]
 simp only [h24,true_and]
 refine regS_path [] ?_
 simp
 refine icall_T (TF Tryz.prog a33) (hcall_of_vc c33) ?_
 simp [a33]
 have hD:=C544.dlv r.net m.at_
 refine vc_pathD [.ret (.tup [dPc (dlvP r.net m.at_),dNw (lseN r.net m.at_),dI (atE r.net m.at_)])] ?_
 simp
 refine⟨hD,rfl,?_⟩
 rw [e]
 refine vc_path [.ret (.tup [])] ?_
 simp [qab]
 refine⟨.need_t 0,?_⟩
 refine leave_fn (TR1 Tryz.prog a36) (dcall_of_vcR1 c36) ?_
 simp [TR1_eq,a36]
 rw [dRm,frz_agg]
 refine⟨?_,by simp⟩
 rw [frzL_cons,frzL_cons,frzL_cons,frzL_nil,frz_d,frz_d]
 exact⟨frz_rows (ag:=true) rfl dPe_z dPe_one (by simp),LeD.refl _,LeD.refl _,trivial⟩
theorem sDlv3(r:Rm) (m:Mv) (hR:okRm r=true) (m1:m.kind=3) (e:atE r.net m.at_=0) (qab:¬ (dlvP r.net m.at_).a=(dlvP r.net m.at_).b) (n:Nt) (hn:readB (dlvP r.net m.at_).p=some n) (q2:okNt n=true) (i:Nat) (hi:(dlvP r.net m.at_).b=i) (p3:i<r.ps.length) (hfd:r.ps[i][posN r.ps[i] n]?=some n):PCall Tryz.prog 12 [dRm r,dMv m] (.ret (.tup [dRm (((⟨r.ps,lseN r.net m.at_⟩,0):Rm×Int)).1,dI (((⟨r.ps,lseN r.net m.at_⟩,0):Rm×Int)).2])):=by
 have hC:=C544.chk r
 refine pcall_of_vcZ h544 c12 (by simp [a12]) 4 fun hr=>?_
 simp [a12]
 refine vc_path [.ret (dI (rmE r))] ?_
 rw [rmE_0 hR] at hC ⊢
 have hR':=okRm_iff.1 hR
 simp
 refine⟨hC,?_⟩
 obtain⟨p0,pr,hps⟩:∃ p0 pr,r.ps=p0::pr:=by
  cases h:r.ps with
  | nil=>rw [h] at hR';simp at hR'
  | cons a b=>exact⟨a,b,rfl⟩
 have hcl:some (1,List.map dPe r.ps)=some (1,dPe p0::List.map dPe pr):=by rw [hps];rfl
 have hfold:dPe p0::List.map dPe pr=List.map dPe r.ps:=by rw [hps];rfl
 have hlen:pr.length+1=r.ps.length:=by rw [hps];rfl
 have h24:(r.ps.length*24≤140737488355328)=True:=eq_true (by omega)
 have hwl:(wr (List.map dPe r.ps)).length=r.ps.length:=by rw [wr_pe,List.length_map]
 have e1:(m.kind == 1)=false:=by simp [m1]
 have e2:(m.kind == 2)=false:=by simp [m1]
 have e3:(m.kind == 3)=true:=by simp [m1]
 simp [m1,e1,e2,e3]
 refine regS_path [] ?_
 simp
 rw [hcl]
 simp
 rw [hfold,hlen]
 simp only [h24,true_and]
 refine regS_path [] ?_
 simp
 refine icall_T (TF Tryz.prog a33) (hcall_of_vc c33) ?_
 simp [a33]
 have hD:=C544.dlv r.net m.at_
 refine vc_pathD [.ret (.tup [dPc (dlvP r.net m.at_),dNw (lseN r.net m.at_),dI (atE r.net m.at_)])] ?_
 simp
 refine⟨hD,rfl,?_⟩
 rw [e]
 refine vc_path [.ret (.tup [])] ?_
 simp [qab]
 refine⟨.need_t 0,?_⟩
 obtain⟨k1,k2⟩:=dlv_ok hR qab
 obtain⟨k3,k4,k5⟩:=okPc_len k1
 have hB:=C544.rd (dlvP r.net m.at_).p k3
 rw [sRdN_eq hn,hn] at hB
 refine vc_path [.ret (.tup [dNt n,dB true])] ?_
 simp
 refine⟨hB,?_⟩
 refine regS_path [] ?_
 simp
 rw [hi]
 refine icall_T (TF Tryz.prog a70) (hcall_of_vc c70) ?_
 have hwg:(wr (List.map dPe r.ps))[i]?=some (.d (.sl 7 (r.ps[i].map dNt))):=by rw [wr_pe];simp [p3]
 simp [a70,p3]
 have hpe:=okPe_iff.1 (hR'.2.2.2.1 _ (List.getElem_mem p3))
 have hS:=C544.search r.ps[i] n hpe.1 q2 (by omega)
 have hpl:=(posN_spec (okNs_pw hpe.1) n).1
 refine vc_pathD [.ret (.tup [dI (posN r.ps[i] n),dB (decide (r.ps[i][posN r.ps[i] n]?=some n))])] ?_
 have hfl:(D.flat (r.ps.map dPe)).length=r.ps.length*1:=by rw [flat_len (sz:=1) (by simp)];simp
 simp [hfd] at hS
 simp [hwg,hfd]
 refine⟨by omega,hS,rfl,?_⟩
 refine leave_fn (TR1 Tryz.prog a36) (dcall_of_vcR1 c36) ?_
 simp [TR1_eq,a36]
 rw [dRm,frz_agg]
 refine⟨?_,by simp⟩
 rw [frzL_cons,frzL_cons,frzL_cons,frzL_nil,frz_d,frz_d]
 exact⟨frz_rows (ag:=true) rfl dPe_z dPe_one (by simp),LeD.refl _,LeD.refl _,trivial⟩
theorem sDlv4(r:Rm) (m:Mv) (hR:okRm r=true) (m1:m.kind=3) (e:atE r.net m.at_=0) (qab:¬ (dlvP r.net m.at_).a=(dlvP r.net m.at_).b) (n:Nt) (hn:readB (dlvP r.net m.at_).p=some n) (q2:okNt n=true) (i:Nat) (hi:(dlvP r.net m.at_).b=i) (p3:i<r.ps.length) (hfd:¬ r.ps[i][posN r.ps[i] n]?=some n) (h4:r.ps[i].length=4096):PCall Tryz.prog 12 [dRm r,dMv m] (.ret (.tup [dRm (((zRm,2):Rm×Int)).1,dI (((zRm,2):Rm×Int)).2])):=by
 have hC:=C544.chk r
 refine pcall_of_vcZ h544 c12 (by simp [a12]) 4 fun hr=>?_
 simp [a12]
 refine vc_path [.ret (dI (rmE r))] ?_
 rw [rmE_0 hR] at hC ⊢
 have hR':=okRm_iff.1 hR
 simp
 refine⟨hC,?_⟩
 obtain⟨p0,pr,hps⟩:∃ p0 pr,r.ps=p0::pr:=by
  cases h:r.ps with
  | nil=>rw [h] at hR';simp at hR'
  | cons a b=>exact⟨a,b,rfl⟩
 have hcl:some (1,List.map dPe r.ps)=some (1,dPe p0::List.map dPe pr):=by rw [hps];rfl
 have hfold:dPe p0::List.map dPe pr=List.map dPe r.ps:=by rw [hps];rfl
 have hlen:pr.length+1=r.ps.length:=by rw [hps];rfl
 have h24:(r.ps.length*24≤140737488355328)=True:=eq_true (by omega)
 have hwl:(wr (List.map dPe r.ps)).length=r.ps.length:=by rw [wr_pe,List.length_map]
 have e1:(m.kind == 1)=false:=by simp [m1]
 have e2:(m.kind == 2)=false:=by simp [m1]
 have e3:(m.kind == 3)=true:=by simp [m1]
 simp [m1,e1,e2,e3]
 refine regS_path [] ?_
 simp
 rw [hcl]
 simp
 rw [hfold,hlen]
 simp only [h24,true_and]
 refine regS_path [] ?_
 simp
 refine icall_T (TF Tryz.prog a33) (hcall_of_vc c33) ?_
 simp [a33]
 have hD:=C544.dlv r.net m.at_
 refine vc_pathD [.ret (.tup [dPc (dlvP r.net m.at_),dNw (lseN r.net m.at_),dI (atE r.net m.at_)])] ?_
 simp
 refine⟨hD,rfl,?_⟩
 rw [e]
 refine vc_path [.ret (.tup [])] ?_
 simp [qab]
 refine⟨.need_t 0,?_⟩
 obtain⟨k1,k2⟩:=dlv_ok hR qab
 obtain⟨k3,k4,k5⟩:=okPc_len k1
 have hB:=C544.rd (dlvP r.net m.at_).p k3
 rw [sRdN_eq hn,hn] at hB
 refine vc_path [.ret (.tup [dNt n,dB true])] ?_
 simp
 refine⟨hB,?_⟩
 refine regS_path [] ?_
 simp
 rw [hi]
 refine icall_T (TF Tryz.prog a70) (hcall_of_vc c70) ?_
 have hwg:(wr (List.map dPe r.ps))[i]?=some (.d (.sl 7 (r.ps[i].map dNt))):=by rw [wr_pe];simp [p3]
 simp [a70,p3]
 have hpe:=okPe_iff.1 (hR'.2.2.2.1 _ (List.getElem_mem p3))
 have hS:=C544.search r.ps[i] n hpe.1 q2 (by omega)
 have hpl:=(posN_spec (okNs_pw hpe.1) n).1
 refine vc_pathD [.ret (.tup [dI (posN r.ps[i] n),dB (decide (r.ps[i][posN r.ps[i] n]?=some n))])] ?_
 have hfl:(D.flat (r.ps.map dPe)).length=r.ps.length*1:=by rw [flat_len (sz:=1) (by simp)];simp
 simp [hfd] at hS
 simp [hwg,hfd]
 refine⟨by omega,hS,rfl,?_⟩
 have h4i:decide ((r.ps[i].length:Int)<4096)=false:=decide_eq_false (by omega)
 refine vc_path [.pan (tE 2)] ?_
 simp [hwg,h4i]
 refine⟨by omega,.need_f 2,?_⟩
 refine leave_fn (TR1 Tryz.prog a36) (dcall_of_vcR1 c36) ?_
 simp [TR1_eq,a36,tE]
 exact leZRm
theorem sDlv5(r:Rm) (m:Mv) (hR:okRm r=true) (m1:m.kind=3) (e:atE r.net m.at_=0) (qab:¬ (dlvP r.net m.at_).a=(dlvP r.net m.at_).b) (n:Nt) (hn:readB (dlvP r.net m.at_).p=some n) (q2:okNt n=true) (i:Nat) (hi:(dlvP r.net m.at_).b=i) (p3:i<r.ps.length) (hfd:¬ r.ps[i][posN r.ps[i] n]?=some n) (h4:¬ r.ps[i].length=4096) (h0:r.ps[i]=[]):PCall Tryz.prog 12 [dRm r,dMv m] (.ret (.tup [dRm (((⟨r.ps.set i (lrnL r.ps[i] n),lseN r.net m.at_⟩,0):Rm×Int)).1,dI (((⟨r.ps.set i (lrnL r.ps[i] n),lseN r.net m.at_⟩,0):Rm×Int)).2])):=by
 have hC:=C544.chk r
 refine pcall_of_vcZ h544 c12 (by simp [a12]) 4 fun hr=>?_
 simp [a12]
 refine vc_path [.ret (dI (rmE r))] ?_
 rw [rmE_0 hR] at hC ⊢
 have hR':=okRm_iff.1 hR
 simp
 refine⟨hC,?_⟩
 obtain⟨p0,pr,hps⟩:∃ p0 pr,r.ps=p0::pr:=by
  cases h:r.ps with
  | nil=>rw [h] at hR';simp at hR'
  | cons a b=>exact⟨a,b,rfl⟩
 have hcl:some (1,List.map dPe r.ps)=some (1,dPe p0::List.map dPe pr):=by rw [hps];rfl
 have hfold:dPe p0::List.map dPe pr=List.map dPe r.ps:=by rw [hps];rfl
 have hlen:pr.length+1=r.ps.length:=by rw [hps];rfl
 have h24:(r.ps.length*24≤140737488355328)=True:=eq_true (by omega)
 have hwl:(wr (List.map dPe r.ps)).length=r.ps.length:=by rw [wr_pe,List.length_map]
 have e1:(m.kind == 1)=false:=by simp [m1]
 have e2:(m.kind == 2)=false:=by simp [m1]
 have e3:(m.kind == 3)=true:=by simp [m1]
 simp [m1,e1,e2,e3]
 refine regS_path [] ?_
 simp
 rw [hcl]
 simp
 rw [hfold,hlen]
 simp only [h24,true_and]
 refine regS_path [] ?_
 simp
 refine icall_T (TF Tryz.prog a33) (hcall_of_vc c33) ?_
 simp [a33]
 have hD:=C544.dlv r.net m.at_
 refine vc_pathD [.ret (.tup [dPc (dlvP r.net m.at_),dNw (lseN r.net m.at_),dI (atE r.net m.at_)])] ?_
 simp
 refine⟨hD,rfl,?_⟩
 rw [e]
 refine vc_path [.ret (.tup [])] ?_
 simp [qab]
 refine⟨.need_t 0,?_⟩
 obtain⟨k1,k2⟩:=dlv_ok hR qab
 obtain⟨k3,k4,k5⟩:=okPc_len k1
 have hB:=C544.rd (dlvP r.net m.at_).p k3
 rw [sRdN_eq hn,hn] at hB
 refine vc_path [.ret (.tup [dNt n,dB true])] ?_
 simp
 refine⟨hB,?_⟩
 refine regS_path [] ?_
 simp
 rw [hi]
 refine icall_T (TF Tryz.prog a70) (hcall_of_vc c70) ?_
 have hwg:(wr (List.map dPe r.ps))[i]?=some (.d (.sl 7 (r.ps[i].map dNt))):=by rw [wr_pe];simp [p3]
 simp [a70,p3]
 have hpe:=okPe_iff.1 (hR'.2.2.2.1 _ (List.getElem_mem p3))
 have hS:=C544.search r.ps[i] n hpe.1 q2 (by omega)
 have hpl:=(posN_spec (okNs_pw hpe.1) n).1
 refine vc_pathD [.ret (.tup [dI (posN r.ps[i] n),dB (decide (r.ps[i][posN r.ps[i] n]?=some n))])] ?_
 have hfl:(D.flat (r.ps.map dPe)).length=r.ps.length*1:=by rw [flat_len (sz:=1) (by simp)];simp
 simp [hfd] at hS
 simp [hwg,hfd]
 refine⟨by omega,hS,rfl,?_⟩
 have h4i:decide ((r.ps[i].length:Int)<4096)=true:=decide_eq_true (by omega)
 refine vc_path [.ret (.tup [])] ?_
 simp [hwg,h4i]
 refine⟨by omega,.need_t 2,by omega,?_⟩
 have hW:=wr_pe_set r.ps i (lrnL r.ps[i] n)
 have eL:lrnL r.ps[i] n=r.ps[i].take (posN r.ps[i] n)++n::r.ps[i].drop (posN r.ps[i] n):=by unfold lrnL;rw [if_neg hfd,if_neg h4]
 have hbl:r.ps[i].length<4096:=by omega
 have hel1:elsD 7 1 (D.flat [.agg [.lit (.int .i64 n.lang),.lit (.int .i64 n.seq),.lit (.int .i64 n.ch.at_),.lit (.int .i64 n.ch.kind),.lit (.int .i64 n.ch.sp.id),.lit (.int .i64 n.ch.sp.ver),dZ n.ch.sp.tx]])=[dNt n]:=rfl
 generalize hPS:r.ps.set i (lrnL r.ps[i] n)=PS at *
 have hPL:PS.length=r.ps.length:=by rw [← hPS,List.length_set]
 generalize hL:r.ps[i]=L at *
 subst h0
 simp
 refine⟨⟨rfl,Nat.le_refl _⟩,by omega,rfl,?_⟩
 have hY:[dNt n]=(lrnL [] n).map dNt:=by rw [eL];rfl
 rw [hel1,hY,hW]
 refine leave_fn (TR1 Tryz.prog a36) (dcall_of_vcR1 c36) ?_
 simp [TR1_eq,a36]
 rw [dRm,frz_agg]
 refine⟨?_,by simp⟩
 rw [frzL_cons,frzL_cons,frzL_cons,frzL_nil,frz_d,frz_d]
 exact⟨frz_rows (ag:=true) rfl dPe_z dPe_one (by first | (simp;done) | (simp [hPL];done)),LeD.refl _,LeD.refl _,trivial⟩
theorem sDlv6(r:Rm) (m:Mv) (hR:okRm r=true) (m1:m.kind=3) (e:atE r.net m.at_=0) (qab:¬ (dlvP r.net m.at_).a=(dlvP r.net m.at_).b) (n:Nt) (hn:readB (dlvP r.net m.at_).p=some n) (q2:okNt n=true) (i:Nat) (hi:(dlvP r.net m.at_).b=i) (p3:i<r.ps.length) (hfd:¬ r.ps[i][posN r.ps[i] n]?=some n) (h4:¬ r.ps[i].length=4096) (h0:¬ r.ps[i]=[]):PCall Tryz.prog 12 [dRm r,dMv m] (.ret (.tup [dRm (((⟨r.ps.set i (lrnL r.ps[i] n),lseN r.net m.at_⟩,0):Rm×Int)).1,dI (((⟨r.ps.set i (lrnL r.ps[i] n),lseN r.net m.at_⟩,0):Rm×Int)).2])):=by
 have hC:=C544.chk r
 refine pcall_of_vcZ h544 c12 (by simp [a12]) 4 fun hr=>?_
 simp [a12]
 refine vc_path [.ret (dI (rmE r))] ?_
 rw [rmE_0 hR] at hC ⊢
 have hR':=okRm_iff.1 hR
 simp
 refine⟨hC,?_⟩
 obtain⟨p0,pr,hps⟩:∃ p0 pr,r.ps=p0::pr:=by
  cases h:r.ps with
  | nil=>rw [h] at hR';simp at hR'
  | cons a b=>exact⟨a,b,rfl⟩
 have hcl:some (1,List.map dPe r.ps)=some (1,dPe p0::List.map dPe pr):=by rw [hps];rfl
 have hfold:dPe p0::List.map dPe pr=List.map dPe r.ps:=by rw [hps];rfl
 have hlen:pr.length+1=r.ps.length:=by rw [hps];rfl
 have h24:(r.ps.length*24≤140737488355328)=True:=eq_true (by omega)
 have hwl:(wr (List.map dPe r.ps)).length=r.ps.length:=by rw [wr_pe,List.length_map]
 have e1:(m.kind == 1)=false:=by simp [m1]
 have e2:(m.kind == 2)=false:=by simp [m1]
 have e3:(m.kind == 3)=true:=by simp [m1]
 simp [m1,e1,e2,e3]
 refine regS_path [] ?_
 simp
 rw [hcl]
 simp
 rw [hfold,hlen]
 simp only [h24,true_and]
 refine regS_path [] ?_
 simp
 refine icall_T (TF Tryz.prog a33) (hcall_of_vc c33) ?_
 simp [a33]
 have hD:=C544.dlv r.net m.at_
 refine vc_pathD [.ret (.tup [dPc (dlvP r.net m.at_),dNw (lseN r.net m.at_),dI (atE r.net m.at_)])] ?_
 simp
 refine⟨hD,rfl,?_⟩
 rw [e]
 refine vc_path [.ret (.tup [])] ?_
 simp [qab]
 refine⟨.need_t 0,?_⟩
 obtain⟨k1,k2⟩:=dlv_ok hR qab
 obtain⟨k3,k4,k5⟩:=okPc_len k1
 have hB:=C544.rd (dlvP r.net m.at_).p k3
 rw [sRdN_eq hn,hn] at hB
 refine vc_path [.ret (.tup [dNt n,dB true])] ?_
 simp
 refine⟨hB,?_⟩
 refine regS_path [] ?_
 simp
 rw [hi]
 refine icall_T (TF Tryz.prog a70) (hcall_of_vc c70) ?_
 have hwg:(wr (List.map dPe r.ps))[i]?=some (.d (.sl 7 (r.ps[i].map dNt))):=by rw [wr_pe];simp [p3]
 simp [a70,p3]
 have hpe:=okPe_iff.1 (hR'.2.2.2.1 _ (List.getElem_mem p3))
 have hS:=C544.search r.ps[i] n hpe.1 q2 (by omega)
 have hpl:=(posN_spec (okNs_pw hpe.1) n).1
 refine vc_pathD [.ret (.tup [dI (posN r.ps[i] n),dB (decide (r.ps[i][posN r.ps[i] n]?=some n))])] ?_
 have hfl:(D.flat (r.ps.map dPe)).length=r.ps.length*1:=by rw [flat_len (sz:=1) (by simp)];simp
 simp [hfd] at hS
 simp [hwg,hfd]
 refine⟨by omega,hS,rfl,?_⟩
 have h4i:decide ((r.ps[i].length:Int)<4096)=true:=decide_eq_true (by omega)
 refine vc_path [.ret (.tup [])] ?_
 simp [hwg,h4i]
 refine⟨by omega,.need_t 2,by omega,?_⟩
 have hW:=wr_pe_set r.ps i (lrnL r.ps[i] n)
 have eL:lrnL r.ps[i] n=r.ps[i].take (posN r.ps[i] n)++n::r.ps[i].drop (posN r.ps[i] n):=by unfold lrnL;rw [if_neg hfd,if_neg h4]
 have hbl:r.ps[i].length<4096:=by omega
 have hel1:elsD 7 1 (D.flat [.agg [.lit (.int .i64 n.lang),.lit (.int .i64 n.seq),.lit (.int .i64 n.ch.at_),.lit (.int .i64 n.ch.kind),.lit (.int .i64 n.ch.sp.id),.lit (.int .i64 n.ch.sp.ver),dZ n.ch.sp.tx]])=[dNt n]:=rfl
 generalize hPS:r.ps.set i (lrnL r.ps[i] n)=PS at *
 have hPL:PS.length=r.ps.length:=by rw [← hPS,List.length_set]
 generalize hL:r.ps[i]=L at *
 obtain⟨a,b,rfl⟩:∃ a b,L=a::b:=by cases L with
  | nil=>exact absurd rfl h0
  | cons a b=>exact⟨a,b,rfl⟩
 have hfa:(D.flat (dNt a::b.map dNt)).length=(b.length+1)*7:=flat_nts (a::b)
 have hela:elsD 7 (b.length+1) (D.flat (dNt a::b.map dNt))=(a::b).map dNt:=elsD_nts (a::b)
 have hY:List.take (posN (a::b) n) ((a::b).map dNt)++([dNt n]++List.drop (posN (a::b) n) ((a::b).map dNt))=(lrnL (a::b) n).map dNt:=by
  rw [eL,List.map_append,List.map_take,List.map_cons (f:=dNt) (a:=n),List.map_drop,List.singleton_append]
 have hpl2:posN (a::b) n≤b.length+1:=hpl
 have hbl2:b.length+1<4096:=hbl
 have hi1:i+1≤(D.flat (List.map dPe r.ps)).length:=by rw [hfl];omega
 clear hbl hpl h4i h4 hfd eL
 have g2:(b.length+1)*7≤(D.flat (dNt a::b.map dNt)).length:=Nat.le_of_eq hfa.symm
 clear hfa
 have hb:(b.length+1)*64≤140737488355328:=lem_a hbl2
 have g1:((posN (a::b) n:Nat):Int)≤(b.length:Int)+1:=lem_b hpl2
 have g3:(b.length+1+1)*64≤140737488355328:=lem_c hbl2
 have g4:b.length≤9223372036854775805:=lem_d hbl2
 simp [hb]
 refine⟨⟨g1,⟨g2,Nat.le_refl _⟩,g3,g4⟩,hi1,rfl,?_⟩
 rw [hela,hel1,hY,hW]
 refine leave_fn (TR1 Tryz.prog a36) (dcall_of_vcR1 c36) ?_
 simp [TR1_eq,a36]
 rw [dRm,frz_agg]
 refine⟨?_,by simp⟩
 rw [frzL_cons,frzL_cons,frzL_cons,frzL_nil,frz_d,frz_d]
 exact⟨frz_rows (ag:=true) rfl dPe_z dPe_one (by first | (simp;done) | (simp [hPL];done)),LeD.refl _,LeD.refl _,trivial⟩
theorem sBad(r:Rm) (m:Mv) (hR:¬ okRm r=true):PCall Tryz.prog 12 [dRm r,dMv m] (.ret (.tup [dRm zRm,dI 530])):=by
 have hC:=C544.chk r
 refine pcall_of_vcZ h544 c12 (by simp [a12]) 4 fun hr=>?_
 simp [a12]
 refine vc_path [.ret (dI (rmE r))] ?_
 rw [rmE_530 hR] at hC ⊢
 simp
 exact⟨hC,leZRm⟩
def smR (r:Rm):Prop:=r.net.q.length≤2000∧∀ l∈r.ps,l.length≤1000
theorem sDo(r:Rm) (m:Mv) (hs:smR r):PCall Tryz.prog 12 [dRm r,dMv m] (.ret (.tup [dRm (mvR r m).1,dI (mvR r m).2])):=by
 by_cases hR:okRm r=true
 case neg =>
  have e:mvR r m=(zRm,530):=by unfold mvR;rw [if_pos (by simpa using hR)]
  rw [e]
  exact sBad r m hR
 rw [mvR_eq r m hR]
 obtain⟨g1,g2,g3,g4,g5⟩:=okRm_iff.1 hR
 by_cases m1:m.kind=1
 ·rw [if_pos m1]
  unfold tellX
  cases q1:inR r m.peer with
  | false=>exact sTell1 r m hR m1 q1
  | true =>
   cases q2:okNt m.note with
   | false=>exact sTell2 r m hR m1 q1 q2
   | true =>
    obtain⟨p1,p2⟩:=inR_iff.1 q1
    obtain⟨i,hi⟩:∃ i:Nat,m.peer=i:=⟨m.peer.toNat,by omega⟩
    have p3:i<r.ps.length:=by omega
    have hq:r.net.q.length≤4000:=by have:=hs.1;omega
    rw [if_neg (by simp),if_neg (by simp),hi,Int.toNat_natCast,tellR_eq p3]
    by_cases hfd:r.ps[i][posN r.ps[i] m.note]?=some m.note
    ·have e:lrnE r.ps[i] m.note=0:=by unfold lrnE;rw [if_pos hfd]
     have eL:lrnL r.ps[i] m.note=r.ps[i]:=by unfold lrnL;rw [if_pos hfd]
     rw [if_pos e,eL,List.set_getElem_self]
     exact sTell3 r m hR hq m1 q1 q2 i hi p3 hfd
    ·by_cases h4:r.ps[i].length=4096
     ·have e:lrnE r.ps[i] m.note=2:=by unfold lrnE;rw [if_neg hfd,if_pos h4]
      rw [e]
      exact sTell4 r m hR hq m1 q1 q2 i hi p3 hfd h4
     ·have e:lrnE r.ps[i] m.note=0:=by unfold lrnE;rw [if_neg hfd,if_neg h4]
      rw [if_pos e]
      by_cases h0:r.ps[i]=[]
      ·exact sTell5 r m hR hq m1 q1 q2 i hi p3 hfd h4 h0
      ·exact sTell6 r m hR hq m1 q1 q2 i hi p3 hfd h4 h0
 rw [if_neg m1]
 by_cases m2:m.kind=2
 ·rw [if_pos m2]
  unfold syncX
  cases q0:inR r m.peer with
  | false=>exact sSync1 r m hR m2 q0
  | true =>
   cases q1:inR r m.to with
   | false=>exact sSync2 r m hR m2 q0 q1
   | true =>
    by_cases qe:m.peer=m.to
    ·rw [if_pos (.inr qe)]
     exact sSync3 r m hR m2 q0 q1 qe
    ·obtain⟨p1,p2⟩:=inR_iff.1 q0
     obtain⟨p3,p4⟩:=inR_iff.1 q1
     obtain⟨i,hi⟩:∃ i:Nat,m.peer=i:=⟨m.peer.toNat,by omega⟩
     obtain⟨k,hk⟩:∃ i:Nat,m.to=i:=⟨m.to.toNat,by omega⟩
     have p5:i<r.ps.length:=by omega
     have p6:k<r.ps.length:=by omega
     have hq:r.net.q.length+r.ps[i].length≤4000:=by
      have:=hs.1;have:=hs.2 _ (List.getElem_mem p5);omega
     rw [if_neg (by rintro(h | h);cases h;exact qe h),hi,hk,Int.toNat_natCast,Int.toNat_natCast,syncR_eq p5]
     exact sSync4 r m hR m2 q0 q1 qe i k hi hk p5 p6 hq
 rw [if_neg m2]
 by_cases m3:m.kind=3
 ·rw [if_pos m3]
  unfold dlvR
  by_cases e:atE r.net m.at_=0
  case neg =>
   rw [if_pos e]
   exact sDlv1 r m hR m3 e
  rw [if_neg (fun h=>h e)]
  simp only
  by_cases qab:(dlvP r.net m.at_).a=(dlvP r.net m.at_).b
  ·rw [if_pos qab]
   exact sDlv2 r m hR m3 e qab
  ·rw [if_neg qab]
   obtain⟨k1,k2⟩:=dlv_ok hR qab
   obtain⟨k3,k4,k5⟩:=okPc_len k1
   obtain⟨k6,k7,k8⟩:=okPq_iff.1 k2
   obtain⟨n,hn⟩:=Option.isSome_iff_exists.1 k6
   have q2:=readB_ok hn
   obtain⟨i,hi⟩:∃ i:Nat,(dlvP r.net m.at_).b=i:=⟨(dlvP r.net m.at_).b.toNat,by omega⟩
   have p3:i<r.ps.length:=by omega
   rw [hn,hi,Int.toNat_natCast,List.getElem?_eq_getElem p3]
   simp only
   by_cases hfd:r.ps[i][posN r.ps[i] n]?=some n
   ·have e1:lrnE r.ps[i] n=0:=by unfold lrnE;rw [if_pos hfd]
    have eL:lrnL r.ps[i] n=r.ps[i]:=by unfold lrnL;rw [if_pos hfd]
    rw [if_neg (fun h=>h e1),eL,List.set_getElem_self]
    exact sDlv3 r m hR m3 e qab n hn q2 i hi p3 hfd
   ·by_cases h4:r.ps[i].length=4096
    ·have e1:lrnE r.ps[i] n=2:=by unfold lrnE;rw [if_neg hfd,if_pos h4]
     rw [e1]
     exact sDlv4 r m hR m3 e qab n hn q2 i hi p3 hfd h4
    ·have e1:lrnE r.ps[i] n=0:=by unfold lrnE;rw [if_neg hfd,if_neg h4]
     rw [if_neg (fun h=>h e1)]
     by_cases h0:r.ps[i]=[]
     ·exact sDlv5 r m hR m3 e qab n hn q2 i hi p3 hfd h4 h0
     ·exact sDlv6 r m hR m3 e qab n hn q2 i hi p3 hfd h4 h0
 rw [if_neg m3]
 by_cases m4:m.kind=4
 ·rw [if_pos m4]
  exact sLose r m hR m4
 rw [if_neg m4]
 by_cases m5:m.kind=5
 ·rw [if_pos m5]
  exact sRepeat r m hR m5
 rw [if_neg m5]
 exact sNone r m hR m1 m2 m3 m4 m5
end

section
attribute [local simp] dZ_agg dZ_nt dZ_noTup dZ_cells dZ_one bz_toList bz_size strV dSp_cells dSp_isAgg dSp_noTup dSp_nt dCh_cells dCh_isAgg dCh_noTup dCh_nt dNt_cells dNt_isAgg dNt_noTup dNt_nt dPe_cells dPe_isAgg dPe_noTup dPe_nt dRm_cells dRm_isAgg dRm_noTup dRm_nt dPc_cells dPc_agg dPc_noTup dNw_cells dNw_agg dNw_noTup dMv_cells dMv_isAgg dMv_noTup dMv_nt
set_option maxRecDepth 8000
set_option maxHeartbeats 4000000
inductive C558:FuncId→List D→Out→Prop
 | new1:C558 43 [] (.ret (dNw ⟨[],[]⟩))
 | new2:C558 44 [] (.ret (dNw ⟨[],[]⟩))
theorem h558:∀ f ds out,C558 f ds out→PCall Tryz.prog f ds out:=by
 intro f ds out h
 cases h with
 | new1=>exact nwNew1
 | new2=>exact nwNew2
theorem all2New:∀ k:Nat,All2 LeD (D.flat (List.replicate k (.agg [.nil 7]))) (D.flat ((List.replicate k ([]:List Nt)).map dPe))
 | 0=>.nil
 | k+1=>.cons (LeD.nil' 7 7) (all2New k)
theorem leNewPs(k:Nat):LeD (.sl 1 (List.replicate k (.agg [.nil 7]))) (.sl 1 ((List.replicate k ([]:List Nt)).map dPe)):=LeD_slx (all2New k) (by simp) dPe_z dPe_one
theorem sNew(n:Int):PCall Tryz.prog 14 [dI n] (.ret (.tup [dRm (newR n).1,dI (newR n).2])):=by
 refine pcall_of_vcZ h558 c14 (by simp [a14]) 4 fun hr=>?_
 simp [a14]
 refine vc_path [] ?_
 unfold newR
 by_cases q1:n<1
 ·rw [if_pos (.inl q1)]
  simp [q1]
  exact leZRm
 ·by_cases q2:24<n
  ·rw [if_pos (.inr q2)]
   simp [q1,q2]
   exact leZRm
  ·rw [if_neg (by omega)]
   simp [q1,q2]
   refine vc_pathD [.ret (dNw ⟨[],[]⟩)] ?_
   simp
   refine⟨⟨by omega,by omega,by omega,by omega⟩,.new1,rfl,?_⟩
   rw [dRm,frz_agg]
   refine⟨?_,by simp⟩
   rw [frzL_cons,frzL_cons,frzL_cons,frzL_nil,frz_d,frz_d,frz_own]
   exact⟨leNewPs _,LeD.refl _,LeD.refl _,trivial⟩
theorem rSameN(x y:List Nt):PCall Tryz.prog 24 [.sl 7 (x.map dNt),.sl 7 (y.map dNt)] (.ret (dB (decide (x=y)))):=by
 refine pcall_of_vc noC c24 (by simp [a24]) fun hr=>?_
 have hlen:=(hr (.sl 7 (x.map dNt)) (by simp)).sl.1
 simp at hlen
 simp [a24]
 have hno:¬ x=y→LeD (dB false) (dB (decide (x=y))):=fun h=>leD_of_eq (by simp [h])
 refine⟨fun h=>hno (fun e=>h (by rw [e])),fun h=>?_⟩
 refine vc_loopK [0,1] Nat (fun i=>[(5,true,.d (dI i))]) (fun _=>[]) (fun i=>i≤x.length∧∀ j,(h:j<i)→(h2:j<x.length)→(h3:j<y.length)→x[j]=y[j]) (fun i=>x.length-i) 0 (by simp) ⟨[],[],?_⟩ (fun i hi=>?_)
 ·simp
 obtain⟨g1,g2⟩:=hi
 simp
 refine⟨fun hlt=>?_,fun hge=>?_⟩
 ·have hlt2:i<y.length:=by omega
  have heq:eqB [.lit (.int .i64 x[i].lang),.lit (.int .i64 x[i].seq),.lit (.int .i64 x[i].ch.at_),.lit (.int .i64 x[i].ch.kind),.lit (.int .i64 x[i].ch.sp.id),.lit (.int .i64 x[i].ch.sp.ver),dZ x[i].ch.sp.tx] [.lit (.int .i64 y[i].lang),.lit (.int .i64 y[i].seq),.lit (.int .i64 y[i].ch.at_),.lit (.int .i64 y[i].ch.kind),.lit (.int .i64 y[i].ch.sp.id),.lit (.int .i64 y[i].ch.sp.ver),dZ y[i].ch.sp.tx]=decide (x[i]=y[i]):=eqB_nt x[i] y[i]
  have hec:eqC [.int .i64,.int .i64,.int .i64,.int .i64,.int .i64,.int .i64,.str] [.lit (.int .i64 x[i].lang),.lit (.int .i64 x[i].seq),.lit (.int .i64 x[i].ch.at_),.lit (.int .i64 x[i].ch.kind),.lit (.int .i64 x[i].ch.sp.id),.lit (.int .i64 x[i].ch.sp.ver),dZ x[i].ch.sp.tx] [.lit (.int .i64 y[i].lang),.lit (.int .i64 y[i].seq),.lit (.int .i64 y[i].ch.at_),.lit (.int .i64 y[i].ch.kind),.lit (.int .i64 y[i].ch.sp.id),.lit (.int .i64 y[i].ch.sp.ver),dZ y[i].ch.sp.tx]=True:=by simp [eqC,dZ]
  simp [hlt,hlt2,heq,hec,dNt]
  refine⟨rfl,fun h=>hno (fun e=>by subst e;exact h rfl),fun h=>⟨i+1,⟨by omega,fun j hj q1 q2=>?_⟩,by omega,[],[],?_⟩⟩
  ·by_cases e:j=i
   ·subst e;exact h
   ·exact g2 j (by omega) q1 q2
  ·rw [wrap64 (by omega)];simp
 ·have:x=y:=List.ext_getElem (by omega) (fun j q1 q2=>g2 j (by omega) q1 q2)
  exact leD_of_eq (by simp [this])
inductive C559:FuncId→List D→Out→Prop
 | net (x y:Nw):C559 50 [dNw x,dNw y] (.ret (dB (decide (x=y))))
 | notes (x y:List Nt):C559 24 [.sl 7 (x.map dNt),.sl 7 (y.map dNt)] (.ret (dB (decide (x=y))))
theorem h559:∀ f ds out,C559 f ds out→PCall Tryz.prog f ds out:=by
 intro f ds out h
 cases h with
 | net x y=>exact nwSame x y
 | notes x y=>exact rSameN x y
theorem rSameR(x y:Rm):PCall Tryz.prog 18 [dRm x,dRm y] (.ret (dB (decide (x=y)))):=by
 refine pcall_of_vc h559 c18 (by simp [a18]) fun hr=>?_
 have hlen:=((hr (dRm x) (by simp)).agg (.sl 1 (x.ps.map dPe)) (by simp [dRm])).2.sl.1
 simp at hlen
 have hN:=C559.net x.net y.net
 simp [a18]
 refine vc_path [.ret (dB (decide (x.net=y.net)))] ?_
 have hno:¬ x=y→LeD (dB false) (dB (decide (x=y))):=fun h=>leD_of_eq (by simp [h])
 by_cases q1:x.ps.length=y.ps.length
 ·by_cases q2:x.net=y.net
  ·simp [q2] at hN
   simp [q1,q2]
   refine⟨hN,?_⟩
   refine vc_loopK [2,3] Nat (fun i=>[(5,true,.d (dI i))]) (fun _=>[]) (fun i=>i≤x.ps.length∧∀ j,(h:j<i)→(h2:j<x.ps.length)→(h3:j<y.ps.length)→x.ps[j]=y.ps[j]) (fun i=>x.ps.length-i) 0 (by simp) ⟨[],[],?_⟩ (fun i hi=>?_)
   ·simp
   obtain⟨g1,g2⟩:=hi
   simp
   refine⟨fun hlt=>?_,fun hge=>?_⟩
   ·have hlt2:i<y.ps.length:=by omega
    have hS:=C559.notes x.ps[i] y.ps[i]
    refine vc_pathD [.ret (dB (decide (x.ps[i]=y.ps[i])))] ?_
    by_cases e:x.ps[i]=y.ps[i]
    ·simp [e] at hS
     simp [hlt,hlt2,e,dPe]
     refine⟨hS,rfl,i+1,⟨by omega,fun j hj a1 a2=>?_⟩,by omega,[],[],?_⟩
     ·by_cases ej:j=i
      ·subst ej;exact e
      ·exact g2 j (by omega) a1 a2
     ·rw [wrap64 (by omega)];simp
    ·simp [e] at hS
     simp [hlt,hlt2,e,dPe]
     exact⟨hS,rfl,hno (fun h=>by subst h;exact e rfl)⟩
   ·have hp:x.ps=y.ps:=List.ext_getElem q1 (fun j a1 a2=>g2 j (by omega) a1 a2)
    have:x=y:=by cases x;cases y;simp only at hp q2;subst hp;subst q2;rfl
    exact leD_of_eq (by simp [this])
  ·simp [q2] at hN
   simp [q1,q2]
   exact⟨hN,hno (fun h=>q2 (by rw [h]))⟩
 ·have q1':¬ (x.ps.length:Int)=(y.ps.length:Int):=by omega
  simp [q1']
  exact hno (fun h=>q1 (by rw [h]))
def isN (lang seq:Int) (x:Nt):Bool:=decide (x.lang=lang∧x.seq=seq)
theorem findN_eq(l:List Nt) (lang seq:Int):findN l lang seq=(l.find? (isN lang seq)).map (·.ch):=rfl
theorem pig:∀ (n:Nat) (l:List Nt),(∀ j:Nat,j<n→∃ x∈l,x.seq=(j:Int))→n≤l.length
 | 0,l,_=>Nat.zero_le _
 | n+1,l,h=>by
  obtain⟨x,hx,hs⟩:=h n (by omega)
  have h1:=pig n (l.erase x) (fun j hj=>by
   obtain⟨y,hy,hys⟩:=h j (by omega)
   have hne:y≠x:=fun e=>by subst e;omega
   exact⟨y,(List.mem_erase_of_ne hne).2 hy,hys⟩)
  rw [List.length_erase_of_mem hx] at h1
  have:0<l.length:=List.length_pos_of_mem hx
  omega
theorem findN_mem{l:List Nt}{lang seq:Int}(h:(findN l lang seq).isSome=true):∃ x∈l,x.seq=seq:=by
 rw [findN_eq] at h
 cases hx:l.find? (isN lang seq) with
 | none=>rw [hx] at h;cases h
 | some x =>
  have h1:=List.mem_of_find?_eq_some hx
  have h2:=List.find?_some hx
  exact⟨x,h1,(of_decide_eq_true h2).2⟩
theorem seen_len{l:List Nt}{lang:Int}{k:Nat}(h:∀ j:Nat,j<k→(findN l lang j).isSome=true):k≤l.length:=pig k l fun j hj=>findN_mem (h j hj)
abbrev mE (e:Int×Ch):Value×AV:=(.int .i64 e.1,.d (dCh e.2))
theorem kFind_m(s:Int):∀ es:List (Int×Ch),kFind (.int .i64 s) (es.map mE)=some ((es.find? fun e=>e.1 == s).map fun e=>AV.d (dCh e.2))
 | []=>rfl
 | e::r=>by
  rw [List.map_cons,kFind_cons,kFind_m s r,List.find?_cons,kSame_int]
  by_cases h:e.1=s
  ·simp [h]
  ·have hb:(s == e.1)=false:=by simp;exact fun x=>h x.symm
   have hb2:(e.1 == s)=false:=by simp [h]
   rw [hb,hb2,if_pos rfl]
theorem leL_mE(ρ:Nat→Nat) (N:Nat→Option Nat) (ok:Nat→Bool) (k:Nat) (M:List (Int×Ch)):leA.leL ρ N ok k (List.map ((fun x=>x.snd)∘mE) M) (List.map ((fun x=>x.snd)∘mE) M):=by
 have e:List.map ((fun x=>x.snd)∘mE) M=(M.map fun e=>dCh e.2).map AV.d:=by simp [mE,Function.comp_def]
 rw [e];exact leL_map ρ N ok k _
theorem leL_mE2(ρ:Nat→Nat) (N:Nat→Option Nat) (ok:Nat→Bool) (k:Nat) (M:List (Int×Ch)) (c:Ch):leA.leL ρ N ok k (List.map ((fun x=>x.snd)∘mE) M++[AV.d (dCh c)]) (List.map ((fun x=>x.snd)∘mE) M++[AV.d (dCh c)]):=by
 have e:List.map ((fun x=>x.snd)∘mE) M++[AV.d (dCh c)]=((M.map fun e=>dCh e.2)++[dCh c]).map AV.d:=by simp [mE,Function.comp_def]
 rw [e];exact leL_map ρ N ok k _
theorem findN_snoc{l:List Nt}{lang s:Int}{i:Nat}(h:i<l.length):findN (l.take (i+1)) lang s=(findN (l.take i) lang s).or (if isN lang s l[i] then some l[i].ch else none):=by
 rw [findN_eq,findN_eq,List.take_succ_eq_append_getElem h,List.find?_append]
 cases (l.take i).find? (isN lang s) with
 | some x=>rfl
 | none =>
  rw [Option.none_or,Option.map_none,Option.none_or,List.find?_singleton]
  split <;> rfl
theorem sChanges(l:List Nt) (lang:Int):PCall Tryz.prog 51 [dPe l,dI lang] (.ret (.fn (.func 97) [] [.ip (dPe l),.ip (dI lang)])):=by
 refine pcall_of_vcZ (C:=fun _ _ _=>False) (by rintro _ _ _ ⟨⟩) c51 (by simp [a51]) 4 fun hr=>?_
 simp [a51]
inductive C562:FuncId→List D→Out→Prop
 | chg (l:List Nt) (lang:Int):C562 51 [dPe l,dI lang] (.ret (.fn (.func 97) [] [.ip (dPe l),.ip (dI lang)]))
 | valid (l:List Nt):C562 46 [dPe l] (.ret (dB (okPe l)))
 | dod (l:List Sp) (c:Ch):C562 27 [.sl 3 (l.map dSp),dCh c] (.ret (.tup [.sl 3 ((doDL l c).map dSp),dI (doDE l c)]))
theorem h562:∀ f ds out,C562 f ds out→PCall Tryz.prog f ds out:=by
 intro f ds out h
 cases h with
 | chg l lang=>exact sChanges l lang
 | valid l=>exact sValid l
 | dod l c=>exact dDo l c
theorem sSeen(l:List Nt) (lang:Int):PCall Tryz.prog 19 [dPe l,dI lang] (.ret (.tup [.sl 3 ((seenR l lang).1.map dSp),dI (seenR l lang).2,dI (seenE l lang)])):=by
 refine pcall_of_vc h562 c19 (by simp [a19]) fun hr=>?_
 have hV:=C562.valid l
 simp [a19]
 refine vc_path [.ret (dB (okPe l))] ?_
 cases q1:okPe l with
 | false =>
  rw [q1] at hV
  have e1:seenE l lang=530:=by unfold seenE;rw [if_pos q1]
  have e2:seenR l lang=([],0):=by unfold seenR;rw [e1];rfl
  rw [e1,e2]
  simp
  exact hV
 | true =>
  rw [q1] at hV
  simp
  refine⟨hV,?_⟩
  refine vc_path [] ?_
  by_cases q2:lang<0∨32≤lang
  ·have e1:seenE l lang=1:=by unfold seenE;rw [if_neg (by rw [q1];simp),if_pos q2]
   have e2:seenR l lang=([],0):=by unfold seenR;rw [e1];rfl
   rw [e1,e2]
   by_cases q3:lang<0
   ·simp [q3]
   ·have q4:32≤lang:=by omega
    simp [q3,q4]
  ·have q3:¬ lang<0:=fun h=>q2 (.inl h)
   have q4:¬ 32≤lang:=fun h=>q2 (.inr h)
   have e1:seenE l lang=0:=by unfold seenE;rw [if_neg (by rw [q1];simp),if_neg q2]
   have e2:seenR l lang=seenN l lang (l.length+1) [] 0:=by unfold seenR;rw [e1];rfl
   rw [e1,e2]
   simp [q3,q4]
   refine vc_path [.ret (.fn (.func 97) [] [.ip (dPe l),.ip (dI lang)])] ?_
   simp
   refine⟨.chg l lang,?_⟩
   refine vc_range (TF Tryz.prog a97) (hcall_of_vc c97) rfl (by rfl) (fun yl=>by rfl) (fun yl=>?_)
   have hlen:=((hr (dPe l) (by simp)).agg (.sl 7 (l.map dNt)) (by simp [dPe])).2.sl.1
   simp at hlen
   have h4096:l.length≤4096:=by unfold okPe at q1;simp only [Bool.and_eq_true,decide_eq_true_eq] at q1;exact q1.2
   generalize hO:seenN l lang (l.length+1) [] 0=OUT
   simp [a97,dPe]
   refine vc_loopK [0,2,4,14,15] (Nat×List (Int×Ch)) (fun y=>[(16,true,.d (dI y.1))]) (fun y=>[(5,.mapo (y.2.map mE))]) (fun y=>y.1≤l.length∧∀ s,(y.2.find? (fun e=>e.1 == s)).map (·.2)=findN (l.take y.1) lang s) (fun y=>l.length-y.1) (0,[]) ⟨Nat.zero_le _,fun s=>rfl⟩ ⟨[],[],?_⟩ (fun y hy=>?_)
   ·simp
    intro x hx;omega
   obtain⟨i,M⟩:=y
   obtain⟨i1,i2⟩:=hy
   simp only at i1 i2
   simp
   refine⟨fun hlt=>?_,fun hge=>?_⟩
   ·have hi2:=i2 l[i].seq
    cases hm:M.find? (fun e=>e.1 == l[i].seq) with
    | some e =>
     rw [hm] at hi2
     have hnx:∀ s,(M.find? (fun e=>e.1 == s)).map (·.2)=findN (l.take (i+1)) lang s:=fun s=>by
      rw [findN_snoc hlt,← i2 s]
      by_cases hs:isN lang s l[i]=true
      ·obtain⟨a1,a2⟩:l[i].lang=lang∧l[i].seq=s:=of_decide_eq_true hs
       rw [← a2,hm];rfl
      ·rw [if_neg hs];simp
     simp [hlt,dNt,kFind_m,hm]
     refine vc_path [] ?_
     by_cases a1:l[i].lang=lang
     ·simp [a1]
      refine⟨i+1,M,⟨by omega,hnx⟩,by omega,[],[],?_⟩
      rw [wrap64 (by omega)];simp
      exact⟨leL_mE _ _ _ _ _,fun x _=>by omega⟩
     ·simp [a1]
      refine⟨i+1,M,⟨by omega,hnx⟩,by omega,[],[],?_⟩
      rw [wrap64 (by omega)];simp
      exact⟨leL_mE _ _ _ _ _,fun x _=>by omega⟩
    | none =>
     rw [hm] at hi2
     simp [hlt,dNt,kFind_m,hm]
     refine vc_path [] ?_
     by_cases a1:l[i].lang=lang
     ·have hnx:∀ s,((M++[(l[i].seq,l[i].ch)]).find? (fun e=>e.1 == s)).map (·.2)=findN (l.take (i+1)) lang s:=fun s=>by
       rw [findN_snoc hlt,← i2 s,List.find?_append]
       cases hms:M.find? (fun e=>e.1 == s) with
       | some e=>rfl
       | none =>
        rw [Option.none_or,Option.map_none,Option.none_or,List.find?_singleton]
        unfold isN
        by_cases a2:l[i].seq=s
        ·simp [a1,a2]
        ·simp [a1,a2]
      simp [a1,hm,kFind_m]
      refine⟨i+1,M++[(l[i].seq,l[i].ch)],⟨by omega,hnx⟩,by omega,[],[],?_⟩
      rw [wrap64 (by omega)];simp
      exact⟨leL_mE2 _ _ _ _ _ _,fun x _=>by omega⟩
     ·have hnx:∀ s,(M.find? (fun e=>e.1 == s)).map (·.2)=findN (l.take (i+1)) lang s:=fun s=>by
       rw [findN_snoc hlt,← i2 s]
       have:¬ isN lang s l[i]=true:=fun h=>a1 (of_decide_eq_true h).1
       rw [if_neg this];simp
      simp [a1,hm]
      refine⟨i+1,M,⟨by omega,hnx⟩,by omega,[],[],?_⟩
      rw [wrap64 (by omega)];simp
      exact⟨leL_mE _ _ _ _ _,fun x _=>by omega⟩
   ·have hi:i=l.length:=by omega
    subst hi
    rw [List.take_length] at i2
    refine vc_loopK [0,4] (Nat×List Sp) (fun y=>[(9,true,.d (dI y.1))]) (fun y=>[(1,.box false [.d (.sl 3 (y.2.map dSp))]),(2,.box false [.d (dI y.1)])]) (fun y=>(∀ j:Nat,j<y.1→(findN l lang j).isSome=true)∧seenN l lang (l.length+1-y.1) y.2 y.1=OUT) (fun y=>l.length-y.1) (0,[]) ⟨fun j hj=>absurd hj (Nat.not_lt_zero _),hO⟩ ⟨[],[],?_⟩ (fun y hy=>?_)
    ·simp
     exact⟨leL_mE _ _ _ _ _,fun x _=>by omega⟩
    obtain⟨k,x⟩:=y
    obtain⟨k1,k2⟩:=hy
    simp only at k1 k2
    have k3:=seen_len k1
    have i3:=i2 (k:Int)
    cases hm:M.find? (fun e=>e.1 == (k:Int)) with
    | none =>
     rw [hm] at i3
     have hf:findN l lang k=none:=i3.symm
     rw [show l.length+1-k=(l.length-k)+1 by omega,seenN,hf] at k2
     simp [kFind_m,hm]
     refine regS_path [] ?_
     simp
     rw [← k2]
     exact⟨rfl,LeD.refl _,LeD.refl _⟩
    | some e =>
     rw [hm] at i3
     have hf:findN l lang k=some e.2:=i3.symm
     have k4:k+1≤l.length:=seen_len (k:=k+1) fun j hj=>by
      by_cases e:j=k
      ·subst e;rw [hf];rfl
      ·exact k1 j (by omega)
     rw [show l.length+1-k=(l.length-k)+1 by omega,seenN,hf] at k2
     simp only at k2
     simp [kFind_m,hm]
     refine regS_path [] ?_
     have hD:=C562.dod x e.2
     simp
     refine vc_path [.ret (.tup [.sl 3 ((doDL x e.2).map dSp),dI (doDE x e.2)])] ?_
     simp
     have k5:∀ j:Nat,j<k+1→(findN l lang j).isSome=true:=fun j hj=>by
      by_cases e:j=k
      ·subst e;rw [hf];rfl
      ·exact k1 j (by omega)
     have k6:l.length+1-(k+1)=l.length-k:=by omega
     refine⟨hD,fun hd=>?_,fun hd=>?_⟩
     ·rw [if_pos hd] at k2
      refine⟨k+1,doDL x e.2,⟨k5,by rw [k6];exact k2⟩,by omega,[],[],?_⟩
      rw [wrap64 (by omega)];simp
      exact⟨leL_mE _ _ _ _ _,fun x _=>by omega⟩
     ·rw [if_neg hd] at k2
      refine⟨k+1,x,⟨k5,by rw [k6];exact k2⟩,by omega,[],[],?_⟩
      rw [wrap64 (by omega)];simp
      exact⟨leL_mE _ _ _ _ _,fun x _=>by omega⟩
def putN (lang seq id:Int) (tx:List UInt8) (h1:-9223372036854775808≤lang∧lang<9223372036854775808) (h2:-9223372036854775808≤seq∧seq<9223372036854775808) (h3:-9223372036854775808≤id∧id<9223372036854775808):Nt:=⟨lang,seq,⟨7,1,⟨id,0,tx,h3,by omega⟩,by omega,by omega⟩,h1,h2⟩
theorem lPut(lang seq id:Int) (tx:List UInt8) (h1:-9223372036854775808≤lang∧lang<9223372036854775808) (h2:-9223372036854775808≤seq∧seq<9223372036854775808) (h3:-9223372036854775808≤id∧id<9223372036854775808):PCall Tryz.prog 28 [dI lang,dI seq,dI id,dZ tx] (.ret (dNt (putN lang seq id tx h1 h2 h3))):=by
 refine pcall_of_vc (C:=fun _ _ _=>False) (by rintro _ _ _ ⟨⟩) c28 (by simp [a28]) fun hr=>?_
 simp [a28]
 exact leD_of_eq rfl
def nA:Nt:=putN 3 0 5 [97] (by omega) (by omega) (by omega)
def nB2:Nt:=putN 3 2 6 [98] (by omega) (by omega) (by omega)
def nB1:Nt:=putN 3 1 5 [98] (by omega) (by omega) (by omega)
def nZ:Nt:=⟨0,0,⟨0,0,⟨0,0,[],by omega,by omega⟩,by omega,by omega⟩,by omega,by omega⟩
def rm0:Rm:=⟨[[],[]],⟨[],[]⟩⟩
def rm1:Rm:=⟨[[],[nA]],⟨[⟨1,0,msgB nA⟩],[]⟩⟩
def rm2:Rm:=⟨[[nA],[nA]],⟨[],[]⟩⟩
def mTell:Mv:=⟨1,1,0,0,nA,by omega⟩
def mBad:Mv:=⟨1,0,0,0,nZ,by omega⟩
def mDlv:Mv:=⟨3,0,0,0,nZ,by omega⟩
theorem val_new2:newR 2=(rm0,0):=by decide +kernel
theorem val_new0:newR 0=(zRm,1):=by decide +kernel
theorem val_tell:mvR rm0 mTell=(rm1,0):=by decide +kernel
theorem val_bad:mvR rm0 mBad=(zRm,530):=by decide +kernel
theorem val_no:mvR rm0 mDlv=(zRm,1):=by decide +kernel
theorem val_dlv:mvR rm1 mDlv=(rm2,0):=by decide +kernel
theorem val_ck0:rmE zRm=530:=by decide +kernel
theorem val_ck2:rmE rm2=0:=by decide +kernel
def spA:Sp:=⟨5,0,[97],by omega,by omega⟩
theorem val_s1:seenR [nA] 3=([spA],1)∧seenE [nA] 3=0:=by decide +kernel
theorem val_s2:seenR [nA] 2=([],0)∧seenE [nA] 2=0:=by decide +kernel
theorem val_s3:seenR [nA] 32=([],0)∧seenE [nA] 32=1:=by decide +kernel
theorem val_s4:seenR [nA,nB2] 3=([spA],1)∧seenE [nA,nB2] 3=0:=by decide +kernel
theorem val_s5:seenR [nA,nB1] 3=([spA],2)∧seenE [nA,nB1] 3=0:=by decide +kernel
theorem val_s6:seenR [nB2,nA] 3=([],0)∧seenE [nB2,nA] 3=530:=by decide +kernel
theorem sm0:smR rm0:=⟨by decide,by decide⟩
theorem sm1:smR rm1:=⟨by decide,by decide⟩
end

section
attribute [local simp] dZ_agg dZ_nt dZ_noTup dZ_cells dZ_one bz_toList bz_size strV dSp_cells dSp_isAgg dSp_noTup dSp_nt dCh_cells dCh_isAgg dCh_noTup dCh_nt dNt_cells dNt_isAgg dNt_noTup dNt_nt dPe_cells dPe_isAgg dPe_noTup dPe_nt dRm_cells dRm_isAgg dRm_noTup dRm_nt dPc_cells dPc_agg dPc_noTup dNw_cells dNw_agg dNw_noTup dMv_cells dMv_isAgg dMv_noTup dMv_nt
set_option maxRecDepth 8000
set_option maxHeartbeats 40000000
inductive C564:FuncId→List D→Out→Prop
 | new2:C564 14 [dI 2] (.ret (.tup [dRm rm0,dI 0]))
 | new0:C564 14 [dI 0] (.ret (.tup [dRm zRm,dI 1]))
 | tell:C564 12 [dRm rm0,dMv mTell] (.ret (.tup [dRm rm1,dI 0]))
 | bad:C564 12 [dRm rm0,dMv mBad] (.ret (.tup [dRm zRm,dI 530]))
 | no:C564 12 [dRm rm0,dMv mDlv] (.ret (.tup [dRm zRm,dI 1]))
 | dlv:C564 12 [dRm rm1,dMv mDlv] (.ret (.tup [dRm rm2,dI 0]))
 | putA:C564 28 [dI 3,dI 0,dI 5,dZ [97]] (.ret (dNt nA))
 | putB2:C564 28 [dI 3,dI 2,dI 6,dZ [98]] (.ret (dNt nB2))
 | putB1:C564 28 [dI 3,dI 1,dI 5,dZ [98]] (.ret (dNt nB1))
 | notes (x y:List Nt):C564 24 [.sl 7 (x.map dNt),.sl 7 (y.map dNt)] (.ret (dB (decide (x=y))))
 | msg:C564 29 [dNt nA] (.ret (.sl 1 ((msgB nA).map dU)))
 | chkZ:C564 16 [.agg [.nil 1,.nil 3,.nil 2]] (.ret (dI 530))
 | chk2:C564 16 [dRm rm2] (.ret (dI 0))
 | seen (l:List Nt) (lang:Int):C564 19 [dPe l,dI lang] (.ret (.tup [.sl 3 ((seenR l lang).1.map dSp),dI (seenR l lang).2,dI (seenE l lang)]))
 | same (x y:List Sp):C564 21 [.sl 3 (x.map dSp),.sl 3 (y.map dSp)] (.ret (dB (decide (x=y))))
theorem h564:∀ f ds out,C564 f ds out→PCall Tryz.prog f ds out:=by
 intro f ds out h
 cases h with
 | new2=>have:=sNew 2;rw [val_new2] at this;exact this
 | new0=>have:=sNew 0;rw [val_new0] at this;exact this
 | tell=>have:=sDo rm0 mTell sm0;rw [val_tell] at this;exact this
 | bad=>have:=sDo rm0 mBad sm0;rw [val_bad] at this;exact this
 | no=>have:=sDo rm0 mDlv sm0;rw [val_no] at this;exact this
 | dlv=>have:=sDo rm1 mDlv sm1;rw [val_dlv] at this;exact this
 | putA=>exact lPut 3 0 5 [97] _ _ _
 | putB2=>exact lPut 3 2 6 [98] _ _ _
 | putB1=>exact lPut 3 1 5 [98] _ _ _
 | notes x y=>exact rSameN x y
 | msg=>exact rMessage nA (by decide)
 | chkZ=>have:=sCheck zRm;rw [val_ck0] at this;exact this.le (.cons leZRm .nil)
 | chk2=>have:=sCheck rm2;rw [val_ck2] at this;exact this
 | seen l lang=>exact sSeen l lang
 | same x y=>exact rSame49 x y
theorem lSane:PCall Tryz.prog 10 [] (.ret (dB true)):=by
 refine pcall_of_vc h564 c10 (by simp [a10]) fun hr=>?_
 have k1:=C564.new2
 have k2:=C564.new0
 have k3:=C564.putA
 have k4:=C564.tell
 have k5:=C564.bad
 have k6:=C564.no
 have k7:=C564.dlv
 simp [a10]
 refine vc_path [.ret (.tup [dRm rm0,dI 0])] ?_
 simp
 refine⟨k1,?_⟩
 refine vc_path [.ret (.tup [dRm zRm,dI 1])] ?_
 simp
 refine⟨k2,?_⟩
 refine vc_pathD [.ret (dNt nA),.ret (.tup [dRm rm1,dI 0])] ?_
 simp
 refine⟨k3,k4,rfl,?_⟩
 refine vc_path [.ret (.tup [dRm zRm,dI 530])] ?_
 simp
 refine⟨k5,?_⟩
 refine vc_path [.ret (.tup [dRm zRm,dI 1])] ?_
 simp
 refine⟨k6,?_⟩
 refine vc_path [.ret (.tup [dRm rm2,dI 0])] ?_
 simp
 refine⟨k7,?_⟩
 refine vc_path [] ?_
 have z1:rm0.ps.length=2:=rfl
 have z2:rm1.ps.length=2:=rfl
 have z3:rm2.ps.length=2:=rfl
 simp [z1,z2,z3]
 refine vc_path [.ret (dNt nA)] ?_
 simp
 refine⟨k3,?_⟩
 have y1:rm1.ps=[[],[nA]]:=rfl
 have y2:rm1.net.q=[⟨1,0,msgB nA⟩]:=rfl
 have y3:rm2.ps=[[nA],[nA]]:=rfl
 have y4:rm2.net.q=[]:=rfl
 have k8:=C564.notes [nA] [nA]
 have k9:=C564.chkZ
 have k10:=C564.chk2
 simp at k8
 refine vc_pathD [.ret (.sl 1 ((msgB nA).map dU)),.ret (dB true)] ?_
 simp [y1,y2,dPc,dPe,bytesOf_map]
 refine⟨fun _ _=>rfl,.msg,fun _ _=>rfl,k8,rfl,?_⟩
 refine vc_path [.ret (dB true),.ret (dI 530),.ret (dI 0)] ?_
 simp [y3,y4,dPe]
 refine⟨k8,k9,k10,?_⟩
 have s1:=C564.seen [nA] 3
 have s2:=C564.seen [nA] 2
 have s3:=C564.seen [nA] 32
 have s4:=C564.seen [nA,nB2] 3
 have s5:=C564.seen [nA,nB1] 3
 have s6:=C564.seen [nB2,nA] 3
 rw [val_s1.1,val_s1.2] at s1
 rw [val_s2.1,val_s2.2] at s2
 rw [val_s3.1,val_s3.2] at s3
 rw [val_s4.1,val_s4.2] at s4
 rw [val_s5.1,val_s5.2] at s5
 rw [val_s6.1,val_s6.2] at s6
 simp at s1 s2 s3 s4 s5 s6
 refine vc_path [.ret (.tup [.sl 3 [dSp spA],dI 1,dI 0])] ?_
 simp [y3,dPe]
 refine⟨s1,?_⟩
 refine vc_path [.ret (.tup [.sl 3 [],dI 0,dI 0])] ?_
 simp [y3,dPe]
 refine⟨s2,?_⟩
 refine vc_path [.ret (.tup [.sl 3 [],dI 0,dI 1])] ?_
 simp [y3,dPe]
 refine⟨s3,?_⟩
 refine vc_path [.ret (dNt nA),.ret (dNt nB2),.ret (.tup [.sl 3 [dSp spA],dI 1,dI 0])] ?_
 simp
 refine⟨k3,.putB2,s4,?_⟩
 refine vc_path [.ret (dNt nA),.ret (dNt nB1),.ret (.tup [.sl 3 [dSp spA],dI 2,dI 0])] ?_
 simp
 refine⟨k3,.putB1,s5,?_⟩
 refine vc_path [.ret (dNt nB2),.ret (dNt nA),.ret (.tup [.sl 3 [],dI 0,dI 530])] ?_
 simp
 refine⟨.putB2,k3,s6,?_⟩
 refine vc_path [] ?_
 simp
 have q1:=C564.same [spA] [spA]
 simp at q1
 refine vc_path [.ret (dB true),.ret (dB true),.ret (dB true)] ?_
 simp
 exact q1
end

section
attribute [local simp] dZ_agg dZ_nt dZ_noTup dZ_cells dZ_one bz_toList bz_size strV dSp_cells dSp_isAgg dSp_noTup dSp_nt dCh_cells dCh_isAgg dCh_noTup dCh_nt dNt_cells dNt_isAgg dNt_noTup dNt_nt dPe_cells dPe_isAgg dPe_noTup dPe_nt dRm_cells dRm_isAgg dRm_noTup dRm_nt dPc_cells dPc_agg dPc_noTup dNw_cells dNw_agg dNw_noTup dMv_cells dMv_isAgg dMv_noTup dMv_nt
set_option maxRecDepth 8000
set_option maxHeartbeats 4000000
theorem lHas(l:List Nt) (n:Nt):PCall Tryz.prog 25 [.sl 7 (l.map dNt),dNt n] (.ret (dB (decide (n∈l)))):=by
 refine pcall_of_vc (C:=fun _ _ _=>False) (by rintro _ _ _ ⟨⟩) c25 (by simp [a25]) fun hr=>?_
 have hlen:=(hr (.sl 7 (l.map dNt)) (by simp)).sl.1
 simp at hlen
 simp [a25]
 refine vc_loopK [3,7,8] Nat (fun y=>[(9,true,.d (dI y))]) (fun y=>[]) (fun y=>y≤l.length∧∀ j,(h:j<y)→(h2:j<l.length)→¬ l[j]=n) (fun y=>l.length-y) 0 (by simp) ⟨[],[],?_⟩ (fun k hk=>?_)
 ·simp
 obtain⟨h1,h2⟩:=hk
 simp
 refine⟨fun hlt=>?_,fun hge=>?_⟩
 ·have heq:eqB [.lit (.int .i64 l[k].lang),.lit (.int .i64 l[k].seq),.lit (.int .i64 l[k].ch.at_),.lit (.int .i64 l[k].ch.kind),.lit (.int .i64 l[k].ch.sp.id),.lit (.int .i64 l[k].ch.sp.ver),dZ l[k].ch.sp.tx] [.lit (.int .i64 n.lang),.lit (.int .i64 n.seq),.lit (.int .i64 n.ch.at_),.lit (.int .i64 n.ch.kind),.lit (.int .i64 n.ch.sp.id),.lit (.int .i64 n.ch.sp.ver),dZ n.ch.sp.tx]=decide (l[k]=n):=eqB_nt l[k] n
  have hec:eqC [.int .i64,.int .i64,.int .i64,.int .i64,.int .i64,.int .i64,.str] [.lit (.int .i64 l[k].lang),.lit (.int .i64 l[k].seq),.lit (.int .i64 l[k].ch.at_),.lit (.int .i64 l[k].ch.kind),.lit (.int .i64 l[k].ch.sp.id),.lit (.int .i64 l[k].ch.sp.ver),dZ l[k].ch.sp.tx] [.lit (.int .i64 n.lang),.lit (.int .i64 n.seq),.lit (.int .i64 n.ch.at_),.lit (.int .i64 n.ch.kind),.lit (.int .i64 n.ch.sp.id),.lit (.int .i64 n.ch.sp.ver),dZ n.ch.sp.tx]=True:=by simp [eqC,dZ]
  simp [hlt,heq,hec,dNt]
  refine⟨fun e=>leD_of_eq (by rw [decide_eq_true (show n∈l from e ▸ List.getElem_mem hlt)]),fun e=>⟨k+1,⟨by omega,fun j hj a2=>?_⟩,by omega,[],[],?_⟩⟩
  ·by_cases ej:j=k
   ·subst ej;exact e
   ·exact h2 j (by omega) a2
  ·rw [wrap64 (by omega)];simp
 ·have:¬ n∈l:=fun h=>by
   obtain⟨j,hj,he⟩:=List.mem_iff_getElem.1 h
   exact h2 j (by omega) hj he
  exact leD_of_eq (by simp [this])
end

section
theorem nodup_le{α:Type} [DecidableEq α] (a:List α):∀ b:List α,a.Nodup→(∀ x∈a,x∈b)→a.length≤b.length:=by
 induction a with
 | nil=>intro b _ _;simp
 | cons x r ih =>
  intro b h1 h2
  rw [List.nodup_cons] at h1
  have hx:x∈b:=h2 x (by simp)
  have h3:=ih (b.erase x) h1.2 fun y hy=>(List.mem_erase_of_ne (fun e:y=x=>h1.1 (e ▸ hy))).2 (h2 y (by simp [hy]))
  rw [List.length_erase_of_mem hx] at h3
  have h4:0<b.length:=List.length_pos_of_mem hx
  simp only [List.length_cons];omega
theorem okNs_nodup{l:List Nt}(h:okNs none l=true):l.Nodup:=(okNs_pw h).imp fun {a b} hab e=>by
 subst e;rw [nLt,bLt_irr] at hab;cases hab
def GoodP (n:Nat) (told:List Nt) (p:Pc):Prop:=∃ (a b:Nat) (x:Nt),p=pcOf a b x∧a<n∧b<n∧a≠b∧x∈told∧okNt x=true
theorem GoodP.mono{n:Nat}{told told':List Nt}{p:Pc}(h:GoodP n told p) (ht:∀ x∈told,x∈told'):GoodP n told' p:=by
 obtain⟨a,b,x,h1,h2,h3,h4,h5,h6⟩:=h
 exact⟨a,b,x,h1,h2,h3,h4,ht x h5,h6⟩
structure InvR (n:Nat) (told:List Nt) (r:Rm):Prop where
 len:r.ps.length=n
 cut:r.net.c=[]
 pe:∀ l∈r.ps,okNs none l=true∧∀ x∈l,x∈told
 pk:∀ p∈r.net.q,GoodP n told p
theorem inv_len{n:Nat}{told:List Nt}{r:Rm}(h:InvR n told r):∀ l∈r.ps,l.length≤told.length:=fun l hl=>nodup_le l told (okNs_nodup (h.pe l hl).1) (h.pe l hl).2
theorem inv_ok{n:Nat}{told:List Nt}{r:Rm}(h:InvR n told r) (h1:1≤n) (h2:n≤24) (h3:told.length≤1000) (h4:r.net.q.length≤4096):okRm r=true:=by
 refine okRm_iff.2 ⟨by rw [h.len];exact h1,by rw [h.len];exact h2,?_,fun l hl=>okPe_iff.2 ⟨(h.pe l hl).1,by have:=inv_len h l hl;omega⟩,fun p hp=>?_⟩
 ·unfold okNw
  rw [h.cut]
  simp only [Bool.and_eq_true,decide_eq_true_eq,List.all_eq_true]
  refine⟨by omega,fun p hp=>?_,rfl⟩
  obtain⟨a,b,x,rfl,ha,hb,hab,hx,ho⟩:=h.pk p hp
  exact okPc_of ho (by omega) (by omega) (fun e=>hab e.symm)
 ·obtain⟨a,b,x,rfl,ha,hb,hab,hx,ho⟩:=h.pk p hp
  refine okPq_iff.2 ⟨?_,?_,?_⟩
  ·rw [show (pcOf a b x).p=msgB x from rfl,readB_msgB ho];rfl
  ·rw [h.len];exact Int.ofNat_lt.2 ha
  ·rw [h.len];exact Int.ofNat_lt.2 hb
theorem inv_sm{n:Nat}{told:List Nt}{r:Rm}(h:InvR n told r) (h3:told.length≤1000) (h4:r.net.q.length≤2000):smR r:=⟨h4,fun l hl=>by have:=inv_len h l hl;omega⟩
theorem sndAll_ok:∀ (L:List Pc) (w:Nw),okNw w=true→(∀ p∈L,okPc p=true)→w.q.length+L.length≤4096→sndAll w L=(⟨w.q++L,w.c⟩,0)
 | [],w,_,_,_=>by simp [sndAll]
 | p::L,w,h1,h2,h3=>by
  have hl:w.q.length<4096:=by simp at h3;omega
  have hp:=h2 p (by simp)
  obtain⟨e1,e2,e3⟩:=snd_ok h1 hp hl
  have e4:sndN w p=⟨w.q++[p],w.c⟩:=by unfold sndN;rw [if_pos ⟨h1,hp,by omega⟩]
  rw [sndAll_cons,if_pos e1,sndAll_ok L _ e2 (fun x hx=>h2 x (by simp [hx])) (by rw [e3];simp at h3;omega),e4]
  simp
theorem getD_ps{l:List (List Nt)}{i:Nat}(h:i<l.length):l.getD i []=l[i]:=by rw [List.getD_eq_getElem?_getD,List.getElem?_eq_getElem h];rfl
theorem tellQ_mem{k i:Nat}{n:Nt}{p:Pc}(h:p∈tellQ k i n):∃ j:Nat,p=pcOf i j n∧j<k∧¬ j=i:=by
 unfold tellQ at h
 obtain⟨j,hj,rfl⟩:=List.mem_map.1 h
 obtain⟨h1,h2⟩:=List.mem_filter.1 hj
 exact⟨j,rfl,List.mem_range.1 h1,by simpa using h2⟩
theorem tellQ_len(k i:Nat) (n:Nt):(tellQ k i n).length≤k:=by
 unfold tellQ
 rw [List.length_map]
 have:=List.length_filter_le (fun j=>j != i) (List.range k)
 rw [List.length_range] at this;exact this
theorem mv_tell{n:Nat}{told:List Nt}{r:Rm}{m:Mv}(h:InvR n told r) (h1:1≤n) (h2:n≤24) (h3:told.length≤1000) (h4:r.net.q.length≤2000) (hk:m.kind=1){i:Nat}(hp:m.peer=i) (hi:i<n) (ho:okNt m.note=true):mvR r m=(⟨r.ps.set i (lrnL (r.ps.getD i []) m.note),⟨r.net.q++tellQ n i m.note,[]⟩⟩,0):=by
 have hR:=inv_ok h h1 h2 h3 (by omega)
 have hi':i<r.ps.length:=by rw [h.len];exact hi
 have hl:=inv_len h _ (List.getElem_mem hi')
 have hq:=tellQ_len n i m.note
 rw [mvR_eq r m hR,if_pos hk]
 unfold tellX
 rw [if_neg (by rw [hp,Bool.not_eq_false];exact inR_iff.2 ⟨by omega,by omega⟩),if_neg (by rw [ho];simp),hp,Int.toNat_natCast,tellR_eq hi',if_pos (lrn_small (by omega)),getD_ps hi']
 rw [sndAll_ok _ _ (okRm_iff.1 hR).2.2.1 (fun p hp=>by
  obtain⟨j,rfl,hj,hji⟩:=tellQ_mem hp
  rw [h.len] at hj
  exact okPc_of ho (by omega) (by omega) hji) (by rw [h.len];omega),h.len,h.cut]
 rfl
theorem mv_sync{n:Nat}{told:List Nt}{r:Rm}{m:Mv}(h:InvR n told r) (h1:1≤n) (h2:n≤24) (h3:told.length≤1000) (h4:r.net.q.length≤2000) (hk:m.kind=2){i k:Nat}(hp:m.peer=i) (ht:m.to=k) (hi:i<n) (hkn:k<n) (hne:i≠k):mvR r m=(⟨r.ps,⟨r.net.q++(r.ps.getD i []).map (fun x=>pcOf i k x),[]⟩⟩,0):=by
 have hR:=inv_ok h h1 h2 h3 (by omega)
 have hi':i<r.ps.length:=by rw [h.len];exact hi
 have hl:=inv_len h _ (List.getElem_mem hi')
 have hpe:=h.pe _ (List.getElem_mem hi')
 rw [mvR_eq r m hR,if_neg (by omega),if_pos hk]
 unfold syncX
 rw [if_neg (by
  rintro(e | e)
  ·rw [Bool.and_eq_false_iff] at e
   rcases e with e | e
   ·rw [hp] at e;rw [inR_iff.2 ⟨by omega,by omega⟩] at e;cases e
   ·rw [ht] at e;rw [inR_iff.2 ⟨by omega,by have:=h.len;omega⟩] at e;cases e
  ·rw [hp,ht] at e;omega),hp,ht,Int.toNat_natCast,Int.toNat_natCast,syncR_eq hi',getD_ps hi']
 rw [sndAll_ok _ _ (okRm_iff.1 hR).2.2.1 (fun p hp=>by
  obtain⟨x,hx,rfl⟩:=List.mem_map.1 hp
  exact okPc_of (okNs_ok hpe.1 x hx) (by omega) (by omega) (fun e=>hne e.symm)) (by rw [List.length_map];omega),h.cut]
 rfl
theorem at_ok{n:Nat}{told:List Nt}{r:Rm}(h:InvR n told r) (h1:1≤n) (h2:n≤24) (h3:told.length≤1000) (h4:r.net.q.length≤2000){j:Nat}(hj:j<r.net.q.length):atE r.net j=0∧atP r.net j=r.net.q[j]∧lseN r.net j=⟨r.net.q.eraseIdx j,[]⟩:=by
 have hR:=inv_ok h h1 h2 h3 (by omega)
 have e:atE r.net j=0:=atE_zero.2 ⟨(okRm_iff.1 hR).2.2.1,inQ_iff.2 ⟨by omega,by omega⟩⟩
 refine⟨e,?_,?_⟩
 ·unfold atP
  rw [if_pos e,Int.toNat_natCast,List.getD_eq_getElem?_getD,List.getElem?_eq_getElem hj];rfl
 ·unfold lseN wo
  rw [if_pos e,Int.toNat_natCast,h.cut,List.eraseIdx_eq_take_drop_succ]
theorem mv_dlv{n:Nat}{told:List Nt}{r:Rm}{m:Mv}(h:InvR n told r) (h1:1≤n) (h2:n≤24) (h3:told.length≤1000) (h4:r.net.q.length≤2000) (hk:m.kind=3){j:Nat}(hm:m.at_=j) (hj:j<r.net.q.length):∃ (a b:Nat) (x:Nt),r.net.q[j]=pcOf a b x∧a<n∧b<n∧a≠b∧x∈told∧okNt x=true∧mvR r m=(⟨r.ps.set b (lrnL (r.ps.getD b []) x),⟨r.net.q.eraseIdx j,[]⟩⟩,0):=by
 have hR:=inv_ok h h1 h2 h3 (by omega)
 obtain⟨e1,e2,e3⟩:=at_ok h h1 h2 h3 h4 hj
 obtain⟨a,b,x,hp,ha,hb,hab,hx,ho⟩:=h.pk _ (List.getElem_mem hj)
 refine⟨a,b,x,hp,ha,hb,hab,hx,ho,?_⟩
 have hb':b<r.ps.length:=by rw [h.len];exact hb
 have hl:=inv_len h _ (List.getElem_mem hb')
 rw [mvR_eq r m hR,if_neg (by omega),if_neg (by omega),if_pos hk,hm]
 have hd:dlvP r.net j=pcOf a b x:=by
  unfold dlvP
  rw [h.cut,if_neg (by simp),e2,hp]
 have hab':¬ (pcOf (a:Int) (b:Int) x).a=(pcOf (a:Int) (b:Int) x).b:=fun e=>hab (Int.ofNat.inj e)
 unfold dlvR
 rw [if_neg (fun hh=>hh e1)]
 simp only
 rw [hd,if_neg hab',show (pcOf (a:Int) (b:Int) x).p=msgB x from rfl,readB_msgB ho,show (pcOf (a:Int) (b:Int) x).b.toNat=b from Int.toNat_natCast b,List.getElem?_eq_getElem hb']
 simp only
 rw [if_neg (fun hh=>hh (lrn_small (by omega))),e3,getD_ps hb']
theorem mv_lose{n:Nat}{told:List Nt}{r:Rm}{m:Mv}(h:InvR n told r) (h1:1≤n) (h2:n≤24) (h3:told.length≤1000) (h4:r.net.q.length≤2000) (hk:m.kind=4){j:Nat}(hm:m.at_=j) (hj:j<r.net.q.length):mvR r m=(⟨r.ps,⟨r.net.q.eraseIdx j,[]⟩⟩,0):=by
 have hR:=inv_ok h h1 h2 h3 (by omega)
 obtain⟨e1,e2,e3⟩:=at_ok h h1 h2 h3 h4 hj
 rw [mvR_eq r m hR,if_neg (by omega),if_neg (by omega),if_neg (by omega),if_pos hk,hm,if_neg (fun hh=>hh e1),e3]
theorem mv_rep{n:Nat}{told:List Nt}{r:Rm}{m:Mv}(h:InvR n told r) (h1:1≤n) (h2:n≤24) (h3:told.length≤1000) (h4:r.net.q.length≤2000) (hk:m.kind=5){j:Nat}(hm:m.at_=j) (hj:j<r.net.q.length):mvR r m=(⟨r.ps,⟨r.net.q++[r.net.q[j]],[]⟩⟩,0):=by
 have hR:=inv_ok h h1 h2 h3 (by omega)
 obtain⟨e1,e2,e3⟩:=at_ok h h1 h2 h3 h4 hj
 have hp:=okNw_all (okRm_iff.1 hR).2.2.1 _ (List.getElem_mem hj)
 obtain⟨s1,s2,s3⟩:=snd_ok (okRm_iff.1 hR).2.2.1 hp (by omega)
 have e4:repE r.net j=0:=by unfold repE;rw [if_pos e1,e2];exact s1
 have e5:repN r.net j=⟨r.net.q++[r.net.q[j]],[]⟩:=by
  unfold repN sndN
  rw [if_pos e1,e2,if_pos ⟨(okRm_iff.1 hR).2.2.1,hp,by omega⟩,h.cut]
 rw [mvR_eq r m hR,if_neg (by omega),if_neg (by omega),if_neg (by omega),if_neg (by omega),if_pos hk,hm,if_neg (fun hh=>hh e4),e5]
inductive StepR (n:Nat) (told:List Nt) (r:Rm) (m:Mv):Rm→Prop
 | tell (i:Nat) (hk:m.kind=1) (hp:m.peer=i) (hi:i<n) (ho:okNt m.note=true):StepR n told r m ⟨r.ps.set i (lrnL (r.ps.getD i []) m.note),⟨r.net.q++tellQ n i m.note,[]⟩⟩
 | sync (i k:Nat) (hk:m.kind=2) (hi:i<n) (hkn:k<n) (hne:i≠k):StepR n told r m ⟨r.ps,⟨r.net.q++(r.ps.getD i []).map (fun x=>pcOf i k x),[]⟩⟩
 | dlv (j a b:Nat) (x:Nt) (hk:m.kind=3) (hj:j<r.net.q.length) (hq:r.net.q[j]=pcOf a b x) (hb:b<n) (hx:okNt x=true) (ht:x∈told):StepR n told r m ⟨r.ps.set b (lrnL (r.ps.getD b []) x),⟨r.net.q.eraseIdx j,[]⟩⟩
 | lose (j:Nat) (hk:m.kind=4):StepR n told r m ⟨r.ps,⟨r.net.q.eraseIdx j,[]⟩⟩
 | rep (j:Nat) (hk:m.kind=5) (hj:j<r.net.q.length):StepR n told r m ⟨r.ps,⟨r.net.q++[r.net.q[j]],[]⟩⟩
theorem mv_all{n:Nat}{told:List Nt}{r:Rm}{m:Mv}(h:InvR n told r) (h1:1≤n) (h2:n≤24) (h3:told.length≤1000) (h4:r.net.q.length≤2000):(∃ e,e≠0∧mvR r m=(zRm,e))∨∃ x,StepR n told r m x∧mvR r m=(x,0):=by
 have hR:=inv_ok h h1 h2 h3 (by omega)
 by_cases k1:m.kind=1
 ·cases q1:inR r m.peer with
  | false=>exact .inl ⟨1,by omega,by rw [mvR_eq r m hR,if_pos k1];unfold tellX;rw [if_pos q1]⟩
  | true =>
   cases q2:okNt m.note with
   | false=>exact .inl ⟨530,by omega,by rw [mvR_eq r m hR,if_pos k1];unfold tellX;rw [if_neg (by rw [q1];simp),if_pos q2]⟩
   | true =>
    obtain⟨p1,p2⟩:=inR_iff.1 q1
    rw [h.len] at p2
    have e:m.peer=(m.peer.toNat:Nat):=by omega
    exact .inr ⟨_,.tell m.peer.toNat k1 e (by omega) q2,mv_tell h h1 h2 h3 h4 k1 e (by omega) q2⟩
 by_cases k2:m.kind=2
 ·by_cases q:(inR r m.peer&&inR r m.to)=false∨m.peer=m.to
  ·exact .inl ⟨1,by omega,by rw [mvR_eq r m hR,if_neg k1,if_pos k2];unfold syncX;rw [if_pos q]⟩
  ·have q1:(inR r m.peer&&inR r m.to)=true:=by
    cases e:(inR r m.peer&&inR r m.to) with
    | true=>rfl
    | false=>exact absurd (.inl e) q
   have q2:¬ m.peer=m.to:=fun e=>q (.inr e)
   rw [Bool.and_eq_true] at q1
   obtain⟨a1,a2⟩:=inR_iff.1 q1.1
   obtain⟨b1,b2⟩:=inR_iff.1 q1.2
   rw [h.len] at a2 b2
   exact .inr ⟨_,.sync m.peer.toNat m.to.toNat k2 (by omega) (by omega) (by omega),mv_sync h h1 h2 h3 h4 k2 (by omega) (by omega) (by omega) (by omega) (by omega)⟩
 have hat:∀ e,atE r.net m.at_=e→e=0→∃ j:Nat,m.at_=j∧j<r.net.q.length:=fun e he h0=>by
  subst h0
  obtain⟨_,hi⟩:=atE_zero.1 he
  obtain⟨i1,i2⟩:=inQ_iff.1 hi
  exact⟨m.at_.toNat,by omega,by omega⟩
 by_cases k3:m.kind=3
 ·by_cases q:atE r.net m.at_=0
  ·obtain⟨j,hm,hj⟩:=hat _ q rfl
   obtain⟨a,b,x,e1,e2,e3,e4,e5,e6,e7⟩:=mv_dlv h h1 h2 h3 h4 k3 hm hj
   exact .inr ⟨_,.dlv j a b x k3 hj e1 e3 e6 e5,e7⟩
  ·exact .inl ⟨_,q,by rw [mvR_eq r m hR,if_neg k1,if_neg k2,if_pos k3];unfold dlvR;rw [if_pos q]⟩
 by_cases k4:m.kind=4
 ·by_cases q:atE r.net m.at_=0
  ·obtain⟨j,hm,hj⟩:=hat _ q rfl
   exact .inr ⟨_,.lose j k4,mv_lose h h1 h2 h3 h4 k4 hm hj⟩
  ·exact .inl ⟨_,q,by rw [mvR_eq r m hR,if_neg k1,if_neg k2,if_neg k3,if_pos k4,if_pos q]⟩
 by_cases k5:m.kind=5
 ·by_cases q:atE r.net m.at_=0
  ·obtain⟨j,hm,hj⟩:=hat _ q rfl
   exact .inr ⟨_,.rep j k5 hj,mv_rep h h1 h2 h3 h4 k5 hm hj⟩
  ·have q':¬ repE r.net m.at_=0:=by unfold repE;rw [if_neg q];exact q
   exact .inl ⟨_,q',by rw [mvR_eq r m hR,if_neg k1,if_neg k2,if_neg k3,if_neg k4,if_pos k5,if_pos q']⟩
 ·exact .inl ⟨1,by omega,by rw [mvR_eq r m hR,if_neg k1,if_neg k2,if_neg k3,if_neg k4,if_neg k5]⟩
theorem set_getD{l:List (List Nt)}{i k:Nat}{x:List Nt}(h:i<l.length):(l.set i x).getD k []=if k=i then x else l.getD k []:=by
 rw [List.getD_eq_getElem?_getD,List.getD_eq_getElem?_getD,List.getElem?_set]
 by_cases e:i=k
 ·subst e;rw [if_pos rfl,if_pos h,if_pos rfl];rfl
 ·rw [if_neg e,if_neg (fun x=>e x.symm)]
theorem lrn_in{l:List Nt}{x:Nt}{told:List Nt}(hl:okNs none l=true) (hs:∀ y∈l,y∈told) (hx:okNt x=true) (h3:told.length≤1000):okNs none (lrnL l x)=true∧∀ y,y∈lrnL l x↔y∈l∨y=x:=by
 have h4:=nodup_le l told (okNs_nodup hl) hs
 obtain⟨a,b,_,_⟩:=lrn_ok hl hx (lrn_small (by omega))
 exact⟨a,b⟩
theorem step_inv{n:Nat}{told:List Nt}{r:Rm}{m:Mv}{x:Rm}(h:InvR n told r) (hs:StepR n told r m x) (h3:told.length≤1000){told':List Nt}(ht:∀ y∈told,y∈told') (hm:m.kind=1→m.note∈told'):InvR n told' x:=by
 have hpe:∀ l∈r.ps,okNs none l=true∧∀ y∈l,y∈told':=fun l hl=>⟨(h.pe l hl).1,fun y hy=>ht y ((h.pe l hl).2 y hy)⟩
 have hpk:∀ p∈r.net.q,GoodP n told' p:=fun p hp=>(h.pk p hp).mono ht
 have hset:∀ (i:Nat) (y:Nt),i<n→okNt y=true→y∈told'→∀ l∈r.ps.set i (lrnL (r.ps.getD i []) y),okNs none l=true∧∀ z∈l,z∈told':=fun i y hi hy hyt l hl=>by
  rcases List.mem_or_eq_of_mem_set hl with e | e
  ·exact hpe l e
  ·subst e
   have hi':i<r.ps.length:=by rw [h.len];exact hi
   rw [getD_ps hi']
   have hq:=h.pe _ (List.getElem_mem hi')
   obtain⟨a,b⟩:=lrn_in hq.1 hq.2 hy h3
   exact⟨a,fun z hz=>((b z).1 hz).elim (fun e=>ht z (hq.2 z e)) (fun e=>e ▸ hyt)⟩
 cases hs with
 | tell i hk hp hi ho =>
  refine⟨by rw [List.length_set];exact h.len,rfl,hset i _ hi ho (hm hk),fun p hp=>?_⟩
  rcases List.mem_append.1 hp with e | e
  ·exact hpk p e
  ·obtain⟨j,rfl,hj,hji⟩:=tellQ_mem e
   exact⟨i,j,_,rfl,hi,hj,fun e=>hji e.symm,hm hk,ho⟩
 | sync i k hk hi hkn hne =>
  refine⟨h.len,rfl,hpe,fun p hp=>?_⟩
  rcases List.mem_append.1 hp with e | e
  ·exact hpk p e
  ·obtain⟨y,hy,rfl⟩:=List.mem_map.1 e
   have hi':i<r.ps.length:=by rw [h.len];exact hi
   rw [getD_ps hi'] at hy
   have hq:=h.pe _ (List.getElem_mem hi')
   exact⟨i,k,y,rfl,hi,hkn,hne,ht y (hq.2 y hy),okNs_ok hq.1 y hy⟩
 | dlv j a b y hk hj hq hb hx htl=>exact⟨by rw [List.length_set];exact h.len,rfl,hset b y hb hx (ht y htl),fun p hp=>hpk p (List.mem_of_mem_eraseIdx hp)⟩
 | lose j hk=>exact⟨h.len,rfl,hpe,fun p hp=>hpk p (List.mem_of_mem_eraseIdx hp)⟩
 | rep j hk hj =>
  refine⟨h.len,rfl,hpe,fun p hp=>?_⟩
  rcases List.mem_append.1 hp with e | e
  ·exact hpk p e
  ·rw [List.mem_singleton] at e
   subst e;exact hpk _ (List.getElem_mem hj)
theorem step_mono{n:Nat}{told:List Nt}{r:Rm}{m:Mv}{x:Rm}(h:InvR n told r) (hs:StepR n told r m x) (h3:told.length≤1000) (k:Nat) (y:Nt) (hy:y∈r.ps.getD k []):y∈x.ps.getD k []:=by
 have hset:∀ (i:Nat) (z:Nt),i<n→okNt z=true→y∈(r.ps.set i (lrnL (r.ps.getD i []) z)).getD k []:=fun i z hi hz=>by
  have hi':i<r.ps.length:=by rw [h.len];exact hi
  rw [set_getD hi']
  split
  ·rename_i e;subst e
   rw [getD_ps hi'] at hy ⊢
   have hq:=h.pe _ (List.getElem_mem hi')
   exact((lrn_in hq.1 hq.2 hz h3).2 y).2 (.inl hy)
  ·exact hy
 cases hs with
 | tell i hk hp hi ho=>exact hset i _ hi ho
 | sync i k hk hi hkn hne=>exact hy
 | dlv j a b z hk hj hq hb hx htl=>exact hset b z hb hx
 | lose j hk=>exact hy
 | rep j hk hj=>exact hy
theorem step_len{n:Nat}{told:List Nt}{r:Rm}{m:Mv}{x:Rm}(h:InvR n told r) (hs:StepR n told r m x) (h3:told.length≤1000){K:Nat}(h5:n≤K) (h6:told.length≤K) (h7:1≤K):x.net.q.length≤r.net.q.length+K:=by
 cases hs with
 | tell i hk hp hi ho =>
  have:=tellQ_len n i m.note
  simp only [List.length_append];omega
 | sync i k hk hi hkn hne =>
  have hi':i<r.ps.length:=by rw [h.len];exact hi
  have:=inv_len h _ (List.getElem_mem hi')
  rw [getD_ps hi']
  simp only [List.length_append,List.length_map];omega
 | dlv j a b z hk hj hq hb hx htl =>
  have:=List.length_eraseIdx_le r.net.q j
  simp only;omega
 | lose j hk =>
  have:=List.length_eraseIdx_le r.net.q j
  simp only;omega
 | rep j hk hj =>
  simp only [List.length_append,List.length_singleton];omega
theorem step_told{n:Nat}{told:List Nt}{r:Rm}{m:Mv}{x:Rm}(h:InvR n told r) (hs:StepR n told r m x) (h3:told.length≤1000) (hk:m.kind=1):∃ i,i<n∧m.note∈x.ps.getD i []∧okNt m.note=true:=by
 cases hs with
 | tell i _ hp hi ho =>
  have hi':i<r.ps.length:=by rw [h.len];exact hi
  have hq:=h.pe _ (List.getElem_mem hi')
  refine⟨i,hi,?_,ho⟩
  rw [set_getD hi',if_pos rfl,getD_ps hi']
  exact((lrn_in hq.1 hq.2 ho h3).2 _).2 (.inr rfl)
 | sync i k hk2 hi hkn hne=>omega
 | dlv j a b z hk2 hj hq hb hx htl=>omega
 | lose j hk2=>omega
 | rep j hk2 hj=>omega
def rchR (r:Rm) (k:Nat) (x:Nt):Prop:=x∈r.ps.getD k []∨∃ p∈r.net.q,p.b=k∧readB p.p=some x
theorem rch_rep{r:Rm}{j:Nat}(hj:j<r.net.q.length) (k:Nat) (y:Nt):rchR ⟨r.ps,⟨r.net.q++[r.net.q[j]],[]⟩⟩ k y↔rchR r k y:=by
 unfold rchR
 constructor
 ·rintro(h | ⟨p,hp,hb,hr⟩)
  ·exact .inl h
  ·rcases List.mem_append.1 hp with e | e
   ·exact .inr ⟨p,e,hb,hr⟩
   ·rw [List.mem_singleton] at e
    subst e;exact .inr ⟨_,List.getElem_mem hj,hb,hr⟩
 ·rintro(h | ⟨p,hp,hb,hr⟩)
  ·exact .inl h
  ·exact .inr ⟨p,List.mem_append.2 (.inl hp),hb,hr⟩
theorem mem_erase_or{α:Type}{l:List α}{j:Nat}(hj:j<l.length){p:α}(hp:p∈l):p=l[j]∨p∈l.eraseIdx j:=by
 rw [List.eraseIdx_eq_take_drop_succ]
 rw [← List.take_append_drop j l,List.drop_eq_getElem_cons hj,List.mem_append,List.mem_cons] at hp
 rw [List.mem_append]
 rcases hp with h | h | h
 ·exact .inr (.inl h)
 ·exact .inl h
 ·exact .inr (.inr h)
theorem rch_dlv{n:Nat}{told:List Nt}{r:Rm}(h:InvR n told r) (h3:told.length≤1000){j a b:Nat}{x:Nt}(hj:j<r.net.q.length) (hq:r.net.q[j]=pcOf a b x) (hb:b<n) (hx:okNt x=true) (k:Nat) (y:Nt):rchR ⟨r.ps.set b (lrnL (r.ps.getD b []) x),⟨r.net.q.eraseIdx j,[]⟩⟩ k y↔rchR r k y:=by
 have hb':b<r.ps.length:=by rw [h.len];exact hb
 have hpe:=h.pe _ (List.getElem_mem hb')
 have hmem:=(lrn_in hpe.1 hpe.2 hx h3).2 y
 have hrd:readB (pcOf (a:Int) (b:Int) x).p=some x:=readB_msgB hx
 unfold rchR
 simp only
 rw [set_getD hb',getD_ps hb']
 constructor
 ·rintro(h1 | ⟨p,hp,hpb,hr⟩)
  ·split at h1
   ·rename_i e;subst e
    rcases hmem.1 h1 with e | e
    ·exact .inl (by rw [getD_ps hb'];exact e)
    ·subst e
     exact .inr ⟨_,List.getElem_mem hj,by rw [hq];rfl,by rw [hq];exact hrd⟩
   ·exact .inl h1
  ·exact .inr ⟨p,List.mem_of_mem_eraseIdx hp,hpb,hr⟩
 ·rintro(h1 | ⟨p,hp,hpb,hr⟩)
  ·left
   split
   ·rename_i e;subst e
    rw [getD_ps hb'] at h1
    exact hmem.2 (.inl h1)
   ·exact h1
  ·rcases mem_erase_or hj hp with e | e
   ·left
    subst e
    rw [hq] at hpb hr
    have e1:b=k:=Int.ofNat.inj hpb
    subst e1
    rw [hrd] at hr
    injection hr with hr
    rw [if_pos rfl]
    exact hmem.2 (.inr hr.symm)
   ·exact .inr ⟨p,e,hpb,hr⟩
def actS (s:Rm×List Nt) (m:Mv):Rm×List Nt:=if (mvR s.1 m).2=0 then ((mvR s.1 m).1,if m.kind=1 then lrnL s.2 m.note else s.2) else s
structure ActI (n k:Nat) (s:Rm×List Nt):Prop where
 inv:InvR n s.2 s.1
 ok:okNs none s.2=true
 tl:s.2.length≤k
 ql:s.1.net.q.length≤14*k
 kn:∀ x∈s.2,∃ i,i<n∧x∈s.1.ps.getD i []
theorem act_new{n:Nat}(h1:1≤n) (h2:n≤4):newR n=(⟨List.replicate n [],⟨[],[]⟩⟩,0)∧ActI n 0 (⟨List.replicate n [],⟨[],[]⟩⟩,[]):=by
 refine⟨?_,⟨by simp,rfl,fun l hl=>?_,fun p hp=>?_⟩,rfl,Nat.le_refl _,Nat.le_refl _,fun x hx=>?_⟩
 ·unfold newR
  rw [if_neg (by omega),Int.toNat_natCast]
 ·rw [List.eq_of_mem_replicate hl]
  exact⟨rfl,fun x hx=>by cases hx⟩
 ·cases hp
 ·cases hx
inductive ActR (n k:Nat) (s:Rm×List Nt) (m:Mv):Prop
 | no (e:Int) (he:e≠0) (hm:mvR s.1 m=(zRm,e)) (hs:actS s m=s) (hi:ActI n (k+1) s)
 | yes (x:Rm) (t:List Nt) (hm:mvR s.1 m=(x,0)) (ht:t=if m.kind=1 then lrnL s.2 m.note else s.2) (hs:actS s m=(x,t)) (hi:ActI n (k+1) (x,t)) (hn:x.ps.length=n) (hq:x.net.q.length≤200) (ho:m.kind=1→okNt m.note=true∧lrnE s.2 m.note=0)
theorem act_step{n k:Nat}{s:Rm×List Nt}(m:Mv) (h:ActI n k s) (h1:1≤n) (h2:n≤4) (hk:k<14):ActR n k s m:=by
 have t1:=h.tl
 have t2:=h.ql
 rcases mv_all (m:=m) h.inv h1 (by omega) (by omega) (by omega) with ⟨e,he,hm⟩ | ⟨x,hst,hm⟩
 ·refine .no e he hm (by unfold actS;rw [hm];exact if_neg he) ⟨h.inv,h.ok,by omega,by omega,h.kn⟩
 ·have hsA:actS s m=(x,if m.kind=1 then lrnL s.2 m.note else s.2):=by unfold actS;rw [hm];exact if_pos rfl
  have hl:=step_len h.inv hst (by omega) (K:=14) (by omega) (by omega) (by omega)
  by_cases k1:m.kind=1
  ·obtain⟨i,hi,hmem,ho⟩:=step_told h.inv hst (by omega) k1
   have hE:lrnE s.2 m.note=0:=lrn_small (by omega)
   obtain⟨a,b,c,d⟩:=lrn_ok h.ok ho hE
   have hinv:=step_inv h.inv hst (by omega) (told':=lrnL s.2 m.note) (fun y hy=>(b y).2 (.inl hy)) (fun _=>(b _).2 (.inr rfl))
   refine .yes x (lrnL s.2 m.note) hm (by rw [if_pos k1]) (by rw [hsA,if_pos k1]) ⟨hinv,a,by simp only;omega,by simp only;omega,fun y hy=>?_⟩ hinv.len (by omega) (fun _=>⟨ho,hE⟩)
   rcases (b y).1 hy with e | e
   ·obtain⟨i',hi',hy'⟩:=h.kn y e
    exact⟨i',hi',step_mono h.inv hst (by omega) i' y hy'⟩
   ·subst e;exact⟨i,hi,hmem⟩
  ·have hinv:=step_inv h.inv hst (by omega) (told':=s.2) (fun y hy=>hy) (fun e=>absurd e k1)
   refine .yes x s.2 hm (by rw [if_neg k1]) (by rw [hsA,if_neg k1]) ⟨hinv,h.ok,by simp only;omega,by simp only;omega,fun y hy=>?_⟩ hinv.len (by omega) (fun e=>absurd e k1)
   obtain⟨i',hi',hy'⟩:=h.kn y hy
   exact⟨i',hi',step_mono h.inv hst (by omega) i' y hy'⟩
def act0 (n:Nat):Rm×List Nt:=(⟨List.replicate n [],⟨[],[]⟩⟩,[])
def actL (n:Nat) (l:List Mv):Rm×List Nt:=l.foldl actS (act0 n)
theorem actL_succ{n:Nat}{l:List Mv}{k:Nat}(h:k<l.length):actL n (l.take (k+1))=actS (actL n (l.take k)) l[k]:=by
 unfold actL
 rw [List.take_succ_eq_append_getElem h,List.foldl_append];rfl
theorem actL_inv{n:Nat}(h1:1≤n) (h2:n≤4) (l:List Mv) (hl:l.length≤14):∀ k,k≤l.length→ActI n k (actL n (l.take k))
 | 0,_=>(act_new h1 h2).2
 | k+1,hk=>by
  rw [actL_succ (by omega)]
  cases act_step l[k] (actL_inv h1 h2 l hl k (by omega)) h1 h2 (by omega) with
  | no e he hm hs hi=>rw [hs];exact hi
  | yes x t hm ht hs hi=>rw [hs];exact hi
theorem actL_all{n:Nat}(h1:1≤n) (h2:n≤4) (l:List Mv) (hl:l.length≤14):ActI n 14 (actL n l):=by
 have h:=actL_inv h1 h2 l hl l.length (Nat.le_refl _)
 rw [List.take_length] at h
 have t1:=h.tl
 have t2:=h.ql
 exact⟨h.inv,h.ok,by omega,by omega,h.kn⟩
noncomputable def rchB (r:Rm) (k:Nat) (y:Nt):Bool:=@decide (rchR r k y) (Classical.propDecidable _)
theorem rchB_iff{r:Rm}{k:Nat}{y:Nt}:rchB r k y=true↔rchR r k y:=by unfold rchB;exact @decide_eq_true_iff _ (Classical.propDecidable _)
noncomputable def drnR (n:Nat) (told:List Nt) (r:Rm):Rm:=⟨(List.range n).map fun k=>told.filter fun y=>rchB r k y,⟨[],[]⟩⟩
theorem drn_end{n:Nat}{told:List Nt}{r0 r:Rm}(h:InvR n told r) (hok:okNs none told=true) (hr:∀ k y,rchR r k y↔rchR r0 k y) (hq:r.net.q=[]):r=drnR n told r0:=by
 have hc:=h.cut
 have hl:=h.len
 have hps:r.ps=(drnR n told r0).ps:=by
  refine List.ext_getElem (by simp [drnR,hl]) fun k hk hk2=>?_
  have hpe:=h.pe _ (List.getElem_mem hk)
  simp only [drnR,List.getElem_map,List.getElem_range]
  refine okNs_ext hpe.1 (okNs_mk (fun y hy=>okNs_ok hok y (List.mem_filter.1 hy).1) ((okNs_pw hok).filter _)) fun y=>?_
  rw [List.mem_filter,rchB_iff,← hr k y]
  unfold rchR
  rw [getD_ps hk,hq]
  constructor
  ·exact fun hy=>⟨hpe.2 y hy,.inl hy⟩
  ·rintro⟨_,hy | ⟨p,hp,_⟩⟩
   ·exact hy
   ·cases hp
 cases r with
 | mk ps net =>
  cases net with
  | mk q c =>
   simp only at hps hq hc
   subst hps hq hc
   rfl
theorem drn_all{n:Nat}{told:List Nt}{r:Rm}(h:∀ k,k<n→∀ y∈told,rchR r k y):drnR n told r=⟨List.replicate n told,⟨[],[]⟩⟩:=by
 unfold drnR
 congr 1
 refine List.ext_getElem (by simp) fun k hk hk2=>?_
 simp only [List.getElem_map,List.getElem_range,List.getElem_replicate]
 refine List.filter_eq_self.2 fun y hy=>?_
 rw [rchB_iff]
 exact h k (by simpa using hk) y hy
theorem drn_dlv{n:Nat}{told:List Nt}{r r0:Rm}{m:Mv}(h:InvR n told r) (h1:1≤n) (h2:n≤24) (h3:told.length≤1000) (h4:r.net.q.length≤2000) (hr:∀ k y,rchR r k y↔rchR r0 k y) (hk:m.kind=3){j:Nat}(hm:m.at_=j) (hj:j<r.net.q.length):∃ x,mvR r m=(x,0)∧InvR n told x∧(∀ k y,rchR x k y↔rchR r0 k y)∧x.ps.length=n∧x.net.q.length+1=r.net.q.length:=by
 obtain⟨a,b,y,e1,e2,e3,e4,e5,e6,e7⟩:=mv_dlv h h1 h2 h3 h4 hk hm hj
 have hi:=step_inv (m:=m) h (.dlv j a b y hk hj e1 e3 e6 e5) h3 (told':=told) (fun _ hy=>hy) (fun e=>by omega)
 refine⟨_,e7,hi,fun k z=>(rch_dlv h h3 hj e1 e3 e6 k z).trans (hr k z),hi.len,?_⟩
 simp only
 rw [List.length_eraseIdx_of_lt hj]
 omega
theorem drn_rep{n:Nat}{told:List Nt}{r r0:Rm}{m:Mv}(h:InvR n told r) (h1:1≤n) (h2:n≤24) (h3:told.length≤1000) (h4:r.net.q.length≤2000) (hr:∀ k y,rchR r k y↔rchR r0 k y) (hk:m.kind=5){j:Nat}(hm:m.at_=j) (hj:j<r.net.q.length):∃ x,mvR r m=(x,0)∧InvR n told x∧(∀ k y,rchR x k y↔rchR r0 k y)∧x.ps.length=n∧x.net.q.length=r.net.q.length+1:=by
 have e7:=mv_rep h h1 h2 h3 h4 hk hm hj
 have hi:=step_inv (m:=m) h (.rep j hk hj) h3 (told':=told) (fun _ hy=>hy) (fun e=>by omega)
 refine⟨_,e7,hi,fun k z=>(rch_rep hj k z).trans (hr k z),hi.len,?_⟩
 simp only [List.length_append,List.length_singleton]
theorem drn_sync{n:Nat}{told:List Nt}{r:Rm}{m:Mv}(h:InvR n told r) (h1:1≤n) (h2:n≤24) (h3:told.length≤1000) (h4:r.net.q.length≤2000) (hk:m.kind=2){i k:Nat}(hp:m.peer=i) (ht:m.to=k) (hi:i<n) (hkn:k<n) (hne:i≠k):∃ x,mvR r m=(x,0)∧InvR n told x∧x.ps=r.ps∧(∀ k y,rchR r k y→rchR x k y)∧(∀ y∈r.ps.getD i [],rchR x k y)∧x.net.q.length=r.net.q.length+(r.ps.getD i []).length:=by
 have e7:=mv_sync h h1 h2 h3 h4 hk hp ht hi hkn hne
 have hinv:=step_inv (m:=m) h (.sync i k hk hi hkn hne) h3 (told':=told) (fun _ hy=>hy) (fun e=>by omega)
 refine⟨_,e7,hinv,rfl,fun k y=>?_,fun y hy=>?_,?_⟩
 ·rintro(hy | ⟨p,hq,hb,hr⟩)
  ·exact .inl hy
  ·exact .inr ⟨p,List.mem_append.2 (.inl hq),hb,hr⟩
 ·refine .inr ⟨pcOf i k y,List.mem_append.2 (.inr (List.mem_map.2 ⟨y,hy,rfl⟩)),rfl,?_⟩
  have hi':i<r.ps.length:=by rw [h.len];exact hi
  rw [getD_ps hi'] at hy
  exact readB_msgB (okNs_ok (h.pe _ (List.getElem_mem hi')).1 y hy)
 ·simp only [List.length_append,List.length_map]
theorem seenE_0{l:List Nt}{lang:Int}(h:okPe l=true) (h1:0≤lang) (h2:lang<32):seenE l lang=0:=by
 unfold seenE
 rw [if_neg (by rw [h];simp),if_neg (by omega)]
end

section
attribute [local simp] dZ_agg dZ_nt dZ_noTup dZ_cells dZ_one bz_toList bz_size strV dSp_cells dSp_isAgg dSp_noTup dSp_nt dCh_cells dCh_isAgg dCh_noTup dCh_nt dNt_cells dNt_isAgg dNt_noTup dNt_nt dPe_cells dPe_isAgg dPe_noTup dPe_nt dRm_cells dRm_isAgg dRm_noTup dRm_nt dPc_cells dPc_agg dPc_noTup dNw_cells dNw_agg dNw_noTup dMv_cells dMv_isAgg dMv_noTup dMv_nt
set_option maxRecDepth 8000
set_option maxHeartbeats 4000000
inductive C584:FuncId→List D→Out→Prop
 | new (n:Nat) (h1:1≤n) (h2:n≤4):C584 14 [dI n] (.ret (.tup [dRm (act0 n).1,dI 0]))
 | mv (r:Rm) (m:Mv) (hs:smR r):C584 12 [dRm r,dMv m] (.ret (.tup [dRm (mvR r m).1,dI (mvR r m).2]))
 | lrn (l:List Nt) (n:Nt) (hl:okNs none l=true) (hn:okNt n=true) (hlen:l.length≤100000):C584 54 [.sl 7 (l.map dNt),dNt n] (.ret (.tup [.sl 7 ((lrnL l n).map dNt),dI (lrnE l n)]))
theorem h584:∀ f ds out,C584 f ds out→PCall Tryz.prog f ds out:=by
 intro f ds out h
 cases h with
 | new n h1 h2=>have:=sNew n;rw [(act_new h1 h2).1] at this;exact this
 | mv r m hs=>exact sDo r m hs
 | lrn l n hl hn hlen=>exact rLearn l n hl hn hlen
theorem lActed(n:Nat) (h1:1≤n) (h2:n≤4) (l:List Mv) (hl:l.length≤14):PCall Tryz.prog 22 [dI n,.sl 11 (l.map dMv)] (.ret (.tup [dRm (actL n l).1,.sl 7 ((actL n l).2.map dNt),dB true])):=by
 refine pcall_of_vc h584 c22 (by simp [a22]) fun hr=>?_
 have k1:=C584.new n h1 h2
 have hz:(act0 n).1.ps.length=n:=by simp [act0]
 simp [a22]
 refine vc_path [.ret (.tup [dRm (act0 n).1,dI 0])] ?_
 simp
 refine⟨k1,?_⟩
 refine vc_path [] ?_
 simp [hz]
 refine vc_loopK [0,4,6,27,28] (Nat×Rm×List Nt) (fun y=>[(29,true,.d (dI y.1)),(5,true,.d (.sl 7 (y.2.2.map dNt)))]) (fun y=>[(0,.box true ((dRm y.2.1).cells.map .d))]) (fun y=>y.1≤l.length∧actL n (l.take y.1)=y.2) (fun y=>l.length-y.1) (0,act0 n) ⟨Nat.zero_le _,rfl⟩ ⟨[],[],?_⟩ (fun y hy=>?_)
 ·simp
  exact LeD.nil' 7 7
 obtain⟨k,r,t⟩:=y
 obtain⟨i1,i2⟩:=hy
 simp only at i1 i2
 have hI:=actL_inv h1 h2 l hl k i1
 rw [i2] at hI
 simp
 refine⟨fun hlt=>?_,fun hge=>?_⟩
 ·have hS:=actL_succ (n:=n) hlt
  rw [i2] at hS
  have tl:t.length≤k:=hI.tl
  have ql:r.net.q.length≤14*k:=hI.ql
  have inv:InvR n t r:=hI.inv
  have k2:=C584.mv r l[k] (inv_sm inv (by omega) (by omega))
  have hw0:IntKind.i64.wrap 0=0:=wrap64 (by omega)
  have hw:IntKind.i64.wrap ((k:Int)+1)=(k:Int)+1:=wrap64 (by omega)
  cases act_step l[k] hI h1 h2 (by omega) with
  | no e he hm hs hi =>
   rw [hs] at hS
   rw [hm] at k2
   simp [hlt]
   refine vc_path [.ret (.tup [dRm zRm,dI e])] ?_
   simp
   refine⟨k2,?_⟩
   simp [he,zRm,hw,hw0]
   refine⟨k+1,r,t,⟨by omega,hS⟩,by omega,[],[],?_⟩
   simp
  | yes x t' hm ht hs hi hn hq ho =>
   rw [hs] at hS
   rw [hm] at k2
   simp [hlt]
   refine vc_path [.ret (.tup [dRm x,dI 0])] ?_
   simp
   refine⟨k2,?_⟩
   have hq':¬ (200:Int)<(x.net.q.length:Int):=by omega
   refine vc_path [] ?_
   simp [hn,hq']
   by_cases k1:l[k].kind=1
   ·obtain⟨ho1,ho2⟩:=ho k1
    rw [if_pos k1] at ht
    have k3:=C584.lrn t l[k].note hI.ok ho1 (by omega)
    rw [ho2] at k3
    simp only at ht
    rw [← ht] at k3
    simp [k1]
    refine vc_path [.ret (.tup [.sl 7 (t'.map dNt),dI 0])] ?_
    simp [hw]
    refine⟨k3,k+1,x,t',⟨by omega,hS⟩,by omega,[],[],?_⟩
    simp
   ·rw [if_neg k1] at ht
    simp only at ht
    subst ht
    simp [k1,hw]
    refine⟨k+1,x,t',⟨by omega,hS⟩,by omega,[],[],?_⟩
    simp
 ·have e:k=l.length:=by omega
  rw [e,List.take_length] at i2
  rw [i2]
  exact⟨leD_of_eq rfl,leD_of_eq rfl⟩
inductive C585:FuncId→List D→Out→Prop
 | mv (r:Rm) (m:Mv) (hs:smR r):C585 12 [dRm r,dMv m] (.ret (.tup [dRm (mvR r m).1,dI (mvR r m).2]))
theorem h585:∀ f ds out,C585 f ds out→PCall Tryz.prog f ds out:=by
 intro f ds out h
 cases h with
 | mv r m hs=>exact sDo r m hs
def mvAt (k:Int) (hk:-9223372036854775808≤k∧k<9223372036854775808) (j:Int):Mv:=⟨k,0,0,j,zNt,hk⟩
theorem lDrained(n:Nat) (told:List Nt) (r:Rm) (hI:InvR n told r) (h1:1≤n) (h2:n≤24) (h3:told.length≤1000) (h4:r.net.q.length≤1000) (hok:okNs none told=true) (o:List UInt8) (ho:o.length≤100):PCall Tryz.prog 23 [dRm r,.sl 1 (o.map dU)] (.ret (.tup [dRm (drnR n told r),dB true])):=by
 refine pcall_of_vc h585 c23 (by simp [a23]) fun hr=>?_
 simp [a23,hI.len]
 refine vc_loopK [1,2,4,5,6] (Nat×Rm) (fun y=>[(7,true,.d (dI y.1))]) (fun y=>[(0,.box true ((dRm y.2).cells.map .d))]) (fun y=>InvR n told y.2∧(∀ k z,rchR y.2 k z↔rchR r k z)∧y.2.net.q.length≤1000∧y.1+(y.2.net.q.length+(o.length-y.1))≤1100) (fun y=>y.2.net.q.length+(o.length-y.1)) (0,r) ⟨hI,fun _ _=>Iff.rfl,h4,by simp only;omega⟩ ⟨[],[],?_⟩ (fun y hy=>?_)
 ·simp
 obtain⟨i,x⟩:=y
 obtain⟨i1,i2,i3,i4⟩:=hy
 simp only at i1 i2 i3 i4
 simp
 refine⟨fun hlt=>?_,fun hge=>?_⟩
 ·have hw:IntKind.i64.wrap ((i:Int)+1)=(i:Int)+1:=wrap64 (by omega)
  by_cases hi:i<o.length
  ·have hi':(i:Int)<(o.length:Int):=by omega
   have hi2:¬ o.length≤i:=by omega
   have hu:IntKind.i64.wrap (o[i].toNat:Int)=(o[i].toNat:Int):=wrap64 (by have:=o[i].toNat_lt;omega)
   simp [hi',hi,hi2,dU,hu]
   refine vc_path [] ?_
   by_cases hb:200≤o[i].toNat
   ·have hb2:¬ o[i].toNat<200:=by omega
    have hb':(200:Int)≤(o[i].toNat:Int):=by omega
    simp [hi',hi,hi2,dU,hb,hb2,hb']
    obtain⟨z,z1,z2,z3,z4,z5⟩:=drn_rep (m:=mvAt 5 (by omega) (Int.tmod (o[i].toNat:Int) (x.net.q.length:Int))) i1 h1 h2 h3 (by omega) i2 rfl (j:=o[i].toNat % x.net.q.length) (Int.ofNat_tmod _ _).symm (Nat.mod_lt _ hlt)
    have hx0:¬ x.net.q=[]:=fun e=>by have h:=hlt;rw [e] at h;exact absurd h (Nat.lt_irrefl 0)
    have kz:=C585.mv x (mvAt 5 (by omega) (Int.tmod (o[i].toNat:Int) (x.net.q.length:Int))) (inv_sm i1 h3 (by omega))
    rw [z1] at kz
    have hw3:IntKind.i64.wrap ((x.net.q.length:Int)+1)=(x.net.q.length:Int)+1:=wrap64 (by omega)
    have hz1:(z.net.q.length:Int)=(x.net.q.length:Int)+1:=by omega
    have hz0:0<z.net.q.length:=by omega
    refine vc_pathD [.ret (.tup [dRm z,dI 0])] ?_
    simp [hx0]
    refine⟨kz,rfl,?_⟩
    refine vc_path [] ?_
    simp [z4,hw3,hz1]
    have hz9:¬ z.net.q=[]:=fun e=>by have h:=hz0;rw [e] at h;exact absurd h (Nat.lt_irrefl 0)
    have hwx:IntKind.i64.wrap (x.net.q.length:Int)=(x.net.q.length:Int):=wrap64 (by omega)
    obtain⟨y,m1,m2,m3,m4,m5⟩:=drn_dlv (m:=mvAt 3 (by omega) (Int.tmod (o[i].toNat:Int) ((x.net.q.length:Int)+1))) z2 h1 h2 h3 (by omega) z3 rfl (j:=o[i].toNat % z.net.q.length) (by rw [← hz1];exact(Int.ofNat_tmod _ _).symm) (Nat.mod_lt _ hz0)
    have k2:=C585.mv z (mvAt 3 (by omega) (Int.tmod (o[i].toNat:Int) ((x.net.q.length:Int)+1))) (inv_sm z2 h3 (by omega))
    rw [m1] at k2
    have hq1:(y.net.q.length:Int)=(x.net.q.length:Int):=by omega
    have hnz:¬ (x.net.q.length:Int)+1=0:=by omega
    refine vc_pathD [.ret (.tup [dRm y,dI 0])] ?_
    simp [hz9,hnz]
    refine⟨k2,rfl,?_⟩
    refine vc_path [] ?_
    simp [m4,hwx,hq1,hw]
    refine⟨i+1,y,⟨m2,m3,by omega,by omega⟩,by omega,[],[],?_⟩
    simp
   ·have hb2:o[i].toNat<200:=by omega
    have hb':¬ (200:Int)≤(o[i].toNat:Int):=by omega
    simp [hi',hi,hi2,dU,hb,hb2,hb']
    have hq0:¬ x.net.q=[]:=fun e=>by have h:=hlt;rw [e] at h;exact absurd h (Nat.lt_irrefl 0)
    have hw2:IntKind.i64.wrap ((x.net.q.length:Int)-1)=(x.net.q.length:Int)-1:=wrap64 (by omega)
    obtain⟨y,m1,m2,m3,m4,m5⟩:=drn_dlv (m:=mvAt 3 (by omega) (Int.tmod (o[i].toNat:Int) (x.net.q.length:Int))) i1 h1 h2 h3 (by omega) i2 rfl (j:=o[i].toNat % x.net.q.length) (Int.ofNat_tmod _ _).symm (Nat.mod_lt _ hlt)
    have k2:=C585.mv x (mvAt 3 (by omega) (Int.tmod (o[i].toNat:Int) (x.net.q.length:Int))) (inv_sm i1 h3 (by omega))
    rw [m1] at k2
    have hq1:(y.net.q.length:Int)=(x.net.q.length:Int)-1:=by omega
    refine vc_pathD [.ret (.tup [dRm y,dI 0])] ?_
    simp [hq0]
    refine⟨k2,rfl,?_⟩
    refine vc_path [] ?_
    simp [m4,hw2,hq1,hw]
    refine⟨i+1,y,⟨m2,m3,by omega,by omega⟩,by omega,[],[],?_⟩
    simp
  ·have hi':¬ (i:Int)<(o.length:Int):=by omega
   have hi2:o.length≤i:=by omega
   simp [hi',hi,hi2]
   refine vc_path [] ?_
   simp [hi',hi,hi2]
   have hq0:¬ x.net.q=[]:=fun e=>by have h:=hlt;rw [e] at h;exact absurd h (Nat.lt_irrefl 0)
   have hw2:IntKind.i64.wrap ((x.net.q.length:Int)-1)=(x.net.q.length:Int)-1:=wrap64 (by omega)
   obtain⟨y,m1,m2,m3,m4,m5⟩:=drn_dlv (m:=mvAt 3 (by omega) 0) i1 h1 h2 h3 (by omega) i2 rfl (j:=0) rfl hlt
   have k2:=C585.mv x (mvAt 3 (by omega) 0) (inv_sm i1 h3 (by omega))
   rw [m1] at k2
   have hq1:(y.net.q.length:Int)=(x.net.q.length:Int)-1:=by omega
   refine vc_pathD [.ret (.tup [dRm y,dI 0])] ?_
   simp [hq0]
   refine⟨k2,rfl,?_⟩
   refine vc_path [] ?_
   simp [m4,hw2,hq1,hw]
   refine⟨i+1,y,⟨m2,m3,by omega,by omega⟩,by omega,[],[],?_⟩
   simp
 ·rw [← drn_end i1 hok i2 hge]
  exact leD_of_eq rfl
def manyN (g:Int):Nat:=1+g.toNat % 4
theorem manyN_r{g:Int}(h0:0≤g):1≤manyN g∧manyN g≤4∧IntKind.i64.wrap (1+Int.tmod g 4)=(manyN g:Int):=by
 have h:g.toNat % 4<4:=Nat.mod_lt _ (by omega)
 have e:Int.tmod g 4=((g.toNat % 4:Nat):Int):=by
  have:g=(g.toNat:Int):=by omega
  rw [this];exact(Int.ofNat_tmod _ _).symm
 unfold manyN
 refine⟨by omega,by omega,?_⟩
 rw [e,wrap64 (by omega)];omega
inductive C590:FuncId→List D→Out→Prop
 | sane:C590 10 [] (.ret (dB true))
 | acted (n:Nat) (h1:1≤n) (h2:n≤4) (l:List Mv) (hl:l.length≤14):C590 22 [dI n,.sl 11 (l.map dMv)] (.ret (.tup [dRm (actL n l).1,.sl 7 ((actL n l).2.map dNt),dB true]))
 | drn (n:Nat) (h1:1≤n) (h2:n≤4) (l:List Mv) (hl:l.length≤14) (o:List UInt8) (ho:o.length≤100):C590 23 [dRm (actL n l).1,.sl 1 (o.map dU)] (.ret (.tup [dRm (drnR n (actL n l).2 (actL n l).1),dB true]))
 | drn0 (n:Nat) (h1:1≤n) (h2:n≤4) (l:List Mv) (hl:l.length≤14):C590 23 [dRm (actL n l).1,.nil 0] (.ret (.tup [dRm (drnR n (actL n l).2 (actL n l).1),dB true]))
 | same (x y:Rm):C590 18 [dRm x,dRm y] (.ret (dB (decide (x=y))))
theorem h590:∀ f ds out,C590 f ds out→PCall Tryz.prog f ds out:=by
 have key:∀ (n:Nat) (h1:1≤n) (h2:n≤4) (l:List Mv) (hl:l.length≤14) (o:List UInt8) (ho:o.length≤100),PCall Tryz.prog 23 [dRm (actL n l).1,.sl 1 (o.map dU)] (.ret (.tup [dRm (drnR n (actL n l).2 (actL n l).1),dB true])):=fun n h1 h2 l hl o ho=>by
  have hI:=actL_all h1 h2 l hl
  have tl:=hI.tl
  have ql:=hI.ql
  exact lDrained n _ _ hI.inv h1 (by omega) (by omega) (by omega) hI.ok o ho
 intro f ds out h
 cases h with
 | sane=>exact lSane
 | acted n h1 h2 l hl=>exact lActed n h1 h2 l hl
 | drn n h1 h2 l hl o ho=>exact key n h1 h2 l hl o ho
 | drn0 n h1 h2 l hl=>exact(key n h1 h2 l hl [] (by simp)).le (.cons (LeD.refl _) (.cons (LeD.nil' 0 1) .nil))
 | same x y=>exact rSameR x y
theorem lOrder(g:Int) (g0:0≤g) (g1:g≤255) (l:List Mv) (o:List UInt8):PCall Tryz.prog 7 [.lit (.int .u8 g),.sl 11 (l.map dMv),.sl 1 (o.map dU)] (.ret (dB true)):=by
 refine pcall_of_vc h590 c7 (by simp [a7]) fun hr=>?_
 obtain⟨n1,n2,n3⟩:=manyN_r g0
 have hwg:IntKind.i64.wrap g=g:=wrap64 (by omega)
 simp [a7]
 refine vc_path [.ret (dB true)] ?_
 simp
 refine⟨.sane,?_⟩
 refine vc_path [] ?_
 by_cases hl:l.length≤14
 case neg =>
  have hl':(14:Int)<(l.length:Int):=by omega
  simp [hl']
 have hl':¬ (14:Int)<(l.length:Int):=by omega
 by_cases ho:o.length≤100
 case neg =>
  have ho':(100:Int)<(o.length:Int):=by omega
  simp [hl',ho']
 have ho':¬ (100:Int)<(o.length:Int):=by omega
 have k1:=C590.acted (manyN g) n1 n2 l hl
 have k2:=C590.drn0 (manyN g) n1 n2 l hl
 have k3:=C590.drn (manyN g) n1 n2 l hl o ho
 simp [hl',ho',hwg]
 refine vc_path [.ret (.tup [dRm (actL (manyN g) l).1,.sl 7 ((actL (manyN g) l).2.map dNt),dB true])] ?_
 simp [hwg,n3]
 refine⟨k1,?_⟩
 generalize hD:drnR (manyN g) (actL (manyN g) l).2 (actL (manyN g) l).1=X at *
 have k4:=C590.same X X
 simp at k4
 refine vc_path [.ret (.tup [dRm X,dB true])] ?_
 simp
 refine⟨k2,?_⟩
 refine vc_path [.ret (.tup [dRm X,dB true])] ?_
 simp
 refine⟨k3,?_⟩
 refine vc_path [.ret (dB true)] ?_
 simp
 exact k4
inductive KnR (n k:Nat) (r:Rm) (t:List Nt) (m:Mv):Prop
 | no (e:Int) (he:e≠0) (hm:mvR r m=(zRm,e))
 | yes (x:Rm) (t':List Nt) (hm:mvR r m=(x,0)) (ht:t'=if m.kind=1 then t++[m.note] else t) (hi:InvR n t' x) (hl:t'.length≤k+1) (hq:x.net.q.length≤14*(k+1)) (hmono:∀ i y,y∈r.ps.getD i []→y∈x.ps.getD i []) (hok:rmE x=0)
theorem kn_step{n k:Nat}{r:Rm}{t:List Nt}(m:Mv) (h:InvR n t r) (hl:t.length≤k) (hq:r.net.q.length≤14*k) (h1:1≤n) (h2:n≤4) (hk:k<14):KnR n k r t m:=by
 rcases mv_all (m:=m) h h1 (by omega) (by omega) (by omega) with ⟨e,he,hm⟩ | ⟨x,hst,hm⟩
 ·exact .no e he hm
 ·have hlen:=step_len h hst (by omega) (K:=14) (by omega) (by omega) (by omega)
  have hmono:=step_mono h hst (by omega)
  by_cases k1:m.kind=1
  ·have hinv:=step_inv h hst (by omega) (told':=t++[m.note]) (fun y hy=>List.mem_append.2 (.inl hy)) (fun _=>List.mem_append.2 (.inr (List.mem_singleton.2 rfl)))
   have hl':(t++[m.note]).length≤k+1:=by rw [List.length_append,List.length_singleton];omega
   exact .yes x _ hm (by rw [if_pos k1]) hinv hl' (by omega) hmono (rmE_0 (inv_ok hinv h1 (by omega) (by omega) (by omega)))
  ·have hinv:=step_inv h hst (by omega) (told':=t) (fun y hy=>hy) (fun e=>absurd e k1)
   exact .yes x t hm (by rw [if_neg k1]) hinv (by omega) (by omega) hmono (rmE_0 (inv_ok hinv h1 (by omega) (by omega) (by omega)))
inductive C588:FuncId→List D→Out→Prop
 | sane:C588 10 [] (.ret (dB true))
 | new (n:Nat) (h1:1≤n) (h2:n≤4):C588 14 [dI n] (.ret (.tup [dRm (act0 n).1,dI 0]))
 | mv (r:Rm) (m:Mv) (hs:smR r):C588 12 [dRm r,dMv m] (.ret (.tup [dRm (mvR r m).1,dI (mvR r m).2]))
 | chk (r:Rm):C588 16 [dRm r] (.ret (dI (rmE r)))
 | has (l:List Nt) (n:Nt):C588 25 [.sl 7 (l.map dNt),dNt n] (.ret (dB (decide (n∈l))))
theorem h588:∀ f ds out,C588 f ds out→PCall Tryz.prog f ds out:=by
 intro f ds out h
 cases h with
 | sane=>exact lSane
 | new n h1 h2=>have:=sNew n;rw [(act_new h1 h2).1] at this;exact this
 | mv r m hs=>exact sDo r m hs
 | chk r=>exact sCheck r
 | has l n=>exact lHas l n
theorem lKnown(g:Int) (g0:0≤g) (g1:g≤255) (l:List Mv):PCall Tryz.prog 6 [.lit (.int .u8 g),.sl 11 (l.map dMv)] (.ret (dB true)):=by
 refine pcall_of_vc h588 c6 (by simp [a6]) fun hr=>?_
 obtain⟨n1,n2,n3⟩:=manyN_r g0
 have hwg:IntKind.i64.wrap g=g:=wrap64 (by omega)
 simp [a6]
 refine vc_path [.ret (dB true)] ?_
 simp
 refine⟨.sane,fun hl=>?_⟩
 generalize hn:manyN g=n at *
 have hz:(act0 n).1.ps.length=n:=by simp [act0]
 have k1:=C588.new n n1 n2
 simp [hwg,n3]
 refine vc_path [.ret (.tup [dRm (act0 n).1,dI 0])] ?_
 simp [hwg,n3]
 refine⟨k1,?_⟩
 refine vc_path [] ?_
 simp [hz]
 have hInv0:=(act_new n1 n2).2.inv
 refine vc_loopK [4,5,6,42,43] (Nat×Rm×List Nt) (fun y=>[(44,true,.d (dI y.1)),(8,true,.own 1 7 (y.2.2.map dNt))]) (fun y=>[(0,.box true ((dRm y.2.1).cells.map .d)),(1,.row)]) (fun y=>y.1≤l.length∧InvR n y.2.2 y.2.1∧y.2.2.length≤y.1∧y.2.1.net.q.length≤14*y.1) (fun y=>l.length-y.1) (0,act0 n) ⟨Nat.zero_le _,hInv0,Nat.le_refl _,Nat.le_refl _⟩ ⟨[],[(1,7)],?_⟩ (fun y hy=>?_)
 ·simp
  rfl
 obtain⟨k,r,t⟩:=y
 obtain⟨i1,inv,tl,ql⟩:=hy
 simp only at i1 inv tl ql
 simp
 intro hlt
 have k2:=C588.mv r l[k] (inv_sm inv (by omega) (by omega))
 have hw:IntKind.i64.wrap ((k:Int)+1)=(k:Int)+1:=wrap64 (by omega)
 cases kn_step l[k] inv tl ql n1 n2 (by omega) with
 | no e he hm =>
  rw [hm] at k2
  simp [hlt]
  refine vc_path [.ret (.tup [dRm zRm,dI e])] ?_
  simp
  refine⟨k2,?_⟩
  simp [he,hw]
  refine⟨k+1,r,t,⟨by omega,inv,by omega,by omega⟩,by omega,[],[],?_⟩
  simp
 | yes x t' hm ht hi hl2 hq hmono hok =>
  rw [hm] at k2
  have k3:=C588.chk x
  rw [hok] at k3
  have hxl:=hi.len
  simp [hlt]
  refine vc_path [.ret (.tup [dRm x,dI 0])] ?_
  simp
  refine⟨k2,?_⟩
  refine vc_path [.ret (dI 0)] ?_
  by_cases k1:l[k].kind=1
  ·rw [if_pos k1] at ht
   simp [hxl,k1]
   refine⟨k3,⟨by omega,by omega⟩,?_⟩
   have hte:t.map dNt++[.agg [.lit (.int .i64 l[k].note.lang),.lit (.int .i64 l[k].note.seq),.lit (.int .i64 l[k].note.ch.at_),.lit (.int .i64 l[k].note.ch.kind),.lit (.int .i64 l[k].note.ch.sp.id),.lit (.int .i64 l[k].note.ch.sp.ver),dZ l[k].note.ch.sp.tx]]=t'.map dNt:=by rw [ht,List.map_append];rfl
   rw [hte]
   refine vc_loopK [4,5,6,8,11,42,43,44,75,76] Nat (fun y=>[(77,true,.d (dI y))]) (fun y=>[]) (fun y=>y≤n) (fun y=>n-y) 0 (Nat.zero_le _) ⟨[],[],?_⟩ (fun i hi9=>?_)
   ·simp
   simp
   refine⟨fun hlt2=>?_,fun hge=>?_⟩
   ·have hlt3:i<x.ps.length:=by rw [hxl];exact hlt2
    have hpe:=hi.pe _ (List.getElem_mem hlt3)
    have hpl:=inv_len hi _ (List.getElem_mem hlt3)
    have hpl':¬ t'.length<x.ps[i].length:=by omega
    have hri:i<r.ps.length:=by rw [inv.len];exact hlt2
    have hmn:∀ y∈r.ps[i],y∈x.ps[i]:=fun y hy=>by
     have:=hmono i y (by rw [getD_ps hri];exact hy)
     rw [getD_ps hlt3] at this;exact this
    have hw5:IntKind.i64.wrap ((i:Int)+1)=(i:Int)+1:=wrap64 (by omega)
    have k4:∀ y∈x.ps[i],C588 25 [.sl 7 (t'.map dNt),dNt y] (.ret (dB true)):=fun y hy=>by
     have:=C588.has t' y
     rw [decide_eq_true (hpe.2 y hy)] at this;exact this
    have k5:∀ y∈r.ps[i],C588 25 [.sl 7 (x.ps[i].map dNt),dNt y] (.ret (dB true)):=fun y hy=>by
     have:=C588.has x.ps[i] y
     rw [decide_eq_true (hmn y hy)] at this;exact this
    have z1:x.ps[i].length≤14:=by omega
    have z2:r.ps[i].length≤14:=by have:=inv_len inv _ (List.getElem_mem hri);omega
    generalize hX:x.ps[i]=X at *
    generalize hRR:r.ps[i]=RR at *
    simp [hlt2,hlt3,hX,dPe,hpl']
    refine vc_loopK [4,5,6,8,11,13,14,42,43,44,75,76,77,89,90] Nat (fun y=>[(91,true,.d (dI y))]) (fun y=>[]) (fun y=>y≤X.length) (fun y=>X.length-y) 0 (Nat.zero_le _) ⟨[],[],?_⟩ (fun j hj9=>?_)
    ·simp
    simp
    refine⟨fun hj=>?_,fun hj=>?_⟩
    ·have hw6:IntKind.i64.wrap ((j:Int)+1)=(j:Int)+1:=wrap64 (by omega)
     have k6:=k4 X[j] (List.getElem_mem hj)
     simp [hj]
     refine vc_path [.ret (dB true)] ?_
     simp [hw6]
     refine⟨k6,j+1,by omega,by omega,[],[],?_⟩
     simp
    ·simp [hri,hRR,dPe]
     refine vc_loopK [4,5,6,8,11,13,14,42,43,44,75,76,77,105,106] Nat (fun y=>[(107,true,.d (dI y))]) (fun y=>[]) (fun y=>y≤RR.length) (fun y=>RR.length-y) 0 (Nat.zero_le _) ⟨[],[],?_⟩ (fun u hu9=>?_)
     ·simp
     simp
     refine⟨fun hu=>?_,fun hu=>?_⟩
     ·have hw6:IntKind.i64.wrap ((u:Int)+1)=(u:Int)+1:=wrap64 (by omega)
      have k6:=k5 RR[u] (List.getElem_mem hu)
      simp [hu]
      refine vc_path [.ret (dB true)] ?_
      simp [hw6]
      refine⟨k6,u+1,by omega,by omega,[],[],?_⟩
      simp
     ·simp [hw5]
      refine⟨i+1,by omega,by omega,[],[],?_⟩
      simp
   ·simp [hw]
    refine⟨k+1,x,t',⟨by omega,hi,hl2,hq⟩,by omega,[(1,5)],[],?_⟩
    simp
  ·rw [if_neg k1] at ht
   simp [hxl,k1]
   refine⟨k3,?_⟩
   subst ht
   refine vc_loopK [4,5,6,8,11,42,43,44,75,76] Nat (fun y=>[(77,true,.d (dI y))]) (fun y=>[]) (fun y=>y≤n) (fun y=>n-y) 0 (Nat.zero_le _) ⟨[],[],?_⟩ (fun i hi9=>?_)
   ·simp
   simp
   refine⟨fun hlt2=>?_,fun hge=>?_⟩
   ·have hlt3:i<x.ps.length:=by rw [hxl];exact hlt2
    have hpe:=hi.pe _ (List.getElem_mem hlt3)
    have hpl:=inv_len hi _ (List.getElem_mem hlt3)
    have hpl':¬ t'.length<x.ps[i].length:=by omega
    have hri:i<r.ps.length:=by rw [inv.len];exact hlt2
    have hmn:∀ y∈r.ps[i],y∈x.ps[i]:=fun y hy=>by
     have:=hmono i y (by rw [getD_ps hri];exact hy)
     rw [getD_ps hlt3] at this;exact this
    have hw5:IntKind.i64.wrap ((i:Int)+1)=(i:Int)+1:=wrap64 (by omega)
    have k4:∀ y∈x.ps[i],C588 25 [.sl 7 (t'.map dNt),dNt y] (.ret (dB true)):=fun y hy=>by
     have:=C588.has t' y
     rw [decide_eq_true (hpe.2 y hy)] at this;exact this
    have k5:∀ y∈r.ps[i],C588 25 [.sl 7 (x.ps[i].map dNt),dNt y] (.ret (dB true)):=fun y hy=>by
     have:=C588.has x.ps[i] y
     rw [decide_eq_true (hmn y hy)] at this;exact this
    have z1:x.ps[i].length≤14:=by omega
    have z2:r.ps[i].length≤14:=by have:=inv_len inv _ (List.getElem_mem hri);omega
    generalize hX:x.ps[i]=X at *
    generalize hRR:r.ps[i]=RR at *
    simp [hlt2,hlt3,hX,dPe,hpl']
    refine vc_loopK [4,5,6,8,11,13,14,42,43,44,75,76,77,89,90] Nat (fun y=>[(91,true,.d (dI y))]) (fun y=>[]) (fun y=>y≤X.length) (fun y=>X.length-y) 0 (Nat.zero_le _) ⟨[],[],?_⟩ (fun j hj9=>?_)
    ·simp
    simp
    refine⟨fun hj=>?_,fun hj=>?_⟩
    ·have hw6:IntKind.i64.wrap ((j:Int)+1)=(j:Int)+1:=wrap64 (by omega)
     have k6:=k4 X[j] (List.getElem_mem hj)
     simp [hj]
     refine vc_path [.ret (dB true)] ?_
     simp [hw6]
     refine⟨k6,j+1,by omega,by omega,[],[],?_⟩
     simp
    ·simp [hri,hRR,dPe]
     refine vc_loopK [4,5,6,8,11,13,14,42,43,44,75,76,77,105,106] Nat (fun y=>[(107,true,.d (dI y))]) (fun y=>[]) (fun y=>y≤RR.length) (fun y=>RR.length-y) 0 (Nat.zero_le _) ⟨[],[],?_⟩ (fun u hu9=>?_)
     ·simp
     simp
     refine⟨fun hu=>?_,fun hu=>?_⟩
     ·have hw6:IntKind.i64.wrap ((u:Int)+1)=(u:Int)+1:=wrap64 (by omega)
      have k6:=k5 RR[u] (List.getElem_mem hu)
      simp [hu]
      refine vc_path [.ret (dB true)] ?_
      simp [hw6]
      refine⟨k6,u+1,by omega,by omega,[],[],?_⟩
      simp
     ·simp [hw5]
      refine⟨i+1,by omega,by omega,[],[],?_⟩
      simp
   ·simp [hw]
    refine⟨k+1,x,t',⟨by omega,hi,hl2,hq⟩,by omega,[],[],?_⟩
    simp
def mvSync (i k:Nat):Mv:=⟨2,i,k,0,zNt,by omega⟩
inductive C589:FuncId→List D→Out→Prop
 | sane:C589 10 [] (.ret (dB true))
 | acted (n:Nat) (h1:1≤n) (h2:n≤4) (l:List Mv) (hl:l.length≤14):C589 22 [dI n,.sl 11 (l.map dMv)] (.ret (.tup [dRm (actL n l).1,.sl 7 ((actL n l).2.map dNt),dB true]))
 | mv (r:Rm) (m:Mv) (hs:smR r):C589 12 [dRm r,dMv m] (.ret (.tup [dRm (mvR r m).1,dI (mvR r m).2]))
 | drn (n:Nat) (told:List Nt) (r:Rm) (hI:InvR n told r) (h1:1≤n) (h2:n≤24) (h3:told.length≤1000) (h4:r.net.q.length≤1000) (hok:okNs none told=true) (o:List UInt8) (ho:o.length≤100):C589 23 [dRm r,.sl 1 (o.map dU)] (.ret (.tup [dRm (drnR n told r),dB true]))
 | notes (x y:List Nt):C589 24 [.sl 7 (x.map dNt),.sl 7 (y.map dNt)] (.ret (dB (decide (x=y))))
 | seen (l:List Nt) (lang:Int):C589 19 [dPe l,dI lang] (.ret (.tup [.sl 3 ((seenR l lang).1.map dSp),dI (seenR l lang).2,dI (seenE l lang)]))
 | same (x y:List Sp):C589 21 [.sl 3 (x.map dSp),.sl 3 (y.map dSp)] (.ret (dB (decide (x=y))))
theorem h589:∀ f ds out,C589 f ds out→PCall Tryz.prog f ds out:=by
 intro f ds out h
 cases h with
 | sane=>exact lSane
 | acted n h1 h2 l hl=>exact lActed n h1 h2 l hl
 | mv r m hs=>exact sDo r m hs
 | drn n told r hI h1 h2 h3 h4 hok o ho=>exact lDrained n told r hI h1 h2 h3 h4 hok o ho
 | notes x y=>exact rSameN x y
 | seen l lang=>exact sSeen l lang
 | same x y=>exact rSame49 x y
structure SynI (n:Nat) (told:List Nt) (r0:Rm) (i k:Nat) (r:Rm):Prop where
 inv:InvR n told r
 ps:r.ps=r0.ps
 old:∀ i',i'<i→∀ k',k'<n→∀ y∈r0.ps.getD i' [],rchR r k' y
 cur:∀ k',k'<k→∀ y∈r0.ps.getD i [],rchR r k' y
 ql:r.net.q.length≤196+56*i+14*k
theorem syn_next{n:Nat}{told:List Nt}{r0 r:Rm}{i:Nat}(h:SynI n told r0 i n r) (hn:n≤4):SynI n told r0 (i+1) 0 r:=⟨h.inv,h.ps,fun i' hi' k' hk' y hy=>by
  by_cases e:i'=i
  ·subst e;exact h.cur k' hk' y hy
  ·exact h.old i' (by omega) k' hk' y hy,fun k' hk'=>absurd hk' (Nat.not_lt_zero _),by have:=h.ql;omega⟩
theorem syn_self{n:Nat}{told:List Nt}{r0 r:Rm}{i:Nat}(h:SynI n told r0 i i r):SynI n told r0 i (i+1) r:=⟨h.inv,h.ps,h.old,fun k' hk' y hy=>by
  by_cases e:k'=i
  ·subst e;exact .inl (by rw [h.ps];exact hy)
  ·exact h.cur k' (by omega) y hy,by have:=h.ql;omega⟩
theorem syn_step{n:Nat}{told:List Nt}{r0 r:Rm}{i k:Nat}(h:SynI n told r0 i k r) (h1:1≤n) (hn:n≤4) (ht:told.length≤14) (hi:i<n) (hk:k<n) (hne:i≠k):∃ x,mvR r (mvSync i k)=(x,0)∧SynI n told r0 i (k+1) x∧x.ps.length=n∧x.net.q.length=r.net.q.length+(r.ps.getD i []).length∧x.net.q.length≤2000:=by
 have hq:=h.ql
 obtain⟨x,e1,e2,e3,e4,e5,e6⟩:=drn_sync (m:=mvSync i k) h.inv h1 (by omega) (by omega) (by omega) rfl rfl rfl hi hk hne
 have hi':i<r.ps.length:=by rw [h.inv.len];exact hi
 have hl:=inv_len h.inv _ (List.getElem_mem hi')
 have hg:(r.ps.getD i []).length≤14:=by rw [getD_ps hi'];omega
 refine⟨x,e1,⟨e2,e3.trans h.ps,fun i' hi' k' hk' y hy=>e4 k' y (h.old i' hi' k' hk' y hy),fun k' hk' y hy=>?_,by omega⟩,e2.len,e6,by omega⟩
 by_cases e:k'=k
 ·subst e;exact e5 y (by rw [h.ps];exact hy)
 ·exact e4 k' y (h.cur k' (by omega) y hy)
theorem syn_end{n:Nat}{told:List Nt}{r0 r:Rm}(h:SynI n told r0 n 0 r) (hk:∀ x∈told,∃ i,i<n∧x∈r0.ps.getD i []):drnR n told r=⟨List.replicate n told,⟨[],[]⟩⟩:=drn_all fun k hkn y hy=>by
 obtain⟨i,hi,hm⟩:=hk y hy
 exact h.old i hi k hkn y hm
theorem lConverge(g:Int) (g0:0≤g) (g1:g≤255) (l:List Mv) (o:List UInt8):PCall Tryz.prog 5 [.lit (.int .u8 g),.sl 11 (l.map dMv),.sl 1 (o.map dU)] (.ret (dB true)):=by
 refine pcall_of_vc h589 c5 (by simp [a5]) fun hr=>?_
 obtain⟨n1,n2,n3⟩:=manyN_r g0
 have hwg:IntKind.i64.wrap g=g:=wrap64 (by omega)
 simp [a5]
 refine vc_path [.ret (dB true)] ?_
 simp
 refine⟨.sane,?_⟩
 refine vc_path [] ?_
 by_cases hl:l.length≤14
 case neg =>
  have hl':(14:Int)<(l.length:Int):=by omega
  simp [hl']
 have hl':¬ (14:Int)<(l.length:Int):=by omega
 by_cases ho:o.length≤100
 case neg =>
  have ho':(100:Int)<(o.length:Int):=by omega
  simp [hl',ho']
 have ho':¬ (100:Int)<(o.length:Int):=by omega
 have k1:=C589.acted (manyN g) n1 n2 l hl
 have hA:=actL_all n1 n2 l hl
 generalize manyN g=n at *
 generalize actL n l=s at *
 obtain⟨r0,told⟩:=s
 have tl:told.length≤14:=hA.tl
 have ql:r0.net.q.length≤14*14:=hA.ql
 have hkn:∀ x∈told,∃ i,i<n∧x∈r0.ps.getD i []:=hA.kn
 have hok:okNs none told=true:=hA.ok
 have hinv:InvR n told r0:=hA.inv
 have hpl:=hinv.len
 simp only at k1
 simp [hl',ho',hwg]
 refine vc_path [.ret (.tup [dRm r0,.sl 7 (told.map dNt),dB true])] ?_
 simp [hwg,n3,hpl]
 refine⟨k1,?_⟩
 have h0:SynI n told r0 0 0 r0:=⟨hinv,rfl,fun i' hi'=>absurd hi' (Nat.not_lt_zero _),fun i' hi'=>absurd hi' (Nat.not_lt_zero _),by omega⟩
 refine vc_loopK [2,6,7,8,10,50] (Nat×Rm) (fun y=>[(51,true,.d (dI y.1))]) (fun y=>[(0,.box true ((dRm y.2).cells.map .d))]) (fun y=>y.1≤n∧SynI n told r0 y.1 0 y.2) (fun y=>n-y.1) (0,r0) ⟨Nat.zero_le _,h0⟩ ⟨[],[],?_⟩ (fun y hy=>?_)
 ·simp
 obtain⟨i,r⟩:=y
 obtain⟨i1,i2⟩:=hy
 simp only at i1 i2
 simp
 refine⟨fun hlt=>?_,fun hge=>?_⟩
 ·have hw:IntKind.i64.wrap ((i:Int)+1)=(i:Int)+1:=wrap64 (by omega)
  simp [hlt]
  refine vc_loopK [2,6,7,8,10,11,50,51,54] (Nat×Rm) (fun y=>[(55,true,.d (dI y.1))]) (fun y=>[(0,.box true ((dRm y.2).cells.map .d))]) (fun y=>y.1≤n∧SynI n told r0 i y.1 y.2) (fun y=>n-y.1) (0,r) ⟨Nat.zero_le _,i2⟩ ⟨[],[],?_⟩ (fun y hy=>?_)
  ·simp
  obtain⟨k,x⟩:=y
  obtain⟨j1,j2⟩:=hy
  simp only at j1 j2
  simp
  refine⟨fun hlt2=>?_,fun hge2=>?_⟩
  ·have hw2:IntKind.i64.wrap ((k:Int)+1)=(k:Int)+1:=wrap64 (by omega)
   by_cases e:i=k
   ·subst e
    simp [hw2]
    refine⟨i+1,x,⟨by omega,syn_self j2⟩,by omega,[],[],?_⟩
    simp
   ·have e':¬ (i:Int)=(k:Int):=by omega
    obtain⟨z,m1,m2,m3,m4,m5⟩:=syn_step j2 n1 n2 tl hlt hlt2 e
    have k2:=C589.mv x (mvSync i k) (inv_sm j2.inv (by omega) (by have:=j2.ql;omega))
    rw [m1] at k2
    simp [e']
    refine vc_path [.ret (.tup [dRm z,dI 0])] ?_
    simp
    refine⟨k2,?_⟩
    have hi8:i<x.ps.length:=by rw [j2.inv.len];exact hlt
    have hxi:(x.ps.getD i []).length=x.ps[i].length:=by rw [getD_ps hi8]
    have m4':(z.net.q.length:Int)=(x.net.q.length:Int)+(x.ps[i].length:Int):=by omega
    have hlen9:=inv_len j2.inv _ (List.getElem_mem hi8)
    have hjq:=j2.ql
    have hw9:IntKind.i64.wrap ((x.net.q.length:Int)+(x.ps[i].length:Int))=(x.net.q.length:Int)+(x.ps[i].length:Int):=wrap64 (by omega)
    have m5':¬ (2000:Int)<(x.net.q.length:Int)+(x.ps[i].length:Int):=by omega
    refine vc_pathD [] ?_
    simp [m3,m4',hi8,hw9,m5',dPe,hw2]
    refine⟨rfl,k+1,z,⟨by omega,m2⟩,by omega,[],[],?_⟩
    simp
  ·have e:k=n:=by omega
   subst e
   simp [hw]
   refine⟨i+1,x,⟨by omega,syn_next j2 n2⟩,by omega,[],[],?_⟩
   simp
 ·have e:i=n:=by omega
  subst e
  have hrq:=i2.ql
  have k3:=C589.drn i told r i2.inv n1 (by omega) (by omega) (by omega) hok o ho
  rw [syn_end i2 hkn] at k3
  have hXl:(List.replicate i told).length=i:=List.length_replicate
  have hX:∀ (j:Nat) (h:j<(List.replicate i told).length),(List.replicate i told)[j]=told:=fun j h=>List.getElem_replicate ..
  generalize List.replicate i told=X at *
  refine vc_path [.ret (.tup [dRm ⟨X,⟨[],[]⟩⟩,dB true])] ?_
  simp
  refine⟨k3,?_⟩
  have hX0:0<X.length:=by omega
  have hX1:X[0]=told:=hX 0 hX0
  have hpe:okPe told=true:=okPe_iff.2 ⟨hok,by omega⟩
  refine vc_loopK [8,15] Nat (fun y=>[(115,true,.d (dI y))]) (fun y=>[]) (fun y=>y≤32) (fun y=>32-y) 0 (by omega) ⟨[],[],?_⟩ (fun y hy=>?_)
  ·simp
  simp
  intro hy1
  have hw2:IntKind.i64.wrap ((y:Int)+1)=(y:Int)+1:=wrap64 (by omega)
  have k4:=C589.seen told (y:Int)
  rw [seenE_0 hpe (by omega) (by omega)] at k4
  generalize seenR told (y:Int)=W at *
  obtain⟨W1,W2⟩:=W
  have k5:=C589.notes told told
  have k6:=C589.same W1 W1
  simp at k5 k6
  simp [hy1,hX0,hX1]
  refine vc_path [.ret (.tup [.sl 3 (W1.map dSp),dI W2,dI 0])] ?_
  simp [hX0,hX1]
  refine⟨k4,?_⟩
  refine vc_loopK [8,15,16,17,18,115,131,132] Nat (fun y=>[(133,true,.d (dI y))]) (fun y=>[]) (fun y=>y≤X.length) (fun y=>X.length-y) 0 (Nat.zero_le _) ⟨[],[],?_⟩ (fun j hj=>?_)
  ·simp
  simp
  refine⟨fun hj1=>?_,fun hj1=>?_⟩
  ·have hXj:=hX j hj1
   have hw3:IntKind.i64.wrap ((j:Int)+1)=(j:Int)+1:=wrap64 (by omega)
   simp [hj1,hXj]
   refine vc_path [.ret (.tup [.sl 3 (W1.map dSp),dI W2,dI 0])] ?_
   simp
   refine⟨k4,?_⟩
   refine vc_path [.ret (dB true),.ret (dB true)] ?_
   simp [dPe,hw3]
   refine⟨k5,k6,j+1,by omega,by omega,[],[],?_⟩
   simp
  ·simp [hw2]
   refine⟨y+1,by omega,by omega,[],[],?_⟩
   simp
end

section
noncomputable def fsOf (t:TypeId):Array Field:=match Tryz.prog.underlying t with
 | some (.struct fs)=>fs
 | _=>#[]
noncomputable def fld (t:TypeId) (i:Nat):Field:=(fsOf t).getD i ⟨ "",0,0,false,"","",0⟩
theorem utI:Tryz.prog.underlying 3=some (.int .i64):=by kernel_rfl
theorem utB8:Tryz.prog.underlying 5=some (.int .u8):=by kernel_rfl
theorem utStr:Tryz.prog.underlying 9=some .string:=by kernel_rfl
theorem utBs8:Tryz.prog.underlying 55=some (.slice 5):=by kernel_rfl
theorem utSp:Tryz.prog.underlying 30=some (.struct #[fld 30 0,fld 30 1,fld 30 2]):=by kernel_rfl
theorem ztSp:Tryz.prog.cellsOf 30=3:=by kernel_rfl
theorem utCh:Tryz.prog.underlying 32=some (.struct #[fld 32 0,fld 32 1,fld 32 2]):=by kernel_rfl
theorem ztCh:Tryz.prog.cellsOf 32=5:=by kernel_rfl
theorem utNt:Tryz.prog.underlying 34=some (.struct #[fld 34 0,fld 34 1,fld 34 2]):=by kernel_rfl
theorem ztNt:Tryz.prog.cellsOf 34=7:=by kernel_rfl
theorem utMv:Tryz.prog.underlying 36=some (.struct #[fld 36 0,fld 36 1,fld 36 2,fld 36 3,fld 36 4]):=by kernel_rfl
theorem ztMv:Tryz.prog.cellsOf 36=11:=by kernel_rfl
theorem utMvs:Tryz.prog.underlying 54=some (.slice 36):=by kernel_rfl
theorem ztI8:Tryz.prog.cellsOf 3=1:=by kernel_rfl
theorem ztB8:Tryz.prog.cellsOf 5=1:=by kernel_rfl
theorem ztStr:Tryz.prog.cellsOf 9=1:=by kernel_rfl
theorem one_Mv(m:Mv):∀ c∈(dMv m).cells,c.one=true:=fun c hc=>by
 rw [dMv_cells] at hc;simp at hc
 rcases hc with rfl | rfl | rfl | rfl | rfl | rfl | rfl | rfl | rfl | rfl | rfl <;> rfl
section
variable {H:Type}{enc:TypeId×Value→H}{w:World}
theorem shows_i64R{P:Program}{t:TypeId}(ht:P.underlying t=some (.int .i64)):Shows enc P w t (fun y:{n:Int // -9223372036854775808≤n∧n<9223372036854775808}=>dI y.1):=by
 intro fuel cs x h
 obtain⟨n,rfl,_,hw⟩:=DataW.trod_int ht h
 have hs:Sc (.int .i64 n):=by simpa [Sc,Lit.wf] using hw
 have hs':-9223372036854775808≤n∧n<9223372036854775808:=by
  simp [Sc,IntKind.min,IntKind.max,IntKind.signed,IntKind.bits] at hs
  omega
 exact⟨⟨n,hs'⟩,repL_one (.lit hs)⟩
theorem shBs8:Shows enc Tryz.prog w 55 dBy:=shows_slice utBs8 ztB8 (fun _=>rfl) (fun y c hc=>by simp [AL.dU,D.cells] at hc;subst hc;rfl) (shows_u8 utB8)
theorem shStr:Shows enc Tryz.prog w 9 dZ:=shows_str utStr
theorem shSp:Shows enc Tryz.prog w 30 dSp:=shows_map (shows_structN utSp (by rw [ztSp];kernel_rfl)
 (showsR_cons (t:=3) (off':=1) (by kernel_rfl) (by kernel_rfl) (by rw [ztI8]) (shows_i64R utI) (showsR_cons (t:=3) (off':=2) (by kernel_rfl) (by kernel_rfl) (by rw [ztI8]) (shows_i64R utI) (showsR_cons (t:=9) (off':=3) (by kernel_rfl) (by kernel_rfl) (by rw [ztStr]) shStr showsR_nil))))
 (fun y=>⟨⟨y.1.1,y.2.1.1,y.2.2.1,y.1.2,y.2.1.2⟩,rfl⟩)
theorem shCh:Shows enc Tryz.prog w 32 dCh:=shows_map (shows_structN utCh (by rw [ztCh];kernel_rfl)
 (showsR_cons (t:=3) (off':=1) (by kernel_rfl) (by kernel_rfl) (by rw [ztI8]) (shows_i64R utI) (showsR_cons (t:=3) (off':=2) (by kernel_rfl) (by kernel_rfl) (by rw [ztI8]) (shows_i64R utI) (showsR_cons (t:=30) (off':=5) (by kernel_rfl) (by kernel_rfl) (by rw [ztSp]) shSp showsR_nil))))
 (fun y=>⟨⟨y.1.1,y.2.1.1,y.2.2.1,y.1.2,y.2.1.2⟩,rfl⟩)
theorem shNt:Shows enc Tryz.prog w 34 dNt:=shows_map (shows_structN utNt (by rw [ztNt];kernel_rfl)
 (showsR_cons (t:=3) (off':=1) (by kernel_rfl) (by kernel_rfl) (by rw [ztI8]) (shows_i64R utI) (showsR_cons (t:=3) (off':=2) (by kernel_rfl) (by kernel_rfl) (by rw [ztI8]) (shows_i64R utI) (showsR_cons (t:=32) (off':=7) (by kernel_rfl) (by kernel_rfl) (by rw [ztCh]) shCh showsR_nil))))
 (fun y=>⟨⟨y.1.1,y.2.1.1,y.2.2.1,y.1.2,y.2.1.2⟩,rfl⟩)
theorem shMv:Shows enc Tryz.prog w 36 dMv:=shows_map (shows_structN utMv (by rw [ztMv];kernel_rfl)
 (showsR_cons (t:=3) (off':=1) (by kernel_rfl) (by kernel_rfl) (by rw [ztI8]) (shows_i64R utI) (showsR_cons (t:=3) (off':=2) (by kernel_rfl) (by kernel_rfl) (by rw [ztI8]) (shows_i64R utI) (showsR_cons (t:=3) (off':=3) (by kernel_rfl) (by kernel_rfl) (by rw [ztI8]) (shows_i64R utI) (showsR_cons (t:=3) (off':=4) (by kernel_rfl) (by kernel_rfl) (by rw [ztI8]) (shows_i64R utI) (showsR_cons (t:=34) (off':=11) (by kernel_rfl) (by kernel_rfl) (by rw [ztNt]) shNt showsR_nil))))))
 (fun y=>⟨⟨y.1.1,y.2.1.1,y.2.2.1.1,y.2.2.2.1.1,y.2.2.2.2.1,y.1.2⟩,rfl⟩)
theorem shMvs:Shows enc Tryz.prog w 54 (fun l:List Mv=>.sl 11 (l.map dMv)):=shows_slice utMvs ztMv (fun _=>rfl) one_Mv shMv
end
theorem sMvs:Sees Tryz.prog 54 (fun x=>∃ l:List Mv,x=.sl 11 (l.map dMv)):=sees_slice utMvs shMvs
theorem sBs8:Sees Tryz.prog 55 (fun x=>∃ l:List UInt8,x=dBy l):=sees_slice utBs8 shBs8
end

section
open Go Go.Proofs.YthimbimilnfdnaaGreatDoor.AL Go.ChangeShapes Go.WideShapes Go.ChangeAt Go.RowKit Go.Lib Go.Shelf
theorem own:ownKnob Tryz.prog.godebug=none:=by kernel_rfl
theorem laidOut:laidOutB Tryz.prog=true:=by kernel_rfl
theorem ip_of{w:World}{cs:List D}{g:Nat}(h:∀ (k:Nat) (c:D),cs[k]?=some c→∃ v,w.cell? ⟨g,k,none⟩=some v∧c=.lit v∧Sc v):Rep (allI w) w (.ip (.agg cs)) (.pointer (some ⟨g,0,none⟩)):=by
 have ha:∀ k,(⟨g,0,none⟩:Addr).add k=⟨g,k,none⟩:=fun k=>by
  cases k <;> simp [Addr.add]
 refine .ip ⟨g,0,none⟩ (fun k=>(w.cell? ⟨g,k,none⟩).getD (.bool false)) ?_ ?_ ?_
 ·intro c hc
  obtain⟨k,hk⟩:=List.mem_iff_getElem?.1 hc
  obtain⟨v,_,rfl,_⟩:=h k c hk
  rfl
 ·intro k c hk
  obtain⟨v,hv,_,_⟩:=h k c hk
  rw [ha]
  exact⟨by simp [allI,hv],by simp [hv]⟩
 ·intro k c hk
  obtain⟨v,hv,rfl,hs⟩:=h k c hk
  simp only [hv,Option.getD_some]
  exact .lit hs
theorem sc_first(c:Nat):Sc (.int .u8 (firstT c)):=by
 have h:=firstT_cases c
 simp only [Sc,IntKind.min,IntKind.max]
 rcases h with h | h | h | h | h | h | h | h | h <;> rw [h] <;> decide
theorem sc_lo(i:Nat):Sc (.int .u8 (accLo i)):=by
 have h:accLo i≤255:=by
  unfold accLo
  repeat' split
  all_goals omega
 exact⟨by simp [IntKind.min,IntKind.signed],by simp [IntKind.max,IntKind.signed,IntKind.bits];omega⟩
theorem sc_hi(i:Nat):Sc (.int .u8 (accHi i)):=by
 have h:accHi i≤255:=by
  unfold accHi
  repeat' split
  all_goals omega
 exact⟨by simp [IntKind.min,IntKind.signed],by simp [IntKind.max,IntKind.signed,IntKind.bits];omega⟩
theorem pairs_get(lo hi:Nat→D):∀ (n b k:Nat) (c:D),((List.range' b n).flatMap fun i=>[lo i,hi i])[k]?=some c →
  ∃ i,b≤i∧i<b+n∧((k=2*(i-b)∧c=lo i)∨(k=2*(i-b)+1∧c=hi i))
 | 0,b,k,c,h=>by simp at h
 | n+1,b,0,c,h=>by
  simp [List.range'_succ] at h
  exact⟨b,by omega,by omega,.inl ⟨by omega,h.symm⟩⟩
 | n+1,b,1,c,h=>by
  simp [List.range'_succ] at h
  exact⟨b,by omega,by omega,.inr ⟨by omega,h.symm⟩⟩
 | n+1,b,k+2,c,h=>by
  simp only [List.range'_succ,List.flatMap_cons,List.cons_append,List.nil_append,List.getElem?_cons_succ] at h
  obtain⟨i,h1,h2,h3⟩:=pairs_get lo hi n (b+1) k c h
  refine⟨i,by omega,by omega,?_⟩
  rcases h3 with ⟨h3,h4⟩ | ⟨h3,h4⟩
  ·exact .inl ⟨by omega,h4⟩
  ·exact .inr ⟨by omega,h4⟩
abbrev laidL:List (String×DataW Unit):=[("unicode/utf8.acceptRanges",Rows.laid_unicode_utf8_acceptRanges),("unicode/utf8.first",Rows.laid_unicode_utf8_first)]
set_option maxRecDepth 1000000 in
theorem tabs_rd{W:World}(h:laidMet Tryz.prog laidL W):Lib.Utf8Tabs 1 2 W :=
 utf8Tabs_of_reads (ρ:=Tryz.lays197_ren) {Tryz.lays197 with} ⟨by kernel_rfl,by kernel_rfl,by kernel_rfl,by kernel_rfl,by kernel_rfl,by kernel_rfl,by kernel_rfl⟩ (Lib.laidMet.reads h (.tail _ (.head _))) (Lib.laidMet.reads h (.head _))
theorem glOk_of{W:World}(h0:laidMet Tryz.prog laidL W):GlOk (allI W) W:=by
 have h:=tabs_rd h0
 intro p hp
 simp only [glbTab,List.mem_cons,List.not_mem_nil,or_false] at hp
 rcases hp with rfl | rfl
 ·refine ip_of fun k c hk=>?_
  rw [List.getElem?_map] at hk
  obtain⟨j,hj,rfl⟩:=Option.map_eq_some_iff.1 hk
  obtain⟨hl,he⟩:=List.getElem?_eq_some_iff.1 hj
  simp at hl he
  subst he
  exact⟨_,h.1 _ hl,rfl,sc_first _⟩
 ·refine ip_of fun k c hk=>?_
  rw [List.range_eq_range'] at hk
  obtain⟨i,_,h2,h3⟩:=pairs_get _ _ 16 0 k c hk
  have hi:=h.2 i (by omega)
  rcases h3 with ⟨rfl,rfl⟩ | ⟨rfl,rfl⟩
  ·exact⟨_,hi.1,rfl,sc_lo _⟩
  ·exact⟨_,hi.2,rfl,sc_hi _⟩
noncomputable def laidWorld (os:Os):World :=
 let w0:=World.holding Tryz.prog os ⟨#[],#[],[]⟩
 let put (h:Array Obj) (g:Nat) (cs:Array Value):Array Obj:=h.modify g fun
  | .cells _ t frozen=>.cells cs t frozen
  | o=>o
 let h1:=put w0.heap 1 (Lib.firstTab.map fun z=>Value.int .u8 z).toArray
 let h2:=put h1 2 ((List.range 16).flatMap fun i=>[Value.int .u8 (Lib.accLo i),Value.int .u8 (Lib.accHi i)]).toArray
 {w0 with heap:=h2}
theorem sU8i:Sees Tryz.prog 5 (fun x=>∃ n:Int,(IntKind.u8.min≤n∧n≤IntKind.u8.max)∧x=.lit (.int .u8 n)):=sees_int utB8
end

end Go.Proofs.YthimbimilnfdnaaGreatDoor
