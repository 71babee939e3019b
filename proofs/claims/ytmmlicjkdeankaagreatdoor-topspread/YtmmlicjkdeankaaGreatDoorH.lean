/- Part of the proof: S523, S524, S525, S526, S527, S528, S529, S530, S531, S532, S533, S534, S535, S536, S537, S538, S539, S540, S541, S542, S543, S544, S545, S546, S547, S548, S549, S550, S551, S552, S553, S554, S555, S556, S557, S558, S559, S560, S561. -/
import Derived.Shelf.Small.Strs
import Derived.Test.YtmmlicjkdeankaaGreatDoorG
set_option linter.unnecessarySimpa false
set_option linter.unusedVariables false
set_option linter.unusedSimpArgs false
namespace Go.Proofs.YtmmlicjkdeankaaGreatDoor
open Go Go.Proofs.YtmmlicjkdeankaaGreatDoor.AL
section
attribute [local simp] dZ_agg dZ_nt dZ_noTup dZ_cells dZ_one bz_toList bz_size strV dSp_cells dSp_isAgg dSp_noTup dSp_nt dCh_cells dCh_isAgg dCh_noTup dCh_nt
set_option maxRecDepth 8000
set_option maxHeartbeats 4000000
inductive C523:FuncId->List D->Out->Prop
 | need_t (n:Int):C523 57 [dB true,dI n] (.ret (.tup []))
 | need_f (n:Int):C523 57 [dB false,dI n] (.pan (tE n))
 | right (x:Sp):C523 58 [dSp x] (.ret (dB (okSp x)))
 | time (n:Int):C523 67 [dI n] (.ret (dB (okTm n)))
 | ck (l:List Sp):C523 24 [.sl 3 (l.map dSp)] (oD (dispE l))
 | kinds:C523 25 [] (.retM kMapD)
 | search (l:List Sp) (id m:Int) (hl:okRun m l=true) (hlen:l.length<=100000):C523 68 [.sl 3 (l.map dSp),.agg [],.fn (.func 69) [dI id] []] (.ret (.tup [dI (posL l id),dB (hasL l id)]))
theorem h523:∀ f ds out,C523 f ds out->PCall Tryz.prog f ds out:=by
 intro f ds out h
 cases h with
 | need_t n=>exact dNeed_t n
 | need_f n=>exact dNeed_f n
 | right x=>exact dRight x
 | time x=>exact dTime x
 | ck l=>exact dCheck l
 | kinds=>exact dKinds
 | search l id m hl hlen=>exact dSearch l id m hl hlen
theorem free2(a b:Value):Free (.tup [.lit a,.lit b]):=.tup (by simp;exact⟨.lit _,.lit _⟩)
theorem elsD_sps(l:List Sp):elsD 3 l.length (D.flat (l.map dSp))=l.map dSp:=by
 induction l with
 | nil=>rfl
 | cons a r ih =>
  have hl:=dSp_len a
  have e:D.flat ((a::r).map dSp)=(dSp a).cells++D.flat (r.map dSp):=rfl
  simp only [elsD] at ih ⊢
  rw [if_neg (by omega)] at ih ⊢
  rw [e,List.length_cons,chunkD,List.take_left' hl,List.drop_left' hl,ih]
  rfl
theorem elsD_sp1(p:Sp) (r:List Sp):elsD 3 (r.length+1) (D.flat (dSp p::r.map dSp))=dSp p::r.map dSp:=elsD_sps (p::r)
theorem flat_sps(l:List Sp):(D.flat (l.map dSp)).length=l.length*3:=by
 have:=flat_len (es:=l.map dSp) (sz:=3) (fun e he=>by
  obtain⟨p,_,rfl⟩:=List.mem_map.1 he
  exact dSp_len p)
 simpa using this
theorem map_eraseIdx'{α β:Type}(f:α->β) (l:List α) (k:Nat):(l.map f).eraseIdx k=(l.eraseIdx k).map f:=by
 induction l generalizing k with
 | nil=>rfl
 | cons a r ih=>cases k with
  | zero=>rfl
  | succ k=>simp [ih]
theorem hasL_get{l:List Sp}{id:Int}(h:hasL l id=true):∃ hp:posL l id<l.length,l[posL l id].id=id:=by
 unfold hasL at h
 split at h
 ·rename_i s hs
  obtain⟨hp,he⟩:=List.getElem?_eq_some_iff.1 hs
  exact⟨hp,by rw [he];simpa using h⟩
 ·cases h
theorem hasL_no{l:List Sp}{c:Ch}(h:hasL l c.sp.id=false) (hk:c.kind≠1):fitsL l c=false:=by
 unfold hasL at h
 unfold fitsL
 rw [if_neg hk]
 split at h
 ·rename_i s hs
  have h:s.id≠c.sp.id:=by simpa using h
  rw [hs]
  split
  ·simp;rintro rfl;exact h rfl
  ·simp [h]
 ·rename_i hn
  rw [hn];split <;> simp
theorem dDo(l:List Sp) (c:Ch):PCall Tryz.prog 7 [.sl 3 (l.map dSp),dCh c] (.ret (.tup [.sl 3 ((doDL l c).map dSp),dI (doDE l c)])):=by
 refine pcall_of_vcZ h523 c7 (by simp [a7]) 4 fun hr=>?_
 simp [a7]
 refine regS_path [] ?_
 simp
 have hc:=C523.ck l
 by_cases q:dispE l=0
 case neg =>
  have e1:doDE l c=dispE l:=by simp [doDE,q]
  have e2:doDL l c=[]:=by simp [doDL,e1,q]
  rw [e1,e2]
  refine vc_path [.pan (tE (dispE l))] ?_
  simp [oD,q] at hc ⊢
  refine⟨hc,?_⟩
  refine leave_fn (TR Tryz.prog a23) (dcall_of_vcR c23) ?_
  simp [a23,tE]
 obtain⟨hl1,hl2⟩:=dispE_ok q
 have hfail:(okCh c&&fitsL l c)=false->doDE l c=490∧doDL l c=[]:=fun h=>by
  have e1:doDE l c=490:=by simp only [doDE,q,h];simp
  exact⟨e1,by simp [doDL,e1]⟩
 rw [q] at hc
 simp only [oD,if_true] at hc
 refine vc_path [.ret (.tup [])] ?_
 simp
 refine⟨hc,vc_path [.retM kMapD] ?_⟩
 have hk:(c.kind=1∧((c.kind == 1)=true))∨(c.kind=2∧((c.kind == 1)=false)∧((c.kind == 2)=true))∨(c.kind=3∧((c.kind == 1)=false)∧((c.kind == 2)=false)∧((c.kind == 3)=true))∨(okCh c=false∧((c.kind == 1)=false)∧((c.kind == 2)=false)∧((c.kind == 3)=false)):=by
  by_cases k1:c.kind=1
  ·exact .inl ⟨k1,by simp [k1]⟩
  ·by_cases k2:c.kind=2
   ·exact .inr (.inl ⟨k2,by simp [k2],by simp [k2]⟩)
   ·by_cases k3:c.kind=3
    ·exact .inr (.inr (.inl ⟨k3,by simp [k3],by simp [k3],by simp [k3]⟩))
    ·have:okCh c=false:=by
      rw [Bool.eq_false_iff]
      intro h
      have:=okCh_sp h
      omega
     exact .inr (.inr (.inr ⟨this,by simp [k1],by simp [k2],by simp [k3]⟩))
 have hs:=C523.search l c.sp.id (-1) hl2 (by omega)
 have t1:=C523.time c.at_
 have t2:=C523.right c.sp
 have hok:okCh c=(okTm c.at_&&(decide (1<=c.kind)&&(decide (c.kind<=3)&&okSp c.sp))):=rfl
 rcases hk with ⟨k,e1⟩ | ⟨k,e1,e2⟩ | ⟨k,e1,e2,e3⟩ | ⟨k,e1,e2,e3⟩
 case inr.inr.inr =>
  obtain⟨g1,g2⟩:=hfail (by rw [k];rfl)
  rw [g1,g2]
  simp [kMapD,fnD]
  refine⟨.kinds,regS_path [] ?_⟩
  simp
  refine icall_T (TF Tryz.prog a26) (hcall_of_vc c26) ?_
  simp [a26,e1,e2,e3]
  refine vc_path [.ret (.tup []),.ret (.tup []),.pan (tE 490)] ?_
  simp
  refine⟨.need_f 490,?_⟩
  refine leave_fn (TR Tryz.prog a23) (dcall_of_vcR c23) ?_
  simp [a23,tE]
 case inl =>
  simp [kMapD,fnD]
  refine⟨.kinds,regS_path [] ?_⟩
  simp
  refine icall_T (TF Tryz.prog a26) (hcall_of_vc c26) ?_
  simp [a26,e1]
  by_cases p1:okTm c.at_=true
  case neg =>
   have p1:okTm c.at_=false:=by simpa using p1
   obtain⟨g1,g2⟩:=hfail (by rw [hok,p1];rfl)
   rw [g1,g2]
   rw [p1] at t1
   refine vc_path [.ret (dB false),.ret (.tup []),.pan (tE 490)] ?_
   simp
   refine⟨t1,.need_f 490,?_⟩
   refine leave_fn (TR Tryz.prog a23) (dcall_of_vcR c23) ?_
   simp [a23,tE]
  rw [p1] at t1
  by_cases p2:okSp c.sp=true
  case neg =>
   have p2:okSp c.sp=false:=by simpa using p2
   obtain⟨g1,g2⟩:=hfail (by rw [hok,p2];simp)
   rw [g1,g2]
   rw [p2] at t2
   refine vc_path [.ret (dB true),.ret (dB false),.pan (tE 490)] ?_
   simp
   refine⟨t1,t2,.need_f 490,?_⟩
   refine leave_fn (TR Tryz.prog a23) (dcall_of_vcR c23) ?_
   simp [a23,tE]
  rw [p2] at t2
  have hok1:okCh c=true:=by rw [hok,p1,p2];simp [k]
  refine vc_path [.ret (dB true),.ret (dB true),.ret (.tup [])] ?_
  simp
  refine⟨t1,t2,.need_t 490,?_⟩
  have hfit:fitsL l c=!hasL l c.sp.id:=by simp [fitsL,k]
  cases l with
  | nil =>
   have hfit:fitsL [] c=true:=by simp [hfit,hasL]
   have d1:doDE [] c=0:=by simp [doDE,q,hok1,hfit]
   have d2:doDL [] c=[c.sp]:=by simp [doDL,d1,makeL,k]
   rw [d1,d2]
   have hs:C523 68 [.sl 3 [],.agg [],.fn (.func 69) [dI c.sp.id] []] (.ret (.tup [dI 0,dB false])):=hs
   simp
   refine regK_path [] [] ?_
   simp
   refine⟨rfl,icall_T (TF Tryz.prog a27) (hcall_of_vc c27) ?_⟩
   simp [a27,e1]
   refine vc_path [.ret (.tup [dI 0,dB false])] ?_
   simp
   refine⟨hs,regS_path [.ret (.tup [])] ?_⟩
   simp
   refine icall_T (TF Tryz.prog a59) (hcall_of_vc c59) ?_
   simp [a59]
   refine⟨.need_t 490,regS_path [] ?_⟩
   simp
   refine icall_T (TF Tryz.prog a60) (hcall_of_vc c60) ?_
   simp [a60]
   have hel:elsD 3 1 (D.flat [.agg [.lit (.int .i64 c.sp.id),.lit (.int .i64 c.sp.ver),dZ c.sp.tx]])=[dSp c.sp]:=rfl
   refine⟨by simp [D.flat],vc_path [.ret (.tup [])] ?_⟩
   simp [hel]
   refine⟨.need_t 2,?_⟩
   refine leave_fn (TR Tryz.prog a23) (dcall_of_vcR c23) ?_
   simp [a23]
  | cons x r =>
   have hpl:=(posL_spec hl2 c.sp.id).1
   simp at hs hpl hl1
   have hfl:(r.length+1)*3<=(D.flat (dSp x::r.map dSp)).length:=by rw [show dSp x::r.map dSp=(x::r).map dSp from rfl,flat_sps];simp
   have hel:=elsD_sp1 x r
   cases hh:hasL (x::r) c.sp.id with
   | true =>
    obtain⟨g1,g2⟩:=hfail (by rw [hfit,hh];simp)
    rw [g1,g2]
    rw [hh] at hs
    generalize posL (x::r) c.sp.id=p at *
    simp
    refine regK_path [] [] ?_
    simp
    refine⟨by omega,rfl,icall_T (TF Tryz.prog a27) (hcall_of_vc c27) ?_⟩
    simp [a27,e1]
    refine vc_path [.ret (.tup [dI p,dB true])] ?_
    simp [hfl,hel]
    refine⟨hs,free2 _ _,regS_path [.pan (tE 490)] ?_⟩
    simp
    refine icall_T (TF Tryz.prog a59) (hcall_of_vc c59) ?_
    simp [a59]
    refine⟨.need_f 490,?_⟩
    refine leave_fn (TR Tryz.prog a23) (dcall_of_vcR c23) ?_
    simp [a23,tE]
   | false =>
    have hfit:fitsL (x::r) c=true:=by simp [hfit,hh]
    rw [hh] at hs
    have hmk:makeL (x::r) c=(x::r).take (posL (x::r) c.sp.id)++c.sp::(x::r).drop (posL (x::r) c.sp.id):=by simp [makeL,k]
    have hde:doDE (x::r) c=if (x::r).length=1024 then 2 else 0:=by simp [doDE,q,hok1,hfit,k]
    have hdl:doDL (x::r) c=if (x::r).length=1024 then [] else (x::r).take (posL (x::r) c.sp.id)++c.sp::(x::r).drop (posL (x::r) c.sp.id):=by
     unfold doDL;rw [hde,hmk]
     by_cases e:(x::r).length=1024
     ·rw [if_pos e,if_pos e];rfl
     ·rw [if_neg e,if_neg e];rfl
    have hto:((posL (x::r) c.sp.id:Int)).toNat=posL (x::r) c.sp.id:=by omega
    rw [hde,hdl]
    generalize posL (x::r) c.sp.id=p at *
    have hel1:elsD 3 1 (D.flat [.agg [.lit (.int .i64 c.sp.id),.lit (.int .i64 c.sp.ver),dZ c.sp.tx]])=[dSp c.sp]:=rfl
    refine regK_path [] [] ?_
    simp
    refine⟨by omega,rfl,icall_T (TF Tryz.prog a27) (hcall_of_vc c27) ?_⟩
    simp [a27,e1]
    refine vc_path [.ret (.tup [dI p,dB false])] ?_
    simp [hfl,hel]
    refine⟨hs,free2 _ _,regS_path [.ret (.tup [])] ?_⟩
    simp
    refine icall_T (TF Tryz.prog a59) (hcall_of_vc c59) ?_
    simp [a59]
    refine⟨.need_t 490,regS_path [] ?_⟩
    simp
    refine icall_T (TF Tryz.prog a60) (hcall_of_vc c60) ?_
    simp [a60,hel,hel1]
    have hl3:3<=(D.flat [.agg [.lit (.int .i64 c.sp.id),.lit (.int .i64 c.sp.ver),dZ c.sp.tx]]).length:=by simp [D.flat]
    refine⟨⟨by omega,⟨hfl,hl3⟩,by omega,by omega⟩,?_⟩
    have hmn:((min p (r.length+1):Nat):Int)+(((r.length+1-p:Nat):Int)+1)=(r.length:Int)+2:=by omega
    by_cases e:r.length+1=1024
    ·have e2:¬ (r.length:Int)+2<=1024:=by omega
     refine vc_path [.pan (tE 2)] ?_
     simp [hmn,e2]
     refine⟨.need_f 2,?_⟩
     refine leave_fn (TR Tryz.prog a23) (dcall_of_vcR c23) ?_
     simp [a23,tE,show r.length=1023 by omega]
    ·have e2:(r.length:Int)+2<=1024:=by omega
     refine vc_path [.ret (.tup [])] ?_
     simp [hmn,e2]
     refine⟨.need_t 2,?_⟩
     refine leave_fn (TR Tryz.prog a23) (dcall_of_vcR c23) ?_
     simp [a23,show ¬ r.length=1023 by omega,List.map_take,List.map_drop]
 case inr.inl =>
  simp [kMapD,fnD]
  refine⟨.kinds,regS_path [] ?_⟩
  simp
  refine icall_T (TF Tryz.prog a26) (hcall_of_vc c26) ?_
  simp [a26,e1,e2]
  by_cases p1:okTm c.at_=true
  case neg =>
   have p1:okTm c.at_=false:=by simpa using p1
   obtain⟨g1,g2⟩:=hfail (by rw [hok,p1];rfl)
   rw [g1,g2]
   rw [p1] at t1
   refine vc_path [.ret (dB false),.ret (.tup []),.pan (tE 490)] ?_
   simp
   refine⟨t1,.need_f 490,?_⟩
   refine leave_fn (TR Tryz.prog a23) (dcall_of_vcR c23) ?_
   simp [a23,tE]
  rw [p1] at t1
  by_cases p2:okSp c.sp=true
  case neg =>
   have p2:okSp c.sp=false:=by simpa using p2
   obtain⟨g1,g2⟩:=hfail (by rw [hok,p2];simp)
   rw [g1,g2]
   rw [p2] at t2
   refine vc_path [.ret (dB true),.ret (dB false),.pan (tE 490)] ?_
   simp
   refine⟨t1,t2,.need_f 490,?_⟩
   refine leave_fn (TR Tryz.prog a23) (dcall_of_vcR c23) ?_
   simp [a23,tE]
  rw [p2] at t2
  have hok1:okCh c=true:=by rw [hok,p1,p2];simp [k]
  refine vc_path [.ret (dB true),.ret (dB true),.ret (.tup [])] ?_
  simp
  refine⟨t1,t2,.need_t 490,?_⟩
  cases l with
  | nil =>
   obtain⟨g1,g2⟩:=hfail (by rw [show fitsL [] c=false by simp [fitsL,k]];simp)
   rw [g1,g2]
   have hs:C523 68 [.sl 3 [],.agg [],.fn (.func 69) [dI c.sp.id] []] (.ret (.tup [dI 0,dB false])):=hs
   simp
   refine regK_path [] [] ?_
   simp
   refine⟨rfl,icall_T (TF Tryz.prog a27) (hcall_of_vc c27) ?_⟩
   simp [a27,e1,e2]
   refine vc_path [.ret (.tup [dI 0,dB false])] ?_
   simp
   refine⟨hs,regS_path [.pan (tE 490)] ?_⟩
   simp
   refine icall_T (TF Tryz.prog a62) (hcall_of_vc c62) ?_
   simp [a62]
   refine vc_pathD [] ?_
   simp
   refine⟨rfl,.need_f 490,?_⟩
   refine leave_fn (TR Tryz.prog a23) (dcall_of_vcR c23) ?_
   simp [a23,tE]
  | cons x r =>
   have hpl:=(posL_spec hl2 c.sp.id).1
   simp at hs hpl hl1
   have hfl:(r.length+1)*3<=(D.flat (dSp x::r.map dSp)).length:=by rw [show dSp x::r.map dSp=(x::r).map dSp from rfl,flat_sps];simp
   have hel:=elsD_sp1 x r
   cases hh:hasL (x::r) c.sp.id with
   | false =>
    obtain⟨g1,g2⟩:=hfail (by rw [hasL_no hh (by omega)];simp)
    rw [g1,g2]
    rw [hh] at hs
    generalize posL (x::r) c.sp.id=p at *
    simp
    refine regK_path [] [] ?_
    simp
    refine⟨by omega,rfl,icall_T (TF Tryz.prog a27) (hcall_of_vc c27) ?_⟩
    simp [a27,e1,e2]
    refine vc_path [.ret (.tup [dI p,dB false])] ?_
    simp [hfl,hel]
    refine⟨hs,free2 _ _,regS_path [.pan (tE 490)] ?_⟩
    simp
    refine icall_T (TF Tryz.prog a62) (hcall_of_vc c62) ?_
    simp [a62]
    refine vc_pathD [] ?_
    simp
    refine⟨rfl,.need_f 490,?_⟩
    refine leave_fn (TR Tryz.prog a23) (dcall_of_vcR c23) ?_
    simp [a23,tE]
   | true =>
    rw [hh] at hs
    obtain⟨hp,hid⟩:=hasL_get hh
    have hpi:posL (x::r) c.sp.id<r.length+1:=hp
    have hmk:makeL (x::r) c=(x::r).eraseIdx (posL (x::r) c.sp.id):=by simp [makeL,k]
    have hto:((posL (x::r) c.sp.id:Int)).toNat=posL (x::r) c.sp.id:=by omega
    have hde:doDE (x::r) c=if fitsL (x::r) c=true then 0 else 490:=by
     unfold doDE
     rw [if_neg (by rw [q];simp),hok1,Bool.true_and]
     cases fitsL (x::r) c <;> simp [k]
    have hdl:doDL (x::r) c=if fitsL (x::r) c=true then makeL (x::r) c else []:=by
     unfold doDL;rw [hde]
     cases fitsL (x::r) c <;> simp
    rw [hmk] at hdl
    generalize hp0:posL (x::r) c.sp.id=p at *
    obtain⟨S,hS⟩:∃ S,S=(x::r)[p]:=⟨_,rfl⟩
    rw [<- hS] at hid
    have hgetS:(x::r)[p]?=some S:=by rw [hS];exact List.getElem?_eq_getElem hp
    have hgetD:(dSp x::r.map dSp)[p]?=some (dSp S):=by rw [show dSp x::r.map dSp=(x::r).map dSp from rfl,List.getElem?_map,hgetS];rfl
    have hz:∀ e∈dSp x::r.map dSp,e.cells.length=3:=fun e he=>by
     rw [show dSp x::r.map dSp=(x::r).map dSp from rfl] at he
     obtain⟨y,_,rfl⟩:=List.mem_map.1 he
     exact dSp_len y
    have hwt:((wr (dSp x::r.map dSp)).drop (p*3)).take 3=[.d (.lit (.int .i64 S.id)),.d (.lit (.int .i64 S.ver)),.d (dZ S.tx)]:=wr_take hz hgetD
    have hw1:(wr (dSp x::r.map dSp))[p*3+1]?=some (.d (.lit (.int .i64 S.ver))):=wr_get hz hgetD (d:=.lit (.int .i64 S.ver)) rfl
    have heq:eqB [.lit (.int .i64 S.id),.lit (.int .i64 S.ver),dZ S.tx] [.lit (.int .i64 c.sp.id),.lit (.int .i64 c.sp.ver),dZ c.sp.tx]=decide (S=c.sp):=eqB_sp S c.sp
    have hec:eqC [.int .i64,.int .i64,.str] [.lit (.int .i64 S.id),.lit (.int .i64 S.ver),dZ S.tx] [.lit (.int .i64 c.sp.id),.lit (.int .i64 c.sp.ver),dZ c.sp.tx]=True:=by simp [eqC,dZ]
    have hfl3:p*3+3<=(D.flat (dSp x::r.map dSp)).length:=by omega
    have hfl4:p*3+1+1<=(D.flat (dSp x::r.map dSp)).length:=by omega
    have hpI:(p:Int)<(r.length:Int)+1:=by omega
    rw [hde,hdl]
    have hft:fitsL (x::r) c=decide (S=c.sp):=by
     unfold fitsL
     rw [hp0,hgetS]
     simp [k,hid]
    rw [hft]
    simp
    refine regK_path [] [] ?_
    simp
    refine⟨by omega,rfl,icall_T (TF Tryz.prog a27) (hcall_of_vc c27) ?_⟩
    simp [a27,e1,e2]
    refine vc_path [.ret (.tup [dI p,dB true])] ?_
    simp [hfl,hel]
    by_cases hS2:S=c.sp
    case neg =>
     have hb:decide (S=c.sp)=false:=by simp [hS2]
     rw [hb] at heq
     refine⟨hs,free2 _ _,regS_path [.pan (tE 490)] ?_⟩
     simp
     refine icall_T (TF Tryz.prog a62) (hcall_of_vc c62) ?_
     simp [a62]
     refine vc_pathD [] ?_
     simp [hto,hpI,hfl3,hwt,heq,hec]
     refine⟨rfl,.need_f 490,?_⟩
     refine leave_fn (TR Tryz.prog a23) (dcall_of_vcR c23) ?_
     simp [a23,tE,hS2]
    have hb:decide (S=c.sp)=true:=by simp [hS2]
    rw [hb] at heq
    refine⟨hs,free2 _ _,regS_path [.ret (.tup [])] ?_⟩
    simp
    refine icall_T (TF Tryz.prog a62) (hcall_of_vc c62) ?_
    simp [a62]
    refine vc_pathD [] ?_
    simp [hto,hpI,hfl3,hwt,heq,hec]
    refine⟨rfl,.need_t 490,regS_path [] ?_⟩
    simp
    refine icall_T (TF Tryz.prog a63) (hcall_of_vc c63) ?_
    simp [a63]
    have hw1:IntKind.i64.wrap ((p:Int)+1)=(p:Int)+1:=wrap64 (by omega)
    have hle:((dSp x::r.map dSp).eraseIdx p).length=r.length:=by rw [List.length_eraseIdx,if_pos (by simp;omega)];simp
    have hl4:(r.length:Int)<=1024:=by omega
    refine⟨⟨⟨hpI,hw1⟩,hfl⟩,vc_path [.ret (.tup [])] ?_⟩
    simp [hel,hle,hl4]
    refine⟨.need_t 2,?_⟩
    refine leave_fn (TR Tryz.prog a23) (dcall_of_vcR c23) ?_
    simp [a23,hS2,hto]
    exact leD_of_eq (by rw [show dSp x::r.map dSp=(x::r).map dSp from rfl,map_eraseIdx'])
 case inr.inr.inl =>
  simp [kMapD,fnD]
  refine⟨.kinds,regS_path [] ?_⟩
  simp
  refine icall_T (TF Tryz.prog a26) (hcall_of_vc c26) ?_
  simp [a26,e1,e2,e3]
  by_cases p1:okTm c.at_=true
  case neg =>
   have p1:okTm c.at_=false:=by simpa using p1
   obtain⟨g1,g2⟩:=hfail (by rw [hok,p1];rfl)
   rw [g1,g2]
   rw [p1] at t1
   refine vc_path [.ret (dB false),.ret (.tup []),.pan (tE 490)] ?_
   simp
   refine⟨t1,.need_f 490,?_⟩
   refine leave_fn (TR Tryz.prog a23) (dcall_of_vcR c23) ?_
   simp [a23,tE]
  rw [p1] at t1
  by_cases p2:okSp c.sp=true
  case neg =>
   have p2:okSp c.sp=false:=by simpa using p2
   obtain⟨g1,g2⟩:=hfail (by rw [hok,p2];simp)
   rw [g1,g2]
   rw [p2] at t2
   refine vc_path [.ret (dB true),.ret (dB false),.pan (tE 490)] ?_
   simp
   refine⟨t1,t2,.need_f 490,?_⟩
   refine leave_fn (TR Tryz.prog a23) (dcall_of_vcR c23) ?_
   simp [a23,tE]
  rw [p2] at t2
  have hok1:okCh c=true:=by rw [hok,p1,p2];simp [k]
  refine vc_path [.ret (dB true),.ret (dB true),.ret (.tup [])] ?_
  simp
  refine⟨t1,t2,.need_t 490,?_⟩
  cases l with
  | nil =>
   obtain⟨g1,g2⟩:=hfail (by rw [show fitsL [] c=false by simp [fitsL,k]];simp)
   rw [g1,g2]
   have hs:C523 68 [.sl 3 [],.agg [],.fn (.func 69) [dI c.sp.id] []] (.ret (.tup [dI 0,dB false])):=hs
   simp
   refine regK_path [] [] ?_
   simp
   refine⟨rfl,icall_T (TF Tryz.prog a27) (hcall_of_vc c27) ?_⟩
   simp [a27,e1,e2,e3]
   refine vc_path [.ret (.tup [dI 0,dB false])] ?_
   simp
   refine⟨hs,regS_path [.pan (tE 490)] ?_⟩
   simp
   refine icall_T (TF Tryz.prog a65) (hcall_of_vc c65) ?_
   simp [a65]
   refine vc_pathD [] ?_
   simp
   refine⟨rfl,.need_f 490,?_⟩
   refine leave_fn (TR Tryz.prog a23) (dcall_of_vcR c23) ?_
   simp [a23,tE]
  | cons x r =>
   have hpl:=(posL_spec hl2 c.sp.id).1
   simp at hs hpl hl1
   have hfl:(r.length+1)*3<=(D.flat (dSp x::r.map dSp)).length:=by rw [show dSp x::r.map dSp=(x::r).map dSp from rfl,flat_sps];simp
   have hel:=elsD_sp1 x r
   cases hh:hasL (x::r) c.sp.id with
   | false =>
    obtain⟨g1,g2⟩:=hfail (by rw [hasL_no hh (by omega)];simp)
    rw [g1,g2]
    rw [hh] at hs
    generalize posL (x::r) c.sp.id=p at *
    simp
    refine regK_path [] [] ?_
    simp
    refine⟨by omega,rfl,icall_T (TF Tryz.prog a27) (hcall_of_vc c27) ?_⟩
    simp [a27,e1,e2,e3]
    refine vc_path [.ret (.tup [dI p,dB false])] ?_
    simp [hfl,hel]
    refine⟨hs,free2 _ _,regS_path [.pan (tE 490)] ?_⟩
    simp
    refine icall_T (TF Tryz.prog a65) (hcall_of_vc c65) ?_
    simp [a65]
    refine vc_pathD [] ?_
    simp
    refine⟨rfl,.need_f 490,?_⟩
    refine leave_fn (TR Tryz.prog a23) (dcall_of_vcR c23) ?_
    simp [a23,tE]
   | true =>
    rw [hh] at hs
    obtain⟨hp,hid⟩:=hasL_get hh
    have hpi:posL (x::r) c.sp.id<r.length+1:=hp
    have hmk:makeL (x::r) c=(x::r).set (posL (x::r) c.sp.id) c.sp:=by simp [makeL,k]
    have hto:((posL (x::r) c.sp.id:Int)).toNat=posL (x::r) c.sp.id:=by omega
    have hde:doDE (x::r) c=if fitsL (x::r) c=true then 0 else 490:=by
     unfold doDE
     rw [if_neg (by rw [q];simp),hok1,Bool.true_and]
     cases fitsL (x::r) c <;> simp [k]
    have hdl:doDL (x::r) c=if fitsL (x::r) c=true then makeL (x::r) c else []:=by
     unfold doDL;rw [hde]
     cases fitsL (x::r) c <;> simp
    rw [hmk] at hdl
    generalize hp0:posL (x::r) c.sp.id=p at *
    obtain⟨S,hS⟩:∃ S,S=(x::r)[p]:=⟨_,rfl⟩
    rw [<- hS] at hid
    have hgetS:(x::r)[p]?=some S:=by rw [hS];exact List.getElem?_eq_getElem hp
    have hgetD:(dSp x::r.map dSp)[p]?=some (dSp S):=by rw [show dSp x::r.map dSp=(x::r).map dSp from rfl,List.getElem?_map,hgetS];rfl
    have hz:∀ e∈dSp x::r.map dSp,e.cells.length=3:=fun e he=>by
     rw [show dSp x::r.map dSp=(x::r).map dSp from rfl] at he
     obtain⟨y,_,rfl⟩:=List.mem_map.1 he
     exact dSp_len y
    have hwt:((wr (dSp x::r.map dSp)).drop (p*3)).take 3=[.d (.lit (.int .i64 S.id)),.d (.lit (.int .i64 S.ver)),.d (dZ S.tx)]:=wr_take hz hgetD
    have hw1:(wr (dSp x::r.map dSp))[p*3+1]?=some (.d (.lit (.int .i64 S.ver))):=wr_get hz hgetD (d:=.lit (.int .i64 S.ver)) rfl
    have heq:eqB [.lit (.int .i64 S.id),.lit (.int .i64 S.ver),dZ S.tx] [.lit (.int .i64 c.sp.id),.lit (.int .i64 c.sp.ver),dZ c.sp.tx]=decide (S=c.sp):=eqB_sp S c.sp
    have hec:eqC [.int .i64,.int .i64,.str] [.lit (.int .i64 S.id),.lit (.int .i64 S.ver),dZ S.tx] [.lit (.int .i64 c.sp.id),.lit (.int .i64 c.sp.ver),dZ c.sp.tx]=True:=by simp [eqC,dZ]
    have hfl3:p*3+3<=(D.flat (dSp x::r.map dSp)).length:=by omega
    have hfl4:p*3+1+1<=(D.flat (dSp x::r.map dSp)).length:=by omega
    have hpI:(p:Int)<(r.length:Int)+1:=by omega
    rw [hde,hdl]
    have hft:fitsL (x::r) c=decide (S.ver≠c.sp.ver):=by
     unfold fitsL
     rw [hp0,hgetS]
     simp [k,hid]
    rw [hft]
    simp
    refine regK_path [] [] ?_
    simp
    refine⟨by omega,rfl,icall_T (TF Tryz.prog a27) (hcall_of_vc c27) ?_⟩
    simp [a27,e1,e2,e3]
    refine vc_path [.ret (.tup [dI p,dB true])] ?_
    simp [hfl,hel]
    by_cases hS2:S.ver≠c.sp.ver
    case neg =>
     have hb:(S.ver != c.sp.ver)=false:=by simpa using hS2
     refine⟨hs,free2 _ _,regS_path [.pan (tE 490)] ?_⟩
     simp
     refine icall_T (TF Tryz.prog a65) (hcall_of_vc c65) ?_
     simp [a65]
     refine vc_pathD [] ?_
     simp [hto,hpI,hfl4,hw1,hb]
     refine⟨rfl,.need_f 490,?_⟩
     refine leave_fn (TR Tryz.prog a23) (dcall_of_vcR c23) ?_
     simp [a23,tE,show S.ver=c.sp.ver by simpa using hS2]
    have hb:(S.ver != c.sp.ver)=true:=by simpa using hS2
    refine⟨hs,free2 _ _,regS_path [.ret (.tup [])] ?_⟩
    simp
    refine icall_T (TF Tryz.prog a65) (hcall_of_vc c65) ?_
    simp [a65]
    refine vc_pathD [] ?_
    simp [hto,hpI,hfl4,hw1,hb]
    refine⟨rfl,.need_t 490,regS_path [] ?_⟩
    simp
    refine icall_T (TF Tryz.prog a66) (hcall_of_vc c66) ?_
    simp [a66]
    have hl4:(r.length:Int)+1<=1024:=by omega
    refine⟨hpI,hfl3,vc_path [.ret (.tup [])] ?_⟩
    simp [hl4]
    refine⟨.need_t 2,?_⟩
    refine leave_fn (TR Tryz.prog a23) (dcall_of_vcR c23) ?_
    have hws:(((wr (dSp x::r.map dSp)).set (p*3) (.d (.lit (.int .i64 c.sp.id)))).set (p*3+1) (.d (.lit (.int .i64 c.sp.ver)))).set (p*3+1+1) (.d (dZ c.sp.tx))=wr (((x::r).set p c.sp).map dSp):=by
     rw [List.map_set]
     exact wr_set3 hz (by simp;omega)
    have hln:((x::r).set p c.sp).length=r.length+1:=by simp
    have hel2:=elsD_sps ((x::r).set p c.sp)
    have hfl2:=flat_sps ((x::r).set p c.sp)
    rw [hln] at hel2 hfl2
    have hst:(dSp x::r.map dSp).set p (dSp c.sp)=((x::r).set p c.sp).map dSp:=by rw [List.map_set];rfl
    simp [a23,hS2]
    rw [hws,allD_wr,hst]
    simp only [hel2,hfl2]
    exact⟨Nat.le_refl _,LeD.refl _⟩
end

section
end

section
attribute [local simp] dZ_agg dZ_nt dZ_noTup dZ_cells dZ_one bz_toList bz_size strV dSp_cells dSp_isAgg dSp_noTup dSp_nt dCh_cells dCh_isAgg dCh_noTup dCh_nt
set_option maxRecDepth 8000
set_option maxHeartbeats 4000000
theorem rSame49(x y:List Sp):PCall Tryz.prog 10 [.sl 3 (x.map dSp),.sl 3 (y.map dSp)] (.ret (dB (decide (x=y)))):=by
 refine pcall_of_vc noC c10 (by simp [a10]) fun hr=>?_
 have hlen:=(hr (.sl 3 (x.map dSp)) (by simp)).sl.1
 simp at hlen
 simp [a10]
 have hno:¬ x=y->LeD (dB false) (dB (decide (x=y))):=fun h=>leD_of_eq (by simp [h])
 refine⟨fun h=>hno (fun e=>h (by rw [e])),fun h=>?_⟩
 refine vc_loopK [0,1] Nat (fun i=>[(5,true,.d (dI i))]) (fun _=>[]) (fun i=>i<=x.length∧∀ j,(h:j<i)->(h2:j<x.length)->(h3:j<y.length)->x[j]=y[j]) (fun i=>x.length-i) 0 (by simp) ⟨[],[],?_⟩ (fun i hi=>?_)
 ·simp
 obtain⟨g1,g2⟩:=hi
 simp
 refine⟨fun hlt=>?_,fun hge=>?_⟩
 ·have hlt2:i<y.length:=by omega
  have heq:eqB [.lit (.int .i64 x[i].id),.lit (.int .i64 x[i].ver),dZ x[i].tx] [.lit (.int .i64 y[i].id),.lit (.int .i64 y[i].ver),dZ y[i].tx]=decide (x[i]=y[i]):=eqB_sp x[i] y[i]
  have hec:eqC [.int .i64,.int .i64,.str] [.lit (.int .i64 x[i].id),.lit (.int .i64 x[i].ver),dZ x[i].tx] [.lit (.int .i64 y[i].id),.lit (.int .i64 y[i].ver),dZ y[i].tx]=True:=by simp [eqC,dZ]
  simp [hlt,hlt2,heq,hec,dSp]
  refine⟨rfl,fun h=>hno (fun e=>by subst e;exact h rfl),fun h=>⟨i+1,⟨by omega,fun j hj q1 q2=>?_⟩,by omega,[],[],?_⟩⟩
  ·by_cases e:j=i
   ·subst e;exact h
   ·exact g2 j (by omega) q1 q2
  ·rw [wrap64 (by omega)];simp
 ·have:x=y:=List.ext_getElem (by omega) (fun j q1 q2=>g2 j (by omega) q1 q2)
  exact leD_of_eq (by simp [this])
end

section
attribute [local simp] dZ_agg dZ_nt dZ_noTup dZ_cells dZ_one bz_toList bz_size strV dV_cells dV_isAgg dV_noTup dV_nt
set_option maxRecDepth 8000
set_option maxHeartbeats 4000000
theorem tE_free(n:Int):Free (tE n):=.ifc (.lit _)
theorem want_t(x:D):PCall Tryz.prog 98 [x,dB true] (.ret (.tup [])):=by
 refine pcall_of_vc noC c98 (by simp [a98]) fun hr=>?_
 simp [a98]
theorem want_f(x:D):PCall Tryz.prog 98 [x,dB false] (.pan (tE 10)):=by
 refine pcall_of_vc noC c98 (by simp [a98]) fun hr=>?_
 simp [a98]
 refine regS_path [] ?_
 simp [tE]
inductive C526:FuncId->List D->Out->Prop
 | want_t (x:D):C526 98 [x,dB true] (.ret (.tup []))
 | want_f (x:D):C526 98 [x,dB false] (.pan (tE 10))
theorem h526:∀ f ds out,C526 f ds out->PCall Tryz.prog f ds out:=by
 intro f ds out h
 cases h with
 | want_t x=>exact want_t x
 | want_f x=>exact want_f x
theorem take_ok(b:List UInt8) (n:Nat) (hn:n<=b.length):BCall Tryz.prog 121 [.sl 1 (b.map dU)] [dI n] (.ret (.sl 1 ((b.take n).map dU))) (fun c=>c=[.sl 1 ((b.drop n).map dU)]):=by
 refine bcall_of_vc h526 c121 (by simp [a121]) fun hr1 hr=>?_
 have hlen:=(hr1 (.sl 1 (b.map dU)) (by simp)).sl.1
 simp at hlen
 have hn':(n:Int)<=b.length:=by omega
 simp [a121]
 refine vc_path [.ret (.tup [])] ?_
 simp [hn']
 exact⟨.want_t _,.tup (by simp),leD_of_eq (by rw [List.take_of_length_le (by simp)])⟩
theorem take_no(b:List UInt8) (n:Nat) (hn:b.length<n):BCall Tryz.prog 121 [.sl 1 (b.map dU)] [dI n] (.pan (tE 10)) (fun _=>True):=by
 refine bcall_of_vc h526 c121 (by simp [a121]) fun hr1 hr=>?_
 have hn':¬ (n:Int)<=b.length:=by omega
 simp [a121]
 refine vc_path [.pan (tE 10)] ?_
 simp [hn']
 exact⟨.want_f _,tE_free 10,[.sl 1 (b.map dU)],leL_map _ _ _ 3 [.sl 1 (b.map dU)],by simp⟩
theorem or_add(acc x i:Nat) (h:acc<128 ^ i):acc|||(x*128 ^ i)=acc+x*128 ^ i:=by
 have e:(128:Nat) ^ i=2 ^ (7*i):=by rw [Nat.pow_mul]
 rw [e] at h ⊢
 have:=Nat.shiftLeft_add_eq_or_of_lt h x
 rw [Nat.shiftLeft_eq] at this
 rw [Nat.or_comm,<- this,Nat.add_comm]
theorem and127(n:Nat) (h:n<256):(n % 2 ^ IntKind.u8.bits&&&127 % 2 ^ IntKind.u8.bits)=n % 128:=by
 have e1:n % 2 ^ IntKind.u8.bits=n:=by simp [IntKind.bits];omega
 have e2:127 % 2 ^ IntKind.u8.bits=2 ^ 7-1:=by decide
 rw [e1,e2,Nat.and_two_pow_sub_one_eq_mod]
theorem num_arith(i acc:Nat) (c:UInt8) (g1:i<=9) (g2:acc<128 ^ i) (hgood2:i<9∨c<=1):∃ q sm:Nat,q=c.toNat % 128*128 ^ i∧sm=acc+q∧sm<128 ^ (i+1) ∧
  shiftV true IntKind.u64 (IntKind.u64.wrap (IntKind.u8.wrap ((c.toNat % 2 ^ IntKind.u8.bits&&&127 % 2 ^ IntKind.u8.bits:Nat):Int))) (7*(i:Int))=.int .u64 (q:Int) ∧
  IntKind.u64.wrap ((acc % 2 ^ IntKind.u64.bits|||q % 2 ^ IntKind.u64.bits:Nat):Int)=(sm:Int):=by
 have hcl:=c.toNat_lt
 have hi2:(7*(i:Int))=((7*i:Nat):Int):=by omega
 have hand:(c.toNat % 2 ^ IntKind.u8.bits&&&127 % 2 ^ IntKind.u8.bits)=c.toNat % 128:=and127 c.toNat hcl
 have hp128:128 ^ i<=128 ^ 9:=Nat.pow_le_pow_right (by omega) g1
 have h9:(128:Nat) ^ 9=9223372036854775808:=by decide
 have h8:i<9->128 ^ i*128<=9223372036854775808:=fun h=>by
  rw [<- Nat.pow_succ,<- h9];exact Nat.pow_le_pow_right (by omega) (by omega)
 have hc128:c.toNat % 128<128:=Nat.mod_lt _ (by omega)
 have hprod:c.toNat % 128*128 ^ i<=9223372036854775808:=by
  rcases hgood2 with h | h
  ·have:=h8 h
   have h2:c.toNat % 128*128 ^ i<=128*128 ^ i:=Nat.mul_le_mul_right _ (by omega)
   rw [Nat.mul_comm 128] at h2;omega
  ·rw [UInt8.le_iff_toNat_le] at h
   have h:c.toNat<=1:=h
   have h2:c.toNat % 128*128 ^ i<=1*128 ^ i:=Nat.mul_le_mul_right _ (by omega)
   omega
 obtain⟨q,hq⟩:∃ q,q=c.toNat % 128*128 ^ i:=⟨_,rfl⟩
 have e2:shiftV true IntKind.u64 (IntKind.u64.wrap (IntKind.u8.wrap ((c.toNat % 2 ^ IntKind.u8.bits&&&127 % 2 ^ IntKind.u8.bits:Nat):Int))) (7*(i:Int))=.int .u64 (q:Int):=by
  rw [hand,hi2]
  have q1:IntKind.u8.wrap ((c.toNat % 128:Nat):Int)=((c.toNat % 128:Nat):Int):=by simp [IntKind.wrap,IntKind.bits,IntKind.signed];omega
  rw [q1,wrap_u64 (by omega) (by omega)]
  have q2:min ((7*i:Nat):Int).toNat IntKind.u64.bits=7*i:=by simp [IntKind.bits];omega
  have q3:((c.toNat % 128:Nat):Int)*2 ^ (7*i)=(q:Int):=by
   rw [hq,show (128:Nat) ^ i=2 ^ (7*i) by rw [Nat.pow_mul]];simp
  unfold shiftV
  rw [q2,if_pos rfl,q3,wrap_u64 (by omega) (by omega)]
 have hsum:acc+q<18446744073709551616:=by omega
 obtain⟨sm,hsm⟩:∃ sm,sm=acc+q:=⟨_,rfl⟩
 have e3:IntKind.u64.wrap ((acc % 2 ^ IntKind.u64.bits|||q % 2 ^ IntKind.u64.bits:Nat):Int)=(sm:Int):=by
  have q1:acc % 2 ^ IntKind.u64.bits=acc:=by simp [IntKind.bits];omega
  have q2:q % 2 ^ IntKind.u64.bits=q:=by simp [IntKind.bits];omega
  rw [q1,q2,hq,or_add _ _ _ g2,<- hq,<- hsm,wrap_u64 (by omega) (by omega)]
 have hpow:128 ^ (i+1)=128 ^ i*128:=Nat.pow_succ ..
 have hsm2:sm<128 ^ (i+1):=by
  have:q+128 ^ i<=128 ^ i*128:=by
   rw [hq,Nat.mul_comm (128 ^ i) 128,<- Nat.succ_mul];exact Nat.mul_le_mul_right _ (by omega)
  omega
 exact⟨q,sm,hq,hsm,hsm2,e2,e3⟩
theorem number_ok(b r:List UInt8) (u:Nat) (h:pNum 0 b=some (u,r)):BCall Tryz.prog 123 [.sl 1 (b.map dU)] [] (.ret (.lit (.int .u64 u))) (fun c=>c=[.sl 1 (r.map dU)]):=by
 refine bcall_of_vc h526 c123 (by simp [a123]) fun hr1 hr=>?_
 simp [a123]
 refine vc_loopK [0] (Nat×Nat×List UInt8) (fun x=>[(3,true,.d (dI x.1)),(2,true,.d (.lit (.int .u64 x.2.1)))]) (fun x=>[(0,.box true [.d (.sl 1 (x.2.2.map dU))])]) (fun x=>x.1<=9∧x.2.1<128 ^ x.1∧(pNum x.1 x.2.2).map (fun y=>(x.2.1+y.1*128 ^ x.1,y.2))=some (u,r)) (fun x=>x.2.2.length) (0,0,b) ⟨by omega,by simp,by rw [h];simp⟩ ⟨[],[],?_⟩ (fun x hx=>?_)
 ·simp
 obtain⟨i,acc,t⟩:=x
 obtain⟨g1,g2,g3⟩:=hx
 simp only at g1 g2 g3
 cases t with
 | nil=>simp [pNum] at g3
 | cons c t =>
  simp
  refine regS_path [] ?_
  simp
  refine icall_T (TB _ _ _ _) (hcall_of_bcall (take_ok (c::t) 1 (by simp))) ?_
  refine⟨0,_,_,rfl,rfl,rfl,?_⟩
  simp
  have hgood:(i=0∨c≠0)∧(i<9∨c<=1):=by
   rcases Classical.em ((i=0∨c≠0)∧(i<9∨c<=1)) with h | h
   ·exact h
   ·rw [pNum,if_neg h] at g3;cases g3
  have hcl:=c.toNat_lt
  have hg1:(i:Int)=0∨¬ (c.toNat:Int)=0:=hgood.1.imp (by omega) (fun h h2=>h (by rw [<- UInt8.toNat_inj];simpa using h2))
  have hg2:(i:Int)<9∨(c.toNat:Int)<=1:=hgood.2.imp (by omega) (fun h=>by rw [UInt8.le_iff_toNat_le] at h;have h:c.toNat<=1:=h;omega)
  have hi2:(7*(i:Int))=((7*i:Nat):Int):=by omega
  have e1:IntKind.i64.wrap (7*(i:Int))=7*(i:Int):=wrap64 (by omega)
  obtain⟨q,sm,hq,hsm,hsm2,e2,e3⟩:=num_arith i acc c g1 g2 hgood.2
  have hpow:128 ^ (i+1)=128 ^ i*128:=Nat.pow_succ ..
  rw [pNum,if_pos hgood] at g3
  have hlt8:(c.toNat:Int)<128↔c<128:=by rw [UInt8.lt_iff_toNat_lt];show _↔c.toNat<128;omega
  have hi1:IntKind.i64.wrap ((i:Int)+1)=((i+1:Nat):Int):=by rw [wrap64 (by omega)];omega
  refine⟨⟨rfl,rfl,rfl⟩,?_⟩
  have hend:((c.toNat:Int)<128->sm=u∧t=r)∧(128<=(c.toNat:Int)->i<9∧(pNum (i+1) t).map (fun y=>(sm+y.1*128 ^ (i+1),y.2))=some (u,r)):=by
   refine⟨fun h=>?_,fun h=>?_⟩
   ·rw [if_pos (hlt8.1 h)] at g3
    simp at g3
    have:c.toNat % 128=c.toNat:=by omega
    rw [this] at hq
    exact⟨by omega,g3.2⟩
   ·rw [if_neg (fun h2=>by have:=hlt8.2 h2;omega)] at g3
    refine⟨by omega,?_⟩
    rw [<- g3,Option.map_map]
    congr 1
    funext y
    simp only [Function.comp,Prod.mk.injEq,and_true]
    rw [hsm,hq,hpow,Nat.add_mul,<- Nat.mul_assoc,Nat.mul_comm 128 y.1,Nat.mul_assoc y.1,Nat.mul_assoc y.1,Nat.mul_comm (128 ^ i) 128]
    omega
  have hc3:((i:Int) == 0)=true∧(i:Int)<9∨((i:Int) == 0)=false∧¬ c.toNat=0∧(i:Int)<9∨((i:Int) == 0)=false∧¬ c.toNat=0∧¬ (i:Int)<9∧(c.toNat:Int)<=1:=by
   by_cases h0:(i:Int)=0
   ·exact .inl ⟨by simp [h0],by omega⟩
   ·have h1:¬ (c.toNat:Int)=0:=hg1.resolve_left h0
    by_cases h9':(i:Int)<9
    ·exact .inr (.inl ⟨by simpa using h0,by omega,h9'⟩)
    ·exact .inr (.inr ⟨by simpa using h0,by omega,h9',hg2.resolve_left h9'⟩)
  clear g3 hgood hg1 hg2
  rcases hc3 with ⟨b1,b2⟩ | ⟨b1,b2,b3⟩ | ⟨b1,b2,b3,b4⟩
  ·refine vc_path [.ret (.tup [])] ?_
   simp [dU,e1,e2,e3,b1,b2]
   refine⟨.want_t _,.tup (by simp),by omega,fun h=>?_,fun h=>?_⟩
   ·obtain⟨rfl,rfl⟩:=hend.1 h
    exact⟨LeD.refl _,LeD.refl _⟩
   ·obtain⟨k1,k2⟩:=hend.2 h
    refine⟨i+1,sm,t,⟨by omega,hsm2,by simpa using k2⟩,by simp,[],[],?_⟩
    simp [hi1]
  ·refine vc_path [.ret (.tup [])] ?_
   simp [dU,e1,e2,e3,b1,b2,b3]
   refine⟨.want_t _,.tup (by simp),by omega,fun h=>?_,fun h=>?_⟩
   ·obtain⟨rfl,rfl⟩:=hend.1 h
    exact⟨LeD.refl _,LeD.refl _⟩
   ·obtain⟨k1,k2⟩:=hend.2 h
    refine⟨i+1,sm,t,⟨by omega,hsm2,by simpa using k2⟩,by simp,[],[],?_⟩
    simp [hi1]
  ·refine vc_path [.ret (.tup [])] ?_
   simp [dU,e1,e2,e3,b1,b2,b3,b4]
   refine⟨.want_t _,.tup (by simp),by omega,fun h=>?_,fun h=>?_⟩
   ·obtain⟨rfl,rfl⟩:=hend.1 h
    exact⟨LeD.refl _,LeD.refl _⟩
   ·obtain⟨k1,k2⟩:=hend.2 h
    refine⟨i+1,sm,t,⟨by omega,hsm2,by simpa using k2⟩,by simp,[],[],?_⟩
    simp [hi1]
theorem number_no(b:List UInt8) (h:pNum 0 b=none):BCall Tryz.prog 123 [.sl 1 (b.map dU)] [] (.pan (tE 10)) (fun _=>True):=by
 refine bcall_of_vc h526 c123 (by simp [a123]) fun hr1 hr=>?_
 simp [a123]
 refine vc_loopK [0] (Nat×Nat×List UInt8) (fun x=>[(3,true,.d (dI x.1)),(2,true,.d (.lit (.int .u64 x.2.1)))]) (fun x=>[(0,.box true [.d (.sl 1 (x.2.2.map dU))])]) (fun x=>x.1<=9∧x.2.1<128 ^ x.1∧pNum x.1 x.2.2=none) (fun x=>x.2.2.length) (0,0,b) ⟨by omega,by simp,h⟩ ⟨[],[],?_⟩ (fun x hx=>?_)
 ·simp
 obtain⟨i,acc,t⟩:=x
 obtain⟨g1,g2,g3⟩:=hx
 simp only at g1 g2 g3
 cases t with
 | nil =>
  simp
  refine regS_path [] ?_
  simp
  refine icall_T (TB _ _ _ _) (hcall_of_bcall (take_no [] 1 (by simp))) ?_
  refine⟨0,_,_,rfl,rfl,rfl,fun cs' _ h1=>?_⟩
  simp
  exact⟨cs',leL_map _ _ _ _ _,h1⟩
 | cons c t =>
  simp
  refine regS_path [] ?_
  simp
  refine icall_T (TB _ _ _ _) (hcall_of_bcall (take_ok (c::t) 1 (by simp))) ?_
  refine⟨0,_,_,rfl,rfl,rfl,?_⟩
  simp
  have e1:IntKind.i64.wrap (7*(i:Int))=7*(i:Int):=wrap64 (by omega)
  refine⟨⟨rfl,rfl,rfl⟩,?_⟩
  by_cases hgood:(i=0∨c≠0)∧(i<9∨c<=1)
  ·obtain⟨q,sm,hq,hsm,hsm2,e2,e3⟩:=num_arith i acc c g1 g2 hgood.2
   rw [pNum,if_pos hgood] at g3
   have hlt8:(c.toNat:Int)<128↔c<128:=by rw [UInt8.lt_iff_toNat_lt];show _↔c.toNat<128;omega
   have hge:¬ (c.toNat:Int)<128:=fun h=>by rw [if_pos (hlt8.1 h)] at g3;cases g3
   rw [if_neg (fun h=>hge (hlt8.2 h))] at g3
   have g4:pNum (i+1) t=none:=by simpa using g3
   have hg1:(i:Int)=0∨¬ (c.toNat:Int)=0:=hgood.1.imp (by omega) (fun h h2=>h (by rw [<- UInt8.toNat_inj];simpa using h2))
   have b3:(i:Int)<9:=by
    rcases hgood.2 with h | h
    ·omega
    ·rw [UInt8.le_iff_toNat_le] at h;have h:c.toNat<=1:=h;omega
   have hi1:IntKind.i64.wrap ((i:Int)+1)=((i+1:Nat):Int):=by rw [wrap64 (by omega)];omega
   have hge2:(128:Int)<=c.toNat:=by omega
   have hc3:((i:Int) == 0)=true∨((i:Int) == 0)=false∧¬ c.toNat=0:=by
    by_cases h0:(i:Int)=0
    ·exact .inl (by simp [h0])
    ·exact .inr ⟨by simpa using h0,by have:=hg1.resolve_left h0;omega⟩
   clear g3 hgood hg1 hge
   rcases hc3 with b1 | ⟨b1,b2⟩
   ·refine vc_path [.ret (.tup [])] ?_
    simp [dU,e1,e2,e3,b1,b3]
    refine⟨.want_t _,.tup (by simp),by omega,fun h=>by omega,fun _=>⟨i+1,sm,t,⟨by omega,hsm2,g4⟩,by simp,[],[],?_⟩⟩
    simp [hi1]
   ·refine vc_path [.ret (.tup [])] ?_
    simp [dU,e1,e2,e3,b1,b2,b3]
    refine⟨.want_t _,.tup (by simp),by omega,fun h=>by omega,fun _=>⟨i+1,sm,t,⟨by omega,hsm2,g4⟩,by simp,[],[],?_⟩⟩
    simp [hi1]
  ·have hc3:((i:Int) == 0)=false∧c.toNat=0∨((i:Int) == 0)=false∧¬ c.toNat=0∧¬ (i:Int)<9∧¬ (c.toNat:Int)<=1:=by
    by_cases h1:i=0∨c≠0
    ·have h2:¬ (i<9∨c<=1):=fun h=>hgood ⟨h1,h⟩
     have h3:¬ i<9:=fun h=>h2 (.inl h)
     have h4:¬ c.toNat<=1:=fun h=>h2 (.inr (by rw [UInt8.le_iff_toNat_le];exact h))
     exact .inr ⟨by simp;omega,by omega,by omega,by omega⟩
    ·have h2:¬ i=0:=fun h=>h1 (.inl h)
     have h3:c=0:=Classical.byContradiction fun h=>h1 (.inr h)
     exact .inl ⟨by simpa using h2,by simp [h3]⟩
   rcases hc3 with ⟨b1,b2⟩ | ⟨b1,b2,b3,b4⟩
   ·refine vc_path [.pan (tE 10)] ?_
    simp [dU,b1,b2]
    exact⟨.want_f _,tE_free 10,[.sl 1 (t.map dU)],leL_map _ _ _ 3 [.sl 1 (t.map dU)],by simp⟩
   ·refine vc_path [.pan (tE 10)] ?_
    simp [dU,b1,b2,b3,b4]
    exact⟨.want_f _,tE_free 10,[.sl 1 (t.map dU)],leL_map _ _ _ 3 [.sl 1 (t.map dU)],by simp⟩
theorem signed(u:Nat) (hu:u<18446744073709551616):PCall Tryz.prog 122 [.lit (.int .u64 u)] (.ret (dI (sgn u))):=by
 refine pcall_of_vc noC c122 (by simp [a122]) fun hr=>?_
 simp [a122]
 have hs:shiftV false IntKind.u64 (u:Int) 1=.int .u64 ((u / 2:Nat):Int):=by
  simp [shiftV,IntKind.bits]
  rw [Int.fdiv_eq_ediv_of_nonneg _ (by omega)]
 have he1:IntKind.i64.wrap ((u / 2:Nat):Int)=((u / 2:Nat):Int):=wrap64 (by omega)
 have hand:(u % 2 ^ IntKind.u64.bits&&&1 % 2 ^ IntKind.u64.bits)=u % 2:=by
  have e1:u % 2 ^ IntKind.u64.bits=u:=by simp [IntKind.bits];omega
  have e2:1 % 2 ^ IntKind.u64.bits=2 ^ 1-1:=by decide
  rw [e1,e2,Nat.and_two_pow_sub_one_eq_mod]
 have hx1:(((u / 2:Nat):Int) % 2 ^ IntKind.i64.bits).toNat=u / 2:=by simp [IntKind.bits];omega
 rw [hs,hand]
 simp only [he1]
 rcases Nat.mod_two_eq_zero_or_one u with hm | hm
 ·have hy:IntKind.i64.wrap (-IntKind.i64.wrap (IntKind.u64.wrap ((u % 2:Nat):Int)))=0:=by rw [hm];decide
  have hx2:((0:Int) % 2 ^ IntKind.i64.bits).toNat=0:=by decide
  have hsg:sgn u=((u / 2:Nat):Int):=by unfold sgn;rw [if_neg (by omega)]
  simp only [hy,hx1,hx2,Nat.xor_zero,he1,hsg]
  simp
 ·have hy:IntKind.i64.wrap (-IntKind.i64.wrap (IntKind.u64.wrap ((u % 2:Nat):Int)))=-1:=by rw [hm];decide
  have hx2:((-1:Int) % 2 ^ IntKind.i64.bits).toNat=18446744073709551615:=by decide
  have hsg:sgn u=-((u / 2:Nat):Int)-1:=by unfold sgn;rw [if_pos (by omega)]
  have hw:IntKind.i64.wrap ((18446744073709551615-u / 2:Nat):Int)=-((u / 2:Nat):Int)-1:=by simp [IntKind.wrap,IntKind.bits,IntKind.signed];omega
  simp only [hy,hx1,hx2,xor_ones (u / 2) (by omega),hw,hsg]
  simp
theorem pNum_len{b r:List UInt8}{u:Nat}(h:pNum 0 b=some (u,r)):r.length<=b.length:=by
 have:=(pNum_sound b 0 u r (by omega) h).1
 rw [this,List.length_append];omega
theorem pNum_lt{b r:List UInt8}{u:Nat}(h:pNum 0 b=some (u,r)):u<18446744073709551616:=by
 have:=(pNum_sound b 0 u r (by omega) h).2.2
 omega
theorem length_ok(b r:List UInt8) (u:Nat) (h:pNum 0 b=some (u,r)) (hu:u<=r.length):BCall Tryz.prog 124 [.sl 1 (b.map dU)] [] (.ret (dI u)) (fun c=>c=[.sl 1 (r.map dU)]):=by
 refine bcall_of_vc h526 c124 (by simp [a124]) fun hr1 hr=>?_
 have hlen:=(hr1 (.sl 1 (b.map dU)) (by simp)).sl.1
 simp at hlen
 simp [a124]
 refine regS_path [] ?_
 simp
 refine icall_T (TB _ _ _ _) (hcall_of_bcall (number_ok b r u h)) ?_
 refine⟨0,_,_,rfl,rfl,rfl,?_⟩
 simp
 have hrl:=pNum_len h
 have hw:IntKind.u64.wrap (r.length:Int)=r.length:=wrap_u64 (by omega) (by omega)
 have hw2:IntKind.i64.wrap (u:Int)=u:=wrap64 (by omega)
 have hle:(u:Int)<=r.length:=by omega
 refine vc_path [.ret (.tup [])] ?_
 simp [hw,hw2,hle]
 exact⟨.want_t _,.tup (by simp)⟩
theorem length_no1(b:List UInt8) (h:pNum 0 b=none):BCall Tryz.prog 124 [.sl 1 (b.map dU)] [] (.pan (tE 10)) (fun _=>True):=by
 refine bcall_of_vc h526 c124 (by simp [a124]) fun hr1 hr=>?_
 simp [a124]
 refine regS_path [] ?_
 simp
 refine icall_T (TB _ _ _ _) (hcall_of_bcall (number_no b h)) ?_
 refine⟨0,_,_,rfl,rfl,rfl,fun cs' _ h1=>?_⟩
 simp
 exact⟨cs',leL_map _ _ _ _ _,h1⟩
theorem length_no2(b r:List UInt8) (u:Nat) (h:pNum 0 b=some (u,r)) (hu:r.length<u):BCall Tryz.prog 124 [.sl 1 (b.map dU)] [] (.pan (tE 10)) (fun _=>True):=by
 refine bcall_of_vc h526 c124 (by simp [a124]) fun hr1 hr=>?_
 have hlen:=(hr1 (.sl 1 (b.map dU)) (by simp)).sl.1
 simp at hlen
 simp [a124]
 refine regS_path [] ?_
 simp
 refine icall_T (TB _ _ _ _) (hcall_of_bcall (number_ok b r u h)) ?_
 refine⟨0,_,_,rfl,rfl,rfl,?_⟩
 simp
 have hrl:=pNum_len h
 have hw:IntKind.u64.wrap (r.length:Int)=r.length:=wrap_u64 (by omega) (by omega)
 have hle:¬ (u:Int)<=r.length:=by omega
 refine vc_path [.pan (tE 10)] ?_
 simp [hw,hle]
 exact⟨.want_f _,tE_free 10,[.sl 1 (r.map dU)],leL_map _ _ _ 3 [.sl 1 (r.map dU)],by simp⟩
inductive C527:FuncId->List D->Out->Prop
 | want_t (x:D):C527 98 [x,dB true] (.ret (.tup []))
 | want_f (x:D):C527 98 [x,dB false] (.pan (tE 10))
 | signed (u:Nat) (hu:u<18446744073709551616):C527 122 [.lit (.int .u64 u)] (.ret (dI (sgn u)))
theorem h527:∀ f ds out,C527 f ds out->PCall Tryz.prog f ds out:=by
 intro f ds out h
 cases h with
 | want_t x=>exact want_t x
 | want_f x=>exact want_f x
 | signed u hu=>exact signed u hu
def ValOk (dp:Nat) (p:List UInt8->Option (Vl×List UInt8)):Prop :=
 (∀ b v r,b.length<=1099511627776->p b=some (v,r)->BCall Tryz.prog 97 [.sl 1 (b.map dU)] [dI dp] (.ret (dV v)) (fun c=>c=[.sl 1 (r.map dU)])∧r.length<=b.length) ∧
 (∀ b,b.length<=1099511627776->p b=none->BCall Tryz.prog 97 [.sl 1 (b.map dU)] [dI dp] (.pan (tE 10)) (fun _=>True))
theorem val1_ok(dp:Nat) (deep:Option (List UInt8->Option (Vl×List UInt8))) (hd:dp<=16) (hdeep:∀ p,deep=some p->dp<16∧ValOk (dp+1) p) (b r:List UInt8) (v:Vl) (hb:b.length<=1099511627776) (h:pV1 deep b=some (v,r)) :
  BCall Tryz.prog 97 [.sl 1 (b.map dU)] [dI dp] (.ret (dV v)) (fun c=>c=[.sl 1 (r.map dU)]):=by
 refine bcall_of_vc h527 c97 (by simp [a97]) fun hr1 hr=>?_
 simp [a97]
 cases b with
 | nil=>simp [pV1] at h
 | cons c t =>
  refine regS_path [] ?_
  simp
  refine icall_T (TB _ _ _ _) (hcall_of_bcall (take_ok (c::t) 1 (by simp))) ?_
  refine⟨0,_,_,rfl,rfl,rfl,?_⟩
  simp
  have hcl:=c.toNat_lt
  have hw:IntKind.i64.wrap (c.toNat:Int)=c.toNat:=wrap64 (by omega)
  have hcn:∀ k:UInt8,c=k↔c.toNat=k.toNat:=fun k=>UInt8.toNat_inj.symm
  simp [dU,hw]
  simp only [List.length_cons] at hb
  rw [pV1] at h
  by_cases hk1:c=1
  ·rw [if_pos hk1] at h
   cases hx:pNum 0 t with
   | none=>rw [hx] at h;cases h
   | some x =>
    obtain⟨u,r1⟩:=x
    rw [hx] at h
    simp at h
    obtain⟨rfl,rfl⟩:=h
    have hk:c.toNat=1:=(hcn 1).1 hk1
    have hul:=pNum_lt hx
    refine⟨fun _=>?_,fun h=>absurd (by omega) h⟩
    refine regS_path [.ret (dI (sgn u))] ?_
    simp
    refine icall_T (TB _ _ _ _) (hcall_of_bcall (number_ok t r1 u hx)) ?_
    refine⟨0,_,_,rfl,rfl,rfl,?_⟩
    simp [dV_eq]
    refine⟨.signed u hul,LeD.agg (.cons (leD_of_eq (by rw [hk];rfl)) (.cons (LeD.refl _) (.cons (LeD.refl _) (.cons (LeD.nil 4) .nil)))) (by simp)⟩
  rw [if_neg hk1] at h
  have hn1:¬ (c.toNat:Int)=1:=fun h=>hk1 ((hcn 1).2 (by show c.toNat=1;omega))
  by_cases hk2:c=2
  ·rw [if_pos hk2] at h
   cases hx:pNum 0 t with
   | none=>rw [hx] at h;cases h
   | some x =>
    obtain⟨u,r1⟩:=x
    rw [hx,Option.bind_some] at h
    simp only at h
    split at h
    case isFalse=>cases h
    case isTrue hu =>
    simp at h
    obtain⟨rfl,rfl⟩:=h
    have hk:c.toNat=2:=(hcn 2).1 hk2
    refine⟨fun h=>absurd h hn1,fun _=>⟨fun _=>?_,fun h=>absurd (by omega) h⟩⟩
    refine regS_path [] ?_
    simp
    refine icall_T (TB _ _ _ _) (hcall_of_bcall (length_ok t r1 u hx hu)) ?_
    refine⟨0,_,_,rfl,rfl,rfl,?_⟩
    simp
    refine icall_T (TB _ _ _ _) (hcall_of_bcall (take_ok r1 u hu)) ?_
    refine⟨0,_,_,rfl,rfl,rfl,?_⟩
    simp [dV_eq]
    refine⟨fun e he=>?_,LeD.agg (.cons (leD_of_eq (by rw [hk];rfl)) (.cons (LeD.refl _) (.cons (leD_of_eq ?_) (.cons (LeD.nil 4) .nil)))) (by simp)⟩
    ·rw [<- List.map_take] at he
     obtain⟨y,_,rfl⟩:=List.mem_map.1 he
     rfl
    ·rw [<- List.map_take,bytesOf_map];rfl
  rw [if_neg hk2] at h
  have hn2:¬ (c.toNat:Int)=2:=fun h=>hk2 ((hcn 2).2 (by show c.toNat=2;omega))
  by_cases hk3:c=3
  case neg=>rw [if_neg hk3] at h;cases h
  rw [if_pos hk3] at h
  have hk:c.toNat=3:=(hcn 3).1 hk3
  cases hdp:deep with
  | none=>rw [hdp] at h;cases h
  | some p =>
   obtain⟨hlt,hp⟩:=hdeep p hdp
   rw [hdp,Option.bind_some] at h
   cases hx:pNum 0 t with
   | none=>rw [hx] at h;cases h
   | some x =>
    obtain⟨u,r1⟩:=x
    rw [hx,Option.bind_some] at h
    simp only at h
    split at h
    case isFalse=>cases h
    case isTrue hu =>
    cases hy:pVs p u r1 with
    | none=>rw [hy] at h;cases h
    | some y =>
     obtain⟨vs,r2⟩:=y
     rw [hy] at h
     simp at h
     obtain⟨rfl,rfl⟩:=h
     have hr1l:=pNum_len hx
     have hlt':(dp:Int)<16:=by omega
     refine⟨fun h=>absurd h hn1,fun _=>⟨fun h=>absurd h hn2,fun _=>⟨fun _=>?_,fun h=>absurd (by omega) h⟩⟩⟩
     refine vc_path [.ret (.tup [])] ?_
     simp [hlt']
     refine⟨.want_t _,.tup (by simp),regS_path [] ?_⟩
     simp
     refine icall_T (TB _ _ _ _) (hcall_of_bcall (length_ok t r1 u hx hu)) ?_
     refine⟨0,_,_,rfl,rfl,rfl,?_⟩
     simp
     have hkI:(c.toNat:Int)=3:=by omega
     refine vc_loopK [0,1,4,36] (Nat×List Vl×List UInt8) (fun x=>[(37,true,.d (dI x.1))]) (fun x=>[(0,.box true [.d (.sl 1 (x.2.2.map dU))]),(1,.box true [.d (dI 3),.d (dI 0),.d (dZ []),.own 2 4 (x.2.1.map dV)]),(2,.row)])
      (fun x=>x.1<=u∧x.2.1.length=x.1∧x.2.2.length<=r1.length∧(pVs p (u-x.1) x.2.2).map (fun y=>(x.2.1++y.1,y.2))=some (vs,r2)) (fun x=>u-x.1) (0,[],r1) ⟨by omega,rfl,Nat.le_refl _,by rw [Nat.sub_zero,hy];rfl⟩ ⟨[],[(2,4)],?_⟩ (fun x hx=>?_)
     ·simp [hkI]
      exact LeD.refl _
     obtain⟨i,es,rest⟩:=x
     obtain⟨g1,g2,g3,g4⟩:=hx
     simp only at g1 g2 g3 g4
     simp
     refine⟨fun hlt=>?_,fun hge=>?_⟩
     ·have hwd:IntKind.i64.wrap ((dp:Int)+1)=((dp+1:Nat):Int):=by rw [wrap64 (by omega)];omega
      have hwi:IntKind.i64.wrap ((i:Int)+1)=((i+1:Nat):Int):=by rw [wrap64 (by omega)];omega
      rw [show u-i=(u-(i+1))+1 by omega,pVs] at g4
      cases hq:p rest with
      | none=>rw [hq] at g4;cases g4
      | some z =>
       obtain⟨w,rest2⟩:=z
       rw [hq,Option.bind_some] at g4
       obtain⟨hB,hlr⟩:=hp.1 rest w rest2 (by omega) hq
       refine regI_path [] [] [] ?_
       simp [hwd]
       rw [show ((dp+1:Nat):Int)=(dp:Int)+1 by omega] at hB
       refine⟨rfl,icallD_T (TB _ _ _ _) (hcall_of_bcall hB) ?_⟩
       refine⟨0,_,_,rfl,rfl,rfl,?_⟩
       simp
       refine⟨rfl,⟨by omega,by omega⟩,i+1,es++[w],rest2,⟨by omega,by simp [g2],by omega,?_⟩,by omega,[(2,4)],[],?_⟩
       ·cases hz:pVs p (u-(i+1)) rest2 with
        | none=>rw [hz] at g4;cases g4
        | some z =>
         rw [hz] at g4
         simp at g4
         exact⟨z.1,by rw [<- g4.2],by simpa using g4.1⟩
       ·simp [hwi]
     ·have hiu:u-i=0:=by omega
      rw [hiu,pVs] at g4
      simp at g4
      obtain⟨rfl,rfl⟩:=g4
      simp [dV_eq]
      trace_state
      done
theorem val1_no(dp:Nat) (deep:Option (List UInt8->Option (Vl×List UInt8))) (hd:dp<=16) (hdeep:∀ p,deep=some p->dp<16∧ValOk (dp+1) p) (hnone:deep=none->dp=16) (b:List UInt8) (hb:b.length<=1099511627776) (h:pV1 deep b=none) :
  BCall Tryz.prog 97 [.sl 1 (b.map dU)] [dI dp] (.pan (tE 10)) (fun _=>True):=by
 refine bcall_of_vc h527 c97 (by simp [a97]) fun hr1 hr=>?_
 simp [a97]
 cases b with
 | nil =>
  refine regS_path [] ?_
  simp
  refine icall_T (TB _ _ _ _) (hcall_of_bcall (take_no [] 1 (by simp))) ?_
  refine⟨0,_,_,rfl,rfl,rfl,fun cs' _ h1=>?_⟩
  simp
  exact⟨cs',leL_map _ _ _ _ _,h1⟩
 | cons c t =>
  refine regS_path [] ?_
  simp
  refine icall_T (TB _ _ _ _) (hcall_of_bcall (take_ok (c::t) 1 (by simp))) ?_
  refine⟨0,_,_,rfl,rfl,rfl,?_⟩
  simp
  have hcl:=c.toNat_lt
  have hw:IntKind.i64.wrap (c.toNat:Int)=c.toNat:=wrap64 (by omega)
  have hcn:∀ k:UInt8,c=k↔c.toNat=k.toNat:=fun k=>UInt8.toNat_inj.symm
  simp [dU,hw]
  simp only [List.length_cons] at hb
  rw [pV1] at h
  by_cases hk1:c=1
  ·rw [if_pos hk1] at h
   have hx:pNum 0 t=none:=by simpa using h
   have hk:c.toNat=1:=(hcn 1).1 hk1
   refine⟨fun _=>?_,fun h=>absurd (by omega) h⟩
   refine regS_path [] ?_
   simp
   refine icall_T (TB _ _ _ _) (hcall_of_bcall (number_no t hx)) ?_
   refine⟨0,_,_,rfl,rfl,rfl,fun cs' _ h1=>?_⟩
   simp
   exact⟨cs',leL_map _ _ _ _ _,h1⟩
  rw [if_neg hk1] at h
  have hn1:¬ (c.toNat:Int)=1:=fun h=>hk1 ((hcn 1).2 (by show c.toNat=1;omega))
  by_cases hk2:c=2
  ·rw [if_pos hk2] at h
   have hk:c.toNat=2:=(hcn 2).1 hk2
   refine⟨fun h=>absurd h hn1,fun _=>⟨fun _=>?_,fun h=>absurd (by omega) h⟩⟩
   refine regS_path [] ?_
   simp
   cases hx:pNum 0 t with
   | none =>
    refine icall_T (TB _ _ _ _) (hcall_of_bcall (length_no1 t hx)) ?_
    refine⟨0,_,_,rfl,rfl,rfl,fun cs' _ h1=>?_⟩
    simp
    exact⟨cs',leL_map _ _ _ _ _,h1⟩
   | some x =>
    obtain⟨u,r1⟩:=x
    rw [hx,Option.bind_some] at h
    simp only at h
    have hu:r1.length<u:=by
     rcases Nat.lt_or_ge r1.length u with h' | h'
     ·exact h'
     ·rw [if_pos h'] at h;cases h
    refine icall_T (TB _ _ _ _) (hcall_of_bcall (length_no2 t r1 u hx hu)) ?_
    refine⟨0,_,_,rfl,rfl,rfl,fun cs' _ h1=>?_⟩
    simp
    exact⟨cs',leL_map _ _ _ _ _,h1⟩
  rw [if_neg hk2] at h
  have hn2:¬ (c.toNat:Int)=2:=fun h=>hk2 ((hcn 2).2 (by show c.toNat=2;omega))
  by_cases hk3:c=3
  case neg =>
   have hn3:¬ (c.toNat:Int)=3:=fun h=>hk3 ((hcn 3).2 (by show c.toNat=3;omega))
   refine⟨fun h=>absurd h hn1,fun _=>⟨fun h=>absurd h hn2,fun _=>⟨fun h=>absurd h hn3,fun _=>?_⟩⟩⟩
   refine vc_path [.pan (tE 10)] ?_
   simp
   exact⟨.want_f _,tE_free 10,[.sl 1 (t.map dU)],leL_map _ _ _ 3 [.sl 1 (t.map dU)],by simp⟩
  rw [if_pos hk3] at h
  have hk:c.toNat=3:=(hcn 3).1 hk3
  refine⟨fun h=>absurd h hn1,fun _=>⟨fun h=>absurd h hn2,fun _=>⟨fun _=>?_,fun h=>absurd (by omega) h⟩⟩⟩
  cases hdp:deep with
  | none =>
   have hlt':¬ (dp:Int)<16:=by have:=hnone hdp;omega
   refine vc_path [.pan (tE 10)] ?_
   simp [hlt']
   exact⟨.want_f _,tE_free 10,[.sl 1 (t.map dU)],leL_map _ _ _ 3 [.sl 1 (t.map dU)],by simp⟩
  | some p =>
   obtain⟨hlt,hp⟩:=hdeep p hdp
   have hlt':(dp:Int)<16:=by omega
   rw [hdp,Option.bind_some] at h
   refine vc_path [.ret (.tup [])] ?_
   simp [hlt']
   refine⟨.want_t _,.tup (by simp),regS_path [] ?_⟩
   simp
   cases hx:pNum 0 t with
   | none =>
    refine icall_T (TB _ _ _ _) (hcall_of_bcall (length_no1 t hx)) ?_
    refine⟨0,_,_,rfl,rfl,rfl,fun cs' _ h1=>?_⟩
    simp
    exact⟨cs',leL_map _ _ _ _ _,h1⟩
   | some x =>
    obtain⟨u,r1⟩:=x
    rw [hx,Option.bind_some] at h
    simp only at h
    rcases Nat.lt_or_ge r1.length u with hu | hu
    ·refine icall_T (TB _ _ _ _) (hcall_of_bcall (length_no2 t r1 u hx hu)) ?_
     refine⟨0,_,_,rfl,rfl,rfl,fun cs' _ h1=>?_⟩
     simp
     exact⟨cs',leL_map _ _ _ _ _,h1⟩
    rw [if_pos hu] at h
    have hy:pVs p u r1=none:=by simpa using h
    have hr1l:=pNum_len hx
    refine icall_T (TB _ _ _ _) (hcall_of_bcall (length_ok t r1 u hx hu)) ?_
    refine⟨0,_,_,rfl,rfl,rfl,?_⟩
    simp
    have hkI:(c.toNat:Int)=3:=by omega
    refine vc_loopK [0,1,4,36] (Nat×List Vl×List UInt8) (fun x=>[(37,true,.d (dI x.1))]) (fun x=>[(0,.box true [.d (.sl 1 (x.2.2.map dU))]),(1,.box true [.d (dI 3),.d (dI 0),.d (dZ []),.own 2 4 (x.2.1.map dV)]),(2,.row)])
     (fun x=>x.1<=u∧x.2.1.length=x.1∧x.2.2.length<=r1.length∧pVs p (u-x.1) x.2.2=none) (fun x=>u-x.1) (0,[],r1) ⟨by omega,rfl,Nat.le_refl _,by rw [Nat.sub_zero,hy]⟩ ⟨[],[(2,4)],?_⟩ (fun x hx=>?_)
    ·simp [hkI]
     exact LeD.refl _
    obtain⟨i,es,rest⟩:=x
    obtain⟨g1,g2,g3,g4⟩:=hx
    simp only at g1 g2 g3 g4
    simp
    refine⟨fun hlt=>?_,fun hge=>?_⟩
    ·have hwd:IntKind.i64.wrap ((dp:Int)+1)=((dp+1:Nat):Int):=by rw [wrap64 (by omega)];omega
     have hwi:IntKind.i64.wrap ((i:Int)+1)=((i+1:Nat):Int):=by rw [wrap64 (by omega)];omega
     rw [show u-i=(u-(i+1))+1 by omega,pVs] at g4
     refine regI_path [] [] [] ?_
     simp [hwd]
     cases hq:p rest with
     | none =>
      have hB:=hp.2 rest (by omega) hq
      rw [show ((dp+1:Nat):Int)=(dp:Int)+1 by omega] at hB
      refine⟨rfl,icallD_T (TB _ _ _ _) (hcall_of_bcall hB) ?_⟩
      refine⟨0,_,_,rfl,rfl,rfl,fun cs' _ h1=>?_⟩
      simp
      exact⟨cs',leL_map _ _ _ _ _,h1⟩
     | some z =>
      obtain⟨w,rest2⟩:=z
      rw [hq,Option.bind_some] at g4
      obtain⟨hB,hlr⟩:=hp.1 rest w rest2 (by omega) hq
      rw [show ((dp+1:Nat):Int)=(dp:Int)+1 by omega] at hB
      refine⟨rfl,icallD_T (TB _ _ _ _) (hcall_of_bcall hB) ?_⟩
      refine⟨0,_,_,rfl,rfl,rfl,?_⟩
      simp
      refine⟨rfl,⟨by omega,by omega⟩,i+1,es++[w],rest2,⟨by omega,by simp [g2],by omega,by simpa using g4⟩,by omega,[(2,4)],[],?_⟩
      simp [hwi]
    ·have hiu:u-i=0:=by omega
     rw [hiu,pVs] at g4
     cases g4
theorem pV1_len{deep:Option (List UInt8->Option (Vl×List UInt8))}{d:Nat}{b r:List UInt8}{v:Vl}(h:pV d b=some (v,r)):r.length<=b.length:=by
 have:=(pV_sound d b v r h).1
 rw [this,List.length_append];omega
theorem valOk:∀ d:Nat,d<=16->ValOk (16-d) (pV d)
 | 0,_=>⟨fun b v r hb h=>⟨val1_ok 16 none (by omega) (fun p hp=>by cases hp) b r v hb h,pV1_len (deep:=none) h⟩,fun b hb h=>val1_no 16 none (by omega) (fun p hp=>by cases hp) (fun _=>rfl) b hb h⟩
 | d+1,hd=>by
  have ih:=valOk d (by omega)
  have hdeep:∀ p,some (pV d)=some p->16-(d+1)<16∧ValOk (16-(d+1)+1) p:=fun p hp=>by
   injection hp with hp;subst hp
   exact⟨by omega,by rw [show 16-(d+1)+1=16-d by omega];exact ih⟩
  exact⟨fun b v r hb h=>⟨val1_ok (16-(d+1)) (some (pV d)) (by omega) hdeep b r v hb h,pV1_len (deep:=none) h⟩,fun b hb h=>val1_no (16-(d+1)) (some (pV d)) (by omega) hdeep (fun h=>by cases h) b hb h⟩
def zV:Vl:=.mk 0 0 [] []
def decL (b:List UInt8):Vl:=(decV b).getD zV
def decE (b:List UInt8):Int:=if (decV b).isSome then 0 else 10
theorem leZV:LeD (.agg [dI 0,dI 0,.lit (.string ⟨#[]⟩),.nil 4]) (dV zV):=by
 rw [zV,dV_eq]
 exact LeD.agg (.cons (LeD.refl _) (.cons (LeD.refl _) (.cons (LeD.refl _) (.cons (LeD.nil 4) .nil)))) (by simp)
theorem decode(b:List UInt8) (hb:b.length<=1099511627776):PCall Tryz.prog 53 [.sl 1 (b.map dU)] (.ret (.tup [dV (decL b),dI (decE b)])):=by
 refine pcall_of_vc h527 c53 (by simp [a53]) fun hr=>?_
 simp [a53]
 refine regS_path [] ?_
 simp
 refine regS_path [] ?_
 simp
 have hv:=valOk 16 (by omega)
 rw [Nat.sub_self] at hv
 cases hp:pV 16 b with
 | none =>
  have e1:decV b=none:=by unfold decV;rw [hp]
  have e2:decL b=zV:=by unfold decL;rw [e1];rfl
  have e3:decE b=10:=by unfold decE;rw [e1];rfl
  rw [e2,e3]
  refine icall_T (TB _ _ _ _) (hcall_of_bcall (hv.2 b hb hp)) ?_
  refine⟨2,_,_,rfl,rfl,rfl,fun cs' _ h1=>?_⟩
  simp
  refine leave_fn (TR Tryz.prog a96) (dcall_of_vcR c96) ?_
  simp [a96,tE]
  exact⟨rfl,leZV⟩
 | some x =>
  obtain⟨v,r⟩:=x
  refine icall_T (TB _ _ _ _) (hcall_of_bcall (hv.1 b v r hb hp).1) ?_
  refine⟨2,_,_,rfl,rfl,rfl,?_⟩
  simp
  cases r with
  | nil =>
   have e1:decV b=some v:=by unfold decV;rw [hp]
   have e2:decL b=v:=by unfold decL;rw [e1];rfl
   have e3:decE b=0:=by unfold decE;rw [e1];rfl
   rw [e2,e3]
   refine vc_path [.ret (.tup [])] ?_
   simp
   refine⟨.want_t _,.tup (by simp),?_⟩
   refine leave_fn (TR Tryz.prog a96) (dcall_of_vcR c96) ?_
   simp [a96,tE]
   exact leD_of_eq (dV_agg v).symm
  | cons c r =>
   have e1:decV b=none:=by unfold decV;rw [hp]
   have e2:decL b=zV:=by unfold decL;rw [e1];rfl
   have e3:decE b=10:=by unfold decE;rw [e1];rfl
   rw [e2,e3]
   refine vc_path [.pan (tE 10)] ?_
   simp
   refine⟨.want_f _,tE_free 10,?_⟩
   refine leave_fn (TR Tryz.prog a96) (dcall_of_vcR c96) ?_
   simp [a96,tE]
   exact⟨rfl,leZV⟩
end

section
attribute [local simp] dZ_agg dZ_nt dZ_noTup dZ_cells dZ_one bz_toList bz_size strV dV_cells dV_isAgg dV_noTup dV_nt dSp_cells dSp_isAgg dSp_noTup dSp_nt dCh_cells dCh_isAgg dCh_noTup dCh_nt dNt_cells dNt_isAgg dNt_noTup dNt_nt
set_option maxRecDepth 8000
set_option maxHeartbeats 4000000
def pCh (c:Ch):Ch:=⟨c.at_,1,c.sp,c.ha,by omega⟩
theorem doE_nil(c:Ch):doDE [] (pCh c)=if okTm c.at_&&okSp c.sp then 0 else 490:=by
 have h1:okCh (pCh c)=(okTm c.at_&&okSp c.sp):=by simp [okCh,pCh]
 have h2:fitsL [] (pCh c)=true:=by simp [fitsL,pCh,hasL]
 unfold doDE
 rw [if_neg (by rw [dispE_nil];simp),h1,h2,Bool.and_true]
 cases okTm c.at_&&okSp c.sp <;> simp
inductive C532:FuncId->List D->Out->Prop
 | doN (c:Ch):C532 7 [.nil 0,dCh c] (.ret (.tup [.sl 3 ((doDL [] c).map dSp),dI (doDE [] c)]))
 | rc (c:Ch):C532 21 [dCh c] (.ret (dB (okCh c)))
theorem h532:∀ f ds out,C532 f ds out->PCall Tryz.prog f ds out:=by
 intro f ds out h
 cases h with
 | doN c=>exact(dDo [] c).le (.cons (LeD.nil' _ _) (.cons (LeD.refl _) .nil))
 | rc c=>exact rRightC c
theorem sFormed(n:Nt):PCall Tryz.prog 51 [dNt n] (.ret (dB (okNt n))):=by
 refine pcall_of_vc h532 c51 (by simp [a51]) fun hr=>?_
 simp [a51]
 have k1:=C532.doN (pCh n.ch)
 rw [doE_nil] at k1
 have hok:okNt n=(decide (0<=n.lang)&&(decide (n.lang<32)&&(decide (0<=n.seq)&&(decide (n.seq<=1048576)&&(okTm n.ch.at_&&(decide (1<=n.ch.kind)&&(decide (n.ch.kind<=3)&&okSp n.ch.sp))))))):=rfl
 rw [hok]
 generalize okTm n.ch.at_=p1 at *
 generalize okSp n.ch.sp=p2 at *
 generalize (doDL [] (pCh n.ch)).map dSp=L at *
 obtain⟨E,hE⟩:∃ E:Int,E=(if (p1&&p2)=true then 0 else 490):=⟨_,rfl⟩
 rw [<- hE] at k1
 have hE0:(E == 0)=(p1&&p2):=by rw [hE];cases p1 <;> cases p2 <;> rfl
 have hE1:E=0↔(p1&&p2)=true:=by rw [hE];cases p1 <;> cases p2 <;> simp
 refine vc_path [] ?_
 by_cases q5:1<=n.ch.kind <;> by_cases q6:n.ch.kind<=3 <;> simp [q5,q6]
 all_goals
  refine vc_path [.ret (.tup [.sl 3 L,dI E])] ?_
  simp
  refine⟨k1,vc_path [] ?_⟩
  simp
 all_goals
  rw [hE1]
  cases hp:(p1&&p2) <;> (try simp)
 all_goals
  by_cases q1:0<=n.lang <;> by_cases q2:n.lang<32 <;> by_cases q3:0<=n.seq <;> by_cases q4:n.seq<=1048576 <;> simp [q1,q2,q3,q4] <;> omega
end

section
open Go Go.Proofs.YtmmlicjkdeankaaGreatDoor.AL Go.Proofs Go.Shelf
def Tryz.lays106_ren : Go.Shelf.Ren := ⟨fun | 106 => 95 | 213 => 120 | 265 => 143 | n => n, fun | 9 => 9 | 3 => 3 | n => n, fun | n => n⟩
theorem Tryz.lays106 : Go.Proofs.Lays.n106 Tryz.prog Tryz.lays106_ren := {
  mixed := by kernel_rfl
  f106 := Tryz.func95.trans (congrArg some (by kernel_rfl))
  f213 := Tryz.func120.trans (congrArg some (by kernel_rfl))
  f265 := Tryz.func143.trans (congrArg some (by kernel_rfl))
  t3 := Tryz.underlying3
  a3 := Tryz.isAgg3
  z3 := Tryz.sizeOf3
  v3 := Tryz.zeroValue3
  t9 := Tryz.underlying9
  a9 := Tryz.isAgg9
  z9 := Tryz.sizeOf9
  v9 := Tryz.zeroValue9 }
set_option maxRecDepth 8000
set_option maxHeartbeats 4000000
def cmpT (a b:List UInt8):Int:=Lib.compareBytes a b
theorem cmpT_range(a b:List UInt8):cmpT a b=-1∨cmpT a b=0∨cmpT a b=1:=by
 unfold cmpT
 induction a generalizing b with
 | nil=>cases b <;> simp [Lib.compareBytes]
 | cons x a ih =>
  cases b with
  | nil=>simp [Lib.compareBytes]
  | cons y b =>
   rw [Lib.compareBytes]
   split
   ·exact .inl rfl
   ·split
    ·exact .inr (.inr rfl)
    ·exact ih b
theorem cmpT_lt(a b:List UInt8):cmpT a b<0↔bLt a b=true:=by
 unfold cmpT
 induction a generalizing b with
 | nil=>cases b with
  | nil=>simp [Lib.compareBytes,bLt_nil]
  | cons y b=>simp [Lib.compareBytes,bLt_nil_cons]
 | cons x a ih =>
  cases b with
  | nil=>simp [Lib.compareBytes,bLt_nil]
  | cons y b =>
   rw [Lib.compareBytes,bLt_cons]
   by_cases h1:x<y
   ·simp [h1]
   ·rw [if_neg h1]
    by_cases h2:y<x
    ·rw [if_pos h2]
     have:¬ x=y:=fun e=>by subst e;exact absurd h2 (UInt8.lt_irrefl _)
     simp [h1,this]
    ·rw [if_neg h2,ih]
     have:x=y:=by
      rcases Nat.lt_trichotomy x.toNat y.toNat with h | h | h
      ·exact absurd (UInt8.lt_iff_toNat_lt.2 h) h1
      ·exact UInt8.toNat_inj.1 h
      ·exact absurd (UInt8.lt_iff_toNat_lt.2 h) h2
     simp [this]
theorem cmpT_zero(a b:List UInt8):cmpT a b=0↔a=b:=by
 unfold cmpT
 induction a generalizing b with
 | nil=>cases b <;> simp [Lib.compareBytes]
 | cons x a ih =>
  cases b with
  | nil=>simp [Lib.compareBytes]
  | cons y b =>
   rw [Lib.compareBytes]
   by_cases h1:x<y
   ·have:¬ x=y:=fun e=>by subst e;exact absurd h1 (UInt8.lt_irrefl _)
    simp [h1,this]
   ·rw [if_neg h1]
    by_cases h2:y<x
    ·have:¬ x=y:=fun e=>by subst e;exact absurd h2 (UInt8.lt_irrefl _)
     simp [h2,this]
    ·rw [if_neg h2,ih]
     have:x=y:=by
      rcases Nat.lt_trichotomy x.toNat y.toNat with h | h | h
      ·exact absurd (UInt8.lt_iff_toNat_lt.2 h) h1
      ·exact UInt8.toNat_inj.1 h
      ·exact absurd (UInt8.lt_iff_toNat_lt.2 h) h2
     simp [this]
theorem sCompare(a b:List UInt8):PCall Tryz.prog 95 [dZ a,dZ b] (.ret (dI (cmpT a b))):=by
 refine⟨(hcall_of_vc c95).1,fun I w vals hI hgl hr=>?_⟩
 have hget:∀ (k:Nat) (x:List UInt8),[dZ a,dZ b][k]?=some (dZ x)->vals[k]?=some (.string (bz x)):=fun k x hk=>by
  have h1:=hr.1
  have hlt:k<vals.size:=by rw [h1];exact(List.getElem?_eq_some_iff.1 hk).1
  have h2:=hr.2 k (dZ x) vals[k] hk (Array.getElem?_eq_getElem hlt)
  rw [Array.getElem?_eq_getElem hlt]
  generalize vals[k]=y at h2
  cases h2;rfl
 have hv:vals=#[.string (bz a),.string (bz b)]:=by
  have h1:=hr.1
  apply Array.ext_getElem?
  intro i
  match i with
  | 0=>rw [hget 0 a rfl];rfl
  | 1=>rw [hget 1 b rfl];rfl
  | i+2=>rw [Array.getElem?_eq_none (by simp at h1;omega),Array.getElem?_eq_none (by simp)]
 subst hv
 refine(Any.strings_Compare Tryz.lays106 (bz a) (bz b) w).mono fun e w' hh=>?_
 obtain⟨he,rfl⟩:=hh
 have hrg:=cmpT_range a b
 refine⟨I,_,fun _ h=>h,fun _ h=>.inl h,hI,Grow.refl w',he,.lit ?_⟩
 have e1:Lib.compareBytes (bz a).data.toList (bz b).data.toList=cmpT a b:=by simp [bz,cmpT]
 exact⟨by simp [IntKind.min,IntKind.bits,IntKind.signed];omega,by simp [IntKind.max,IntKind.bits,IntKind.signed];omega⟩
end

section
attribute [local simp] dZ_agg dZ_nt dZ_noTup dZ_cells dZ_one bz_toList bz_size strV dV_cells dV_isAgg dV_noTup dV_nt dSp_cells dSp_isAgg dSp_noTup dSp_nt dCh_cells dCh_isAgg dCh_noTup dCh_nt dNt_cells dNt_isAgg dNt_noTup dNt_nt
set_option maxRecDepth 8000
set_option maxHeartbeats 4000000
theorem msgB_len'{n:Nt}(h:n.ch.sp.tx.length<=1000000):(msgB n).length<=2000000:=by
 have hn:∀ m:Int,-9223372036854775808<=m∧m<9223372036854775808->(numL (zz m)).length<=10:=fun m hm=>numL_length 10 _ (by
  have:=zz_lt64 hm
  have h1:(128:Nat) ^ 10=1180591620717411303424:=by decide
  rw [h1];omega) (by omega)
 have h1:=hn _ n.hl;have h2:=hn _ n.hs;have h3:=hn _ n.ch.ha;have h4:=hn _ n.ch.hk;have h5:=hn _ n.ch.sp.hi;have h6:=hn _ n.ch.sp.hv
 have h7:(numL n.ch.sp.tx.length).length<=10:=numL_length 10 _ (by
  have h1:(128:Nat) ^ 10=1180591620717411303424:=by decide
  rw [h1];omega) (by omega)
 have h8:(numL 7).length<=1:=numL_length 1 _ (by omega) (by omega)
 unfold msgB noteV aV iV sV
 rw [encV3]
 simp only [encVs,encV1,encV2,List.length_cons,List.length_append,List.length_nil,Nat.zero_add,Nat.reduceAdd] at h8 ⊢
 omega
theorem encR_note(n:Nt):encR (noteV n)=.tup [dBy (msgB n),dI 0]:=by
 have h1:eV (noteV n)=0:=by unfold eV;rw [if_pos (okV_noteV n),if_pos (by rw [dpV_noteV];omega)]
 unfold encR;rw [if_pos h1];rfl
def fldL (n:Nt):List Int:=[n.lang,n.seq,n.ch.at_,n.ch.kind,n.ch.sp.id,n.ch.sp.ver]
theorem LeD_slx{sz:Nat}{es es':List D}(hl:All2 LeD (D.flat es) (D.flat es')) (hlen:es.length=es'.length) (hz:∀ e∈es',e.cells.length=sz) (h1:∀ c∈D.flat es',c.one=true):LeD (.sl sz es) (.sl sz es'):=fun I w v r=>by
 cases r with
 | sl ad vs hn hc hm hA hz0 h10 hI hr =>
  refine .sl ad vs (hn.trans hlen) hc hm (hA.imp id fun e=>?_) hz h1 (fun k c hk=>?_) (fun k c hk=>?_)
  ·subst e;exact List.eq_nil_of_length_eq_zero (by rw [<- hlen];rfl)
  ·obtain⟨x,hx,_⟩:=all2_get hl hk
   exact hI k x hx
  ·obtain⟨x,hx,hle⟩:=all2_get hl hk
   exact hle _ _ _ (hr k x hx)
def iN (x:Int):D:=.agg [.lit (.int .i64 1),.lit (.int .i64 x),.lit (.string ⟨#[]⟩),.nil 4]
def sN (t:List UInt8):D:=.agg [.lit (.int .i64 2),.lit (.int .i64 0),dZ t,.nil 4]
def noteN (n:Nt):D:=.agg [.lit (.int .i64 3),.lit (.int .i64 0),.lit (.string ⟨#[]⟩),.sl 4 [iN n.lang,iN n.seq,iN n.ch.at_,iN n.ch.kind,iN n.ch.sp.id,iN n.ch.sp.ver,sN n.ch.sp.tx]]
theorem noteN_le(n:Nt):LeD (noteN n) (dV (noteV n)):=by
 have e:(noteV n)=.mk 3 0 [] [iV n.lang,iV n.seq,iV n.ch.at_,iV n.ch.kind,iV n.ch.sp.id,iV n.ch.sp.ver,sV n.ch.sp.tx]:=rfl
 rw [e,dV_eq]
 refine LeD.agg (.cons (LeD.refl _) (.cons (LeD.refl _) (.cons (LeD.refl _) (.cons ?_ .nil)))) (by simp)
 have hi:∀ x:Int,dV (iV x)=.agg [dI 1,dI x,dZ [],.sl 4 []]:=fun x=>by rw [iV,dV_eq];rfl
 have hs:∀ x:List UInt8,dV (sV x)=.agg [dI 2,dI 0,dZ x,.sl 4 []]:=fun x=>by rw [sV,dV_eq];rfl
 simp only [List.map_cons,List.map_nil,hi,hs]
 have r:=LeD.refl
 refine LeD_slx ?_ rfl (by simp) (by simp [D.flat])
 simp only [D.flat,List.flatMap_cons,List.flatMap_nil,iN,sN,D.cells,List.cons_append,List.nil_append]
 exact .cons (r _) (.cons (r _) (.cons (r _) (.cons (LeD.nil 4) (.cons (r _) (.cons (r _) (.cons (r _) (.cons (LeD.nil 4) (.cons (r _) (.cons (r _) (.cons (r _) (.cons (LeD.nil 4) (.cons (r _) (.cons (r _) (.cons (r _) (.cons (LeD.nil 4) (.cons (r _) (.cons (r _) (.cons (r _) (.cons (LeD.nil 4) (.cons (r _) (.cons (r _) (.cons (r _) (.cons (LeD.nil 4) (.cons (r _) (.cons (r _) (.cons (r _) (.cons (LeD.nil 4) .nil)))))))))))))))))))))))))))
inductive C534:FuncId->List D->Out->Prop
 | enc (n:Nt) (h:n.ch.sp.tx.length<=1000000):C534 109 [noteN n] (.ret (.tup [.sl 1 ((msgB n).map dU),dI 0]))
theorem h534:∀ f ds out,C534 f ds out->PCall Tryz.prog f ds out:=by
 intro f ds out h
 cases h with
 | enc n h =>
  have:=encode (noteV n) (by rw [dpV_noteV];omega) (by have:=msgB_len' h;exact Nat.le_trans this (by omega))
  rw [encR_note] at this;exact this.le (.cons (noteN_le n) .nil)
theorem sMessage(n:Nt) (hx:n.ch.sp.tx.length<=1000000):PCall Tryz.prog 75 [dNt n] (.ret (dZ (msgB n))):=by
 refine pcall_of_vc h534 c75 (by simp [a75]) fun hr=>?_
 simp [a75]
 refine regS_path [] ?_
 simp
 refine icall_T (TF Tryz.prog a54) (hcall_of_vc c54) ?_
 simp [a54]
 refine⟨rfl,?_⟩
 refine vc_loopK [1,2,8] Nat (fun i=>[(9,true,.d (dI i)),(3,true,.own 2 4 (((fldL n).take i).map iN))]) (fun _=>[(2,.row)]) (fun i=>i<=6) (fun i=>6-i) 0 (by simp) ⟨[],[(2,4)],?_⟩ (fun i hi=>?_)
 ·simp
 simp
 refine⟨fun hlt=>?_,fun hge=>?_⟩
 ·have hw:IntKind.i64.wrap ((i:Int)+1)=((i+1:Nat):Int):=by rw [wrap64 (by omega)];omega
  have h6:i=0∨i=1∨i=2∨i=3∨i=4∨i=5:=by omega
  rcases h6 with rfl | rfl | rfl | rfl | rfl | rfl
  all_goals
   simp [fldL,iN]
  ·exact⟨1,by omega,by omega,[(2,4)],[],by simp [fldL,iN];exact LeD.refl _⟩
  ·exact⟨2,by omega,by omega,[(2,4)],[],by simp [fldL,iN];exact LeD.refl _⟩
  ·exact⟨3,by omega,by omega,[(2,4)],[],by simp [fldL,iN];exact LeD.refl _⟩
  ·exact⟨4,by omega,by omega,[(2,4)],[],by simp [fldL,iN];exact LeD.refl _⟩
  ·exact⟨5,by omega,by omega,[(2,4)],[],by simp [fldL,iN];exact LeD.refl _⟩
  ·exact⟨6,by omega,by omega,[(2,4)],[],by simp [fldL,iN];exact LeD.refl _⟩
 ·have:i=6:=by omega
  subst this
  have hE:PCall Tryz.prog 109 [noteN n] (.ret (.tup [.sl 1 ((msgB n).map dU),dI 0])):=h534 _ _ _ (.enc n hx)
  simp [fldL]
  refine vc_path [.ret (.tup [.sl 1 ((msgB n).map dU),dI 0])] ?_
  simp
  refine⟨.enc n hx,fun a _=>rfl,?_⟩
  rw [bytesOf_map];exact LeD.refl _
end

section
attribute [local simp] dZ_agg dZ_nt dZ_noTup dZ_cells dZ_one bz_toList bz_size strV dSp_cells dSp_isAgg dSp_noTup dSp_nt dCh_cells dCh_isAgg dCh_noTup dCh_nt dNt_cells dNt_isAgg dNt_noTup dNt_nt dPe_cells dPe_isAgg dPe_noTup dPe_nt
set_option maxRecDepth 8000
set_option maxHeartbeats 4000000
inductive C535:FuncId->List D->Out->Prop
 | msg (n:Nt) (h:n.ch.sp.tx.length<=1000000):C535 75 [dNt n] (.ret (dZ (msgB n)))
 | cmp (a b:List UInt8):C535 95 [dZ a,dZ b] (.ret (dI (cmpT a b)))
theorem h535:∀ f ds out,C535 f ds out->PCall Tryz.prog f ds out:=by
 intro f ds out h
 cases h with
 | msg n h=>exact sMessage n h
 | cmp a b=>exact sCompare a b
theorem sCmpN(a b:Nt) (ha:a.ch.sp.tx.length<=1000000) (hb:b.ch.sp.tx.length<=1000000):PCall Tryz.prog 52 [dNt a,dNt b] (.ret (dI (cmpT (msgB a) (msgB b)))):=by
 refine pcall_of_vc h535 c52 (by simp [a52]) fun hr=>?_
 simp [a52]
 refine vc_pathD [.ret (dZ (msgB a)),.ret (dZ (msgB b)),.ret (dI (cmpT (msgB a) (msgB b)))] ?_
 simp
 exact⟨.msg a ha,.msg b hb,.cmp _ _,rfl⟩
inductive C535b:FuncId->List D->Out->Prop
 | cmp (a b:Nt) (ha:a.ch.sp.tx.length<=1000000) (hb:b.ch.sp.tx.length<=1000000):C535b 52 [dNt a,dNt b] (.ret (dI (cmpT (msgB a) (msgB b))))
 | formed (n:Nt):C535b 51 [dNt n] (.ret (dB (okNt n)))
theorem h535b:∀ f ds out,C535b f ds out->PCall Tryz.prog f ds out:=by
 intro f ds out h
 cases h with
 | cmp a b ha hb=>exact sCmpN a b ha hb
 | formed n=>exact sFormed n
def lastN (l:List Nt) (k:Nat):Option (List UInt8):=if k=0 then none else (l[k-1]?).map msgB
theorem lastN_s{l:List Nt}{k:Nat}(h:k<l.length):lastN l (k+1)=some (msgB l[k]):=by
 unfold lastN;rw [if_neg (by omega)];simp [h]
def ltO (o:Option (List UInt8)) (b:List UInt8):Bool:=match o with | none=>true | some a=>bLt a b
theorem okNs_cons(o:Option (List UInt8)) (n:Nt) (r:List Nt):okNs o (n::r)=(okNt n&&(ltO o (msgB n)&&okNs (some (msgB n)) r)):=by cases o <;> rfl
theorem okNs_step{l:List Nt}{k:Nat}(h:k<l.length) (hk:okNt l[k]=true):okNs (lastN l k) (l.drop k)=(ltO (lastN l k) (msgB l[k])&&okNs (lastN l (k+1)) (l.drop (k+1))):=by
 rw [List.drop_eq_getElem_cons h,okNs_cons,hk,lastN_s h];rfl
theorem okNs_stop{l:List Nt}{k:Nat}(h:k<l.length) (hk:okNt l[k]=false):okNs (lastN l k) (l.drop k)=false:=by
 rw [List.drop_eq_getElem_cons h,okNs_cons,hk];rfl
theorem lastN_z(l:List Nt):lastN l 0=none:=rfl
theorem sValid(l:List Nt):PCall Tryz.prog 19 [dPe l] (.ret (dB (okPe l))):=by
 refine pcall_of_vc h535b c19 (by simp [a19]) fun hr=>?_
 have hlen:=((hr (dPe l) (by simp)).agg (.sl 7 (l.map dNt)) (by simp [dPe])).2.sl.1
 simp at hlen
 simp [a19]
 unfold okPe
 refine vc_loopK [0,1,2,6,7] Nat (fun y=>[(8,true,.d (dI y))]) (fun y=>[]) (fun y=>y<=l.length∧okNs (lastN l y) (l.drop y)=okNs none l∧∀ n∈l.take y,okNt n=true) (fun y=>l.length-y) 0 (by simp [lastN_z]) ⟨[],[],?_⟩ (fun k hk=>?_)
 ·simp [lastN_z]
 obtain⟨h1,h2,h3⟩:=hk
 simp
 refine⟨fun hlt=>?_,fun hge=>?_⟩
 ·simp [hlt]
  have hf:=C535b.formed l[k]
  cases hp:okNt l[k] with
  | false =>
   refine vc_pathD [.ret (dB false),.ret (dI 0)] ?_
   rw [okNs_stop hlt hp] at h2
   rw [hp] at hf
   simp [hlt] at hf ⊢
   exact⟨hf,rfl,leD_of_eq (by simp [<- h2])⟩
  | true =>
   rw [okNs_step hlt hp] at h2
   rw [hp] at hf
   have h3':∀ n∈l.take (k+1),okNt n=true:=fun n hn=>by
    rw [List.take_succ_eq_append_getElem hlt,List.mem_append,List.mem_singleton] at hn
    rcases hn with hn | rfl
    ·exact h3 n hn
    ·exact hp
   cases k with
   | zero =>
    refine vc_pathD [.ret (dB true),.ret (dI 0)] ?_
    simp [hlt] at hf ⊢
    refine⟨hf,rfl,1,⟨by omega,?_,h3'⟩,by omega,[],[],?_⟩
    ·rw [<- h2];simp [lastN_z,ltO]
    ·rw [wrap64 (by omega)];simp
   | succ k =>
    have hk':k<l.length:=by omega
    have hw:IntKind.i64.wrap (k:Int)=k:=wrap64 (by omega)
    rw [lastN_s hk'] at h2
    have hpk:okNt l[k]=true:=h3 _ (by
     rw [List.take_succ_eq_append_getElem hk',List.mem_append,List.mem_singleton];exact .inr rfl)
    have hc:=C535b.cmp l[k] l[k+1] (by have:=okNt_tx hpk;omega) (by have:=okNt_tx hp;omega)
    have hb1:(0:Int)<=(k:Int)+1:=by omega
    have hb2:(k:Int)+1<(l.length:Int):=by omega
    refine vc_pathD [.ret (dB true),.ret (dI (cmpT (msgB l[k]) (msgB l[k+1])))] ?_
    by_cases q5:cmpT (msgB l[k]) (msgB l[k+1])<0
    ·have q5':¬ 0<=cmpT (msgB l[k]) (msgB l[k+1]):=by omega
     have q6:=(cmpT_lt _ _).1 q5
     simp [hlt,hk',hw,q5',hb1,hb2] at hf hc ⊢
     refine⟨hf,hc,rfl,k+2,⟨by omega,?_,h3'⟩,by omega,[],[],?_⟩
     ·rw [<- h2];simp [ltO,q6]
     ·rw [wrap64 (by omega)];simp
      exact leD_of_eq (by congr 2)
    ·have q5':0<=cmpT (msgB l[k]) (msgB l[k+1]):=by omega
     have q6:bLt (msgB l[k]) (msgB l[k+1])=false:=by
      rw [<- Bool.not_eq_true];exact fun h=>q5 ((cmpT_lt _ _).2 h)
     simp [hlt,hk',hw,q5',hb1,hb2] at hf hc ⊢
     refine⟨hf,hc,rfl,leD_of_eq ?_⟩
     simp [<- h2,ltO,q6]
 ·have:k=l.length:=by omega
  subst this
  rw [List.drop_length] at h2
  rw [<- h2]
  refine leD_of_eq ?_
  simp [okNs]
  omega
end

section
def rngI (n:Int):Prop:=-9223372036854775808<=n∧n<9223372036854775808
theorem Vl.eta(v:Vl):.mk v.k v.n v.s v.l=v:=by cases v;rfl
theorem pVs_mem{p:List UInt8->Option (Vl×List UInt8)}{P:Vl->Prop}(hp:∀ b v r,p b=some (v,r)->P v):∀ (n:Nat) (b:List UInt8) (l:List Vl) (r:List UInt8),pVs p n b=some (l,r)->∀ v∈l,P v
 | 0,b,l,r,h,v,hv=>by
  simp only [pVs,Option.some.injEq,Prod.mk.injEq] at h
  obtain⟨rfl,rfl⟩:=h
  cases hv
 | n+1,b,l,r,h,v,hv=>by
  rw [pVs] at h
  cases hx:p b with
  | none=>rw [hx] at h;cases h
  | some x =>
   obtain⟨v1,r1⟩:=x
   rw [hx,Option.bind_some] at h
   cases hy:pVs p n r1 with
   | none=>rw [hy] at h;cases h
   | some y =>
    obtain⟨l1,r2⟩:=y
    rw [hy] at h
    simp only [Option.map_some,Option.some.injEq,Prod.mk.injEq] at h
    obtain⟨rfl,rfl⟩:=h
    rcases List.mem_cons.1 hv with rfl | hv
    ·exact hp _ _ _ hx
    ·exact pVs_mem hp n r1 l1 _ hy v hv
theorem pV1_rng{deep:Option (List UInt8->Option (Vl×List UInt8))}(hp:∀ p,deep=some p->∀ b v r,p b=some (v,r)->rngI v.n) (b:List UInt8) (v:Vl) (r:List UInt8) (h:pV1 deep b=some (v,r)):rngI v.n∧∀ x∈v.l,rngI x.n:=by
 cases b with
 | nil=>simp [pV1] at h
 | cons k b =>
  rw [pV1] at h
  split at h
  ·cases hx:pNum 0 b with
   | none=>rw [hx] at h;cases h
   | some x =>
    obtain⟨u,r1⟩:=x
    rw [hx] at h
    simp only [Option.map_some,Option.some.injEq,Prod.mk.injEq] at h
    obtain⟨rfl,rfl⟩:=h
    obtain⟨_,_,e3⟩:=pNum_sound b 0 u r1 (by omega) hx
    exact⟨sgn_b (by simpa using e3),fun x hx=>by cases hx⟩
  split at h
  ·cases hx:pNum 0 b with
   | none=>rw [hx] at h;cases h
   | some x =>
    obtain⟨u,r1⟩:=x
    rw [hx,Option.bind_some] at h
    simp only at h
    split at h
    ·simp only [Option.some.injEq,Prod.mk.injEq] at h
     obtain⟨rfl,rfl⟩:=h
     exact⟨⟨by simp [Vl.n],by simp [Vl.n]⟩,fun x hx=>by cases hx⟩
    ·cases h
  split at h
  ·cases hd:deep with
   | none=>rw [hd] at h;cases h
   | some p =>
    rw [hd,Option.bind_some] at h
    cases hx:pNum 0 b with
    | none=>rw [hx] at h;cases h
    | some x =>
     obtain⟨u,r1⟩:=x
     rw [hx,Option.bind_some] at h
     simp only at h
     split at h
     ·cases hy:pVs p u r1 with
      | none=>rw [hy] at h;cases h
      | some y =>
       obtain⟨l1,r2⟩:=y
       rw [hy] at h
       simp only [Option.map_some,Option.some.injEq,Prod.mk.injEq] at h
       obtain⟨rfl,rfl⟩:=h
       exact⟨⟨by simp [Vl.n],by simp [Vl.n]⟩,fun x hx=>pVs_mem (hp p hd) u r1 l1 _ hy x hx⟩
     ·cases h
  ·cases h
theorem pV_rng:∀ (d:Nat) (b:List UInt8) (v:Vl) (r:List UInt8),pV d b=some (v,r)->rngI v.n∧∀ x∈v.l,rngI x.n
 | 0,b,v,r,h=>pV1_rng (fun p hp=>by cases hp) b v r h
 | d+1,b,v,r,h=>pV1_rng (fun p hp=>by
   injection hp with hp;subst hp
   exact fun b v r h=>(pV_rng d b v r h).1) b v r h
theorem decV_rng{b:List UInt8}{v:Vl}(h:decV b=some v):rngI v.n∧∀ x∈v.l,rngI x.n:=by
 unfold decV at h
 split at h
 ·rename_i hp;injection h with h;subst h;exact pV_rng 16 b _ _ hp
 ·cases h
def noteV7 (v0 v1 v2 v3 v4 v5 v6:Vl) (h0:rngI v0.n) (h1:rngI v1.n) (h2:rngI v2.n) (h3:rngI v3.n) (h4:rngI v4.n) (h5:rngI v5.n):Nt:=⟨v0.n,v1.n,⟨v2.n,v3.n,⟨v4.n,v5.n,v6.s,h4,h5⟩,h2,h3⟩,h0,h1⟩
theorem noteOf7(k n:Int) (s:List UInt8) (v0 v1 v2 v3 v4 v5 v6:Vl) (h0:rngI v0.n) (h1:rngI v1.n) (h2:rngI v2.n) (h3:rngI v3.n) (h4:rngI v4.n) (h5:rngI v5.n):noteOf (.mk k n s [v0,v1,v2,v3,v4,v5,v6])=if k=3∧v0.k=1∧v1.k=1∧v2.k=1∧v3.k=1∧v4.k=1∧v5.k=1∧v6.k=2 then some (noteV7 v0 v1 v2 v3 v4 v5 v6 h0 h1 h2 h3 h4 h5) else none:=by
 cases v0;cases v1;cases v2;cases v3;cases v4;cases v5;cases v6
 rw [noteOf]
 split
 ·rename_i h;exact(if_pos h.1).symm
 ·rename_i h;exact(if_neg fun h'=>h ⟨h',h0,h1,h2,h3,h4,h5⟩).symm
theorem noteOf_ne{v:Vl}(h:v.l.length≠7):noteOf v=none:=by
 cases v with
 | mk k n s l =>
  unfold noteOf
  split
  ·rename_i e;injection e with _ _ _ e;subst e;exact absurd rfl h
  ·rfl
def gI (c:Bool) (x:Int):Int:=if c then x else 0
theorem gI_r{x:Int}(c:Bool) (h:rngI x):rngI (gI c x):=by unfold gI;split;exact h;exact⟨by omega,by omega⟩
def noteQ (v0 v1 v2 v3 v4 v5 v6:Vl) (h0:rngI v0.n) (h1:rngI v1.n) (h2:rngI v2.n) (h3:rngI v3.n) (h4:rngI v4.n) (h5:rngI v5.n):Nt :=
 ⟨gI (decide (v0.k=1)) v0.n,gI (decide (v0.k=1∧v1.k=1)) v1.n,⟨gI (decide (v0.k=1∧v1.k=1∧v2.k=1)) v2.n,gI (decide (v0.k=1∧v1.k=1∧v2.k=1∧v3.k=1)) v3.n,
  ⟨gI (decide (v0.k=1∧v1.k=1∧v2.k=1∧v3.k=1∧v4.k=1)) v4.n,gI (decide (v0.k=1∧v1.k=1∧v2.k=1∧v3.k=1∧v4.k=1∧v5.k=1)) v5.n,
   if v0.k=1∧v1.k=1∧v2.k=1∧v3.k=1∧v4.k=1∧v5.k=1 then v6.s else [],gI_r _ h4,gI_r _ h5⟩,gI_r _ h2,gI_r _ h3⟩,gI_r _ h0,gI_r _ h1⟩
def zNt:Nt:=⟨0,0,⟨0,0,⟨0,0,[],by omega,by omega⟩,by omega,by omega⟩,by omega,by omega⟩
theorem readB_of{b:List UInt8}{k n:Int}{s:List UInt8}{v0 v1 v2 v3 v4 v5 v6:Vl}(hd:decE b=0) (he:decL b=.mk k n s [v0,v1,v2,v3,v4,v5,v6]):∃ (h0:rngI v0.n) (h1:rngI v1.n) (h2:rngI v2.n) (h3:rngI v3.n) (h4:rngI v4.n) (h5:rngI v5.n),readB b=if k=3∧v0.k=1∧v1.k=1∧v2.k=1∧v3.k=1∧v4.k=1∧v5.k=1∧v6.k=2 then (if okNt (noteV7 v0 v1 v2 v3 v4 v5 v6 h0 h1 h2 h3 h4 h5) then some (noteV7 v0 v1 v2 v3 v4 v5 v6 h0 h1 h2 h3 h4 h5) else none) else none:=by
 unfold decE at hd
 cases hx:decV b with
 | none=>rw [hx] at hd;simp at hd
 | some v =>
  unfold decL at he
  rw [hx] at he
  simp only [Option.getD_some] at he
  subst he
  have hr:=(decV_rng hx).2
  simp only [Vl.l,List.mem_cons,List.not_mem_nil,or_false,forall_eq_or_imp,forall_eq] at hr
  obtain⟨h0,h1,h2,h3,h4,h5,_⟩:=hr
  refine⟨h0,h1,h2,h3,h4,h5,?_⟩
  unfold readB
  rw [hx,Option.bind_some,noteOf7 k n s v0 v1 v2 v3 v4 v5 v6 h0 h1 h2 h3 h4 h5]
  split <;> rfl
theorem readB_no{b:List UInt8}(h:decE b≠0∨(decL b).l.length≠7∨(decL b).k≠3):readB b=none:=by
 unfold decE decL at h
 unfold readB
 cases hx:decV b with
 | none=>rfl
 | some v =>
  rw [hx] at h
  simp only [Option.isSome_some,if_true,ne_eq,not_true_eq_false,false_or,Option.getD_some] at h
  rw [Option.bind_some]
  rcases h with h | h
  ·rw [noteOf_ne h];rfl
  ·by_cases hl:v.l.length=7
   ·have:noteOf v=none:=by
     cases v with
     | mk k n s l =>
      unfold noteOf
      split
      ·rename_i e;injection e with e1 _ _ e;subst e;subst e1
       exact dif_neg fun h'=>h h'.1.1
      ·rfl
    rw [this];rfl
   ·rw [noteOf_ne hl];rfl
theorem list7{l:List Vl}(h:l.length=7):∃ v0 v1 v2 v3 v4 v5 v6,l=[v0,v1,v2,v3,v4,v5,v6]:=by
 match l,h with
 | [v0,v1,v2,v3,v4,v5,v6],_=>exact⟨v0,v1,v2,v3,v4,v5,v6,rfl⟩
theorem dV_eta(v:Vl):dV v=.agg [dI v.k,dI v.n,dZ v.s,.sl 4 (v.l.map dV)]:=by
 conv=>lhs;rw [<- Vl.eta v,dV_eq]
end

section
attribute [local simp] dZ_agg dZ_nt dZ_noTup dZ_cells dZ_one bz_toList bz_size strV dV_cells dV_isAgg dV_noTup dV_nt dSp_cells dSp_isAgg dSp_noTup dSp_nt dCh_cells dCh_isAgg dCh_noTup dCh_nt dNt_cells dNt_isAgg dNt_noTup dNt_nt
set_option maxRecDepth 8000
set_option maxHeartbeats 4000000
inductive C537:FuncId->List D->Out->Prop
 | dec (b:List UInt8) (h:b.length<=1099511627776):C537 53 [.sl 1 (b.map dU)] (.ret (.tup [dV (decL b),dI (decE b)]))
 | formed (n:Nt):C537 51 [dNt n] (.ret (dB (okNt n)))
theorem h537:∀ f ds out,C537 f ds out->PCall Tryz.prog f ds out:=by
 intro f ds out h
 cases h with
 | dec b h=>exact decode b h
 | formed n=>exact sFormed n
theorem sRead(b:List UInt8) (hb:b.length<=1099511627776):∃ n,PCall Tryz.prog 20 [.sl 1 (b.map dU)] (.ret (.tup [dNt n,dB (readB b).isSome]))∧∀ m,readB b=some m->n=m:=by
 have hD:=C537.dec b hb
 by_cases hA:decE b=0∧(decL b).k=3∧(decL b).l.length=7
 ·obtain⟨e1,e2,e3⟩:=hA
  generalize hv:decL b=v at *
  cases v with
  | mk k n s l =>
  simp only [Vl.k,Vl.l] at e2 e3
  obtain⟨v0,v1,v2,v3,v4,v5,v6,rfl⟩:=list7 e3
  obtain⟨h0,h1,h2,h3,h4,h5,hR⟩:=readB_of e1 hv
  by_cases e4:v6.k=2
  ·refine⟨noteQ v0 v1 v2 v3 v4 v5 v6 h0 h1 h2 h3 h4 h5,?_,fun m hm=>?_⟩
   ·refine pcall_of_vc h537 c20 (by simp [a20]) fun hr=>?_
    simp [a20]
    refine vc_path [.ret (.tup [dV (.mk k n s [v0,v1,v2,v3,v4,v5,v6]),dI (decE b)])] ?_
    rw [dV_eq] at hD ⊢
    simp
    refine⟨by simpa using hD,?_⟩
    refine regS_path [] ?_
    simp
    refine icall_T (TF Tryz.prog a54) (hcall_of_vc c54) ?_
    simp [a54]
    refine⟨rfl,?_⟩
    refine vc_path [] ?_
    simp [e1,e2,e4,dV_eta]
    refine vc_loopK [2,4,37] Nat (fun i=>[(38,true,.d (dI i))]) (fun i=>[(0,.box true [.d (dI (if 0<i then v0.n else 0)),.d (dI (if 1<i then v1.n else 0)),.d (dI (if 2<i then v2.n else 0)),.d (dI (if 3<i then v3.n else 0)),.d (dI (if 4<i then v4.n else 0)),.d (dI (if 5<i then v5.n else 0)),.d (dZ [])])]) (fun i=>i<=6∧(0<i->v0.k=1)∧(1<i->v1.k=1)∧(2<i->v2.k=1)∧(3<i->v3.k=1)∧(4<i->v4.k=1)∧(5<i->v5.k=1)) (fun i=>6-i) 0 (by simp) ⟨[],[],?_⟩ (fun i hi=>?_)
    ·simp
     exact LeD.refl _
    obtain⟨hi,g0,g1,g2,g3,g4,g5⟩:=hi
    simp
    refine⟨fun hlt=>?_,fun hge=>?_⟩
    ·have h6:i=0∨i=1∨i=2∨i=3∨i=4∨i=5:=by omega
     rcases h6 with rfl | rfl | rfl | rfl | rfl | rfl
     ·simp at g0 g1 g2 g3 g4 g5
      simp [dV_eta,e2,e4,hR]
      exact⟨fun q=>⟨leD_of_eq (by simp [dNt,noteQ,gI,q]),leD_of_eq (by simp [q])⟩,fun q=>⟨1,by simp [q],by simp,[],[],by simp [q,wrap64];try exact LeD.refl _⟩⟩
     ·simp at g0 g1 g2 g3 g4 g5
      simp [dV_eta,e2,e4,hR,g0]
      exact⟨fun q=>⟨leD_of_eq (by simp [dNt,noteQ,gI,q,g0]),leD_of_eq (by simp [q])⟩,fun q=>⟨2,by simp [q,g0],by simp,[],[],by simp [q,g0,wrap64];try exact LeD.refl _⟩⟩
     ·simp at g0 g1 g2 g3 g4 g5
      simp [dV_eta,e2,e4,hR,g0,g1]
      exact⟨fun q=>⟨leD_of_eq (by simp [dNt,noteQ,gI,q,g0,g1]),leD_of_eq (by simp [q])⟩,fun q=>⟨3,by simp [q,g0,g1],by simp,[],[],by simp [q,g0,g1,wrap64];try exact LeD.refl _⟩⟩
     ·simp at g0 g1 g2 g3 g4 g5
      simp [dV_eta,e2,e4,hR,g0,g1,g2]
      exact⟨fun q=>⟨leD_of_eq (by simp [dNt,noteQ,gI,q,g0,g1,g2]),leD_of_eq (by simp [q])⟩,fun q=>⟨4,by simp [q,g0,g1,g2],by simp,[],[],by simp [q,g0,g1,g2,wrap64];try exact LeD.refl _⟩⟩
     ·simp at g0 g1 g2 g3 g4 g5
      simp [dV_eta,e2,e4,hR,g0,g1,g2,g3]
      exact⟨fun q=>⟨leD_of_eq (by simp [dNt,noteQ,gI,q,g0,g1,g2,g3]),leD_of_eq (by simp [q])⟩,fun q=>⟨5,by simp [q,g0,g1,g2,g3],by simp,[],[],by simp [q,g0,g1,g2,g3,wrap64];try exact LeD.refl _⟩⟩
     ·simp at g0 g1 g2 g3 g4 g5
      simp [dV_eta,e2,e4,hR,g0,g1,g2,g3,g4]
      exact⟨fun q=>⟨leD_of_eq (by simp [dNt,noteQ,gI,q,g0,g1,g2,g3,g4]),leD_of_eq (by simp [q])⟩,fun q=>⟨6,by simp [q,g0,g1,g2,g3,g4],by simp,[],[],by simp [q,g0,g1,g2,g3,g4,wrap64];try exact LeD.refl _⟩⟩
    ·have:i=6:=by omega
     subst this
     simp at g0 g1 g2 g3 g4 g5
     simp [dV_eta,e2,e4,hR,g0,g1,g2,g3,g4,g5]
     refine vc_pathD [.ret (dB (okNt (noteV7 v0 v1 v2 v3 v4 v5 v6 h0 h1 h2 h3 h4 h5)))] ?_
     simp
     refine⟨.formed (noteV7 v0 v1 v2 v3 v4 v5 v6 h0 h1 h2 h3 h4 h5),rfl,leD_of_eq (by simp [dNt,noteQ,gI,g0,g1,g2,g3,g4,g5]),leD_of_eq (by split <;> simp [*])⟩
   ·rw [hR] at hm
    split at hm
    ·rename_i hc
     obtain⟨_,c0,c1,c2,c3,c4,c5,_⟩:=hc
     split at hm
     ·injection hm with hm;subst hm
      simp [noteQ,noteV7,gI,c0,c1,c2,c3,c4,c5]
     ·cases hm
    ·cases hm
  ·have hn:readB b=none:=by rw [hR,if_neg fun h=>e4 h.2.2.2.2.2.2.2]
   refine⟨zNt,?_,fun m hm=>by rw [hn] at hm;cases hm⟩
   rw [hn]
   refine pcall_of_vc h537 c20 (by simp [a20]) fun hr=>?_
   simp [a20]
   refine vc_path [.ret (.tup [dV (.mk k n s [v0,v1,v2,v3,v4,v5,v6]),dI (decE b)])] ?_
   rw [dV_eq] at hD ⊢
   simp
   refine⟨by simpa using hD,?_⟩
   refine regS_path [] ?_
   simp
   refine icall_T (TF Tryz.prog a54) (hcall_of_vc c54) ?_
   simp [a54]
   refine⟨rfl,?_⟩
   refine vc_path [] ?_
   simp [e1,e2,e4,dV_eta]
   exact leD_of_eq rfl
 ·have hn:readB b=none:=readB_no (by
   by_cases q1:decE b=0
   ·by_cases q2:(decL b).k=3
    ·exact .inr (.inl fun q3=>hA ⟨q1,q2,q3⟩)
    ·exact .inr (.inr q2)
   ·exact .inl q1)
  refine⟨zNt,?_,fun m hm=>by rw [hn] at hm;cases hm⟩
  rw [hn]
  generalize hv:decL b=v at *
  cases v with
  | mk k n s l =>
  simp only [Vl.k,Vl.l] at hA
  refine pcall_of_vc h537 c20 (by simp [a20]) fun hr=>?_
  simp [a20]
  refine vc_path [.ret (.tup [dV (.mk k n s l),dI (decE b)])] ?_
  rw [dV_eq] at hD ⊢
  simp
  refine⟨by simpa using hD,?_⟩
  refine regS_path [] ?_
  simp
  refine icall_T (TF Tryz.prog a54) (hcall_of_vc c54) ?_
  simp [a54]
  refine⟨rfl,?_⟩
  refine vc_path [] ?_
  by_cases q1:decE b=0
  ·by_cases q2:k=3
   ·have q3:¬ (l.length:Int)=7:=fun h=>hA ⟨q1,q2,by omega⟩
    have q3':¬ l.length=7:=by omega
    simp [q1,q2,q3,q3']
    exact leD_of_eq rfl
   ·simp [q1,q2]
    exact leD_of_eq rfl
  ·simp [q1]
   exact leD_of_eq rfl
end

section
attribute [local simp] dZ_agg dZ_nt dZ_noTup dZ_cells dZ_one bz_toList bz_size strV dSp_cells dSp_isAgg dSp_noTup dSp_nt dCh_cells dCh_isAgg dCh_noTup dCh_nt dNt_cells dNt_isAgg dNt_noTup dNt_nt dPe_cells dPe_isAgg dPe_noTup dPe_nt dRm_cells dRm_isAgg dRm_noTup dRm_nt dPc_cells dPc_agg dPc_noTup dNw_cells dNw_agg dNw_noTup
set_option maxRecDepth 8000
set_option maxHeartbeats 4000000
noncomputable def sRdN (b:List UInt8) (h:b.length<=1099511627776):Nt:=Classical.choose (sRead b h)
theorem sRdN_eq{b:List UInt8}{h:b.length<=1099511627776}{m:Nt}(e:readB b=some m):sRdN b h=m:=(Classical.choose_spec (sRead b h)).2 m e
inductive C539:FuncId->List D->Out->Prop
 | rd (b:List UInt8) (h:b.length<=1099511627776):C539 20 [.sl 1 (b.map dU)] (.ret (.tup [dNt (sRdN b h),dB (readB b).isSome]))
 | valid (l:List Nt):C539 19 [dPe l] (.ret (dB (okPe l)))
 | net (w:Nw):C539 18 [dNw w] (.ret (dI (eNet w)))
theorem h539:∀ f ds out,C539 f ds out->PCall Tryz.prog f ds out:=by
 intro f ds out h
 cases h with
 | rd b h=>exact(Classical.choose_spec (sRead b h)).1
 | valid l=>exact sValid l
 | net w=>exact nwCheck w
theorem okPc_len{p:Pc}(h:okPc p=true):p.p.length<=1099511627776∧0<=p.a∧0<=p.b:=by
 unfold okPc cValid at h
 simp only [Bool.and_eq_true,decide_eq_true_eq] at h
 obtain⟨⟨⟨h1,h2⟩,h3⟩,h4⟩:=h
 split at h1 <;> split at h2 <;> refine⟨by omega,by omega,by omega⟩
theorem okNw_all{w:Nw}(h:okNw w=true):∀ p∈w.q,okPc p=true:=by
 unfold okNw at h
 simp only [Bool.and_eq_true] at h
 exact List.all_eq_true.1 h.2.1
theorem okRm_iff{r:Rm}:okRm r=true↔1<=r.ps.length∧r.ps.length<=24∧okNw r.net=true∧(∀ p∈r.ps,okPe p=true)∧∀ p∈r.net.q,okPq r.ps.length p=true:=by
 unfold okRm
 simp only [Bool.and_eq_true,decide_eq_true_eq,List.all_eq_true]
theorem rmE_530{r:Rm}(h:¬ okRm r=true):rmE r=530:=if_neg h
theorem rmE_0{r:Rm}(h:okRm r=true):rmE r=0:=if_pos h
theorem okPq_iff{n:Nat}{p:Pc}:okPq n p=true↔(readB p.p).isSome=true∧p.a<n∧p.b<n:=by
 unfold okPq
 simp only [Bool.and_eq_true,decide_eq_true_eq]
theorem sCheck(r:Rm):PCall Tryz.prog 4 [dRm r] (.ret (dI (rmE r))):=by
 refine pcall_of_vc h539 c4 (by simp [a4]) fun hr=>?_
 have hlen:=((hr (dRm r) (by simp)).agg (.sl 1 (r.ps.map dPe)) (by simp [dRm])).2.sl.1
 have hlen2:=((hr (dRm r) (by simp)).agg (.sl 3 (r.net.q.map dPc)) (by simp [dRm])).2.sl.1
 simp at hlen hlen2
 have hN:=C539.net r.net
 simp [a4]
 by_cases q1:1<=r.ps.length∧r.ps.length<=24
 ·obtain⟨q1,q2⟩:=q1
  have p1:¬ (r.ps.length:Int)<1:=by omega
  have p2:¬ (24:Int)<(r.ps.length:Int):=by omega
  have p1':¬ r.ps.length=0:=by omega
  have p2':¬ 24<r.ps.length:=by omega
  refine vc_path [.ret (dI (eNet r.net))] ?_
  cases q3:okNw r.net with
  | false =>
   unfold eNet at hN ⊢
   rw [q3] at hN ⊢
   simp [p1,p2,p1',p2',dRm] at hN ⊢
   rw [rmE_530 fun h=>by rw [(okRm_iff.1 h).2.2.1] at q3;cases q3]
   exact⟨hN,leD_of_eq rfl⟩
  | true =>
   unfold eNet at hN ⊢
   rw [q3] at hN ⊢
   have hpk:=okNw_all q3
   simp [p1,p2,p1',p2',dRm] at hN ⊢
   refine⟨hN,?_⟩
   refine vc_loopK [1,26,27] Nat (fun y=>[(28,true,.d (dI y))]) (fun y=>[]) (fun y=>y<=r.ps.length∧∀ (j:Nat) (h:j<y) (h2:j<r.ps.length),okPe r.ps[j]=true) (fun y=>r.ps.length-y) 0 (by simp) ⟨[],[],?_⟩ (fun k hk=>?_)
   ·simp
   obtain⟨h1,h2⟩:=hk
   simp
   refine⟨fun hlt=>?_,fun hge=>?_⟩
   ·simp [hlt]
    have hV:=C539.valid r.ps[k]
    refine vc_path [.ret (dB (okPe r.ps[k]))] ?_
    cases hp:okPe r.ps[k] with
    | false =>
     have hall:rmE r=530:=rmE_530 fun h=>by
      have:=(okRm_iff.1 h).2.2.2.1 _ (List.getElem_mem hlt)
      rw [hp] at this;cases this
     rw [hp] at hV
     simp [hlt,dPe] at hV ⊢
     exact⟨hV,leD_of_eq (by simp [hall])⟩
    | true =>
     rw [hp] at hV
     simp [hlt,dPe] at hV ⊢
     refine⟨hV,k+1,⟨by omega,fun j hj hj2=>?_⟩,by omega,[],[],?_⟩
     ·by_cases e:j=k
      ·subst e;exact hp
      ·exact h2 j (by omega) hj2
     ·rw [wrap64 (by omega)];simp
   ·have:k=r.ps.length:=by omega
    subst this
    have hall:∀ p∈r.ps,okPe p=true:=fun p hp=>by
     obtain⟨j,hj,rfl⟩:=List.mem_iff_getElem.1 hp
     exact h2 j hj hj
    simp
    refine vc_loopK [1,38,39] Nat (fun y=>[(40,true,.d (dI y))]) (fun y=>[]) (fun y=>y<=r.net.q.length∧∀ (j:Nat) (h:j<y) (h2:j<r.net.q.length),okPq r.ps.length r.net.q[j]=true) (fun y=>r.net.q.length-y) 0 (by simp) ⟨[],[],?_⟩ (fun i hi=>?_)
    ·simp
    obtain⟨h3,h4⟩:=hi
    simp
    refine⟨fun hlt=>?_,fun hge=>?_⟩
    ·simp [hlt]
     have hb:=okPc_len (hpk _ (List.getElem_mem hlt))
     have hV:=C539.rd r.net.q[i].p hb.1
     refine vc_path [.ret (.tup [dNt (sRdN r.net.q[i].p hb.1),dB (readB r.net.q[i].p).isSome])] ?_
     simp [hlt,dPc]
     refine⟨hV,?_⟩
     have hbad:¬ okPq r.ps.length r.net.q[i]=true->rmE r=530:=fun hp=>rmE_530 fun h=>hp ((okRm_iff.1 h).2.2.2.2 _ (List.getElem_mem hlt))
     refine vc_path [] ?_
     simp
     refine⟨fun hn=>leD_of_eq (by rw [hbad fun h=>by have:=(okPq_iff.1 h).1;rw [hn] at this;cases this]),fun hs=>⟨fun hm=>leD_of_eq (by rw [hbad fun h=>by have h1:=(okPq_iff.1 h).2;split at hm <;> omega]),fun hm=>?_⟩⟩
     have hok:okPq r.ps.length r.net.q[i]=true:=okPq_iff.2 ⟨hs,by split at hm <;> omega,by split at hm <;> omega⟩
     refine⟨i+1,⟨by omega,fun j hj hj2=>?_⟩,by omega,[],[],?_⟩
     ·by_cases e:j=i
      ·subst e;exact hok
      ·exact h4 j (by omega) hj2
     ·rw [wrap64 (by omega)];simp
    ·have:i=r.net.q.length:=by omega
     subst this
     rw [rmE_0 (okRm_iff.2 ⟨q1,q2,q3,hall,fun p hp=>by
      obtain⟨j,hj,rfl⟩:=List.mem_iff_getElem.1 hp
      exact h4 j hj hj⟩)]
     exact leD_of_eq rfl
 ·refine vc_path [.ret (dI 0)] ?_
  have hE:rmE r=530:=rmE_530 fun h=>q1 ⟨(okRm_iff.1 h).1,(okRm_iff.1 h).2.1⟩
  by_cases p1:r.ps.length=0
  ·simp [p1,hE]
  ·have p2:¬ (r.ps.length:Int)<1:=by omega
   have p3:(24:Int)<(r.ps.length:Int):=by omega
   have p4:24<r.ps.length:=by omega
   simp [p1,p2,p3,p4,hE]
end

section
attribute [local simp] dZ_agg dZ_nt dZ_noTup dZ_cells dZ_one bz_toList bz_size strV dSp_cells dSp_isAgg dSp_noTup dSp_nt dCh_cells dCh_isAgg dCh_noTup dCh_nt dNt_cells dNt_isAgg dNt_noTup dNt_nt
set_option maxRecDepth 8000
set_option maxHeartbeats 4000000
inductive C540:FuncId->List D->Out->Prop
 | cmp (a b:Nt) (ha:a.ch.sp.tx.length<=1000000) (hb:b.ch.sp.tx.length<=1000000):C540 52 [dNt a,dNt b] (.ret (dI (cmpT (msgB a) (msgB b))))
theorem h540:∀ f ds out,C540 f ds out->PCall Tryz.prog f ds out:=by
 intro f ds out h
 cases h with
 | cmp a b ha hb=>exact sCmpN a b ha hb
theorem okNt_tx6{n:Nt}(h:okNt n=true):n.ch.sp.tx.length<=1000000:=by have:=okNt_tx h;omega
theorem sSearch(l:List Nt) (n:Nt) (hl:okNs none l=true) (hn:okNt n=true) (hlen:l.length<=100000):PCall Tryz.prog 105 [.sl 7 (l.map dNt),dNt n,.fn (.func 52) [] []] (.ret (.tup [dI (posN l n),dB (decide (l[posN l n]?=some n))])):=by
 have hok:=okNs_ok hl
 have hpw:=okNs_pw hl
 have hpi:=List.pairwise_iff_getElem.1 hpw
 refine pcall_of_vc h540 c105 (by simp [a105]) fun hr=>?_
 simp [a105]
 refine vc_loopK [0,2,4,8] (Nat×Nat) (fun y=>[(9,true,.d (dI y.1)),(10,true,.d (dI y.2))]) (fun y=>[]) (fun y=>y.1<=y.2∧y.2<=l.length∧(∀ (k:Nat) (hk:k<l.length),k<y.1->nLt l[k] n)∧(∀ (k:Nat) (hk:k<l.length),y.2<=k->¬ nLt l[k] n)) (fun y=>y.2-y.1) (0,l.length) ⟨by omega,by omega,fun k hk h=>by omega,fun k hk h=>by omega⟩ ⟨[],[],?_⟩ (fun y hy=>?_)
 ·simp
 obtain⟨i,j⟩:=y
 obtain⟨h1,h2,h3,h4⟩:=hy
 simp only at h1 h2 h3 h4
 simp
 refine⟨fun hlt=>?_,fun hge=>?_⟩
 ·have hm:(i+j) / 2<l.length:=by omega
  have e1:IntKind.i64.wrap ((i:Int)+(j:Int))=((i+j:Nat):Int):=by rw [wrap64 (by omega)];omega
  have e2:IntKind.u64.wrap (((i+j:Nat)):Int)=((i+j:Nat):Int):=wrap_u64 (by omega) (by omega)
  have e3:=half64 i j (by omega)
  have e4:=sh1 i j
  have e5:IntKind.i64.wrap (((i+j) / 2:Nat)+1:Int)=(((i+j) / 2+1:Nat):Int):=by rw [wrap64 (by omega)];omega
  have k1:=C540.cmp l[(i+j) / 2] n (okNt_tx6 (hok _ (List.getElem_mem hm))) (okNt_tx6 hn)
  rw [e1,e2,e4]
  simp only [e3]
  generalize hq:(i+j) / 2=q at *
  refine⟨trivial,vc_pathD [.ret (dI (cmpT (msgB l[q]) (msgB n)))] ?_⟩
  by_cases q5:nLt l[q] n
  ·have q6:cmpT (msgB l[q]) (msgB n)<0:=(cmpT_lt _ _).2 q5
   simp [hm,q6,e5]
   refine⟨k1,rfl,q+1,j,⟨by omega,h2,fun k hk hkq=>?_,fun k hk hj=>Bool.eq_false_iff.2 (h4 k hk hj)⟩,by omega,[],[],?_⟩
   ·by_cases e:k=q
    ·subst e;exact q5
    ·exact bLt_trans (hpi k q hk hm (by omega)) q5
   ·simp
  ·have q6:¬ cmpT (msgB l[q]) (msgB n)<0:=fun h=>q5 ((cmpT_lt _ _).1 h)
   simp [hm,q6,e5]
   refine⟨k1,rfl,i,q,⟨by omega,by omega,h3,fun k hk hkq=>?_⟩,by omega,[],[],?_⟩
   ·by_cases e:k=q
    ·subst e;exact Bool.eq_false_iff.2 q5
    ·exact Bool.eq_false_iff.2 fun h=>q5 (bLt_trans (hpi q k hm hk (by omega)) h)
   ·simp
 ·have:i=j:=by omega
  subst this
  have hp:=posN_uniq hpw h2 h3 h4
  rw [<- hp]
  by_cases hi:i<l.length
  ·have k1:=C540.cmp l[i] n (okNt_tx6 (hok _ (List.getElem_mem hi))) (okNt_tx6 hn)
   refine vc_pathD [.ret (dI (cmpT (msgB l[i]) (msgB n)))] ?_
   simp [hi]
   have hq:(cmpT (msgB l[i]) (msgB n) == 0)=decide (l[i]=n):=by
    rw [Bool.eq_iff_iff,beq_iff_eq,decide_eq_true_eq,cmpT_zero]
    exact⟨fun h=>msgB_inj (hok _ (List.getElem_mem hi)) hn h,fun h=>by rw [h]⟩
   exact⟨k1,rfl,leD_of_eq (by simp [hq,hi])⟩
  ·have hi':¬ (i:Int)<l.length:=by omega
   refine vc_pathD [.ret (dI 0)] ?_
   simp [hi,hi']
   rfl
theorem eqB_nt(x y:Nt):eqB [dI x.lang,dI x.seq,dI x.ch.at_,dI x.ch.kind,dI x.ch.sp.id,dI x.ch.sp.ver,dZ x.ch.sp.tx] [dI y.lang,dI y.seq,dI y.ch.at_,dI y.ch.kind,dI y.ch.sp.id,dI y.ch.sp.ver,dZ y.ch.sp.tx]=decide (x=y):=by
 rw [Bool.eq_iff_iff]
 simp only [dI,dZ,eqB,Bool.and_eq_true,beq_iff_eq,decide_eq_true_eq,Bool.and_true,bz_inj]
 constructor
 ·rintro⟨h1,h2,h3,h4,h5,h6,h7⟩;exact Nt.ext' h1 h2 (Ch.ext' h3 h4 (Sp.ext' h5 h6 h7))
 ·rintro rfl;exact⟨rfl,rfl,rfl,rfl,rfl,rfl,rfl⟩
end

section
attribute [local simp] dZ_agg dZ_nt dZ_noTup dZ_cells dZ_one bz_toList bz_size strV dSp_cells dSp_isAgg dSp_noTup dSp_nt dCh_cells dCh_isAgg dCh_noTup dCh_nt dNt_cells dNt_isAgg dNt_noTup dNt_nt dPe_cells dPe_isAgg dPe_noTup dPe_nt dRm_cells dRm_isAgg dRm_noTup dRm_nt dPc_cells dPc_agg dPc_noTup dNw_cells dNw_agg dNw_noTup
set_option maxRecDepth 8000
set_option maxHeartbeats 4000000
theorem allDm:∀ ds:List D,allD (ds.map AV.d)=some ds
 | []=>rfl
 | d::r=>by rw [List.map_cons,allD_d,allDm r];rfl
theorem all2_leD:∀ ds:List D,All2 LeD ds ds
 | []=>.nil
 | d::r=>.cons (LeD.refl d) (all2_leD r)
theorem frz_rows{h:List (Nat×HO)}{k n z l c:Nat}{ag:Bool}{es:List D}(hb:Go.Proofs.YtmmlicjkdeankaaGreatDoor.AL.look h n=some (HO.box ag (wr es))) (hz:∀ e∈es,e.cells.length=z) (h1:∀ c∈D.flat es,c.one=true) (hl:l=es.length):frz h k (.bsl n 0 z l c) (.sl z es):=by
 have hfl:(D.flat es).length=es.length*z:=flat_len hz
 obtain⟨e1,e2,e3⟩:=elsD_spec (z:=z) (len:=l) (ds:=D.flat es) (by rw [hfl,hl];exact Nat.le_refl _) h1
 rw [frz_bsl,hb]
 show match allD (wr es) with
  | some ds=>0+l*z<=ds.length∧LeD (.sl z (elsD z l (ds.drop 0))) (.sl z es)
  | none=>False
 rw [wr,allDm]
 refine⟨by rw [hfl,hl];omega,?_⟩
 rw [List.drop_zero]
 refine LeD_slx ?_ (by rw [e1,hl]) hz h1
 rw [e3,List.take_of_length_le (by rw [hfl,hl];exact Nat.le_refl _)]
 exact all2_leD _
theorem dPe_one{ps:List (List Nt)}:∀ c∈D.flat (ps.map dPe),c.one=true:=fun c hc=>by
 simp only [D.flat,List.mem_flatMap,List.mem_map] at hc
 obtain⟨e,⟨p,_,rfl⟩,hc⟩:=hc
 simp only [dPe_cells,List.mem_singleton] at hc
 subst hc;rfl
theorem dPe_z{ps:List (List Nt)}:∀ e∈ps.map dPe,e.cells.length=1:=fun e he=>by
 obtain⟨p,_,rfl⟩:=List.mem_map.1 he;rfl
theorem wr_pe:∀ ps:List (List Nt),wr (ps.map dPe)=ps.map fun l=>AV.d (.sl 7 (l.map dNt))
 | []=>rfl
 | l::r=>by rw [List.map_cons,wr_cons,wr_pe r];rfl
theorem wr_pe_set(ps:List (List Nt)) (i:Nat) (l:List Nt):(wr (ps.map dPe)).set i (AV.d (.sl 7 (l.map dNt)))=wr ((ps.set i l).map dPe):=by
 rw [wr_pe,wr_pe,List.map_set]
theorem leZRm:LeD (.agg [.nil 1,.nil 3,.nil 2]) (dRm zRm):=LeD.agg (.cons (LeD.nil' 1 1) (.cons (LeD.nil' 3 3) (.cons (LeD.nil' 2 2) .nil))) (by simp)
end

section
attribute [local simp] dZ_agg dZ_nt dZ_noTup dZ_cells dZ_one bz_toList bz_size strV dSp_cells dSp_isAgg dSp_noTup dSp_nt dCh_cells dCh_isAgg dCh_noTup dCh_nt dNt_cells dNt_isAgg dNt_noTup dNt_nt dPe_cells dPe_isAgg dPe_noTup dPe_nt dRm_cells dRm_isAgg dRm_noTup dRm_nt dPc_cells dPc_agg dPc_noTup dNw_cells dNw_agg dNw_noTup dMv_cells dMv_isAgg dMv_noTup dMv_nt
set_option maxRecDepth 8000
set_option maxHeartbeats 4000000
def restQ (k i j:Nat) (n:Nt):List Pc:=((List.range' j (k-j)).filter (fun j=>j != i)).map fun(j:Nat)=>pcOf i j n
theorem restQ_0(k i:Nat) (n:Nt):restQ k i 0 n=tellQ k i n:=by
 unfold restQ tellQ;rw [Nat.sub_zero,<- List.range_eq_range']
theorem restQ_end(k i:Nat) (n:Nt):restQ k i k n=[]:=by unfold restQ;rw [Nat.sub_self];rfl
theorem restQ_ne{k i j:Nat}{n:Nt}(h:j<k) (hi:¬ j=i):restQ k i j n=pcOf i j n::restQ k i (j+1) n:=by
 unfold restQ
 rw [show k-j=(k-(j+1))+1 by omega,List.range'_succ,List.filter_cons_of_pos (by simpa using hi)];rfl
theorem restQ_eq{k i j:Nat}{n:Nt}(h:j<k) (hi:j=i):restQ k i j n=restQ k i (j+1) n:=by
 unfold restQ
 rw [show k-j=(k-(j+1))+1 by omega,List.range'_succ,List.filter_cons_of_neg (by simpa using hi)]
def finR (ps:List (List Nt)) (s:Nw×Int):Rm×Int:=if s.2≠0 then (zRm,s.2) else (⟨ps,s.1⟩,0)
theorem tellR_eq{r:Rm}{i:Nat}{n:Nt}(hi:i<r.ps.length):tellR r i n=if lrnE r.ps[i] n=0 then finR (r.ps.set i (lrnL r.ps[i] n)) (sndAll r.net (tellQ r.ps.length i n)) else (zRm,lrnE r.ps[i] n):=by
 unfold tellR;rw [List.getElem?_eq_getElem hi]
 by_cases h:lrnE r.ps[i] n=0
 ·rw [if_pos h];show (if lrnE r.ps[i] n≠0 then _ else _)=_;rw [if_neg (fun h'=>h' h)];rfl
 ·rw [if_neg h];show (if lrnE r.ps[i] n≠0 then _ else _)=_;rw [if_pos h]
theorem syncR_eq{r:Rm}{i k:Nat}(hi:i<r.ps.length):syncR r i k=finR r.ps (sndAll r.net (r.ps[i].map fun n=>pcOf i k n)):=by
 unfold syncR;rw [List.getElem?_eq_getElem hi];rfl
theorem sndAll_cons(w:Nw) (p:Pc) (r:List Pc):sndAll w (p::r)=if sndE w p=0 then sndAll (sndN w p) r else (w,sndE w p):=rfl
def tellX (r:Rm) (m:Mv):Rm×Int:=if inR r m.peer=false then (zRm,1) else if okNt m.note=false then (zRm,530) else tellR r m.peer.toNat m.note
theorem okPe_iff{l:List Nt}:okPe l=true↔okNs none l=true∧l.length<=4096:=by unfold okPe;simp only [Bool.and_eq_true,decide_eq_true_eq]
theorem inR_iff{r:Rm}{i:Int}:inR r i=true↔0<=i∧i<r.ps.length:=by unfold inR;simp only [Bool.and_eq_true,decide_eq_true_eq]
def syncX (r:Rm) (m:Mv):Rm×Int:=if (inR r m.peer&&inR r m.to)=false∨m.peer=m.to then (zRm,1) else syncR r m.peer.toNat m.to.toNat
theorem dlv_ok{r:Rm}{at_:Int}(hR:okRm r=true) (hq:¬ (dlvP r.net at_).a=(dlvP r.net at_).b):okPc (dlvP r.net at_)=true∧okPq r.ps.length (dlvP r.net at_)=true:=by
 obtain⟨g1,g2,g3,g4,g5⟩:=okRm_iff.1 hR
 have:dlvP r.net at_∈r.net.q:=by
  unfold dlvP at hq ⊢
  split at hq
  ·exact absurd rfl hq
  ·rename_i hl
   rw [if_neg hl]
   unfold atP at hq ⊢
   split at hq
   ·rename_i ha
    rw [if_pos ha]
    obtain⟨_,hin⟩:=atE_zero.1 ha
    obtain⟨h1,h2⟩:=inQ_iff.1 hin
    rw [List.getD_eq_getElem?_getD,List.getElem?_eq_getElem (by omega)]
    exact List.getElem_mem _
   ·exact absurd rfl hq
 exact⟨okNw_all g3 _ this,g5 _ this⟩
theorem mvR_eq(r:Rm) (m:Mv) (h:okRm r=true):mvR r m=if m.kind=1 then tellX r m else if m.kind=2 then syncX r m else if m.kind=3 then dlvR r m.at_ else if m.kind=4 then (if atE r.net m.at_≠0 then (zRm,atE r.net m.at_) else (⟨r.ps,lseN r.net m.at_⟩,0)) else if m.kind=5 then (if repE r.net m.at_≠0 then (zRm,repE r.net m.at_) else (⟨r.ps,repN r.net m.at_⟩,0)) else (zRm,1):=by
 unfold mvR;rw [if_neg (by rw [h];simp)];rfl
end

section
attribute [local simp] dZ_agg dZ_nt dZ_noTup dZ_cells dZ_one bz_toList bz_size strV dSp_cells dSp_isAgg dSp_noTup dSp_nt dCh_cells dCh_isAgg dCh_noTup dCh_nt dNt_cells dNt_isAgg dNt_noTup dNt_nt dPe_cells dPe_isAgg dPe_noTup dPe_nt dRm_cells dRm_isAgg dRm_noTup dRm_nt dPc_cells dPc_agg dPc_noTup dNw_cells dNw_agg dNw_noTup dMv_cells dMv_isAgg dMv_noTup dMv_nt
set_option maxRecDepth 8000
set_option maxHeartbeats 40000000
theorem sNeed_t(n:Int):PCall Tryz.prog 71 [dB true,dI n] (.ret (.tup [])):=by
 refine pcall_of_vc (C:=fun _ _ _=>False) (by rintro _ _ _ ⟨⟩) c71 (by simp [a71]) fun hr=>?_
 simp [a71]
theorem sNeed_f(n:Int):PCall Tryz.prog 71 [dB false,dI n] (.pan (tE n)):=by
 refine pcall_of_vc (C:=fun _ _ _=>False) (by rintro _ _ _ ⟨⟩) c71 (by simp [a71]) fun hr=>?_
 simp [a71]
 refine regS_path [] ?_
 simp [tE]
theorem elsD_nts(l:List Nt):elsD 7 l.length (D.flat (l.map dNt))=l.map dNt:=by
 induction l with
 | nil=>rfl
 | cons a r ih =>
  have hl:=dNt_len a
  have e:D.flat ((a::r).map dNt)=(dNt a).cells++D.flat (r.map dNt):=rfl
  simp only [elsD] at ih ⊢
  rw [if_neg (by omega)] at ih ⊢
  rw [e,List.length_cons,chunkD,List.take_left' hl,List.drop_left' hl,ih]
  rfl
theorem flat_nts(l:List Nt):(D.flat (l.map dNt)).length=l.length*7:=by
 have:=flat_len (es:=l.map dNt) (sz:=7) (fun e he=>by
  obtain⟨x,_,rfl⟩:=List.mem_map.1 he;rfl)
 rw [this,List.length_map]
theorem snd_ok{w:Nw}{p:Pc}(h:okNw w=true) (hp:okPc p=true) (hl:w.q.length<4096):sndE w p=0∧okNw (sndN w p)=true∧(sndN w p).q.length=w.q.length+1:=by
 have e1:sndN w p=⟨w.q++[p],w.c⟩:=by unfold sndN;rw [if_pos ⟨h,hp,by omega⟩]
 refine⟨by unfold sndE;rw [if_pos ⟨h,hp⟩,if_neg (by omega)],?_,by rw [e1];simp⟩
 rw [e1]
 unfold okNw at h ⊢
 simp only [Bool.and_eq_true,decide_eq_true_eq,List.length_append,List.length_singleton,List.all_append,List.all_cons,List.all_nil,Bool.and_true] at h ⊢
 exact⟨by omega,⟨h.2.1,hp⟩,h.2.2⟩
theorem okPc_of{i j:Nat}{n:Nt}(hn:okNt n=true) (hi:i<24) (hj:j<24) (h:¬ j=i):okPc (pcOf i j n)=true:=by
 have:=msgB_len hn
 unfold okPc cValid pcOf
 simp only [Bool.and_eq_true,decide_eq_true_eq]
 refine⟨⟨⟨?_,?_⟩,?_⟩,by omega⟩
 all_goals (split <;> try split) <;> omega
theorem lem_a{n:Nat}(h:n+1<4096):(n+1)*64<=140737488355328:=by omega
theorem lem_b{p n:Nat}(h:p<=n+1):(p:Int)<=(n:Int)+1:=by omega
theorem lem_c{n:Nat}(h:n+1<4096):(n+1+1)*64<=140737488355328:=by omega
theorem lem_d{n:Nat}(h:n+1<4096):n<=9223372036854775805:=by omega
theorem wr_one(ps:List (List Nt)):∀ c∈wr (ps.map dPe),c.one=true:=fun c hc=>by
 rw [wr_pe] at hc
 obtain⟨l,_,rfl⟩:=List.mem_map.1 hc
 rfl
theorem wr_one1(n:Nt):∀ c∈wr [.agg [.lit (.int .i64 n.lang),.lit (.int .i64 n.seq),.lit (.int .i64 n.ch.at_),.lit (.int .i64 n.ch.kind),.lit (.int .i64 n.ch.sp.id),.lit (.int .i64 n.ch.sp.ver),dZ n.ch.sp.tx]],c.one=true:=fun c hc=>by
 simp only [wr,D.flat,List.flatMap_cons,List.flatMap_nil,D.cells,List.append_nil,List.map_cons,List.map_nil,List.mem_cons,List.not_mem_nil,or_false] at hc
 rcases hc with rfl | rfl | rfl | rfl | rfl | rfl | rfl <;> rfl
inductive C544:FuncId->List D->Out->Prop
 | chk (r:Rm):C544 4 [dRm r] (.ret (dI (rmE r)))
 | need_t (n:Int):C544 71 [dB true,dI n] (.ret (.tup []))
 | need_f (n:Int):C544 71 [dB false,dI n] (.pan (tE n))
 | formed (n:Nt):C544 51 [dNt n] (.ret (dB (okNt n)))
 | rd (b:List UInt8) (h:b.length<=1099511627776):C544 20 [.sl 1 (b.map dU)] (.ret (.tup [dNt (sRdN b h),dB (readB b).isSome]))
 | msg (n:Nt) (h:n.ch.sp.tx.length<=1000000):C544 75 [dNt n] (.ret (dZ (msgB n)))
 | search (l:List Nt) (n:Nt) (hl:okNs none l=true) (hn:okNt n=true) (hlen:l.length<=100000):C544 105 [.sl 7 (l.map dNt),dNt n,.fn (.func 52) [] []] (.ret (.tup [dI (posN l n),dB (decide (l[posN l n]?=some n))]))
 | snd (w:Nw) (p:Pc):C544 108 [dNw w,dPc p] (.ret (.tup [dNw (sndN w p),dI (sndE w p)]))
 | dlv (w:Nw) (i:Int):C544 77 [dNw w,dI i] (.ret (.tup [dPc (dlvP w i),dNw (lseN w i),dI (atE w i)]))
 | lose (w:Nw) (i:Int):C544 78 [dNw w,dI i] (.ret (.tup [dNw (lseN w i),dI (atE w i)]))
 | rep (w:Nw) (i:Int):C544 79 [dNw w,dI i] (.ret (.tup [dNw (repN w i),dI (repE w i)]))
theorem h544:∀ f ds out,C544 f ds out->PCall Tryz.prog f ds out:=by
 intro f ds out h
 cases h with
 | chk r=>exact sCheck r
 | need_t n=>exact sNeed_t n
 | need_f n=>exact sNeed_f n
 | formed n=>exact sFormed n
 | rd b h=>exact(Classical.choose_spec (sRead b h)).1
 | msg n h=>exact sMessage n h
 | search l n hl hn hlen=>exact sSearch l n hl hn hlen
 | snd w p=>exact nwSend w p
 | dlv w i=>exact nwDeliver w i
 | lose w i=>exact nwLose w i
 | rep w i=>exact nwRepeat w i
theorem sTell1(r:Rm) (m:Mv) (hR:okRm r=true) (m1:m.kind=1) (q1:inR r m.peer=false):PCall Tryz.prog 8 [dRm r,dMv m] (.ret (.tup [dRm (((zRm,1):Rm×Int)).1,dI (((zRm,1):Rm×Int)).2])):=by
 have hC:=C544.chk r
 refine pcall_of_vcZ h544 c8 (by simp [a8]) 4 fun hr=>?_
 simp [a8]
 refine vc_path [.ret (dI (rmE r))] ?_
 rw [rmE_0 hR] at hC ⊢
 have hR':=okRm_iff.1 hR
 simp
 refine⟨hC,?_⟩
 obtain⟨p0,pr,hps⟩:∃ p0 pr,r.ps=p0::pr:=by
  cases h:r.ps with
  | nil=>rw [h] at hR';simp at hR'
  | cons a b=>exact⟨a,b,rfl⟩
 have hcl:some (1,List.map dPe r.ps)=some (1,dPe p0::List.map dPe pr):=by rw [hps];rfl
 have hfold:dPe p0::List.map dPe pr=List.map dPe r.ps:=by rw [hps];rfl
 have hlen:pr.length+1=r.ps.length:=by rw [hps];rfl
 have h24:(r.ps.length*24<=140737488355328)=True:=eq_true (by omega)
 have hwl:(wr (List.map dPe r.ps)).length=r.ps.length:=by rw [wr_pe,List.length_map]
 have e1:(m.kind == 1)=true:=by simp [m1]
 simp [m1,e1]
 refine regS_path [] ?_
 simp
 rw [hcl]
 simp
 rw [hfold,hlen]
 simp only [h24,true_and]
 refine regS_path [] ?_
 simp
 refine icall_T (TF Tryz.prog a29) (hcall_of_vc c29) ?_
 simp [a29]
 refine regS_path [] ?_
 simp
 refine icall_T (TF Tryz.prog a70) (hcall_of_vc c70) ?_
 simp [a70]
 refine vc_path [.pan (tE 1)] ?_
 by_cases p1:0<=m.peer
 ·have p2:¬ m.peer<(r.ps.length:Int):=fun h=>by rw [inR_iff.2 ⟨p1,h⟩] at q1;cases q1
  simp [p1,p2]
  refine⟨.need_f 1,?_⟩
  refine leave_fn (TR1 Tryz.prog a34) (dcall_of_vcR1 c34) ?_
  simp [TR1_eq,a34,tE]
  exact leZRm
 ·simp [p1]
  refine⟨.need_f 1,?_⟩
  refine leave_fn (TR1 Tryz.prog a34) (dcall_of_vcR1 c34) ?_
  simp [TR1_eq,a34,tE]
  exact leZRm
theorem sTell2(r:Rm) (m:Mv) (hR:okRm r=true) (m1:m.kind=1) (q1:inR r m.peer=true) (q2:okNt m.note=false):PCall Tryz.prog 8 [dRm r,dMv m] (.ret (.tup [dRm (((zRm,530):Rm×Int)).1,dI (((zRm,530):Rm×Int)).2])):=by
 have hC:=C544.chk r
 refine pcall_of_vcZ h544 c8 (by simp [a8]) 4 fun hr=>?_
 simp [a8]
 refine vc_path [.ret (dI (rmE r))] ?_
 rw [rmE_0 hR] at hC ⊢
 have hR':=okRm_iff.1 hR
 simp
 refine⟨hC,?_⟩
 obtain⟨p0,pr,hps⟩:∃ p0 pr,r.ps=p0::pr:=by
  cases h:r.ps with
  | nil=>rw [h] at hR';simp at hR'
  | cons a b=>exact⟨a,b,rfl⟩
 have hcl:some (1,List.map dPe r.ps)=some (1,dPe p0::List.map dPe pr):=by rw [hps];rfl
 have hfold:dPe p0::List.map dPe pr=List.map dPe r.ps:=by rw [hps];rfl
 have hlen:pr.length+1=r.ps.length:=by rw [hps];rfl
 have h24:(r.ps.length*24<=140737488355328)=True:=eq_true (by omega)
 have hwl:(wr (List.map dPe r.ps)).length=r.ps.length:=by rw [wr_pe,List.length_map]
 have e1:(m.kind == 1)=true:=by simp [m1]
 simp [m1,e1]
 refine regS_path [] ?_
 simp
 rw [hcl]
 simp
 rw [hfold,hlen]
 simp only [h24,true_and]
 refine regS_path [] ?_
 simp
 refine icall_T (TF Tryz.prog a29) (hcall_of_vc c29) ?_
 simp [a29]
 refine regS_path [] ?_
 simp
 refine icall_T (TF Tryz.prog a70) (hcall_of_vc c70) ?_
 simp [a70]
 obtain⟨p1,p2⟩:=inR_iff.1 q1
 refine vc_path [.ret (.tup [])] ?_
 simp [p1,p2]
 refine⟨.need_t 1,?_⟩
 have hF:=C544.formed m.note
 rw [q2] at hF
 refine vc_path [.ret (dB false),.pan (tE 530)] ?_
 simp
 refine⟨hF,.need_f 530,?_⟩
 refine leave_fn (TR1 Tryz.prog a34) (dcall_of_vcR1 c34) ?_
 simp [TR1_eq,a34,tE]
 exact leZRm
theorem sTell3(r:Rm) (m:Mv) (hR:okRm r=true) (hq:r.net.q.length<=4000) (m1:m.kind=1) (q1:inR r m.peer=true) (q2:okNt m.note=true) (i:Nat) (hi:m.peer=i) (p3:i<r.ps.length) (hfd:r.ps[i][posN r.ps[i] m.note]?=some m.note):PCall Tryz.prog 8 [dRm r,dMv m] (.ret (.tup [dRm (finR r.ps (sndAll r.net (tellQ r.ps.length i m.note))).1,dI (finR r.ps (sndAll r.net (tellQ r.ps.length i m.note))).2])):=by
 have hC:=C544.chk r
 refine pcall_of_vcZ h544 c8 (by simp [a8]) 4 fun hr=>?_
 simp [a8]
 refine vc_path [.ret (dI (rmE r))] ?_
 rw [rmE_0 hR] at hC ⊢
 have hR':=okRm_iff.1 hR
 simp
 refine⟨hC,?_⟩
 obtain⟨p0,pr,hps⟩:∃ p0 pr,r.ps=p0::pr:=by
  cases h:r.ps with
  | nil=>rw [h] at hR';simp at hR'
  | cons a b=>exact⟨a,b,rfl⟩
 have hcl:some (1,List.map dPe r.ps)=some (1,dPe p0::List.map dPe pr):=by rw [hps];rfl
 have hfold:dPe p0::List.map dPe pr=List.map dPe r.ps:=by rw [hps];rfl
 have hlen:pr.length+1=r.ps.length:=by rw [hps];rfl
 have h24:(r.ps.length*24<=140737488355328)=True:=eq_true (by omega)
 have hwl:(wr (List.map dPe r.ps)).length=r.ps.length:=by rw [wr_pe,List.length_map]
 have e1:(m.kind == 1)=true:=by simp [m1]
 simp [m1,e1]
 refine regS_path [] ?_
 simp
 rw [hcl]
 simp
 rw [hfold,hlen]
 simp only [h24,true_and]
 refine regS_path [] ?_
 simp
 refine icall_T (TF Tryz.prog a29) (hcall_of_vc c29) ?_
 simp [a29]
 refine regS_path [] ?_
 simp
 refine icall_T (TF Tryz.prog a70) (hcall_of_vc c70) ?_
 simp [a70]
 obtain⟨p1,p2⟩:=inR_iff.1 q1
 refine vc_path [.ret (.tup [])] ?_
 simp [p1,p2]
 refine⟨.need_t 1,?_⟩
 have hF:=C544.formed m.note
 rw [q2] at hF
 refine vc_path [.ret (dB true),.ret (.tup [])] ?_
 simp
 refine⟨hF,.need_t 530,?_⟩
 refine regS_path [] ?_
 simp
 rw [hi] at p1 p2 ⊢
 refine icall_T (TF Tryz.prog a72) (hcall_of_vc c72) ?_
 have hwg:(wr (List.map dPe r.ps))[i]?=some (.d (.sl 7 (r.ps[i].map dNt))):=by rw [wr_pe];simp [p3]
 simp [a72,p3]
 have hpe:=okPe_iff.1 (hR'.2.2.2.1 _ (List.getElem_mem p3))
 have hS:=C544.search r.ps[i] m.note hpe.1 q2 (by omega)
 have hpl:=(posN_spec (okNs_pw hpe.1) m.note).1
 refine vc_pathD [.ret (.tup [dI (posN r.ps[i] m.note),dB (decide (r.ps[i][posN r.ps[i] m.note]?=some m.note))])] ?_
 have hfl:(D.flat (r.ps.map dPe)).length=r.ps.length*1:=by rw [flat_len (sz:=1) (by simp)];simp
 simp [hfd] at hS
 simp [hwg,hfd]
 refine⟨by omega,hS,rfl,?_⟩
 refine regS_path [] ?_
 simp
 refine icall_T (TF Tryz.prog a73) (hcall_of_vc c73) ?_
 simp [a73]
 refine vc_range (TF Tryz.prog a74) (hcall_of_vc c74) rfl (by rfl) (fun yl=>by rfl) (fun yl=>?_)
 simp [a74]
 have hlenR:r.ps.length<=24:=hR'.2.1
 generalize hO:finR r.ps (sndAll r.net (tellQ r.ps.length i m.note))=OUT
 refine vc_loopK [0,1,2,10] (Nat×Nw) (fun y=>[(11,true,.d (dI y.1))]) (fun y=>[(5,.box true [.bsl 6 0 1 r.ps.length r.ps.length,.d (.sl 3 (y.2.q.map dPc)),.d (.sl 2 (y.2.c.map dPr))])]) (fun y=>y.1<=r.ps.length∧finR r.ps (sndAll y.2 (restQ r.ps.length i y.1 m.note))=OUT∧okNw y.2=true∧y.2.q.length<=r.net.q.length+y.1) (fun y=>r.ps.length-y.1) (0,r.net) ⟨by omega,by rw [restQ_0];exact hO,hR'.2.2.1,Nat.le_add_right _ _⟩ ⟨[],[],?_⟩ (fun y hy=>?_)
 ·simp
  first | exact⟨wr_one _,fun x _=>by omega⟩ | exact⟨⟨wr_one _,wr_one1 _⟩,fun x _=>by omega⟩
 obtain⟨j,x⟩:=y
 obtain⟨k1,k2,k3,k4⟩:=hy
 simp only at k1 k2 k3 k4
 simp
 refine⟨fun hlt=>?_,fun hge=>?_⟩
 ·by_cases hji:j=i
  ·subst hji
   rw [restQ_eq hlt rfl] at k2
   simp [hlt]
   refine regK_path [.ret (dZ (msgB m.note))] [] ?_
   simp
   refine⟨rfl,j+1,x,⟨by omega,k2,k3,by omega⟩,by omega,[],[],?_⟩
   rw [wrap64 (by omega)]
   simp
   first | exact⟨wr_one _,fun x _=>by omega⟩ | exact⟨⟨wr_one _,wr_one1 _⟩,fun x _=>by omega⟩
  ·have hji':¬ (j:Int)=(i:Int):=by omega
   rw [restQ_ne hlt hji,sndAll_cons] at k2
   simp [hlt]
   refine regK_path [.ret (dZ (msgB m.note))] [] ?_
   simp [hji',dZ]
   refine⟨.msg m.note (okNt_tx6 q2),rfl,?_⟩
   refine vc_pathD [.ret (.tup [dNw (sndN x (pcOf i j m.note)),dI (sndE x (pcOf i j m.note))])] ?_
   simp
   have hS:=C544.snd x (pcOf i j m.note)
   refine⟨by rw [strD_bz];exact hS,rfl,?_⟩
   obtain⟨hs,hs2,hs3⟩:=snd_ok k3 (okPc_of q2 (by omega:i<24) (by omega:j<24) hji) (by omega)
   rw [if_pos hs] at k2
   rw [hs]
   refine vc_path [.ret (.tup [])] ?_
   simp
   refine⟨.need_t 0,j+1,sndN x (pcOf i j m.note),⟨by omega,k2,hs2,by omega⟩,by omega,[],[],?_⟩
   rw [wrap64 (by omega)]
   simp
   first | exact⟨wr_one _,fun x _=>by omega⟩ | exact⟨⟨wr_one _,wr_one1 _⟩,fun x _=>by omega⟩
 ·have:j=r.ps.length:=by omega
  subst this
  rw [restQ_end] at k2
  rw [<- k2]
  have e:finR r.ps (sndAll x [])=(⟨r.ps,x⟩,0):=rfl
  rw [e]
  refine leave_fn (TR1 Tryz.prog a34) (dcall_of_vcR1 c34) ?_
  simp [TR1_eq,a34]
  rw [dRm,frz_agg]
  refine⟨?_,by simp⟩
  rw [frzL_cons,frzL_cons,frzL_cons,frzL_nil,frz_d,frz_d]
  exact⟨frz_rows (ag:=true) rfl dPe_z dPe_one (by first | (simp;done) | (simp [hPL];done)),LeD.refl _,LeD.refl _,trivial⟩
theorem sTell4(r:Rm) (m:Mv) (hR:okRm r=true) (hq:r.net.q.length<=4000) (m1:m.kind=1) (q1:inR r m.peer=true) (q2:okNt m.note=true) (i:Nat) (hi:m.peer=i) (p3:i<r.ps.length) (hfd:¬ r.ps[i][posN r.ps[i] m.note]?=some m.note) (h4:r.ps[i].length=4096):PCall Tryz.prog 8 [dRm r,dMv m] (.ret (.tup [dRm (((zRm,2):Rm×Int)).1,dI (((zRm,2):Rm×Int)).2])):=by
 have hC:=C544.chk r
 refine pcall_of_vcZ h544 c8 (by simp [a8]) 4 fun hr=>?_
 simp [a8]
 refine vc_path [.ret (dI (rmE r))] ?_
 rw [rmE_0 hR] at hC ⊢
 have hR':=okRm_iff.1 hR
 simp
 refine⟨hC,?_⟩
 obtain⟨p0,pr,hps⟩:∃ p0 pr,r.ps=p0::pr:=by
  cases h:r.ps with
  | nil=>rw [h] at hR';simp at hR'
  | cons a b=>exact⟨a,b,rfl⟩
 have hcl:some (1,List.map dPe r.ps)=some (1,dPe p0::List.map dPe pr):=by rw [hps];rfl
 have hfold:dPe p0::List.map dPe pr=List.map dPe r.ps:=by rw [hps];rfl
 have hlen:pr.length+1=r.ps.length:=by rw [hps];rfl
 have h24:(r.ps.length*24<=140737488355328)=True:=eq_true (by omega)
 have hwl:(wr (List.map dPe r.ps)).length=r.ps.length:=by rw [wr_pe,List.length_map]
 have e1:(m.kind == 1)=true:=by simp [m1]
 simp [m1,e1]
 refine regS_path [] ?_
 simp
 rw [hcl]
 simp
 rw [hfold,hlen]
 simp only [h24,true_and]
 refine regS_path [] ?_
 simp
 refine icall_T (TF Tryz.prog a29) (hcall_of_vc c29) ?_
 simp [a29]
 refine regS_path [] ?_
 simp
 refine icall_T (TF Tryz.prog a70) (hcall_of_vc c70) ?_
 simp [a70]
 obtain⟨p1,p2⟩:=inR_iff.1 q1
 refine vc_path [.ret (.tup [])] ?_
 simp [p1,p2]
 refine⟨.need_t 1,?_⟩
 have hF:=C544.formed m.note
 rw [q2] at hF
 refine vc_path [.ret (dB true),.ret (.tup [])] ?_
 simp
 refine⟨hF,.need_t 530,?_⟩
 refine regS_path [] ?_
 simp
 rw [hi] at p1 p2 ⊢
 refine icall_T (TF Tryz.prog a72) (hcall_of_vc c72) ?_
 have hwg:(wr (List.map dPe r.ps))[i]?=some (.d (.sl 7 (r.ps[i].map dNt))):=by rw [wr_pe];simp [p3]
 simp [a72,p3]
 have hpe:=okPe_iff.1 (hR'.2.2.2.1 _ (List.getElem_mem p3))
 have hS:=C544.search r.ps[i] m.note hpe.1 q2 (by omega)
 have hpl:=(posN_spec (okNs_pw hpe.1) m.note).1
 refine vc_pathD [.ret (.tup [dI (posN r.ps[i] m.note),dB (decide (r.ps[i][posN r.ps[i] m.note]?=some m.note))])] ?_
 have hfl:(D.flat (r.ps.map dPe)).length=r.ps.length*1:=by rw [flat_len (sz:=1) (by simp)];simp
 simp [hfd] at hS
 simp [hwg,hfd]
 refine⟨by omega,hS,rfl,?_⟩
 have h4i:decide ((r.ps[i].length:Int)<4096)=false:=decide_eq_false (by omega)
 refine vc_path [.pan (tE 2)] ?_
 simp [hwg,h4i]
 refine⟨by omega,.need_f 2,?_⟩
 refine leave_fn (TR1 Tryz.prog a34) (dcall_of_vcR1 c34) ?_
 simp [TR1_eq,a34,tE]
 exact leZRm
theorem sTell5(r:Rm) (m:Mv) (hR:okRm r=true) (hq:r.net.q.length<=4000) (m1:m.kind=1) (q1:inR r m.peer=true) (q2:okNt m.note=true) (i:Nat) (hi:m.peer=i) (p3:i<r.ps.length) (hfd:¬ r.ps[i][posN r.ps[i] m.note]?=some m.note) (h4:¬ r.ps[i].length=4096) (h0:r.ps[i]=[]):PCall Tryz.prog 8 [dRm r,dMv m] (.ret (.tup [dRm (finR (r.ps.set i (lrnL r.ps[i] m.note)) (sndAll r.net (tellQ r.ps.length i m.note))).1,dI (finR (r.ps.set i (lrnL r.ps[i] m.note)) (sndAll r.net (tellQ r.ps.length i m.note))).2])):=by
 have hC:=C544.chk r
 refine pcall_of_vcZ h544 c8 (by simp [a8]) 4 fun hr=>?_
 simp [a8]
 refine vc_path [.ret (dI (rmE r))] ?_
 rw [rmE_0 hR] at hC ⊢
 have hR':=okRm_iff.1 hR
 simp
 refine⟨hC,?_⟩
 obtain⟨p0,pr,hps⟩:∃ p0 pr,r.ps=p0::pr:=by
  cases h:r.ps with
  | nil=>rw [h] at hR';simp at hR'
  | cons a b=>exact⟨a,b,rfl⟩
 have hcl:some (1,List.map dPe r.ps)=some (1,dPe p0::List.map dPe pr):=by rw [hps];rfl
 have hfold:dPe p0::List.map dPe pr=List.map dPe r.ps:=by rw [hps];rfl
 have hlen:pr.length+1=r.ps.length:=by rw [hps];rfl
 have h24:(r.ps.length*24<=140737488355328)=True:=eq_true (by omega)
 have hwl:(wr (List.map dPe r.ps)).length=r.ps.length:=by rw [wr_pe,List.length_map]
 have e1:(m.kind == 1)=true:=by simp [m1]
 simp [m1,e1]
 refine regS_path [] ?_
 simp
 rw [hcl]
 simp
 rw [hfold,hlen]
 simp only [h24,true_and]
 refine regS_path [] ?_
 simp
 refine icall_T (TF Tryz.prog a29) (hcall_of_vc c29) ?_
 simp [a29]
 refine regS_path [] ?_
 simp
 refine icall_T (TF Tryz.prog a70) (hcall_of_vc c70) ?_
 simp [a70]
 obtain⟨p1,p2⟩:=inR_iff.1 q1
 refine vc_path [.ret (.tup [])] ?_
 simp [p1,p2]
 refine⟨.need_t 1,?_⟩
 have hF:=C544.formed m.note
 rw [q2] at hF
 refine vc_path [.ret (dB true),.ret (.tup [])] ?_
 simp
 refine⟨hF,.need_t 530,?_⟩
 refine regS_path [] ?_
 simp
 rw [hi] at p1 p2 ⊢
 refine icall_T (TF Tryz.prog a72) (hcall_of_vc c72) ?_
 have hwg:(wr (List.map dPe r.ps))[i]?=some (.d (.sl 7 (r.ps[i].map dNt))):=by rw [wr_pe];simp [p3]
 simp [a72,p3]
 have hpe:=okPe_iff.1 (hR'.2.2.2.1 _ (List.getElem_mem p3))
 have hS:=C544.search r.ps[i] m.note hpe.1 q2 (by omega)
 have hpl:=(posN_spec (okNs_pw hpe.1) m.note).1
 refine vc_pathD [.ret (.tup [dI (posN r.ps[i] m.note),dB (decide (r.ps[i][posN r.ps[i] m.note]?=some m.note))])] ?_
 have hfl:(D.flat (r.ps.map dPe)).length=r.ps.length*1:=by rw [flat_len (sz:=1) (by simp)];simp
 simp [hfd] at hS
 simp [hwg,hfd]
 refine⟨by omega,hS,rfl,?_⟩
 have h4i:decide ((r.ps[i].length:Int)<4096)=true:=decide_eq_true (by omega)
 refine vc_path [.ret (.tup [])] ?_
 simp [hwg,h4i]
 refine⟨by omega,.need_t 2,by omega,?_⟩
 have hW:=wr_pe_set r.ps i (lrnL r.ps[i] m.note)
 have eL:lrnL r.ps[i] m.note=r.ps[i].take (posN r.ps[i] m.note)++m.note::r.ps[i].drop (posN r.ps[i] m.note):=by unfold lrnL;rw [if_neg hfd,if_neg h4]
 have hbl:r.ps[i].length<4096:=by omega
 have hel1:elsD 7 1 (D.flat [.agg [.lit (.int .i64 m.note.lang),.lit (.int .i64 m.note.seq),.lit (.int .i64 m.note.ch.at_),.lit (.int .i64 m.note.ch.kind),.lit (.int .i64 m.note.ch.sp.id),.lit (.int .i64 m.note.ch.sp.ver),dZ m.note.ch.sp.tx]])=[dNt m.note]:=rfl
 generalize hPS:r.ps.set i (lrnL r.ps[i] m.note)=PS at *
 have hPL:PS.length=r.ps.length:=by rw [<- hPS,List.length_set]
 generalize hL:r.ps[i]=L at *
 subst h0
 simp
 refine⟨⟨rfl,Nat.le_refl _⟩,by omega,rfl,?_⟩
 have hY:[dNt m.note]=(lrnL [] m.note).map dNt:=by rw [eL];rfl
 rw [hel1,hY,hW]
 refine regS_path [] ?_
 simp
 refine icall_T (TF Tryz.prog a73) (hcall_of_vc c73) ?_
 simp [a73]
 refine vc_range (TF Tryz.prog a74) (hcall_of_vc c74) rfl (by rfl) (fun yl=>by rfl) (fun yl=>?_)
 simp [a74]
 have hlenR:r.ps.length<=24:=hR'.2.1
 generalize hO:finR PS (sndAll r.net (tellQ r.ps.length i m.note))=OUT
 refine vc_loopK [0,1,2,10] (Nat×Nw) (fun y=>[(11,true,.d (dI y.1))]) (fun y=>[(5,.box true [.bsl 6 0 1 r.ps.length r.ps.length,.d (.sl 3 (y.2.q.map dPc)),.d (.sl 2 (y.2.c.map dPr))])]) (fun y=>y.1<=r.ps.length∧finR PS (sndAll y.2 (restQ r.ps.length i y.1 m.note))=OUT∧okNw y.2=true∧y.2.q.length<=r.net.q.length+y.1) (fun y=>r.ps.length-y.1) (0,r.net) ⟨by omega,by rw [restQ_0];exact hO,hR'.2.2.1,Nat.le_add_right _ _⟩ ⟨[],[],?_⟩ (fun y hy=>?_)
 ·simp
  first | exact⟨wr_one _,fun x _=>by omega⟩ | exact⟨⟨wr_one _,wr_one1 _⟩,fun x _=>by omega⟩
 obtain⟨j,x⟩:=y
 obtain⟨k1,k2,k3,k4⟩:=hy
 simp only at k1 k2 k3 k4
 simp
 refine⟨fun hlt=>?_,fun hge=>?_⟩
 ·by_cases hji:j=i
  ·subst hji
   rw [restQ_eq hlt rfl] at k2
   simp [hlt]
   refine regK_path [.ret (dZ (msgB m.note))] [] ?_
   simp
   refine⟨rfl,j+1,x,⟨by omega,k2,k3,by omega⟩,by omega,[],[],?_⟩
   rw [wrap64 (by omega)]
   simp
   first | exact⟨wr_one _,fun x _=>by omega⟩ | exact⟨⟨wr_one _,wr_one1 _⟩,fun x _=>by omega⟩
  ·have hji':¬ (j:Int)=(i:Int):=by omega
   rw [restQ_ne hlt hji,sndAll_cons] at k2
   simp [hlt]
   refine regK_path [.ret (dZ (msgB m.note))] [] ?_
   simp [hji',dZ]
   refine⟨.msg m.note (okNt_tx6 q2),rfl,?_⟩
   refine vc_pathD [.ret (.tup [dNw (sndN x (pcOf i j m.note)),dI (sndE x (pcOf i j m.note))])] ?_
   simp
   have hS:=C544.snd x (pcOf i j m.note)
   refine⟨by rw [strD_bz];exact hS,rfl,?_⟩
   obtain⟨hs,hs2,hs3⟩:=snd_ok k3 (okPc_of q2 (by omega:i<24) (by omega:j<24) hji) (by omega)
   rw [if_pos hs] at k2
   rw [hs]
   refine vc_path [.ret (.tup [])] ?_
   simp
   refine⟨.need_t 0,j+1,sndN x (pcOf i j m.note),⟨by omega,k2,hs2,by omega⟩,by omega,[],[],?_⟩
   rw [wrap64 (by omega)]
   simp
   first | exact⟨wr_one _,fun x _=>by omega⟩ | exact⟨⟨wr_one _,wr_one1 _⟩,fun x _=>by omega⟩
 ·have:j=r.ps.length:=by omega
  subst this
  rw [restQ_end] at k2
  rw [<- k2]
  have e:finR PS (sndAll x [])=(⟨PS,x⟩,0):=rfl
  rw [e]
  refine leave_fn (TR1 Tryz.prog a34) (dcall_of_vcR1 c34) ?_
  simp [TR1_eq,a34]
  rw [dRm,frz_agg]
  refine⟨?_,by simp⟩
  rw [frzL_cons,frzL_cons,frzL_cons,frzL_nil,frz_d,frz_d]
  exact⟨frz_rows (ag:=true) rfl dPe_z dPe_one (by first | (simp;done) | (simp [hPL];done)),LeD.refl _,LeD.refl _,trivial⟩
theorem sTell6(r:Rm) (m:Mv) (hR:okRm r=true) (hq:r.net.q.length<=4000) (m1:m.kind=1) (q1:inR r m.peer=true) (q2:okNt m.note=true) (i:Nat) (hi:m.peer=i) (p3:i<r.ps.length) (hfd:¬ r.ps[i][posN r.ps[i] m.note]?=some m.note) (h4:¬ r.ps[i].length=4096) (h0:¬ r.ps[i]=[]):PCall Tryz.prog 8 [dRm r,dMv m] (.ret (.tup [dRm (finR (r.ps.set i (lrnL r.ps[i] m.note)) (sndAll r.net (tellQ r.ps.length i m.note))).1,dI (finR (r.ps.set i (lrnL r.ps[i] m.note)) (sndAll r.net (tellQ r.ps.length i m.note))).2])):=by
 have hC:=C544.chk r
 refine pcall_of_vcZ h544 c8 (by simp [a8]) 4 fun hr=>?_
 simp [a8]
 refine vc_path [.ret (dI (rmE r))] ?_
 rw [rmE_0 hR] at hC ⊢
 have hR':=okRm_iff.1 hR
 simp
 refine⟨hC,?_⟩
 obtain⟨p0,pr,hps⟩:∃ p0 pr,r.ps=p0::pr:=by
  cases h:r.ps with
  | nil=>rw [h] at hR';simp at hR'
  | cons a b=>exact⟨a,b,rfl⟩
 have hcl:some (1,List.map dPe r.ps)=some (1,dPe p0::List.map dPe pr):=by rw [hps];rfl
 have hfold:dPe p0::List.map dPe pr=List.map dPe r.ps:=by rw [hps];rfl
 have hlen:pr.length+1=r.ps.length:=by rw [hps];rfl
 have h24:(r.ps.length*24<=140737488355328)=True:=eq_true (by omega)
 have hwl:(wr (List.map dPe r.ps)).length=r.ps.length:=by rw [wr_pe,List.length_map]
 have e1:(m.kind == 1)=true:=by simp [m1]
 simp [m1,e1]
 refine regS_path [] ?_
 simp
 rw [hcl]
 simp
 rw [hfold,hlen]
 simp only [h24,true_and]
 refine regS_path [] ?_
 simp
 refine icall_T (TF Tryz.prog a29) (hcall_of_vc c29) ?_
 simp [a29]
 refine regS_path [] ?_
 simp
 refine icall_T (TF Tryz.prog a70) (hcall_of_vc c70) ?_
 simp [a70]
 obtain⟨p1,p2⟩:=inR_iff.1 q1
 refine vc_path [.ret (.tup [])] ?_
 simp [p1,p2]
 refine⟨.need_t 1,?_⟩
 have hF:=C544.formed m.note
 rw [q2] at hF
 refine vc_path [.ret (dB true),.ret (.tup [])] ?_
 simp
 refine⟨hF,.need_t 530,?_⟩
 refine regS_path [] ?_
 simp
 rw [hi] at p1 p2 ⊢
 refine icall_T (TF Tryz.prog a72) (hcall_of_vc c72) ?_
 have hwg:(wr (List.map dPe r.ps))[i]?=some (.d (.sl 7 (r.ps[i].map dNt))):=by rw [wr_pe];simp [p3]
 simp [a72,p3]
 have hpe:=okPe_iff.1 (hR'.2.2.2.1 _ (List.getElem_mem p3))
 have hS:=C544.search r.ps[i] m.note hpe.1 q2 (by omega)
 have hpl:=(posN_spec (okNs_pw hpe.1) m.note).1
 refine vc_pathD [.ret (.tup [dI (posN r.ps[i] m.note),dB (decide (r.ps[i][posN r.ps[i] m.note]?=some m.note))])] ?_
 have hfl:(D.flat (r.ps.map dPe)).length=r.ps.length*1:=by rw [flat_len (sz:=1) (by simp)];simp
 simp [hfd] at hS
 simp [hwg,hfd]
 refine⟨by omega,hS,rfl,?_⟩
 have h4i:decide ((r.ps[i].length:Int)<4096)=true:=decide_eq_true (by omega)
 refine vc_path [.ret (.tup [])] ?_
 simp [hwg,h4i]
 refine⟨by omega,.need_t 2,by omega,?_⟩
 have hW:=wr_pe_set r.ps i (lrnL r.ps[i] m.note)
 have eL:lrnL r.ps[i] m.note=r.ps[i].take (posN r.ps[i] m.note)++m.note::r.ps[i].drop (posN r.ps[i] m.note):=by unfold lrnL;rw [if_neg hfd,if_neg h4]
 have hbl:r.ps[i].length<4096:=by omega
 have hel1:elsD 7 1 (D.flat [.agg [.lit (.int .i64 m.note.lang),.lit (.int .i64 m.note.seq),.lit (.int .i64 m.note.ch.at_),.lit (.int .i64 m.note.ch.kind),.lit (.int .i64 m.note.ch.sp.id),.lit (.int .i64 m.note.ch.sp.ver),dZ m.note.ch.sp.tx]])=[dNt m.note]:=rfl
 generalize hPS:r.ps.set i (lrnL r.ps[i] m.note)=PS at *
 have hPL:PS.length=r.ps.length:=by rw [<- hPS,List.length_set]
 generalize hL:r.ps[i]=L at *
 obtain⟨a,b,rfl⟩:∃ a b,L=a::b:=by cases L with
  | nil=>exact absurd rfl h0
  | cons a b=>exact⟨a,b,rfl⟩
 have hfa:(D.flat (dNt a::b.map dNt)).length=(b.length+1)*7:=flat_nts (a::b)
 have hela:elsD 7 (b.length+1) (D.flat (dNt a::b.map dNt))=(a::b).map dNt:=elsD_nts (a::b)
 have hY:List.take (posN (a::b) m.note) ((a::b).map dNt)++([dNt m.note]++List.drop (posN (a::b) m.note) ((a::b).map dNt))=(lrnL (a::b) m.note).map dNt:=by
  rw [eL,List.map_append,List.map_take,List.map_cons (f:=dNt) (a:=m.note),List.map_drop,List.singleton_append]
 have hpl2:posN (a::b) m.note<=b.length+1:=hpl
 have hbl2:b.length+1<4096:=hbl
 have hi1:i+1<=(D.flat (List.map dPe r.ps)).length:=by rw [hfl];omega
 clear hbl hpl h4i h4 hfd eL
 have g2:(b.length+1)*7<=(D.flat (dNt a::b.map dNt)).length:=Nat.le_of_eq hfa.symm
 clear hfa
 have hb:(b.length+1)*64<=140737488355328:=lem_a hbl2
 have g1:((posN (a::b) m.note:Nat):Int)<=(b.length:Int)+1:=lem_b hpl2
 have g3:(b.length+1+1)*64<=140737488355328:=lem_c hbl2
 have g4:b.length<=9223372036854775805:=lem_d hbl2
 simp [hb]
 refine⟨⟨g1,⟨g2,Nat.le_refl _⟩,g3,g4⟩,hi1,rfl,?_⟩
 rw [hela,hel1,hY,hW]
 refine regS_path [] ?_
 simp
 refine icall_T (TF Tryz.prog a73) (hcall_of_vc c73) ?_
 simp [a73]
 refine vc_range (TF Tryz.prog a74) (hcall_of_vc c74) rfl (by rfl) (fun yl=>by rfl) (fun yl=>?_)
 simp [a74]
 have hlenR:r.ps.length<=24:=hR'.2.1
 generalize hO:finR PS (sndAll r.net (tellQ r.ps.length i m.note))=OUT
 refine vc_loopK [0,1,2,10] (Nat×Nw) (fun y=>[(11,true,.d (dI y.1))]) (fun y=>[(5,.box true [.bsl 6 0 1 r.ps.length r.ps.length,.d (.sl 3 (y.2.q.map dPc)),.d (.sl 2 (y.2.c.map dPr))])]) (fun y=>y.1<=r.ps.length∧finR PS (sndAll y.2 (restQ r.ps.length i y.1 m.note))=OUT∧okNw y.2=true∧y.2.q.length<=r.net.q.length+y.1) (fun y=>r.ps.length-y.1) (0,r.net) ⟨by omega,by rw [restQ_0];exact hO,hR'.2.2.1,Nat.le_add_right _ _⟩ ⟨[],[],?_⟩ (fun y hy=>?_)
 ·simp
  first | exact⟨wr_one _,fun x _=>by omega⟩ | exact⟨⟨wr_one _,wr_one1 _⟩,fun x _=>by omega⟩
 obtain⟨j,x⟩:=y
 obtain⟨k1,k2,k3,k4⟩:=hy
 simp only at k1 k2 k3 k4
 simp
 refine⟨fun hlt=>?_,fun hge=>?_⟩
 ·by_cases hji:j=i
  ·subst hji
   rw [restQ_eq hlt rfl] at k2
   simp [hlt]
   refine regK_path [.ret (dZ (msgB m.note))] [] ?_
   simp
   refine⟨rfl,j+1,x,⟨by omega,k2,k3,by omega⟩,by omega,[],[],?_⟩
   rw [wrap64 (by omega)]
   simp
   first | exact⟨wr_one _,fun x _=>by omega⟩ | exact⟨⟨wr_one _,wr_one1 _⟩,fun x _=>by omega⟩
  ·have hji':¬ (j:Int)=(i:Int):=by omega
   rw [restQ_ne hlt hji,sndAll_cons] at k2
   simp [hlt]
   refine regK_path [.ret (dZ (msgB m.note))] [] ?_
   simp [hji',dZ]
   refine⟨.msg m.note (okNt_tx6 q2),rfl,?_⟩
   refine vc_pathD [.ret (.tup [dNw (sndN x (pcOf i j m.note)),dI (sndE x (pcOf i j m.note))])] ?_
   simp
   have hS:=C544.snd x (pcOf i j m.note)
   refine⟨by rw [strD_bz];exact hS,rfl,?_⟩
   obtain⟨hs,hs2,hs3⟩:=snd_ok k3 (okPc_of q2 (by omega:i<24) (by omega:j<24) hji) (by omega)
   rw [if_pos hs] at k2
   rw [hs]
   refine vc_path [.ret (.tup [])] ?_
   simp
   refine⟨.need_t 0,j+1,sndN x (pcOf i j m.note),⟨by omega,k2,hs2,by omega⟩,by omega,[],[],?_⟩
   rw [wrap64 (by omega)]
   simp
   first | exact⟨wr_one _,fun x _=>by omega⟩ | exact⟨⟨wr_one _,wr_one1 _⟩,fun x _=>by omega⟩
 ·have:j=r.ps.length:=by omega
  subst this
  rw [restQ_end] at k2
  rw [<- k2]
  have e:finR PS (sndAll x [])=(⟨PS,x⟩,0):=rfl
  rw [e]
  refine leave_fn (TR1 Tryz.prog a34) (dcall_of_vcR1 c34) ?_
  simp [TR1_eq,a34]
  rw [dRm,frz_agg]
  refine⟨?_,by simp⟩
  rw [frzL_cons,frzL_cons,frzL_cons,frzL_nil,frz_d,frz_d]
  exact⟨frz_rows (ag:=true) rfl dPe_z dPe_one (by first | (simp;done) | (simp [hPL];done)),LeD.refl _,LeD.refl _,trivial⟩
theorem sSync1(r:Rm) (m:Mv) (hR:okRm r=true) (m1:m.kind=2) (q1:inR r m.peer=false):PCall Tryz.prog 8 [dRm r,dMv m] (.ret (.tup [dRm (((zRm,1):Rm×Int)).1,dI (((zRm,1):Rm×Int)).2])):=by
 have hC:=C544.chk r
 refine pcall_of_vcZ h544 c8 (by simp [a8]) 4 fun hr=>?_
 simp [a8]
 refine vc_path [.ret (dI (rmE r))] ?_
 rw [rmE_0 hR] at hC ⊢
 have hR':=okRm_iff.1 hR
 simp
 refine⟨hC,?_⟩
 obtain⟨p0,pr,hps⟩:∃ p0 pr,r.ps=p0::pr:=by
  cases h:r.ps with
  | nil=>rw [h] at hR';simp at hR'
  | cons a b=>exact⟨a,b,rfl⟩
 have hcl:some (1,List.map dPe r.ps)=some (1,dPe p0::List.map dPe pr):=by rw [hps];rfl
 have hfold:dPe p0::List.map dPe pr=List.map dPe r.ps:=by rw [hps];rfl
 have hlen:pr.length+1=r.ps.length:=by rw [hps];rfl
 have h24:(r.ps.length*24<=140737488355328)=True:=eq_true (by omega)
 have hwl:(wr (List.map dPe r.ps)).length=r.ps.length:=by rw [wr_pe,List.length_map]
 have e1:(m.kind == 1)=false:=by simp [m1]
 have e2:(m.kind == 2)=true:=by simp [m1]
 simp [m1,e1,e2]
 refine regS_path [] ?_
 simp
 rw [hcl]
 simp
 rw [hfold,hlen]
 simp only [h24,true_and]
 refine regS_path [] ?_
 simp
 refine icall_T (TF Tryz.prog a30) (hcall_of_vc c30) ?_
 simp [a30]
 refine regS_path [] ?_
 simp
 refine icall_T (TF Tryz.prog a70) (hcall_of_vc c70) ?_
 simp [a70]
 refine vc_path [.pan (tE 1)] ?_
 by_cases p1:0<=m.peer
 ·have p2:¬ m.peer<(r.ps.length:Int):=fun h=>by rw [inR_iff.2 ⟨p1,h⟩] at q1;cases q1
  simp [p1,p2]
  refine⟨.need_f 1,?_⟩
  refine leave_fn (TR1 Tryz.prog a34) (dcall_of_vcR1 c34) ?_
  simp [TR1_eq,a34,tE]
  exact leZRm
 ·simp [p1]
  refine⟨.need_f 1,?_⟩
  refine leave_fn (TR1 Tryz.prog a34) (dcall_of_vcR1 c34) ?_
  simp [TR1_eq,a34,tE]
  exact leZRm
theorem sSync2(r:Rm) (m:Mv) (hR:okRm r=true) (m1:m.kind=2) (q0:inR r m.peer=true) (q1:inR r m.to=false):PCall Tryz.prog 8 [dRm r,dMv m] (.ret (.tup [dRm (((zRm,1):Rm×Int)).1,dI (((zRm,1):Rm×Int)).2])):=by
 have hC:=C544.chk r
 refine pcall_of_vcZ h544 c8 (by simp [a8]) 4 fun hr=>?_
 simp [a8]
 refine vc_path [.ret (dI (rmE r))] ?_
 rw [rmE_0 hR] at hC ⊢
 have hR':=okRm_iff.1 hR
 simp
 refine⟨hC,?_⟩
 obtain⟨p0,pr,hps⟩:∃ p0 pr,r.ps=p0::pr:=by
  cases h:r.ps with
  | nil=>rw [h] at hR';simp at hR'
  | cons a b=>exact⟨a,b,rfl⟩
 have hcl:some (1,List.map dPe r.ps)=some (1,dPe p0::List.map dPe pr):=by rw [hps];rfl
 have hfold:dPe p0::List.map dPe pr=List.map dPe r.ps:=by rw [hps];rfl
 have hlen:pr.length+1=r.ps.length:=by rw [hps];rfl
 have h24:(r.ps.length*24<=140737488355328)=True:=eq_true (by omega)
 have hwl:(wr (List.map dPe r.ps)).length=r.ps.length:=by rw [wr_pe,List.length_map]
 have e1:(m.kind == 1)=false:=by simp [m1]
 have e2:(m.kind == 2)=true:=by simp [m1]
 simp [m1,e1,e2]
 refine regS_path [] ?_
 simp
 rw [hcl]
 simp
 rw [hfold,hlen]
 simp only [h24,true_and]
 refine regS_path [] ?_
 simp
 refine icall_T (TF Tryz.prog a30) (hcall_of_vc c30) ?_
 simp [a30]
 refine regS_path [] ?_
 simp
 refine icall_T (TF Tryz.prog a70) (hcall_of_vc c70) ?_
 simp [a70]
 obtain⟨p1,p2⟩:=inR_iff.1 q0
 refine vc_path [.ret (.tup [])] ?_
 simp [p1,p2]
 refine⟨.need_t 1,?_⟩
 refine regS_path [] ?_
 simp
 refine icall_T (TF Tryz.prog a70) (hcall_of_vc c70) ?_
 simp [a70]
 refine vc_path [.pan (tE 1)] ?_
 by_cases p1:0<=m.to
 ·have p2:¬ m.to<(r.ps.length:Int):=fun h=>by rw [inR_iff.2 ⟨p1,h⟩] at q1;cases q1
  simp [p1,p2]
  refine⟨.need_f 1,?_⟩
  refine leave_fn (TR1 Tryz.prog a34) (dcall_of_vcR1 c34) ?_
  simp [TR1_eq,a34,tE]
  exact leZRm
 ·simp [p1]
  refine⟨.need_f 1,?_⟩
  refine leave_fn (TR1 Tryz.prog a34) (dcall_of_vcR1 c34) ?_
  simp [TR1_eq,a34,tE]
  exact leZRm
theorem sSync3(r:Rm) (m:Mv) (hR:okRm r=true) (m1:m.kind=2) (q0:inR r m.peer=true) (q1:inR r m.to=true) (qe:m.peer=m.to):PCall Tryz.prog 8 [dRm r,dMv m] (.ret (.tup [dRm (((zRm,1):Rm×Int)).1,dI (((zRm,1):Rm×Int)).2])):=by
 have hC:=C544.chk r
 refine pcall_of_vcZ h544 c8 (by simp [a8]) 4 fun hr=>?_
 simp [a8]
 refine vc_path [.ret (dI (rmE r))] ?_
 rw [rmE_0 hR] at hC ⊢
 have hR':=okRm_iff.1 hR
 simp
 refine⟨hC,?_⟩
 obtain⟨p0,pr,hps⟩:∃ p0 pr,r.ps=p0::pr:=by
  cases h:r.ps with
  | nil=>rw [h] at hR';simp at hR'
  | cons a b=>exact⟨a,b,rfl⟩
 have hcl:some (1,List.map dPe r.ps)=some (1,dPe p0::List.map dPe pr):=by rw [hps];rfl
 have hfold:dPe p0::List.map dPe pr=List.map dPe r.ps:=by rw [hps];rfl
 have hlen:pr.length+1=r.ps.length:=by rw [hps];rfl
 have h24:(r.ps.length*24<=140737488355328)=True:=eq_true (by omega)
 have hwl:(wr (List.map dPe r.ps)).length=r.ps.length:=by rw [wr_pe,List.length_map]
 have e1:(m.kind == 1)=false:=by simp [m1]
 have e2:(m.kind == 2)=true:=by simp [m1]
 simp [m1,e1,e2]
 refine regS_path [] ?_
 simp
 rw [hcl]
 simp
 rw [hfold,hlen]
 simp only [h24,true_and]
 refine regS_path [] ?_
 simp
 refine icall_T (TF Tryz.prog a30) (hcall_of_vc c30) ?_
 simp [a30]
 refine regS_path [] ?_
 simp
 refine icall_T (TF Tryz.prog a70) (hcall_of_vc c70) ?_
 simp [a70]
 obtain⟨p1,p2⟩:=inR_iff.1 q0
 refine vc_path [.ret (.tup [])] ?_
 simp [p1,p2]
 refine⟨.need_t 1,?_⟩
 refine regS_path [] ?_
 simp
 refine icall_T (TF Tryz.prog a70) (hcall_of_vc c70) ?_
 simp [a70]
 obtain⟨p3,p4⟩:=inR_iff.1 q1
 refine vc_path [.ret (.tup [])] ?_
 simp [p3,p4]
 refine⟨.need_t 1,?_⟩
 refine vc_path [.pan (tE 1)] ?_
 simp [qe]
 refine⟨.need_f 1,?_⟩
 refine leave_fn (TR1 Tryz.prog a34) (dcall_of_vcR1 c34) ?_
 simp [TR1_eq,a34,tE]
 exact leZRm
theorem sSync4(r:Rm) (m:Mv) (hR:okRm r=true) (m1:m.kind=2) (q0:inR r m.peer=true) (q1:inR r m.to=true) (qe:¬ m.peer=m.to) (i k:Nat) (hi:m.peer=i) (hk:m.to=k) (p5:i<r.ps.length) (p6:k<r.ps.length) (hq:r.net.q.length+r.ps[i].length<=4000):PCall Tryz.prog 8 [dRm r,dMv m] (.ret (.tup [dRm (finR r.ps (sndAll r.net (r.ps[i].map fun n=>pcOf i k n))).1,dI (finR r.ps (sndAll r.net (r.ps[i].map fun n=>pcOf i k n))).2])):=by
 have hC:=C544.chk r
 refine pcall_of_vcZ h544 c8 (by simp [a8]) 4 fun hr=>?_
 simp [a8]
 refine vc_path [.ret (dI (rmE r))] ?_
 rw [rmE_0 hR] at hC ⊢
 have hR':=okRm_iff.1 hR
 simp
 refine⟨hC,?_⟩
 obtain⟨p0,pr,hps⟩:∃ p0 pr,r.ps=p0::pr:=by
  cases h:r.ps with
  | nil=>rw [h] at hR';simp at hR'
  | cons a b=>exact⟨a,b,rfl⟩
 have hcl:some (1,List.map dPe r.ps)=some (1,dPe p0::List.map dPe pr):=by rw [hps];rfl
 have hfold:dPe p0::List.map dPe pr=List.map dPe r.ps:=by rw [hps];rfl
 have hlen:pr.length+1=r.ps.length:=by rw [hps];rfl
 have h24:(r.ps.length*24<=140737488355328)=True:=eq_true (by omega)
 have hwl:(wr (List.map dPe r.ps)).length=r.ps.length:=by rw [wr_pe,List.length_map]
 have e1:(m.kind == 1)=false:=by simp [m1]
 have e2:(m.kind == 2)=true:=by simp [m1]
 simp [m1,e1,e2]
 refine regS_path [] ?_
 simp
 rw [hcl]
 simp
 rw [hfold,hlen]
 simp only [h24,true_and]
 refine regS_path [] ?_
 simp
 refine icall_T (TF Tryz.prog a30) (hcall_of_vc c30) ?_
 simp [a30]
 refine regS_path [] ?_
 simp
 refine icall_T (TF Tryz.prog a70) (hcall_of_vc c70) ?_
 simp [a70]
 obtain⟨p1,p2⟩:=inR_iff.1 q0
 refine vc_path [.ret (.tup [])] ?_
 simp [p1,p2]
 refine⟨.need_t 1,?_⟩
 refine regS_path [] ?_
 simp
 refine icall_T (TF Tryz.prog a70) (hcall_of_vc c70) ?_
 simp [a70]
 obtain⟨p3,p4⟩:=inR_iff.1 q1
 refine vc_path [.ret (.tup [])] ?_
 simp [p3,p4]
 refine⟨.need_t 1,?_⟩
 refine vc_path [.ret (.tup [])] ?_
 have hqb:(m.peer != m.to)=true:=by simp [qe]
 simp [hqb]
 refine⟨.need_t 1,?_⟩
 clear hqb
 rw [hi] at p1 p2 qe ⊢
 rw [hk] at p3 p4 qe ⊢
 refine regS_path [] ?_
 simp
 refine icall_T (TF Tryz.prog a73) (hcall_of_vc c73) ?_
 simp [a73]
 refine vc_range (TF Tryz.prog a76) (hcall_of_vc c76) rfl (by rfl) (fun yl=>by rfl) (fun yl=>?_)
 have hwg:(wr (List.map dPe r.ps))[i]?=some (.d (.sl 7 (r.ps[i].map dNt))):=by rw [wr_pe];simp [p5]
 have hpe:=okPe_iff.1 (hR'.2.2.2.1 _ (List.getElem_mem p5))
 have hok:=okNs_ok hpe.1
 have hfl:(D.flat (r.ps.map dPe)).length=r.ps.length*1:=by rw [flat_len (sz:=1) (by simp)];simp
 simp [a76,p5,hwg]
 refine⟨by omega,rfl,?_⟩
 have hlenR:r.ps.length<=24:=hR'.2.1
 have hL4:=hpe.2
 generalize hL:r.ps[i]=L at *
 generalize hO:finR r.ps (sndAll r.net (L.map fun n=>pcOf i k n))=OUT
 refine vc_loopK [0,1,2,15,16] (Nat×Nw) (fun y=>[(17,true,.d (dI y.1))]) (fun y=>[(5,.box true [.bsl 6 0 1 r.ps.length r.ps.length,.d (.sl 3 (y.2.q.map dPc)),.d (.sl 2 (y.2.c.map dPr))])]) (fun y=>y.1<=L.length∧finR r.ps (sndAll y.2 ((L.drop y.1).map fun n=>pcOf i k n))=OUT∧okNw y.2=true∧y.2.q.length<=r.net.q.length+y.1) (fun y=>L.length-y.1) (0,r.net) ⟨Nat.zero_le _,hO,hR'.2.2.1,Nat.le_add_right _ _⟩ ⟨[],[],?_⟩ (fun y hy=>?_)
 ·simp
  exact⟨wr_one _,fun x _=>by omega⟩
 obtain⟨j,x⟩:=y
 obtain⟨k1,k2,k3,k4⟩:=hy
 simp only at k1 k2 k3 k4
 simp
 refine⟨fun hlt=>?_,fun hge=>?_⟩
 ·have q7:okNt L[j]=true:=hok _ (List.getElem_mem hlt)
  rw [List.drop_eq_getElem_cons hlt,List.map_cons,sndAll_cons] at k2
  simp [hlt,dNt]
  refine regK_path [.ret (dZ (msgB L[j]))] [] ?_
  simp [dZ]
  refine⟨.msg L[j] (okNt_tx6 q7),rfl,?_⟩
  refine vc_pathD [.ret (.tup [dNw (sndN x (pcOf i k L[j])),dI (sndE x (pcOf i k L[j]))])] ?_
  simp
  have hS:=C544.snd x (pcOf i k L[j])
  refine⟨by rw [strD_bz];exact hS,rfl,?_⟩
  have hik:¬ k=i:=fun e=>qe (by rw [e])
  obtain⟨hs,hs2,hs3⟩:=snd_ok k3 (okPc_of q7 (by omega:i<24) (by omega:k<24) hik) (by omega)
  rw [if_pos hs] at k2
  rw [hs]
  refine vc_path [.ret (.tup [])] ?_
  simp
  refine⟨.need_t 0,j+1,sndN x (pcOf i k L[j]),⟨by omega,by rw [<- List.map_drop];exact k2,hs2,by omega⟩,by omega,[],[],?_⟩
  rw [wrap64 (by omega)]
  simp
  exact⟨wr_one _,fun x _=>by omega⟩
 ·have:j=L.length:=by omega
  subst this
  rw [List.drop_length] at k2
  rw [<- k2]
  have e:finR r.ps (sndAll x [])=(⟨r.ps,x⟩,0):=rfl
  rw [List.map_nil,e]
  refine leave_fn (TR1 Tryz.prog a34) (dcall_of_vcR1 c34) ?_
  simp [TR1_eq,a34]
  rw [dRm,frz_agg]
  refine⟨?_,by simp⟩
  rw [frzL_cons,frzL_cons,frzL_cons,frzL_nil,frz_d,frz_d]
  exact⟨frz_rows (ag:=true) rfl dPe_z dPe_one (by simp),LeD.refl _,LeD.refl _,trivial⟩
theorem sLose(r:Rm) (m:Mv) (hR:okRm r=true) (m1:m.kind=4):PCall Tryz.prog 8 [dRm r,dMv m] (.ret (.tup [dRm (if atE r.net m.at_≠0 then (zRm,atE r.net m.at_) else (⟨r.ps,lseN r.net m.at_⟩,0)).1,dI (if atE r.net m.at_≠0 then (zRm,atE r.net m.at_) else (⟨r.ps,lseN r.net m.at_⟩,0)).2])):=by
 have hC:=C544.chk r
 refine pcall_of_vcZ h544 c8 (by simp [a8]) 4 fun hr=>?_
 simp [a8]
 refine vc_path [.ret (dI (rmE r))] ?_
 rw [rmE_0 hR] at hC ⊢
 have hR':=okRm_iff.1 hR
 simp
 refine⟨hC,?_⟩
 obtain⟨p0,pr,hps⟩:∃ p0 pr,r.ps=p0::pr:=by
  cases h:r.ps with
  | nil=>rw [h] at hR';simp at hR'
  | cons a b=>exact⟨a,b,rfl⟩
 have hcl:some (1,List.map dPe r.ps)=some (1,dPe p0::List.map dPe pr):=by rw [hps];rfl
 have hfold:dPe p0::List.map dPe pr=List.map dPe r.ps:=by rw [hps];rfl
 have hlen:pr.length+1=r.ps.length:=by rw [hps];rfl
 have h24:(r.ps.length*24<=140737488355328)=True:=eq_true (by omega)
 have hwl:(wr (List.map dPe r.ps)).length=r.ps.length:=by rw [wr_pe,List.length_map]
 have e1:(m.kind == 1)=false:=by simp [m1]
 have e2:(m.kind == 2)=false:=by simp [m1]
 have e3:(m.kind == 3)=false:=by simp [m1]
 have e4:(m.kind == 4)=true:=by simp [m1]
 simp [m1,e1,e2,e3,e4]
 refine regS_path [] ?_
 simp
 rw [hcl]
 simp
 rw [hfold,hlen]
 simp only [h24,true_and]
 refine regS_path [] ?_
 simp
 refine icall_T (TF Tryz.prog a32) (hcall_of_vc c32) ?_
 simp [a32]
 have hD:=C544.lose r.net m.at_
 refine vc_pathD [.ret (.tup [dNw (lseN r.net m.at_),dI (atE r.net m.at_)])] ?_
 simp
 refine⟨hD,rfl,?_⟩
 by_cases e:atE r.net m.at_=0
 ·rw [e]
  refine vc_path [.ret (.tup [])] ?_
  simp
  refine⟨.need_t 0,?_⟩
  refine leave_fn (TR1 Tryz.prog a34) (dcall_of_vcR1 c34) ?_
  simp [TR1_eq,a34]
  rw [dRm,frz_agg]
  refine⟨?_,by simp⟩
  rw [frzL_cons,frzL_cons,frzL_cons,frzL_nil,frz_d,frz_d]
  exact⟨frz_rows (ag:=true) rfl dPe_z dPe_one (by simp),LeD.refl _,LeD.refl _,trivial⟩
 ·refine vc_path [.pan (tE (atE r.net m.at_))] ?_
  have hsd:((atE r.net m.at_ == 0)=false):=by simp [e]
  simp [hsd,e]
  refine⟨.need_f _,?_⟩
  refine leave_fn (TR1 Tryz.prog a34) (dcall_of_vcR1 c34) ?_
  simp [TR1_eq,a34,tE]
  exact leZRm
theorem sRepeat(r:Rm) (m:Mv) (hR:okRm r=true) (m1:m.kind=5):PCall Tryz.prog 8 [dRm r,dMv m] (.ret (.tup [dRm (if repE r.net m.at_≠0 then (zRm,repE r.net m.at_) else (⟨r.ps,repN r.net m.at_⟩,0)).1,dI (if repE r.net m.at_≠0 then (zRm,repE r.net m.at_) else (⟨r.ps,repN r.net m.at_⟩,0)).2])):=by
 have hC:=C544.chk r
 refine pcall_of_vcZ h544 c8 (by simp [a8]) 4 fun hr=>?_
 simp [a8]
 refine vc_path [.ret (dI (rmE r))] ?_
 rw [rmE_0 hR] at hC ⊢
 have hR':=okRm_iff.1 hR
 simp
 refine⟨hC,?_⟩
 obtain⟨p0,pr,hps⟩:∃ p0 pr,r.ps=p0::pr:=by
  cases h:r.ps with
  | nil=>rw [h] at hR';simp at hR'
  | cons a b=>exact⟨a,b,rfl⟩
 have hcl:some (1,List.map dPe r.ps)=some (1,dPe p0::List.map dPe pr):=by rw [hps];rfl
 have hfold:dPe p0::List.map dPe pr=List.map dPe r.ps:=by rw [hps];rfl
 have hlen:pr.length+1=r.ps.length:=by rw [hps];rfl
 have h24:(r.ps.length*24<=140737488355328)=True:=eq_true (by omega)
 have hwl:(wr (List.map dPe r.ps)).length=r.ps.length:=by rw [wr_pe,List.length_map]
 have e1:(m.kind == 1)=false:=by simp [m1]
 have e2:(m.kind == 2)=false:=by simp [m1]
 have e3:(m.kind == 3)=false:=by simp [m1]
 have e4:(m.kind == 4)=false:=by simp [m1]
 have e5:(m.kind == 5)=true:=by simp [m1]
 simp [m1,e1,e2,e3,e4,e5]
 refine regS_path [] ?_
 simp
 rw [hcl]
 simp
 rw [hfold,hlen]
 simp only [h24,true_and]
 refine regS_path [] ?_
 simp
 refine icall_T (TF Tryz.prog a33) (hcall_of_vc c33) ?_
 simp [a33]
 have hD:=C544.rep r.net m.at_
 refine vc_pathD [.ret (.tup [dNw (repN r.net m.at_),dI (repE r.net m.at_)])] ?_
 simp
 refine⟨hD,rfl,?_⟩
 by_cases e:repE r.net m.at_=0
 ·rw [e]
  refine vc_path [.ret (.tup [])] ?_
  simp
  refine⟨.need_t 0,?_⟩
  refine leave_fn (TR1 Tryz.prog a34) (dcall_of_vcR1 c34) ?_
  simp [TR1_eq,a34]
  rw [dRm,frz_agg]
  refine⟨?_,by simp⟩
  rw [frzL_cons,frzL_cons,frzL_cons,frzL_nil,frz_d,frz_d]
  exact⟨frz_rows (ag:=true) rfl dPe_z dPe_one (by simp),LeD.refl _,LeD.refl _,trivial⟩
 ·refine vc_path [.pan (tE (repE r.net m.at_))] ?_
  have hsd:((repE r.net m.at_ == 0)=false):=by simp [e]
  simp [hsd,e]
  refine⟨.need_f _,?_⟩
  refine leave_fn (TR1 Tryz.prog a34) (dcall_of_vcR1 c34) ?_
  simp [TR1_eq,a34,tE]
  exact leZRm
theorem sNone(r:Rm) (m:Mv) (hR:okRm r=true) (m1:¬ m.kind=1) (m2:¬ m.kind=2) (m3:¬ m.kind=3) (m4:¬ m.kind=4) (m5:¬ m.kind=5):PCall Tryz.prog 8 [dRm r,dMv m] (.ret (.tup [dRm (((zRm,1):Rm×Int)).1,dI (((zRm,1):Rm×Int)).2])):=by
 have hC:=C544.chk r
 refine pcall_of_vcZ h544 c8 (by simp [a8]) 4 fun hr=>?_
 simp [a8]
 refine vc_path [.ret (dI (rmE r))] ?_
 rw [rmE_0 hR] at hC ⊢
 have hR':=okRm_iff.1 hR
 simp
 refine⟨hC,?_⟩
 have e1:(m.kind == 1)=false:=by simp [m1]
 have e2:(m.kind == 2)=false:=by simp [m2]
 have e3:(m.kind == 3)=false:=by simp [m3]
 have e4:(m.kind == 4)=false:=by simp [m4]
 have e5:(m.kind == 5)=false:=by simp [m5]
 simp [e1,e2,e3,e4,e5]
 first | exact leZRm | exact⟨leZRm,leD_of_eq rfl⟩
theorem sDlv1(r:Rm) (m:Mv) (hR:okRm r=true) (m1:m.kind=3) (e:¬ atE r.net m.at_=0):PCall Tryz.prog 8 [dRm r,dMv m] (.ret (.tup [dRm (((zRm,atE r.net m.at_):Rm×Int)).1,dI (((zRm,atE r.net m.at_):Rm×Int)).2])):=by
 have hC:=C544.chk r
 refine pcall_of_vcZ h544 c8 (by simp [a8]) 4 fun hr=>?_
 simp [a8]
 refine vc_path [.ret (dI (rmE r))] ?_
 rw [rmE_0 hR] at hC ⊢
 have hR':=okRm_iff.1 hR
 simp
 refine⟨hC,?_⟩
 obtain⟨p0,pr,hps⟩:∃ p0 pr,r.ps=p0::pr:=by
  cases h:r.ps with
  | nil=>rw [h] at hR';simp at hR'
  | cons a b=>exact⟨a,b,rfl⟩
 have hcl:some (1,List.map dPe r.ps)=some (1,dPe p0::List.map dPe pr):=by rw [hps];rfl
 have hfold:dPe p0::List.map dPe pr=List.map dPe r.ps:=by rw [hps];rfl
 have hlen:pr.length+1=r.ps.length:=by rw [hps];rfl
 have h24:(r.ps.length*24<=140737488355328)=True:=eq_true (by omega)
 have hwl:(wr (List.map dPe r.ps)).length=r.ps.length:=by rw [wr_pe,List.length_map]
 have e1:(m.kind == 1)=false:=by simp [m1]
 have e2:(m.kind == 2)=false:=by simp [m1]
 have e3:(m.kind == 3)=true:=by simp [m1]
 simp [m1,e1,e2,e3]
 refine regS_path [] ?_
 simp
 rw [hcl]
 simp
 rw [hfold,hlen]
 simp only [h24,true_and]
 refine regS_path [] ?_
 simp
 refine icall_T (TF Tryz.prog a31) (hcall_of_vc c31) ?_
 simp [a31]
 have hD:=C544.dlv r.net m.at_
 refine vc_pathD [.ret (.tup [dPc (dlvP r.net m.at_),dNw (lseN r.net m.at_),dI (atE r.net m.at_)])] ?_
 simp
 refine⟨hD,rfl,?_⟩
 refine vc_path [.pan (tE (atE r.net m.at_))] ?_
 have hsd:((atE r.net m.at_ == 0)=false):=by simp [e]
 simp [hsd]
 refine⟨.need_f _,?_⟩
 refine leave_fn (TR1 Tryz.prog a34) (dcall_of_vcR1 c34) ?_
 simp [TR1_eq,a34,tE]
 exact leZRm
theorem sDlv2(r:Rm) (m:Mv) (hR:okRm r=true) (m1:m.kind=3) (e:atE r.net m.at_=0) (qab:(dlvP r.net m.at_).a=(dlvP r.net m.at_).b):PCall Tryz.prog 8 [dRm r,dMv m] (.ret (.tup [dRm (((⟨r.ps,lseN r.net m.at_⟩,0):Rm×Int)).1,dI (((⟨r.ps,lseN r.net m.at_⟩,0):Rm×Int)).2])):=by
 have hC:=C544.chk r
 refine pcall_of_vcZ h544 c8 (by simp [a8]) 4 fun hr=>?_
 simp [a8]
 refine vc_path [.ret (dI (rmE r))] ?_
 rw [rmE_0 hR] at hC ⊢
 have hR':=okRm_iff.1 hR
 simp
 refine⟨hC,?_⟩
 obtain⟨p0,pr,hps⟩:∃ p0 pr,r.ps=p0::pr:=by
  cases h:r.ps with
  | nil=>rw [h] at hR';simp at hR'
  | cons a b=>exact⟨a,b,rfl⟩
 have hcl:some (1,List.map dPe r.ps)=some (1,dPe p0::List.map dPe pr):=by rw [hps];rfl
 have hfold:dPe p0::List.map dPe pr=List.map dPe r.ps:=by rw [hps];rfl
 have hlen:pr.length+1=r.ps.length:=by rw [hps];rfl
 have h24:(r.ps.length*24<=140737488355328)=True:=eq_true (by omega)
 have hwl:(wr (List.map dPe r.ps)).length=r.ps.length:=by rw [wr_pe,List.length_map]
 have e1:(m.kind == 1)=false:=by simp [m1]
 have e2:(m.kind == 2)=false:=by simp [m1]
 have e3:(m.kind == 3)=true:=by simp [m1]
 simp [m1,e1,e2,e3]
 refine regS_path [] ?_
 simp
 rw [hcl]
 simp
 rw [hfold,hlen]
 simp only [h24,true_and]
 refine regS_path [] ?_
 simp
 refine icall_T (TF Tryz.prog a31) (hcall_of_vc c31) ?_
 simp [a31]
 have hD:=C544.dlv r.net m.at_
 refine vc_pathD [.ret (.tup [dPc (dlvP r.net m.at_),dNw (lseN r.net m.at_),dI (atE r.net m.at_)])] ?_
 simp
 refine⟨hD,rfl,?_⟩
 rw [e]
 refine vc_path [.ret (.tup [])] ?_
 simp [qab]
 refine⟨.need_t 0,?_⟩
 refine leave_fn (TR1 Tryz.prog a34) (dcall_of_vcR1 c34) ?_
 simp [TR1_eq,a34]
 rw [dRm,frz_agg]
 refine⟨?_,by simp⟩
 rw [frzL_cons,frzL_cons,frzL_cons,frzL_nil,frz_d,frz_d]
 exact⟨frz_rows (ag:=true) rfl dPe_z dPe_one (by simp),LeD.refl _,LeD.refl _,trivial⟩
theorem sDlv3(r:Rm) (m:Mv) (hR:okRm r=true) (m1:m.kind=3) (e:atE r.net m.at_=0) (qab:¬ (dlvP r.net m.at_).a=(dlvP r.net m.at_).b) (n:Nt) (hn:readB (dlvP r.net m.at_).p=some n) (q2:okNt n=true) (i:Nat) (hi:(dlvP r.net m.at_).b=i) (p3:i<r.ps.length) (hfd:r.ps[i][posN r.ps[i] n]?=some n):PCall Tryz.prog 8 [dRm r,dMv m] (.ret (.tup [dRm (((⟨r.ps,lseN r.net m.at_⟩,0):Rm×Int)).1,dI (((⟨r.ps,lseN r.net m.at_⟩,0):Rm×Int)).2])):=by
 have hC:=C544.chk r
 refine pcall_of_vcZ h544 c8 (by simp [a8]) 4 fun hr=>?_
 simp [a8]
 refine vc_path [.ret (dI (rmE r))] ?_
 rw [rmE_0 hR] at hC ⊢
 have hR':=okRm_iff.1 hR
 simp
 refine⟨hC,?_⟩
 obtain⟨p0,pr,hps⟩:∃ p0 pr,r.ps=p0::pr:=by
  cases h:r.ps with
  | nil=>rw [h] at hR';simp at hR'
  | cons a b=>exact⟨a,b,rfl⟩
 have hcl:some (1,List.map dPe r.ps)=some (1,dPe p0::List.map dPe pr):=by rw [hps];rfl
 have hfold:dPe p0::List.map dPe pr=List.map dPe r.ps:=by rw [hps];rfl
 have hlen:pr.length+1=r.ps.length:=by rw [hps];rfl
 have h24:(r.ps.length*24<=140737488355328)=True:=eq_true (by omega)
 have hwl:(wr (List.map dPe r.ps)).length=r.ps.length:=by rw [wr_pe,List.length_map]
 have e1:(m.kind == 1)=false:=by simp [m1]
 have e2:(m.kind == 2)=false:=by simp [m1]
 have e3:(m.kind == 3)=true:=by simp [m1]
 simp [m1,e1,e2,e3]
 refine regS_path [] ?_
 simp
 rw [hcl]
 simp
 rw [hfold,hlen]
 simp only [h24,true_and]
 refine regS_path [] ?_
 simp
 refine icall_T (TF Tryz.prog a31) (hcall_of_vc c31) ?_
 simp [a31]
 have hD:=C544.dlv r.net m.at_
 refine vc_pathD [.ret (.tup [dPc (dlvP r.net m.at_),dNw (lseN r.net m.at_),dI (atE r.net m.at_)])] ?_
 simp
 refine⟨hD,rfl,?_⟩
 rw [e]
 refine vc_path [.ret (.tup [])] ?_
 simp [qab]
 refine⟨.need_t 0,?_⟩
 obtain⟨k1,k2⟩:=dlv_ok hR qab
 obtain⟨k3,k4,k5⟩:=okPc_len k1
 have hB:=C544.rd (dlvP r.net m.at_).p k3
 rw [sRdN_eq hn,hn] at hB
 refine vc_path [.ret (.tup [dNt n,dB true])] ?_
 simp
 refine⟨hB,?_⟩
 refine regS_path [] ?_
 simp
 rw [hi]
 refine icall_T (TF Tryz.prog a72) (hcall_of_vc c72) ?_
 have hwg:(wr (List.map dPe r.ps))[i]?=some (.d (.sl 7 (r.ps[i].map dNt))):=by rw [wr_pe];simp [p3]
 simp [a72,p3]
 have hpe:=okPe_iff.1 (hR'.2.2.2.1 _ (List.getElem_mem p3))
 have hS:=C544.search r.ps[i] n hpe.1 q2 (by omega)
 have hpl:=(posN_spec (okNs_pw hpe.1) n).1
 refine vc_pathD [.ret (.tup [dI (posN r.ps[i] n),dB (decide (r.ps[i][posN r.ps[i] n]?=some n))])] ?_
 have hfl:(D.flat (r.ps.map dPe)).length=r.ps.length*1:=by rw [flat_len (sz:=1) (by simp)];simp
 simp [hfd] at hS
 simp [hwg,hfd]
 refine⟨by omega,hS,rfl,?_⟩
 refine leave_fn (TR1 Tryz.prog a34) (dcall_of_vcR1 c34) ?_
 simp [TR1_eq,a34]
 rw [dRm,frz_agg]
 refine⟨?_,by simp⟩
 rw [frzL_cons,frzL_cons,frzL_cons,frzL_nil,frz_d,frz_d]
 exact⟨frz_rows (ag:=true) rfl dPe_z dPe_one (by simp),LeD.refl _,LeD.refl _,trivial⟩
theorem sDlv4(r:Rm) (m:Mv) (hR:okRm r=true) (m1:m.kind=3) (e:atE r.net m.at_=0) (qab:¬ (dlvP r.net m.at_).a=(dlvP r.net m.at_).b) (n:Nt) (hn:readB (dlvP r.net m.at_).p=some n) (q2:okNt n=true) (i:Nat) (hi:(dlvP r.net m.at_).b=i) (p3:i<r.ps.length) (hfd:¬ r.ps[i][posN r.ps[i] n]?=some n) (h4:r.ps[i].length=4096):PCall Tryz.prog 8 [dRm r,dMv m] (.ret (.tup [dRm (((zRm,2):Rm×Int)).1,dI (((zRm,2):Rm×Int)).2])):=by
 have hC:=C544.chk r
 refine pcall_of_vcZ h544 c8 (by simp [a8]) 4 fun hr=>?_
 simp [a8]
 refine vc_path [.ret (dI (rmE r))] ?_
 rw [rmE_0 hR] at hC ⊢
 have hR':=okRm_iff.1 hR
 simp
 refine⟨hC,?_⟩
 obtain⟨p0,pr,hps⟩:∃ p0 pr,r.ps=p0::pr:=by
  cases h:r.ps with
  | nil=>rw [h] at hR';simp at hR'
  | cons a b=>exact⟨a,b,rfl⟩
 have hcl:some (1,List.map dPe r.ps)=some (1,dPe p0::List.map dPe pr):=by rw [hps];rfl
 have hfold:dPe p0::List.map dPe pr=List.map dPe r.ps:=by rw [hps];rfl
 have hlen:pr.length+1=r.ps.length:=by rw [hps];rfl
 have h24:(r.ps.length*24<=140737488355328)=True:=eq_true (by omega)
 have hwl:(wr (List.map dPe r.ps)).length=r.ps.length:=by rw [wr_pe,List.length_map]
 have e1:(m.kind == 1)=false:=by simp [m1]
 have e2:(m.kind == 2)=false:=by simp [m1]
 have e3:(m.kind == 3)=true:=by simp [m1]
 simp [m1,e1,e2,e3]
 refine regS_path [] ?_
 simp
 rw [hcl]
 simp
 rw [hfold,hlen]
 simp only [h24,true_and]
 refine regS_path [] ?_
 simp
 refine icall_T (TF Tryz.prog a31) (hcall_of_vc c31) ?_
 simp [a31]
 have hD:=C544.dlv r.net m.at_
 refine vc_pathD [.ret (.tup [dPc (dlvP r.net m.at_),dNw (lseN r.net m.at_),dI (atE r.net m.at_)])] ?_
 simp
 refine⟨hD,rfl,?_⟩
 rw [e]
 refine vc_path [.ret (.tup [])] ?_
 simp [qab]
 refine⟨.need_t 0,?_⟩
 obtain⟨k1,k2⟩:=dlv_ok hR qab
 obtain⟨k3,k4,k5⟩:=okPc_len k1
 have hB:=C544.rd (dlvP r.net m.at_).p k3
 rw [sRdN_eq hn,hn] at hB
 refine vc_path [.ret (.tup [dNt n,dB true])] ?_
 simp
 refine⟨hB,?_⟩
 refine regS_path [] ?_
 simp
 rw [hi]
 refine icall_T (TF Tryz.prog a72) (hcall_of_vc c72) ?_
 have hwg:(wr (List.map dPe r.ps))[i]?=some (.d (.sl 7 (r.ps[i].map dNt))):=by rw [wr_pe];simp [p3]
 simp [a72,p3]
 have hpe:=okPe_iff.1 (hR'.2.2.2.1 _ (List.getElem_mem p3))
 have hS:=C544.search r.ps[i] n hpe.1 q2 (by omega)
 have hpl:=(posN_spec (okNs_pw hpe.1) n).1
 refine vc_pathD [.ret (.tup [dI (posN r.ps[i] n),dB (decide (r.ps[i][posN r.ps[i] n]?=some n))])] ?_
 have hfl:(D.flat (r.ps.map dPe)).length=r.ps.length*1:=by rw [flat_len (sz:=1) (by simp)];simp
 simp [hfd] at hS
 simp [hwg,hfd]
 refine⟨by omega,hS,rfl,?_⟩
 have h4i:decide ((r.ps[i].length:Int)<4096)=false:=decide_eq_false (by omega)
 refine vc_path [.pan (tE 2)] ?_
 simp [hwg,h4i]
 refine⟨by omega,.need_f 2,?_⟩
 refine leave_fn (TR1 Tryz.prog a34) (dcall_of_vcR1 c34) ?_
 simp [TR1_eq,a34,tE]
 exact leZRm
theorem sDlv5(r:Rm) (m:Mv) (hR:okRm r=true) (m1:m.kind=3) (e:atE r.net m.at_=0) (qab:¬ (dlvP r.net m.at_).a=(dlvP r.net m.at_).b) (n:Nt) (hn:readB (dlvP r.net m.at_).p=some n) (q2:okNt n=true) (i:Nat) (hi:(dlvP r.net m.at_).b=i) (p3:i<r.ps.length) (hfd:¬ r.ps[i][posN r.ps[i] n]?=some n) (h4:¬ r.ps[i].length=4096) (h0:r.ps[i]=[]):PCall Tryz.prog 8 [dRm r,dMv m] (.ret (.tup [dRm (((⟨r.ps.set i (lrnL r.ps[i] n),lseN r.net m.at_⟩,0):Rm×Int)).1,dI (((⟨r.ps.set i (lrnL r.ps[i] n),lseN r.net m.at_⟩,0):Rm×Int)).2])):=by
 have hC:=C544.chk r
 refine pcall_of_vcZ h544 c8 (by simp [a8]) 4 fun hr=>?_
 simp [a8]
 refine vc_path [.ret (dI (rmE r))] ?_
 rw [rmE_0 hR] at hC ⊢
 have hR':=okRm_iff.1 hR
 simp
 refine⟨hC,?_⟩
 obtain⟨p0,pr,hps⟩:∃ p0 pr,r.ps=p0::pr:=by
  cases h:r.ps with
  | nil=>rw [h] at hR';simp at hR'
  | cons a b=>exact⟨a,b,rfl⟩
 have hcl:some (1,List.map dPe r.ps)=some (1,dPe p0::List.map dPe pr):=by rw [hps];rfl
 have hfold:dPe p0::List.map dPe pr=List.map dPe r.ps:=by rw [hps];rfl
 have hlen:pr.length+1=r.ps.length:=by rw [hps];rfl
 have h24:(r.ps.length*24<=140737488355328)=True:=eq_true (by omega)
 have hwl:(wr (List.map dPe r.ps)).length=r.ps.length:=by rw [wr_pe,List.length_map]
 have e1:(m.kind == 1)=false:=by simp [m1]
 have e2:(m.kind == 2)=false:=by simp [m1]
 have e3:(m.kind == 3)=true:=by simp [m1]
 simp [m1,e1,e2,e3]
 refine regS_path [] ?_
 simp
 rw [hcl]
 simp
 rw [hfold,hlen]
 simp only [h24,true_and]
 refine regS_path [] ?_
 simp
 refine icall_T (TF Tryz.prog a31) (hcall_of_vc c31) ?_
 simp [a31]
 have hD:=C544.dlv r.net m.at_
 refine vc_pathD [.ret (.tup [dPc (dlvP r.net m.at_),dNw (lseN r.net m.at_),dI (atE r.net m.at_)])] ?_
 simp
 refine⟨hD,rfl,?_⟩
 rw [e]
 refine vc_path [.ret (.tup [])] ?_
 simp [qab]
 refine⟨.need_t 0,?_⟩
 obtain⟨k1,k2⟩:=dlv_ok hR qab
 obtain⟨k3,k4,k5⟩:=okPc_len k1
 have hB:=C544.rd (dlvP r.net m.at_).p k3
 rw [sRdN_eq hn,hn] at hB
 refine vc_path [.ret (.tup [dNt n,dB true])] ?_
 simp
 refine⟨hB,?_⟩
 refine regS_path [] ?_
 simp
 rw [hi]
 refine icall_T (TF Tryz.prog a72) (hcall_of_vc c72) ?_
 have hwg:(wr (List.map dPe r.ps))[i]?=some (.d (.sl 7 (r.ps[i].map dNt))):=by rw [wr_pe];simp [p3]
 simp [a72,p3]
 have hpe:=okPe_iff.1 (hR'.2.2.2.1 _ (List.getElem_mem p3))
 have hS:=C544.search r.ps[i] n hpe.1 q2 (by omega)
 have hpl:=(posN_spec (okNs_pw hpe.1) n).1
 refine vc_pathD [.ret (.tup [dI (posN r.ps[i] n),dB (decide (r.ps[i][posN r.ps[i] n]?=some n))])] ?_
 have hfl:(D.flat (r.ps.map dPe)).length=r.ps.length*1:=by rw [flat_len (sz:=1) (by simp)];simp
 simp [hfd] at hS
 simp [hwg,hfd]
 refine⟨by omega,hS,rfl,?_⟩
 have h4i:decide ((r.ps[i].length:Int)<4096)=true:=decide_eq_true (by omega)
 refine vc_path [.ret (.tup [])] ?_
 simp [hwg,h4i]
 refine⟨by omega,.need_t 2,by omega,?_⟩
 have hW:=wr_pe_set r.ps i (lrnL r.ps[i] n)
 have eL:lrnL r.ps[i] n=r.ps[i].take (posN r.ps[i] n)++n::r.ps[i].drop (posN r.ps[i] n):=by unfold lrnL;rw [if_neg hfd,if_neg h4]
 have hbl:r.ps[i].length<4096:=by omega
 have hel1:elsD 7 1 (D.flat [.agg [.lit (.int .i64 n.lang),.lit (.int .i64 n.seq),.lit (.int .i64 n.ch.at_),.lit (.int .i64 n.ch.kind),.lit (.int .i64 n.ch.sp.id),.lit (.int .i64 n.ch.sp.ver),dZ n.ch.sp.tx]])=[dNt n]:=rfl
 generalize hPS:r.ps.set i (lrnL r.ps[i] n)=PS at *
 have hPL:PS.length=r.ps.length:=by rw [<- hPS,List.length_set]
 generalize hL:r.ps[i]=L at *
 subst h0
 simp
 refine⟨⟨rfl,Nat.le_refl _⟩,by omega,rfl,?_⟩
 have hY:[dNt n]=(lrnL [] n).map dNt:=by rw [eL];rfl
 rw [hel1,hY,hW]
 refine leave_fn (TR1 Tryz.prog a34) (dcall_of_vcR1 c34) ?_
 simp [TR1_eq,a34]
 rw [dRm,frz_agg]
 refine⟨?_,by simp⟩
 rw [frzL_cons,frzL_cons,frzL_cons,frzL_nil,frz_d,frz_d]
 exact⟨frz_rows (ag:=true) rfl dPe_z dPe_one (by first | (simp;done) | (simp [hPL];done)),LeD.refl _,LeD.refl _,trivial⟩
theorem sDlv6(r:Rm) (m:Mv) (hR:okRm r=true) (m1:m.kind=3) (e:atE r.net m.at_=0) (qab:¬ (dlvP r.net m.at_).a=(dlvP r.net m.at_).b) (n:Nt) (hn:readB (dlvP r.net m.at_).p=some n) (q2:okNt n=true) (i:Nat) (hi:(dlvP r.net m.at_).b=i) (p3:i<r.ps.length) (hfd:¬ r.ps[i][posN r.ps[i] n]?=some n) (h4:¬ r.ps[i].length=4096) (h0:¬ r.ps[i]=[]):PCall Tryz.prog 8 [dRm r,dMv m] (.ret (.tup [dRm (((⟨r.ps.set i (lrnL r.ps[i] n),lseN r.net m.at_⟩,0):Rm×Int)).1,dI (((⟨r.ps.set i (lrnL r.ps[i] n),lseN r.net m.at_⟩,0):Rm×Int)).2])):=by
 have hC:=C544.chk r
 refine pcall_of_vcZ h544 c8 (by simp [a8]) 4 fun hr=>?_
 simp [a8]
 refine vc_path [.ret (dI (rmE r))] ?_
 rw [rmE_0 hR] at hC ⊢
 have hR':=okRm_iff.1 hR
 simp
 refine⟨hC,?_⟩
 obtain⟨p0,pr,hps⟩:∃ p0 pr,r.ps=p0::pr:=by
  cases h:r.ps with
  | nil=>rw [h] at hR';simp at hR'
  | cons a b=>exact⟨a,b,rfl⟩
 have hcl:some (1,List.map dPe r.ps)=some (1,dPe p0::List.map dPe pr):=by rw [hps];rfl
 have hfold:dPe p0::List.map dPe pr=List.map dPe r.ps:=by rw [hps];rfl
 have hlen:pr.length+1=r.ps.length:=by rw [hps];rfl
 have h24:(r.ps.length*24<=140737488355328)=True:=eq_true (by omega)
 have hwl:(wr (List.map dPe r.ps)).length=r.ps.length:=by rw [wr_pe,List.length_map]
 have e1:(m.kind == 1)=false:=by simp [m1]
 have e2:(m.kind == 2)=false:=by simp [m1]
 have e3:(m.kind == 3)=true:=by simp [m1]
 simp [m1,e1,e2,e3]
 refine regS_path [] ?_
 simp
 rw [hcl]
 simp
 rw [hfold,hlen]
 simp only [h24,true_and]
 refine regS_path [] ?_
 simp
 refine icall_T (TF Tryz.prog a31) (hcall_of_vc c31) ?_
 simp [a31]
 have hD:=C544.dlv r.net m.at_
 refine vc_pathD [.ret (.tup [dPc (dlvP r.net m.at_),dNw (lseN r.net m.at_),dI (atE r.net m.at_)])] ?_
 simp
 refine⟨hD,rfl,?_⟩
 rw [e]
 refine vc_path [.ret (.tup [])] ?_
 simp [qab]
 refine⟨.need_t 0,?_⟩
 obtain⟨k1,k2⟩:=dlv_ok hR qab
 obtain⟨k3,k4,k5⟩:=okPc_len k1
 have hB:=C544.rd (dlvP r.net m.at_).p k3
 rw [sRdN_eq hn,hn] at hB
 refine vc_path [.ret (.tup [dNt n,dB true])] ?_
 simp
 refine⟨hB,?_⟩
 refine regS_path [] ?_
 simp
 rw [hi]
 refine icall_T (TF Tryz.prog a72) (hcall_of_vc c72) ?_
 have hwg:(wr (List.map dPe r.ps))[i]?=some (.d (.sl 7 (r.ps[i].map dNt))):=by rw [wr_pe];simp [p3]
 simp [a72,p3]
 have hpe:=okPe_iff.1 (hR'.2.2.2.1 _ (List.getElem_mem p3))
 have hS:=C544.search r.ps[i] n hpe.1 q2 (by omega)
 have hpl:=(posN_spec (okNs_pw hpe.1) n).1
 refine vc_pathD [.ret (.tup [dI (posN r.ps[i] n),dB (decide (r.ps[i][posN r.ps[i] n]?=some n))])] ?_
 have hfl:(D.flat (r.ps.map dPe)).length=r.ps.length*1:=by rw [flat_len (sz:=1) (by simp)];simp
 simp [hfd] at hS
 simp [hwg,hfd]
 refine⟨by omega,hS,rfl,?_⟩
 have h4i:decide ((r.ps[i].length:Int)<4096)=true:=decide_eq_true (by omega)
 refine vc_path [.ret (.tup [])] ?_
 simp [hwg,h4i]
 refine⟨by omega,.need_t 2,by omega,?_⟩
 have hW:=wr_pe_set r.ps i (lrnL r.ps[i] n)
 have eL:lrnL r.ps[i] n=r.ps[i].take (posN r.ps[i] n)++n::r.ps[i].drop (posN r.ps[i] n):=by unfold lrnL;rw [if_neg hfd,if_neg h4]
 have hbl:r.ps[i].length<4096:=by omega
 have hel1:elsD 7 1 (D.flat [.agg [.lit (.int .i64 n.lang),.lit (.int .i64 n.seq),.lit (.int .i64 n.ch.at_),.lit (.int .i64 n.ch.kind),.lit (.int .i64 n.ch.sp.id),.lit (.int .i64 n.ch.sp.ver),dZ n.ch.sp.tx]])=[dNt n]:=rfl
 generalize hPS:r.ps.set i (lrnL r.ps[i] n)=PS at *
 have hPL:PS.length=r.ps.length:=by rw [<- hPS,List.length_set]
 generalize hL:r.ps[i]=L at *
 obtain⟨a,b,rfl⟩:∃ a b,L=a::b:=by cases L with
  | nil=>exact absurd rfl h0
  | cons a b=>exact⟨a,b,rfl⟩
 have hfa:(D.flat (dNt a::b.map dNt)).length=(b.length+1)*7:=flat_nts (a::b)
 have hela:elsD 7 (b.length+1) (D.flat (dNt a::b.map dNt))=(a::b).map dNt:=elsD_nts (a::b)
 have hY:List.take (posN (a::b) n) ((a::b).map dNt)++([dNt n]++List.drop (posN (a::b) n) ((a::b).map dNt))=(lrnL (a::b) n).map dNt:=by
  rw [eL,List.map_append,List.map_take,List.map_cons (f:=dNt) (a:=n),List.map_drop,List.singleton_append]
 have hpl2:posN (a::b) n<=b.length+1:=hpl
 have hbl2:b.length+1<4096:=hbl
 have hi1:i+1<=(D.flat (List.map dPe r.ps)).length:=by rw [hfl];omega
 clear hbl hpl h4i h4 hfd eL
 have g2:(b.length+1)*7<=(D.flat (dNt a::b.map dNt)).length:=Nat.le_of_eq hfa.symm
 clear hfa
 have hb:(b.length+1)*64<=140737488355328:=lem_a hbl2
 have g1:((posN (a::b) n:Nat):Int)<=(b.length:Int)+1:=lem_b hpl2
 have g3:(b.length+1+1)*64<=140737488355328:=lem_c hbl2
 have g4:b.length<=9223372036854775805:=lem_d hbl2
 simp [hb]
 refine⟨⟨g1,⟨g2,Nat.le_refl _⟩,g3,g4⟩,hi1,rfl,?_⟩
 rw [hela,hel1,hY,hW]
 refine leave_fn (TR1 Tryz.prog a34) (dcall_of_vcR1 c34) ?_
 simp [TR1_eq,a34]
 rw [dRm,frz_agg]
 refine⟨?_,by simp⟩
 rw [frzL_cons,frzL_cons,frzL_cons,frzL_nil,frz_d,frz_d]
 exact⟨frz_rows (ag:=true) rfl dPe_z dPe_one (by first | (simp;done) | (simp [hPL];done)),LeD.refl _,LeD.refl _,trivial⟩
theorem sBad(r:Rm) (m:Mv) (hR:¬ okRm r=true):PCall Tryz.prog 8 [dRm r,dMv m] (.ret (.tup [dRm zRm,dI 530])):=by
 have hC:=C544.chk r
 refine pcall_of_vcZ h544 c8 (by simp [a8]) 4 fun hr=>?_
 simp [a8]
 refine vc_path [.ret (dI (rmE r))] ?_
 rw [rmE_530 hR] at hC ⊢
 simp
 exact⟨hC,leZRm⟩
def smR (r:Rm):Prop:=r.net.q.length<=2000∧∀ l∈r.ps,l.length<=1000
theorem sDo(r:Rm) (m:Mv) (hs:smR r):PCall Tryz.prog 8 [dRm r,dMv m] (.ret (.tup [dRm (mvR r m).1,dI (mvR r m).2])):=by
 by_cases hR:okRm r=true
 case neg =>
  have e:mvR r m=(zRm,530):=by unfold mvR;rw [if_pos (by simpa using hR)]
  rw [e]
  exact sBad r m hR
 rw [mvR_eq r m hR]
 obtain⟨g1,g2,g3,g4,g5⟩:=okRm_iff.1 hR
 by_cases m1:m.kind=1
 ·rw [if_pos m1]
  unfold tellX
  cases q1:inR r m.peer with
  | false=>exact sTell1 r m hR m1 q1
  | true =>
   cases q2:okNt m.note with
   | false=>exact sTell2 r m hR m1 q1 q2
   | true =>
    obtain⟨p1,p2⟩:=inR_iff.1 q1
    obtain⟨i,hi⟩:∃ i:Nat,m.peer=i:=⟨m.peer.toNat,by omega⟩
    have p3:i<r.ps.length:=by omega
    have hq:r.net.q.length<=4000:=by have:=hs.1;omega
    rw [if_neg (by simp),if_neg (by simp),hi,Int.toNat_natCast,tellR_eq p3]
    by_cases hfd:r.ps[i][posN r.ps[i] m.note]?=some m.note
    ·have e:lrnE r.ps[i] m.note=0:=by unfold lrnE;rw [if_pos hfd]
     have eL:lrnL r.ps[i] m.note=r.ps[i]:=by unfold lrnL;rw [if_pos hfd]
     rw [if_pos e,eL,List.set_getElem_self]
     exact sTell3 r m hR hq m1 q1 q2 i hi p3 hfd
    ·by_cases h4:r.ps[i].length=4096
     ·have e:lrnE r.ps[i] m.note=2:=by unfold lrnE;rw [if_neg hfd,if_pos h4]
      rw [e]
      exact sTell4 r m hR hq m1 q1 q2 i hi p3 hfd h4
     ·have e:lrnE r.ps[i] m.note=0:=by unfold lrnE;rw [if_neg hfd,if_neg h4]
      rw [if_pos e]
      by_cases h0:r.ps[i]=[]
      ·exact sTell5 r m hR hq m1 q1 q2 i hi p3 hfd h4 h0
      ·exact sTell6 r m hR hq m1 q1 q2 i hi p3 hfd h4 h0
 rw [if_neg m1]
 by_cases m2:m.kind=2
 ·rw [if_pos m2]
  unfold syncX
  cases q0:inR r m.peer with
  | false=>exact sSync1 r m hR m2 q0
  | true =>
   cases q1:inR r m.to with
   | false=>exact sSync2 r m hR m2 q0 q1
   | true =>
    by_cases qe:m.peer=m.to
    ·rw [if_pos (.inr qe)]
     exact sSync3 r m hR m2 q0 q1 qe
    ·obtain⟨p1,p2⟩:=inR_iff.1 q0
     obtain⟨p3,p4⟩:=inR_iff.1 q1
     obtain⟨i,hi⟩:∃ i:Nat,m.peer=i:=⟨m.peer.toNat,by omega⟩
     obtain⟨k,hk⟩:∃ i:Nat,m.to=i:=⟨m.to.toNat,by omega⟩
     have p5:i<r.ps.length:=by omega
     have p6:k<r.ps.length:=by omega
     have hq:r.net.q.length+r.ps[i].length<=4000:=by
      have:=hs.1;have:=hs.2 _ (List.getElem_mem p5);omega
     rw [if_neg (by rintro(h | h);cases h;exact qe h),hi,hk,Int.toNat_natCast,Int.toNat_natCast,syncR_eq p5]
     exact sSync4 r m hR m2 q0 q1 qe i k hi hk p5 p6 hq
 rw [if_neg m2]
 by_cases m3:m.kind=3
 ·rw [if_pos m3]
  unfold dlvR
  by_cases e:atE r.net m.at_=0
  case neg =>
   rw [if_pos e]
   exact sDlv1 r m hR m3 e
  rw [if_neg (fun h=>h e)]
  simp only
  by_cases qab:(dlvP r.net m.at_).a=(dlvP r.net m.at_).b
  ·rw [if_pos qab]
   exact sDlv2 r m hR m3 e qab
  ·rw [if_neg qab]
   obtain⟨k1,k2⟩:=dlv_ok hR qab
   obtain⟨k3,k4,k5⟩:=okPc_len k1
   obtain⟨k6,k7,k8⟩:=okPq_iff.1 k2
   obtain⟨n,hn⟩:=Option.isSome_iff_exists.1 k6
   have q2:=readB_ok hn
   obtain⟨i,hi⟩:∃ i:Nat,(dlvP r.net m.at_).b=i:=⟨(dlvP r.net m.at_).b.toNat,by omega⟩
   have p3:i<r.ps.length:=by omega
   rw [hn,hi,Int.toNat_natCast,List.getElem?_eq_getElem p3]
   simp only
   by_cases hfd:r.ps[i][posN r.ps[i] n]?=some n
   ·have e1:lrnE r.ps[i] n=0:=by unfold lrnE;rw [if_pos hfd]
    have eL:lrnL r.ps[i] n=r.ps[i]:=by unfold lrnL;rw [if_pos hfd]
    rw [if_neg (fun h=>h e1),eL,List.set_getElem_self]
    exact sDlv3 r m hR m3 e qab n hn q2 i hi p3 hfd
   ·by_cases h4:r.ps[i].length=4096
    ·have e1:lrnE r.ps[i] n=2:=by unfold lrnE;rw [if_neg hfd,if_pos h4]
     rw [e1]
     exact sDlv4 r m hR m3 e qab n hn q2 i hi p3 hfd h4
    ·have e1:lrnE r.ps[i] n=0:=by unfold lrnE;rw [if_neg hfd,if_neg h4]
     rw [if_neg (fun h=>h e1)]
     by_cases h0:r.ps[i]=[]
     ·exact sDlv5 r m hR m3 e qab n hn q2 i hi p3 hfd h4 h0
     ·exact sDlv6 r m hR m3 e qab n hn q2 i hi p3 hfd h4 h0
 rw [if_neg m3]
 by_cases m4:m.kind=4
 ·rw [if_pos m4]
  exact sLose r m hR m4
 rw [if_neg m4]
 by_cases m5:m.kind=5
 ·rw [if_pos m5]
  exact sRepeat r m hR m5
 rw [if_neg m5]
 exact sNone r m hR m1 m2 m3 m4 m5
end

section
attribute [local simp] dZ_agg dZ_nt dZ_noTup dZ_cells dZ_one bz_toList bz_size strV dSp_cells dSp_isAgg dSp_noTup dSp_nt dCh_cells dCh_isAgg dCh_noTup dCh_nt dNt_cells dNt_isAgg dNt_noTup dNt_nt dPe_cells dPe_isAgg dPe_noTup dPe_nt dRm_cells dRm_isAgg dRm_noTup dRm_nt dPc_cells dPc_agg dPc_noTup dNw_cells dNw_agg dNw_noTup dMv_cells dMv_isAgg dMv_noTup dMv_nt
set_option maxRecDepth 8000
set_option maxHeartbeats 4000000
inductive C558:FuncId->List D->Out->Prop
 | new1:C558 22 [] (.ret (dNw ⟨[],[]⟩))
theorem h558:∀ f ds out,C558 f ds out->PCall Tryz.prog f ds out:=by
 intro f ds out h
 cases h with
 | new1=>exact nwNew1
theorem all2New:∀ k:Nat,All2 LeD (D.flat (List.replicate k (.agg [.nil 7]))) (D.flat ((List.replicate k ([]:List Nt)).map dPe))
 | 0=>.nil
 | k+1=>.cons (LeD.nil' 7 7) (all2New k)
theorem leNewPs(k:Nat):LeD (.sl 1 (List.replicate k (.agg [.nil 7]))) (.sl 1 ((List.replicate k ([]:List Nt)).map dPe)):=LeD_slx (all2New k) (by simp) dPe_z dPe_one
theorem sNew(n:Int):PCall Tryz.prog 6 [dI n] (.ret (.tup [dRm (newR n).1,dI (newR n).2])):=by
 refine pcall_of_vcZ h558 c6 (by simp [a6]) 4 fun hr=>?_
 simp [a6]
 refine vc_path [] ?_
 unfold newR
 by_cases q1:n<1
 ·rw [if_pos (.inl q1)]
  simp [q1]
  exact leZRm
 ·by_cases q2:24<n
  ·rw [if_pos (.inr q2)]
   simp [q1,q2]
   exact leZRm
  ·rw [if_neg (by omega)]
   simp [q1,q2]
   refine vc_pathD [.ret (dNw ⟨[],[]⟩)] ?_
   simp
   refine⟨⟨by omega,by omega,by omega,by omega⟩,.new1,rfl,?_⟩
   rw [dRm,frz_agg]
   refine⟨?_,by simp⟩
   rw [frzL_cons,frzL_cons,frzL_cons,frzL_nil,frz_d,frz_d,frz_own]
   exact⟨leNewPs _,LeD.refl _,LeD.refl _,trivial⟩
theorem rSameN(x y:List Nt):PCall Tryz.prog 13 [.sl 7 (x.map dNt),.sl 7 (y.map dNt)] (.ret (dB (decide (x=y)))):=by
 refine pcall_of_vc noC c13 (by simp [a13]) fun hr=>?_
 have hlen:=(hr (.sl 7 (x.map dNt)) (by simp)).sl.1
 simp at hlen
 simp [a13]
 have hno:¬ x=y->LeD (dB false) (dB (decide (x=y))):=fun h=>leD_of_eq (by simp [h])
 refine⟨fun h=>hno (fun e=>h (by rw [e])),fun h=>?_⟩
 refine vc_loopK [0,1] Nat (fun i=>[(5,true,.d (dI i))]) (fun _=>[]) (fun i=>i<=x.length∧∀ j,(h:j<i)->(h2:j<x.length)->(h3:j<y.length)->x[j]=y[j]) (fun i=>x.length-i) 0 (by simp) ⟨[],[],?_⟩ (fun i hi=>?_)
 ·simp
 obtain⟨g1,g2⟩:=hi
 simp
 refine⟨fun hlt=>?_,fun hge=>?_⟩
 ·have hlt2:i<y.length:=by omega
  have heq:eqB [.lit (.int .i64 x[i].lang),.lit (.int .i64 x[i].seq),.lit (.int .i64 x[i].ch.at_),.lit (.int .i64 x[i].ch.kind),.lit (.int .i64 x[i].ch.sp.id),.lit (.int .i64 x[i].ch.sp.ver),dZ x[i].ch.sp.tx] [.lit (.int .i64 y[i].lang),.lit (.int .i64 y[i].seq),.lit (.int .i64 y[i].ch.at_),.lit (.int .i64 y[i].ch.kind),.lit (.int .i64 y[i].ch.sp.id),.lit (.int .i64 y[i].ch.sp.ver),dZ y[i].ch.sp.tx]=decide (x[i]=y[i]):=eqB_nt x[i] y[i]
  have hec:eqC [.int .i64,.int .i64,.int .i64,.int .i64,.int .i64,.int .i64,.str] [.lit (.int .i64 x[i].lang),.lit (.int .i64 x[i].seq),.lit (.int .i64 x[i].ch.at_),.lit (.int .i64 x[i].ch.kind),.lit (.int .i64 x[i].ch.sp.id),.lit (.int .i64 x[i].ch.sp.ver),dZ x[i].ch.sp.tx] [.lit (.int .i64 y[i].lang),.lit (.int .i64 y[i].seq),.lit (.int .i64 y[i].ch.at_),.lit (.int .i64 y[i].ch.kind),.lit (.int .i64 y[i].ch.sp.id),.lit (.int .i64 y[i].ch.sp.ver),dZ y[i].ch.sp.tx]=True:=by simp [eqC,dZ]
  simp [hlt,hlt2,heq,hec,dNt]
  refine⟨rfl,fun h=>hno (fun e=>by subst e;exact h rfl),fun h=>⟨i+1,⟨by omega,fun j hj q1 q2=>?_⟩,by omega,[],[],?_⟩⟩
  ·by_cases e:j=i
   ·subst e;exact h
   ·exact g2 j (by omega) q1 q2
  ·rw [wrap64 (by omega)];simp
 ·have:x=y:=List.ext_getElem (by omega) (fun j q1 q2=>g2 j (by omega) q1 q2)
  exact leD_of_eq (by simp [this])
def isN (lang seq:Int) (x:Nt):Bool:=decide (x.lang=lang∧x.seq=seq)
theorem findN_eq(l:List Nt) (lang seq:Int):findN l lang seq=(l.find? (isN lang seq)).map (·.ch):=rfl
theorem pig:∀ (n:Nat) (l:List Nt),(∀ j:Nat,j<n->∃ x∈l,x.seq=(j:Int))->n<=l.length
 | 0,l,_=>Nat.zero_le _
 | n+1,l,h=>by
  obtain⟨x,hx,hs⟩:=h n (by omega)
  have h1:=pig n (l.erase x) (fun j hj=>by
   obtain⟨y,hy,hys⟩:=h j (by omega)
   have hne:y≠x:=fun e=>by subst e;omega
   exact⟨y,(List.mem_erase_of_ne hne).2 hy,hys⟩)
  rw [List.length_erase_of_mem hx] at h1
  have:0<l.length:=List.length_pos_of_mem hx
  omega
theorem findN_mem{l:List Nt}{lang seq:Int}(h:(findN l lang seq).isSome=true):∃ x∈l,x.seq=seq:=by
 rw [findN_eq] at h
 cases hx:l.find? (isN lang seq) with
 | none=>rw [hx] at h;cases h
 | some x =>
  have h1:=List.mem_of_find?_eq_some hx
  have h2:=List.find?_some hx
  exact⟨x,h1,(of_decide_eq_true h2).2⟩
theorem seen_len{l:List Nt}{lang:Int}{k:Nat}(h:∀ j:Nat,j<k->(findN l lang j).isSome=true):k<=l.length:=pig k l fun j hj=>findN_mem (h j hj)
end

end Go.Proofs.YtmmlicjkdeankaaGreatDoor
