/- Part of the proof: S625, S626, S627. -/
import Derived.Test.YtmmlicjkdeankaaGreatDoorCards
import Derived.Test.YtmmlicjkdeankaaGreatDoorTie
import Derived.Deep.DeepHandedRow
import Derived.Deep.DeepWitnessRowRef
import Derived.Lib.LaidIn
import Derived.Lib.LaidU8
import Derived.ProofKit
import Derived.SizedLaws
import Derived.PinnedBridge
import Derived.SevenTiedAt
import Derived.Test.YtmmlicjkdeankaaGreatDoorI
set_option linter.unnecessarySimpa false
set_option linter.unusedVariables false
set_option linter.unusedSimpArgs false
namespace Go.Proofs.YtmmlicjkdeankaaGreatDoor
open Go Go.Proofs.YtmmlicjkdeankaaGreatDoor.AL
section
attribute [local simp] dZ_agg dZ_nt dZ_noTup dZ_cells dZ_one bz_toList bz_size strV dSp_cells dSp_isAgg dSp_noTup dSp_nt dCh_cells dCh_isAgg dCh_noTup dCh_nt dNt_cells dNt_isAgg dNt_noTup dNt_nt dPe_cells dPe_isAgg dPe_noTup dPe_nt dRm_cells dRm_isAgg dRm_noTup dRm_nt dPc_cells dPc_agg dPc_noTup dNw_cells dNw_agg dNw_noTup dMv_cells dMv_isAgg dMv_noTup dMv_nt dVi_cells dVi_isAgg dVi_noTup dVi_nt
set_option maxRecDepth 8000
set_option maxHeartbeats 40000000
def shB (l m:List Ch):Nat->List AV
 | 0=>[.d (.nil 1),.d (.nil 1)]
 | 1=>[.d (.sl 1 (shL l l.length)),.d (.nil 1)]
 | _=>[.d (.sl 1 (shL l l.length)),.d (.sl 1 (shL m m.length))]
theorem shB_0(l m:List Ch):shB l m 0=[.d (.nil 1),.d (.nil 1)]:=rfl
theorem shB_1(l m:List Ch):shB l m 1=[.d (.sl 1 (shL l l.length)),.d (.nil 1)]:=rfl
theorem shB_2(l m:List Ch):shB l m 2=[.d (.sl 1 (shL l l.length)),.d (.sl 1 (shL m m.length))]:=rfl
def OutI (n:Nat) (l m:List Ch) (r:Rm) (told:List Nt):Nat->Prop
 | 0=>PhI n 0 told r l m 0 0
 | 1=>PhI n (4*l.length) told r l m l.length 0∧∃ yl,runD [] l=some yl
 | 2=>PhI n (4*(l.length+m.length)) told r l m l.length m.length∧(∃ yl,runD [] l=some yl)∧∃ ym,runD [] m=some ym
 | _=>False
theorem kind4(M:Nat) (h:M<4):∃ K:Int,(K=3∨K=4∨K=5)∧(-9223372036854775808<=K∧K<9223372036854775808)∧([D.lit (.int .i64 3),.lit (.int .i64 4),.lit (.int .i64 5),.lit (.int .i64 3)][((M:Nat):Int).toNat]?).getD default=.lit (.int .i64 K):=by
 rcases (by omega:M=0∨M=1∨M=2∨M=3) with rfl | rfl | rfl | rfl
 ·exact⟨3,by omega,by omega,rfl⟩
 ·exact⟨4,by omega,by omega,rfl⟩
 ·exact⟨5,by omega,by omega,rfl⟩
 ·exact⟨3,by omega,by omega,rfl⟩
theorem shD_run0{cs:List Ch}(h:runD [] (cs.take cs.length)=some (shD cs cs.length)):runD [] cs=some (shD cs cs.length):=by rw [List.take_length] at h;exact h
theorem topSpread(l m:List Ch) (g:Int) (g0:0<=g) (g1:g<=255) (o:List UInt8) (v:List Vi) (t:Int) (ht:-9223372036854775808<=t∧t<9223372036854775808):PCall Tryz.prog 3 [.sl 5 (l.map dCh),.sl 5 (m.map dCh),.lit (.int .u8 g),.sl 1 (o.map dU),.sl 4 (v.map dVi),dI t] (.ret (dB true)):=by
 refine pcall_of_vc h624 c3 (by simp [a3]) fun hr=>?_
 obtain⟨n1,n2,n3⟩:=mny_r g0
 have hwg:IntKind.i64.wrap g=g:=wrap64 (by omega)
 simp [a3]
 refine vc_path [.ret (dI 530)] ?_
 simp
 refine⟨.chkZ,?_⟩
 refine vc_path [.ret (dI (chsE l)),.ret (dI (chsE m))] ?_
 by_cases q1:l.length<=8
 case neg =>
  have q1':(8:Int)<(l.length:Int):=by omega
  simp [q1']
 have q1':¬ (8:Int)<(l.length:Int):=by omega
 by_cases q2:m.length<=8
 case neg =>
  have q2':(8:Int)<(m.length:Int):=by omega
  simp [q1',q2']
 have q2':¬ (8:Int)<(m.length:Int):=by omega
 by_cases q3:o.length<=100
 case neg =>
  have q3':(100:Int)<(o.length:Int):=by omega
  simp [q1',q2',q3']
 have q3':¬ (100:Int)<(o.length:Int):=by omega
 by_cases q4:v.length<=20
 case neg =>
  have q4':(20:Int)<(v.length:Int):=by omega
  simp [q1',q2',q3',q4']
 have q4':¬ (20:Int)<(v.length:Int):=by omega
 by_cases q5:chsE l=0
 case neg =>
  simp [q1',q2',q3',q4',q5]
  exact .chs l
 by_cases q6:chsE m=0
 case neg =>
  have k5:=C624.chs l
  rw [q5] at k5
  simp [q1',q2',q3',q4',q5,q6]
  exact⟨k5,.chs m⟩
 have k5:=C624.chs l
 have k6:=C624.chs m
 rw [q5] at k5
 rw [q6] at k6
 have l1:=(chsE_0.1 q5).2
 have m1:=(chsE_0.1 q6).2
 simp [q1',q2',q3',q4',q5,q6,hwg,n3]
 refine⟨k5,k6,?_⟩
 have k7:=C624.new (mny g)
 rw [(act_new (by omega) (by omega)).1] at k7
 have i0:∃ told0,PhI (mny g) 0 told0 ⟨List.replicate (mny g) [],⟨[],[]⟩⟩ l m 0 0:=⟨_,phi_new l m⟩
 generalize mny g=n at *
 have e0:(List.replicate n ([]:List Nt)).length=n:=List.length_replicate
 generalize (Rm.mk (List.replicate n []) ⟨[],[]⟩)=r0 at *
 obtain⟨told0,i0⟩:=i0
 have e1:=i0.inv.len
 refine vc_path [.ret (.tup [dRm r0,dI 0])] ?_
 simp
 refine⟨k7,?_⟩
 refine vc_path [] ?_
 simp [e1]
 refine vc_loopK [0,1,3,4,5,13,14,16,107] (Nat×Rm×List Nt) (fun y=>[(108,true,.d (dI y.1))]) (fun y=>[(0,.box true ((dRm y.2.1).cells.map .d)),(1,.box true (shB l m y.1))]) (fun y=>OutI n l m y.2.1 y.2.2 y.1) (fun y=>2-y.1) (0,r0,told0) i0 ⟨[],[],?_⟩ (fun y hy=>?_)
 ·simp [shB_0]
 obtain⟨i,r,told⟩:=y
 simp only at hy
 match i,hy with
 | 0,hy =>
  have hy:PhI n 0 told r l m 0 0:=hy
  simp [shB_0]
  refine vc_loopK [0,1,3,4,5,13,14,16,17,107,108,115,116] (Nat×Rm×List Nt) (fun y=>[(117,true,.d (dI y.1))]) (fun y=>[(0,.box true ((dRm y.2.1).cells.map .d)),(1,.box true [.own 2 1 (shL l y.1),.d (.nil 1)]),(2,.row)]) (fun y=>y.1<=l.length∧PhI n (4*y.1) y.2.2 y.2.1 l m y.1 0∧runD [] (l.take y.1)=some (shD l y.1)) (fun y=>l.length-y.1) (0,r,told) ⟨Nat.zero_le _,hy,rfl⟩ ⟨[],[],?_⟩ (fun y hy=>?_)
  ·simp [shL_0]
  obtain⟨k,x,tl⟩:=y
  obtain⟨hk,hy,hrn⟩:=hy
  simp only at hk hy hrn
  simp
  refine⟨fun hlt=>?_,fun hge=>?_⟩
  ·have hw:IntKind.i64.wrap ((k:Int)+1)=(k:Int)+1:=wrap64 (by omega)
   have hsl:=shL_len l k
   have hkl:k<(shL l k).length:=by omega
   have hle:=shL_get l k k hkl
   have k8:=C624.dod (shL l k)[k] (shD l k) l[k] hle
   simp [hlt,hsl]
   by_cases hd:doDE (shD l k) l[k]=0
   case neg =>
    refine vc_pathD [.ret (.tup [.sl 3 ((doDL (shD l k) l[k]).map dSp),dI (doDE (shD l k) l[k])])] ?_
    simp [hsl,hd]
    exact⟨by omega,shL_el l k k hkl,k8,rfl⟩
   obtain⟨h1,h2⟩:=shD_next hrn hlt hd
   rw [h1,hd] at k8
   have hss:=shL_succ l k
   refine vc_pathD [.ret (.tup [.sl 3 ((shD l (k+1)).map dSp),dI 0])] ?_
   simp [hsl]
   refine⟨by omega,shL_el l k k hkl,k8,rfl,⟨by omega,by omega⟩,?_⟩
   rw [<- hss]
   have hy1:=hy.tl
   have hy2:=hy.ql
   obtain⟨z,tl2,e1,hz⟩:=phi_tell0 (a:=k) (b:=0) hy (by omega) n2 (by omega) q1 l1 hlt (by omega) (by omega)
   have k9:=C624.mv x (telM (ntOf 0 k l[k] (by omega) (by omega))) (inv_sm hy.inv (by omega) (by omega))
   rw [e1] at k9
   have z1:=hz.inv.len
   have z2:=hz.ql
   have z3:¬ (200:Int)<(z.net.q.length:Int):=by omega
   refine vc_path [.ret (.tup [dRm z,dI 0])] ?_
   simp
   refine⟨k9,?_⟩
   refine vc_path [] ?_
   obtain⟨J,hJ⟩:∃ J:Nat,IntKind.i64.wrap (IntKind.i64.wrap 0+(k:Int))=(J:Int):=⟨0+k,by rw [wrap64 (n:=0) (by omega),wrap64 (by omega)];omega⟩
   simp [z1,z3,hJ]
   refine vc_path [] ?_
   by_cases hi:J<o.length
   case neg =>
    have hi':¬ (J:Int)<(o.length:Int):=by omega
    simp [hi,hi']
    refine⟨k+1,z,⟨by omega,⟨tl2,hz.mono (by omega)⟩,h2⟩,by omega,[(2,5)],[],?_⟩
    simp [hw]
   have hi':(J:Int)<(o.length:Int):=by omega
   by_cases hq:0<z.net.q.length
   case neg =>
    have hq':¬ (0:Int)<(z.net.q.length:Int):=by omega
    simp [hi,hi',hq,hq']
    refine⟨k+1,z,⟨by omega,⟨tl2,hz.mono (by omega)⟩,h2⟩,by omega,[(2,5)],[],?_⟩
    simp [hw]
   have hq':(0:Int)<(z.net.q.length:Int):=by omega
   have hq2:¬ z.net.q=[]:=fun e=>by rw [e] at hq;exact absurd hq (Nat.lt_irrefl 0)
   simp [hi,hi',hq,hq',hq2,dU]
   have hu:IntKind.i64.wrap (o[J].toNat:Int)=(o[J].toNat:Int):=wrap64 (by have:=o[J].toNat_lt;omega)
   have hM:Int.tmod (o[J].toNat:Int) 4=((o[J].toNat % 4:Nat):Int):=(Int.ofNat_tmod _ 4).symm
   have hM4:o[J].toNat % 4<4:=Nat.mod_lt _ (by omega)
   rw [hM]
   generalize o[J].toNat % 4=M at *
   refine⟨⟨⟨by omega,by omega⟩,by omega⟩,?_⟩
   have hT:Int.tmod (o[J].toNat:Int) (z.net.q.length:Int)=((o[J].toNat % z.net.q.length:Nat):Int):=(Int.ofNat_tmod _ _).symm
   have hT2:o[J].toNat % z.net.q.length<z.net.q.length:=Nat.mod_lt _ hq
   have hz1:=hz.tl
   have hsm:=inv_sm hz.inv (by omega) (by omega)
   obtain⟨K,hK,hKr,hKe⟩:=kind4 M hM4
   rw [hKe]
   obtain⟨w,f1,hz5⟩:=phi_other (k:=K) (hk:=hKr) (j:=Int.tmod (o[J].toNat:Int) (z.net.q.length:Int)) hz (by omega) n2 (by omega) (by omega) hK ⟨by omega,by omega⟩
   have k10:=C624.mv z (mvAtT K hKr (Int.tmod (o[J].toNat:Int) (z.net.q.length:Int))) hsm
   rw [f1] at k10
   have w1:=hz5.inv.len
   have w2:=hz5.ql
   have w3:¬ (200:Int)<(w.net.q.length:Int):=by omega
   refine vc_pathD [.ret (.tup [dRm w,dI 0])] ?_
   simp [hi,hi',hq,hq',hq2,dU,hu]
   refine⟨k10,rfl,?_⟩
   refine vc_path [] ?_
   simp [w1,w3]
   refine⟨k+1,w,⟨by omega,⟨tl2,hz5.mono (by omega)⟩,h2⟩,by omega,[(2,5)],[],?_⟩
   simp [hw]
  ·have e:k=l.length:=by omega
   subst e
   simp
   refine⟨1,x,⟨tl,hy,_,shD_run0 hrn⟩,by omega,[],[],?_⟩
   simp [shB_1,show IntKind.i64.wrap 1=1 from wrap64 (by omega)]
 | 1,hy =>
  obtain⟨hy,yl,hyl⟩:PhI n (4*l.length) told r l m l.length 0∧∃ yl,runD [] l=some yl:=hy
  simp [shB_1]
  refine vc_loopK [0,1,3,4,5,13,14,16,17,107,108,115,116] (Nat×Rm×List Nt) (fun y=>[(117,true,.d (dI y.1))]) (fun y=>[(0,.box true ((dRm y.2.1).cells.map .d)),(1,.box true [.d (.sl 1 (shL l l.length)),.own 2 1 (shL m y.1)]),(2,.row)]) (fun y=>y.1<=m.length∧PhI n (4*(l.length+y.1)) y.2.2 y.2.1 l m l.length y.1∧runD [] (m.take y.1)=some (shD m y.1)) (fun y=>m.length-y.1) (0,r,told) ⟨Nat.zero_le _,hy,rfl⟩ ⟨[],[],?_⟩ (fun y hy=>?_)
  ·simp [shL_0]
  obtain⟨k,x,tl⟩:=y
  obtain⟨hk,hy,hrn⟩:=hy
  simp only at hk hy hrn
  simp
  refine⟨fun hlt=>?_,fun hge=>?_⟩
  ·have hw:IntKind.i64.wrap ((k:Int)+1)=(k:Int)+1:=wrap64 (by omega)
   have hsl:=shL_len m k
   have hkl:k<(shL m k).length:=by omega
   have hle:=shL_get m k k hkl
   have k8:=C624.dod (shL m k)[k] (shD m k) m[k] hle
   simp [hlt,hsl]
   by_cases hd:doDE (shD m k) m[k]=0
   case neg =>
    refine vc_pathD [.ret (.tup [.sl 3 ((doDL (shD m k) m[k]).map dSp),dI (doDE (shD m k) m[k])])] ?_
    simp [hsl,hd]
    exact⟨by omega,shL_el m k k hkl,k8,rfl⟩
   obtain⟨h1,h2⟩:=shD_next hrn hlt hd
   rw [h1,hd] at k8
   have hss:=shL_succ m k
   refine vc_pathD [.ret (.tup [.sl 3 ((shD m (k+1)).map dSp),dI 0])] ?_
   simp [hsl]
   refine⟨by omega,shL_el m k k hkl,k8,rfl,⟨by omega,by omega⟩,?_⟩
   rw [<- hss]
   have hy1:=hy.tl
   have hy2:=hy.ql
   obtain⟨z,tl2,e1,hz⟩:=phi_tell1 (a:=l.length) (b:=k) hy (by omega) n2 (by omega) q2 m1 hlt (by omega) (by omega)
   have k9:=C624.mv x (telM (ntOf 1 k m[k] (by omega) (by omega))) (inv_sm hy.inv (by omega) (by omega))
   rw [e1] at k9
   have z1:=hz.inv.len
   have z2:=hz.ql
   have z3:¬ (200:Int)<(z.net.q.length:Int):=by omega
   refine vc_path [.ret (.tup [dRm z,dI 0])] ?_
   simp
   refine⟨k9,?_⟩
   refine vc_path [] ?_
   obtain⟨J,hJ⟩:∃ J:Nat,IntKind.i64.wrap (IntKind.i64.wrap 8+(k:Int))=(J:Int):=⟨8+k,by rw [wrap64 (n:=8) (by omega),wrap64 (by omega)];omega⟩
   simp [z1,z3,hJ]
   refine vc_path [] ?_
   by_cases hi:J<o.length
   case neg =>
    have hi':¬ (J:Int)<(o.length:Int):=by omega
    simp [hi,hi']
    refine⟨k+1,z,⟨by omega,⟨tl2,hz.mono (by omega)⟩,h2⟩,by omega,[(2,5)],[],?_⟩
    simp [hw]
   have hi':(J:Int)<(o.length:Int):=by omega
   by_cases hq:0<z.net.q.length
   case neg =>
    have hq':¬ (0:Int)<(z.net.q.length:Int):=by omega
    simp [hi,hi',hq,hq']
    refine⟨k+1,z,⟨by omega,⟨tl2,hz.mono (by omega)⟩,h2⟩,by omega,[(2,5)],[],?_⟩
    simp [hw]
   have hq':(0:Int)<(z.net.q.length:Int):=by omega
   have hq2:¬ z.net.q=[]:=fun e=>by rw [e] at hq;exact absurd hq (Nat.lt_irrefl 0)
   simp [hi,hi',hq,hq',hq2,dU]
   have hu:IntKind.i64.wrap (o[J].toNat:Int)=(o[J].toNat:Int):=wrap64 (by have:=o[J].toNat_lt;omega)
   have hM:Int.tmod (o[J].toNat:Int) 4=((o[J].toNat % 4:Nat):Int):=(Int.ofNat_tmod _ 4).symm
   have hM4:o[J].toNat % 4<4:=Nat.mod_lt _ (by omega)
   rw [hM]
   generalize o[J].toNat % 4=M at *
   refine⟨⟨⟨by omega,by omega⟩,by omega⟩,?_⟩
   have hT:Int.tmod (o[J].toNat:Int) (z.net.q.length:Int)=((o[J].toNat % z.net.q.length:Nat):Int):=(Int.ofNat_tmod _ _).symm
   have hT2:o[J].toNat % z.net.q.length<z.net.q.length:=Nat.mod_lt _ hq
   have hz1:=hz.tl
   have hsm:=inv_sm hz.inv (by omega) (by omega)
   obtain⟨K,hK,hKr,hKe⟩:=kind4 M hM4
   rw [hKe]
   obtain⟨w,f1,hz5⟩:=phi_other (k:=K) (hk:=hKr) (j:=Int.tmod (o[J].toNat:Int) (z.net.q.length:Int)) hz (by omega) n2 (by omega) (by omega) hK ⟨by omega,by omega⟩
   have k10:=C624.mv z (mvAtT K hKr (Int.tmod (o[J].toNat:Int) (z.net.q.length:Int))) hsm
   rw [f1] at k10
   have w1:=hz5.inv.len
   have w2:=hz5.ql
   have w3:¬ (200:Int)<(w.net.q.length:Int):=by omega
   refine vc_pathD [.ret (.tup [dRm w,dI 0])] ?_
   simp [hi,hi',hq,hq',hq2,dU,hu]
   refine⟨k10,rfl,?_⟩
   refine vc_path [] ?_
   simp [w1,w3]
   refine⟨k+1,w,⟨by omega,⟨tl2,hz5.mono (by omega)⟩,h2⟩,by omega,[(2,5)],[],?_⟩
   simp [hw]
  ·have e:k=m.length:=by omega
   subst e
   simp
   refine⟨2,x,⟨tl,hy,⟨yl,hyl⟩,_,shD_run0 hrn⟩,by omega,[],[],?_⟩
   simp [shB_2,show IntKind.i64.wrap 2=2 from wrap64 (by omega)]
 | 2,hy =>
  obtain⟨hy,⟨yl,hyl⟩,ym,hym⟩:PhI n (4*(l.length+m.length)) told r l m l.length m.length∧(∃ yl,runD [] l=some yl)∧∃ ym,runD [] m=some ym:=hy
  simp [shB_2]
  have hT:l.length+m.length<=16:=by omega
  refine vc_loopK [0,1,3,4,5,13,14,16,27,229,230] (Nat×Nat×Nat) (fun y=>[(231,true,.d (dI y.1))]) (fun y=>[(2,.box true [.d (.sl 3 ((shD l y.2.1).map dSp)),.d (.sl 3 ((shD m y.2.2).map dSp))])]) (fun y=>y.1<=r.ps.length∧y.2.1<=l.length∧y.2.2<=m.length) (fun y=>r.ps.length-y.1) (0,0,0) ⟨Nat.zero_le _,Nat.zero_le _,Nat.zero_le _⟩ ⟨[],[],?_⟩ (fun y hy2=>?_)
  ·simp [shD_0]
  obtain⟨j,ka,kb⟩:=y
  obtain⟨hj,hka,hkb⟩:=hy2
  simp only at hj hka hkb
  simp
  refine⟨fun hlt=>?_,fun hge=>?_⟩
  ·have hw:IntKind.i64.wrap ((j:Int)+1)=(j:Int)+1:=wrap64 (by have:=hy.inv.len;omega)
   simp [hlt]
   obtain⟨⟨sk0,s01,s02,s03⟩,sk1,s11,s12,s13⟩:=phi_seen hy hT hyl hym (List.getElem_mem hlt)
   have k0:=C624.seen r.ps[j] 0
   have k1:=C624.seen r.ps[j] 1
   rw [s02,s03] at k0
   rw [s12,s13] at k1
   have t0:=shL_len l l.length
   have t1:=shL_len m m.length
   have u0:sk0<(shL l l.length).length:=by omega
   have u1:sk1<(shL m m.length).length:=by omega
   have v0:=C624.same (shL l l.length)[sk0] (shD l sk0) (shD l sk0) (shL_get l l.length sk0 u0)
   have v1:=C624.same (shL m m.length)[sk1] (shD m sk1) (shD m sk1) (shL_get m m.length sk1 u1)
   simp at v0 v1
   refine vc_loopK [0,1,3,4,5,13,14,16,27,29,229,230,231] (Nat×Nat×Nat) (fun y=>[(235,true,.d (dI y.1))]) (fun y=>[(2,.box true [.d (.sl 3 ((shD l y.2.1).map dSp)),.d (.sl 3 ((shD m y.2.2).map dSp))])]) (fun y=>y.1<=2∧y.2.1<=l.length∧y.2.2<=m.length) (fun y=>2-y.1) (0,ka,kb) ⟨Nat.zero_le _,hka,hkb⟩ ⟨[],[],?_⟩ (fun y hy2=>?_)
   ·simp
   obtain⟨i,ja,jb⟩:=y
   obtain⟨hi,hja,hjb⟩:=hy2
   simp only at hi hja hjb
   rcases (by omega:i=0∨i=1∨i=2) with rfl | rfl | rfl
   ·have b1:¬ (sk0:Int)<0:=by omega
    have b2:¬ l.length+1<=sk0:=by omega
    have b3:¬ (l.length:Int)+1<=(sk0:Int):=by omega
    have b4:sk0<l.length+1:=by omega
    have b5:(sk0:Int)<(l.length:Int)+1:=by omega
    simp
    refine vc_path [.ret (.tup [.sl 3 ((shD l sk0).map dSp),dI sk0,dI 0])] ?_
    simp
    refine⟨k0,?_⟩
    refine vc_path [.ret (dB true)] ?_
    simp [t0,b1,b2,b3,b4,b5]
    refine⟨shL_el l l.length sk0 u0,v0,1,sk0,jb,⟨by omega,s01,hjb⟩,by omega,[],[],?_⟩
    simp [show IntKind.i64.wrap 1=1 from wrap64 (by omega)]
   ·have b1:¬ (sk1:Int)<0:=by omega
    have b2:¬ m.length+1<=sk1:=by omega
    have b3:¬ (m.length:Int)+1<=(sk1:Int):=by omega
    have b4:sk1<m.length+1:=by omega
    have b5:(sk1:Int)<(m.length:Int)+1:=by omega
    simp
    refine vc_path [.ret (.tup [.sl 3 ((shD m sk1).map dSp),dI sk1,dI 0])] ?_
    simp
    refine⟨k1,?_⟩
    refine vc_path [.ret (dB true)] ?_
    simp [t1,b1,b2,b3,b4,b5]
    refine⟨shL_el m m.length sk1 u1,v1,2,ja,sk1,⟨by omega,hja,s11⟩,by omega,[],[],?_⟩
    simp [show IntKind.i64.wrap 2=2 from wrap64 (by omega)]
   ·simp
    refine⟨j+1,ja,jb,⟨by omega,hja,hjb⟩,by omega,[],[],?_⟩
    simp [hw]
  ·refine vc_loopK [0,1,3,4,5,13,14,16,27] (Nat×Rm) (fun y=>[(34,true,.d (dI y.1))]) (fun y=>[(0,.box true ((dRm y.2).cells.map .d))]) (fun y=>1<=y.1∧y.1<=n∧SyI n told y.2 y.1) (fun y=>n-y.1) (1,r) ⟨Nat.le_refl _,by omega,syn_new (hy.mono (by omega)) hT⟩ ⟨[],[],?_⟩ (fun y hy2=>?_)
   ·simp
   obtain⟨i,x⟩:=y
   obtain⟨hi1,hi2,hx⟩:=hy2
   simp only at hi1 hi2 hx
   have hx4:=hx.ql
   have hx5:=hx.tl
   simp
   refine⟨fun hlt2=>?_,fun hge2=>?_⟩
   ·have hw:IntKind.i64.wrap ((i:Int)+1)=(i:Int)+1:=wrap64 (by omega)
    obtain⟨z,e1,hz⟩:=syn_next (p2:=by omega) hx hi1 hlt2 n2
    have k9:=C624.mv x (synM i (by omega)) (inv_sm hx.inv (by omega) (by omega))
    rw [e1] at k9
    have z1:=hz.inv.len
    have z2:=hz.ql
    have z3:¬ (400:Int)<(z.net.q.length:Int):=by omega
    simp [hlt2]
    refine vc_path [.ret (.tup [dRm z,dI 0])] ?_
    simp
    refine⟨k9,?_⟩
    refine vc_path [] ?_
    simp [z1,z3,hw]
    refine⟨i+1,z,⟨by omega,by omega,hz⟩,by omega,[],[],?_⟩
    simp
   ·have e:i=n:=by omega
    subst e
    have okT:okPe told=true:=okPe_iff.2 ⟨hy.ok,by omega⟩
    have kn0:KnwI told l 0:=⟨hy.n0,hy.e0⟩
    have kn1:KnwI told m 1:=⟨hy.n1,hy.e1⟩
    have k3:=C624.drn i told x hx.inv (by omega) (by omega) (by omega) (by omega) hy.ok o q3
    rw [syn_drn hx] at k3
    have hXl:(List.replicate i told).length=i:=List.length_replicate
    have hX:∀ (j:Nat) (h:j<(List.replicate i told).length),(List.replicate i told)[j]=told:=fun j h=>List.getElem_replicate ..
    generalize List.replicate i told=X at *
    refine vc_path [.ret (.tup [dRm ⟨X,⟨[],[]⟩⟩,dB true])] ?_
    simp
    refine⟨k3,?_⟩
    refine vc_path [] ?_
    simp [hXl]
    have hX0:0<X.length:=by omega
    have hX1:X[0]=told:=hX 0 hX0
    have tE:okTm 1099511627775=true:=by decide
    refine vc_loopK [0,1,3,4,5,13,14,16,27,321] Nat (fun y=>[(322,true,.d (dI y))]) (fun y=>[]) (fun y=>y<=2) (fun y=>2-y) 0 (Nat.zero_le _) ⟨[],[],?_⟩ (fun y hy2=>?_)
    ·simp
    rcases (by omega:y=0∨y=1∨y=2) with rfl | rfl | rfl
    ·have kp:=C624.play l 1099511627775 yl (by omega) l1 tE hyl
     rw [plD_end l1 hyl] at kp
     have t0:=shL_len l l.length
     have u0:l.length<(shL l l.length).length:=by omega
     have hle:=shL_get l l.length l.length u0
     rw [shD_all hyl] at hle
     have v0:=C624.same (shL l l.length)[l.length] yl yl hle
     simp at v0
     have b5:(l.length:Int)<(l.length:Int)+1:=by omega
     simp
     refine vc_path [.ret (.tup [.sl 3 (yl.map dSp),dI 0])] ?_
     simp
     refine⟨kp,?_⟩
     refine vc_path [.ret (dB true)] ?_
     simp [t0,b5]
     refine⟨shL_el l l.length l.length u0,v0,?_⟩
     have ks:=C624.seen told 0
     rw [(seen_all_K okT (by omega) (by omega) hyl kn0).1,(seen_all_K okT (by omega) (by omega) hyl kn0).2] at ks
     have kw:=C624.same (.sl 3 (yl.map dSp)) yl yl (LeD.refl _)
     have kn:=C624.notes told told
     simp at kw kn
     refine vc_loopK [0,1,3,4,5,13,14,16,27,38,39,40,321,322,346,347] Nat (fun y=>[(348,true,.d (dI y))]) (fun y=>[]) (fun y=>y<=X.length) (fun y=>X.length-y) 0 (Nat.zero_le _) ⟨[],[],?_⟩ (fun j2 hj2=>?_)
     ·simp
     simp
     refine⟨fun hj1=>?_,fun hj1=>?_⟩
     ·have hXj:=hX j2 hj1
      have hw3:IntKind.i64.wrap ((j2:Int)+1)=(j2:Int)+1:=wrap64 (by omega)
      simp [hj1,hXj]
      refine vc_path [.ret (.tup [.sl 3 (yl.map dSp),dI l.length,dI 0])] ?_
      simp
      refine⟨ks,?_⟩
      refine vc_pathD [.ret (dB true),.ret (dB true)] ?_
      simp [hX0,hX1,dPe,hw3]
      refine⟨kw,kn,rfl,j2+1,by omega,by omega,[],[],?_⟩
      simp
     ·have d1:=shD_disp (shD_run hyl ka)
      have d2:dispE yl=0:=run_disp _ _ _ disp_nil hyl
      have kd:=C624.diff (shD l ka) yl 1099511627775 (by omega) d1 d2 tE
      cases hb:badM (shD l ka) yl with
      | true =>
       rw [hb,if_pos rfl,if_pos rfl] at kd
       refine vc_path [.ret (.tup [.sl 5 [],dI 510])] ?_
       simp
       refine⟨kd,1,by omega,by omega,[],[],?_⟩
       simp [show IntKind.i64.wrap 1=1 from wrap64 (by omega)]
      | false =>
       rw [hb,if_neg (by simp),if_neg (by simp)] at kd
       have hrun:=diff_run q1 hyl hb (t:=1099511627775) (by omega) tE
       have hlost:=diff_lost (k:=ka) hyl (t:=1099511627775) (by omega)
       have hlen:=diff_len (k:=ka) q1 hyl (t:=1099511627775) (by omega)
       generalize mrg 1099511627775 _ (shD l ka) yl=df at *
       have kap:=C624.app (shD l ka) df yl d1 (by omega) hrun
       have kg:=C624.gone l 1099511627775 yl (by omega) l1 tE hyl
       rw [unt_end l1] at kg
       generalize (l.filter isW).length=G at *
       refine vc_path [.ret (.tup [.sl 5 (df.map dCh),dI 0])] ?_
       simp
       refine⟨kd,?_⟩
       refine vc_path [.ret (.tup [.sl 3 (yl.map dSp),dI 0])] ?_
       simp
       refine⟨kap,?_⟩
       refine vc_path [.ret (.tup [dI G,dI 0])] ?_
       simp
       refine⟨kg,?_⟩
       refine vc_path [.ret (dB true)] ?_
       simp
       refine⟨kw,?_⟩
       refine vc_loopK [0,1,3,4,5,13,14,16,27,38,39,40,47,51,321,322,424,425] Nat (fun y=>[(426,true,.d (dI y)),(53,true,.d (dI (wN df y)))]) (fun y=>[]) (fun y=>y<=df.length) (fun y=>df.length-y) 0 (Nat.zero_le _) ⟨[],[],?_⟩ (fun j3 hj3=>?_)
       ·simp [wN]
       simp
       refine⟨fun hl3=>?_,fun hl3=>?_⟩
       ·have hw4:IntKind.i64.wrap ((j3:Int)+1)=(j3:Int)+1:=wrap64 (by omega)
        have hwn:=wN_le df j3
        have hw5:IntKind.i64.wrap (wN df j3+1)=wN df j3+1:=wrap64 (by omega)
        have hws:=wN_succ hl3
        by_cases hk1:df[j3].kind=1
        ·have hiw:isW df[j3]=false:=by unfold isW;simp [hk1]
         rw [hiw,if_neg (by simp),Int.add_zero] at hws
         simp [hl3,hk1]
         refine⟨j3+1,by omega,by omega,[],[],?_⟩
         simp [hw4,hws]
        ·have hiw:isW df[j3]=true:=by unfold isW;simp [hk1]
         rw [hiw,if_pos rfl] at hws
         simp [hl3,hk1]
         refine⟨j3+1,by omega,by omega,[],[],?_⟩
         simp [hw4,hw5,hws]
       ·have e:j3=df.length:=by omega
        subst e
        have hwN:wN df df.length=((df.filter isW).length:Nat):=by unfold wN;rw [List.take_length]
        refine⟨fun h=>absurd h (by omega),fun _=>⟨1,by omega,by omega,[],[],?_⟩⟩
        simp [show IntKind.i64.wrap 1=1 from wrap64 (by omega)]
    ·have kp:=C624.play m 1099511627775 ym (by omega) m1 tE hym
     rw [plD_end m1 hym] at kp
     have t0:=shL_len m m.length
     have u0:m.length<(shL m m.length).length:=by omega
     have hle:=shL_get m m.length m.length u0
     rw [shD_all hym] at hle
     have v0:=C624.same (shL m m.length)[m.length] ym ym hle
     simp at v0
     have b5:(m.length:Int)<(m.length:Int)+1:=by omega
     simp
     refine vc_path [.ret (.tup [.sl 3 (ym.map dSp),dI 0])] ?_
     simp
     refine⟨kp,?_⟩
     refine vc_path [.ret (dB true)] ?_
     simp [t0,b5]
     refine⟨shL_el m m.length m.length u0,v0,?_⟩
     have ks:=C624.seen told 1
     rw [(seen_all_K okT (by omega) (by omega) hym kn1).1,(seen_all_K okT (by omega) (by omega) hym kn1).2] at ks
     have kw:=C624.same (.sl 3 (ym.map dSp)) ym ym (LeD.refl _)
     have kn:=C624.notes told told
     simp at kw kn
     refine vc_loopK [0,1,3,4,5,13,14,16,27,38,39,40,321,322,346,347] Nat (fun y=>[(348,true,.d (dI y))]) (fun y=>[]) (fun y=>y<=X.length) (fun y=>X.length-y) 0 (Nat.zero_le _) ⟨[],[],?_⟩ (fun j2 hj2=>?_)
     ·simp
     simp
     refine⟨fun hj1=>?_,fun hj1=>?_⟩
     ·have hXj:=hX j2 hj1
      have hw3:IntKind.i64.wrap ((j2:Int)+1)=(j2:Int)+1:=wrap64 (by omega)
      simp [hj1,hXj]
      refine vc_path [.ret (.tup [.sl 3 (ym.map dSp),dI m.length,dI 0])] ?_
      simp
      refine⟨ks,?_⟩
      refine vc_pathD [.ret (dB true),.ret (dB true)] ?_
      simp [hX0,hX1,dPe,hw3]
      refine⟨kw,kn,rfl,j2+1,by omega,by omega,[],[],?_⟩
      simp
     ·have d1:=shD_disp (shD_run hym kb)
      have d2:dispE ym=0:=run_disp _ _ _ disp_nil hym
      have kd:=C624.diff (shD m kb) ym 1099511627775 (by omega) d1 d2 tE
      cases hb:badM (shD m kb) ym with
      | true =>
       rw [hb,if_pos rfl,if_pos rfl] at kd
       refine vc_path [.ret (.tup [.sl 5 [],dI 510])] ?_
       simp
       refine⟨kd,2,by omega,by omega,[],[],?_⟩
       simp [show IntKind.i64.wrap 2=2 from wrap64 (by omega)]
      | false =>
       rw [hb,if_neg (by simp),if_neg (by simp)] at kd
       have hrun:=diff_run q2 hym hb (t:=1099511627775) (by omega) tE
       have hlost:=diff_lost (k:=kb) hym (t:=1099511627775) (by omega)
       have hlen:=diff_len (k:=kb) q2 hym (t:=1099511627775) (by omega)
       generalize mrg 1099511627775 _ (shD m kb) ym=df at *
       have kap:=C624.app (shD m kb) df ym d1 (by omega) hrun
       have kg:=C624.gone m 1099511627775 ym (by omega) m1 tE hym
       rw [unt_end m1] at kg
       generalize (m.filter isW).length=G at *
       refine vc_path [.ret (.tup [.sl 5 (df.map dCh),dI 0])] ?_
       simp
       refine⟨kd,?_⟩
       refine vc_path [.ret (.tup [.sl 3 (ym.map dSp),dI 0])] ?_
       simp
       refine⟨kap,?_⟩
       refine vc_path [.ret (.tup [dI G,dI 0])] ?_
       simp
       refine⟨kg,?_⟩
       refine vc_path [.ret (dB true)] ?_
       simp
       refine⟨kw,?_⟩
       refine vc_loopK [0,1,3,4,5,13,14,16,27,38,39,40,47,51,321,322,424,425] Nat (fun y=>[(426,true,.d (dI y)),(53,true,.d (dI (wN df y)))]) (fun y=>[]) (fun y=>y<=df.length) (fun y=>df.length-y) 0 (Nat.zero_le _) ⟨[],[],?_⟩ (fun j3 hj3=>?_)
       ·simp [wN]
       simp
       refine⟨fun hl3=>?_,fun hl3=>?_⟩
       ·have hw4:IntKind.i64.wrap ((j3:Int)+1)=(j3:Int)+1:=wrap64 (by omega)
        have hwn:=wN_le df j3
        have hw5:IntKind.i64.wrap (wN df j3+1)=wN df j3+1:=wrap64 (by omega)
        have hws:=wN_succ hl3
        by_cases hk1:df[j3].kind=1
        ·have hiw:isW df[j3]=false:=by unfold isW;simp [hk1]
         rw [hiw,if_neg (by simp),Int.add_zero] at hws
         simp [hl3,hk1]
         refine⟨j3+1,by omega,by omega,[],[],?_⟩
         simp [hw4,hws]
        ·have hiw:isW df[j3]=true:=by unfold isW;simp [hk1]
         rw [hiw,if_pos rfl] at hws
         simp [hl3,hk1]
         refine⟨j3+1,by omega,by omega,[],[],?_⟩
         simp [hw4,hw5,hws]
       ·have e:j3=df.length:=by omega
        subst e
        have hwN:wN df df.length=((df.filter isW).length:Nat):=by unfold wN;rw [List.take_length]
        refine⟨fun h=>absurd h (by omega),fun _=>⟨2,by omega,by omega,[],[],?_⟩⟩
        simp [show IntKind.i64.wrap 2=2 from wrap64 (by omega)]
    ·have kwt:=C624.wat l m v t ht told yl ym q1 q2 l1 m1 hyl hym okT kn0 kn1
     have hw6:IntKind.i64.wrap ((i:Int)-1)=((i-1:Nat):Int):=by rw [wrap64 (by omega)];omega
     have hi9:i-1<X.length:=by omega
     have hX9:X[i-1]=told:=hX _ hi9
     simp
     refine vc_path [.ret (dB true)] ?_
     simp [hw6,hi9,hX9]
     exact kwt
 | i+3,hy=>exact absurd hy (fun h=>h)
end

section
noncomputable def fsOf (t:TypeId):Array Field:=match Tryz.prog.underlying t with
 | some (.struct fs)=>fs
 | _=>#[]
noncomputable def fld (t:TypeId) (i:Nat):Field:=(fsOf t).getD i ⟨ "",0,0,false,"","",0⟩
theorem utI:Tryz.prog.underlying 3=some (.int .i64):=by kernel_rfl
theorem utB8:Tryz.prog.underlying 5=some (.int .u8):=by kernel_rfl
theorem utStr:Tryz.prog.underlying 9=some .string:=by kernel_rfl
theorem utBs8:Tryz.prog.underlying 23=some (.slice 5):=by kernel_rfl
theorem utSp:Tryz.prog.underlying 41=some (.struct #[fld 41 0,fld 41 1,fld 41 2]):=by kernel_rfl
theorem ztSp:Tryz.prog.cellsOf 41=3:=by kernel_rfl
theorem utCh:Tryz.prog.underlying 43=some (.struct #[fld 43 0,fld 43 1,fld 43 2]):=by kernel_rfl
theorem ztCh:Tryz.prog.cellsOf 43=5:=by kernel_rfl
theorem utVi:Tryz.prog.underlying 109=some (.struct #[fld 109 0,fld 109 1,fld 109 2,fld 109 3]):=by kernel_rfl
theorem ztVi:Tryz.prog.cellsOf 109=4:=by kernel_rfl
theorem utChs:Tryz.prog.underlying 22=some (.slice 43):=by kernel_rfl
theorem utVis:Tryz.prog.underlying 24=some (.slice 109):=by kernel_rfl
theorem ztI8:Tryz.prog.cellsOf 3=1:=by kernel_rfl
theorem ztB8:Tryz.prog.cellsOf 5=1:=by kernel_rfl
theorem ztStr:Tryz.prog.cellsOf 9=1:=by kernel_rfl
theorem one_Ch(n:Ch):∀ c∈(dCh n).cells,c.one=true:=fun c hc=>by
 rw [dCh_cells] at hc;simp at hc
 rcases hc with rfl | rfl | rfl | rfl | rfl <;> rfl
theorem one_Vi(n:Vi):∀ c∈(dVi n).cells,c.one=true:=fun c hc=>by
 rw [dVi_cells] at hc;simp at hc
 rcases hc with rfl | rfl | rfl | rfl <;> rfl
section
variable {H:Type}{enc:TypeId×Value->H}{w:World}
theorem shows_i64R{P:Program}{t:TypeId}(ht:P.underlying t=some (.int .i64)):Shows enc P w t (fun y:{n:Int // -9223372036854775808<=n∧n<9223372036854775808}=>dI y.1):=by
 intro fuel cs x h
 obtain⟨n,rfl,_,hw⟩:=DataW.trod_int ht h
 have hs:Sc (.int .i64 n):=by simpa [Sc,Lit.wf] using hw
 have hs':-9223372036854775808<=n∧n<9223372036854775808:=by
  simp [Sc,IntKind.min,IntKind.max,IntKind.signed,IntKind.bits] at hs
  omega
 exact⟨⟨n,hs'⟩,repL_one (.lit hs)⟩
theorem shBs8:Shows enc Tryz.prog w 23 dBy:=shows_slice utBs8 ztB8 (fun _=>rfl) (fun y c hc=>by simp [AL.dU,D.cells] at hc;subst hc;rfl) (shows_u8 utB8)
theorem shStr:Shows enc Tryz.prog w 9 dZ:=shows_str utStr
theorem shSp:Shows enc Tryz.prog w 41 dSp:=shows_map (shows_structN utSp (by rw [ztSp];kernel_rfl)
 (showsR_cons (t:=3) (off':=1) (by kernel_rfl) (by kernel_rfl) (by rw [ztI8]) (shows_i64R utI) (showsR_cons (t:=3) (off':=2) (by kernel_rfl) (by kernel_rfl) (by rw [ztI8]) (shows_i64R utI) (showsR_cons (t:=9) (off':=3) (by kernel_rfl) (by kernel_rfl) (by rw [ztStr]) shStr showsR_nil))))
 (fun y=>⟨⟨y.1.1,y.2.1.1,y.2.2.1,y.1.2,y.2.1.2⟩,rfl⟩)
theorem shCh:Shows enc Tryz.prog w 43 dCh:=shows_map (shows_structN utCh (by rw [ztCh];kernel_rfl)
 (showsR_cons (t:=3) (off':=1) (by kernel_rfl) (by kernel_rfl) (by rw [ztI8]) (shows_i64R utI) (showsR_cons (t:=3) (off':=2) (by kernel_rfl) (by kernel_rfl) (by rw [ztI8]) (shows_i64R utI) (showsR_cons (t:=41) (off':=5) (by kernel_rfl) (by kernel_rfl) (by rw [ztSp]) shSp showsR_nil))))
 (fun y=>⟨⟨y.1.1,y.2.1.1,y.2.2.1,y.1.2,y.2.1.2⟩,rfl⟩)
theorem shVi:Shows enc Tryz.prog w 109 dVi:=shows_map (shows_structN utVi (by rw [ztVi];kernel_rfl)
 (showsR_cons (t:=3) (off':=1) (by kernel_rfl) (by kernel_rfl) (by rw [ztI8]) (shows_i64R utI) (showsR_cons (t:=3) (off':=2) (by kernel_rfl) (by kernel_rfl) (by rw [ztI8]) (shows_i64R utI) (showsR_cons (t:=3) (off':=3) (by kernel_rfl) (by kernel_rfl) (by rw [ztI8]) (shows_i64R utI) (showsR_cons (t:=3) (off':=4) (by kernel_rfl) (by kernel_rfl) (by rw [ztI8]) (shows_i64R utI) showsR_nil)))))
 (fun y=>⟨⟨y.1.1,y.2.1.1,y.2.2.1.1,y.2.2.2.1.1,y.1.2,y.2.1.2,y.2.2.1.2,y.2.2.2.1.2⟩,rfl⟩)
theorem shVis:Shows enc Tryz.prog w 24 (fun l:List Vi=>.sl 4 (l.map dVi)):=shows_slice utVis ztVi (fun _=>rfl) one_Vi shVi
theorem shChs:Shows enc Tryz.prog w 22 (fun l:List Ch=>.sl 5 (l.map dCh)):=shows_slice utChs ztCh (fun _=>rfl) one_Ch shCh
end
theorem sChs:Sees Tryz.prog 22 (fun x=>∃ l:List Ch,x=.sl 5 (l.map dCh)):=sees_slice utChs shChs
theorem sVis:Sees Tryz.prog 24 (fun x=>∃ l:List Vi,x=.sl 4 (l.map dVi)):=sees_slice utVis shVis
theorem sBs8:Sees Tryz.prog 23 (fun x=>∃ l:List UInt8,x=dBy l):=sees_slice utBs8 shBs8
end

section
open Go Go.Proofs.YtmmlicjkdeankaaGreatDoor.AL Go.ChangeShapes Go.WideShapes Go.ChangeAt Go.RowKit Go.Lib Go.Shelf
theorem own:ownKnob Tryz.prog.godebug=none:=by kernel_rfl
theorem laidOut:laidOutB Tryz.prog=true:=by kernel_rfl
theorem ip_of{w:World}{cs:List D}{g:Nat}(h:∀ (k:Nat) (c:D),cs[k]?=some c->∃ v,w.cell? ⟨g,k,none⟩=some v∧c=.lit v∧Sc v):Rep (allI w) w (.ip (.agg cs)) (.pointer (some ⟨g,0,none⟩)):=by
 have ha:∀ k,(⟨g,0,none⟩:Addr).add k=⟨g,k,none⟩:=fun k=>by
  cases k <;> simp [Addr.add]
 refine .ip ⟨g,0,none⟩ (fun k=>(w.cell? ⟨g,k,none⟩).getD (.bool false)) ?_ ?_ ?_
 ·intro c hc
  obtain⟨k,hk⟩:=List.mem_iff_getElem?.1 hc
  obtain⟨v,_,rfl,_⟩:=h k c hk
  rfl
 ·intro k c hk
  obtain⟨v,hv,_,_⟩:=h k c hk
  rw [ha]
  exact⟨by simp [allI,hv],by simp [hv]⟩
 ·intro k c hk
  obtain⟨v,hv,rfl,hs⟩:=h k c hk
  simp only [hv,Option.getD_some]
  exact .lit hs
theorem sc_first(c:Nat):Sc (.int .u8 (firstT c)):=by
 have h:=firstT_cases c
 simp only [Sc,IntKind.min,IntKind.max]
 rcases h with h | h | h | h | h | h | h | h | h <;> rw [h] <;> decide
theorem sc_lo(i:Nat):Sc (.int .u8 (accLo i)):=by
 have h:accLo i<=255:=by
  unfold accLo
  repeat' split
  all_goals omega
 exact⟨by simp [IntKind.min,IntKind.signed],by simp [IntKind.max,IntKind.signed,IntKind.bits];omega⟩
theorem sc_hi(i:Nat):Sc (.int .u8 (accHi i)):=by
 have h:accHi i<=255:=by
  unfold accHi
  repeat' split
  all_goals omega
 exact⟨by simp [IntKind.min,IntKind.signed],by simp [IntKind.max,IntKind.signed,IntKind.bits];omega⟩
theorem pairs_get(lo hi:Nat->D):∀ (n b k:Nat) (c:D),((List.range' b n).flatMap fun i=>[lo i,hi i])[k]?=some c ->
  ∃ i,b<=i∧i<b+n∧((k=2*(i-b)∧c=lo i)∨(k=2*(i-b)+1∧c=hi i))
 | 0,b,k,c,h=>by simp at h
 | n+1,b,0,c,h=>by
  simp [List.range'_succ] at h
  exact⟨b,by omega,by omega,.inl ⟨by omega,h.symm⟩⟩
 | n+1,b,1,c,h=>by
  simp [List.range'_succ] at h
  exact⟨b,by omega,by omega,.inr ⟨by omega,h.symm⟩⟩
 | n+1,b,k+2,c,h=>by
  simp only [List.range'_succ,List.flatMap_cons,List.cons_append,List.nil_append,List.getElem?_cons_succ] at h
  obtain⟨i,h1,h2,h3⟩:=pairs_get lo hi n (b+1) k c h
  refine⟨i,by omega,by omega,?_⟩
  rcases h3 with ⟨h3,h4⟩ | ⟨h3,h4⟩
  ·exact .inl ⟨by omega,h4⟩
  ·exact .inr ⟨by omega,h4⟩
abbrev laidL:List (String×DataW Unit):=[("unicode/utf8.acceptRanges",Rows.laid_unicode_utf8_acceptRanges),("unicode/utf8.first",Rows.laid_unicode_utf8_first)]
set_option maxRecDepth 1000000 in
theorem tabs_rd{W:World}(h:laidMet Tryz.prog laidL W):Lib.Utf8Tabs 1 2 W :=
 utf8Tabs_of_reads (ρ:=Tryz.lays197_ren) {Tryz.lays197 with} ⟨by kernel_rfl,by kernel_rfl,by kernel_rfl,by kernel_rfl,by kernel_rfl,by kernel_rfl,by kernel_rfl⟩ (Lib.laidMet.reads h (.tail _ (.head _))) (Lib.laidMet.reads h (.head _))
theorem glOk_of{W:World}(h0:laidMet Tryz.prog laidL W):GlOk (allI W) W:=by
 have h:=tabs_rd h0
 intro p hp
 simp only [glbTab,List.mem_cons,List.not_mem_nil,or_false] at hp
 rcases hp with rfl | rfl
 ·refine ip_of fun k c hk=>?_
  rw [List.getElem?_map] at hk
  obtain⟨j,hj,rfl⟩:=Option.map_eq_some_iff.1 hk
  obtain⟨hl,he⟩:=List.getElem?_eq_some_iff.1 hj
  simp at hl he
  subst he
  exact⟨_,h.1 _ hl,rfl,sc_first _⟩
 ·refine ip_of fun k c hk=>?_
  rw [List.range_eq_range'] at hk
  obtain⟨i,_,h2,h3⟩:=pairs_get _ _ 16 0 k c hk
  have hi:=h.2 i (by omega)
  rcases h3 with ⟨rfl,rfl⟩ | ⟨rfl,rfl⟩
  ·exact⟨_,hi.1,rfl,sc_lo _⟩
  ·exact⟨_,hi.2,rfl,sc_hi _⟩
noncomputable def laidWorld (os:Os):World :=
 let w0:=World.holding Tryz.prog os ⟨#[],#[],[]⟩
 let put (h:Array Obj) (g:Nat) (cs:Array Value):Array Obj:=h.modify g fun
  | .cells _ t frozen=>.cells cs t frozen
  | o=>o
 let h1:=put w0.heap 1 (Lib.firstTab.map fun z=>Value.int .u8 z).toArray
 let h2:=put h1 2 ((List.range 16).flatMap fun i=>[Value.int .u8 (Lib.accLo i),Value.int .u8 (Lib.accHi i)]).toArray
 {w0 with heap:=h2}
theorem sU8i:Sees Tryz.prog 5 (fun x=>∃ n:Int,(IntKind.u8.min<=n∧n<=IntKind.u8.max)∧x=.lit (.int .u8 n)):=sees_int utB8
theorem sI64:Sees Tryz.prog 3 (fun x=>∃ n:Int,(IntKind.i64.min<=n∧n<=IntKind.i64.max)∧x=.lit (.int .i64 n)):=sees_int utI
theorem u8r{n:Int}(h:IntKind.u8.min<=n∧n<=IntKind.u8.max):0<=n∧n<=255:=by
 have h1:IntKind.u8.min=0:=by decide
 have h2:IntKind.u8.max=255:=by decide
 omega
theorem i64r{n:Int}(h:IntKind.i64.min<=n∧n<=IntKind.i64.max):-9223372036854775808<=n∧n<9223372036854775808:=by
 have h1:IntKind.i64.min=-9223372036854775808:=by decide
 have h2:IntKind.i64.max=9223372036854775807:=by decide
 omega
end

end Go.Proofs.YtmmlicjkdeankaaGreatDoor
