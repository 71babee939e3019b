/- Part of the proof: S305, S306, S304, S310, S311, S312, S313, S314, S320, S324, S323, S350, S351, S352, S353, S354, S360, S361, S362, S363, S364, S365, S366, S367, S368. -/
import Derived.Test.YtfegfnekphobmaaGreatDoorH
set_option linter.unnecessarySimpa false
set_option linter.unusedVariables false
set_option linter.unusedSimpArgs false
namespace Go.Proofs.YtfegfnekphobmaaGreatDoor
open Go Go.Proofs.YtfegfnekphobmaaGreatDoor.AL
section
attribute [local simp] dZ_agg dZ_nt dZ_noTup dZ_cells dZ_one bz_toList bz_size strV dV_cells dV_isAgg dV_noTup dV_nt empty_toList
set_option maxRecDepth 8000
set_option maxHeartbeats 4000000
theorem rformed_step(k n:Int) (s:List UInt8) (l:List Vl){C:FuncId→List D→Out→Prop}(hC:∀ f ds out,C f ds out→PCall Tryz.prog f ds out) (hS:∀ v∈l,C 133 [dV v] (.ret (dB (okV v)))) :
  PCall Tryz.prog 133 [dV (.mk k n s l)] (.ret (dB (okV (.mk k n s l)))):=by
 refine pcall_of_vc hC c133 (by simp [a133]) fun hr=>?_
 have hreal:=(hr _ (List.mem_singleton.2 rfl))
 rw [dV_eq] at hreal
 have hlen:=(Real.sl (hreal.agg (.sl 4 (l.map dV)) (by simp)).2).1
 simp only [List.length_map] at hlen
 have hl0:∀ m:Nat,((m:Int)+1 == 0)=false:=fun m=>by simp;omega
 have hl1:∀ m:Nat,((m:Int)+1=0)=False:=fun m=>by simp;omega
 simp [a133,dV_eq,dZ_eq]
 have hk:k=1∨k=2∨k=3∨(k≠1∧k≠2∧k≠3):=by omega
 rcases hk with rfl | rfl | rfl | ⟨h1,h2,h3⟩
 ·rcases s with _ | ⟨c,s⟩ <;> rcases l with _ | ⟨v,l⟩
  all_goals
   simp
   refine vc_path [] ?_
   simp [hl0,hl1,okV]
 ·rcases Decidable.em (n=0) with rfl | hn <;> rcases l with _ | ⟨v,l⟩
  all_goals
   simp
   refine vc_path [] ?_
   first | (have hb:(n == 0)=false:=(by simpa using hn);simp [hl0,hl1,okV,hn,hb];done) | simp [hl0,hl1,okV]
 ·have hfin:okV (.mk 3 n s l)=((n == 0&&s.isEmpty)&&okVs l):=by simp [okV]
  simp
  refine vc_loopK [1] Nat (fun i=>[(3,true,.d (dI i))]) (fun i=>[]) (fun i=>i≤l.length∧okVs (l.take i)=true) (fun i=>l.length-i) 0 (by simp [okVs]) ⟨[],[],?_⟩ (fun i hi=>?_)
  ·simp
  obtain⟨h1,h2⟩:=hi
  simp
  refine⟨fun hlt=>?_,fun hge=>?_⟩
  ·have hc:=hS l[i] (List.getElem_mem hlt)
   have ho:=okVs_take l i hlt
   rw [h2,Bool.true_and] at ho
   rw [dV_agg] at hc
   have hw1:IntKind.i64.wrap ((i:Int)+1)=((i+1:Nat):Int):=by rw [wrap64 (by omega)];omega
   cases hv:okV l[i] with
   | false =>
    rw [hv] at hc
    refine vc_path [.ret (dB false)] ?_
    rw [hfin,okVs_bad hlt hv]
    simp [hlt,dV_agg]
    simpa using hc
   | true =>
    rw [hv] at hc
    refine vc_path [.ret (dB true)] ?_
    simp [hlt,dV_agg,hw1]
    refine⟨by simpa using hc,i+1,⟨by omega,by rw [ho,hv]⟩,by omega,[],[],?_⟩
    simp
  ·have hi:i=l.length:=by omega
   subst hi
   rw [List.take_length] at h2
   rw [hfin,h2]
   rcases Decidable.em (n=0) with rfl | hn <;> rcases s with _ | ⟨c,s⟩
   all_goals
    refine vc_path [] ?_
    first | (have hb:(n == 0)=false:=(by simpa using hn);simp [hn,hb];done) | simp
 ·have g1:(k == 1)=false:=by simpa using h1
  have g2:(k == 2)=false:=by simpa using h2
  have g3:(k == 3)=false:=by simpa using h3
  simp [h1,h2,h3,okV,g1,g2,g3]
inductive C305a (l:List Vl):FuncId→List D→Out→Prop
 | sub (v:Vl) (h:v∈l):C305a l 133 [dV v] (.ret (dB (okV v)))
theorem rformed:∀ v:Vl,PCall Tryz.prog 133 [dV v] (.ret (dB (okV v)))
 | .mk k n s l=>by
  refine rformed_step k n s l (C:=C305a l) (fun f ds out hc=>?_) (fun v hv=>.sub v hv)
  cases hc with
  | sub v hv=>exact rformed v
termination_by v=>SizeOf.sizeOf v
decreasing_by
 have:=List.sizeOf_lt_of_mem hv
 simp;omega
inductive C305b (l:List Vl):FuncId→List D→Out→Prop
 | sub (v:Vl) (h:v∈l):C305b l 134 [dV v] (.ret (dI (dpV v)))
theorem rdepth:∀ v:Vl,dpV v<4611686018427387904→PCall Tryz.prog 134 [dV v] (.ret (dI (dpV v)))
 | .mk k n s l,hd=>by
  refine pcall_of_vc (C:=C305b (if k=3 then l else [])) (fun f ds out hc=>?_) c134 (by simp [a134]) fun hr=>?_
  ·cases hc with
   | sub v hv =>
    have hk:k=3:=by
     by_cases hk:k=3
     ·exact hk
     ·rw [if_neg hk] at hv;cases hv
    have hv2:v∈l:=by rw [if_pos hk] at hv;exact hv
    subst hk
    rw [dpV3] at hd
    exact rdepth v (by have:=dpVs_le l v hv2;omega)
  have hreal:=(hr _ (List.mem_singleton.2 rfl))
  rw [dV_eq] at hreal
  have hlen:=(Real.sl (hreal.agg (.sl 4 (l.map dV)) (by simp)).2).1
  simp only [List.length_map] at hlen
  by_cases hk:k=3
  ·subst hk
   rw [dpV3] at hd ⊢
   simp [a134,dV_eq]
   refine vc_loopK [1] Nat (fun i=>[(4,true,.d (dI i)),(3,true,.d (dI (dpVs (l.take i))))]) (fun i=>[]) (fun i=>i≤l.length) (fun i=>l.length-i) 0 (by simp) ⟨[],[],?_⟩ (fun i hi=>?_)
   ·simp [dpVs]
   simp
   refine⟨fun hlt=>?_,fun hge=>?_⟩
   ·have hc:=C305b.sub (l:=l) l[i] (List.getElem_mem hlt)
    rw [dV_agg] at hc
    have hp:=dpVs_take l i hlt
    generalize hm:dpV l[i]=m at hc hp
    have hw1:IntKind.i64.wrap ((i:Int)+1)=((i+1:Nat):Int):=by rw [wrap64 (by omega)];omega
    have hmx:(if dpVs (l.take i)<m then (m:Int) else (dpVs (l.take i):Int))=((dpVs (l.take (i+1)):Nat):Int):=by
     rw [hp];split <;> omega
    refine vc_path [.ret (dI m)] ?_
    simp [hlt,dV_agg,hw1,hmx]
    refine⟨by simpa using hc,i+1,by omega,by omega,[],[],?_⟩
    simp
   ·have hi:i=l.length:=by omega
    subst hi
    have hw:IntKind.i64.wrap ((dpVs l:Int)+1)=((dpVs l+1:Nat):Int):=by rw [wrap64 (by omega)];omega
    simp [hw]
  ·have e:dpV (.mk k n s l)=0:=by simp [dpV,hk]
   rw [e]
   simp [a134,dV_eq,hk]
termination_by v=>SizeOf.sizeOf v
decreasing_by
 have:=List.sizeOf_lt_of_mem hv2
 simp;omega
inductive C305c:FuncId→List D→Out→Prop
 | formed (v:Vl):C305c 133 [dV v] (.ret (dB (okV v)))
 | depth (v:Vl) (h:dpV v<4611686018427387904):C305c 134 [dV v] (.ret (dI (dpV v)))
theorem h305c:∀ f ds out,C305c f ds out→PCall Tryz.prog f ds out:=by
 intro f ds out h
 cases h with
 | formed v=>exact rformed v
 | depth v h=>exact rdepth v h
theorem rccheck(v:Vl) (h:dpV v<4611686018427387904):PCall Tryz.prog 114 [dV v] (.ret (dI (eV v))):=by
 refine pcall_of_vc h305c c114 (by simp [a114]) fun hr=>?_
 have hc:=C305c.formed v
 have hd:=C305c.depth v h
 rw [dV_agg] at hc hd
 simp [a114,dV_cells]
 cases hv:okV v with
 | false =>
  rw [hv] at hc
  refine vc_path [.ret (dB false)] ?_
  simp [eV,hv]
  simpa using hc
 | true =>
  rw [hv] at hc
  generalize hm:dpV v=m at hd
  refine vc_path [.ret (dB true)] ?_
  simp
  refine⟨by simpa using hc,vc_path [.ret (dI m)] ?_⟩
  simp [eV,hv,hm]
  refine⟨by simpa using hd,fun h1=>?_,fun h1=>?_⟩
  ·rw [if_neg (by omega)];exact LeD.refl _
  ·rw [if_pos (by omega)];exact LeD.refl _
theorem runsigned(n:Int):PCall Tryz.prog 136 [dI n] (.ret (.lit (.int .u64 (zz n)))):=by
 refine pcall_of_vc noC c136 (by simp [a136]) fun hr=>?_
 have hn:=(hr _ (List.mem_singleton.2 rfl)).int
 simp [IntKind.min,IntKind.max,IntKind.bits,IntKind.signed] at hn
 by_cases h:0≤n
 ·simp [a136,h]
  refine leD_of_eq ?_
  congr 2
  simp [IntKind.wrap,IntKind.bits,IntKind.signed,zz,h]
  omega
 ·simp [a136,h]
  refine leD_of_eq ?_
  congr 2
  simp [IntKind.wrap,IntKind.bits,IntKind.signed,zz,h]
  omega
inductive C306a (u:Nat):FuncId→List D→Out→Prop
 | num (v:Nat) (h:v<u) (hu:v<18446744073709551616):C306a u 135 [.lit (.int .u64 v)] (.ret (dBy (numL v)))
theorem numL_len(u:Nat) (hu:u<18446744073709551616):(numL u).length≤10:=numL_length 10 u (by omega) (by omega)
theorem rnumeral:∀ (u:Nat),u<18446744073709551616→PCall Tryz.prog 135 [.lit (.int .u64 u)] (.ret (dBy (numL u))):=by
 intro u
 induction u using Nat.strongRecOn with
 | ind u ih =>
  intro hu
  refine pcall_of_vc (C:=C306a u) (fun f ds out hc=>?_) c135 (by simp [a135]) fun hr=>?_
  ·cases hc with
   | num v h hu=>exact ih v h hu
  by_cases h:u<128
  ·rw [numL_lt h]
   have h':(u:Int)<128:=by omega
   simp [a135,h',conv_u8]
   exact leD_of_eq (by simp [dBy,dU])
  ·rw [numL_ge h]
   have h':¬ (u:Int)<128:=by omega
   have hc:=C306a.num (u:=u) (u / 128) (by omega) (by omega)
   have hl:=numL_len (u / 128) (by omega)
   have e1:(u:Int).tmod 128=((u % 128:Nat):Int):=by rw [Int.tmod_eq_emod_of_nonneg (by omega)];omega
   have e2:(u:Int).tdiv 128=((u / 128:Nat):Int):=by rw [Int.tdiv_eq_ediv_of_nonneg (by omega)];omega
   have e3:IntKind.u64.wrap ((u / 128:Nat):Int)=((u / 128:Nat):Int):=wrap_u64 (by omega) (by omega)
   have e4:IntKind.u64.wrap (((u % 128:Nat):Int)+128)=((u % 128+128:Nat):Int):=by rw [wrap_u64 (by omega) (by omega)];omega
   have e5:=conv_u8 (u % 128+128)
   simp [a135,h']
   refine vc_path [.ret (dBy (numL (u / 128)))] ?_
   have e6:IntKind.u64.wrap ((u:Int) / 128)=((u / 128:Nat):Int):=by rw [show (u:Int) / 128=((u / 128:Nat):Int) by omega,e3]
   unfold dBy at hc ⊢
   simp [e6]
   refine⟨by simpa using hc,⟨by omega,by omega⟩,leD_of_eq ?_⟩
   rw [e1,e4,e5]
   simp [dU]
inductive C306b (l:List Vl):FuncId→List D→Out→Prop
 | uns (n:Int):C306b l 136 [dI n] (.ret (.lit (.int .u64 (zz n))))
 | num (u:Nat) (hu:u<18446744073709551616):C306b l 135 [.lit (.int .u64 u)] (.ret (dBy (numL u)))
 | enc (v:Vl) (h:v∈l) (hl:(encV v).length≤140737488355328):C306b l 115 [dV v] (.ret (dBy (encV v)))
theorem rencode_step(k n:Int) (s:List UInt8) (l:List Vl) (hC:∀ f ds out,C306b l f ds out→PCall Tryz.prog f ds out) (hb:(encV (.mk k n s l)).length≤140737488355328) :
  PCall Tryz.prog 115 [dV (.mk k n s l)] (.ret (dBy (encV (.mk k n s l)))):=by
 refine pcall_of_vc hC c115 (by simp [a115]) fun hr=>?_
 have hreal:=(hr _ (List.mem_singleton.2 rfl))
 rw [dV_eq] at hreal
 have hlen:=(Real.sl (hreal.agg (.sl 4 (l.map dV)) (by simp)).2).1
 simp only [List.length_map] at hlen
 have hn:=(hreal.agg (dI n) (by simp)).2.int
 simp [IntKind.min,IntKind.max,IntKind.bits,IntKind.signed] at hn
 have hsl:=Real.str (hreal.agg (dZ s) (by simp)).2
 rw [bz_size] at hsl
 simp [a115,dV_eq]
 by_cases hk1:k=1
 ·subst hk1
  have e:encV (.mk 1 n s l)=1::numL (zz n):=by simp [encV]
  rw [e] at hb ⊢
  have h1:=C306b.uns (l:=l) n
  have h2:=C306b.num (l:=l) (zz n) (by unfold zz;split <;> omega)
  simp
  refine vc_path [.ret (.lit (.int .u64 (zz n))),.ret (dBy (numL (zz n)))] ?_
  unfold dBy at h2 ⊢
  simp at hb
  simp
  exact⟨by simpa using h1,h2,⟨by omega,by omega⟩,leD_of_eq (by simp [dU])⟩
 by_cases hk2:k=2
 ·subst hk2
  have e:encV (.mk 2 n s l)=2::(numL s.length++s):=by simp [encV]
  rw [e] at hb ⊢
  have hw:IntKind.u64.wrap (s.length:Int)=s.length:=wrap_u64 (by omega) (by omega)
  have h2:=C306b.num (l:=l) s.length (by omega)
  simp
  refine vc_pathD [.ret (dBy (numL s.length))] ?_
  unfold dBy at h2 ⊢
  simp at hb
  simp [dZ_eq,hw,strD_bz]
  exact⟨h2,⟨by omega,by omega⟩,⟨by omega,by omega⟩,rfl,leD_of_eq (by simp [dU])⟩
 ·have e:encV (.mk k n s l)=3::(numL l.length++encVs l):=by simp [encV,hk1,hk2]
  rw [e] at hb ⊢
  have hw:IntKind.u64.wrap (l.length:Int)=l.length:=wrap_u64 (by omega) (by omega)
  have h2:=C306b.num (l:=l) l.length (by omega)
  simp [hk1,hk2]
  simp at hb
  refine vc_path [.ret (dBy (numL l.length))] ?_
  unfold dBy at h2 ⊢
  simp [hw]
  refine⟨h2,⟨by omega,by omega⟩,?_⟩
  refine vc_loopK [1] Nat (fun i=>[(4,true,.d (dI i)),(3,true,.own 2 1 ((3::(numL l.length++encVs (l.take i))).map dU))]) (fun i=>[]) (fun i=>i≤l.length) (fun i=>l.length-i) 0 (by simp) ⟨[],[],?_⟩ (fun i hi=>?_)
  ·simp [encVs,dU]
  simp
  refine⟨fun hlt=>?_,fun hge=>?_⟩
  ·have hw1:IntKind.i64.wrap ((i:Int)+1)=((i+1:Nat):Int):=by rw [wrap64 (by omega)];omega
   have he:=encVs_take l i hlt
   have hle:=encVs_le l (i+1)
   rw [he,List.length_append] at hle
   have hc:=C306b.enc (l:=l) l[i] (List.getElem_mem hlt) (by omega)
   rw [dV_agg] at hc
   refine vc_path [.ret (dBy (encV l[i]))] ?_
   unfold dBy at hc ⊢
   simp [hlt,dV_agg,hw1]
   refine⟨by simpa using hc,⟨by omega,by omega⟩,i+1,by omega,by omega,[(2,3)],[],?_⟩
   simp [he]
  ·have hi:i=l.length:=by omega
   subst hi
   simp
theorem rencode:∀ v:Vl,(encV v).length≤140737488355328→PCall Tryz.prog 115 [dV v] (.ret (dBy (encV v)))
 | .mk k n s l,hb=>by
  refine rencode_step k n s l (fun f ds out hc=>?_) hb
  cases hc with
  | uns n=>exact runsigned n
  | num u hu=>exact rnumeral u hu
  | enc v hv hl=>exact rencode v hl
termination_by v=>SizeOf.sizeOf v
decreasing_by
 have:=List.sizeOf_lt_of_mem hv
 simp;omega
inductive C306c:FuncId→List D→Out→Prop
 | check (v:Vl) (h:dpV v<4611686018427387904):C306c 114 [dV v] (.ret (dI (eV v)))
 | enc (v:Vl) (hl:(encV v).length≤140737488355328):C306c 115 [dV v] (.ret (dBy (encV v)))
theorem h306c:∀ f ds out,C306c f ds out→PCall Tryz.prog f ds out:=by
 intro f ds out h
 cases h with
 | check v h=>exact rccheck v h
 | enc v h=>exact rencode v h
def encR (v:Vl):D:=if eV v=0 then .tup [dBy (encV v),dI 0] else .tup [.sl 1 [],dI (eV v)]
theorem rEncode(v:Vl) (h:dpV v<4611686018427387904) (hl:(encV v).length≤140737488355328):PCall Tryz.prog 89 [dV v] (.ret (encR v)):=by
 refine pcall_of_vc h306c c89 (by simp [a89]) fun hr=>?_
 have hc:=C306c.check v h
 have he:=C306c.enc v hl
 rw [dV_agg] at hc he
 unfold encR
 simp [a89,dV_cells]
 refine vc_path [.ret (dI (eV v))] ?_
 by_cases h0:eV v=0
 ·rw [if_pos h0]
  rw [h0] at hc ⊢
  simp
  refine⟨by simpa using hc,vc_path [.ret (dBy (encV v))] ?_⟩
  unfold dBy at he ⊢
  simp
  simpa using he
 ·rw [if_neg h0]
  simp [h0]
  simpa using hc
end

section
attribute [local simp] dZ_agg dZ_nt dZ_noTup dZ_cells dZ_one bz_toList bz_size strV dV_cells dV_isAgg dV_noTup dV_nt
set_option maxRecDepth 8000
set_option maxHeartbeats 4000000
inductive C304:FuncId→List D→Out→Prop
 | check (v:Vl) (h:dpV v<4611686018427387904):C304 86 [dV v] (.ret (dI (eV v)))
 | new (k:Nat):C304 87 [] (.ret (dWr k))
 | wr (es:List D) (v:Vl) (k:Nat) (ho:okV v=true) (hd:dpV v≤k) (hl:es.length+(encV v).length≤140737488355328):C304 (wrOf v) (.sl 1 es::dV v::wrCap k v) (.app 1 (es++(encV v).map dU))
theorem h304:∀ f ds out,C304 f ds out→PCall Tryz.prog f ds out:=by
 intro f ds out h
 cases h with
 | check v h=>exact ccheck v h
 | new k=>exact newWriter k
 | wr es v k ho hd hl=>exact writes v k es ho hd hl
theorem eV_zero{v:Vl}(h:eV v=0):okV v=true∧dpV v≤16:=by
 unfold eV at h
 split at h
 ·rename_i h1
  split at h
  ·rename_i h2;exact⟨h1,h2⟩
  ·omega
 ·omega
theorem encode(v:Vl) (h:dpV v<4611686018427387904) (hl:(encV v).length≤140737488355328):PCall Tryz.prog 65 [dV v] (.ret (encR v)):=by
 refine pcall_of_vc h304 c65 (by simp [a65]) fun hr=>?_
 have hc:=C304.check v h
 rw [dV_agg] at hc
 unfold encR
 simp [a65,dV_cells]
 by_cases he:eV v=0
 ·rw [if_pos he]
  rw [he] at hc
  obtain⟨ho,hd⟩:=eV_zero he
  have hw:=C304.wr [] v (dpV v) ho (Nat.le_refl _) (by simpa using hl)
  have hn:=C304.new (dpV v+1)
  rw [dV_agg] at hw
  refine vc_path [.ret (dI 0)] ?_
  simp
  refine⟨by simpa using hc,vc_pathD [.ret (dWr (dpV v+1)),.app 1 ((encV v).map dU)] ?_⟩
  rw [dWr] at hn ⊢
  rcases okV_kind _ ho with h | h | h
  all_goals
   simp [wrOf,wrCap,h] at hw
   simp [h]
   exact⟨hn,hw,rfl,LeD.refl _⟩
 ·rw [if_neg he]
  refine vc_path [.ret (dI (eV v))] ?_
  simp [he]
  simpa using hc
end

section
def q (x:UInt32):Int:=(x.toNat:Int)
def dq (x:UInt32):D:=.lit (.int .u32 (q x))
theorem dQ_eq(x:UInt32):dQ x=.lit (.int .u32 (q x)):=rfl
theorem q_lt(x:UInt32):0≤q x∧q x<4294967296:=by
 have:=x.toNat_lt
 unfold q;omega
theorem wrap_u32{n:Int}(h:0≤n) (h2:n<4294967296):IntKind.u32.wrap n=n:=by
 simp [IntKind.wrap,IntKind.bits,IntKind.signed];omega
theorem bv_q(x:UInt32):(BitVec.ofInt IntKind.u32.bits (q x)).toNat=x.toNat:=by
 have:=x.toNat_lt
 simp [q,IntKind.bits]
theorem nq(x:UInt32):(q x % 2 ^ IntKind.u32.bits).toNat=x.toNat:=by
 have:=x.toNat_lt
 simp [q,IntKind.bits]
 omega
theorem wq_add(x y:UInt32):IntKind.u32.wrap (q x+q y)=q (x+y):=by
 have:=x.toNat_lt
 have:=y.toNat_lt
 simp [q,IntKind.wrap,IntKind.bits,IntKind.signed]
theorem wq_or(x y:UInt32):IntKind.u32.wrap (((q x % 2 ^ IntKind.u32.bits).toNat|||(q y % 2 ^ IntKind.u32.bits).toNat:Nat):Int)=q (x|||y):=by
 rw [nq,nq,← UInt32.toNat_or];exact wrap_u32 (q_lt _).1 (q_lt _).2
theorem wq_and(x y:UInt32):IntKind.u32.wrap (((q x % 2 ^ IntKind.u32.bits).toNat&&&(q y % 2 ^ IntKind.u32.bits).toNat:Nat):Int)=q (x&&&y):=by
 rw [nq,nq,← UInt32.toNat_and];exact wrap_u32 (q_lt _).1 (q_lt _).2
theorem wq_xor(x y:UInt32):IntKind.u32.wrap (((q x % 2 ^ IntKind.u32.bits).toNat^^^(q y % 2 ^ IntKind.u32.bits).toNat:Nat):Int)=q (x^^^y):=by
 rw [nq,nq,← UInt32.toNat_xor];exact wrap_u32 (q_lt _).1 (q_lt _).2
theorem shl_q(x:UInt32) (n:Nat) (h:n<32):shiftV true .u32 (q x) (n:Int)=.int .u32 (q (x <<< UInt32.ofNat n)):=by
 have hx:=x.toNat_lt
 have e:min ((n:Int)).toNat IntKind.u32.bits=n:=by simp [IntKind.bits];omega
 unfold shiftV
 rw [e]
 simp only [if_true,Value.int.injEq,true_and]
 simp only [q,UInt32.toNat_shiftLeft,UInt32.toNat_ofNat']
 have e2:n % 2 ^ 32 % 32=n:=by omega
 rw [e2]
 simp [IntKind.wrap,IntKind.bits,IntKind.signed,Nat.shiftLeft_eq]
theorem shr_q(x:UInt32) (n:Nat) (h:n<32):shiftV false .u32 (q x) (n:Int)=.int .u32 (q (x >>> UInt32.ofNat n)):=by
 have hx:=x.toNat_lt
 have e:min ((n:Int)).toNat IntKind.u32.bits=n:=by simp [IntKind.bits];omega
 unfold shiftV
 rw [e]
 simp only [Bool.false_eq_true,if_false,Value.int.injEq,true_and]
 simp only [q,UInt32.toNat_shiftRight,UInt32.toNat_ofNat']
 have e2:n % 2 ^ 32 % 32=n:=by omega
 rw [e2,Int.fdiv_eq_ediv_of_nonneg _ (Int.pow_nonneg (by omega)),Nat.shiftRight_eq_div_pow]
 simp
def ror (x:UInt32) (c:Nat):UInt32:=x >>> UInt32.ofNat c|||x <<< UInt32.ofNat (32-c)
def wordQ (b:List UInt8):UInt32:=(b.take 4).foldl (fun n c=>n <<< 8|||c.toUInt32) 0
theorem conv_u32(c:UInt8):IntKind.u32.wrap (c.toNat:Int)=q c.toUInt32:=by
 have:=c.toNat_lt
 rw [wrap_u32 (by omega) (by omega)]
 simp [q]
structure S8 where
 a:UInt32
 b:UInt32
 c:UInt32
 d:UInt32
 e:UInt32
 f:UInt32
 g:UInt32
 h:UInt32
def S8.l (s:S8):List UInt32:=[s.a,s.b,s.c,s.d,s.e,s.f,s.g,s.h]
def S8.add (s t:S8):S8:=⟨s.a+t.a,s.b+t.b,s.c+t.c,s.d+t.d,s.e+t.e,s.f+t.f,s.g+t.g,s.h+t.h⟩
def wInit (b:List UInt8) (t:Nat):List UInt32:=(List.range 64).map fun j=>if j<t then wordQ (b.drop (4*j)) else 0
def wat (w:List UInt32) (j:Nat):UInt32:=w.getD j 0
def wNew (w:List UInt32) (t:Nat):UInt32:=wat w (t-16)+(ror (wat w (t-15)) 7^^^ror (wat w (t-15)) 18^^^wat w (t-15) >>> 3)+wat w (t-7)+(ror (wat w (t-2)) 17^^^ror (wat w (t-2)) 19^^^wat w (t-2) >>> 10)
def wUp (b:List UInt8):Nat→List UInt32
 | 0=>wInit b 16
 | k+1=>(wUp b k).set (16+k) (wNew (wUp b k) (16+k))
def rot3 (x:UInt32) (a b c:Nat):UInt32:=ror x a^^^ror x b^^^ror x c
def round (w:List UInt32) (s:S8) (t:Nat):S8 :=
 let p:=s.h+rot3 s.e 6 11 25+(s.g^^^s.e&&&(s.f^^^s.g))+wat kNums t+wat w t
 let u:=rot3 s.a 2 13 22+(s.a&&&s.b|||s.c&&&(s.a|||s.b))
 ⟨p+u,s.a,s.b,s.c,s.d+p,s.e,s.f,s.g⟩
def rounds (w:List UInt32) (s:S8):Nat→S8
 | 0=>s
 | t+1=>round w (rounds w s t) t
def compress (s:S8) (b:List UInt8):S8:=s.add (rounds (wUp b 48) s 64)
theorem wInit_len(b:List UInt8) (t:Nat):(wInit b t).length=64:=by simp [wInit]
theorem wUp_len(b:List UInt8):∀ t,(wUp b t).length=64
 | 0=>wInit_len b 16
 | t+1=>by simp [wUp,wUp_len b t]
theorem wInit_set(b:List UInt8) (t:Nat) (h:t<64):(wInit b t).set t (wordQ (b.drop (4*t)))=wInit b (t+1):=by
 refine List.ext_getElem? fun k=>?_
 rw [List.getElem?_set]
 by_cases hk:t=k
 ·subst hk
  rw [if_pos rfl,if_pos (by rw [wInit_len];exact h)]
  simp [wInit,h]
 ·rw [if_neg hk]
  simp only [wInit,List.getElem?_map]
  by_cases hk2:k<64
  ·simp [List.getElem?_range hk2]
   by_cases h1:k<t
   ·rw [if_pos h1,if_pos (by omega)]
   ·rw [if_neg h1,if_neg (by omega)]
  ·simp [hk2]
end

section
set_option maxRecDepth 8000
set_option maxHeartbeats 4000000
attribute [local simp] wq_add wq_xor wq_and wq_or
theorem dword(b:List UInt8) (h:4≤b.length):PCall Tryz.prog 118 [dBy b] (.ret (dq (wordQ b))):=by
 refine pcall_of_vc noC c118 (by simp [a118]) fun hr=>?_
 unfold dBy dq
 simp [a118]
 obtain⟨b0,b1,b2,b3,r,rfl⟩:∃ b0 b1 b2 b3 r,b=b0::b1::b2::b3::r:=by
  match b,h with
  | b0::b1::b2::b3::r,_=>exact⟨b0,b1,b2,b3,r,rfl⟩
 refine⟨by simp;omega,?_⟩
 simp
 refine vc_loopK [6,7] Nat (fun i=>[(8,true,.d (dI i)),(2,true,.d (.lit (.int .u32 (q (([b0,b1,b2,b3].take i).foldl (fun n c=>n <<< 8|||c.toUInt32) 0)))))]) (fun i=>[]) (fun i=>i≤4) (fun i=>4-i) 0 (by simp) ⟨[],[],?_⟩ (fun i hi=>?_)
 ·simp [q]
 have h8:∀ x:UInt32,shiftV true .u32 (q x) 8=.int .u32 (q (x <<< 8)):=fun x=>shl_q x 8 (by omega)
 have hi4:i=0∨i=1∨i=2∨i=3∨i=4:=by omega
 have hw:IntKind.i64.wrap ((i:Int)+1)=((i+1:Nat):Int):=by rw [wrap64 (by omega)];omega
 rcases hi4 with rfl | rfl | rfl | rfl | rfl
 ·simp at hw
  simp [dU,conv_u32,h8,hw]
  exact⟨1,by omega,by omega,[],[],by simp [dU]⟩
 ·simp at hw
  simp [dU,conv_u32,h8,hw]
  exact⟨2,by omega,by omega,[],[],by simp [dU]⟩
 ·simp at hw
  simp [dU,conv_u32,h8,hw]
  exact⟨3,by omega,by omega,[],[],by simp [dU]⟩
 ·simp at hw
  simp [dU,conv_u32,h8,hw]
  exact⟨4,by omega,by omega,[],[],by simp [dU]⟩
 ·simp [wordQ]
theorem rotl(x:UInt32) (c:Nat) (h1:0<c) (h2:c<32):PCall Tryz.prog 119 [dq x,dI (-(c:Int))] (.ret (dq (ror x c))):=by
 refine pcall_of_vc noC c119 (by simp [a119]) fun hr=>?_
 have k1:∀ c:Fin 31,IntKind.u64.wrap (((IntKind.u64.wrap (-((c.val+1:Nat):Int)) % 2 ^ IntKind.u64.bits).toNat&&&31 % 2 ^ IntKind.u64.bits:Nat):Int)=((31-c.val:Nat):Int):=by decide +kernel
 have k2:=k1 ⟨c-1,by omega⟩
 rw [show c-1+1=c by omega,show 31-(c-1)=32-c by omega] at k2
 have k3:IntKind.u64.wrap (32-((32-c:Nat):Int))=(c:Int):=by rw [wrap_u64 (by omega) (by omega)];omega
 have h1':=shl_q x (32-c) (by omega)
 have h2':=shr_q x c h2
 unfold dq
 simp [a119,k2,k3,h1',h2']
 refine leD_of_eq ?_
 congr 3
 unfold ror
 exact UInt32.or_comm _ _
inductive C311:FuncId→List D→Out→Prop
 | rot (x:UInt32) (c:Nat) (h1:0<c) (h2:c<32):C311 119 [dq x,dI (-(c:Int))] (.ret (dq (ror x c)))
theorem h311:∀ f ds out,C311 f ds out→PCall Tryz.prog f ds out:=by
 intro f ds out h
 cases h with
 | rot x c h1 h2=>exact rotl x c h1 h2
theorem rotated(x:UInt32) (a b c:Nat) (ha:0<a∧a<32) (hb:0<b∧b<32) (hc:0<c∧c<32):PCall Tryz.prog 120 [dq x,dI a,dI b,dI c] (.ret (dq (rot3 x a b c))):=by
 refine pcall_of_vc h311 c120 (by simp [a120]) fun hr=>?_
 have e:∀ n:Nat,n<32→IntKind.i64.wrap (-(n:Int))=-(n:Int):=fun n hn=>wrap64 (by omega)
 have h1:=C311.rot x a ha.1 ha.2
 have h2:=C311.rot x b hb.1 hb.2
 have h3:=C311.rot x c hc.1 hc.2
 unfold dq at *
 simp [a120]
 refine vc_path [.ret (dq (ror x a)),.ret (dq (ror x b)),.ret (dq (ror x c))] ?_
 unfold dq
 simp [e a ha.2,e b hb.2,e c hc.2]
 exact⟨h1,h2,h3,leD_of_eq rfl⟩
end

section
set_option maxRecDepth 8000
set_option maxHeartbeats 8000000
attribute [local simp] wq_add wq_xor wq_and wq_or
structure CAbs (C:FuncId→List D→Out→Prop):Prop where
 word:∀ b:List UInt8,4≤b.length→C 118 [dBy b] (.ret (dq (wordQ b)))
 rot:∀ (x:UInt32) (c:Nat),0<c→c<32→C 119 [dq x,dI (-(c:Int))] (.ret (dq (ror x c)))
 rotd:∀ (x:UInt32) (a b c:Nat),0<a∧a<32→0<b∧b<32→0<c∧c<32→C 120 [dq x,dI a,dI b,dI c] (.ret (dq (rot3 x a b c)))
def aq (l:List UInt32):List AV:=(l.map dq).map .d
theorem aq_len(l:List UInt32):(aq l).length=l.length:=by simp [aq]
theorem aq_get(l:List UInt32) (i:Nat) (h:i<l.length):(aq l)[i]?=some (.d (dq (wat l i))):=by
 simp [aq,h,wat]
theorem aq_set(l:List UInt32) (i:Nat) (x:UInt32):(aq l).set i (.d (dq x))=aq (l.set i x):=by
 simp [aq,List.map_set]
theorem aq_one(l:List UInt32):∀ c∈aq l,c.one=true:=fun c hc=>by
 simp only [aq,List.mem_map] at hc
 obtain⟨d,⟨x,_,rfl⟩,rfl⟩:=hc
 rfl
theorem leL_aq(ρ:Nat→Nat) (N:Nat→Option Nat) (ok:Nat→Bool) (k:Nat) (l:List UInt32):leA.leL ρ N ok k (aq l) (aq l)=True:=eq_true (leL_map ρ N ok k _)
theorem aq0(b:List UInt8):aq (wInit b 0)=List.replicate 64 (AV.d (.lit (.int .u32 0))):=by
 have:wInit b 0=List.replicate 64 0:=by
  unfold wInit
  simp [List.map_const',-List.reduceReplicate]
 rw [this]
 simp [aq,dq,q,-List.reduceReplicate]
theorem leL_md(ρ:Nat→Nat) (N:Nat→Option Nat) (ok:Nat→Bool) (k:Nat) (l:List D):leA.leL ρ N ok k (l.map .d) (l.map .d)=True:=eq_true (leL_map ρ N ok k _)
theorem lt3:(∀ x:Nat,x<3→¬x=0∧¬x=1∧¬x=2∧¬x=3∨x=0∨x=1∨x=2∨x=3)=True:=eq_true fun x h=>by omega
theorem dq_cells(x:UInt32):(dq x).cells=[dq x]:=rfl
theorem dq_noTup(x:UInt32):(AV.d (dq x)).noTup=true:=rfl
theorem dq_one(x:UInt32):(dq x).one=true:=rfl
theorem dq_free(x:UInt32):Free (dq x):=.lit _
attribute [local simp] dq_free
theorem lt3':(∀ x:Nat,x<3→¬x=0∧¬x=1∧¬x=2∧¬x=3∧¬x=4∨x=0∨x=1∨x=2∨x=3∨x=4)=True:=eq_true fun x h=>by omega
attribute [local simp] lt3' dQ_eq
attribute [local simp] aq_len leL_aq leL_md dBy lt3 bslV dq_cells dq_noTup dq_one
def s8v (s:S8):List AV:=[.d (.lit (.int .u32 (q s.a))),.d (.lit (.int .u32 (q s.b))),.d (.lit (.int .u32 (q s.c))),.d (.lit (.int .u32 (q s.d))),.d (.lit (.int .u32 (q s.e))),.d (.lit (.int .u32 (q s.f))),.d (.lit (.int .u32 (q s.g))),.d (.lit (.int .u32 (q s.h)))]
theorem aqS(s:S8):aq s.l=s8v s:=rfl
theorem aq_set'(l:List UInt32) (i:Nat) (x:UInt32):(aq l).set i (.d (.lit (.int .u32 (q x))))=aq (l.set i x):=aq_set l i x
theorem glb1:glbD 1=some (.agg (kNums.map dQ)):=rfl
theorem kNums_get(i:Nat) (h:i<64):kNums[i]?=some (wat kNums i):=by
 have:kNums.length=64:=rfl
 unfold wat
 rw [List.getElem?_eq_getElem (by omega)]
 simp [List.getElem?_eq_getElem (show i<kNums.length by omega)]
theorem kNums_len:kNums.length=64:=rfl
def mixS (s r:S8) (i:Nat):S8:=⟨if 0<i then s.a+r.a else s.a,if 1<i then s.b+r.b else s.b,if 2<i then s.c+r.c else s.c,if 3<i then s.d+r.d else s.d,if 4<i then s.e+r.e else s.e,if 5<i then s.f+r.f else s.f,if 6<i then s.g+r.g else s.g,if 7<i then s.h+r.h else s.h⟩
def restAC:AC→AC
 | .seq _ (.seq _ r)=>r
 | c=>c
theorem absorbR{cx:Cx}(hB:cx.B=3) (htop:cx.top=true) (hC:CAbs cx.C) (s:S8) (b:List UInt8) (z0:List D) (hz0:∀ d∈z0,d.one=true) (x2:HO)
  (h2:x2=.dead∨∃ z2,x2=.box true (List.map AV.d z2)∧(∀ d∈z2,d.one=true)) (sl:List (Nat×Bool×AV)) (g0:getS sl 0=some (true,.ptr 1 0)) (g4:getS sl 4=some (true,.ptr 3 0))
  (K:HOut→List (Nat×HO)→Prop) (hK:∀ x3 x4,K (.ret (.tup [])) [(0,.box true (z0.map .d)),(1,.box true (aq (compress s b).l)),(2,x2),(3,x3),(4,x4)]) :
  ∀ (rest:AC) (fn:AF),rest=restAC a94.body→fn=a94→vcX Tryz.prog cx rest (endH Tryz.prog cx.C fn K) ⟨sl,[(0,.box true (z0.map .d)),(1,.box true (aq s.l)),(2,x2),(3,.box true (aq (wInit b 16)))],[]⟩:=by
 rintro rest fn rfl rfl
 obtain⟨B,top,l,Y,C⟩:=cx
 simp only at hB htop hC
 subst hB;subst htop
 rcases h2 with rfl | ⟨z2,rfl,hz2⟩
 all_goals
  simp [a94,restAC,-List.reduceReplicate]
  refine vc_loopK [0,4] Nat (fun i=>[(6,true,.d (dI (16+i)))]) (fun i=>[(3,.box true (aq (wUp b i)))]) (fun i=>i≤48) (fun i=>48-i) 0 (by simp) ⟨[],[],?_⟩ (fun i hi=>?_)
  ·simp [wUp,g0,g4]
   (repeat' apply And.intro) <;> first | exact hz0 | exact aq_one _ | exact hz2
  simp [g0,g4]
  refine⟨fun hlt=>?_,fun hge=>?_⟩
  ·have hlt:i<48:=by omega
   have e15:IntKind.i64.wrap (16+(i:Int)-15)=((i+1:Nat):Int):=by rw [wrap64 (by omega)];omega
   have e2:IntKind.i64.wrap (16+(i:Int)-2)=((i+14:Nat):Int):=by rw [wrap64 (by omega)];omega
   have e16:IntKind.i64.wrap (16+(i:Int)-16)=((i:Nat):Int):=by rw [wrap64 (by omega)];omega
   have e7:IntKind.i64.wrap (16+(i:Int)-7)=((i+9:Nat):Int):=by rw [wrap64 (by omega)];omega
   have e1:IntKind.i64.wrap (16+(i:Int)+1)=((16+(i+1):Nat):Int):=by rw [wrap64 (by omega)];omega
   have hl:=wUp_len b i
   have hg:∀ j:Nat,j<64→(aq (wUp b i))[j]?=some (.d (dq (wat (wUp b i) j))):=fun j hj=>aq_get _ _ (by omega)
   have t14:((i:Int)+14).toNat=i+14:=by omega
   have t9:((i:Int)+9).toNat=i+9:=by omega
   have t16:(16+(i:Int)).toNat=16+i:=by omega
   simp only [e15,e2]
   simp [hl,t14,hg (i+1) (by omega),hg (i+14) (by omega)]
   refine⟨⟨by omega,by omega⟩,by omega,⟨by omega,by omega⟩,by omega,rfl,?_⟩
   have r1:=hC.rot (wat (wUp b i) (i+1)) 7 (by omega) (by omega)
   have r2:=hC.rot (wat (wUp b i) (i+1)) 18 (by omega) (by omega)
   have r3:=hC.rot (wat (wUp b i) (i+14)) 17 (by omega) (by omega)
   have r4:=hC.rot (wat (wUp b i) (i+14)) 19 (by omega) (by omega)
   have hset:(wUp b i).set (16+i) (wat (wUp b i) i+(ror (wat (wUp b i) (i+1)) 7^^^ror (wat (wUp b i) (i+1)) 18^^^wat (wUp b i) (i+1) >>> 3)+wat (wUp b i) (i+9)+(ror (wat (wUp b i) (i+14)) 17^^^ror (wat (wUp b i) (i+14)) 19^^^wat (wUp b i) (i+14) >>> 10))=wUp b (i+1):=by
    rw [wUp,wNew]
    rw [show 16+i-16=i by omega,show 16+i-15=i+1 by omega,show 16+i-7=i+9 by omega,show 16+i-2=i+14 by omega]
   have hgi:=hg i (by omega)
   have hg9:=hg (i+9) (by omega)
   generalize hx1:wat (wUp b i) (i+1)=x1 at *
   generalize hx14:wat (wUp b i) (i+14)=x14 at *
   refine vc_pathD [.ret (dq (ror x1 7)),.ret (dq (ror x1 18)),.ret (dq (ror x14 17)),.ret (dq (ror x14 19))] ?_
   have s3:shiftV false .u32 (q x1) 3=.int .u32 (q (x1 >>> 3)):=shr_q x1 3 (by omega)
   have s10:shiftV false .u32 (q x14) 10=.int .u32 (q (x14 >>> 10)):=shr_q x14 10 (by omega)
   unfold dq at *
   simp [e16,e7,hl,hgi,hg9,e1,t9,t16,s3,s10]
   refine⟨by omega,by omega,by simpa using r1,by simpa using r2,⟨by omega,by omega⟩,by omega,by simpa using r3,by simpa using r4,⟨by omega,by omega⟩,by omega,rfl,i+1,by omega,by omega,[],[],?_⟩
   rw [aq_set',hset]
   simp
   (repeat' apply And.intro) <;> first | exact hz0 | exact aq_one _ | exact hz2
  ·have hi48:i=48:=by omega
   subst hi48
   rw [aqS] at *
   have hone:∀ r:S8,∀ c∈s8v r,c.one=true:=fun r c hc=>by
    rw [← aqS] at hc;exact aq_one _ c hc
   have hlv:∀ r:S8,(s8v r).length=8:=fun r=>rfl
   simp [s8v,S8.l]
   refine vc_loopK [0,4,9] Nat (fun i=>[(69,true,.d (dI i))]) (fun i=>[(4,.box true (s8v (rounds (wUp b 48) s i)))]) (fun i=>i≤64) (fun i=>64-i) 0 (by simp) ⟨[],[],?_⟩ (fun i hi=>?_)
   ·simp [rounds,s8v]
    (repeat' apply And.intro) <;> first | exact hz0 | exact aq_one _ | exact hz2
   have hl:=wUp_len b 48
   simp
   refine⟨fun hlt=>?_,fun hge=>?_⟩
   ·have hlt:i<64:=by omega
    have hg:(aq (wUp b 48))[i]?=some (.d (dq (wat (wUp b 48) i))):=aq_get _ _ (by omega)
    generalize hr:rounds (wUp b 48) s i=r
    have c1:=hC.rotd r.e 6 11 25 (by omega) (by omega) (by omega)
    have c2:=hC.rotd r.a 2 13 22 (by omega) (by omega) (by omega)
    unfold dq at c1 c2 hg
    refine vc_pathD [.ret (dq (rot3 r.e 6 11 25))] ?_
    unfold dq
    simp [s8v,glb1,kNums_get i hlt,kNums_len,hg]
    refine⟨by simpa using c1,⟨by omega,by omega⟩,by omega,by rw [hl];omega,rfl,vc_pathD [.ret (dq (rot3 r.a 2 13 22))] ?_⟩
    unfold dq
    simp [s8v]
    have hw1:IntKind.i64.wrap ((i:Int)+1)=((i+1:Nat):Int):=by rw [wrap64 (by omega)];omega
    refine⟨by simpa using c2,rfl,rfl,i+1,by omega,by omega,[],[],?_⟩
    rw [hw1,rounds,hr]
    simp [round,s8v]
    (repeat' apply And.intro) <;> first | exact hz0 | exact aq_one _ | exact hz2
   ·have hi64:i=64:=by omega
    subst hi64
    have hcs:compress s b=s.add (rounds (wUp b 48) s 64):=rfl
    generalize hr:rounds (wUp b 48) s 64=r at hcs
    simp [s8v]
    refine vc_loopK [0,4,9] Nat (fun i=>[(129,true,.d (dI i))]) (fun i=>[(1,.box true (s8v (mixS s r i)))]) (fun i=>i≤8) (fun i=>8-i) 0 (by simp) ⟨[],[],?_⟩ (fun i hi=>?_)
    ·simp [mixS,s8v]
     (repeat' apply And.intro) <;> first | exact hz0 | exact aq_one _ | exact hz2
    have h8:i=0∨i=1∨i=2∨i=3∨i=4∨i=5∨i=6∨i=7∨i=8:=by omega
    rcases h8 with rfl | rfl | rfl | rfl | rfl | rfl | rfl | rfl | rfl
    ·have hwk:IntKind.i64.wrap 1=1:=rfl
     simp [s8v,mixS,hwk]
     refine⟨rfl,1,by omega,by omega,[],[],?_⟩
     simp
     (repeat' apply And.intro) <;> first | exact hz0 | exact aq_one _ | exact hz2
    ·have hwk:IntKind.i64.wrap 2=2:=rfl
     simp [s8v,mixS,hwk]
     refine⟨rfl,2,by omega,by omega,[],[],?_⟩
     simp
     (repeat' apply And.intro) <;> first | exact hz0 | exact aq_one _ | exact hz2
    ·have hwk:IntKind.i64.wrap 3=3:=rfl
     simp [s8v,mixS,hwk]
     refine⟨rfl,3,by omega,by omega,[],[],?_⟩
     simp
     (repeat' apply And.intro) <;> first | exact hz0 | exact aq_one _ | exact hz2
    ·have hwk:IntKind.i64.wrap 4=4:=rfl
     simp [s8v,mixS,hwk]
     refine⟨rfl,4,by omega,by omega,[],[],?_⟩
     simp
     (repeat' apply And.intro) <;> first | exact hz0 | exact aq_one _ | exact hz2
    ·have hwk:IntKind.i64.wrap 5=5:=rfl
     simp [s8v,mixS,hwk]
     refine⟨rfl,5,by omega,by omega,[],[],?_⟩
     simp
     (repeat' apply And.intro) <;> first | exact hz0 | exact aq_one _ | exact hz2
    ·have hwk:IntKind.i64.wrap 6=6:=rfl
     simp [s8v,mixS,hwk]
     refine⟨rfl,6,by omega,by omega,[],[],?_⟩
     simp
     (repeat' apply And.intro) <;> first | exact hz0 | exact aq_one _ | exact hz2
    ·have hwk:IntKind.i64.wrap 7=7:=rfl
     simp [s8v,mixS,hwk]
     refine⟨rfl,7,by omega,by omega,[],[],?_⟩
     simp
     (repeat' apply And.intro) <;> first | exact hz0 | exact aq_one _ | exact hz2
    ·have hwk:IntKind.i64.wrap 8=8:=rfl
     simp [s8v,mixS,hwk]
     refine⟨rfl,8,by omega,by omega,[],[],?_⟩
     simp
     (repeat' apply And.intro) <;> first | exact hz0 | exact aq_one _ | exact hz2
    ·have hKK:=hK (.box true (aq (wUp b 48))) (.box true (s8v r))
     rw [hcs] at hKK
     simp [s8v,mixS]
     simpa [s8v,S8.add] using hKK
def seq1:AC→AC
 | .seq a _=>a
 | c=>c
def seq2:AC→AC
 | .seq _ a=>a
 | c=>c
theorem absorbF{cx:Cx}(hB:cx.B=3) (htop:cx.top=true) (hC:CAbs cx.C) (s:S8) (b:List UInt8) (hb:b.length=64) (z0:List D) (hz0:∀ d∈z0,d.one=true) (x2:HO) (arg:AV)
  (h2:(x2=.dead∧arg=.d (dBy b))∨∃ z2 o c,x2=.box true (List.map AV.d z2)∧(∀ d∈z2,d.one=true)∧arg=.bsl 2 o 1 64 c∧(z2.drop o).take 64=b.map dU∧64≤c)
  (R:AC) (Q:AE→St→Prop) (hR:∀ sl,getS sl 0=some (true,.ptr 1 0)→getS sl 4=some (true,.ptr 3 0)→vcX Tryz.prog cx R Q ⟨sl,[(0,.box true (z0.map .d)),(1,.box true (aq s.l)),(2,x2),(3,.box true (aq (wInit b 16)))],[]⟩) :
  vcX Tryz.prog cx (.seq (seq1 a94.body) (.seq (seq1 (seq2 a94.body)) R)) Q ⟨argA [.ptr 1 0,arg] 0,[(0,.box true (z0.map .d)),(1,.box true (aq s.l)),(2,x2)],[]⟩:=by
 obtain⟨B,top,l,Y,C⟩:=cx
 simp only at hB htop hC
 subst hB;subst htop
 have hw:∀ i:Nat,i<64→IntKind.i64.wrap ((i:Int)+1)=((i+1:Nat):Int):=fun i h=>by rw [wrap64 (by omega)];omega
 have hw4:∀ i:Nat,i<64→IntKind.i64.wrap (4*(i:Int))=4*(i:Int):=fun i h=>wrap64 (by omega)
 have ht4:∀ i:Nat,(4*(i:Int)).toNat=4*i:=fun i=>by omega
 rcases h2 with ⟨rfl,rfl⟩ | ⟨z2,o,c,rfl,hz2,rfl,hzz,hc⟩
 ·simp [a94,seq1,seq2,-List.reduceReplicate]
  refine vc_loopK [0,1,4] Nat (fun i=>[(14,true,.d (dI i))]) (fun i=>[(3,.box true (aq (wInit b i)))]) (fun i=>i≤16) (fun i=>16-i) 0 (by simp) ⟨[],[],?_⟩ (fun i hi=>?_)
  ·simp [aq0]
   exact⟨hz0,aq_one _⟩
  simp
  refine⟨fun hlt=>?_,fun hge=>?_⟩
  ·have hlt:i<16:=by omega
   have hcc:=hC.word (b.drop (4*i)) (by simp;omega)
   refine vc_path [.ret (dq (wordQ (b.drop (4*i))))] ?_
   simp [hw i (by omega),hw4 i (by omega),ht4,hb]
   refine⟨⟨by omega,by omega⟩,?_,by omega,by rw [wInit_len];omega,i+1,by omega,by omega,[],[],?_⟩
   ·rw [List.take_of_length_le (by simp;omega)]
    simpa using hcc
   ·simp [aq_set,wInit_set b i (by omega)]
    exact⟨hz0,aq_one _,aq_one _⟩
  ·have hi16:i=16:=by omega
   subst hi16
   exact hR _ rfl rfl
 ·simp [a94,seq1,seq2,-List.reduceReplicate]
  refine vc_loopK [0,1,4] Nat (fun i=>[(14,true,.d (dI i))]) (fun i=>[(3,.box true (aq (wInit b i)))]) (fun i=>i≤16) (fun i=>16-i) 0 (by simp) ⟨[],[],?_⟩ (fun i hi=>?_)
  ·simp [aq0]
   exact⟨hz0,aq_one _,hz2⟩
  simp
  refine⟨fun hlt=>?_,fun hge=>?_⟩
  ·have hlt:i<16:=by omega
   have hcc:=hC.word (b.drop (4*i)) (by simp;omega)
   have hne:¬ 64-4*i=0:=by omega
   refine vc_path [.ret (dq (wordQ (b.drop (4*i))))] ?_
   have hlz:o+64≤z2.length:=by
    have:=congrArg List.length hzz
    simp at this
    omega
   have hels:elsD 1 (64-4*i) (z2.drop (o+4*i))=(b.drop (4*i)).map dU:=by
    unfold elsD
    rw [if_pos rfl,List.map_drop,← hzz,List.drop_take,List.drop_drop]
   simp [hw i (by omega),hw4 i (by omega),ht4,hb,hne,allD1_map,hels,show o+4*i+(64-4*i)≤z2.length by omega]
   refine⟨⟨by omega,by omega,by omega⟩,by simpa using hcc,by omega,by rw [wInit_len];omega,i+1,by omega,by omega,[],[],?_⟩
   simp [aq_set,wInit_set b i (by omega)]
   (repeat' apply And.intro) <;> first | exact hz0 | exact aq_one _ | exact hz2
  ·have hi16:i=16:=by omega
   subst hi16
   exact hR _ rfl rfl
theorem absorbH{cx:Cx}(hB:cx.B=3) (htop:cx.top=true) (hC:CAbs cx.C) (s:S8) (b:List UInt8) (hb:b.length=64) (z0:List D) (hz0:∀ d∈z0,d.one=true) (x2:HO) (arg:AV)
  (h2:(x2=.dead∧arg=.d (dBy b))∨∃ z2 o c,x2=.box true (List.map AV.d z2)∧(∀ d∈z2,d.one=true)∧arg=.bsl 2 o 1 64 c∧(z2.drop o).take 64=b.map dU∧64≤c)
  (K:HOut→List (Nat×HO)→Prop) (hK:∀ x3 x4,K (.ret (.tup [])) [(0,.box true (z0.map .d)),(1,.box true (aq (compress s b).l)),(2,x2),(3,x3),(4,x4)]) :
  TF Tryz.prog a94 cx [.ptr 1 0,arg] [(0,.box true (z0.map .d)),(1,.box true (aq s.l)),(2,x2)] K:=by
 rw [TF_eq]
 refine⟨by simp [a94],?_⟩
 have e:a94.body=.seq (seq1 a94.body) (.seq (seq1 (seq2 a94.body)) (restAC a94.body)):=rfl
 rw [e]
 refine absorbF hB htop hC s b hb z0 hz0 x2 arg h2 _ _ fun sl g0 g4=>?_
 exact absorbR hB htop hC s b z0 hz0 x2 (h2.imp (fun h=>h.1) (fun⟨z2,o,c,h1,h2,_⟩=>⟨z2,h1,h2⟩)) sl g0 g4 K hK _ _ rfl rfl
end

section
set_option maxRecDepth 8000
set_option maxHeartbeats 8000000
def putB (n:Nat) (u:Nat):List UInt8:=(List.range n).map fun j=>UInt8.ofNat (u / 256 ^ (n-1-j))
theorem putB_len(n u:Nat):(putB n u).length=n:=by simp [putB]
def putW (z:List D) (o n u i:Nat):List D:=(List.range z.length).map fun j=>if o+(n-i)≤j∧j<o+n then dU (UInt8.ofNat (u / 256 ^ (o+n-1-j))) else z.getD j default
theorem putW_len(z:List D) (o n u i:Nat):(putW z o n u i).length=z.length:=by simp [putW]
theorem putW_0(z:List D) (o n u:Nat):putW z o n u 0=z:=by
 refine List.ext_getElem? fun k=>?_
 by_cases hk:k<z.length
 ·simp [putW,hk]
  intro h1 h2;omega
 ·simp [putW,hk]
theorem putW_s(z:List D) (o n u i:Nat) (hi:i<n) (hz:o+n≤z.length):(putW z o n u i).set (o+(n-1-i)) (dU (UInt8.ofNat (u / 256 ^ i)))=putW z o n u (i+1):=by
 refine List.ext_getElem? fun k=>?_
 rw [List.getElem?_set,putW_len]
 by_cases hk:o+(n-1-i)=k
 ·subst hk
  rw [if_pos rfl,if_pos (by omega)]
  simp only [putW,List.getElem?_map]
  rw [List.getElem?_range (by omega)]
  simp only [Option.map_some]
  rw [if_pos (by omega),show o+n-1-(o+(n-1-i))=i by omega]
 ·rw [if_neg hk]
  simp only [putW,List.getElem?_map]
  by_cases hk2:k<z.length
  ·rw [List.getElem?_range hk2]
   simp only [Option.map_some]
   congr 1
   by_cases h1:o+(n-i)≤k∧k<o+n
   ·rw [if_pos h1,if_pos (by omega)]
   ·rw [if_neg h1,if_neg (by omega)]
  ·simp [hk2]
theorem putW_n(z:List D) (o n u:Nat) (hz:o+n≤z.length):putW z o n u n=z.take o++(putB n u).map dU++z.drop (o+n):=by
 refine List.ext_getElem? fun k=>?_
 by_cases h1:k<o
 ·rw [List.append_assoc,List.getElem?_append_left (by simp;omega),List.getElem?_take_of_lt h1]
  simp only [putW,List.getElem?_map]
  rw [List.getElem?_range (by omega)]
  simp only [Option.map_some]
  rw [if_neg (by omega),List.getElem?_eq_getElem (by omega)]
  simp [List.getD,List.getElem?_eq_getElem (show k<z.length by omega)]
 ·by_cases h2:k<o+n
  ·rw [List.getElem?_append_left (by simp [putB_len];omega),List.getElem?_append_right (by simp;omega)]
   simp only [putW,List.getElem?_map,putB]
   rw [List.getElem?_range (by omega)]
   simp only [Option.map_some,List.length_take]
   rw [List.getElem?_range (by omega)]
   simp only [Option.map_some]
   rw [if_pos (by omega)]
   congr 5
   omega
  ·rw [List.getElem?_append_right (by simp [putB_len];omega)]
   simp only [putW,List.getElem?_map,List.length_append,List.length_take,List.length_map,putB_len,List.getElem?_drop]
   by_cases h3:k<z.length
   ·rw [List.getElem?_range h3]
    simp only [Option.map_some]
    rw [if_neg (by omega),show o+n+(k-(min o z.length+n))=k by omega,List.getElem?_eq_getElem h3]
    simp [List.getD,List.getElem?_eq_getElem h3]
   ·rw [List.getElem?_eq_none (by simp;omega),List.getElem?_eq_none (by omega)]
    rfl
theorem vc_loopG{P:Program}{cx:Cx}{Q:AE→St→Prop}{σ:St}{b:AC}(X:Type) (st:X→St) (I:X→Prop) (μ:X→Nat) (x0:X) (h0:I x0) (hs:Sub cx.B σ (st x0))
  (h:∀ x,I x→vcX P cx b (seqQ (fun σ'=>∃ x',I x'∧μ x'<μ x∧Sub cx.B σ' (st x')) Q) (st x)):vcX P cx (.loop b) Q σ:=by
 rw [vcX_eq] at h ⊢
 exact⟨X,st,I,μ,⟨x0,h0,hs⟩,h⟩
inductive HOk:HO→Prop
 | dead:HOk .dead
 | box (ag:Bool) (ds:List D) (h:∀ d∈ds,d.one=true):HOk (.box ag (ds.map .d))
theorem setH_setH:∀ (h:List (Nat×HO)) (n:Nat) (x y:HO),setH (setH h n x) n y=setH h n y
 | [],n,x,y=>by simp
 | (m,z)::r,n,x,y=>by
  simp only [setH]
  by_cases e:n=m
  ·subst e;simp [setH]
  ·rw [if_neg e,if_neg e];simp only [setH];rw [if_neg e,setH_setH r n x y]
theorem setH_same:∀ (h:List (Nat×HO)) (n:Nat) (x:HO),AL.look h n=some x→setH h n x=h
 | [],n,x,h=>by simp at h
 | (m,z)::r,n,x,h=>by
  simp only [AL.look] at h
  simp only [setH]
  by_cases e:n=m
  ·rw [if_pos e] at h ⊢;injection h with h;rw [h]
  ·rw [if_neg e] at h ⊢;rw [setH_same r n x h]
theorem mem_setH:∀ {h:List (Nat×HO)}{n:Nat}{x:HO}{p:Nat×HO},(doms h).Nodup→p∈setH h n x→p=(n,x)∨(p∈h∧p.1≠n)
 | [],n,x,p,_,hp=>by simp [setH] at hp;exact .inl hp
 | (m,z)::r,n,x,p,hd,hp=>by
  simp only [setH] at hp
  simp only [doms,List.map_cons,List.nodup_cons] at hd
  by_cases e:n=m
  ·rw [if_pos e] at hp
   rcases List.mem_cons.1 hp with h | h
   ·exact .inl (by rw [h,e])
   ·refine .inr ⟨List.mem_cons_of_mem _ h,fun e2=>hd.1 ?_⟩
    rw [← e,← e2]
    exact List.mem_map_of_mem h
  ·rw [if_neg e] at hp
   rcases List.mem_cons.1 hp with h | h
   ·exact .inr ⟨by rw [h];exact List.mem_cons_self ..,by rw [h];exact fun e2=>e e2.symm⟩
   ·rcases mem_setH hd.2 h with h | h
    ·exact .inl h
    ·exact .inr ⟨List.mem_cons_of_mem _ h.1,h.2⟩
theorem mem_look:∀ {h:List (Nat×HO)}{n:Nat}{x:HO},AL.look h n=some x→(n,x)∈h
 | [],n,x,hl=>by simp at hl
 | (m,z)::r,n,x,hl=>by
  simp only [AL.look] at hl
  by_cases e:n=m
  ·rw [if_pos e] at hl;injection hl with hl;rw [hl,e];exact List.mem_cons_self ..
  ·rw [if_neg e] at hl;exact List.mem_cons_of_mem _ (mem_look hl)
theorem subH_id{σ:St}{h0:List (Nat×HO)}:∀ {l:List (Nat×HO)},(∀ p∈l,AL.look σ.h p.1=some p.2∧HOk p.2)→subH [] [] σ h0 l
 | [],_=>by simp
 | (n,o)::r,hl=>by
  have h1:=hl (n,o) (List.mem_cons_self ..)
  have h2:=subH_id (σ:=σ) (h0:=h0) (l:=r) (fun p hp=>hl p (List.mem_cons_of_mem _ hp))
  obtain⟨g1,g2⟩:=h1
  simp only at g1 g2
  cases g2 with
  | dead=>simp [subH,h2]
  | box ag ds hd =>
   simp [subH,g1,h2,leL_map]
   exact hd
theorem sub_id{B:Nat}{s s':List (Nat×Bool×AV)}{h:List (Nat×HO)}(hh:∀ p∈h,AL.look h p.1=some p.2∧HOk p.2) (hs:subS [] [] ⟨s,h,[]⟩ h s'):Sub B ⟨s,h,[]⟩ ⟨s',h,[]⟩:=by
 refine⟨[],[],?_,hs,subH_id hh,?_,by simp⟩
 ·simp [rho,assocN]
  intros;omega
 ·simp [rho,assocN]
theorem u8_div(u i:Nat) (hi:i<8) (hu:u<18446744073709551616):shiftV false .u64 (u:Int) (8*(i:Int))=.int .u64 ((u / 256 ^ i:Nat):Int):=by
 have e:min (8*(i:Int)).toNat IntKind.u64.bits=8*i:=by simp [IntKind.bits];omega
 unfold shiftV
 rw [e]
 simp only [Bool.false_eq_true,if_false,Value.int.injEq,true_and]
 rw [Int.fdiv_eq_ediv_of_nonneg _ (Int.pow_nonneg (by omega)),show (256:Nat)=2 ^ 8 from rfl,← Nat.pow_mul]
 simp
theorem dU_conv(v:Nat):D.lit (.int .u8 (IntKind.u8.wrap (v:Int)))=dU (UInt8.ofNat v):=by rw [conv_u8];rfl
theorem putW_one(z:List D) (hz:∀ d∈z,d.one=true) (o n u i:Nat):∀ d∈putW z o n u i,d.one=true:=fun d hd=>by
 simp only [putW,List.mem_map,List.mem_range] at hd
 obtain⟨j,hj,rfl⟩:=hd
 split
 ·rfl
 ·simp only [List.getD,List.getElem?_eq_getElem hj]
  exact hz _ (List.getElem_mem hj)
theorem putH{cx:Cx}(u n o len c:Nat) (hu:u<18446744073709551616) (z:List D) (hz:∀ d∈z,d.one=true) (h:List (Nat×HO)) (hnd:(doms h).Nodup) (hh:∀ p∈h,AL.look h p.1=some p.2∧HOk p.2) (hn:AL.look h n=some (.box true (z.map .d)))
  (hl:o+len≤z.length) (h8:len≤8) (K:HOut→List (Nat×HO)→Prop) (hK:K (.ret (.tup [])) (setH h n (.box true ((putW z o len u len).map .d)))) :
  TF Tryz.prog a95 cx [.bsl n o 1 len c,.d (.lit (.int .u64 u))] h K:=by
 simp [a95]
 have hlk:∀ X:HO,AL.look (setH h n X) n=some X:=fun X=>by rw [look_setH,if_pos rfl]
 have hhX:∀ (i:Nat),∀ p∈setH h n (.box true ((putW z o len u i).map .d)),AL.look (setH h n (.box true ((putW z o len u i).map .d))) p.1=some p.2∧HOk p.2:=fun i p hp=>by
  rw [look_setH]
  rcases mem_setH hnd hp with rfl | ⟨hp,e⟩
  ·exact⟨by rw [if_pos rfl],.box _ _ (putW_one z hz _ _ _ _)⟩
  ·rw [if_neg e];exact hh p hp
 refine vc_loopG Nat (fun i=>⟨[(7,true,.d (dI i)),(0,true,.bsl n o 1 len c),(1,true,.d (.lit (.int .u64 u))),(6,true,.d (dI len))],setH h n (.box true ((putW z o len u i).map .d)),[]⟩) (fun i=>i≤len) (fun i=>len-i) 0 (by omega) ?_ (fun i hi=>?_)
 ·rw [putW_0,setH_same _ _ _ hn]
  refine sub_id hh ?_
  have:=mem_look hn
  simp
  exact⟨_,this⟩
 simp
 refine⟨fun hlt=>?_,fun hge=>?_⟩
 ·have e1:IntKind.i64.wrap (8*(i:Int))=8*(i:Int):=wrap64 (by omega)
  have e2:IntKind.i64.wrap (IntKind.i64.wrap ((len:Int)-1)-(i:Int))=((len-1-i:Nat):Int):=by rw [wrap64 (n:=(len:Int)-1) (by omega),wrap64 (by omega)];omega
  have e3:IntKind.i64.wrap ((i:Int)+1)=((i+1:Nat):Int):=by rw [wrap64 (by omega)];omega
  simp only [e1,e2,e3,u8_div u i (by omega) hu,hlk]
  simp [dU_conv,hlk,putW_len]
  refine⟨by omega,by omega,by omega,i+1,by omega,by omega,?_⟩
  have e5:D.lit (.int .u8 (IntKind.u8.wrap ((u:Int) / 256 ^ i)))=dU (UInt8.ofNat (u / 256 ^ i)):=by
   rw [show (u:Int) / 256 ^ i=((u / 256 ^ i:Nat):Int) by simp,dU_conv]
  rw [setH_setH,e5,← List.map_set,show o+(len-1-i)=o+(len-1-i) from rfl,putW_s z o len u i hlt hl]
  refine sub_id (hhX (i+1)) ?_
  simp
  exact⟨_,mem_look (hlk _)⟩
 ·have:i=len:=by omega
  subst this
  exact hK
def s0:S8:=⟨0x6a09e667,0xbb67ae85,0x3c6ef372,0xa54ff53a,0x510e527f,0x9b05688c,0x1f83d9ab,0x5be0cd19⟩
theorem glb0:glbD 0=some (.agg (s0.l.map dq)):=rfl
def bl (s:S8) (b:List UInt8):Nat→S8
 | 0=>s
 | i+1=>compress (bl s b i) ((b.drop (64*i)).take 64)
def endL (r:List UInt8) (n:Nat):List UInt8:=r++128::List.replicate ((if r.length≤55 then 55 else 119)-r.length) 0++putB 8 (n*8)
def shaS (b:List UInt8):S8:=bl (bl s0 b (b.length / 64)) (endL (b.drop (64*(b.length / 64))) b.length) (if (b.drop (64*(b.length / 64))).length≤55 then 1 else 2)
def outL (s:S8):List UInt8:=s.l.flatMap fun x=>putB 4 x.toNat
def shaL (b:List UInt8):List UInt8:=outL (shaS b)
theorem outL_len(s:S8):(outL s).length=32:=by simp [outL,S8.l,putB_len]
theorem shaL_len(b:List UInt8):(shaL b).length=32:=outL_len _
inductive C314:FuncId→List D→Out→Prop
 | word (b:List UInt8) (h:4≤b.length):C314 118 [dBy b] (.ret (dq (wordQ b)))
 | rot (x:UInt32) (c:Nat) (h1:0<c) (h2:c<32):C314 119 [dq x,dI (-(c:Int))] (.ret (dq (ror x c)))
 | rotd (x:UInt32) (a b c:Nat) (ha:0<a∧a<32) (hb:0<b∧b<32) (hc:0<c∧c<32):C314 120 [dq x,dI a,dI b,dI c] (.ret (dq (rot3 x a b c)))
theorem h314:∀ f ds out,C314 f ds out→PCall Tryz.prog f ds out:=by
 intro f ds out h
 cases h with
 | word b h=>exact dword b h
 | rot x c h1 h2=>exact rotl x c h1 h2
 | rotd x a b c ha hb hc=>exact rotated x a b c ha hb hc
theorem a314:CAbs C314:=⟨.word,.rot,.rotd⟩
def z32:List D:=List.replicate 32 (.lit (.int .u8 0))
theorem z32_one:∀ d∈z32,d.one=true:=fun d hd=>by simp [z32] at hd;rw [hd];rfl
def zrs (n:Nat):List D:=List.replicate n (.lit (.int .u8 0))
theorem zrs_len(n:Nat):(zrs n).length=n:=by simp [zrs,-List.reduceReplicate]
theorem zrs_one(n:Nat):∀ d∈zrs n,d.one=true:=fun d hd=>by
 rw [List.eq_of_mem_replicate hd];rfl
theorem zrs_eq(n:Nat):List.replicate n (D.lit (.int .u8 0))=zrs n:=rfl
theorem dUs_one(b:List UInt8):∀ d∈b.map dU,d.one=true:=fun d hd=>by
 obtain⟨x,_,rfl⟩:=List.mem_map.1 hd
 rfl
theorem wr_of{es:List D}(h:∀ d∈es,d.one=true):wr es=es.map .d:=by unfold wr;rw [flat_onesD _ h]
def spl (z:List D) (o:Nat) (y:List D):List D:=z.take o++y++z.drop (o+y.length)
theorem setAt_map:∀ (y z:List D) (o:Nat),o+y.length≤z.length→setAt (z.map AV.d) o (y.map AV.d)=(spl z o y).map AV.d
 | [],z,o,h=>by simp [setAt,spl]
 | c::r,z,o,h=>by
  simp only [List.length_cons] at h
  simp only [List.map_cons,setAt,← List.map_set]
  rw [setAt_map r (z.set o c) (o+1) (by simp;omega)]
  congr 1
  unfold spl
  rw [List.set_eq_take_append_cons_drop,if_pos (by omega)]
  simp only [List.length_cons]
  rw [List.take_append,List.drop_append]
  simp only [List.length_take]
  rw [Nat.min_eq_left (by omega),show o+1-o=1 by omega,show o+1+r.length-o=r.length+1 by omega]
  simp [List.take_take,List.drop_take]
  rw [show o+(r.length+1)=o+1+r.length by omega,show o-(o+1+r.length)=0 by omega]
  simp
def outA (S:S8) (i:Nat):List D:=((S.l.take i).flatMap fun x=>putB 4 x.toNat).map dU++zrs (32-4*i)
theorem outA_0(S:S8):outA S 0=z32:=by simp [outA,zrs,z32]
theorem outA_one(S:S8) (i:Nat):∀ d∈outA S i,d.one=true:=fun d hd=>by
 rcases List.mem_append.1 hd with h | h
 ·exact dUs_one _ _ h
 ·exact zrs_one _ _ h
theorem flat4_len:∀ l:List UInt32,(l.flatMap fun x=>putB 4 x.toNat).length=4*l.length
 | []=>rfl
 | x::r=>by simp [List.flatMap_cons,putB_len,flat4_len r];omega
theorem outA_len(S:S8) (i:Nat) (h:i≤8):(outA S i).length=32:=by
 have h8:S.l.length=8:=rfl
 simp only [outA,List.length_append,List.length_map,flat4_len,zrs_len,List.length_take,h8]
 omega
theorem outA_s(S:S8) (i:Nat) (h:i<8):putW (outA S i) (4*i) 4 (wat S.l i).toNat 4=outA S (i+1):=by
 have h8:S.l.length=8:=rfl
 rw [putW_n _ _ _ _ (by rw [outA_len _ _ (by omega)];omega)]
 have hf:(((S.l.take i).flatMap fun x=>putB 4 x.toNat).map dU).length=4*i:=by
  simp only [List.length_map,flat4_len,List.length_take,h8];omega
 have hg:S.l.take (i+1)=S.l.take i++[wat S.l i]:=by
  rw [List.take_add_one,List.getElem?_eq_getElem (by omega)]
  simp [wat,List.getElem?_eq_getElem (show i<S.l.length by omega)]
 unfold outA
 rw [List.take_append_of_le_length (by omega),List.take_of_length_le (by omega),List.drop_append,hf,List.drop_eq_nil_of_le (by omega),hg]
 simp only [List.flatMap_append,List.flatMap_cons,List.flatMap_nil,List.append_nil,List.map_append,List.nil_append]
 congr 1
 unfold zrs
 rw [List.drop_replicate]
 congr 1
 omega
theorem outA_8(S:S8):outA S 8=(outL S).map dU:=by
 have h8:S.l.take 8=S.l:=rfl
 simp [outA,h8,outL,zrs]
theorem sum(b:List UInt8) (hb:b.length<1152921504606846976):PCall Tryz.prog 71 [dBy b] (.ret (.agg ((shaL b).map dU))):=by
 refine pcall_of_vc h314 c71 (by simp [a71]) fun hr=>?_
 simp [a71,glb0,-List.reduceReplicate]
 refine⟨rfl,?_⟩
 refine vc_loopG Nat (fun i=>⟨[(5,true,.d (dBy (b.drop (64*i)))),(4,true,.fn (.func 94) [.ptr 1 0] []),(0,true,.d (dBy b)),(2,true,.ptr 0 0),(3,true,.ptr 1 0)],[(0,.box true (z32.map .d)),(1,.box true (aq (bl s0 b i).l)),(2,.dead)],[]⟩) (fun i=>64*i≤b.length) (fun i=>b.length-64*i) 0 (by omega) ⟨[],[],?_⟩ (fun i hi=>?_)
 ·simp [dBy,bl,z32]
  exact⟨of_eq_true (leL_aq _ _ _ _ s0.l),aq_one _⟩
 simp [dBy,zrs_eq,-List.reduceReplicate]
 refine⟨fun hge=>?_,fun hlt=>?_⟩
 ·refine regS_path [] ?_
  simp
  refine⟨by omega,icall_T (TF Tryz.prog a94) (hcall_of_vc c94) ?_⟩
  refine absorbH rfl rfl a314 (bl s0 b i) ((b.drop (64*i)).take 64) (by simp;omega) z32 z32_one .dead _ (.inl ⟨rfl,by simp [dBy]⟩) _ (fun x3 x4=>?_)
  have e:List.drop 64 (List.take (b.length-64*i) (List.drop (64*i) (List.map dU b)))=List.drop (64*(i+1)) (List.map dU b):=by
   rw [List.take_of_length_le (by simp),List.drop_drop];rfl
  simp [e]
  refine⟨by omega,i+1,by omega,by omega,[],[],?_⟩
  simp [bl,leL_aq,leL_md]
  exact⟨z32_one,aq_one _⟩
 ·have hlt:b.length-64*i<64:=by omega
  have hq:i=b.length / 64:=by omega
  have hsh:shaS b=bl (bl s0 b i) (endL (b.drop (64*i)) b.length) (if (b.drop (64*i)).length≤55 then 1 else 2):=by rw [hq];rfl
  rw [← List.map_drop]
  generalize hrr:b.drop (64*i)=r at *
  have hrl:r.length=b.length-64*i:=by rw [← hrr];simp
  have hwz:wr (zrs 128)=(zrs 128).map .d:=wr_of (zrs_one _)
  have hwr:wr (List.take (min (b.length-64*i) 64) (r.map dU))=(r.map dU).map .d:=by
   rw [List.take_of_length_le (by simp;omega),wr_of (dUs_one r)]
  rw [hwz,hwr,setAt_map _ _ _ (by rw [zrs_len];simp;omega),← hrl,flat_onesD _ (zrs_one _)]
  simp only [zrs_len,List.length_map]
  generalize hza:(spl (zrs 128) 0 (r.map dU)).set r.length (dU 128)=za
  have hset:((spl (zrs 128) 0 (r.map dU)).map AV.d).set r.length (.d (.lit (.int .u8 128)))=za.map .d:=by
   rw [← hza,List.map_set];rfl
  rw [← hrl] at hlt
  have hzl:(spl (zrs 128) 0 (r.map dU)).length=128:=by simp [spl,zrs_len];omega
  have hzal:za.length=128:=by rw [← hza,List.length_set,hzl]
  have hza1:∀ d∈za,d.one=true:=fun d hd=>by
   rw [← hza] at hd
   rcases List.mem_or_eq_of_mem_set hd with h | h
   ·unfold spl at h
    simp only [List.take_zero,List.nil_append,List.mem_append] at h
    rcases h with h | h
    ·exact dUs_one _ _ h
    ·exact zrs_one _ _ (List.mem_of_mem_drop h)
   ·rw [h];rfl
  have hw1:IntKind.u64.wrap (b.length:Int)=b.length:=wrap_u64 (by omega) (by omega)
  have hw2:IntKind.u64.wrap ((b.length:Int)*8)=((b.length*8:Nat):Int):=by rw [wrap_u64 (by omega) (by omega)];omega
  have hend:∀ N:Nat,(r.length≤55→N=64)→(55<r.length→N=128)→(putW za (N-8) 8 (b.length*8) 8).take N=(endL r b.length).map dU:=fun N h1 h2=>by
   have hN:N=(if r.length≤55 then 64 else 128):=by split <;> omega
   rw [putW_n _ _ _ _ (by split at hN <;> omega)]
   have hN8:N-8=(if r.length≤55 then 55 else 119)+1:=by split <;> split at hN <;> omega
   rw [List.take_append_of_le_length (by simp [putB_len,hzal];split at hN <;> omega),List.take_of_length_le (by simp [putB_len,hzal];split at hN <;> omega)]
   unfold endL
   rw [List.map_append]
   congr 1
   rw [← hza,hN8]
   generalize hM:(if r.length≤55 then 55 else 119)=M
   have hMr:r.length≤M∧M+1≤128:=by split at hM <;> omega
   refine List.ext_getElem? fun k=>?_
   rw [List.getElem?_take]
   split
   ·rw [List.getElem?_set]
    by_cases e1:r.length=k
    ·subst e1
     rw [if_pos rfl,if_pos (by omega)]
     simp
    ·rw [if_neg e1]
     unfold spl
     simp only [List.take_zero,List.nil_append]
     rcases Nat.lt_or_ge k r.length with h | h
     ·rw [List.getElem?_append_left (by simpa using h),List.map_append,List.getElem?_append_left (by simpa using h)]
     ·rw [List.getElem?_append_right (by simpa using h),List.map_append,List.getElem?_append_right (by simpa using h)]
      simp only [List.length_map,Nat.zero_add,List.map_cons]
      obtain⟨j,hj⟩:∃ j,k-r.length=j+1:=⟨k-r.length-1,by omega⟩
      rw [hj,List.getElem?_cons_succ,List.getElem?_drop]
      simp only [zrs,List.map_replicate]
      rw [List.getElem?_replicate,List.getElem?_replicate,if_pos (by omega),if_pos (by omega)]
      rfl
   ·rw [List.getElem?_eq_none (by simp;omega)]
  have hpl:∀ o:Nat,(putW za o 8 (b.length*8) 8).length=128:=fun o=>by rw [putW_len,hzal]
  refine⟨by omega,by omega,by rw [hzl];omega,fun h55=>?_,fun h55=>?_⟩
  ·have hsh2:shaS b=bl (bl s0 b i) (endL r b.length) 2:=by rw [hsh];congr 1;split <;> omega
   have hE:=hend 128 (by omega) (by omega)
   have hpo:=putW_one za hza1 120 8 (b.length*8) 8
   have hplP:=hpl 120
   refine regS_path [] ?_
   simp [hset,bslV,hw1,hw2,show IntKind.i64.wrap 120=120 from rfl]
   refine icall_T (TF Tryz.prog a95) (hcall_of_vc c95) ?_
   refine putH (b.length*8) _ _ _ _ (by omega) za hza1 _ (by simp) ?_ (by simp) (by omega) (by omega) _ ?_
   ·intro p hp
    simp at hp
    rcases hp with rfl | rfl | rfl | rfl
    ·exact⟨by simp,.box _ _ z32_one⟩
    ·exact⟨by simp,.box _ _ (fun d hd=>by simp at hd;obtain⟨x,_,rfl⟩:=hd;rfl)⟩
    ·exact⟨by simp,.dead⟩
    ·exact⟨by simp,.box _ _ hza1⟩
   generalize putW za 120 8 (b.length*8) 8=zE at *
   simp
   refine vc_loopG Nat (fun j=>⟨[(6,true,if j=2 then .d (.sl 1 []) else .bsl 2 (64*j) 1 (128-64*j) (128-64*j)),(4,true,.fn (.func 94) [.ptr 1 0] []),(2,true,.ptr 0 0),(3,true,.ptr 1 0)],[(0,.box true (z32.map .d)),(1,.box true (aq (bl (bl s0 b i) (endL r b.length) j).l)),(2,.box true (zE.map .d))],[]⟩) (fun j=>j≤2) (fun j=>2-j) 0 (by omega) ⟨[(2,3)],[],?_⟩ (fun j hj=>?_)
   ·simp [bl,leL_aq,leL_md]
    exact⟨z32_one,aq_one _,hpo⟩
   have hEl:(endL r b.length).length=128:=by
    have:=congrArg List.length hE
    simp [hplP] at this
    omega
   have hEd:∀ j:Nat,64*j+64≤128→(zE.drop (64*j)).take 64=(((endL r b.length).drop (64*j)).take 64).map dU:=fun j h=>by
    rw [List.map_take,List.map_drop,← hE,List.drop_take,List.take_take,Nat.min_eq_left (by omega)]
   have hjj:j=0∨j=1∨j=2:=by omega
   rcases hjj with rfl | rfl | rfl
   ·simp
    refine regS_path [] ?_
    simp [bslV]
    refine icall_T (TF Tryz.prog a94) (hcall_of_vc c94) ?_
    refine absorbH rfl rfl a314 (bl (bl s0 b i) (endL r b.length) 0) (((endL r b.length).drop (64*0)).take 64) (by simp;omega) z32 z32_one _ _ (.inr ⟨zE,64*0,_,rfl,hpo,rfl,hEd 0 (by omega),by omega⟩) _ (fun x3 x4=>?_)
    simp [bslV]
    refine⟨1,by omega,by omega,[],[],?_⟩
    simp [bl,leL_aq,leL_md]
    exact⟨z32_one,aq_one _,hpo⟩
   ·simp
    refine regS_path [] ?_
    simp [bslV]
    refine icall_T (TF Tryz.prog a94) (hcall_of_vc c94) ?_
    refine absorbH rfl rfl a314 (bl (bl s0 b i) (endL r b.length) 1) (((endL r b.length).drop (64*1)).take 64) (by simp;omega) z32 z32_one _ _ (.inr ⟨zE,64*1,_,rfl,hpo,rfl,hEd 1 (by omega),by omega⟩) _ (fun x3 x4=>?_)
    simp [bslV]
    refine⟨2,by omega,by omega,[],[],?_⟩
    simp [bl,leL_aq,leL_md]
    exact⟨z32_one,aq_one _,hpo⟩
   ·generalize hS:bl (bl s0 b i) (endL r b.length) 2=S at hsh2
    have hall:allD ((aq S.l).take 8)=some (S.l.map dq):=by
     rw [List.take_of_length_le (by rw [aq_len];exact Nat.le_refl 8)]
     exact allD_map _
    simp [hall]
    refine⟨Nat.le_refl 8,?_⟩
    refine vc_loopG Nat (fun k=>⟨[(54,true,.d (dI k)),(53,true,.d (.agg (S.l.map dq))),(2,true,.ptr 0 0)],[(0,.box true ((outA S k).map .d)),(1,.box true (aq S.l)),(2,.box true (zE.map .d))],[]⟩) (fun k=>k≤8) (fun k=>8-k) 0 (by omega) ⟨[],[],?_⟩ (fun k hk=>?_)
    ·simp [outA_0,leL_aq,leL_md,hall]
     exact⟨z32_one,aq_one _,hpo⟩
    simp
    refine⟨fun hlt8=>?_,fun hge8=>?_⟩
    ·have hlt8:k<8:=by omega
     have e1:IntKind.i64.wrap (4*(k:Int))=4*(k:Int):=wrap64 (by omega)
     have e2:IntKind.i64.wrap (4*(k:Int)+4)=4*(k:Int)+4:=wrap64 (by omega)
     have e3:IntKind.i64.wrap ((k:Int)+1)=((k+1:Nat):Int):=by rw [wrap64 (by omega)];omega
     have e4:∀ x:UInt32,IntKind.u64.wrap (q x)=(x.toNat:Int):=fun x=>by
      have:=x.toNat_lt
      exact wrap_u64 (by unfold q;omega) (by unfold q;omega)
     have t1:(4*(k:Int)+4).toNat-4*k=4:=by omega
     have t2:(4*(k:Int)).toNat=4*k:=by omega
     have hg:(S.l)[k]?=some (wat S.l k):=by
      have:S.l.length=8:=rfl
      unfold wat
      rw [List.getElem?_eq_getElem (by omega)]
      simp [List.getElem?_eq_getElem (show k<S.l.length by omega)]
     have hsl:S.l.length=8:=rfl
     simp [hg,hsl]
     refine⟨⟨by omega,by omega⟩,regS_path [] ?_⟩
     simp [e1,e2,e3,e4,t1,t2,bslV,dq]
     refine⟨⟨by omega,by omega,by omega⟩,?_⟩
     refine icall_T (TF Tryz.prog a95) (hcall_of_vc c95) ?_
     refine putH (wat S.l k).toNat 0 (4*k) 4 (32-4*k) (by have:=(wat S.l k).toNat_lt;omega) (outA S k) (outA_one S k) _ (by simp) ?_ (by simp) (by rw [outA_len _ _ (by omega)];omega) (by omega) _ ?_
     ·intro p hp
      simp at hp
      rcases hp with rfl | rfl | rfl
      ·exact⟨by simp,.box _ _ (outA_one S k)⟩
      ·exact⟨by simp,.box _ _ (fun d hd=>by simp at hd;obtain⟨x,_,rfl⟩:=hd;rfl)⟩
      ·exact⟨by simp,.box _ _ hpo⟩
     rw [outA_s S k hlt8]
     simp [e3]
     refine⟨k+1,by omega,by omega,[],[],?_⟩
     simp [leL_aq,leL_md]
     exact⟨outA_one _ _,aq_one _,hpo⟩
    ·have hk8:k=8:=by omega
     subst hk8
     have hl32:=outA_len S 8 (by omega)
     have hall2:allD (((outA S 8).map AV.d).take 32)=some (outA S 8):=by
      rw [List.take_of_length_le (by simp [hl32])]
      exact allD_map _
     have hsa:setAt ((outA S 8).map AV.d) 0 ((outA S 8).map AV.d)=(outA S 8).map AV.d:=by
      rw [setAt_map _ _ _ (by omega)]
      unfold spl
      rw [List.drop_eq_nil_of_le (by omega)]
      simp
     have hfin:shaL b=outL S:=by unfold shaL;rw [hsh2]
     simp [hall2,hsa,hl32]
     rw [hfin,outA_8]
     exact LeD.refl _
  ·have hsh2:shaS b=bl (bl s0 b i) (endL r b.length) 1:=by rw [hsh];congr 1;split <;> omega
   have hE:=hend 64 (by omega) (by omega)
   have hpo:=putW_one za hza1 56 8 (b.length*8) 8
   have hplP:=hpl 56
   refine regS_path [] ?_
   simp [hset,bslV,hw1,hw2,show IntKind.i64.wrap 56=56 from rfl]
   refine icall_T (TF Tryz.prog a95) (hcall_of_vc c95) ?_
   refine putH (b.length*8) _ _ _ _ (by omega) za hza1 _ (by simp) ?_ (by simp) (by omega) (by omega) _ ?_
   ·intro p hp
    simp at hp
    rcases hp with rfl | rfl | rfl | rfl
    ·exact⟨by simp,.box _ _ z32_one⟩
    ·exact⟨by simp,.box _ _ (fun d hd=>by simp at hd;obtain⟨x,_,rfl⟩:=hd;rfl)⟩
    ·exact⟨by simp,.dead⟩
    ·exact⟨by simp,.box _ _ hza1⟩
   generalize putW za 56 8 (b.length*8) 8=zE at *
   simp
   refine vc_loopG Nat (fun j=>⟨[(6,true,if j=1 then .d (.sl 1 []) else .bsl 2 (64*j) 1 (64-64*j) (128-64*j)),(4,true,.fn (.func 94) [.ptr 1 0] []),(2,true,.ptr 0 0),(3,true,.ptr 1 0)],[(0,.box true (z32.map .d)),(1,.box true (aq (bl (bl s0 b i) (endL r b.length) j).l)),(2,.box true (zE.map .d))],[]⟩) (fun j=>j≤1) (fun j=>1-j) 0 (by omega) ⟨[(2,3)],[],?_⟩ (fun j hj=>?_)
   ·simp [bl,leL_aq,leL_md]
    exact⟨z32_one,aq_one _,hpo⟩
   have hEl:(endL r b.length).length=64:=by
    have:=congrArg List.length hE
    simp [hplP] at this
    omega
   have hEd:∀ j:Nat,64*j+64≤64→(zE.drop (64*j)).take 64=(((endL r b.length).drop (64*j)).take 64).map dU:=fun j h=>by
    rw [List.map_take,List.map_drop,← hE,List.drop_take,List.take_take,Nat.min_eq_left (by omega)]
   have hjj:j=0∨j=1:=by omega
   rcases hjj with rfl | rfl
   ·simp
    refine regS_path [] ?_
    simp [bslV]
    refine icall_T (TF Tryz.prog a94) (hcall_of_vc c94) ?_
    refine absorbH rfl rfl a314 (bl (bl s0 b i) (endL r b.length) 0) (((endL r b.length).drop (64*0)).take 64) (by simp;omega) z32 z32_one _ _ (.inr ⟨zE,64*0,_,rfl,hpo,rfl,hEd 0 (by omega),by omega⟩) _ (fun x3 x4=>?_)
    simp [bslV]
    refine⟨1,by omega,by omega,[],[],?_⟩
    simp [bl,leL_aq,leL_md]
    exact⟨z32_one,aq_one _,hpo⟩
   ·generalize hS:bl (bl s0 b i) (endL r b.length) 1=S at hsh2
    have hall:allD ((aq S.l).take 8)=some (S.l.map dq):=by
     rw [List.take_of_length_le (by rw [aq_len];exact Nat.le_refl 8)]
     exact allD_map _
    simp [hall]
    refine⟨Nat.le_refl 8,?_⟩
    refine vc_loopG Nat (fun k=>⟨[(54,true,.d (dI k)),(53,true,.d (.agg (S.l.map dq))),(2,true,.ptr 0 0)],[(0,.box true ((outA S k).map .d)),(1,.box true (aq S.l)),(2,.box true (zE.map .d))],[]⟩) (fun k=>k≤8) (fun k=>8-k) 0 (by omega) ⟨[],[],?_⟩ (fun k hk=>?_)
    ·simp [outA_0,leL_aq,leL_md,hall]
     exact⟨z32_one,aq_one _,hpo⟩
    simp
    refine⟨fun hlt8=>?_,fun hge8=>?_⟩
    ·have hlt8:k<8:=by omega
     have e1:IntKind.i64.wrap (4*(k:Int))=4*(k:Int):=wrap64 (by omega)
     have e2:IntKind.i64.wrap (4*(k:Int)+4)=4*(k:Int)+4:=wrap64 (by omega)
     have e3:IntKind.i64.wrap ((k:Int)+1)=((k+1:Nat):Int):=by rw [wrap64 (by omega)];omega
     have e4:∀ x:UInt32,IntKind.u64.wrap (q x)=(x.toNat:Int):=fun x=>by
      have:=x.toNat_lt
      exact wrap_u64 (by unfold q;omega) (by unfold q;omega)
     have t1:(4*(k:Int)+4).toNat-4*k=4:=by omega
     have t2:(4*(k:Int)).toNat=4*k:=by omega
     have hg:(S.l)[k]?=some (wat S.l k):=by
      have:S.l.length=8:=rfl
      unfold wat
      rw [List.getElem?_eq_getElem (by omega)]
      simp [List.getElem?_eq_getElem (show k<S.l.length by omega)]
     have hsl:S.l.length=8:=rfl
     simp [hg,hsl]
     refine⟨⟨by omega,by omega⟩,regS_path [] ?_⟩
     simp [e1,e2,e3,e4,t1,t2,bslV,dq]
     refine⟨⟨by omega,by omega,by omega⟩,?_⟩
     refine icall_T (TF Tryz.prog a95) (hcall_of_vc c95) ?_
     refine putH (wat S.l k).toNat 0 (4*k) 4 (32-4*k) (by have:=(wat S.l k).toNat_lt;omega) (outA S k) (outA_one S k) _ (by simp) ?_ (by simp) (by rw [outA_len _ _ (by omega)];omega) (by omega) _ ?_
     ·intro p hp
      simp at hp
      rcases hp with rfl | rfl | rfl
      ·exact⟨by simp,.box _ _ (outA_one S k)⟩
      ·exact⟨by simp,.box _ _ (fun d hd=>by simp at hd;obtain⟨x,_,rfl⟩:=hd;rfl)⟩
      ·exact⟨by simp,.box _ _ hpo⟩
     rw [outA_s S k hlt8]
     simp [e3]
     refine⟨k+1,by omega,by omega,[],[],?_⟩
     simp [leL_aq,leL_md]
     exact⟨outA_one _ _,aq_one _,hpo⟩
    ·have hk8:k=8:=by omega
     subst hk8
     have hl32:=outA_len S 8 (by omega)
     have hall2:allD (((outA S 8).map AV.d).take 32)=some (outA S 8):=by
      rw [List.take_of_length_le (by simp [hl32])]
      exact allD_map _
     have hsa:setAt ((outA S 8).map AV.d) 0 ((outA S 8).map AV.d)=(outA S 8).map AV.d:=by
      rw [setAt_map _ _ _ (by omega)]
      unfold spl
      rw [List.drop_eq_nil_of_le (by omega)]
      simp
     have hfin:shaL b=outL S:=by unfold shaL;rw [hsh2]
     simp [hall2,hsa,hl32]
     rw [hfin,outA_8]
     exact LeD.refl _
end

section
theorem dBy_cells(l:List UInt8):(dBy l).cells=[dBy l]:=rfl
theorem dBy_one(l:List UInt8):(dBy l).one=true:=rfl
theorem dBy_agg(l:List UInt8):(dBy l).isAgg=false:=rfl
theorem dBy_noTup(l:List UInt8):(AV.d (dBy l)).noTup=true:=rfl
theorem dBy_nt(l:List UInt8) (ds:List D):(dBy l=.tup ds)=False:=by simp [dBy]
attribute [local simp] dBy_cells dBy_one dBy_agg dBy_noTup dBy_nt
def catB (ls:List (List UInt8)) (k:Nat):List UInt8:=(ls.take k).flatten
theorem catB_zero(ls:List (List UInt8)):catB ls 0=[]:=by simp [catB]
theorem catB_succ{ls:List (List UInt8)}{k:Nat}(h:k<ls.length):catB ls (k+1)=catB ls k++ls[k]:=by
 unfold catB
 have:ls.take (k+1)=ls.take k++[ls[k]]:=by rw [List.take_add_one,List.getElem?_eq_getElem h];rfl
 rw [this,List.flatten_append];simp
theorem catB_le(ls:List (List UInt8)) (k:Nat):(catB ls k).length≤(catB ls ls.length).length:=by
 unfold catB
 rw [List.take_length]
 conv=>rhs;rw [← List.take_append_drop k ls]
 rw [List.flatten_append,List.length_append];omega
set_option maxRecDepth 8000 in
theorem concatB(ls:List (List UInt8)) (hb:(catB ls ls.length).length≤100000000000):PCall Tryz.prog 72 [.sl 1 (ls.map dBy)] (.ret (dBy (catB ls ls.length))):=by
 refine pcall_of_vc noC c72 (by simp [a72]) fun hr=>?_
 have hlen:=(hr (.sl 1 (ls.map dBy)) (by simp)).sl.1
 simp at hlen
 simp [a72]
 refine vc_loopK [0,2,9,10] Nat (fun k=>[(11,true,.d (dI k)),(3,true,.d (dI (((catB ls k).length:Nat):Int)))]) (fun k=>[]) (fun k=>k≤ls.length) (fun k=>ls.length-k) 0 (by simp) ⟨[],[],?_⟩ (fun k h1=>?_)
 ·simp [catB_zero]
 simp
 refine⟨fun hlt=>?_,fun hge=>?_⟩
 ·simp [hlt,dBy]
  have hs:=catB_succ hlt
  have hl:(catB ls (k+1)).length=(catB ls k).length+ls[k].length:=by rw [hs,List.length_append]
  have hle:=catB_le ls (k+1)
  rw [wrap64 (n:=((catB ls k).length:Int)+ls[k].length) (by omega)]
  refine⟨fun hneg=>by omega,fun _=>⟨k+1,by omega,by omega,[],[],?_⟩⟩
  rw [wrap64 (by omega),hl]
  simp
 ·have hk:k=ls.length:=by omega
  subst hk
  refine regS_path [] ?_
  simp
  refine icall_T (TF Tryz.prog a96) (hcall_of_vc c96) ?_
  simp [a96]
  refine⟨fun hneg=>absurd hneg (by omega),?_⟩
  have w0:IntKind.i64.wrap 0=0:=wrap64 (by omega)
  have w1:IntKind.i64.wrap ((catB ls ls.length).length:Int)=(catB ls ls.length).length:=wrap64 (by omega)
  simp [w0,w1]
  have hc0:∀ x:Nat,x<0→False:=fun x h=>by omega
  refine⟨fun hp=>⟨by omega,?_⟩,fun hz=>?_⟩
  all_goals
   refine vc_loopK [0,25,26] Nat (fun k=>[(27,true,.d (dI k)),(6,true,.own 0 1 ((catB ls k).map dU))]) (fun k=>[(0,.row)]) (fun k=>k≤ls.length) (fun k=>ls.length-k) 0 (by simp) (by first | (refine⟨[],[],?_⟩;simp [catB_zero];done) | (refine⟨[],[(0,1)],?_⟩;simp [catB_zero];done)) (fun k h1=>?_)
   simp
   refine⟨fun hlt=>?_,fun hge=>?_⟩
   ·simp [hlt,dBy]
    have hs:=catB_succ hlt
    have hl:(catB ls (k+1)).length=(catB ls k).length+ls[k].length:=by rw [hs,List.length_append]
    have hle:=catB_le ls (k+1)
    refine⟨⟨by omega,by omega⟩,k+1,by omega,by omega,[(0,1)],[],?_⟩
    rw [wrap64 (by omega)]
    simp [hs]
   ·have hk:k=ls.length:=by omega
    subst hk
    simp [dBy]
    done
theorem setAt_all(cs news:List AV) (h:news.length=cs.length):setAt cs 0 news=news:=by
 apply List.ext_getElem?
 intro i
 rw [get_setAt]
 simp only [Nat.zero_le,true_and,Nat.zero_add,Nat.sub_zero]
 split
 ·rfl
 ·rw [List.getElem?_eq_none (by omega),List.getElem?_eq_none (by omega)]
theorem eqC_dUn:∀ (n:Nat) (a b:List UInt8),a.length=n→b.length=n→eqC (List.replicate n (SK.int IntKind.u8)) (a.map dU) (b.map dU)=True
 | 0,[],[],_,_=>rfl
 | n+1,x::a,y::b,h1,h2=>by
  simp only [List.replicate_succ,List.map_cons,dU,eqC_int,true_and]
  exact eqC_dUn n a b (by simpa using h1) (by simpa using h2)
theorem eqC_dU{a b:List UInt8}(h1:a.length=32) (h2:b.length=32):eqC [SK.int IntKind.u8,SK.int IntKind.u8,SK.int IntKind.u8,SK.int IntKind.u8,SK.int IntKind.u8,SK.int IntKind.u8,SK.int IntKind.u8,SK.int IntKind.u8,SK.int IntKind.u8,SK.int IntKind.u8,SK.int IntKind.u8,SK.int IntKind.u8,SK.int IntKind.u8,SK.int IntKind.u8,SK.int IntKind.u8,SK.int IntKind.u8,SK.int IntKind.u8,SK.int IntKind.u8,SK.int IntKind.u8,SK.int IntKind.u8,SK.int IntKind.u8,SK.int IntKind.u8,SK.int IntKind.u8,SK.int IntKind.u8,SK.int IntKind.u8,SK.int IntKind.u8,SK.int IntKind.u8,SK.int IntKind.u8,SK.int IntKind.u8,SK.int IntKind.u8,SK.int IntKind.u8,SK.int IntKind.u8] (a.map dU) (b.map dU)=True:=eqC_dUn 32 a b h1 h2
theorem eqB_dU:∀ (a b:List UInt8),a.length=b.length→eqB (a.map dU) (b.map dU)=decide (a=b)
 | [],[],_=>rfl
 | x::a,y::b,h=>by
  simp only [List.map_cons,dU,eqB_int]
  have ih:=eqB_dU a b (by simpa using h)
  rw [ih]
  have:((x.toNat:Int) == (y.toNat:Int))=decide (x=y):=by
   by_cases hx:x=y
   ·simp [hx]
   ·have:x.toNat≠y.toNat:=fun q=>hx (UInt8.toNat_inj.1 q)
    simp [hx]
    omega
  rw [this]
  simp [Bool.decide_and]
theorem allD_dU(A:List UInt8):allD (A.map (AV.d∘dU))=some (A.map dU):=by
 induction A with
 | nil=>rfl
 | cons a r ih=>simp [allD,ih]
structure Lk where
 n:Int
 o:Int
 p:List UInt8
 d:List UInt8
 hp:p.length=32
 hn:-9223372036854775808≤n∧n<9223372036854775808
 ho:-9223372036854775808≤o∧o<9223372036854775808
 deriving DecidableEq
theorem Lk.ext{x y:Lk}(h1:x.n=y.n) (h2:x.o=y.o) (h3:x.p=y.p) (h4:x.d=y.d):x=y:=by
 cases x;cases y;simp_all
def tagL (t b:List UInt8):List UInt8:=shaL (shaL t++b)
theorem tagL_len(t b:List UInt8):(tagL t b).length=32:=shaL_len _
def nV (n:Int):Vl:=.mk 1 n [] []
def tV (b:List UInt8):Vl:=.mk 2 0 b []
def lV (l:List Vl):Vl:=.mk 3 0 [] l
theorem zz_ltP(n:Int) (h:-9223372036854775808≤n∧n<9223372036854775808):zz n<128 ^ 10:=by
 unfold zz;split <;> omega
theorem numL_le:∀ u:Nat,(numL u).length≤u+1:=by
 intro u
 induction u using Nat.strongRecOn with
 | _ u ih =>
  rw [numL]
  split
  ·simp
  ·have:=ih (u / 128) (by omega)
   simp;omega
def n0 (l:List Lk):Int:=match l.head? with | none=>0 | some x=>x.n
end

section
attribute [local simp] dZ_agg dZ_nt dZ_noTup dZ_cells dZ_one bz_toList bz_size strV dV_cells dV_isAgg dV_noTup dV_nt dBy_cells dBy_one dBy_agg dBy_noTup dBy_nt
set_option maxRecDepth 8000
set_option maxHeartbeats 4000000
inductive C323a:FuncId→List D→Out→Prop
 | sum (b:List UInt8) (hb:b.length<1152921504606846976):C323a 71 [dBy b] (.ret (.agg ((shaL b).map dU)))
 | cat (ls:List (List UInt8)) (hb:(catB ls ls.length).length≤100000000000):C323a 72 [.sl 1 (ls.map dBy)] (.ret (dBy (catB ls ls.length)))
theorem h323a:∀ f ds out,C323a f ds out→PCall Tryz.prog f ds out:=by
 intro f ds out h
 cases h with
 | sum b hb=>exact sum b hb
 | cat ls hb=>exact concatB ls hb
theorem elsD_dU(b:List UInt8) (n:Nat) (h:b.length=n):elsD 1 n (b.map dU)=b.map dU:=by
 unfold elsD
 rw [if_pos rfl,List.take_of_length_le (by simp;omega)]
theorem tagged(t b:List UInt8) (ht:t.length≤1000) (hb:b.length≤10000000000):PCall Tryz.prog 45 [dZ t,dBy b] (.ret (.agg ((tagL t b).map dU))):=by
 refine pcall_of_vc h323a c45 (by simp [a45]) fun hr=>?_
 have h1:=C323a.sum t (by omega)
 have hcat:catB [shaL t,b] 2=shaL t++b:=by simp [catB]
 have hl:=shaL_len t
 have h2:=C323a.cat [shaL t,b] (by simp only [List.length_cons,List.length_nil];rw [hcat,List.length_append,hl];omega)
 have h3:=C323a.sum (shaL t++b) (by rw [List.length_append,hl];omega)
 simp only [List.length_cons,List.length_nil,hcat] at h2
 simp [a45,dZ_eq,-List.reduceReplicate]
 refine vc_path [.ret (.agg ((shaL t).map dU))] ?_
 simp [strD_bz]
 refine⟨h1,hl,?_⟩
 refine vc_path [.ret (dBy (shaL t++b)),.ret (.agg ((shaL (shaL t++b)).map dU))] ?_
 have hl2:=shaL_len (shaL t++b)
 have hB:tagL t b=shaL (shaL t++b):=rfl
 generalize shaL t=A at *
 generalize shaL (A++b)=B at *
 set_option maxHeartbeats 400000 in
 simp [setAt_all,allD_dU,hl,hl2]
 refine⟨by rw [elsD_dU _ _ hl];exact h2,h3,?_⟩
 rw [List.take_of_length_le (by simp [hl2]),allD_dU,hB]
 simp
theorem leD_tail{k n s:D}(hk:k.one=true) (hn:n.one=true) (hs:s.one=true):LeD (.agg [k,n,s,.nil 4]) (.agg [k,n,s,.sl 4 []]) :=
 LeD.agg (.cons (LeD.refl _) (.cons (LeD.refl _) (.cons (LeD.refl _) (.cons (LeD.nil' _ _) .nil)))) (by intro d hd;simp at hd;rcases hd with rfl | rfl | rfl | rfl <;> first | assumption | rfl)
theorem LeD_sl{sz:Nat}{es es':List D}(hl:All2 LeD (D.flat es) (D.flat es')) (hlen:es.length=es'.length) (hz:∀ e∈es',e.cells.length=sz) (h1:∀ c∈D.flat es',c.one=true):LeD (.sl sz es) (.sl sz es'):=fun I w v r=>by
 cases r with
 | sl ad vs hn hc hm hA hz0 h10 hI hr =>
  refine .sl ad vs (hn.trans hlen) hc hm (hA.imp id fun e=>?_) hz h1 (fun k c hk=>?_) (fun k c hk=>?_)
  ·subst e;exact List.eq_nil_of_length_eq_zero (by rw [← hlen];rfl)
  ·obtain⟨x,hx,_⟩:=all2_get hl hk
   exact hI k x hx
  ·obtain⟨x,hx,hle⟩:=all2_get hl hk
   exact hle _ _ _ (hr k x hx)
end

section
theorem u32_ext{x y:UInt32}(h:x.toBitVec=y.toBitVec):x=y:=UInt32.toBitVec_inj.1 h
theorem ch_eq(e f g:UInt32):(e&&&f)^^^(~~~e&&&g)=g^^^e&&&(f^^^g):=by
 apply u32_ext
 simp only [UInt32.toBitVec_xor,UInt32.toBitVec_and,UInt32.toBitVec_not]
 generalize e.toBitVec=e
 generalize f.toBitVec=f
 generalize g.toBitVec=g
 apply BitVec.eq_of_getLsbD_eq
 intro i hi
 simp only [BitVec.getLsbD_xor,BitVec.getLsbD_and,BitVec.getLsbD_not,hi,decide_true,Bool.true_and]
 cases e.getLsbD i <;> cases f.getLsbD i <;> cases g.getLsbD i <;> rfl
theorem maj_eq(a b c:UInt32):(a&&&b)^^^(a&&&c)^^^(b&&&c)=a&&&b|||c&&&(a|||b):=by
 apply u32_ext
 simp only [UInt32.toBitVec_xor,UInt32.toBitVec_and,UInt32.toBitVec_or]
 generalize a.toBitVec=e
 generalize b.toBitVec=f
 generalize c.toBitVec=g
 apply BitVec.eq_of_getLsbD_eq
 intro i hi
 simp only [BitVec.getLsbD_xor,BitVec.getLsbD_and,BitVec.getLsbD_or]
 cases e.getLsbD i <;> cases f.getLsbD i <;> cases g.getLsbD i <;> rfl
theorem shl_or(x y:UInt32) (k:Nat) (h:k<32):(x|||y) <<< UInt32.ofNat k=x <<< UInt32.ofNat k|||y <<< UInt32.ofNat k:=by
 apply UInt32.toNat_inj.1
 simp only [UInt32.toNat_shiftLeft,UInt32.toNat_or,UInt32.toNat_ofNat']
 rw [show k % 2 ^ 32 % 32=k by omega,Nat.shiftLeft_or_distrib,Nat.or_mod_two_pow]
theorem shl_shl(x:UInt32) (j k:Nat) (h:j+k<32):(x <<< UInt32.ofNat j) <<< UInt32.ofNat k=x <<< UInt32.ofNat (j+k):=by
 apply UInt32.toNat_inj.1
 simp only [UInt32.toNat_shiftLeft,UInt32.toNat_ofNat']
 rw [show k % 2 ^ 32 % 32=k by omega,show j % 2 ^ 32 % 32=j by omega,show (j+k) % 2 ^ 32 % 32=j+k by omega]
 simp only [Nat.shiftLeft_eq,Nat.mod_mul_mod,Nat.pow_add]
 rw [Nat.mul_assoc]
theorem word_eq(a b c d:UInt8) (r:List UInt8):a.toUInt32 <<< 24|||b.toUInt32 <<< 16|||c.toUInt32 <<< 8|||d.toUInt32=wordQ (a::b::c::d::r):=by
 have e8:(8:UInt32)=UInt32.ofNat 8:=rfl
 have e16:(16:UInt32)=UInt32.ofNat 16:=rfl
 have e24:(24:UInt32)=UInt32.ofNat 24:=rfl
 simp only [wordQ,List.take_succ_cons,List.take_zero,List.foldl_cons,List.foldl_nil,e8,e16,e24]
 have z8:(0:UInt32) <<< UInt32.ofNat 8=0:=rfl
 have o8:∀ x y:UInt32,(x|||y) <<< UInt32.ofNat 8=x <<< UInt32.ofNat 8|||y <<< UInt32.ofNat 8:=fun x y=>shl_or x y 8 (by omega)
 have s88:∀ x:UInt32,(x <<< UInt32.ofNat 8) <<< UInt32.ofNat 8=x <<< UInt32.ofNat 16:=fun x=>shl_shl x 8 8 (by omega)
 have s168:∀ x:UInt32,(x <<< UInt32.ofNat 16) <<< UInt32.ofNat 8=x <<< UInt32.ofNat 24:=fun x=>shl_shl x 16 8 (by omega)
 simp only [o8,s88,s168,z8,UInt32.zero_or]
def padZ (n:Nat):Nat:=(if n % 64≤55 then 55 else 119)-n % 64
def padL (b:List UInt8):List UInt8:=b++128::List.replicate (padZ b.length) 0++putB 8 (b.length*8)
theorem padZ_le(n:Nat):padZ n≤63:=by unfold padZ;split <;> omega
theorem padZ_mod(n:Nat):(n+1+padZ n) % 64=56:=by unfold padZ;split <;> omega
theorem padZ_ne(n i:Nat) (h:i<padZ n):(n+1+i) % 64≠56:=by
 unfold padZ at h;split at h <;> omega
theorem padL_len(b:List UInt8):(padL b).length=b.length+9+padZ b.length:=by
 simp [padL,putB_len];omega
theorem padL_mod(b:List UInt8):(padL b).length % 64=0:=by
 have:=padZ_mod b.length
 rw [padL_len];omega
theorem padL_split(b:List UInt8):padL b=b.take (64*(b.length / 64))++endL (b.drop (64*(b.length / 64))) b.length:=by
 have hl:(b.drop (64*(b.length / 64))).length=b.length % 64:=by simp;omega
 unfold endL
 rw [hl,← List.append_assoc,← List.append_assoc,List.take_append_drop]
 rfl
theorem bl_take(s:S8) (x y:List UInt8):∀ i,64*i≤x.length→bl s (x++y) i=bl s x i
 | 0,_=>rfl
 | i+1,h=>by
  simp only [bl]
  rw [bl_take s x y i (by omega),List.drop_append_of_le_length (by omega),List.take_append_of_le_length (by simp;omega)]
theorem bl_add(s:S8) (x y:List UInt8) (i:Nat) (h:x.length=64*i):∀ j,bl s (x++y) (i+j)=bl (bl s x i) y j
 | 0=>bl_take s x y i (by omega)
 | j+1=>by
  rw [← Nat.add_assoc]
  simp only [bl]
  rw [bl_add s x y i h j,List.drop_append,List.drop_eq_nil_of_le (by omega)]
  simp only [List.nil_append]
  rw [h,show 64*(i+j)-64*i=64*j by omega]
theorem bl_whole(s:S8) (x:List UInt8):∀ i,64*i≤x.length→bl s (x.take (64*i)) i=bl s x i:=fun i h=>by
 conv=>rhs;rw [← List.take_append_drop (64*i) x]
 rw [bl_take _ _ _ _ (by simp;omega)]
theorem refS_eq(b:List UInt8):bl s0 (padL b) ((padL b).length / 64)=shaS b:=by
 unfold shaS
 have hz:padZ b.length=(if b.length % 64≤55 then 55 else 119)-b.length % 64:=rfl
 have hl:(b.drop (64*(b.length / 64))).length=b.length % 64:=by simp;omega
 rw [hl]
 have hn:(padL b).length / 64=b.length / 64+(if b.length % 64≤55 then 1 else 2):=by
  rw [padL_len,hz]
  split <;> omega
 rw [hn,padL_split,bl_add _ _ _ _ (by simp;omega),bl_whole _ _ _ (by omega)]
theorem outL_get(s:S8) (i:Nat) (h:i<32):(outL s)[i]?=some (UInt8.ofNat ((wat s.l (i / 4)).toNat / 256 ^ (3-i % 4))):=by
 have:i=0∨i=1∨i=2∨i=3∨i=4∨i=5∨i=6∨i=7∨i=8∨i=9∨i=10∨i=11∨i=12∨i=13∨i=14∨i=15∨i=16∨i=17∨i=18∨i=19∨i=20∨i=21∨i=22∨i=23∨i=24∨i=25∨i=26∨i=27∨i=28∨i=29∨i=30∨i=31:=by omega
 rcases this with rfl | rfl | rfl | rfl | rfl | rfl | rfl | rfl | rfl | rfl | rfl | rfl | rfl | rfl | rfl | rfl | rfl | rfl | rfl | rfl | rfl | rfl | rfl | rfl | rfl | rfl | rfl | rfl | rfl | rfl | rfl | rfl <;> rfl
end

section
set_option maxRecDepth 8000
set_option maxHeartbeats 4000000
attribute [local simp] wq_add wq_xor wq_and wq_or dQ_eq
theorem r2word(b:List UInt8) (h:4≤b.length):PCall Tryz.prog 130 [dBy b] (.ret (dq (wordQ b))):=by
 refine pcall_of_vc noC c130 (by simp [a130]) fun hr=>?_
 unfold dBy dq
 obtain⟨b0,b1,b2,b3,r,rfl⟩:∃ b0 b1 b2 b3 r,b=b0::b1::b2::b3::r:=by
  match b,h with
  | b0::b1::b2::b3::r,_=>exact⟨b0,b1,b2,b3,r,rfl⟩
 have h8:∀ x:UInt32,shiftV true .u32 (q x) 8=.int .u32 (q (x <<< 8)):=fun x=>shl_q x 8 (by omega)
 have h16:∀ x:UInt32,shiftV true .u32 (q x) 16=.int .u32 (q (x <<< 16)):=fun x=>shl_q x 16 (by omega)
 have h24:∀ x:UInt32,shiftV true .u32 (q x) 24=.int .u32 (q (x <<< 24)):=fun x=>shl_q x 24 (by omega)
 simp [a130]
 simp [dU,conv_u32,h8,h16,h24]
 rw [word_eq]
 refine⟨by omega,by omega,by omega,by omega,rfl,LeD.refl _⟩
theorem rror(x:UInt32) (c:Nat) (h1:0<c) (h2:c<32):PCall Tryz.prog 131 [dq x,dI c] (.ret (dq (ror x c))):=by
 refine pcall_of_vc noC c131 (by simp [a131]) fun hr=>?_
 have h1':=shl_q x (32-c) (by omega)
 have h2':=shr_q x c h2
 have e:IntKind.i64.wrap (32-(c:Int))=((32-c:Nat):Int):=by rw [wrap64 (by omega)];omega
 unfold dq
 simp [a131]
 simp [e,h1',h2']
 refine⟨rfl,leD_of_eq rfl⟩
theorem rnumbers:PCall Tryz.prog 132 [] (.ret (.agg (kNums.map dQ))):=by
 refine pcall_of_vc noC c132 (by simp [a132]) fun hr=>?_
 simp [a132]
 exact LeD.refl _
end

section
set_option maxRecDepth 8000
set_option maxHeartbeats 8000000
theorem compl_q(x:UInt32):complV .u32 (q x)=q (~~~x):=by
 have h:=x.toNat_lt
 have e:(~~~x)=x^^^4294967295:=by
  apply u32_ext
  simp only [UInt32.toBitVec_not,UInt32.toBitVec_xor]
  rw [← BitVec.xor_allOnes]
  rfl
 rw [e]
 unfold complV
 have h2:(BitVec.ofInt IntKind.u32.bits (if IntKind.u32.signed then -1 else IntKind.u32.max)^^^BitVec.ofInt IntKind.u32.bits (q x)).toNat=(x^^^4294967295).toNat:=by
  rw [BitVec.toNat_xor,bv_q,UInt32.toNat_xor,Nat.xor_comm]
  rfl
 rw [h2]
 exact wrap_u32 (q_lt _).1 (q_lt _).2
attribute [local simp] wq_add wq_xor wq_and wq_or compl_q
attribute [local simp] dq_free lt3' dQ_eq
attribute [local simp] aq_len leL_aq leL_md dBy lt3 bslV dq_cells dq_noTup dq_one
inductive C352:FuncId→List D→Out→Prop
 | word (b:List UInt8) (h:4≤b.length):C352 130 [dBy b] (.ret (dq (wordQ b)))
 | ror (x:UInt32) (c:Nat) (h1:0<c) (h2:c<32):C352 131 [dq x,dI c] (.ret (dq (ror x c)))
 | numbers:C352 132 [] (.ret (.agg (kNums.map dQ)))
theorem h352:∀ f ds out,C352 f ds out→PCall Tryz.prog f ds out:=by
 intro f ds out h
 cases h with
 | word b h=>exact r2word b h
 | ror x c h1 h2=>exact rror x c h1 h2
 | numbers=>exact rnumbers
theorem rblock(s:S8) (b:List UInt8) (hb:b.length=64):PCall Tryz.prog 106 [.agg (s.l.map dq),dBy b] (.ret (.agg ((compress s b).l.map dq))):=by
 refine pcall_of_vc h352 c106 (by simp [a106]) fun hr=>?_
 simp [a106,S8.l,dq,-List.reduceReplicate]
 have hw:∀ i:Nat,i<64→IntKind.i64.wrap ((i:Int)+1)=((i+1:Nat):Int):=fun i h=>by rw [wrap64 (by omega)];omega
 have hw4:∀ i:Nat,i<64→IntKind.i64.wrap (4*(i:Int))=4*(i:Int):=fun i h=>wrap64 (by omega)
 have ht4:∀ i:Nat,(4*(i:Int)).toNat=4*i:=fun i=>by omega
 have hwt:∀ x:List UInt8,wordQ (x.take 4)=wordQ x:=fun x=>by simp [wordQ,List.take_take]
 have hw44:∀ i:Nat,i<16→IntKind.i64.wrap (4*(i:Int)+4)=4*(i:Int)+4:=fun i h=>wrap64 (by omega)
 refine vc_loopK [0,1,2,4,5] Nat (fun i=>[(6,true,.d (dI i))]) (fun i=>[(2,.box true (aq (wInit b i)))]) (fun i=>i≤16) (fun i=>16-i) 0 (by simp) ⟨[],[],?_⟩ (fun i hi=>?_)
 ·simp [aq0]
 simp
 refine⟨fun hlt=>?_,fun hge=>?_⟩
 ·have hlt:i<16:=by omega
  have hcc:=C352.word ((b.drop (4*i)).take 4) (by simp;omega)
  rw [hwt] at hcc
  refine vc_path [.ret (dq (wordQ (b.drop (4*i))))] ?_
  simp [hw i (by omega),hw4 i (by omega),hw44 i (by omega),ht4,hb]
  refine⟨⟨by omega,by omega,by omega⟩,?_,by omega,by rw [wInit_len];omega,i+1,by omega,by omega,[],[],?_⟩
  ·rw [show (4*(i:Int)+4).toNat=4*i+4 by omega,List.drop_take,show 4*i+4-4*i=4 by omega]
   simpa using hcc
  ·simp [aq_set,wInit_set b i (by omega)]
   exact fun a ha=>aq_one _ _ ha
 ·have hi16:i=16:=by omega
  subst hi16
  simp
  refine vc_loopK [0,1,2,4,5] Nat (fun i=>[(7,true,.d (dI (16+i)))]) (fun i=>[(2,.box true (aq (wUp b i)))]) (fun i=>i≤48) (fun i=>48-i) 0 (by simp) ⟨[],[],?_⟩ (fun i hi=>?_)
  ·simp [wUp]
   exact fun a ha=>aq_one _ _ ha
  simp
  refine⟨fun hlt=>?_,fun hge=>?_⟩
  ·have hlt:i<48:=by omega
   have e15:IntKind.i64.wrap (16+(i:Int)-15)=((i+1:Nat):Int):=by rw [wrap64 (by omega)];omega
   have e2:IntKind.i64.wrap (16+(i:Int)-2)=((i+14:Nat):Int):=by rw [wrap64 (by omega)];omega
   have e16:IntKind.i64.wrap (16+(i:Int)-16)=((i:Nat):Int):=by rw [wrap64 (by omega)];omega
   have e7:IntKind.i64.wrap (16+(i:Int)-7)=((i+9:Nat):Int):=by rw [wrap64 (by omega)];omega
   have e1:IntKind.i64.wrap (16+(i:Int)+1)=((16+(i+1):Nat):Int):=by rw [wrap64 (by omega)];omega
   have hl:=wUp_len b i
   have hg:∀ j:Nat,j<64→(aq (wUp b i))[j]?=some (.d (dq (wat (wUp b i) j))):=fun j hj=>aq_get _ _ (by omega)
   have t14:((i:Int)+14).toNat=i+14:=by omega
   have t9:((i:Int)+9).toNat=i+9:=by omega
   have t16:(16+(i:Int)).toNat=16+i:=by omega
   simp only [e15,e2]
   simp [hl,t14,hg (i+1) (by omega),hg (i+14) (by omega)]
   refine⟨⟨by omega,by omega⟩,by omega,⟨by omega,by omega⟩,by omega,?_⟩
   have r1:=C352.ror (wat (wUp b i) (i+1)) 7 (by omega) (by omega)
   have r2:=C352.ror (wat (wUp b i) (i+1)) 18 (by omega) (by omega)
   have r3:=C352.ror (wat (wUp b i) (i+14)) 17 (by omega) (by omega)
   have r4:=C352.ror (wat (wUp b i) (i+14)) 19 (by omega) (by omega)
   have hset:(wUp b i).set (16+i) (wat (wUp b i) i+(ror (wat (wUp b i) (i+1)) 7^^^ror (wat (wUp b i) (i+1)) 18^^^wat (wUp b i) (i+1) >>> 3)+wat (wUp b i) (i+9)+(ror (wat (wUp b i) (i+14)) 17^^^ror (wat (wUp b i) (i+14)) 19^^^wat (wUp b i) (i+14) >>> 10))=wUp b (i+1):=by
    rw [wUp,wNew]
    rw [show 16+i-16=i by omega,show 16+i-15=i+1 by omega,show 16+i-7=i+9 by omega,show 16+i-2=i+14 by omega]
   have hgi:=hg i (by omega)
   have hg9:=hg (i+9) (by omega)
   generalize hx1:wat (wUp b i) (i+1)=x1 at *
   generalize hx14:wat (wUp b i) (i+14)=x14 at *
   refine vc_pathD [.ret (dq (ror x1 7)),.ret (dq (ror x1 18)),.ret (dq (ror x14 17)),.ret (dq (ror x14 19))] ?_
   have s3:shiftV false .u32 (q x1) 3=.int .u32 (q (x1 >>> 3)):=shr_q x1 3 (by omega)
   have s10:shiftV false .u32 (q x14) 10=.int .u32 (q (x14 >>> 10)):=shr_q x14 10 (by omega)
   unfold dq at *
   simp [e16,e7,hl,hgi,hg9,e1,t9,t16,s3,s10]
   refine⟨by omega,by omega,by simpa using r1,by simpa using r2,⟨by omega,by omega⟩,by omega,by simpa using r3,by simpa using r4,⟨by omega,by omega⟩,by omega,rfl,i+1,by omega,by omega,[],[],?_⟩
   rw [aq_set',hset]
   simp
   exact fun a ha=>aq_one _ _ ha
  ·have hi48:i=48:=by omega
   subst hi48
   have hnum:=C352.numbers
   simp
   refine vc_path [.ret (.agg (kNums.map dQ))] ?_
   have hkl:(kNums.map dQ).length=64:=rfl
   have hkn:setAt (List.replicate 64 (AV.d (D.lit (.int .u32 0)))) 0 (kNums.map (AV.d∘dQ))=aq kNums:=by
    rw [setAt_all _ _ (by rfl)]
    simp only [aq,List.map_map]
    rfl
   simp only [List.reduceReplicate] at hkn
   simp [hkn,hkl,-List.reduceReplicate]
   refine⟨hnum,rfl,rfl,?_⟩
   refine vc_loopK [2,4,5,10] Nat (fun i=>[(19,true,.d (dI i)),(11,true,.d (.lit (.int .u32 (q (rounds (wUp b 48) s i).a)))),(12,true,.d (.lit (.int .u32 (q (rounds (wUp b 48) s i).b)))),(13,true,.d (.lit (.int .u32 (q (rounds (wUp b 48) s i).c)))),(14,true,.d (.lit (.int .u32 (q (rounds (wUp b 48) s i).d)))),(15,true,.d (.lit (.int .u32 (q (rounds (wUp b 48) s i).e)))),(16,true,.d (.lit (.int .u32 (q (rounds (wUp b 48) s i).f)))),(17,true,.d (.lit (.int .u32 (q (rounds (wUp b 48) s i).g)))),(18,true,.d (.lit (.int .u32 (q (rounds (wUp b 48) s i).h))))]) (fun i=>[]) (fun i=>i≤64) (fun i=>64-i) 0 (by simp) ⟨[],[],?_⟩ (fun i hi=>?_)
   ·simp [rounds]
    (repeat' apply And.intro) <;> first | exact fun a ha=>aq_one _ _ ha | exact LeD.refl _
   rcases Nat.lt_or_ge i 64 with hlt | hge
   ·have hl:=wUp_len b 48
    have hg:(aq (wUp b 48))[i]?=some (.d (dq (wat (wUp b 48) i))):=aq_get _ _ (by omega)
    have hk:(aq kNums)[i]?=some (.d (dq (wat kNums i))):=aq_get _ _ hlt
    have hw1:IntKind.i64.wrap ((i:Int)+1)=((i+1:Nat):Int):=by rw [wrap64 (by omega)];omega
    have hrs:rounds (wUp b 48) s (i+1)=round (wUp b 48) (rounds (wUp b 48) s i) i:=rfl
    generalize rounds (wUp b 48) s i=r at *
    have c1:=C352.ror r.e 6 (by omega) (by omega)
    have c2:=C352.ror r.e 11 (by omega) (by omega)
    have c3:=C352.ror r.e 25 (by omega) (by omega)
    have c4:=C352.ror r.a 2 (by omega) (by omega)
    have c5:=C352.ror r.a 13 (by omega) (by omega)
    have c6:=C352.ror r.a 22 (by omega) (by omega)
    unfold dq at c1 c2 c3 c4 c5 c6 hg hk
    have hlt':(i:Int)<64:=by omega
    simp [hlt']
    refine vc_pathD [.ret (dq (ror r.e 6)),.ret (dq (ror r.e 11)),.ret (dq (ror r.e 25))] ?_
    unfold dq
    simp [hg,hk,hl,kNums_len]
    refine⟨c1,c2,c3,by omega,by omega,by omega,by omega,rfl,vc_path [.ret (dq (ror r.a 2)),.ret (dq (ror r.a 13)),.ret (dq (ror r.a 22))] ?_⟩
    unfold dq
    simp [hw1]
    refine⟨c4,c5,c6,i+1,by omega,by omega,[],[],?_⟩
    rw [hrs]
    simp [round,ch_eq,maj_eq,rot3]
    (repeat' apply And.intro) <;> first | exact fun a ha=>aq_one _ _ ha | exact LeD.refl _
   ·have hi64:i=64:=by omega
    have hcs:compress s b=s.add (rounds (wUp b 48) s i):=by rw [hi64];rfl
    generalize hr:rounds (wUp b 48) s i=r at hcs
    have hge':¬ ((i:Int)<64):=by omega
    clear hkn hr hi64
    rw [hcs]
    simp [hge',S8.l,S8.add]
end

section
set_option maxRecDepth 8000
set_option maxHeartbeats 8000000
attribute [local simp] dZ_agg dZ_nt dZ_noTup dZ_cells dZ_one bz_toList bz_size strV dV_cells dV_isAgg dV_noTup dV_nt dBy_cells dBy_one dBy_agg dBy_noTup dBy_nt
theorem tmod64(n:Nat):(n:Int).tmod 64=((n % 64:Nat):Int):=by
 rw [Int.tmod_eq_emod_of_nonneg (by omega)];omega
theorem putB_take(u i:Nat) (h:i<8):(putB 8 u).take (i+1)=(putB 8 u).take i++[UInt8.ofNat (u / 256 ^ (7-i))]:=by
 rw [List.take_add_one]
 simp [putB,h]
theorem rpadded(b:List UInt8) (hb:b.length≤100000000000):PCall Tryz.prog 105 [dBy b] (.ret (dBy (padL b))):=by
 refine pcall_of_vc noC c105 (by simp [a105]) fun hr=>?_
 have hz:=padZ_le b.length
 have hzm:=padZ_mod b.length
 have hzn:=padZ_ne b.length
 simp [a105,dBy]
 refine⟨⟨by omega,by omega⟩,⟨by omega,by omega⟩,?_⟩
 refine vc_loopK [0] Nat (fun i=>[(3,true,.own 3 1 (b.map dU++.lit (.int .u8 128)::List.replicate i (.lit (.int .u8 0))))]) (fun i=>[(3,.row)]) (fun i=>i≤padZ b.length) (fun i=>padZ b.length-i) 0 (by simp) ⟨[],[],?_⟩ (fun i hi=>?_)
 ·simp
 have hm:((b.length:Int)+((i:Int)+1)).tmod 64=(((b.length+1+i) % 64:Nat):Int):=by
  rw [← tmod64];congr 1;omega
 have hrep:List.replicate i (D.lit (.int .u8 0))++[.lit (.int .u8 0)]=List.replicate (i+1) (.lit (.int .u8 0)):=by
  rw [List.replicate_succ']
 simp [hm,hrep]
 refine⟨fun hne=>⟨⟨by omega,by omega⟩,?_⟩,fun he=>?_⟩
 ·have hlt:i<padZ b.length:=by
   rcases Nat.lt_or_ge i (padZ b.length) with h | h
   ·exact h
   ·have:i=padZ b.length:=by omega
    subst this
    omega
  refine⟨i+1,by omega,by omega,[(3,5)],[],?_⟩
  simp
 ·have hi2:i=padZ b.length:=by
   rcases Nat.lt_or_ge i (padZ b.length) with h | h
   ·have:=hzn i h;omega
   ·omega
  subst hi2
  have hpre:b.map dU++D.lit (.int .u8 128)::List.replicate (padZ b.length) (D.lit (.int .u8 0))=(b++128::List.replicate (padZ b.length) 0).map dU:=by
   simp [dU]
  have hpl:(b++128::List.replicate (padZ b.length) 0).length≤100000000064:=by simp;omega
  have hfin:padL b=(b++128::List.replicate (padZ b.length) 0)++putB 8 (b.length*8):=by simp [padL]
  rw [hpre,hfin]
  obtain⟨u,hue⟩:∃ u,u=b.length*8:=⟨_,rfl⟩
  have hu:IntKind.u64.wrap (IntKind.u64.wrap (b.length:Int)*8)=(u:Int):=by
   rw [wrap_u64 (n:=(b.length:Int)) (by omega) (by omega),wrap_u64 (by omega) (by omega)];omega
  have hub:u<18446744073709551616:=by omega
  rw [← hue]
  clear hpre hfin he hi hm hrep hzn hzm hue
  generalize b++128::List.replicate (padZ b.length) 0=p at *
  simp [hu]
  have hpl8:=putB_len 8 u
  refine vc_loopK [0,4] Nat (fun j=>[(5,true,.d (dI (7-j))),(3,true,.own 3 1 ((p++(putB 8 u).take j).map dU))]) (fun i=>[(3,.row)]) (fun j=>j≤8) (fun j=>8-j) 0 (by simp) ⟨[],[],?_⟩ (fun j hj=>?_)
  ·simp
  have hw1:IntKind.i64.wrap (7-(j:Int)-1)=7-((j:Int)+1):=by rw [wrap64 (by omega)];omega
  have h8:IntKind.i64.wrap (8*(7-(j:Int)))=8*(7-(j:Int)):=wrap64 (by omega)
  rcases Nat.lt_or_ge j 8 with hlt | hge
  ·have hlt':(j:Int)≤7:=by omega
   have hs:=u8_div u (7-j) (by omega) hub
   rw [show (((7-j:Nat)):Int)=7-(j:Int) by omega] at hs
   have hpt:=putB_take u j hlt
   generalize u / 256 ^ (7-j)=w at *
   have hcu:D.lit (.int .u8 (IntKind.u8.wrap (w:Int)))=dU (UInt8.ofNat w):=dU_conv w
   simp [hlt',hw1,h8,hs,hcu,hpl8]
   refine⟨by omega,?_,⟨by omega,by omega⟩,j+1,by omega,by omega,[(3,5)],[],?_⟩
   ·simp [dU]
   ·have hptm:((putB 8 u).map dU).take (j+1)=((putB 8 u).map dU).take j++[dU (UInt8.ofNat w)]:=by
     rw [← List.map_take,hpt];simp
    simp [hptm]
  ·have hge':¬ ((j:Int)≤7):=by omega
   have ht:(putB 8 u).take j=putB 8 u:=List.take_of_length_le (by omega)
   simp [hge',ht]
inductive C353:FuncId→List D→Out→Prop
 | padded (b:List UInt8) (hb:b.length≤100000000000):C353 105 [dBy b] (.ret (dBy (padL b)))
 | block (s:S8) (b:List UInt8) (hb:b.length=64):C353 106 [.agg (s.l.map dq),dBy b] (.ret (.agg ((compress s b).l.map dq)))
theorem h353:∀ f ds out,C353 f ds out→PCall Tryz.prog f ds out:=by
 intro f ds out h
 cases h with
 | padded b hb=>exact rpadded b hb
 | block s b hb=>exact rblock s b hb
def outP (l:List UInt8) (i:Nat):List D:=(l.take i).map dU++zrs (32-i)
theorem outP_len(l:List UInt8) (i:Nat) (h:i≤32) (hl:l.length=32):(outP l i).length=32:=by
 simp only [outP,List.length_append,List.length_map,List.length_take,zrs_len];omega
theorem outP_set(l:List UInt8) (i:Nat) (x:UInt8) (h:i<32) (hl:l.length=32) (hx:l[i]?=some x):(outP l i).set i (dU x)=outP l (i+1):=by
 unfold outP
 have e:zrs (32-i)=.lit (.int .u8 0)::zrs (32-(i+1)):=by
  unfold zrs
  rw [show 32-i=(32-(i+1))+1 by omega,List.replicate_succ]
 have hlen:((l.take i).map dU).length=i:=by simp;omega
 rw [e,List.set_append_right _ _ (by omega),hlen,Nat.sub_self,List.set_cons_zero,List.take_add_one,hx]
 simp
theorem len8(S:S8):S.l.length=8:=rfl
theorem bl_succ(s:S8) (p:List UInt8) (i:Nat):bl s p (i+1)=compress (bl s p i) ((p.drop (64*i)).take 64):=rfl
theorem rsum(b:List UInt8) (hb:b.length≤100000000000):PCall Tryz.prog 83 [dBy b] (.ret (.agg ((shaL b).map dU))):=by
 refine pcall_of_vc h353 c83 (by simp [a83]) fun hr=>?_
 have c1:=C353.padded b hb
 have hpm:=padL_mod b
 have hpl:=padL_len b
 have hpz:=padZ_le b.length
 have hsha:shaL b=outL (bl s0 (padL b) ((padL b).length / 64)):=by rw [refS_eq];rfl
 rw [hsha]
 simp [a83,-List.reduceReplicate]
 refine vc_path [.ret (dBy (padL b))] ?_
 generalize padL b=p at *
 simp [-List.reduceReplicate]
 refine⟨c1,?_⟩
 have hs0:[AV.d (D.lit (.int .u32 1779033703)),AV.d (D.lit (.int .u32 3144134277)),AV.d (D.lit (.int .u32 1013904242)),AV.d (D.lit (.int .u32 2773480762)),AV.d (D.lit (.int .u32 1359893119)),AV.d (D.lit (.int .u32 2600822924)),AV.d (D.lit (.int .u32 528734635)),AV.d (D.lit (.int .u32 1541459225))]=aq s0.l:=rfl
 have hall:∀ S:S8,allD ((aq S.l).take 8)=some (S.l.map dq):=fun S=>by
  rw [List.take_of_length_le (by rw [aq_len,len8];exact Nat.le_refl 8)]
  exact allD_map _
 rw [hs0]
 refine vc_loopK [2,3,4] Nat (fun i=>[(5,true,.d (dI (64*i)))]) (fun i=>[(1,.box true (aq (bl s0 p i).l))]) (fun i=>i≤p.length / 64) (fun i=>p.length / 64-i) 0 (by simp) ⟨[],[],?_⟩ (fun i hi=>?_)
 ·simp [bl,leL_aq]
  exact fun a ha=>aq_one _ _ ha
 have hw1:IntKind.i64.wrap (64*(i:Int)+64)=64*(i:Int)+64:=wrap64 (by omega)
 rcases Nat.lt_or_ge i (p.length / 64) with hlt | hge
 ·have hlt':(64*(i:Int))<p.length:=by omega
  have c2:=C353.block (bl s0 p i) ((p.drop (64*i)).take 64) (by simp;omega)
  have hbl:=bl_succ s0 p i
  have ha2:=hall (bl s0 p i)
  rw [← hbl] at c2
  obtain⟨B,hB⟩:∃ B,bl s0 p (i+1)=B:=⟨_,rfl⟩
  rw [hB] at c2
  have hsl:=len8 B
  clear hbl
  have ht1:(64*(i:Int)+64).toNat=64*i+64:=by omega
  have ht2:(64*(i:Int)).toNat=64*i:=by omega
  unfold dBy at *
  simp [hlt']
  refine vc_pathD [.ret (.agg (B.l.map dq))] ?_
  simp [hw1,ha2,ht1,ht2,hsl]
  have hset:setAt (aq (bl s0 p i).l) 0 (B.l.map (AV.d∘dq))=aq B.l:=by
   rw [setAt_all _ _ (by rw [aq_len,List.length_map,len8,len8])]
   simp [aq]
  refine⟨by rw [aq_len,len8];exact Nat.le_refl 8,⟨by omega,by omega,by omega⟩,?_,by rw [aq_len,len8];exact Nat.le_refl 8,rfl,i+1,by omega,by omega,[],[],?_⟩
  ·rw [List.drop_take,show 64*i+64-64*i=64 by omega]
   simpa using c2
  ·rw [hB,hset]
   have he:64*((i:Int)+1)=64*(i:Int)+64:=by omega
   simp [leL_aq,he]
   exact fun a ha=>aq_one _ _ ha
 ·have hge':¬ ((64*(i:Int))<p.length):=by omega
  have hi2:i=p.length / 64:=by omega
  rw [← hi2]
  unfold dBy at *
  clear hi2
  generalize bl s0 p i=S at *
  simp [hge',zrs_eq,-List.reduceReplicate]
  have hol:=outL_len S
  have hog:=outL_get S
  refine vc_loopK [2,3,6] Nat (fun k=>[(7,true,.d (dI k))]) (fun k=>[(2,.box true ((outP (outL S) k).map .d))]) (fun k=>k≤32) (fun k=>32-k) 0 (by simp) ⟨[],[],?_⟩ (fun k hk=>?_)
  ·have h0:outP (outL S) 0=zrs 32:=by simp [outP]
   rw [h0]
   simp [leL_aq,leL_md,-List.reduceReplicate]
   exact⟨aq_one _,leL_map _ _ _ _ (zrs 32),zrs_one 32⟩
  have hw1:IntKind.i64.wrap ((k:Int)+1)=((k+1:Nat):Int):=by rw [wrap64 (by omega)];omega
  rcases Nat.lt_or_ge k 32 with hlt | hge
  ·have hlt':(k:Int)<32:=by omega
   have hop:=outP_len (outL S) k (by omega) hol
   have hg:=hog k hlt
   have hos:=outP_set _ k _ hlt hol hg
   have hq:(k:Int).tdiv 4=((k / 4:Nat):Int):=by rw [Int.tdiv_eq_ediv_of_nonneg (by omega)];omega
   have hm:(k:Int).tmod 4=((k % 4:Nat):Int):=by rw [Int.tmod_eq_emod_of_nonneg (by omega)];omega
   have hag:=aq_get S.l (k / 4) (by rw [show S.l.length=8 from rfl];omega)
   generalize wat S.l (k / 4)=v at *
   have hsh:shiftV false .u32 (q v) (24-8*((k % 4:Nat):Int))=.int .u32 ((v.toNat / 256 ^ (3-k % 4):Nat):Int):=by
    have:=shr_q v (24-8*(k % 4)) (by omega)
    rw [show ((24-8*(k % 4):Nat):Int)=24-8*((k % 4:Nat):Int) by omega] at this
    rw [this]
    have e:(v >>> UInt32.ofNat (24-8*(k % 4))).toNat=v.toNat / 256 ^ (3-k % 4):=by
     rw [UInt32.toNat_shiftRight,UInt32.toNat_ofNat',show (24-8*(k % 4)) % 2 ^ 32 % 32=24-8*(k % 4) by omega,Nat.shiftRight_eq_div_pow,show (256:Nat)=2 ^ 8 from rfl,← Nat.pow_mul,show 8*(3-k % 4)=24-8*(k % 4) by omega]
    unfold q
    rw [e]
   generalize v.toNat / 256 ^ (3-k % 4)=w at *
   have hcu:D.lit (.int .u8 (IntKind.u8.wrap (w:Int)))=dU (UInt8.ofNat w):=dU_conv w
   have hq2:IntKind.i64.wrap (((k / 4:Nat)):Int)=((k / 4:Nat):Int):=wrap64 (by omega)
   have hm2:IntKind.i64.wrap (((k % 4:Nat)):Int)=((k % 4:Nat):Int):=wrap64 (by omega)
   have hm3:IntKind.i64.wrap (8*((k % 4:Nat):Int))=8*((k % 4:Nat):Int):=wrap64 (by omega)
   have hm4:IntKind.i64.wrap (24-8*((k % 4:Nat):Int))=24-8*((k % 4:Nat):Int):=wrap64 (by omega)
   have hk4:k / 4<8:=by omega
   have hkm:k % 4<4:=by omega
   clear hog hg
   generalize k / 4=k4 at *
   generalize k % 4=km at *
   unfold dq at hag
   simp [hlt',hw1,hq,hm,hq2,hm2,hm3,hm4,hag,hsh,hcu]
   have hl8:=len8 S
   refine⟨by omega,by rw [aq_len];omega,by omega,⟨rfl,rfl,by omega⟩,k+1,by omega,by omega,[],[],?_⟩
   have hsm:setAt ((outP (outL S) k).map AV.d) k ((dU (UInt8.ofNat w)).cells.map AV.d)=(outP (outL S) (k+1)).map AV.d:=by
    rw [← hos];simp [setAt,dU,D.cells]
   rw [hsm]
   simp [leL_aq,leL_md]
   exact⟨aq_one _,fun d hd=>by
    rcases List.mem_append.1 hd with h | h
    ·exact dUs_one _ _ h
    ·exact zrs_one _ _ h⟩
  ·have hge':¬ ((k:Int)<32):=by omega
   have e32:outP (outL S) k=(outL S).map dU:=by
    unfold outP
    rw [show k=32 by omega,List.take_of_length_le (by omega)]
    simp [zrs]
   rw [e32]
   generalize outL S=A at *
   have htk:(A.map (AV.d∘dU)).take 32=A.map (AV.d∘dU):=List.take_of_length_le (by simp [hol])
   simp [hge',hol,htk,allD_dU,setAt_all]
inductive C354:FuncId→List D→Out→Prop
 | sum (b:List UInt8) (hb:b.length≤100000000000):C354 83 [dBy b] (.ret (.agg ((shaL b).map dU)))
theorem h354:∀ f ds out,C354 f ds out→PCall Tryz.prog f ds out:=by
 intro f ds out h
 cases h with
 | sum b hb=>exact rsum b hb
theorem rtagged(t b:List UInt8) (ht:t.length≤1000) (hb:b.length≤10000000000):PCall Tryz.prog 55 [dZ t,dBy b] (.ret (.agg ((tagL t b).map dU))):=by
 refine pcall_of_vc h354 c55 (by simp [a55]) fun hr=>?_
 have h1:=C354.sum t (by omega)
 have hl:=shaL_len t
 have h3:=C354.sum (shaL t++b) (by rw [List.length_append,hl];omega)
 simp [a55,dZ_eq,-List.reduceReplicate]
 refine vc_path [.ret (.agg ((shaL t).map dU))] ?_
 simp [strD_bz,-List.reduceReplicate]
 refine⟨h1,hl,?_⟩
 refine vc_path [.ret (.agg ((shaL (shaL t++b)).map dU))] ?_
 have hl2:=shaL_len (shaL t++b)
 have hB:tagL t b=shaL (shaL t++b):=rfl
 generalize shaL t=A at *
 generalize shaL (A++b)=B at *
 unfold dBy at *
 simp [setAt_all,allD_dU,hl,hl2,-List.reduceReplicate]
 rw [elsD_dU _ _ hl]
 have htk:(B.map (AV.d∘dU)).take 32=B.map (AV.d∘dU):=List.take_of_length_le (by simp [hl2])
 refine⟨by simp [hl];omega,by simpa using h3,?_⟩
 rw [htk,allD_dU,hB]
 simp
end

section
structure Ln where
 sp:Int
 fr:Int
 ws:List (List UInt8)
 hs:-9223372036854775808≤sp∧sp<9223372036854775808
 hf:-9223372036854775808≤fr∧fr<9223372036854775808
 deriving DecidableEq
theorem Ln.ext'{x y:Ln}(h1:x.sp=y.sp) (h2:x.fr=y.fr) (h3:x.ws=y.ws):x=y:=by
 cases x;cases y;simp_all
def dLn (x:Ln):D:=.agg [dI x.sp,dI x.fr,.sl 1 (x.ws.map dZ)]
structure Pg where
 ls:List Ln
 salt:List UInt8
 gone:Bool
 left:List UInt8
 h1:salt.length=32
 h2:left.length=32
 deriving DecidableEq
theorem Pg.ext'{x y:Pg}(h1:x.ls=y.ls) (h2:x.salt=y.salt) (h3:x.gone=y.gone) (h4:x.left=y.left):x=y:=by
 cases x;cases y;simp_all
def dPg (p:Pg):D:=.agg (.sl 3 (p.ls.map dLn)::(p.salt.map dU++(dB p.gone::p.left.map dU)))
structure Vo where
 ps:List Pg
 sl:List UInt8
 h:sl.length=32
 deriving DecidableEq
theorem Vo.ext'{x y:Vo}(h1:x.ps=y.ps) (h2:x.sl=y.sl):x=y:=by
 cases x;cases y;simp_all
def dVo (v:Vo):D:=.agg (.sl 66 (v.ps.map dPg)::v.sl.map dU)
def dDg (d:List UInt8):D:=.agg (d.map dU)
def z32U:List UInt8:=List.replicate 32 0
theorem z32U_len:z32U.length=32:=by simp [z32U,-List.reduceReplicate]
def okLn (x:Ln):Bool:=decide (0≤x.sp)&&(decide (x.sp<64)&&(decide (0≤x.fr)&&(decide (x.fr<1099511627776)&&(decide (x.ws.length≤4096)&&x.ws.all isWd))))
def okPg (p:Pg):Bool:=if p.gone then p.ls.isEmpty&&decide (p.salt=z32U) else decide (p.ls.length≤1024)&&(p.ls.all okLn&&decide (p.left=z32U))
def lineV (x:Ln):Vl:=lV [nV x.sp,nV x.fr,lV (x.ws.map tV)]
def pageV (p:Pg):Vl:=lV [lV (p.ls.map lineV),tV p.salt]
def tPage:List UInt8:=[112,97,103,101]
def tLeaf:List UInt8:=[108,101,97,102]
def tNode:List UInt8:=[110,111,100,101]
def tNone:List UInt8:=[110,111,110,101]
def leafP (p:Pg):List UInt8:=if p.gone then p.left else tagL tPage (encV (pageV p))
theorem leafP_len(p:Pg):(leafP p).length=32:=by
 unfold leafP
 split
 ·exact p.h2
 ·exact tagL_len _ _
theorem encVs_bound(b:Nat):∀ l:List Vl,(∀ v∈l,(encV v).length≤b)→(encVs l).length≤l.length*b
 | [],_=>by simp [encVs]
 | v::r,h=>by
  have h1:=h v (List.mem_cons_self ..)
  have h2:=encVs_bound b r (fun x hx=>h x (List.mem_cons_of_mem _ hx))
  rw [encVs,List.length_append,List.length_cons,Nat.succ_mul]
  omega
theorem encV_tV(w:List UInt8):(encV (tV w)).length≤2*w.length+2:=by
 have:=numL_le w.length
 simp [tV,encV];omega
theorem encV_nV(n:Int) (h:-9223372036854775808≤n∧n<9223372036854775808):(encV (nV n)).length≤11:=by
 have:=numL_length 10 (zz n) (zz_ltP n h) (by omega)
 simp [nV,encV];omega
theorem encV_lV(l:List Vl):(encV (lV l)).length≤2+l.length+(encVs l).length:=by
 have:=numL_le l.length
 simp [lV,encV];omega
theorem isWd_len{b:List UInt8}(h:isWd b=true):b.length≤64:=by
 unfold isWd at h
 simp at h
 exact h.1.1.2
theorem okLn_iff{x:Ln}:okLn x=true↔0≤x.sp∧x.sp<64∧0≤x.fr∧x.fr<1099511627776∧x.ws.length≤4096∧∀ w∈x.ws,isWd w=true:=by
 unfold okLn;simp
theorem lineV_len{x:Ln}(h:okLn x=true):(encV (lineV x)).length≤600000:=by
 obtain⟨_,_,_,_,h5,h6⟩:=okLn_iff.1 h
 have a1:=encV_nV x.sp x.hs
 have a2:=encV_nV x.fr x.hf
 have a3:=encVs_bound 130 (x.ws.map tV) (fun v hv=>by
  obtain⟨w,hw,rfl⟩:=List.mem_map.1 hv
  have:=isWd_len (h6 w hw)
  have:=encV_tV w
  omega)
 rw [List.length_map] at a3
 have a4:=encV_lV (x.ws.map tV)
 rw [List.length_map] at a4
 have a5:=encV_lV [nV x.sp,nV x.fr,lV (x.ws.map tV)]
 have e:(encVs [nV x.sp,nV x.fr,lV (x.ws.map tV)]).length=(encV (nV x.sp)).length+((encV (nV x.fr)).length+(encV (lV (x.ws.map tV))).length):=by simp [encVs]
 simp only [List.length_cons,List.length_nil] at a5
 unfold lineV
 have:x.ws.length*130≤4096*130:=Nat.mul_le_mul_right _ h5
 omega
theorem okPg_iff{p:Pg}(hg:p.gone=false):okPg p=true↔p.ls.length≤1024∧(∀ x∈p.ls,okLn x=true)∧p.left=z32U:=by
 unfold okPg;rw [hg];simp
theorem pageV_len{p:Pg}(hg:p.gone=false) (h:okPg p=true):(encV (pageV p)).length≤1000000000:=by
 obtain⟨h1,h2,_⟩:=(okPg_iff hg).1 h
 have a3:=encVs_bound 600000 (p.ls.map lineV) (fun v hv=>by
  obtain⟨w,hw,rfl⟩:=List.mem_map.1 hv
  exact lineV_len (h2 w hw))
 rw [List.length_map] at a3
 have a4:=encV_lV (p.ls.map lineV)
 rw [List.length_map] at a4
 have a5:=encV_lV [lV (p.ls.map lineV),tV p.salt]
 have a6:=encV_tV p.salt
 rw [p.h1] at a6
 have e:(encVs [lV (p.ls.map lineV),tV p.salt]).length=(encV (lV (p.ls.map lineV))).length+(encV (tV p.salt)).length:=by simp [encVs]
 simp only [List.length_cons,List.length_nil] at a5
 unfold pageV
 have:p.ls.length*600000≤1024*600000:=Nat.mul_le_mul_right _ h1
 omega
theorem okV_lV(l:List Vl):okV (lV l)=l.all okV:=by
 simp [lV,okV,okVs_all]
theorem okV_tV(b:List UInt8):okV (tV b)=true:=by simp [tV,okV]
theorem okV_nV(n:Int):okV (nV n)=true:=by simp [nV,okV]
theorem okV_lineV(x:Ln):okV (lineV x)=true:=by
 simp [lineV,okV_lV,okV_nV,okV_tV]
theorem okV_pageV(p:Pg):okV (pageV p)=true:=by
 simp [pageV,okV_lV,okV_tV,okV_lineV]
theorem dpV_lV(l:List Vl):dpV (lV l)=dpVs l+1:=by simp [lV,dpV]
theorem dpVs_le_of{l:List Vl}{b:Nat}(h:∀ v∈l,dpV v≤b):dpVs l≤b:=by
 induction l with
 | nil=>simp [dpVs]
 | cons v r ih =>
  rw [dpVs]
  have:=h v (List.mem_cons_self ..)
  have:=ih fun x hx=>h x (List.mem_cons_of_mem _ hx)
  omega
theorem dpV_tV(b:List UInt8):dpV (tV b)=0:=by simp [tV,dpV]
theorem dpV_nV(n:Int):dpV (nV n)=0:=by simp [nV,dpV]
theorem dpV_lineV(x:Ln):dpV (lineV x)≤2:=by
 unfold lineV
 rw [dpV_lV]
 have h1:dpVs (x.ws.map tV)≤0:=dpVs_le_of fun v hv=>by
  obtain⟨w,_,rfl⟩:=List.mem_map.1 hv
  rw [dpV_tV];exact Nat.le_refl _
 have:dpVs [nV x.sp,nV x.fr,lV (x.ws.map tV)]≤1:=dpVs_le_of fun v hv=>by
  simp at hv
  rcases hv with rfl | rfl | rfl
  ·rw [dpV_nV];omega
  ·rw [dpV_nV];omega
  ·rw [dpV_lV];omega
 omega
theorem dpV_pageV(p:Pg):dpV (pageV p)≤16:=by
 unfold pageV
 rw [dpV_lV]
 have h1:dpVs (p.ls.map lineV)≤2:=dpVs_le_of fun v hv=>by
  obtain⟨w,_,rfl⟩:=List.mem_map.1 hv
  exact dpV_lineV w
 have:dpVs [lV (p.ls.map lineV),tV p.salt]≤3:=dpVs_le_of fun v hv=>by
  simp at hv
  rcases hv with rfl | rfl
  ·rw [dpV_lV];omega
  ·rw [dpV_tV];omega
 omega
theorem encR_pageV(p:Pg):encR (pageV p)=.tup [dBy (encV (pageV p)),dI 0]:=by
 have h1:=okV_pageV p
 have h2:=dpV_pageV p
 unfold encR eV
 simp [h1,h2]
def leafH (b:List UInt8):List UInt8:=tagL tLeaf b
def nodeH (a b:List UInt8):List UInt8:=tagL tNode (a++b)
def upL:List (List UInt8)→List (List UInt8)
 | a::b::r=>nodeH a b::upL r
 | l=>l
theorem upL_len:∀ l:List (List UInt8),(upL l).length=(l.length+1) / 2
 | []=>rfl
 | [_]=>by simp [upL]
 | a::b::r=>by
  rw [upL,List.length_cons,upL_len r]
  simp only [List.length_cons];omega
theorem upL_32:∀ l:List (List UInt8),(∀ x∈l,x.length=32)→∀ x∈upL l,x.length=32
 | [],_=>by simp [upL]
 | [a],h=>by simpa [upL] using h
 | a::b::r,h=>by
  intro x hx
  rw [upL] at hx
  rcases List.mem_cons.1 hx with rfl | hx
  ·exact tagL_len _ _
  ·exact upL_32 r (fun y hy=>h y (List.mem_cons_of_mem _ (List.mem_cons_of_mem _ hy))) x hx
def rootR (row:List (List UInt8)):List UInt8:=if h:1<row.length then rootR (upL row) else row.headD z32U
termination_by row.length
decreasing_by rw [upL_len];omega
theorem rootR_step{row:List (List UInt8)}(h:1<row.length):rootR row=rootR (upL row):=by rw [rootR,dif_pos h]
theorem rootR_one{row:List (List UInt8)}(h:¬ 1<row.length):rootR row=row.headD z32U:=by rw [rootR,dif_neg h]
theorem rootR_len:∀ (n:Nat) (row:List (List UInt8)),row.length=n→(∀ x∈row,x.length=32)→(rootR row).length=32:=by
 intro n
 induction n using Nat.strongRecOn with
 | _ n ih =>
  intro row hn h
  by_cases h1:1<row.length
  ·rw [rootR_step h1]
   exact ih _ (by rw [upL_len];omega) _ rfl (upL_32 _ h)
  ·rw [rootR_one h1]
   cases row with
   | nil=>exact z32U_len
   | cons a r=>exact h a (List.mem_cons_self ..)
def rootL (l:List (List UInt8)):List UInt8:=if l=[] then tagL tNone [] else rootR (l.map leafH)
theorem leaves_32(l:List (List UInt8)):∀ x∈l.map leafH,x.length=32:=fun x hx=>by
 obtain⟨y,_,rfl⟩:=List.mem_map.1 hx
 exact tagL_len _ _
theorem rootL_len(l:List (List UInt8)):(rootL l).length=32:=by
 unfold rootL
 split
 ·exact tagL_len _ _
 ·exact rootR_len _ _ rfl (leaves_32 l)
def pathR (row:List (List UInt8)) (i:Nat):List (List UInt8):=if h:1<row.length then (row[i^^^1]?).toList++pathR (upL row) (i / 2) else []
termination_by row.length
decreasing_by rw [upL_len];omega
theorem pathR_step{row:List (List UInt8)}(i:Nat) (h:1<row.length):pathR row i=(row[i^^^1]?).toList++pathR (upL row) (i / 2):=by rw [pathR,dif_pos h]
theorem pathR_one{row:List (List UInt8)}(i:Nat) (h:¬ 1<row.length):pathR row i=[]:=by rw [pathR,dif_neg h]
def proveE (n:Nat) (i:Int):Int:=if 65536<n∨i<0∨n≤i then 1 else 0
def proveL (l:List (List UInt8)) (i:Int):List (List UInt8):=if proveE l.length i=0 then pathR (l.map leafH) i.toNat else []
def climbR (n i:Nat) (d:List UInt8) (p:List (List UInt8)):Option (List UInt8) :=
 if h:1<n then
  if n≤i^^^1 then climbR ((n+1) / 2) (i / 2) d p
  else match p with
   | []=>none
   | x::r=>climbR ((n+1) / 2) (i / 2) (if i % 2=0 then nodeH d x else nodeH x d) r
 else if p=[] then some d else none
termination_by n
decreasing_by all_goals omega
theorem climbR_one{n:Nat}(i:Nat) (d:List UInt8) (p:List (List UInt8)) (h:¬ 1<n):climbR n i d p=if p=[] then some d else none:=by rw [climbR.eq_def,dif_neg h]
theorem climbR_alone{n i:Nat}(d:List UInt8) (p:List (List UInt8)) (h:1<n) (h2:n≤i^^^1):climbR n i d p=climbR ((n+1) / 2) (i / 2) d p:=by rw [climbR.eq_def,dif_pos h,if_pos h2]
theorem climbR_nil{n i:Nat}(d:List UInt8) (h:1<n) (h2:¬ n≤i^^^1):climbR n i d []=none:=by rw [climbR.eq_def,dif_pos h,if_neg h2]
theorem climbR_cons{n i:Nat}(d x:List UInt8) (r:List (List UInt8)) (h:1<n) (h2:¬ n≤i^^^1):climbR n i d (x::r)=climbR ((n+1) / 2) (i / 2) (if i % 2=0 then nodeH d x else nodeH x d) r:=by rw [climbR.eq_def,dif_pos h,if_neg h2]
theorem xor1(i:Nat):i^^^1=if i % 2=0 then i+1 else i-1:=by
 have h1:(i^^^1) / 2=i / 2:=by rw [Nat.xor_div_two];simp
 have h2:(i^^^1) % 2=(i % 2)^^^1:=by
  have:=Nat.xor_mod_two_pow (a:=i) (b:=1) (n:=1)
  simpa using this
 rcases Nat.mod_two_eq_zero_or_one i with h | h
 ·rw [h] at h2
  rw [if_pos h]
  have:(0^^^1:Nat)=1:=rfl
  omega
 ·rw [h] at h2
  rw [if_neg (by omega)]
  have:(1^^^1:Nat)=0:=rfl
  omega
def lenR (n i:Nat):Nat:=if h:1<n then (if n≤i^^^1 then 0 else 1)+lenR ((n+1) / 2) (i / 2) else 0
termination_by n
decreasing_by all_goals omega
theorem lenR_step{n:Nat}(i:Nat) (h:1<n):lenR n i=(if n≤i^^^1 then 0 else 1)+lenR ((n+1) / 2) (i / 2):=by rw [lenR,dif_pos h]
theorem lenR_one{n:Nat}(i:Nat) (h:¬ 1<n):lenR n i=0:=by rw [lenR,dif_neg h]
theorem climbR_len:∀ (n i:Nat) (d:List UInt8) (p:List (List UInt8)),(climbR n i d p).isSome=decide (p.length=lenR n i):=by
 intro n
 induction n using Nat.strongRecOn with
 | _ n ih =>
  intro i d p
  by_cases h:1<n
  ·by_cases h2:n≤i^^^1
   ·rw [climbR_alone d p h h2,ih _ (by omega),lenR_step i h,if_pos h2,Nat.zero_add]
   ·rw [lenR_step i h,if_neg h2]
    cases p with
    | nil=>rw [climbR_nil d h h2];simp;omega
    | cons x r=>rw [climbR_cons d x r h h2,ih _ (by omega)];simp;omega
  ·rw [climbR_one i d p h,lenR_one i h]
   cases p <;> simp
theorem climbR_32:∀ (n i:Nat) (d:List UInt8) (p:List (List UInt8)) (x:List UInt8),d.length=32→climbR n i d p=some x→x.length=32:=by
 intro n
 induction n using Nat.strongRecOn with
 | _ n ih =>
  intro i d p x hd hx
  by_cases h:1<n
  ·by_cases h2:n≤i^^^1
   ·rw [climbR_alone d p h h2] at hx;exact ih _ (by omega) _ _ _ _ hd hx
   ·cases p with
    | nil=>rw [climbR_nil d h h2] at hx;cases hx
    | cons y r =>
     rw [climbR_cons d y r h h2] at hx
     refine ih _ (by omega) _ _ _ _ ?_ hx
     split <;> exact tagL_len _ _
  ·rw [climbR_one i d p h] at hx
   split at hx
   ·injection hx with hx;rw [← hx];exact hd
   ·cases hx
def climbE (n i:Int) (leaf:List UInt8) (p:List (List UInt8)):Int:=if 65536<n∨i<0∨n≤i then 1 else if (climbR n.toNat i.toNat (leafH leaf) p).isSome then 0 else 70
def climbL (n i:Int) (leaf:List UInt8) (p:List (List UInt8)):List UInt8:=if climbE n i leaf p=0 then (climbR n.toNat i.toNat (leafH leaf) p).getD z32U else z32U
theorem climbL_len(n i:Int) (leaf:List UInt8) (p:List (List UInt8)):(climbL n i leaf p).length=32:=by
 unfold climbL
 split
 ·cases h:climbR n.toNat i.toNat (leafH leaf) p with
  | none=>exact z32U_len
  | some x=>exact climbR_32 _ _ _ _ x (tagL_len _ _) h
 ·exact z32U_len
theorem upL_get:∀ (l:List (List UInt8)) (k:Nat),(upL l)[k]?=match l[2*k]?,l[2*k+1]? with | some a,some b=>some (nodeH a b) | some a,none=>some a | _,_=>none
 | [],k=>by simp [upL]
 | [a],0=>by simp [upL]
 | [a],k+1=>by
  simp only [upL]
  rw [List.getElem?_eq_none (by simp),List.getElem?_eq_none (by simp;omega)]
 | a::b::r,0=>by simp [upL]
 | a::b::r,k+1=>by
  rw [upL,List.getElem?_cons_succ,upL_get r k,show 2*(k+1)=2*k+1+1 by omega,List.getElem?_cons_succ,List.getElem?_cons_succ,List.getElem?_cons_succ,List.getElem?_cons_succ]
theorem climb_path:∀ (n:Nat) (row:List (List UInt8)) (i:Nat) (d:List UInt8),row.length=n→row[i]?=some d→climbR n i d (pathR row i)=some (rootR row):=by
 intro n
 induction n using Nat.strongRecOn with
 | _ n ih =>
  intro row i d hn hd
  have hi:i<row.length:=(List.getElem?_eq_some_iff.1 hd).1
  by_cases h:1<row.length
  ·have hlen:(upL row).length=(n+1) / 2:=by rw [upL_len,hn]
   have hg:=upL_get row (i / 2)
   rw [rootR_step h,pathR_step i h]
   rcases Nat.mod_two_eq_zero_or_one i with hm | hm
   ·have hx:i^^^1=i+1:=by rw [xor1,if_pos hm]
    have e2:2*(i / 2)=i:=by omega
    rw [e2,hd] at hg
    rw [hx]
    cases hb:row[i+1]? with
    | none =>
     have:row.length≤i+1:=by simpa using hb
     rw [hb] at hg
     rw [climbR_alone _ _ (by omega) (by rw [hx];omega)]
     exact ih _ (by omega) _ _ _ hlen hg
    | some b =>
     have:=(List.getElem?_eq_some_iff.1 hb).1
     rw [hb] at hg
     simp only [Option.toList_some,List.singleton_append]
     rw [climbR_cons _ _ _ (by omega) (by rw [hx];omega),if_pos hm]
     exact ih _ (by omega) _ _ _ hlen hg
   ·have hx:i^^^1=i-1:=by rw [xor1,if_neg (by omega)]
    have e2:2*(i / 2)=i-1:=by omega
    have e3:2*(i / 2)+1=i:=by omega
    rw [e3,e2,hd] at hg
    rw [hx]
    have hb:row[i-1]?=some (row[i-1]'(by omega)):=List.getElem?_eq_getElem _
    rw [hb] at hg ⊢
    simp only [Option.toList_some,List.singleton_append]
    rw [climbR_cons _ _ _ (by omega) (by rw [hx];omega),if_neg (by omega)]
    exact ih _ (by omega) _ _ _ hlen hg
  ·have h0:i=0:=by omega
   rw [pathR_one i h,climbR_one i d [] (by omega),if_pos rfl,rootR_one h]
   subst h0
   cases row with
   | nil=>simp at hd
   | cons a r=>simp at hd;simp [hd]
def leavesL (ps:List Pg):List (List UInt8):=ps.map leafP
def sealE (ps:List Pg):Int:=if 1024<ps.length then 2 else if ps.all okPg then 0 else 560
def sealL (ps:List Pg):List UInt8:=rootL (leavesL ps)
theorem sealL_len(ps:List Pg):(sealL ps).length=32:=rootL_len _
def vo0:Vo:=⟨[],z32U,z32U_len⟩
def sealV (ps:List Pg):Vo:=if sealE ps=0 then ⟨ps,sealL ps,sealL_len ps⟩ else vo0
def checkE (v:Vo):Int:=if sealE v.ps≠0 then sealE v.ps else if sealL v.ps=v.sl then 0 else 560
def goneP (p:Pg):Pg:=⟨[],z32U,true,leafP p,z32U_len,leafP_len p⟩
def redE (v:Vo) (i:Int):Int:=if checkE v≠0 then checkE v else if i<0∨v.ps.length≤i then 1 else 0
def redV (v:Vo) (i:Int):Vo:=if redE v i=0 then ⟨v.ps.modify i.toNat goneP,v.sl,v.h⟩ else vo0
def prvE (v:Vo) (i:Int):Int:=if checkE v≠0 then checkE v else if i<0∨v.ps.length≤i then 1 else 0
def prvL (v:Vo) (i:Int):List (List UInt8):=if prvE v i=0 then pathR ((leavesL v.ps).map leafH) i.toNat else []
def verE (many i:Int) (p:Pg) (path:List (List UInt8)):Int:=if many<1∨1024<many∨i<0∨many≤i then 1 else if okPg p then climbE many i (leafP p) path else 560
def verB (sl:List UInt8) (many i:Int) (p:Pg) (path:List (List UInt8)):Bool:=decide (verE many i p path=0)&&decide (climbL many i (leafP p) path=sl)
theorem leafP_gone(p:Pg):leafP (goneP p)=leafP p:=by
 have:∀ q:Pg,q.gone=true→leafP q=q.left:=fun q h=>by unfold leafP;rw [if_pos h]
 exact this (goneP p) rfl
theorem okPg_gone(p:Pg):okPg (goneP p)=true:=by simp [okPg,goneP]
theorem leaves_modify(ps:List Pg) (i:Nat):leavesL (ps.modify i goneP)=leavesL ps:=by
 unfold leavesL
 refine List.ext_getElem? fun k=>?_
 rw [List.getElem?_map,List.getElem?_map,List.getElem?_modify]
 cases ps[k]? with
 | none=>rfl
 | some p =>
  by_cases h:i=k
  ·simp [h,leafP_gone]
  ·simp [h]
end

section
attribute [local simp] dZ_agg dZ_nt dZ_noTup dZ_cells dZ_one bz_toList bz_size strV
set_option maxRecDepth 8000
set_option maxHeartbeats 4000000
theorem dLn_cells(x:Ln):(dLn x).cells=[dI x.sp,dI x.fr,.sl 1 (x.ws.map dZ)]:=rfl
theorem dLn_isAgg(x:Ln):(dLn x).isAgg=true:=rfl
theorem dLn_noTup(x:Ln):(AV.d (dLn x)).noTup=true:=rfl
theorem dLn_nt(x:Ln) (ds:List D):(dLn x=.tup ds)=False:=by simp [dLn]
theorem dPg_cells(x:Pg):(dPg x).cells=.sl 3 (x.ls.map dLn)::(x.salt.map dU++(dB x.gone::x.left.map dU)):=rfl
theorem dPg_len(x:Pg):(dPg x).cells.length=66:=by simp [dPg_cells,x.h1,x.h2]
theorem dPg_isAgg(x:Pg):(dPg x).isAgg=true:=rfl
theorem dPg_noTup(x:Pg):(AV.d (dPg x)).noTup=true:=rfl
theorem dPg_nt(x:Pg) (ds:List D):(dPg x=.tup ds)=False:=by simp [dPg]
attribute [local simp] dLn_cells dLn_isAgg dLn_noTup dLn_nt dPg_isAgg dPg_noTup dPg_nt dPg_len
def firstNo {α:Type}(p:α→Bool) (l:List α):Int:=match l.findIdx? (fun x=>!p x) with | some i=>i | none=>-1
theorem firstNo_all{α:Type}(p:α→Bool) (l:List α):(!decide (firstNo p l ≥ 0))=l.all p:=by
 unfold firstNo
 split
 ·rename_i i h
  rw [List.findIdx?_eq_some_iff_getElem] at h
  obtain⟨h1,h2,_⟩:=h
  have:l.all p=false:=by
   rw [List.all_eq_false]
   exact⟨l[i],List.getElem_mem h1,by simpa using h2⟩
  simp [this]
 ·rename_i h
  rw [List.findIdx?_eq_none_iff] at h
  have:l.all p=true:=by
   rw [List.all_eq_true]
   intro x hx
   simpa using h x hx
  simp [this]
theorem firstNo_some{α:Type}{p:α→Bool}{l:List α}{i:Nat}(hi:i<l.length) (h1:p l[i]=false) (h2:∀ j,(h:j<i)→(h2:j<l.length)→p l[j]=true):firstNo p l=i:=by
 have:l.findIdx? (fun x=>!p x)=some i:=by
  rw [List.findIdx?_eq_some_iff_getElem]
  exact⟨hi,by simp [h1],fun j hj=>by simp [h2 j hj (by omega)]⟩
 unfold firstNo;rw [this]
theorem firstNo_none{α:Type}{p:α→Bool}{l:List α}(h2:∀ j,(h2:j<l.length)→p l[j]=true):firstNo p l=-1:=by
 have:l.findIdx? (fun x=>!p x)=none:=by
  rw [List.findIdx?_eq_none_iff]
  intro x hx
  obtain⟨j,hj,rfl⟩:=List.getElem_of_mem hx
  simp [h2 j hj]
 unfold firstNo;rw [this]
inductive CAWo:FuncId→List D→Out→Prop
 | ok (x:(List UInt8)):CAWo 81 [dZ x] (.ret (dB (isWd x)))
theorem hAWo:∀ f ds out,CAWo f ds out→PCall Tryz.prog f ds out:=by
 intro f ds out h
 cases h with
 | ok x=>exact word x
theorem notWo(x:(List UInt8)):PCall Tryz.prog 99 [dZ x,.ip (.fn (.func 81) [] [])] (.ret (dB (!isWd x))):=by
 refine pcall_of_vc hAWo c99 (by simp [a99]) fun hr=>?_
 have h1:=CAWo.ok x
 simp [a99,-List.reduceReplicate]
 refine vc_path [.ret (dB (isWd x))] ?_
 simp [-List.reduceReplicate]
 exact h1
inductive CBWo:FuncId→List D→Out→Prop
 | no (x:(List UInt8)):CBWo 99 [dZ x,.ip (.fn (.func 81) [] [])] (.ret (dB (!isWd x)))
theorem hBWo:∀ f ds out,CBWo f ds out→PCall Tryz.prog f ds out:=by
 intro f ds out h
 cases h with
 | no x=>exact notWo x
theorem indexWo(l:List (List UInt8)):PCall Tryz.prog 121 [.sl 1 (l.map dZ),(.fn (.func 99) [] [.ip (.fn (.func 81) [] [])])] (.ret (dI (firstNo isWd l))):=by
 refine pcall_of_vc hBWo c121 (by simp [a121]) fun hr=>?_
 have hlen:=(hr (.sl 1 (l.map dZ)) (by simp)).sl.1
 simp at hlen
 simp [a121]
 refine vc_loopK [0,1,7] Nat (fun i=>[(8,true,.d (dI i))]) (fun i=>[]) (fun i=>i≤l.length∧∀ j,(h:j<i)→(h2:j<l.length)→isWd l[j]=true) (fun i=>l.length-i) 0 (by simp) ⟨[],[],?_⟩ (fun i hi=>?_)
 ·simp
 ·obtain⟨h1,h2⟩:=hi
  rcases Nat.lt_or_ge i l.length with hlt | hge
  ·have hlt':(i:Int)<l.length:=by omega
   have hc:=CBWo.no l[i]
   have hw1:IntKind.i64.wrap ((i:Int)+1)=(i:Int)+1:=wrap64 (by omega)
   cases hb:isWd l[i] with
   | false =>
    rw [hb] at hc
    rw [firstNo_some hlt hb h2]
    simp [hlt]
    refine vc_path [.ret (dB true)] ?_
    simp [hlt]
    exact hc
   | true =>
    rw [hb] at hc
    simp [hlt]
    refine vc_path [.ret (dB false)] ?_
    simp [hlt,hw1]
    refine⟨hc,i+1,⟨by omega,fun j hj hj2=>?_⟩,by omega,[],[],?_⟩
    ·by_cases e:j=i
     ·subst e;exact hb
     ·exact h2 j (by omega) hj2
    ·simp
  ·have hge':¬ (i:Int)<l.length:=by omega
   rw [firstNo_none (fun j hj=>h2 j (by omega) hj)]
   simp [hge,hge']
inductive CCWo:FuncId→List D→Out→Prop
 | ix (l:List (List UInt8)):CCWo 121 [.sl 1 (l.map dZ),(.fn (.func 99) [] [.ip (.fn (.func 81) [] [])])] (.ret (dI (firstNo isWd l)))
theorem hCWo:∀ f ds out,CCWo f ds out→PCall Tryz.prog f ds out:=by
 intro f ds out h
 cases h with
 | ix l=>exact indexWo l
theorem hasWo(l:List (List UInt8)):PCall Tryz.prog 98 [.sl 1 (l.map dZ),(.fn (.func 99) [] [.ip (.fn (.func 81) [] [])])] (.ret (dB (decide (firstNo isWd l ≥ 0)))):=by
 refine pcall_of_vc hCWo c98 (by simp [a98]) fun hr=>?_
 have hc:=CCWo.ix l
 generalize firstNo isWd l=n at *
 simp [a98]
 refine vc_path [.ret (dI n)] ?_
 simp
 exact hc
inductive CDWo:FuncId→List D→Out→Prop
 | has (l:List (List UInt8)):CDWo 98 [.sl 1 (l.map dZ),(.fn (.func 99) [] [.ip (.fn (.func 81) [] [])])] (.ret (dB (decide (firstNo isWd l ≥ 0))))
theorem hDWo:∀ f ds out,CDWo f ds out→PCall Tryz.prog f ds out:=by
 intro f ds out h
 cases h with
 | has l=>exact hasWo l
theorem allWo(l:List (List UInt8)):PCall Tryz.prog 80 [.sl 1 (l.map dZ),(.fn (.func 81) [] [])] (.ret (dB (l.all isWd))):=by
 refine pcall_of_vc hDWo c80 (by simp [a80]) fun hr=>?_
 have hc:=CDWo.has l
 rw [← firstNo_all]
 generalize decide (firstNo isWd l ≥ 0)=b at *
 simp [a80]
 refine vc_path [.ret (dB b)] ?_
 simp
 exact⟨hc,.lit _⟩
inductive CRl:FuncId→List D→Out→Prop
 | within (n l:Int):CRl 35 [dI n,dI l] (.ret (dB (decide (0≤n)&&decide (n<l))))
 | all (l:List (List UInt8)):CRl 80 [.sl 1 (l.map dZ),(.fn (.func 81) [] [])] (.ret (dB (l.all isWd)))
theorem within(n l:Int):PCall Tryz.prog 35 [dI n,dI l] (.ret (dB (decide (0≤n)&&decide (n<l)))):=by
 refine pcall_of_vc noC c35 (by simp [a35]) fun hr=>?_
 simp [a35]
 refine vc_path [] ?_
 simp
 refine⟨fun h=>?_,fun h=>?_⟩
 ·simp [h]
 ·exact leD_of_eq (by congr 2;symm;simp;omega)
theorem hRl:∀ f ds out,CRl f ds out→PCall Tryz.prog f ds out:=by
 intro f ds out h
 cases h with
 | within n l=>exact within n l
 | all l=>exact allWo l
theorem rightLine(x:Ln):PCall Tryz.prog 51 [dLn x] (.ret (dB (okLn x))):=by
 refine pcall_of_vc hRl c51 (by simp [a51]) fun hr=>?_
 have h1:=CRl.within x.sp 64
 have h2:=CRl.within x.fr 1099511627776
 have h3:=CRl.all x.ws
 have ho:okLn x=((decide (0≤x.sp)&&decide (x.sp<64))&&((decide (0≤x.fr)&&decide (x.fr<1099511627776))&&(decide (x.ws.length≤4096)&&x.ws.all isWd))):=by
  unfold okLn;simp only [Bool.and_assoc]
 rw [ho]
 generalize (decide (0≤x.sp)&&decide (x.sp<64))=b1 at *
 generalize (decide (0≤x.fr)&&decide (x.fr<1099511627776))=b2 at *
 generalize x.ws.all isWd=b3 at *
 simp [a51]
 cases b1 with
 | false =>
  refine vc_path [.ret (dB false)] ?_
  simp
  exact h1
 | true=>cases b2 with
  | false =>
   refine vc_path [.ret (dB true),.ret (dB false)] ?_
   simp
   exact⟨h1,h2⟩
  | true =>
   by_cases hl:x.ws.length≤4096
   ·have hl':(x.ws.length:Int)≤4096:=by omega
    refine vc_path [.ret (dB true),.ret (dB true),.ret (dB b3)] ?_
    simp [hl,hl']
    exact⟨h1,h2,h3⟩
   ·have hl':¬ (x.ws.length:Int)≤4096:=by omega
    refine vc_path [.ret (dB true),.ret (dB true)] ?_
    simp [hl,hl']
    exact⟨h1,h2⟩
inductive CALn:FuncId→List D→Out→Prop
 | ok (x:Ln):CALn 51 [dLn x] (.ret (dB (okLn x)))
theorem hALn:∀ f ds out,CALn f ds out→PCall Tryz.prog f ds out:=by
 intro f ds out h
 cases h with
 | ok x=>exact rightLine x
theorem notLn(x:Ln):PCall Tryz.prog 79 [dLn x,.ip (.fn (.func 51) [] [])] (.ret (dB (!okLn x))):=by
 refine pcall_of_vc hALn c79 (by simp [a79]) fun hr=>?_
 have h1:=CALn.ok x
 simp [a79,-List.reduceReplicate]
 refine vc_path [.ret (dB (okLn x))] ?_
 simp [-List.reduceReplicate]
 exact h1
inductive CBLn:FuncId→List D→Out→Prop
 | no (x:Ln):CBLn 79 [dLn x,.ip (.fn (.func 51) [] [])] (.ret (dB (!okLn x)))
theorem hBLn:∀ f ds out,CBLn f ds out→PCall Tryz.prog f ds out:=by
 intro f ds out h
 cases h with
 | no x=>exact notLn x
theorem indexLn(l:List Ln):PCall Tryz.prog 97 [.sl 3 (l.map dLn),(.fn (.func 79) [] [.ip (.fn (.func 51) [] [])])] (.ret (dI (firstNo okLn l))):=by
 refine pcall_of_vc hBLn c97 (by simp [a97]) fun hr=>?_
 have hlen:=(hr (.sl 3 (l.map dLn)) (by simp)).sl.1
 simp at hlen
 simp [a97]
 refine vc_loopK [0,1,7] Nat (fun i=>[(8,true,.d (dI i))]) (fun i=>[]) (fun i=>i≤l.length∧∀ j,(h:j<i)→(h2:j<l.length)→okLn l[j]=true) (fun i=>l.length-i) 0 (by simp) ⟨[],[],?_⟩ (fun i hi=>?_)
 ·simp
 ·obtain⟨h1,h2⟩:=hi
  rcases Nat.lt_or_ge i l.length with hlt | hge
  ·have hlt':(i:Int)<l.length:=by omega
   have hc:=CBLn.no l[i]
   have hw1:IntKind.i64.wrap ((i:Int)+1)=(i:Int)+1:=wrap64 (by omega)
   cases hb:okLn l[i] with
   | false =>
    rw [hb] at hc
    rw [firstNo_some hlt hb h2]
    simp [hlt]
    refine vc_path [.ret (dB true)] ?_
    simp [hlt]
    exact hc
   | true =>
    rw [hb] at hc
    simp [hlt]
    refine vc_path [.ret (dB false)] ?_
    simp [hlt,hw1]
    refine⟨hc,i+1,⟨by omega,fun j hj hj2=>?_⟩,by omega,[],[],?_⟩
    ·by_cases e:j=i
     ·subst e;exact hb
     ·exact h2 j (by omega) hj2
    ·simp
  ·have hge':¬ (i:Int)<l.length:=by omega
   rw [firstNo_none (fun j hj=>h2 j (by omega) hj)]
   simp [hge,hge']
inductive CCLn:FuncId→List D→Out→Prop
 | ix (l:List Ln):CCLn 97 [.sl 3 (l.map dLn),(.fn (.func 79) [] [.ip (.fn (.func 51) [] [])])] (.ret (dI (firstNo okLn l)))
theorem hCLn:∀ f ds out,CCLn f ds out→PCall Tryz.prog f ds out:=by
 intro f ds out h
 cases h with
 | ix l=>exact indexLn l
theorem hasLn(l:List Ln):PCall Tryz.prog 78 [.sl 3 (l.map dLn),(.fn (.func 79) [] [.ip (.fn (.func 51) [] [])])] (.ret (dB (decide (firstNo okLn l ≥ 0)))):=by
 refine pcall_of_vc hCLn c78 (by simp [a78]) fun hr=>?_
 have hc:=CCLn.ix l
 generalize firstNo okLn l=n at *
 simp [a78]
 refine vc_path [.ret (dI n)] ?_
 simp
 exact hc
inductive CDLn:FuncId→List D→Out→Prop
 | has (l:List Ln):CDLn 78 [.sl 3 (l.map dLn),(.fn (.func 79) [] [.ip (.fn (.func 51) [] [])])] (.ret (dB (decide (firstNo okLn l ≥ 0))))
theorem hDLn:∀ f ds out,CDLn f ds out→PCall Tryz.prog f ds out:=by
 intro f ds out h
 cases h with
 | has l=>exact hasLn l
theorem allLn(l:List Ln):PCall Tryz.prog 50 [.sl 3 (l.map dLn),(.fn (.func 51) [] [])] (.ret (dB (l.all okLn))):=by
 refine pcall_of_vc hDLn c50 (by simp [a50]) fun hr=>?_
 have hc:=CDLn.has l
 rw [← firstNo_all]
 generalize decide (firstNo okLn l ≥ 0)=b at *
 simp [a50]
 refine vc_path [.ret (dB b)] ?_
 simp
 exact⟨hc,.lit _⟩
inductive CRp:FuncId→List D→Out→Prop
 | all (l:List Ln):CRp 50 [.sl 3 (l.map dLn),(.fn (.func 51) [] [])] (.ret (dB (l.all okLn)))
theorem hRp:∀ f ds out,CRp f ds out→PCall Tryz.prog f ds out:=by
 intro f ds out h
 cases h with
 | all l=>exact allLn l
theorem pg_take(p:Pg):(p.salt.map (AV.d∘dU)++(AV.d (D.lit (.bool p.gone))::p.left.map (AV.d∘dU))).take 32=p.salt.map (AV.d∘dU):=List.take_left' (by simp [p.h1])
theorem pg_gone(p:Pg):(p.salt.map (AV.d∘dU)++(AV.d (D.lit (.bool p.gone))::p.left.map (AV.d∘dU)))[32]?=some (AV.d (D.lit (.bool p.gone))):=by
 rw [List.getElem?_append_right (by simp [p.h1])];simp [p.h1]
theorem pg_left(p:Pg):(p.salt.map (AV.d∘dU)++(AV.d (D.lit (.bool p.gone))::p.left.map (AV.d∘dU))).drop 33=p.left.map (AV.d∘dU):=by
 rw [List.drop_append,List.drop_eq_nil_of_le (by simp [p.h1])];simp [p.h1]
theorem rightPg(p:Pg):PCall Tryz.prog 28 [dPg p] (.ret (dB (okPg p))):=by
 refine pcall_of_vc hRp c28 (by simp [a28]) fun hr=>?_
 have h3:=CRp.all p.ls
 have q1:=p.h1
 have q2:=p.h2
 simp [a28,dPg_cells,pg_gone,-List.reduceReplicate]
 refine⟨by omega,?_⟩
 cases hg:p.gone with
 | true =>
  have ho:okPg p=(decide (p.ls=[])&&decide (p.salt=z32U)):=by unfold okPg;rw [hg];simp only [if_true];cases p.ls <;> simp
  rw [ho]
  have pt:=pg_take p
  rw [hg] at pt
  simp [-List.reduceReplicate]
  by_cases hl:p.ls=[]
  ·refine vc_path [] ?_
   simp [hl,q1,q2,pt,allD_dU,eqC_dU q1 z32U_len,eqB_dU _ _ (q1.trans z32U_len.symm),-List.reduceReplicate]
   exact⟨of_eq_true (eqC_dU q1 z32U_len),leD_of_eq (congrArg (fun b=>D.lit (.bool b)) (eqB_dU p.salt z32U (q1.trans z32U_len.symm)))⟩
  ·refine vc_path [] ?_
   simp [hl,-List.reduceReplicate]
 | false =>
  have ho:okPg p=(decide (p.ls.length≤1024)&&(p.ls.all okLn&&decide (p.left=z32U))):=by unfold okPg;rw [hg];simp
  have pt:=pg_left p
  rw [hg] at pt
  have pl:(p.left.map (AV.d∘dU)).take 32=p.left.map (AV.d∘dU):=List.take_of_length_le (by simp [q2])
  rw [ho]
  generalize p.ls.all okLn=b3 at *
  simp [-List.reduceReplicate]
  by_cases hl:p.ls.length≤1024
  case neg =>
   have hl':¬ (p.ls.length:Int)≤1024:=by omega
   refine vc_path [] ?_
   simp [hl,hl',-List.reduceReplicate]
  have hl':(p.ls.length:Int)≤1024:=by omega
  cases b3 with
  | false =>
   refine vc_path [.ret (dB false)] ?_
   simp [hl,hl',-List.reduceReplicate]
   exact h3
  | true =>
   refine vc_path [.ret (dB true)] ?_
   simp [hl,hl',q1,q2,pt,pl,allD_dU,-List.reduceReplicate]
   exact⟨h3,of_eq_true (eqC_dU q2 z32U_len),leD_of_eq (congrArg (fun b=>D.lit (.bool b)) (eqB_dU p.left z32U (q2.trans z32U_len.symm)))⟩
end

section
attribute [local simp] dZ_agg dZ_nt dZ_noTup dZ_cells dZ_one bz_toList bz_size strV
attribute [local simp] dLn_cells dLn_isAgg dLn_noTup dLn_nt dPg_isAgg dPg_noTup dPg_nt dPg_len
set_option maxRecDepth 8000
set_option maxHeartbeats 4000000
theorem pg_allD(p:Pg):allD (p.salt.map (AV.d∘dU)++(AV.d (D.lit (.bool p.gone))::p.left.map (AV.d∘dU)))=some (p.salt.map dU++(D.lit (.bool p.gone)::p.left.map dU)):=by
 have:p.salt.map (AV.d∘dU)++(AV.d (D.lit (.bool p.gone))::p.left.map (AV.d∘dU))=(p.salt.map dU++(D.lit (.bool p.gone)::p.left.map dU)).map AV.d:=by simp
 rw [this];exact allD_map _
theorem pg_take66(x:AV) (p:Pg):(x::(p.salt.map (AV.d∘dU)++(AV.d (D.lit (.bool p.gone))::p.left.map (AV.d∘dU)))).take 66=x::(p.salt.map (AV.d∘dU)++(AV.d (D.lit (.bool p.gone))::p.left.map (AV.d∘dU))):=List.take_of_length_le (by simp [p.h1,p.h2])
theorem pg_take65(p:Pg):(p.salt.map (AV.d∘dU)++(AV.d (D.lit (.bool p.gone))::p.left.map (AV.d∘dU))).take 65=p.salt.map (AV.d∘dU)++(AV.d (D.lit (.bool p.gone))::p.left.map (AV.d∘dU)):=List.take_of_length_le (by simp [p.h1,p.h2])
inductive CAPg:FuncId→List D→Out→Prop
 | ok (x:Pg):CAPg 28 [dPg x] (.ret (dB (okPg x)))
theorem hAPg:∀ f ds out,CAPg f ds out→PCall Tryz.prog f ds out:=by
 intro f ds out h
 cases h with
 | ok x=>exact rightPg x
theorem notPg(x:Pg):PCall Tryz.prog 49 [dPg x,.ip (.fn (.func 28) [] [])] (.ret (dB (!okPg x))):=by
 refine pcall_of_vc hAPg c49 (by simp [a49]) fun hr=>?_
 have h1:=CAPg.ok x
 have q1:=x.h1
 have q2:=x.h2
 simp [a49,dPg_cells,pg_take65,pg_allD,q1,q2,-List.reduceReplicate]
 refine vc_path [.ret (dB (okPg x))] ?_
 simp [pg_take65,pg_allD,q1,q2,-List.reduceReplicate]
 exact h1
inductive CBPg:FuncId→List D→Out→Prop
 | no (x:Pg):CBPg 49 [dPg x,.ip (.fn (.func 28) [] [])] (.ret (dB (!okPg x)))
theorem hBPg:∀ f ds out,CBPg f ds out→PCall Tryz.prog f ds out:=by
 intro f ds out h
 cases h with
 | no x=>exact notPg x
theorem indexPg(l:List Pg):PCall Tryz.prog 77 [.sl 66 (l.map dPg),(.fn (.func 49) [] [.ip (.fn (.func 28) [] [])])] (.ret (dI (firstNo okPg l))):=by
 refine pcall_of_vc hBPg c77 (by simp [a77]) fun hr=>?_
 have hlen:=(hr (.sl 66 (l.map dPg)) (by simp)).sl.1
 simp at hlen
 simp [a77]
 refine vc_loopK [0,1,7] Nat (fun i=>[(8,true,.d (dI i))]) (fun i=>[]) (fun i=>i≤l.length∧∀ j,(h:j<i)→(h2:j<l.length)→okPg l[j]=true) (fun i=>l.length-i) 0 (by simp) ⟨[],[],?_⟩ (fun i hi=>?_)
 ·simp
 ·obtain⟨h1,h2⟩:=hi
  rcases Nat.lt_or_ge i l.length with hlt | hge
  ·have hlt':(i:Int)<l.length:=by omega
   have hc:=CBPg.no l[i]
   have hw1:IntKind.i64.wrap ((i:Int)+1)=(i:Int)+1:=wrap64 (by omega)
   cases hb:okPg l[i] with
   | false =>
    rw [hb] at hc
    rw [firstNo_some hlt hb h2]
    simp [hlt]
    refine vc_path [.ret (dB true)] ?_
    simp [hlt]
    exact hc
   | true =>
    rw [hb] at hc
    simp [hlt]
    refine vc_path [.ret (dB false)] ?_
    simp [hlt,hw1]
    refine⟨hc,i+1,⟨by omega,fun j hj hj2=>?_⟩,by omega,[],[],?_⟩
    ·by_cases e:j=i
     ·subst e;exact hb
     ·exact h2 j (by omega) hj2
    ·simp
  ·have hge':¬ (i:Int)<l.length:=by omega
   rw [firstNo_none (fun j hj=>h2 j (by omega) hj)]
   simp [hge,hge']
inductive CCPg:FuncId→List D→Out→Prop
 | ix (l:List Pg):CCPg 77 [.sl 66 (l.map dPg),(.fn (.func 49) [] [.ip (.fn (.func 28) [] [])])] (.ret (dI (firstNo okPg l)))
theorem hCPg:∀ f ds out,CCPg f ds out→PCall Tryz.prog f ds out:=by
 intro f ds out h
 cases h with
 | ix l=>exact indexPg l
theorem hasPg(l:List Pg):PCall Tryz.prog 48 [.sl 66 (l.map dPg),(.fn (.func 49) [] [.ip (.fn (.func 28) [] [])])] (.ret (dB (decide (firstNo okPg l ≥ 0)))):=by
 refine pcall_of_vc hCPg c48 (by simp [a48]) fun hr=>?_
 have hc:=CCPg.ix l
 generalize firstNo okPg l=n at *
 simp [a48]
 refine vc_path [.ret (dI n)] ?_
 simp
 exact hc
inductive CDPg:FuncId→List D→Out→Prop
 | has (l:List Pg):CDPg 48 [.sl 66 (l.map dPg),(.fn (.func 49) [] [.ip (.fn (.func 28) [] [])])] (.ret (dB (decide (firstNo okPg l ≥ 0))))
theorem hDPg:∀ f ds out,CDPg f ds out→PCall Tryz.prog f ds out:=by
 intro f ds out h
 cases h with
 | has l=>exact hasPg l
theorem allPg(l:List Pg):PCall Tryz.prog 27 [.sl 66 (l.map dPg),(.fn (.func 28) [] [])] (.ret (dB (l.all okPg))):=by
 refine pcall_of_vc hDPg c27 (by simp [a27]) fun hr=>?_
 have hc:=CDPg.has l
 rw [← firstNo_all]
 generalize decide (firstNo okPg l ≥ 0)=b at *
 simp [a27]
 refine vc_path [.ret (dB b)] ?_
 simp
 exact⟨hc,.lit _⟩
theorem all_false{α:Type}{p:α→Bool}{l:List α}{i:Nat}(hi:i<l.length) (h:p l[i]=false):l.all p=false:=by
 rw [List.all_eq_false];exact⟨l[i],List.getElem_mem hi,by simp [h]⟩
theorem all_true{α:Type}{p:α→Bool}{l:List α}(h:∀ j,(h:j<l.length)→p l[j]=true):l.all p=true:=by
 rw [List.all_eq_true]
 intro x hx
 obtain⟨j,hj,rfl⟩:=List.getElem_of_mem hx
 exact h j hj
theorem zlit:[D.lit (.int .u8 0),D.lit (.int .u8 0),D.lit (.int .u8 0),D.lit (.int .u8 0),D.lit (.int .u8 0),D.lit (.int .u8 0),D.lit (.int .u8 0),D.lit (.int .u8 0),D.lit (.int .u8 0),D.lit (.int .u8 0),D.lit (.int .u8 0),D.lit (.int .u8 0),D.lit (.int .u8 0),D.lit (.int .u8 0),D.lit (.int .u8 0),D.lit (.int .u8 0),D.lit (.int .u8 0),D.lit (.int .u8 0),D.lit (.int .u8 0),D.lit (.int .u8 0),D.lit (.int .u8 0),D.lit (.int .u8 0),D.lit (.int .u8 0),D.lit (.int .u8 0),D.lit (.int .u8 0),D.lit (.int .u8 0),D.lit (.int .u8 0),D.lit (.int .u8 0),D.lit (.int .u8 0),D.lit (.int .u8 0),D.lit (.int .u8 0),D.lit (.int .u8 0)]=z32U.map dU:=rfl
theorem rwithin(n l:Int):PCall Tryz.prog 37 [dI n,dI l] (.ret (dB (decide (0≤n)&&decide (n<l)))):=by
 refine pcall_of_vc noC c37 (by simp [a37]) fun hr=>?_
 simp [a37]
 refine vc_path [] ?_
 simp
 refine⟨fun h=>?_,fun h=>?_⟩
 ·simp [h]
 ·exact leD_of_eq (by congr 2;symm;simp;omega)
inductive CRli:FuncId→List D→Out→Prop
 | within (n l:Int):CRli 37 [dI n,dI l] (.ret (dB (decide (0≤n)&&decide (n<l))))
 | word (b:List UInt8):CRli 82 [dZ b] (.ret (dB (isWd b)))
theorem hRli:∀ f ds out,CRli f ds out→PCall Tryz.prog f ds out:=by
 intro f ds out h
 cases h with
 | within n l=>exact rwithin n l
 | word b=>exact rword b
theorem rline(x:Ln):PCall Tryz.prog 54 [dLn x] (.ret (dB (okLn x))):=by
 refine pcall_of_vc hRli c54 (by simp [a54]) fun hr=>?_
 have hreal:=hr _ (List.mem_singleton.2 rfl)
 have hlen:=(Real.sl (hreal.agg (.sl 1 (x.ws.map dZ)) (by simp)).2).1
 simp only [List.length_map] at hlen
 have k1:=CRli.within x.sp 64
 have k2:=CRli.within x.fr 1099511627776
 have ho:okLn x=((decide (0≤x.sp)&&decide (x.sp<64))&&((decide (0≤x.fr)&&decide (x.fr<1099511627776))&&(decide (x.ws.length≤4096)&&x.ws.all isWd))):=by
  unfold okLn;simp only [Bool.and_assoc]
 rw [ho]
 generalize (decide (0≤x.sp)&&decide (x.sp<64))=b1 at *
 generalize (decide (0≤x.fr)&&decide (x.fr<1099511627776))=b2 at *
 simp [a54]
 cases b1 with
 | false =>
  refine vc_path [.ret (dB false)] ?_
  simp
  exact k1
 | true=>cases b2 with
  | false =>
   refine vc_path [.ret (dB true),.ret (dB false)] ?_
   simp
   exact⟨k1,k2⟩
  | true =>
   by_cases hl:x.ws.length≤4096
   case neg =>
    have hl':¬ (x.ws.length:Int)≤4096:=by omega
    refine vc_path [.ret (dB true),.ret (dB true)] ?_
    simp [hl,hl']
    exact⟨k1,k2⟩
   have hl':¬ (4096:Int)<x.ws.length:=by omega
   refine vc_path [.ret (dB true),.ret (dB true)] ?_
   simp [hl,hl']
   refine⟨k1,k2,?_⟩
   clear k1 k2
   refine vc_loopK [1] Nat (fun i=>[(3,true,.d (dI i))]) (fun i=>[]) (fun i=>i≤x.ws.length∧∀ j,(h:j<i)→(h2:j<x.ws.length)→isWd x.ws[j]=true) (fun i=>x.ws.length-i) 0 (by simp) ⟨[],[],?_⟩ (fun i hi=>?_)
   ·simp []
   obtain⟨h1,h2⟩:=hi
   have hw1:IntKind.i64.wrap ((i:Int)+1)=(i:Int)+1:=wrap64 (by omega)
   rcases Nat.lt_or_ge i x.ws.length with hlt | hge
   ·have hlt':(i:Int)<x.ws.length:=by omega
    have kc:=CRli.word x.ws[i]
    cases hb:isWd x.ws[i] with
    | false =>
     rw [hb] at kc
     rw [all_false hlt hb]
     simp [hlt,hlt']
     refine vc_path [.ret (dB false)] ?_
     simp [hlt,hlt']
     exact kc
    | true =>
     rw [hb] at kc
     simp [hlt,hlt']
     refine vc_path [.ret (dB true)] ?_
     simp [hlt,hlt',hw1]
     refine⟨kc,i+1,⟨by omega,fun j hj hj2=>?_⟩,by omega,[],[],?_⟩
     ·by_cases e:j=i
      ·subst e;exact hb
      ·exact h2 j (by omega) hj2
     ·simp []
   ·have hge':¬ (i:Int)<x.ws.length:=by omega
    rw [all_true (fun j hj=>h2 j (by omega) hj)]
    simp [hge,hge']
inductive CRri:FuncId→List D→Out→Prop
 | line (x:Ln):CRri 54 [dLn x] (.ret (dB (okLn x)))
theorem hRri:∀ f ds out,CRri f ds out→PCall Tryz.prog f ds out:=by
 intro f ds out h
 cases h with
 | line x=>exact rline x
theorem pg_leL(ρ:Nat→Nat) (N:Nat→Option Nat) (ok:Nat→Bool) (k:Nat) (s l:List UInt8) (d:D):leA.leL ρ N ok k (s.map (AV.d∘dU)++(AV.d d::l.map (AV.d∘dU))) (s.map (AV.d∘dU)++(AV.d d::l.map (AV.d∘dU)))=True:=by
 have:s.map (AV.d∘dU)++(AV.d d::l.map (AV.d∘dU))=(s.map dU++(d::l.map dU)).map AV.d:=by simp
 rw [this];exact eq_true (leL_map ρ N ok k _)
theorem pg_ones{s l:List UInt8}{b:Bool}:(∀ a:AV,(∃ a1,a1∈s∧AV.d (dU a1)=a)∨a=AV.d (D.lit (.bool b))∨(∃ a1,a1∈l∧AV.d (dU a1)=a)→a.one=true)=True:=eq_true (by
 rintro a (⟨a1,_,rfl⟩ | rfl | ⟨a1,_,rfl⟩) <;> rfl)
theorem rRight(p:Pg):PCall Tryz.prog 32 [dPg p] (.ret (dB (okPg p))):=by
 refine pcall_of_vc hRri c32 (by simp [a32]) fun hr=>?_
 have hreal:=hr _ (List.mem_singleton.2 rfl)
 have hlen:=(Real.sl (hreal.agg (.sl 3 (p.ls.map dLn)) (by simp)).2).1
 simp only [List.length_map] at hlen
 have q1:=p.h1
 have q2:=p.h2
 simp [a32,dPg_cells,pg_gone,-List.reduceReplicate]
 refine⟨by omega,?_⟩
 cases hg:p.gone with
 | true =>
  have ho:okPg p=(decide (p.ls=[])&&decide (p.salt=z32U)):=by unfold okPg;rw [hg];simp only [if_true];cases p.ls <;> simp
  rw [ho]
  have pt:=pg_take p
  rw [hg] at pt
  simp [-List.reduceReplicate]
  by_cases hl:p.ls=[]
  ·refine vc_path [] ?_
   simp [hl,q1,q2,pt,allD_dU,-List.reduceReplicate]
   exact⟨of_eq_true (eqC_dU q1 z32U_len),leD_of_eq (congrArg (fun b=>D.lit (.bool b)) (eqB_dU p.salt z32U (q1.trans z32U_len.symm)))⟩
  ·refine vc_path [] ?_
   simp [hl,-List.reduceReplicate]
 | false =>
  have ho:okPg p=(decide (p.ls.length≤1024)&&(p.ls.all okLn&&decide (p.left=z32U))):=by unfold okPg;rw [hg];simp
  have pt:=pg_left p
  rw [hg] at pt
  have pl:(p.left.map (AV.d∘dU)).take 32=p.left.map (AV.d∘dU):=List.take_of_length_le (by simp [q2])
  rw [ho]
  simp [-List.reduceReplicate]
  by_cases hl:p.ls.length≤1024
  case neg =>
   have hl':(1024:Int)<p.ls.length:=by omega
   refine vc_path [] ?_
   simp [hl,hl',-List.reduceReplicate]
  have hl':¬ (1024:Int)<p.ls.length:=by omega
  have z1:=eqC_dU q2 z32U_len
  have z2:=eqB_dU p.left z32U (q2.trans z32U_len.symm)
  refine vc_path [] ?_
  simp [hl,hl',q1,q2,pt,pl,allD_dU,-List.reduceReplicate]
  refine⟨of_eq_true z1,?_⟩
  simp only [zlit,z2]
  by_cases hz:p.left=z32U
  case neg=>simp [hz]
  simp [hz]
  rw [hz] at pt
  refine vc_loopK [1] Nat (fun i=>[(3,true,.d (dI i))]) (fun i=>[]) (fun i=>i≤p.ls.length∧∀ j,(h:j<i)→(h2:j<p.ls.length)→okLn p.ls[j]=true) (fun i=>p.ls.length-i) 0 (by simp) ⟨[],[],?_⟩ (fun i hi=>?_)
  ·simp [pg_leL,pg_ones]
  obtain⟨h1,h2⟩:=hi
  have hw1:IntKind.i64.wrap ((i:Int)+1)=(i:Int)+1:=wrap64 (by omega)
  rcases Nat.lt_or_ge i p.ls.length with hlt | hge
  ·have hlt':(i:Int)<p.ls.length:=by omega
   have kc:=CRri.line p.ls[i]
   cases hb:okLn p.ls[i] with
   | false =>
    rw [hb] at kc
    rw [all_false hlt hb]
    simp [hlt,hlt']
    refine vc_path [.ret (dB false)] ?_
    simp [hlt,hlt']
    exact kc
   | true =>
    rw [hb] at kc
    simp [hlt,hlt']
    refine vc_path [.ret (dB true)] ?_
    simp [hlt,hlt',hw1]
    refine⟨kc,i+1,⟨by omega,fun j hj hj2=>?_⟩,by omega,[],[],?_⟩
    ·by_cases e:j=i
     ·subst e;exact hb
     ·exact h2 j (by omega) hj2
    ·simp [pg_leL,pg_ones]
  ·have hge':¬ (i:Int)<p.ls.length:=by omega
   rw [all_true (fun j hj=>h2 j (by omega) hj)]
   simp [hge,hge']
theorem take_stepG{α:Type}{a b:List α}{i:Nat}(ha:i<a.length) (hb:i<b.length) (h:a.take i=b.take i) (he:a[i]=b[i]):a.take (i+1)=b.take (i+1):=by
 rw [← List.take_append_getElem ha,← List.take_append_getElem hb,h,he]
theorem pg_leftG{s:List UInt8}(h:s.length=32) (l:List UInt8) (b:Bool):(s.map (AV.d∘dU)++(AV.d (D.lit (.bool b))::l.map (AV.d∘dU))).drop 33=l.map (AV.d∘dU):=by
 rw [List.drop_append,List.drop_eq_nil_of_le (by simp [h])];simp [h]
theorem leL_mdU(ρ:Nat→Nat) (N:Nat→Option Nat) (ok:Nat→Bool) (k:Nat) (l:List UInt8):leA.leL ρ N ok k (l.map (AV.d∘dU)) (l.map (AV.d∘dU))=True:=by
 have:l.map (AV.d∘dU)=(l.map dU).map AV.d:=by simp
 rw [this];exact eq_true (leL_map ρ N ok k _)
theorem dU_oneT(a:UInt8):(dU a).one=true:=rfl
theorem ne_of_get{α:Type}{a b:List α}{i:Nat}(ha:i<a.length) (hb:i<b.length) (h:a[i]≠b[i]):a≠b:=by
 rintro rfl;exact h rfl
theorem sameLine(x y:Ln):PCall Tryz.prog 70 [dLn x,dLn y] (.ret (dB (decide (x=y)))):=by
 refine pcall_of_vc noC c70 (by simp [a70]) fun hr=>?_
 have hreal:=hr (dLn x) (by simp)
 have hlen:=(Real.sl (hreal.agg (.sl 1 (x.ws.map dZ)) (by simp)).2).1
 simp only [List.length_map] at hlen
 have hno:∀ (h:x≠y),LeD (.lit (.bool false)) (.lit (.bool (decide (x=y)))):=fun h=>by rw [decide_eq_false h];exact LeD.refl _
 simp [a70]
 by_cases e1:x.sp=y.sp
 case neg =>
  refine vc_path [] ?_
  simp [e1]
  exact hno (fun h=>e1 (by rw [h]))
 by_cases e2:x.fr=y.fr
 case neg =>
  refine vc_path [] ?_
  simp [e1,e2]
  exact hno (fun h=>e2 (by rw [h]))
 by_cases e3:x.ws.length=y.ws.length
 case neg =>
  have e3':¬ (x.ws.length:Int)=y.ws.length:=by omega
  refine vc_path [] ?_
  simp [e1,e2,e3,e3']
  exact hno (fun h=>e3 (by rw [h]))
 refine vc_path [] ?_
 simp [e1,e2,e3]
 have hyes:x.ws=y.ws→decide (x=y)=true:=fun h=>decide_eq_true (Ln.ext' e1 e2 h)
 refine vc_loopK [2,3] Nat (fun i=>[(5,true,.d (dI i))]) (fun i=>[]) (fun i=>i≤x.ws.length∧x.ws.take i=y.ws.take i) (fun i=>x.ws.length-i) 0 (by simp) ⟨[],[],?_⟩ (fun i hi=>?_)
 ·simp []
 obtain⟨h1,h2⟩:=hi
 rcases Nat.lt_or_ge i x.ws.length with hlt | hge
 ·have hlt':(i:Int)<x.ws.length:=by omega
  have hlb:i<y.ws.length:=by omega
  have hw1:IntKind.i64.wrap ((i:Int)+1)=(i:Int)+1:=wrap64 (by omega)
  simp [hlt,hlt',hlb,hw1,dZ,bz_inj]
  refine⟨rfl,fun hne=>hno fun h=>absurd (congrArg Ln.ws h) (ne_of_get hlt hlb (hne)),fun he=>⟨i+1,⟨by omega,take_stepG hlt hlb h2 (he)⟩,by omega,[],[],?_⟩⟩
  simp []
 ·have hge':¬ (i:Int)<x.ws.length:=by omega
  have hab:x.ws=y.ws:=by
   rw [List.take_of_length_le (by omega),List.take_of_length_le (by omega)] at h2;exact h2
  rw [hyes hab]
  simp [hge,hge']
inductive CSl:FuncId→List D→Out→Prop
 | line (x y:Ln):CSl 70 [dLn x,dLn y] (.ret (dB (decide (x=y))))
theorem hSl:∀ f ds out,CSl f ds out→PCall Tryz.prog f ds out:=by
 intro f ds out h
 cases h with
 | line x y=>exact sameLine x y
theorem sameLines(a b:List Ln):PCall Tryz.prog 44 [.sl 3 (a.map dLn),.sl 3 (b.map dLn)] (.ret (dB (decide (a=b)))):=by
 refine pcall_of_vc hSl c44 (by simp [a44]) fun hr=>?_
 have hla:=(hr (.sl 3 (a.map dLn)) (by simp)).sl.1
 simp at hla
 have hno:∀ (h:a≠b),LeD (.lit (.bool false)) (.lit (.bool (decide (a=b)))):=fun h=>by rw [decide_eq_false h];exact LeD.refl _
 simp [a44]
 refine⟨fun hne=>hno fun h=>hne (by rw [h]),fun hl=>?_⟩
 refine vc_loopK [0,1] Nat (fun i=>[(5,true,.d (dI i))]) (fun i=>[]) (fun i=>i≤a.length∧a.take i=b.take i) (fun i=>a.length-i) 0 (by simp) ⟨[],[],?_⟩ (fun i hi=>?_)
 ·simp []
 obtain⟨h1,h2⟩:=hi
 rcases Nat.lt_or_ge i a.length with hlt | hge
 ·have hlt':(i:Int)<a.length:=by omega
  have hlb:i<b.length:=by omega
  have hw1:IntKind.i64.wrap ((i:Int)+1)=(i:Int)+1:=wrap64 (by omega)
  have kc:=CSl.line a[i] b[i]
  by_cases he:a[i]=b[i]
  case neg =>
   rw [decide_eq_false he] at kc
   simp [hlt,hlt',hlb]
   refine vc_pathD [.ret (dB false)] ?_
   simp [hlt,hlt',hlb]
   exact⟨kc,rfl,hno (ne_of_get hlt hlb he)⟩
  rw [decide_eq_true he] at kc
  simp [hlt,hlt',hlb]
  refine vc_pathD [.ret (dB true)] ?_
  simp [hlt,hlt',hlb,hw1]
  refine⟨kc,rfl,i+1,⟨by omega,take_stepG hlt hlb h2 he⟩,by omega,[],[],?_⟩
  simp []
 ·have hge':¬ (i:Int)<a.length:=by omega
  have hab:a=b:=by
   rw [List.take_of_length_le (by omega),List.take_of_length_le (by omega)] at h2;exact h2
  rw [decide_eq_true hab]
  simp [hge,hge']
theorem dDg_cells(x:List UInt8):(dDg x).cells=x.map dU:=rfl
theorem dDg_isAgg(x:List UInt8):(dDg x).isAgg=true:=rfl
theorem dDg_noTup(x:List UInt8):(AV.d (dDg x)).noTup=true:=rfl
theorem dDg_nt(x:List UInt8) (ds:List D):(dDg x=.tup ds)=False:=by simp [dDg]
structure Dg where
 b:List UInt8
 h:b.length=32
 deriving DecidableEq
theorem Dg.ext'{x y:Dg}(h:x.b=y.b):x=y:=by cases x;cases y;simp_all
def dG (x:Dg):D:=dDg x.b
theorem dG_cells(x:Dg):(dG x).cells=x.b.map dU:=rfl
theorem dG_eq(x:Dg):dG x=.agg (x.b.map dU):=rfl
theorem dG_len(x:Dg):(dG x).cells.length=32:=by simp [dG_cells,x.h]
theorem dG_isAgg(x:Dg):(dG x).isAgg=true:=rfl
theorem dG_noTup(x:Dg):(AV.d (dG x)).noTup=true:=rfl
theorem dG_nt(x:Dg) (ds:List D):(dG x=.tup ds)=False:=by simp [dG,dDg]
attribute [local simp] dG_isAgg dG_noTup dG_nt dG_len
theorem samePath(a b:List Dg):PCall Tryz.prog 21 [.sl 32 (a.map dG),.sl 32 (b.map dG)] (.ret (dB (decide (a=b)))):=by
 refine pcall_of_vc noC c21 (by simp [a21]) fun hr=>?_
 have hla:=(hr (.sl 32 (a.map dG)) (by simp)).sl.1
 simp at hla
 have hno:∀ (h:a≠b),LeD (.lit (.bool false)) (.lit (.bool (decide (a=b)))):=fun h=>by rw [decide_eq_false h];exact LeD.refl _
 simp [a21]
 refine⟨fun hne=>hno fun h=>hne (by rw [h]),fun hl=>?_⟩
 refine vc_loopK [0,1] Nat (fun i=>[(5,true,.d (dI i))]) (fun i=>[]) (fun i=>i≤a.length∧a.take i=b.take i) (fun i=>a.length-i) 0 (by simp) ⟨[],[],?_⟩ (fun i hi=>?_)
 ·simp []
 obtain⟨h1,h2⟩:=hi
 rcases Nat.lt_or_ge i a.length with hlt | hge
 ·have hlt':(i:Int)<a.length:=by omega
  have hlb:i<b.length:=by omega
  have hw1:IntKind.i64.wrap ((i:Int)+1)=(i:Int)+1:=wrap64 (by omega)
  simp [hlt,hlt',hlb,hw1,dG_eq,a[i].h,b[i].h,eqC_dU a[i].h b[i].h,eqB_dU _ _ (a[i].h.trans b[i].h.symm)]
  refine⟨rfl,fun hne=>hno (ne_of_get hlt hlb (fun h=>hne (by rw [h]))),fun he=>⟨i+1,⟨by omega,take_stepG hlt hlb h2 (Dg.ext' he)⟩,by omega,[],[],?_⟩⟩
  simp []
 ·have hge':¬ (i:Int)<a.length:=by omega
  have hab:a=b:=by
   rw [List.take_of_length_le (by omega),List.take_of_length_le (by omega)] at h2;exact h2
  rw [decide_eq_true hab]
  simp [hge,hge']
inductive CSpg:FuncId→List D→Out→Prop
 | lines (a b:List Ln):CSpg 44 [.sl 3 (a.map dLn),.sl 3 (b.map dLn)] (.ret (dB (decide (a=b))))
theorem hSpg:∀ f ds out,CSpg f ds out→PCall Tryz.prog f ds out:=by
 intro f ds out h
 cases h with
 | lines a b=>exact sameLines a b
theorem samePage(x y:Pg):PCall Tryz.prog 23 [dPg x,dPg y] (.ret (dB (decide (x=y)))):=by
 refine pcall_of_vc hSpg c23 (by simp [a23]) fun hr=>?_
 have k:=CSpg.lines x.ls y.ls
 have x1:=x.h1
 have x2:=x.h2
 have y1:=y.h1
 have y2:=y.h2
 have plx:(x.left.map (AV.d∘dU)).take 32=x.left.map (AV.d∘dU):=List.take_of_length_le (by simp [x2])
 have ply:(y.left.map (AV.d∘dU)).take 32=y.left.map (AV.d∘dU):=List.take_of_length_le (by simp [y2])
 have hno:∀ (h:x≠y),LeD (.lit (.bool false)) (.lit (.bool (decide (x=y)))):=fun h=>by rw [decide_eq_false h];exact LeD.refl _
 simp [a23,dPg_cells,-List.reduceReplicate]
 have c1:=eqC_dU x1 y1
 have c2:=eqC_dU x2 y2
 have b1:=eqB_dU _ _ (x1.trans y1.symm)
 have b2:=eqB_dU _ _ (x2.trans y2.symm)
 by_cases e1:x.salt=y.salt
 case neg =>
  refine vc_path [] ?_
  simp [pg_take,pg_gone,pg_leftG x1,pg_leftG y1,plx,ply,allD_dU,x1,x2,y1,y2,c1,b1,e1,-List.reduceReplicate]
  exact hno (fun h=>e1 (by rw [h]))
 rw [decide_eq_true e1] at b1
 by_cases e2:x.gone=y.gone
 case neg =>
  refine vc_path [] ?_
  simp [pg_take,pg_gone,pg_leftG x1,pg_leftG y1,plx,ply,allD_dU,x1,x2,y1,y2,c1,b1,e2,-List.reduceReplicate]
  exact hno (fun h=>e2 (by rw [h]))
 by_cases e3:x.left=y.left
 case neg =>
  refine vc_path [] ?_
  simp [pg_take,pg_gone,pg_leftG x1,pg_leftG y1,plx,ply,allD_dU,x1,x2,y1,y2,c1,c2,b1,b2,e2,e3,-List.reduceReplicate]
  exact hno (fun h=>e3 (by rw [h]))
 rw [decide_eq_true e3] at b2
 by_cases e4:x.ls=y.ls
 case neg =>
  rw [decide_eq_false e4] at k
  refine vc_path [.ret (dB false)] ?_
  simp [pg_take,pg_gone,pg_leftG x1,pg_leftG y1,plx,ply,allD_dU,x1,x2,y1,y2,c1,c2,b1,b2,e2,-List.reduceReplicate]
  exact⟨k,hno (fun h=>e4 (by rw [h]))⟩
 rw [decide_eq_true e4] at k
 refine vc_path [.ret (dB true)] ?_
 simp [pg_take,pg_gone,pg_leftG x1,pg_leftG y1,plx,ply,allD_dU,x1,x2,y1,y2,c1,c2,b1,b2,e2,-List.reduceReplicate]
 refine⟨k,?_⟩
 rw [decide_eq_true (Pg.ext' e4 e1 e2 e3)]
 exact LeD.refl _
theorem dVo_cells(x:Vo):(dVo x).cells=.sl 66 (x.ps.map dPg)::x.sl.map dU:=rfl
theorem dVo_len(x:Vo):(dVo x).cells.length=33:=by simp [dVo_cells,x.h]
theorem dVo_isAgg(x:Vo):(dVo x).isAgg=true:=rfl
theorem dVo_noTup(x:Vo):(AV.d (dVo x)).noTup=true:=rfl
theorem dVo_nt(x:Vo) (ds:List D):(dVo x=.tup ds)=False:=by simp [dVo]
attribute [local simp] dVo_isAgg dVo_noTup dVo_nt dVo_len
inductive CSv:FuncId→List D→Out→Prop
 | page (x y:Pg):CSv 23 [dPg x,dPg y] (.ret (dB (decide (x=y))))
theorem hSv:∀ f ds out,CSv f ds out→PCall Tryz.prog f ds out:=by
 intro f ds out h
 cases h with
 | page x y=>exact samePage x y
theorem sameVo(x y:Vo):PCall Tryz.prog 13 [dVo x,dVo y] (.ret (dB (decide (x=y)))):=by
 refine pcall_of_vc hSv c13 (by simp [a13]) fun hr=>?_
 have hreal:=hr (dVo x) (by simp)
 have hlen:=(Real.sl (hreal.agg (.sl 66 (x.ps.map dPg)) (by simp)).2).1
 simp only [List.length_map] at hlen
 have x1:=x.h
 have y1:=y.h
 have plx:(x.sl.map (AV.d∘dU)).take 32=x.sl.map (AV.d∘dU):=List.take_of_length_le (by simp [x1])
 have ply:(y.sl.map (AV.d∘dU)).take 32=y.sl.map (AV.d∘dU):=List.take_of_length_le (by simp [y1])
 have hno:∀ (h:x≠y),LeD (.lit (.bool false)) (.lit (.bool (decide (x=y)))):=fun h=>by rw [decide_eq_false h];exact LeD.refl _
 simp [a13,dVo_cells,-List.reduceReplicate]
 have c1:=eqC_dU x1 y1
 have b1:=eqB_dU _ _ (x1.trans y1.symm)
 by_cases e1:x.sl=y.sl
 case neg =>
  refine vc_path [] ?_
  simp [plx,ply,allD_dU,x1,y1,c1,b1,e1,-List.reduceReplicate]
  exact hno (fun h=>e1 (by rw [h]))
 rw [decide_eq_true e1] at b1
 by_cases e2:x.ps.length=y.ps.length
 case neg =>
  have e2':¬ (x.ps.length:Int)=y.ps.length:=by omega
  refine vc_path [] ?_
  simp [plx,ply,allD_dU,x1,y1,c1,b1,e2,e2',-List.reduceReplicate]
  exact hno (fun h=>e2 (by rw [h]))
 refine vc_path [] ?_
 simp [plx,ply,allD_dU,x1,y1,c1,b1,e2,-List.reduceReplicate]
 have hyes:x.ps=y.ps→decide (x=y)=true:=fun h=>decide_eq_true (Vo.ext' h e1)
 refine vc_loopK [2,3] Nat (fun i=>[(5,true,.d (dI i))]) (fun i=>[]) (fun i=>i≤x.ps.length∧x.ps.take i=y.ps.take i) (fun i=>x.ps.length-i) 0 (by simp) ⟨[],[],?_⟩ (fun i hi=>?_)
 ·simp [leL_mdU,dU_oneT]
 obtain⟨h1,h2⟩:=hi
 rcases Nat.lt_or_ge i x.ps.length with hlt | hge
 ·have hlt':(i:Int)<x.ps.length:=by omega
  have hlb:i<y.ps.length:=by omega
  have hw1:IntKind.i64.wrap ((i:Int)+1)=(i:Int)+1:=wrap64 (by omega)
  have kc:=CSv.page x.ps[i] y.ps[i]
  by_cases he:x.ps[i]=y.ps[i]
  case neg =>
   rw [decide_eq_false he] at kc
   simp [hlt,hlt',hlb]
   refine vc_pathD [.ret (dB false)] ?_
   simp [hlt,hlt',hlb]
   exact⟨kc,rfl,hno fun h=>absurd (congrArg Vo.ps h) (ne_of_get hlt hlb he)⟩
  rw [decide_eq_true he] at kc
  simp [hlt,hlt',hlb]
  refine vc_pathD [.ret (dB true)] ?_
  simp [hlt,hlt',hlb,hw1]
  refine⟨kc,rfl,i+1,⟨by omega,take_stepG hlt hlb h2 he⟩,by omega,[],[],?_⟩
  simp [leL_mdU,dU_oneT]
 ·have hge':¬ (i:Int)<x.ps.length:=by omega
  have hab:x.ps=y.ps:=by
   rw [List.take_of_length_le (by omega),List.take_of_length_le (by omega)] at h2;exact h2
  rw [hyes hab]
  simp [hge,hge']
def fewLn (x:Ln):Bool:=decide (x.ws.length≤10)&&x.ws.all fun w=>decide (w.length≤100)
def fewPg (p:Pg):Bool:=if (6<p.ls.length∧p.ls.length≤1024)∨1100<p.ls.length then false else p.ls.all fewLn
def fewPs (ps:List Pg):Bool:=if (8<ps.length∧ps.length≤1024)∨1100<ps.length then false else (ps.take 10).all fewPg
theorem fewPage(p:Pg):PCall Tryz.prog 16 [dPg p] (.ret (dB (fewPg p))):=by
 refine pcall_of_vc noC c16 (by simp [a16]) fun hr=>?_
 have hreal:=hr _ (List.mem_singleton.2 rfl)
 have hrl:=Real.sl (hreal.agg (.sl 3 (p.ls.map dLn)) (by simp [dPg])).2
 have hlen:=hrl.1
 simp only [List.length_map] at hlen
 have hws:∀ x∈p.ls,x.ws.length≤9223372036854775807:=fun x hx=>by
  have h1:=(hrl.2.2 (.sl 1 (x.ws.map dZ)) (List.mem_flatMap.2 ⟨dLn x,List.mem_map_of_mem hx,by simp⟩)).2
  simpa using (Real.sl h1).1
 simp [a16,dPg_cells,-List.reduceReplicate]
 have hbad:(6<p.ls.length∧p.ls.length≤1024)∨1100<p.ls.length→fewPg p=false:=fun h=>by unfold fewPg;rw [if_pos h]
 by_cases hl:(6<p.ls.length∧p.ls.length≤1024)∨1100<p.ls.length
 case pos =>
  rw [hbad hl]
  refine vc_path [] ?_
  simp
  exact⟨fun h h1 h2=>absurd hl (by omega),fun h h1=>absurd hl (by omega)⟩
 have hgood:fewPg p=p.ls.all fewLn:=by unfold fewPg;rw [if_neg hl]
 rw [hgood]
 refine vc_path [] ?_
 simp
 refine⟨fun g1=>⟨fun g2=>absurd hl (by omega),fun g2=>⟨fun g3=>absurd hl (by omega),fun g3=>?_⟩⟩,fun g1=>⟨fun g2=>absurd hl (by omega),fun g2=>?_⟩⟩
 all_goals
  refine vc_loopK [1] Nat (fun i=>[(3,true,.d (dI i))]) (fun i=>[]) (fun i=>i≤p.ls.length∧∀ j,(h:j<i)→(h2:j<p.ls.length)→fewLn p.ls[j]=true) (fun i=>p.ls.length-i) 0 (by simp) ⟨[],[],?_⟩ (fun i hi=>?_)
  ·simp [pg_leL,pg_ones]
  obtain⟨h1,h2⟩:=hi
  rcases Nat.lt_or_ge i p.ls.length with hlt | hge
  ·have hlt':(i:Int)<p.ls.length:=by omega
   have hw1:IntKind.i64.wrap ((i:Int)+1)=(i:Int)+1:=wrap64 (by omega)
   have hwl:=hws p.ls[i] (List.getElem_mem hlt)
   have hst:fewLn p.ls[i]=true→∀ j,(h:j<i+1)→(h2:j<p.ls.length)→fewLn p.ls[j]=true:=fun hb j hj hj2=>by
    by_cases e:j=i
    ·subst e;exact hb
    ·exact h2 j (by omega) hj2
   have hbd:=all_false (p:=fewLn) hlt
   by_cases hb:p.ls[i].ws.length≤10
   case neg =>
    have hb':(10:Int)<p.ls[i].ws.length:=by omega
    have:fewLn p.ls[i]=false:=by unfold fewLn;simp [hb]
    rw [hbd this]
    simp [hlt,hlt',hb']
   have hb':¬ (10:Int)<p.ls[i].ws.length:=by omega
   simp [hlt,hlt',hb']
   refine vc_loopK [1,3] Nat (fun k=>[(4,true,.d (dI k))]) (fun k=>[]) (fun k=>k≤p.ls[i].ws.length∧∀ j,(h:j<k)→(h2:j<p.ls[i].ws.length)→decide (p.ls[i].ws[j].length≤100)=true) (fun k=>p.ls[i].ws.length-k) 0 (by simp) ⟨[],[],?_⟩ (fun k hk=>?_)
   ·simp [pg_leL,pg_ones]
   obtain⟨k1,k2⟩:=hk
   rcases Nat.lt_or_ge k p.ls[i].ws.length with hkl | hkg
   ·have hkl':(k:Int)<p.ls[i].ws.length:=by omega
    have hw2:IntKind.i64.wrap ((k:Int)+1)=(k:Int)+1:=wrap64 (by omega)
    by_cases hq:p.ls[i].ws[k].length≤100
    case neg =>
     have hq':(100:Int)<p.ls[i].ws[k].length:=by omega
     have:fewLn p.ls[i]=false:=by
      unfold fewLn
      rw [all_false (p:=fun w=>decide (w.length≤100)) hkl (by simp [hq])]
      simp
     rw [hbd this]
     simp [hlt,hlt',hkl,hkl',hq',dZ]
    have hq':¬ (100:Int)<p.ls[i].ws[k].length:=by omega
    simp [hlt,hlt',hkl,hkl',hq',hw2,dZ]
    refine⟨k+1,⟨by omega,fun j hj hj2=>?_⟩,by omega,[],[],?_⟩
    ·by_cases e:j=k
     ·subst e;exact hq
     ·simpa using k2 j (by omega) hj2
    ·simp [pg_leL,pg_ones]
   ·have hkg':¬ (k:Int)<p.ls[i].ws.length:=by omega
    have hfx:fewLn p.ls[i]=true:=by
     unfold fewLn
     rw [all_true (p:=fun w=>decide (w.length≤100)) (fun j hj=>k2 j (by omega) hj)]
     simp [hb]
    simp [hlt,hlt',hkg,hkg',hw1]
    refine⟨i+1,⟨by omega,hst hfx⟩,by omega,[],[],?_⟩
    simp [pg_leL,pg_ones]
  ·have hge':¬ (i:Int)<p.ls.length:=by omega
   rw [all_true (fun j hj=>h2 j (by omega) hj)]
   simp [hge,hge']
inductive CFew:FuncId→List D→Out→Prop
 | page (p:Pg):CFew 16 [dPg p] (.ret (dB (fewPg p)))
theorem hFew:∀ f ds out,CFew f ds out→PCall Tryz.prog f ds out:=by
 intro f ds out h
 cases h with
 | page p=>exact fewPage p
theorem fewPages(ps:List Pg):PCall Tryz.prog 8 [.sl 66 (ps.map dPg)] (.ret (dB (fewPs ps))):=by
 refine pcall_of_vc hFew c8 (by simp [a8]) fun hr=>?_
 simp [a8]
 have hbad:(8<ps.length∧ps.length≤1024)∨1100<ps.length→fewPs ps=false:=fun h=>by unfold fewPs;rw [if_pos h]
 by_cases hl:(8<ps.length∧ps.length≤1024)∨1100<ps.length
 case pos =>
  rw [hbad hl]
  refine vc_path [] ?_
  simp
  exact⟨fun h h1 h2=>absurd hl (by omega),fun h h1=>absurd hl (by omega)⟩
 have hgood:fewPs ps=(ps.take 10).all fewPg:=by unfold fewPs;rw [if_neg hl]
 rw [hgood]
 have htl:(ps.take 10).length=min 10 ps.length:=by simp
 refine vc_path [] ?_
 simp
 refine⟨fun g1=>⟨fun g2=>absurd hl (by omega),fun g2=>⟨fun g3=>absurd hl (by omega),fun g3=>?_⟩⟩,fun g1=>⟨fun g2=>absurd hl (by omega),fun g2=>?_⟩⟩
 all_goals
  refine vc_loopK [0] Nat (fun i=>[(3,true,.d (dI i))]) (fun i=>[]) (fun i=>i≤(ps.take 10).length∧∀ j,(h:j<i)→(h2:j<(ps.take 10).length)→fewPg (ps.take 10)[j]=true) (fun i=>(ps.take 10).length-i) 0 (by simp) ⟨[],[],?_⟩ (fun i hi=>?_)
  ·simp
  obtain⟨h1,h2⟩:=hi
  rcases Nat.lt_or_ge i (ps.take 10).length with hlt | hge
  ·have hi10:i<10:=by omega
   have hip:i<ps.length:=by omega
   have hi10':(i:Int)<10:=by omega
   have hip':(i:Int)<ps.length:=by omega
   have hw1:IntKind.i64.wrap ((i:Int)+1)=(i:Int)+1:=wrap64 (by omega)
   have kc:=CFew.page ps[i]
   have hgt:(ps.take 10)[i]=ps[i]:=List.getElem_take
   have hst:fewPg ps[i]=true→∀ j,(h:j<i+1)→(h2:j<(ps.take 10).length)→fewPg (ps.take 10)[j]=true:=fun hb j hj hj2=>by
    by_cases e:j=i
    ·subst e;rw [hgt];exact hb
    ·exact h2 j (by omega) hj2
   have hbd:fewPg ps[i]=false→(ps.take 10).all fewPg=false:=fun h=>all_false (p:=fewPg) hlt (by rw [hgt];exact h)
   simp
   refine vc_path [] ?_
   cases hb:fewPg ps[i] with
   | false =>
    rw [hb] at kc
    rw [hbd hb]
    simp [hip,hip',hi10,hi10']
    refine vc_path [.ret (dB false)] ?_
    simp [hip,hip',hi10,hi10']
    exact kc
   | true =>
    rw [hb] at kc
    simp [hip,hip',hi10,hi10']
    refine vc_path [.ret (dB true)] ?_
    simp [hip,hip',hi10,hi10',hw1]
    refine⟨kc,i+1,⟨by omega,fun j hj hj2=>by
     have h9:=hst hb j hj (by simp;omega)
     rw [List.getElem_take] at h9
     exact h9⟩,by omega,[],[],?_⟩
    simp
  ·rw [all_true (fun j hj=>h2 j (by omega) hj)]
   simp
   refine vc_path [] ?_
   by_cases hip:i<ps.length
   ·have hi10':¬ (i:Int)<10:=by omega
    have hip':(i:Int)<ps.length:=by omega
    simp [hip,hip',hi10']
   ·have hip':¬ (i:Int)<ps.length:=by omega
    simp [hip,hip']
end

section
attribute [local simp] dZ_agg dZ_nt dZ_noTup dZ_cells dZ_one bz_toList bz_size strV dV_cells dV_isAgg dV_noTup dV_nt dBy_cells dBy_one dBy_agg dBy_noTup dBy_nt
attribute [local simp] dLn_cells dLn_isAgg dLn_noTup dLn_nt dPg_isAgg dPg_noTup dPg_nt dPg_len
set_option maxRecDepth 8000
set_option maxHeartbeats 4000000
theorem vnumber(n:Int):PCall Tryz.prog 61 [dI n] (.ret (dV (nV n))):=by
 refine pcall_of_vc noC c61 (by simp [a61]) fun hr=>?_
 simp [a61,nV,dV_eq,dZ]
 exact leD_tail rfl rfl rfl
theorem vword(b:List UInt8):PCall Tryz.prog 63 [dZ b] (.ret (dV (tV b))):=by
 refine pcall_of_vc noC c63 (by simp [a63]) fun hr=>?_
 simp [a63,tV,dV_eq,dZ]
 exact leD_tail rfl rfl rfl
theorem vsame(v:Vl):PCall Tryz.prog 64 [dV v] (.ret (dV v)):=by
 refine pcall_of_vc noC c64 (by simp [a64]) fun hr=>?_
 cases v with
 | mk k n s l =>
  simp [a64,dV_eq,dZ]
inductive CLWo:FuncId→List D→Out→Prop
 | one (b:(List UInt8)):CLWo 63 [dZ b] (.ret (dV (tV b)))
theorem hLWo(hp:∀ b:(List UInt8),PCall Tryz.prog 63 [dZ b] (.ret (dV (tV b)))):∀ f ds out,CLWo f ds out→PCall Tryz.prog f ds out:=by
 intro f ds out h
 cases h with
 | one b=>exact hp b
theorem listWoG(hp:∀ b:(List UInt8),PCall Tryz.prog 63 [dZ b] (.ret (dV (tV b)))) (l:List (List UInt8)) (hl:l.length≤100000):PCall Tryz.prog 62 [.sl 1 (l.map dZ),.fn (.func 63) [] []] (.ret (dV (lV (l.map tV)))):=by
 refine pcall_of_vc (hLWo hp) c62 (by simp [a62]) fun hr=>?_
 simp [a62]
 refine vc_loopK [1,4,5,9,10] Nat (fun i=>[(11,true,.d (dI i))]) (fun i=>[(1,.box true [.d (dI 3),.d (dI 0),.d (dZ []),.own 2 4 ((l.take i).map (fun w=>dV (tV w)))]),(2,.row)]) (fun i=>i≤l.length) (fun i=>l.length-i) 0 (by simp) ⟨[],[(2,4)],?_⟩ (fun i hi=>?_)
 ·simp [dZ]
  exact LeD.refl _
 have hw1:IntKind.i64.wrap ((i:Int)+1)=(i:Int)+1:=wrap64 (by omega)
 rcases Nat.lt_or_ge i l.length with hlt | hge
 ·have hlt':(i:Int)<l.length:=by omega
  have kc:=CLWo.one l[i]
  have hts:(l.map (fun w=>dV (tV w))).take (i+1)=(l.map (fun w=>dV (tV w))).take i++[dV (tV l[i])]:=by
   rw [List.take_add_one];simp [hlt]
  simp [hlt,hlt']
  refine vc_pathD [.ret (dV (tV l[i]))] ?_
  simp [hlt,hlt',hw1]
  refine⟨kc,⟨by omega,by omega⟩,rfl,i+1,by omega,by omega,[(2,4)],[],?_⟩
  simp only [List.map_take,hts]
  simp
 ·have hge':¬ (i:Int)<l.length:=by omega
  have hta:l.take i=l:=List.take_of_length_le (by omega)
  simp [hge,hge',hta]
  rw [show dV (lV (l.map tV))=.agg [dI 3,dI 0,dZ [],.sl 4 ((l.map tV).map dV)] from dV_eq _ _ _ _,List.map_map]
  simp
  exact LeD.refl _
theorem listWo(l:List (List UInt8)) (hl:l.length≤100000):PCall Tryz.prog 62 [.sl 1 (l.map dZ),.fn (.func 63) [] []] (.ret (dV (lV (l.map tV)))):=listWoG vword l hl
inductive CLVa:FuncId→List D→Out→Prop
 | one (b:Vl):CLVa 64 [dV b] (.ret (dV b))
theorem hLVa(hp:∀ b:Vl,PCall Tryz.prog 64 [dV b] (.ret (dV b))):∀ f ds out,CLVa f ds out→PCall Tryz.prog f ds out:=by
 intro f ds out h
 cases h with
 | one b=>exact hp b
theorem listVaG(hp:∀ b:Vl,PCall Tryz.prog 64 [dV b] (.ret (dV b))) (l:List Vl) (hl:l.length≤100000):PCall Tryz.prog 60 [.sl 4 (l.map dV),.fn (.func 64) [] []] (.ret (dV (lV l))):=by
 refine pcall_of_vc (hLVa hp) c60 (by simp [a60]) fun hr=>?_
 simp [a60]
 refine vc_loopK [1,4,5,9,10] Nat (fun i=>[(11,true,.d (dI i))]) (fun i=>[(1,.box true [.d (dI 3),.d (dI 0),.d (dZ []),.own 2 4 ((l.take i).map dV)]),(2,.row)]) (fun i=>i≤l.length) (fun i=>l.length-i) 0 (by simp) ⟨[],[(2,4)],?_⟩ (fun i hi=>?_)
 ·simp [dZ]
  exact LeD.refl _
 have hw1:IntKind.i64.wrap ((i:Int)+1)=(i:Int)+1:=wrap64 (by omega)
 rcases Nat.lt_or_ge i l.length with hlt | hge
 ·have hlt':(i:Int)<l.length:=by omega
  have kc:=CLVa.one l[i]
  have hts:(l.map dV).take (i+1)=(l.map dV).take i++[dV l[i]]:=by
   rw [List.take_add_one];simp [hlt]
  simp [hlt,hlt']
  refine vc_pathD [.ret (dV l[i])] ?_
  simp [hlt,hlt',hw1]
  refine⟨by simpa [dV_agg] using kc,⟨by omega,by omega⟩,rfl,i+1,by omega,by omega,[(2,5)],[],?_⟩
  simp only [List.map_take,hts]
  simp
 ·have hge':¬ (i:Int)<l.length:=by omega
  have hta:l.take i=l:=List.take_of_length_le (by omega)
  simp [hge,hge',hta]
  rw [show dV (lV l)=.agg [dI 3,dI 0,dZ [],.sl 4 (l.map dV)] from dV_eq _ _ _ _]
  simp
theorem listVa(l:List Vl) (hl:l.length≤100000):PCall Tryz.prog 60 [.sl 4 (l.map dV),.fn (.func 64) [] []] (.ret (dV (lV l))):=listVaG vsame l hl
inductive CLl:FuncId→List D→Out→Prop
 | num (n:Int):CLl 61 [dI n] (.ret (dV (nV n)))
 | words (l:List (List UInt8)) (hl:l.length≤100000):CLl 62 [.sl 1 (l.map dZ),.fn (.func 63) [] []] (.ret (dV (lV (l.map tV))))
 | list (l:List Vl) (hl:l.length≤100000):CLl 60 [.sl 4 (l.map dV),.fn (.func 64) [] []] (.ret (dV (lV l)))
theorem hLl:∀ f ds out,CLl f ds out→PCall Tryz.prog f ds out:=by
 intro f ds out h
 cases h with
 | num n=>exact vnumber n
 | words l hl=>exact listWo l hl
 | list l hl=>exact listVa l hl
theorem lineVal(x:Ln) (h:okLn x=true):PCall Tryz.prog 59 [dLn x] (.ret (dV (lineV x))):=by
 refine pcall_of_vc hLl c59 (by simp [a59]) fun hr=>?_
 have hw:=(okLn_iff.1 h).2.2.2.2.1
 have k1:=CLl.num x.sp
 have k2:=CLl.num x.fr
 have k3:=CLl.words x.ws (by omega)
 have k4:=CLl.list [nV x.sp,nV x.fr,lV (x.ws.map tV)] (by simp)
 rw [show lV [nV x.sp,nV x.fr,lV (x.ws.map tV)]=lineV x from rfl] at k4
 simp only [List.map_cons,List.map_nil] at k4
 simp [a59,dZ]
 generalize lV (x.ws.map tV)=L at *
 generalize lineV x=R at *
 refine vc_pathD [.ret (dV (nV x.sp)),.ret (dV (nV x.fr)),.ret (dV L),.ret (dV R)] ?_
 simp [-List.reduceReplicate]
 refine⟨k1,k2,k3,k4,rfl,?_⟩
 rw [dV_agg]
 exact LeD.refl _
inductive CLLn:FuncId→List D→Out→Prop
 | one (x:Ln) (h:okLn x=true):CLLn 59 [dLn x] (.ret (dV (lineV x)))
theorem hLLn:∀ f ds out,CLLn f ds out→PCall Tryz.prog f ds out:=by
 intro f ds out h
 cases h with
 | one b h=>exact lineVal b h
theorem listLn(l:List Ln) (hok:∀ x∈l,okLn x=true) (hl:l.length≤100000):PCall Tryz.prog 58 [.sl 3 (l.map dLn),.fn (.func 59) [] []] (.ret (dV (lV (l.map lineV)))):=by
 refine pcall_of_vc hLLn c58 (by simp [a58]) fun hr=>?_
 simp [a58]
 refine vc_loopK [1,4,5,9,10] Nat (fun i=>[(11,true,.d (dI i))]) (fun i=>[(1,.box true [.d (dI 3),.d (dI 0),.d (dZ []),.own 2 4 ((l.take i).map (fun w=>dV (lineV w)))]),(2,.row)]) (fun i=>i≤l.length) (fun i=>l.length-i) 0 (by simp) ⟨[],[(2,4)],?_⟩ (fun i hi=>?_)
 ·simp [dZ]
  exact LeD.refl _
 have hw1:IntKind.i64.wrap ((i:Int)+1)=(i:Int)+1:=wrap64 (by omega)
 rcases Nat.lt_or_ge i l.length with hlt | hge
 ·have hlt':(i:Int)<l.length:=by omega
  have kc:=CLLn.one l[i] (hok _ (List.getElem_mem hlt))
  have hts:(l.map (fun w=>dV (lineV w))).take (i+1)=(l.map (fun w=>dV (lineV w))).take i++[dV (lineV l[i])]:=by
   rw [List.take_add_one];simp [hlt]
  simp [hlt,hlt']
  refine vc_pathD [.ret (dV (lineV l[i]))] ?_
  simp [hlt,hlt',hw1]
  refine⟨kc,⟨by omega,by omega⟩,rfl,i+1,by omega,by omega,[(2,5)],[],?_⟩
  simp only [List.map_take,hts]
  simp
 ·have hge':¬ (i:Int)<l.length:=by omega
  have hta:l.take i=l:=List.take_of_length_le (by omega)
  simp [hge,hge',hta]
  rw [show dV (lV (l.map lineV))=.agg [dI 3,dI 0,dZ [],.sl 4 ((l.map lineV).map dV)] from dV_eq _ _ _ _,List.map_map]
  simp
  exact LeD.refl _
inductive CLf:FuncId→List D→Out→Prop
 | lines (l:List Ln) (hok:∀ x∈l,okLn x=true) (hl:l.length≤100000):CLf 58 [.sl 3 (l.map dLn),.fn (.func 59) [] []] (.ret (dV (lV (l.map lineV))))
 | word (b:List UInt8):CLf 63 [dZ b] (.ret (dV (tV b)))
 | list (l:List Vl) (hl:l.length≤100000):CLf 60 [.sl 4 (l.map dV),.fn (.func 64) [] []] (.ret (dV (lV l)))
 | enc (p:Pg) (hg:p.gone=false) (h:okPg p=true):CLf 65 [dV (pageV p)] (.ret (.tup [dBy (encV (pageV p)),dI 0]))
 | tag (t b:List UInt8) (ht:t.length≤1000) (hb:b.length≤10000000000):CLf 45 [dZ t,dBy b] (.ret (.agg ((tagL t b).map dU)))
theorem encPage(p:Pg) (hg:p.gone=false) (h:okPg p=true):PCall Tryz.prog 65 [dV (pageV p)] (.ret (.tup [dBy (encV (pageV p)),dI 0])):=by
 have hb:=pageV_len hg h
 have:=encode (pageV p) (by have:=dpV_pageV p;omega) (by omega)
 rw [encR_pageV] at this
 exact this
theorem hLf:∀ f ds out,CLf f ds out→PCall Tryz.prog f ds out:=by
 intro f ds out h
 cases h with
 | lines l hok hl=>exact listLn l hok hl
 | word b=>exact vword b
 | list l hl=>exact listVa l hl
 | enc p hg h=>exact encPage p hg h
 | tag t b ht hb=>exact tagged t b ht hb
theorem pg_allDG(s l:List UInt8) (b:Bool):allD (s.map (AV.d∘dU)++(AV.d (D.lit (.bool b))::l.map (AV.d∘dU)))=some (s.map dU++(D.lit (.bool b)::l.map dU)):=by
 have:s.map (AV.d∘dU)++(AV.d (D.lit (.bool b))::l.map (AV.d∘dU))=(s.map dU++(D.lit (.bool b)::l.map dU)).map AV.d:=by simp
 rw [this];exact allD_map _
theorem pg_elsD{s:List UInt8}(h:s.length=32) (x:List D):elsD 1 32 (s.map dU++x)=s.map dU:=by
 unfold elsD
 rw [if_pos rfl,List.take_left' (by simp [h])]
theorem leafPg(p:Pg) (h:okPg p=true):PCall Tryz.prog 36 [dPg p] (.ret (dDg (leafP p))):=by
 refine pcall_of_vc hLf c36 (by simp [a36]) fun hr=>?_
 have q1:=p.h1
 have q2:=p.h2
 simp [a36,dPg_cells,pg_gone,q1,q2,-List.reduceReplicate]
 cases hg:p.gone with
 | true =>
  have pt:=pg_leftG q1 p.left true
  have pl:(p.left.map (AV.d∘dU)).take 32=p.left.map (AV.d∘dU):=List.take_of_length_le (by simp [q2])
  have e:leafP p=p.left:=by unfold leafP;rw [if_pos hg]
  rw [e]
  simp [pt,pl,allD_dU,q2,setAt_all,-List.reduceReplicate]
  exact LeD.refl _
 | false =>
  have e:leafP p=tagL tPage (encV (pageV p)):=by unfold leafP;rw [if_neg (by simp [hg])]
  have hl32:=leafP_len p
  rw [e] at hl32 ⊢
  obtain⟨o1,o2,o3⟩:=(okPg_iff hg).1 h
  have k1:=CLf.lines p.ls o2 (by omega)
  have k2:=CLf.word p.salt
  have k3:=CLf.list [lV (p.ls.map lineV),tV p.salt] (by simp)
  rw [show lV [lV (p.ls.map lineV),tV p.salt]=pageV p from rfl] at k3
  simp only [List.map_cons,List.map_nil] at k3
  have k4:=CLf.enc p hg h
  have hb:=pageV_len hg h
  have k5:=CLf.tag tPage (encV (pageV p)) (by simp [tPage]) (by omega)
  generalize lV (p.ls.map lineV)=L at *
  generalize tagL tPage (encV (pageV p))=T at *
  generalize encV (pageV p)=B at *
  generalize pageV p=R at *
  simp [-List.reduceReplicate]
  refine vc_path [.ret (dV L)] ?_
  have pt:=pg_take p
  rw [hg] at pt
  simp [-List.reduceReplicate]
  refine⟨k1,vc_pathD [.ret (dV (tV p.salt)),.ret (dV R),.ret (.tup [dBy B,dI 0])] ?_⟩
  simp [pt,q1,q2,pg_allDG,pg_elsD q1,bytesOf_map,← dZ_eq,-List.reduceReplicate]
  refine⟨fun _ _=>rfl,k2,by rw [dV_agg L] at k3;exact k3,k4,rfl,vc_path [.ret (.agg (T.map dU))] ?_⟩
  simp [setAt_all,hl32,-List.reduceReplicate]
  refine⟨k5,?_⟩
  rw [List.take_of_length_le (by simp [hl32]),allD_dU]
  simp
  exact LeD.refl _
theorem all2_app{α β:Type}{R:α→β→Prop}:∀ {a:List α}{b:List β}{c:List α}{d:List β},All2 R a b→All2 R c d→All2 R (a++c) (b++d)
 | _,_,_,_,.nil,h=>h
 | _,_,_,_,.cons h1 h2,h=>.cons h1 (all2_app h2 h)
theorem all2_flat:∀ {es es':List D},All2 (fun x y=>All2 LeD x.cells y.cells) es es'→All2 LeD (D.flat es) (D.flat es')
 | _,_,.nil=>.nil
 | _,_,.cons h1 h2=>by
  simp only [D.flat,List.flatMap_cons]
  exact all2_app h1 (all2_flat h2)
theorem all2_mapr{α β γ:Type}{R:α→γ→Prop}{f:β→γ}:∀ {a:List α}{b:List β},All2 (fun x y=>R x (f y)) a b→All2 R a (b.map f)
 | _,_,.nil=>.nil
 | _,_,.cons h1 h2=>.cons h1 (all2_mapr h2)
theorem all2_map2{α β γ:Type}{R:β→γ→Prop}{f:α→β}{g:α→γ}(h:∀ x,R (f x) (g x)):∀ a:List α,All2 R (a.map f) (a.map g)
 | []=>.nil
 | x::r=>.cons (h x) (all2_map2 h r)
def LeV (d:D) (v:Vl):Prop:=All2 LeD d.cells (dV v).cells
theorem LeV.refl(v:Vl):LeV (dV v) v:=by
 unfold LeV
 rw [dV_cells]
 exact .cons (LeD.refl _) (.cons (LeD.refl _) (.cons (LeD.refl _) (.cons (LeD.refl _) .nil)))
theorem dV_ones(v:Vl):∀ c∈(dV v).cells,c.one=true:=fun c hc=>by
 rw [dV_cells] at hc
 simp at hc
 rcases hc with rfl | rfl | rfl | rfl <;> rfl
theorem leSl4{es:List D}{vs:List Vl}(h:All2 LeV es vs):LeD (.sl 4 es) (.sl 4 (vs.map dV)):=by
 refine LeD_sl (all2_flat (all2_mapr h)) ?_ ?_ ?_
 ·rw [List.length_map];exact all2_len h
 ·intro e he
  obtain⟨v,_,rfl⟩:=List.mem_map.1 he
  rw [dV_cells];rfl
 ·intro c hc
  obtain⟨d,hd,hcd⟩:=List.mem_flatMap.1 hc
  obtain⟨v,_,rfl⟩:=List.mem_map.1 hd
  exact dV_ones v c hcd
def rawT (w:List UInt8):D:=.agg [dI 2,dI 0,dZ w,.nil 4]
def rawN (n:Int):D:=.agg [dI 1,dI n,dZ [],.nil 4]
def rawL (es:List D):D:=.agg [dI 3,dI 0,dZ [],.sl 4 es]
theorem rawT_le(w:List UInt8):LeV (rawT w) (tV w):=by
 unfold LeV
 rw [dV_cells]
 exact .cons (LeD.refl _) (.cons (LeD.refl _) (.cons (LeD.refl _) (.cons (LeD.nil' _ _) .nil)))
theorem rawN_le(n:Int):LeV (rawN n) (nV n):=by
 unfold LeV
 rw [dV_cells]
 exact .cons (LeD.refl _) (.cons (LeD.refl _) (.cons (LeD.refl _) (.cons (LeD.nil' _ _) .nil)))
theorem rawL_le{es:List D}{vs:List Vl}(h:All2 LeV es vs):LeV (rawL es) (lV vs):=by
 unfold LeV
 rw [dV_cells]
 exact .cons (LeD.refl _) (.cons (LeD.refl _) (.cons (LeD.refl _) (.cons (leSl4 h) .nil)))
theorem rawT_eq'(w:List UInt8):D.agg [.lit (.int .i64 2),.lit (.int .i64 0),D.lit (.string (bz w)),.nil 4]=rawT w:=rfl
theorem LeV.agg{d:D}{v:Vl}(h:LeV d v) (ha:d.isAgg=true):LeD d (dV v):=by
 cases d with
 | agg cs =>
  rw [dV_agg]
  refine LeD.agg ?_ ?_
  ·have:=h
   unfold LeV at this
   rw [dV_cells] at this
   exact this
  ·have:=dV_ones v
   rw [dV_cells] at this
   exact this
 | _=>cases ha
theorem ltext1(l:List Vl):PCall Tryz.prog 73 [.sl 4 (l.map dV)] (.ret (dV (lV l))):=by
 refine pcall_of_vc noC c73 (by simp [a73]) fun hr=>?_
 simp [a73,lV,dV_eq,dZ]
 exact LeD.refl _
inductive CLt:FuncId→List D→Out→Prop
 | list (es:List D) (l:List Vl) (h:All2 LeV es l):CLt 73 [.sl 4 es] (.ret (dV (lV l)))
 | enc (p:Pg) (hg:p.gone=false) (h:okPg p=true):CLt 65 [dV (pageV p)] (.ret (.tup [dBy (encV (pageV p)),dI 0]))
theorem hLt:∀ f ds out,CLt f ds out→PCall Tryz.prog f ds out:=by
 intro f ds out h
 cases h with
 | list es l h=>exact(ltext1 l).le (.cons (leSl4 h) .nil)
 | enc p hg h=>exact encPage p hg h
theorem lawText(p:Pg) (hg:p.gone=false) (h:okPg p=true):PCall Tryz.prog 46 [dPg p] (.ret (dBy (encV (pageV p)))):=by
 refine pcall_of_vc hLt c46 (by simp [a46]) fun hr=>?_
 have q1:=p.h1
 have q2:=p.h2
 obtain⟨o1,o2,o3⟩:=(okPg_iff hg).1 h
 simp [a46,dPg_cells,-List.reduceReplicate]
 refine vc_loopK [1,3,13,14] Nat (fun i=>[(15,true,.d (dI i)),(4,true,.own 1 4 ((p.ls.map fun x=>dV (lineV x)).take i))]) (fun i=>[(1,.row)]) (fun i=>i≤p.ls.length) (fun i=>p.ls.length-i) 0 (by simp) ⟨[],[(1,4)],?_⟩ (fun i hi=>?_)
 ·simp [pg_leL,pg_ones]
 have hw1:IntKind.i64.wrap ((i:Int)+1)=(i:Int)+1:=wrap64 (by omega)
 rcases Nat.lt_or_ge i p.ls.length with hlt | hge
 ·have hlt':(i:Int)<p.ls.length:=by omega
  have hox:=o2 p.ls[i] (List.getElem_mem hlt)
  have hwl:=(okLn_iff.1 hox).2.2.2.2.1
  have hts:(p.ls.map fun x=>dV (lineV x)).take (i+1)=(p.ls.map fun x=>dV (lineV x)).take i++[dV (lineV p.ls[i])]:=by
   rw [List.take_add_one];simp [hlt]
  generalize hx:p.ls[i]=x at *
  simp [hlt,hlt',hx]
  refine vc_loopK [1,3,4,6,13,14,15,20,21] Nat (fun k=>[(22,true,.d (dI k)),(7,true,.own 3 4 ((x.ws.map rawT).take k))]) (fun k=>[(3,.row)]) (fun k=>k≤x.ws.length) (fun k=>x.ws.length-k) 0 (by simp) ⟨[],[(3,4)],?_⟩ (fun k hk=>?_)
  ·simp [pg_leL,pg_ones]
  have hw2:IntKind.i64.wrap ((k:Int)+1)=(k:Int)+1:=wrap64 (by omega)
  rcases Nat.lt_or_ge k x.ws.length with hkl | hkg
  ·have hkl':(k:Int)<x.ws.length:=by omega
   have htw:(x.ws.map rawT).take (k+1)=(x.ws.map rawT).take k++[rawT x.ws[k]]:=by
    rw [List.take_add_one];simp [hkl]
   simp [hkl,hkl',hw2,dZ_eq]
   refine⟨⟨by omega,by omega⟩,k+1,by omega,by omega,[(3,5)],[],?_⟩
   simp only [rawT_eq',htw]
   simp [pg_leL,pg_ones,dZ_eq]
  ·have hkg':¬ (k:Int)<x.ws.length:=by omega
   have hta:(x.ws.map rawT).take k=x.ws.map rawT:=List.take_of_length_le (by simp;omega)
   have k1:=CLt.list (x.ws.map rawT) (x.ws.map tV) (all2_map2 rawT_le _)
   have k2:=CLt.list [rawN x.sp,rawN x.fr,dV (lV (x.ws.map tV))] [nV x.sp,nV x.fr,lV (x.ws.map tV)] (.cons (rawN_le _) (.cons (rawN_le _) (.cons (LeV.refl _) .nil)))
   rw [show lV [nV x.sp,nV x.fr,lV (x.ws.map tV)]=lineV x from rfl] at k2
   generalize lV (x.ws.map tV)=L at *
   simp [hkg,hkg',hta]
   refine vc_pathD [.ret (dV L),.ret (dV (lineV x))] ?_
   simp [hw1]
   refine⟨k1,k2,⟨by omega,by omega⟩,rfl,i+1,by omega,by omega,[(1,6)],[],?_⟩
   simp only [hts]
   simp [pg_leL,pg_ones]
 ·have hge':¬ (i:Int)<p.ls.length:=by omega
  have hta:(p.ls.map fun x=>dV (lineV x)).take i=p.ls.map fun x=>dV (lineV x):=List.take_of_length_le (by simp;omega)
  have k1:=CLt.list (p.ls.map fun x=>dV (lineV x)) (p.ls.map lineV) (all2_map2 (fun x=>LeV.refl _) _)
  have k2:=CLt.list [dV (lV (p.ls.map lineV)),rawT p.salt] [lV (p.ls.map lineV),tV p.salt] (.cons (LeV.refl _) (.cons (rawT_le _) .nil))
  rw [show lV [lV (p.ls.map lineV),tV p.salt]=pageV p from rfl] at k2
  have k3:=CLt.enc p hg h
  generalize lV (p.ls.map lineV)=L at *
  generalize encV (pageV p)=B at *
  generalize pageV p=R at *
  simp [hge,hge',hta]
  refine vc_pathD [.ret (dV L),.ret (dV R),.ret (.tup [dBy B,dI 0])] ?_
  simp [q1,q2,pg_allDG,pg_elsD q1,bytesOf_map,-List.reduceReplicate]
  exact⟨k1,fun _ _=>rfl,k2,k3,rfl⟩
inductive CLlf:FuncId→List D→Out→Prop
 | text (p:Pg) (hg:p.gone=false) (h:okPg p=true):CLlf 46 [dPg p] (.ret (dBy (encV (pageV p))))
 | tag (t b:List UInt8) (ht:t.length≤1000) (hb:b.length≤10000000000):CLlf 45 [dZ t,dBy b] (.ret (.agg ((tagL t b).map dU)))
theorem hLlf:∀ f ds out,CLlf f ds out→PCall Tryz.prog f ds out:=by
 intro f ds out h
 cases h with
 | text p hg h=>exact lawText p hg h
 | tag t b ht hb=>exact tagged t b ht hb
theorem lawLeaf(p:Pg) (h:okPg p=true):PCall Tryz.prog 24 [dPg p] (.ret (dDg (leafP p))):=by
 refine pcall_of_vc hLlf c24 (by simp [a24]) fun hr=>?_
 have q1:=p.h1
 have q2:=p.h2
 simp [a24,dPg_cells,pg_gone,q1,q2,-List.reduceReplicate]
 cases hg:p.gone with
 | true =>
  have pt:=pg_leftG q1 p.left true
  have pl:(p.left.map (AV.d∘dU)).take 32=p.left.map (AV.d∘dU):=List.take_of_length_le (by simp [q2])
  have e:leafP p=p.left:=by unfold leafP;rw [if_pos hg]
  rw [e]
  simp [pt,pl,allD_dU,q2,setAt_all,-List.reduceReplicate]
  exact LeD.refl _
 | false =>
  have e:leafP p=tagL tPage (encV (pageV p)):=by unfold leafP;rw [if_neg (by simp [hg])]
  have hl32:=leafP_len p
  rw [e] at hl32 ⊢
  have k1:=CLlf.text p hg h
  have hb:=pageV_len hg h
  have k2:=CLlf.tag tPage (encV (pageV p)) (by simp [tPage]) (by omega)
  generalize tagL tPage (encV (pageV p))=T at *
  generalize encV (pageV p)=B at *
  have pa:=pg_allDG p.salt p.left false
  have p65:=pg_take65 p
  rw [hg] at p65
  simp [-List.reduceReplicate]
  refine vc_path [.ret (dBy B),.ret (.agg (T.map dU))] ?_
  simp [q1,q2,pa,p65,setAt_all,hl32,-List.reduceReplicate]
  refine⟨by have:=k1;unfold dPg at this;rw [hg] at this;exact this,k2,?_⟩
  rw [List.take_of_length_le (by simp [hl32]),allD_dU]
  simp
  exact LeD.refl _
end

end Go.Proofs.YtfegfnekphobmaaGreatDoor
