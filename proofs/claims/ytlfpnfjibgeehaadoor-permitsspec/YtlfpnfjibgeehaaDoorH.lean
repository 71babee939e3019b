/- Part of the proof: S48, S49, S51, S60, S61, S62. -/
import Derived.Test.YtlfpnfjibgeehaaDoorCards
import Derived.Test.YtlfpnfjibgeehaaDoorTie
import Derived.Deep.DeepHandedRow
import Derived.Deep.DeepWitnessRowRef
import Derived.Lib.LaidIn
import Derived.Lib.LaidU8
import Derived.ProofKit
import Derived.SizedLaws
import Derived.PinnedBridge
import Derived.SevenTiedAt
import Derived.Test.YtlfpnfjibgeehaaDoorG
set_option linter.unnecessarySimpa false
set_option linter.unusedVariables false
set_option linter.unusedSimpArgs false
section
namespace Go.Proofs.YtlfpnfjibgeehaaDoor
open Go Go.Proofs.YtlfpnfjibgeehaaDoor.AL
attribute [local simp] dT_agg dT_nt dT_noTup dT_cells dT_one bs_toList bs_size strV dW_cells dW_agg dW_noTup dSm_cells dSm_agg dSm_noTup dOp_cells dOp_agg dOp_noTup dWs_cells dWs_one dWs_agg dWs_noTup dWs_nt
attribute [local simp] dW_nt dP_cells dP_agg dP_noTup dOld_cells dOld_agg dOld_noTup dOld_one
set_option maxRecDepth 8000
set_option maxHeartbeats 4000000
set_option maxRecDepth 20000
def mkP (t : List UInt8) (u : Int) : Wd := ⟨t, u - 10, u, 0, []⟩
theorem wordP (t : List UInt8) (u : Int) (hu : 0 ≤ u ∧ u ≤ 1000) : PCall Tryd.prog 38 [dT t, dI u] (.ret (dW (mkP t u))) := by
  refine pcall_of_vc noC c38 (by simp [a38]) fun hr => ?_
  have hw : IntKind.i64.wrap (u - 10) = u - 10 := wrap64 (by omega)
  simp [a38, hw]
  refine LeD.agg (.cons (LeD.refl _) (.cons (LeD.refl _) (.cons (LeD.refl _) (.cons (LeD.refl _) (.cons (LeD.nil 1) .nil))))) (by simp)
def fewP (s : Sm) (o : Op) : Bool := decide ((s.w.length : Int) ≤ 30) && decide ((o.w.length : Int) ≤ 70)
theorem fewp (s : Sm) (o : Op) : PCall Tryd.prog 15 [dSm s, dOp o] (.ret (dB (fewP s o))) := by
  refine pcall_of_vc noC c15 (by simp [a15]) fun hr => ?_
  simp [a15]
  refine vc_path [] ?_
  simp
  exact ⟨fun q => leD_of_eq (by simp [fewP, q]), fun q => leD_of_eq (by simp [fewP]; omega)⟩
/-- The contracts that the laws use. -/
inductive CLp0 : FuncId → List D → Out → Prop
  | word (t : List UInt8) (u : Int) (hu : 0 ≤ u ∧ u ≤ 1000) : CLp0 38 [dT t, dI u] (.ret (dW (mkP t u)))
  | few (s : Sm) (o : Op) : CLp0 15 [dSm s, dOp o] (.ret (dB (fewP s o)))
  | al (s : Sm) (p t : Int) (o : Op) : CLp0 16 [dSm s, dP p, dI t, dOp o] (.ret (.tup [dB (alW s p t o), dI (errP s p t)]))
  | ral (s : Sm) (p t : Int) (o : Op) : CLp0 17 [dSm s, dP p, dI t, dOp o] (.ret (.tup [dB (alW s p t o), dI (errP s p t)]))
  | st (s : Sm) (p t : Int) : CLp0 18 [dSm s, dP p, dI t] (.ret (.tup [dI (stN s p t), dI (errP s p t)]))
  | rst (s : Sm) (p t : Int) : CLp0 19 [dSm s, dP p, dI t] (.ret (.tup [dI (stN s p t), dI (errP s p t)]))
  | ch (s : Sm) (p t i : Int) : CLp0 20 [dSm s, dP p, dI t, dI i] (.ret (.tup [dOp (chO s p t i), dB (chB s p t i), dI (chE s p t i)]))
  | rch (s : Sm) (p t i : Int) : CLp0 21 [dSm s, dP p, dI t, dI i] (.ret (.tup [dOp (chO s p t i), dB (chB s p t i), dI (chE s p t i)]))
  | so (x y : Op) : CLp0 22 [dOp x, dOp y] (.ret (dB (decide (x = y))))
  | sw (x y : List Wd) : CLp0 24 [dWs x, dWs y] (.ret (dB (decide (x = y))))
  | do_ (s : Sm) (o : Op) : CLp0 23 [dSm s, dOp o] (.ret (.tup [dSm (doX s o), dI (doE s o)]))
  | rck (s : Sm) : CLp0 25 [dSm s] (.ret (dI (eSm s)))
  | rold (x : Wd) (p t : Int) (hx : smallU x) (hp : okP p) : CLp0 26 [dW x, dP p, dI t] (.ret (dB (oldW p t x)))
inductive CLp : FuncId → List D → Out → Prop
  | mk {f : FuncId} {ds ds' : List D} {out : Out} (h : CLp0 f ds' out) (hl : All2 LeD ds ds') : CLp f ds out
theorem hLp : ∀ f ds out, CLp f ds out → PCall Tryd.prog f ds out := by
  intro f ds out h
  cases h with
  | mk h hl =>
    refine AL.PCall.le ?_ hl
    cases h with
    | word t u hu => exact wordP t u hu
    | few s o => exact fewp s o
    | al s p t o => exact allowed s p t o
    | ral s p t o => exact rallowedP s p t o
    | st s p t => exact stable s p t
    | rst s p t => exact rstable s p t
    | ch s p t i => exact change s p t i
    | rch s p t i => exact rchange s p t i
    | so x y => exact rSO x y
    | sw x y => exact rSW x y
    | do_ s o => exact Do s o
    | rck s => exact rcheck s
    | rold x p t hx hp => exact rOld x p t hx hp
theorem CLp.of {f : FuncId} {ds : List D} {out : Out} (h : CLp0 f ds out) : CLp f ds out := .mk h (all2_refl LeD.refl _)
theorem three {a b c a' b' c' : D} (h1 : LeD a a') (h2 : LeD b b') (h3 : LeD c c') : All2 LeD [a, b, c] [a', b', c'] := .cons h1 (two h2 h3)
theorem four {a b c d a' b' c' d' : D} (h1 : LeD a a') (h2 : LeD b b') (h3 : LeD c c') (h4 : LeD d d') : All2 LeD [a, b, c, d] [a', b', c', d'] := .cons h1 (three h2 h3 h4)
theorem CLp.al' {s : Sm} {p t : Int} {o : Op} {b : Bool} {e : Int} (h1 : alW s p t o = b) (h2 : errP s p t = e) {ds : List D} (hl : All2 LeD ds [dSm s, dP p, dI t, dOp o]) : CLp 16 ds (.ret (.tup [dB b, dI e])) := by
  have := CLp.mk (CLp0.al s p t o) hl; rw [h1, h2] at this; exact this
theorem CLp.st' {s : Sm} {p t n e : Int} (h1 : stN s p t = n) (h2 : errP s p t = e) {ds : List D} (hl : All2 LeD ds [dSm s, dP p, dI t]) : CLp 18 ds (.ret (.tup [dI n, dI e])) := by
  have := CLp.mk (CLp0.st s p t) hl; rw [h1, h2] at this; exact this
theorem CLp.ch' {s : Sm} {p t i : Int} {o : Op} {b : Bool} {e : Int} (h0 : chO s p t i = o) (h1 : chB s p t i = b) (h2 : chE s p t i = e) {ds : List D} (hl : All2 LeD ds [dSm s, dP p, dI t, dI i]) : CLp 20 ds (.ret (.tup [dOp o, dB b, dI e])) := by
  have := CLp.mk (CLp0.ch s p t i) hl; rw [h0, h1, h2] at this; exact this
theorem CLp.do' {s s' : Sm} {o : Op} {e : Int} (h1 : doE s o = e) (h2 : doX s o = s') {ds : List D} (hl : All2 LeD ds [dSm s, dOp o]) : CLp 23 ds (.ret (.tup [dSm s', dI e])) := by
  have := CLp.mk (CLp0.do_ s o) hl
  rw [h1, h2] at this; exact this
theorem CLp.so' {x y : Op} (h : x = y) {ds : List D} (hl : All2 LeD ds [dOp x, dOp y]) : CLp 22 ds (.ret (dB true)) := by
  have := CLp.mk (CLp0.so x y) hl
  rw [decide_eq_true h] at this; exact this
theorem CLp.sw' {x y : List Wd} (h : x = y) {ds : List D} (hl : All2 LeD ds [dWs x, dWs y]) : CLp 24 ds (.ret (dB true)) := by
  have := CLp.mk (CLp0.sw x y) hl
  rw [decide_eq_true h] at this; exact this
theorem CLp.few' {s : Sm} {o : Op} {b : Bool} (h : fewP s o = b) {ds : List D} (hl : All2 LeD ds [dSm s, dOp o]) : CLp 15 ds (.ret (dB b)) := by
  have := CLp.mk (CLp0.few s o) hl; rw [h] at this; exact this
theorem nilSm' : LeD (.agg [.nil 5, .lit (.int .i64 0)]) (dSm ⟨[], 0⟩) := nilSm
def ps : Sm := ⟨[mkP [97] 100, mkP [99] 120], 0⟩
def po : Op := ⟨2, 0, 1, [mkP [100] 130]⟩
theorem pv1 : alW ps 50 149 ⟨2, 0, 1, [mkP [100] 100]⟩ = true ∧ errP ps 50 149 = 0 := by decide
theorem pv2 : alW ps 50 150 po = false ∧ errP ps 50 150 = 0 := by decide
theorem pv3 : alW ps 50 1000 ⟨1, 0, 0, [mkP [101] 120]⟩ = true ∧ errP ps 50 1000 = 0 := by decide
theorem pv4 : stN ps 50 149 = 0 := by decide
theorem pv5 : stN ps 50 150 = 1 := by decide
theorem pv6 : stN ps 50 170 = 2 ∧ errP ps 50 170 = 0 := by decide
theorem pv7 : chO ps 50 149 0 = ⟨2, 0, 1, [mkP [98] 100]⟩ ∧ chB ps 50 149 0 = true ∧ chE ps 50 149 0 = 0 := by decide
theorem pv8 : chO ps 50 150 0 = ⟨0, 0, 0, []⟩ ∧ chB ps 50 150 0 = false ∧ chE ps 50 150 0 = 0 := by decide
theorem pv9 : chO ⟨[], 0⟩ 50 0 0 = ⟨0, 0, 0, []⟩ ∧ chB ⟨[], 0⟩ 50 0 0 = false ∧ chE ⟨[], 0⟩ 50 0 0 = 1 := by decide
theorem pv10 : alW ps (-1) 0 po = false ∧ errP ps (-1) 0 = 190 := by decide
theorem pv11 : stN ⟨[], 0⟩ 50 0 = 0 ∧ errP ⟨[], 0⟩ 50 0 = 0 := by decide
theorem pv12 : stN ps 50 (-1) = 0 ∧ errP ps 50 (-1) = 1 := by decide
theorem saneP : PCall Tryd.prog 14 [] (.ret (dB true)) := by
  refine pcall_of_vc hLp c14 (by simp [a14]) fun hr => ?_
  simp [a14]
  refine vc_path [.ret (dW (mkP [97] 100)), .ret (dW (mkP [99] 120))] ?_
  simp
  refine ⟨.of (.word [97] 100 (by omega)), .of (.word [99] 120 (by omega)), ?_⟩
  refine vc_path [.ret (dW (mkP [100] 130))] ?_
  simp
  refine ⟨.of (.word [100] 130 (by omega)), ?_⟩
  refine vc_path [.ret (dW (mkP [101] 120))] ?_
  simp
  refine ⟨.of (.word [101] 120 (by omega)), ?_⟩
  have r4 : ∀ (a b c d : D), All2 LeD [a, b, c, d] [a, b, c, d] := fun _ _ _ _ => all2_refl LeD.refl _
  have r3 : ∀ (a b c : D), All2 LeD [a, b, c] [a, b, c] := fun _ _ _ => all2_refl LeD.refl _
  refine vc_pathD [.ret (dW (mkP [100] 100)), .ret (.tup [dB true, dI 0])] ?_
  simp
  refine ⟨.of (.word [100] 100 (by omega)), .al' (o := ⟨2, 0, 1, [mkP [100] 100]⟩) pv1.1 pv1.2 (r4 _ _ _ _), rfl, ?_⟩
  refine vc_path [.ret (.tup [dB false, dI 0])] ?_
  simp
  refine ⟨.al' pv2.1 pv2.2 (r4 _ _ _ _), ?_⟩
  refine vc_path [.ret (.tup [dB true, dI 0])] ?_
  simp
  refine ⟨.al' (o := ⟨1, 0, 0, [mkP [101] 120]⟩) pv3.1 pv3.2 (r4 _ _ _ _), ?_⟩
  refine vc_path [.ret (.tup [dI 0, dI 0])] ?_
  simp
  refine ⟨.st' pv4 pv1.2 (r3 _ _ _), ?_⟩
  refine vc_path [.ret (.tup [dI 1, dI 0])] ?_
  simp
  refine ⟨.st' pv5 pv2.2 (r3 _ _ _), ?_⟩
  refine vc_path [.ret (.tup [dI 2, dI 0])] ?_
  simp
  refine ⟨.st' pv6.1 pv6.2 (r3 _ _ _), ?_⟩
  refine vc_path [.ret (.tup [dOp ⟨2, 0, 1, [mkP [98] 100]⟩, dB true, dI 0])] ?_
  simp
  refine ⟨.ch' pv7.1 pv7.2.1 pv7.2.2 (r4 _ _ _ _), ?_⟩
  refine vc_path [.ret (.tup [dOp ⟨0, 0, 0, []⟩, dB false, dI 0])] ?_
  simp
  refine ⟨.ch' pv8.1 pv8.2.1 pv8.2.2 (r4 _ _ _ _), ?_⟩
  refine vc_path [.ret (.tup [dOp ⟨0, 0, 0, []⟩, dB false, dI 1])] ?_
  simp
  refine ⟨.ch' pv9.1 pv9.2.1 pv9.2.2 (four nilSm (LeD.refl _) (LeD.refl _) (LeD.refl _)), ?_⟩
  refine vc_path [.ret (.tup [dB false, dI 190])] ?_
  simp
  refine ⟨.al' pv10.1 pv10.2 (r4 _ _ _ _), ?_⟩
  refine vc_path [.ret (.tup [dI 0, dI 0])] ?_
  simp
  refine ⟨.st' pv11.1 pv11.2 (three nilSm (LeD.refl _) (LeD.refl _)), ?_⟩
  refine vc_path [.ret (.tup [dI 0, dI 1])] ?_
  simp
  refine ⟨.st' pv12.1 pv12.2 (r3 _ _ _), ?_⟩
  refine vc_path [] ?_
  simp
  refine vc_pathD [.ret (dW (mkP [98] 100)), .ret (dB true)] ?_
  simp
  exact ⟨.of (.word [98] 100 (by omega)), .so' (x := ⟨2, 0, 1, [mkP [98] 100]⟩) (y := ⟨2, 0, 1, [mkP [98] 100]⟩) rfl (all2_refl LeD.refl _), rfl⟩
end Go.Proofs.YtlfpnfjibgeehaaDoor
end

section
namespace Go.Proofs.YtlfpnfjibgeehaaDoor
open Go Go.Proofs.YtlfpnfjibgeehaaDoor.AL
attribute [local simp] dT_agg dT_nt dT_noTup dT_cells dT_one bs_toList bs_size strV dW_cells dW_agg dW_noTup dSm_cells dSm_agg dSm_noTup dOp_cells dOp_agg dOp_noTup dWs_cells dWs_one dWs_agg dWs_noTup dWs_nt
attribute [local simp] dW_nt dP_cells dP_agg dP_noTup dOld_cells dOld_agg dOld_noTup dOld_one
set_option maxRecDepth 8000
set_option maxHeartbeats 4000000
inductive CLq : FuncId → List D → Out → Prop
  | lp {f : FuncId} {ds : List D} {out : Out} (h : CLp f ds out) : CLq f ds out
  | sane : CLq 14 [] (.ret (dB true))
theorem hLq : ∀ f ds out, CLq f ds out → PCall Tryd.prog f ds out := by
  intro f ds out h
  cases h with
  | lp h => exact hLp _ _ _ h
  | sane => exact saneP
theorem permitsSpec (s : Sm) (p t : Int) (o : Op) : PCall Tryd.prog 3 [dSm s, dP p, dI t, dOp o] (.ret (dB true)) := by
  refine pcall_of_vc hLq c3 (by simp [a3]) fun hr => ?_
  have h1 := CLq.lp (.of (.al s p t o))
  have h2 := CLq.lp (.of (.ral s p t o))
  have h3 := CLq.lp (.of (.st s p t))
  have h4 := CLq.lp (.of (.rst s p t))
  generalize alW s p t o = b at h1 h2
  generalize errP s p t = e at h1 h2 h3 h4
  generalize stN s p t = n at h3 h4
  simp [a3]
  refine vc_path [.ret (dB true)] ?_
  simp
  refine ⟨.sane, ?_⟩
  cases hf : fewP s o
  · refine vc_pathK 2 [.ret (dB false)] ?_
    simp
    rw [stop_cut 1]
    simp
    refine ⟨.lp (.few' hf (all2_refl LeD.refl _)), ?_⟩
    rw [stop_cut 5]
    simp
  refine vc_pathK 2 [.ret (dB true)] ?_
  simp
  rw [stop_cut 1]
  simp
  refine ⟨.lp (.few' hf (all2_refl LeD.refl _)), ?_⟩
  rw [stop_cut 5]
  simp
  refine vc_path [.ret (.tup [dB b, dI e])] ?_
  simp
  refine ⟨h1, ?_⟩
  refine vc_path [.ret (.tup [dB b, dI e])] ?_
  simp
  refine ⟨h2, ?_⟩
  refine vc_path [.ret (.tup [dI n, dI e])] ?_
  simp
  refine ⟨h3, ?_⟩
  refine vc_path [.ret (.tup [dI n, dI e])] ?_
  simp
  refine ⟨h4, ?_⟩
  refine vc_path [] ?_
  simp
end Go.Proofs.YtlfpnfjibgeehaaDoor
end

section
namespace Go.Proofs.YtlfpnfjibgeehaaDoor
open Go Go.Proofs.YtlfpnfjibgeehaaDoor.AL
attribute [local simp] dT_agg dT_nt dT_noTup dT_cells dT_one bs_toList bs_size strV dW_cells dW_agg dW_noTup dSm_cells dSm_agg dSm_noTup dOp_cells dOp_agg dOp_noTup dWs_cells dWs_one dWs_agg dWs_noTup dWs_nt
attribute [local simp] dW_nt dP_cells dP_agg dP_noTup dOld_cells dOld_agg dOld_noTup dOld_one
set_option maxRecDepth 8000
set_option maxHeartbeats 4000000
structure Ev where
  a : Int
  o : Op
def dEv (e : Ev) : D := .agg [.lit (.int .u16 e.a), dI e.o.k, dI e.o.a, dI e.o.c, .sl 5 (e.o.w.map dW)]
def dEvs (l : List Ev) : D := .sl 5 (l.map dEv)
theorem dEv_cells (e : Ev) : (dEv e).cells = [.lit (.int .u16 e.a), dI e.o.k, dI e.o.a, dI e.o.c, .sl 5 (e.o.w.map dW)] := rfl
theorem dEv_agg (e : Ev) : (dEv e).isAgg = true := rfl
theorem dEv_noTup (e : Ev) : (AV.d (dEv e)).noTup = true := rfl
attribute [local simp] dEv_cells dEv_agg dEv_noTup
theorem remain (s : Sm) (p t : Int) (l : List Ev) (hl : ∀ e ∈ l, 0 ≤ e.a ∧ e.a ≤ 65535) : PCall Tryd.prog 5 [dSm s, dP p, dI t, dEvs l] (.ret (dB true)) := by
  refine pcall_of_vc hLq c5 (by simp [a5]) fun hr => ?_
  have hlen := (hr (dEvs l) (by simp)).sl.1
  simp at hlen
  simp [a5, dEvs]
  refine vc_path [.ret (dB true)] ?_
  simp
  refine ⟨.sane, ?_⟩
  cases hf : fewP s ⟨0, 0, 0, []⟩
  · refine vc_path [.ret (dB false)] ?_
    simp
    exact .lp (.few' hf (two (LeD.refl _) (nilOp _ _ _)))
  by_cases q0 : 6 < l.length
  · have q1 : 6 < (l.length : Int) := by omega
    refine vc_path [.ret (dB true)] ?_
    simp [q0, q1]
    exact .lp (.few' hf (two (LeD.refl _) (nilOp _ _ _)))
  have q1 : ¬ 6 < (l.length : Int) := by omega
  refine vc_path [.ret (dB true)] ?_
  simp [q0, q1]
  refine ⟨.lp (.few' hf (two (LeD.refl _) (nilOp _ _ _))), ?_⟩
  have hs := CLq.lp (.of (.st s p t))
  by_cases q2 : errP s p t ≠ 0
  · have e1 : stN s p t = 0 := by simp [stN, q2]
    rw [e1] at hs
    generalize errP s p t = e at q2 hs
    refine vc_path [.ret (.tup [dI 0, dI e])] ?_
    simp [q2]
    exact hs
  have q2 : errP s p t = 0 := by omega
  obtain ⟨s1, s2, s3, s4⟩ := stN_ok q2
  have hp := (errP_ok q2).2.1
  rw [q2] at hs
  have hn0 : stN s p t = stN s p t := rfl
  generalize hn : stN s p t = n at hs s3 s4
  refine vc_path [.ret (.tup [dI n, dI 0])] ?_
  simp
  refine ⟨hs, ?_⟩
  have m1 : ¬ n < 0 := by omega
  have m2 : ¬ (s.w.length : Int) < n := by omega
  refine vc_path [] ?_
  simp [m1, m2]
  refine vc_loopK [3, 4, 5, 9] (Nat × Int × Sm) (fun y => [(14, true, .d (dI y.1)), (12, true, .d (dI y.2.1)), (13, true, .d (dI (stN y.2.2 p y.2.1))), (11, true, .ptr 2 0)]) (fun y => [(2, .box true ((dSm y.2.2).cells.map .d))])
    (fun y => y.1 ≤ l.length ∧ errP y.2.2 p y.2.1 = 0 ∧ n ≤ stN y.2.2 p y.2.1 ∧ y.2.2.w.take n.toNat = s.w.take n.toNat) (fun y => l.length - y.1) (0, t, s) (by simp [q2, hn]) ⟨[], [], ?_⟩ (fun y hy => ?_)
  · simp [hn]
  obtain ⟨i, u, x⟩ := y
  obtain ⟨i1, i2, i3, i4⟩ := hy
  simp only at i1 i2 i3 i4
  obtain ⟨f1, _, f3⟩ := errP_ok i2
  obtain ⟨g1, g2, g3, g4⟩ := stN_ok i2
  simp
  intro hlt
  have hev := hl _ (List.getElem_mem hlt)
  have hw0 : IntKind.i64.wrap l[i].a = l[i].a := wrap64 (by omega)
  have hw1 : IntKind.i64.wrap (u + l[i].a) = u + l[i].a := wrap64 (by omega)
  simp [hlt, hw0, hw1]
  intro h5
  obtain ⟨v, hv, hv1, hv2⟩ : ∃ v : Int, (if 1099511627775 < u + l[i].a then 1099511627775 else u + l[i].a) = v ∧ u ≤ v ∧ v < 1099511627776 := ⟨_, rfl, by split <;> omega, by split <;> omega⟩
  have ev : errP x p v = 0 := errP_of f1 hp (by omega)
  have hsv := stN_later i2 ev hv1
  have hal := CLq.lp (.of (.al x p v l[i].o))
  rw [ev] at hal
  simp only [hv]
  have hfin : ∀ (y : Sm), eSm y = 0 → errP y p v = 0 → stN x p u ≤ stN y p v → stN x p v ≤ y.w.length → y.w.take n.toNat = x.w.take n.toNat →
      (¬ stN y p v < stN x p u) ∧ (¬ (y.w.length : Int) < stN y p v) ∧ (¬ (y.w.length : Int) < n) ∧ n ≤ y.w.length ∧ CLq 14 [] (.ret (dB true)) ∧ y.w.take n.toNat = s.w.take n.toNat := fun y h1 h2 h3 h4 h6 => by
    obtain ⟨r1, r2, r3, r4⟩ := stN_ok h2
    exact ⟨by omega, by omega, by omega, by omega, .sane, by rw [h6, i4]⟩
  cases ha : alW x p v l[i].o
  · rw [ha] at hal
    refine vc_pathD [.ret (.tup [dB false, dI 0])] ?_
    simp [hlt]
    refine ⟨hal, rfl, ?_⟩
    have hst := CLq.lp (.of (.st x p v))
    rw [ev] at hst
    obtain ⟨r1, r2, r3, r4, _, r5⟩ := hfin x f1 ev hsv (stN_ok ev).2.2.2 rfl
    refine vc_path [.ret (.tup [dI (stN x p v), dI 0])] ?_
    simp
    refine ⟨hst, ?_⟩
    refine vc_pathD [.ret (dB true)] ?_
    simp [r1, r2, r3, r4, s3, s4]
    refine ⟨.lp (.sw' r5 (two (leD_of_eq (by simp [dWs])) (leD_of_eq (by simp [dWs])))), rfl, i + 1, v, x, ⟨by omega, ev, by omega, r5⟩, by omega, [], [], ?_⟩
    rw [wrap64 (by omega)]
    simp
  · rw [ha] at hal
    obtain ⟨b1, b2, b3, b4⟩ := remain_step ha
    obtain ⟨_, c2, _⟩ := alW_ok ha
    have hdo := CLq.lp (.of (.do_ x l[i].o))
    rw [c2] at hdo
    generalize hy : doX x l[i].o = y at b1 b2 b3 b4 hdo
    have ey : errP y p v = 0 := errP_of b1 hp (by omega)
    have hst := CLq.lp (.of (.st y p v))
    rw [ey] at hst
    have htk : y.w.take n.toNat = x.w.take n.toNat := by
      have e := congrArg (List.take n.toNat) b4
      rw [List.take_take, List.take_take, Nat.min_eq_left (by omega)] at e
      exact e
    obtain ⟨r1, r2, r3, r4, _, r5⟩ := hfin y b1 ey (by omega) b3 htk
    refine vc_pathD [.ret (.tup [dB true, dI 0])] ?_
    simp [hlt]
    refine ⟨hal, rfl, ?_⟩
    refine vc_pathD [.ret (.tup [dSm y, dI 0])] ?_
    simp [hlt]
    refine ⟨hdo, rfl, ?_⟩
    refine vc_path [.ret (.tup [dI (stN y p v), dI 0])] ?_
    simp
    refine ⟨hst, ?_⟩
    refine vc_pathD [.ret (dB true)] ?_
    simp [r1, r2, r3, r4, s3, s4]
    refine ⟨.lp (.sw' r5 (two (leD_of_eq (by simp [dWs])) (leD_of_eq (by simp [dWs])))), rfl, i + 1, v, y, ⟨by omega, ey, by omega, r5⟩, by omega, [], [], ?_⟩
    rw [wrap64 (by omega)]
    simp
end Go.Proofs.YtlfpnfjibgeehaaDoor
end

section
namespace Go.Proofs.YtlfpnfjibgeehaaDoor
open Go Go.Proofs.YtlfpnfjibgeehaaDoor.AL
noncomputable def fsOf (t : TypeId) : Array Field := match Tryd.prog.underlying t with
  | some (.struct fs) => fs
  | _ => #[]
noncomputable def fld (t : TypeId) (i : Nat) : Field := (fsOf t).getD i ⟨ "", 0, 0, false, "", "", 0⟩
theorem uWd : Tryd.prog.underlying 51 = some (.struct #[fld 51 0, fld 51 1, fld 51 2, fld 51 3, fld 51 4]) := by kernel_rfl
theorem uSm : Tryd.prog.underlying 24 = some (.struct #[fld 24 0, fld 24 1]) := by kernel_rfl
theorem uOp : Tryd.prog.underlying 28 = some (.struct #[fld 28 0, fld 28 1, fld 28 2, fld 28 3]) := by kernel_rfl
theorem uInt : Tryd.prog.underlying 3 = some (.int .i64) := by kernel_rfl
theorem uBool : Tryd.prog.underlying 4 = some .bool := by kernel_rfl
theorem uStr : Tryd.prog.underlying 9 = some .string := by kernel_rfl
theorem uStrs : Tryd.prog.underlying 49 = some (.slice 9) := by kernel_rfl
theorem uWds : Tryd.prog.underlying 22 = some (.slice 51) := by kernel_rfl
theorem zInt : Tryd.prog.cellsOf 3 = 1 := by kernel_rfl
theorem zStr : Tryd.prog.cellsOf 9 = 1 := by kernel_rfl
theorem zStrs : Tryd.prog.cellsOf 49 = 1 := by kernel_rfl
theorem zWds : Tryd.prog.cellsOf 22 = 1 := by kernel_rfl
theorem zWd : Tryd.prog.cellsOf 51 = 5 := by kernel_rfl
theorem zSm : Tryd.prog.cellsOf 24 = 2 := by kernel_rfl
theorem zOp : Tryd.prog.cellsOf 28 = 4 := by kernel_rfl
section
variable {H : Type} {enc : TypeId × Value → H} {w : World}
theorem shI : Shows enc Tryd.prog w 3 dI := shows_int uInt
theorem shT : Shows enc Tryd.prog w 9 dT := shows_str uStr
theorem shTs : Shows enc Tryd.prog w 49 (fun l : List (List UInt8) => .sl 1 (l.map dT)) := shows_slice uStrs zStr (fun _ => rfl) (fun y c hc => by simp [dT, D.cells] at hc; subst hc; rfl) shT
theorem shW : Shows enc Tryd.prog w 51 dW := shows_map (shows_structN uWd (by rw [zWd]; kernel_rfl)
  (showsR_cons (t := 9) (off' := 1) (by kernel_rfl) (by kernel_rfl) (by rw [zStr]) shT (showsR_cons (t := 3) (off' := 2) (by kernel_rfl) (by kernel_rfl) (by rw [zInt]) shI (showsR_cons (t := 3) (off' := 3) (by kernel_rfl) (by kernel_rfl) (by rw [zInt]) shI
  (showsR_cons (t := 3) (off' := 4) (by kernel_rfl) (by kernel_rfl) (by rw [zInt]) shI (showsR_cons (t := 49) (off' := 5) (by kernel_rfl) (by kernel_rfl) (by rw [zStrs]) shTs showsR_nil)))))) (fun y => ⟨⟨y.1, y.2.1, y.2.2.1, y.2.2.2.1, y.2.2.2.2.1⟩, rfl⟩)
theorem shWs : Shows enc Tryd.prog w 22 (fun l : List Wd => .sl 5 (l.map dW)) := shows_slice uWds zWd (fun _ => rfl) (fun y c hc => by simp [dW, D.cells] at hc; rcases hc with rfl | rfl | rfl | rfl | rfl <;> rfl) shW
theorem shSm : Shows enc Tryd.prog w 24 dSm := shows_map (shows_structN uSm (by rw [zSm]; kernel_rfl)
  (showsR_cons (t := 22) (off' := 1) (by kernel_rfl) (by kernel_rfl) (by rw [zWds]) shWs (showsR_cons (t := 3) (off' := 2) (by kernel_rfl) (by kernel_rfl) (by rw [zInt]) shI showsR_nil))) (fun y => ⟨⟨y.1, y.2.1⟩, rfl⟩)
theorem shOp : Shows enc Tryd.prog w 28 dOp := shows_map (shows_structN uOp (by rw [zOp]; kernel_rfl)
  (showsR_cons (t := 3) (off' := 1) (by kernel_rfl) (by kernel_rfl) (by rw [zInt]) shI (showsR_cons (t := 3) (off' := 2) (by kernel_rfl) (by kernel_rfl) (by rw [zInt]) shI (showsR_cons (t := 3) (off' := 3) (by kernel_rfl) (by kernel_rfl) (by rw [zInt]) shI
  (showsR_cons (t := 22) (off' := 4) (by kernel_rfl) (by kernel_rfl) (by rw [zWds]) shWs showsR_nil))))) (fun y => ⟨⟨y.1, y.2.1, y.2.2.1, y.2.2.2.1⟩, rfl⟩)
end
theorem one_Sm (n : Sm) : ∀ c ∈ (dSm n).cells, c.one = true := by
  intro c hc
  simp [dSm, D.cells] at hc
  rcases hc with rfl | rfl <;> rfl
theorem one_Op (n : Op) : ∀ c ∈ (dOp n).cells, c.one = true := by
  intro c hc
  simp [dOp, D.cells] at hc
  rcases hc with rfl | rfl | rfl | rfl <;> rfl
theorem sSm : Sees Tryd.prog 24 (fun x => ∃ n : Sm, x = dSm n) := sees_agg (by rw [uSm]) shSm (fun _ => rfl) one_Sm
theorem sOp : Sees Tryd.prog 28 (fun x => ∃ n : Op, x = dOp n) := sees_agg (by rw [uOp]) shOp (fun _ => rfl) one_Op
theorem sWs : Sees Tryd.prog 22 (fun x => ∃ l : List Wd, x = .sl 5 (l.map dW)) := sees_slice uWds shWs
theorem sI : Sees Tryd.prog 3 (fun x => ∃ n : Int, (IntKind.i64.min ≤ n ∧ n ≤ IntKind.i64.max) ∧ x = .lit (.int .i64 n)) := sees_int uInt
end Go.Proofs.YtlfpnfjibgeehaaDoor
end

section
namespace Go.Proofs.YtlfpnfjibgeehaaDoor
open Go Go.Proofs.YtlfpnfjibgeehaaDoor.AL
theorem uPm : Tryd.prog.underlying 26 = some (.struct #[fld 26 0]) := by kernel_rfl
theorem uEv : Tryd.prog.underlying 44 = some (.struct #[fld 44 0, fld 44 1]) := by kernel_rfl
theorem uEvs : Tryd.prog.underlying 41 = some (.slice 44) := by kernel_rfl
theorem uU16 : Tryd.prog.underlying 42 = some (.int .u16) := by kernel_rfl
theorem zPm : Tryd.prog.cellsOf 26 = 1 := by kernel_rfl
theorem zEv : Tryd.prog.cellsOf 44 = 5 := by kernel_rfl
theorem zU16 : Tryd.prog.cellsOf 42 = 1 := by kernel_rfl
section
variable {H : Type} {enc : TypeId × Value → H} {w : World}
theorem shows_u16 {P : Program} {t : TypeId} (ht : P.underlying t = some (.int .u16)) : Shows enc P w t (fun n : {x : Int // 0 ≤ x ∧ x ≤ 65535} => .lit (.int .u16 n.1)) := by
  intro fuel cs x h
  obtain ⟨n, rfl, _, hw⟩ := DataW.trod_int ht h
  have hw' : 0 ≤ n ∧ n ≤ 65535 := by simpa [Lit.wf, IntKind.min, IntKind.max, IntKind.signed, IntKind.bits] using hw
  refine ⟨⟨n, hw'⟩, repL_one (.lit ?_)⟩
  simpa [Sc, Lit.wf] using hw
theorem shPm : Shows enc Tryd.prog w 26 dP := shows_map (shows_structN uPm (by rw [zPm]; kernel_rfl)
  (showsR_cons (t := 3) (off' := 1) (by kernel_rfl) (by kernel_rfl) (by rw [zInt]) shI showsR_nil)) (fun y => ⟨y.1, rfl⟩)
def EvB : Type := {e : Ev // 0 ≤ e.a ∧ e.a ≤ 65535}
theorem shEv : Shows enc Tryd.prog w 44 (fun z : EvB => dEv z.1) := shows_map (shows_structN uEv (by rw [zEv]; kernel_rfl)
  (showsR_cons (t := 42) (off' := 1) (by kernel_rfl) (by kernel_rfl) (by rw [zU16]) (shows_u16 uU16) (showsR_cons (t := 28) (off' := 5) (by kernel_rfl) (by kernel_rfl) (by rw [zOp]) shOp showsR_nil))) (fun y => ⟨⟨⟨y.1.1, y.2.1⟩, y.1.2⟩, rfl⟩)
theorem shEvs : Shows enc Tryd.prog w 41 (fun l : List EvB => .sl 5 (l.map fun z => dEv z.1)) := shows_slice uEvs zEv (fun _ => rfl) (fun y c hc => by simp [dEv, D.cells] at hc; rcases hc with rfl | rfl | rfl | rfl | rfl <;> rfl) shEv
end
theorem sPm : Sees Tryd.prog 26 (fun x => ∃ p : Int, x = dP p) := sees_agg (by rw [uPm]) shPm (fun _ => rfl) (fun p c hc => by simp [dP, D.cells] at hc; subst hc; rfl)
theorem sEvs : Sees Tryd.prog 41 (fun x => ∃ l : List EvB, x = .sl 5 (l.map fun z => dEv z.1)) := sees_slice uEvs shEvs
theorem remain' (s : Sm) (p t : Int) (l : List EvB) : PCall Tryd.prog 5 [dSm s, dP p, dI t, .sl 5 (l.map fun z => dEv z.1)] (.ret (dB true)) := by
  have h := remain s p t (l.map fun z => z.1) (fun e he => by
    obtain ⟨z, _, rfl⟩ := List.mem_map.1 he
    exact z.2)
  rw [dEvs, List.map_map] at h
  exact h
end Go.Proofs.YtlfpnfjibgeehaaDoor
end

section
namespace Go.Proofs.YtlfpnfjibgeehaaDoor
open Go Go.Proofs.YtlfpnfjibgeehaaDoor.AL Go.ChangeShapes Go.WideShapes Go.ChangeAt Go.RowKit Go.Lib Go.Shelf
theorem own : ownKnob Tryd.prog.godebug = none := by kernel_rfl
theorem laidOut : laidOutB Tryd.prog = true := by kernel_rfl
theorem ip_of {w : World} {cs : List D} {g : Nat} (h : ∀ (k : Nat) (c : D), cs[k]? = some c → ∃ v, w.cell? ⟨g, k, none⟩ = some v ∧ c = .lit v ∧ Sc v) : Rep (allI w) w (.ip (.agg cs)) (.pointer (some ⟨g, 0, none⟩)) := by
  have ha : ∀ k, (⟨g, 0, none⟩ : Addr).add k = ⟨g, k, none⟩ := fun k => by
    cases k <;> simp [Addr.add]
  refine .ip ⟨g, 0, none⟩ (fun k => (w.cell? ⟨g, k, none⟩).getD (.bool false)) ?_ ?_ ?_
  · intro c hc
    obtain ⟨k, hk⟩ := List.mem_iff_getElem?.1 hc
    obtain ⟨v, _, rfl, _⟩ := h k c hk
    rfl
  · intro k c hk
    obtain ⟨v, hv, _, _⟩ := h k c hk
    rw [ha]
    exact ⟨by simp [allI, hv], by simp [hv]⟩
  · intro k c hk
    obtain ⟨v, hv, rfl, hs⟩ := h k c hk
    simp only [hv, Option.getD_some]
    exact .lit hs
theorem sc_first (c : Nat) : Sc (.int .u8 (firstT c)) := by
  have h := firstT_cases c
  simp only [Sc, IntKind.min, IntKind.max]
  rcases h with h | h | h | h | h | h | h | h | h <;> rw [h] <;> decide
theorem sc_lo (i : Nat) : Sc (.int .u8 (accLo i)) := by
  have h : accLo i ≤ 255 := by
    unfold accLo
    repeat' split
    all_goals omega
  exact ⟨by simp [IntKind.min, IntKind.signed], by simp [IntKind.max, IntKind.signed, IntKind.bits]; omega⟩
theorem sc_hi (i : Nat) : Sc (.int .u8 (accHi i)) := by
  have h : accHi i ≤ 255 := by
    unfold accHi
    repeat' split
    all_goals omega
  exact ⟨by simp [IntKind.min, IntKind.signed], by simp [IntKind.max, IntKind.signed, IntKind.bits]; omega⟩
theorem pairs_get (lo hi : Nat → D) : ∀ (n b k : Nat) (c : D), ((List.range' b n).flatMap fun i => [lo i, hi i])[k]? = some c →
    ∃ i, b ≤ i ∧ i < b + n ∧ ((k = 2 * (i - b) ∧ c = lo i) ∨ (k = 2 * (i - b) + 1 ∧ c = hi i))
  | 0, b, k, c, h => by simp at h
  | n + 1, b, 0, c, h => by
    simp [List.range'_succ] at h
    exact ⟨b, by omega, by omega, .inl ⟨by omega, h.symm⟩⟩
  | n + 1, b, 1, c, h => by
    simp [List.range'_succ] at h
    exact ⟨b, by omega, by omega, .inr ⟨by omega, h.symm⟩⟩
  | n + 1, b, k + 2, c, h => by
    simp only [List.range'_succ, List.flatMap_cons, List.cons_append, List.nil_append, List.getElem?_cons_succ] at h
    obtain ⟨i, h1, h2, h3⟩ := pairs_get lo hi n (b + 1) k c h
    refine ⟨i, by omega, by omega, ?_⟩
    rcases h3 with ⟨h3, h4⟩ | ⟨h3, h4⟩
    · exact .inl ⟨by omega, h4⟩
    · exact .inr ⟨by omega, h4⟩
/-- The variables' cells make the contract's premise. -/
theorem glOk_of {W : World} (h : Lib.Utf8Tabs 0 1 W) : GlOk (allI W) W := by
  intro p hp
  simp only [glbTab, List.mem_cons, List.not_mem_nil, or_false] at hp
  rcases hp with rfl | rfl
  · refine ip_of fun k c hk => ?_
    rw [List.getElem?_map] at hk
    obtain ⟨j, hj, rfl⟩ := Option.map_eq_some_iff.1 hk
    obtain ⟨hl, he⟩ := List.getElem?_eq_some_iff.1 hj
    simp at hl he
    subst he
    exact ⟨_, h.1 _ hl, rfl, sc_first _⟩
  · refine ip_of fun k c hk => ?_
    rw [List.range_eq_range'] at hk
    obtain ⟨i, _, h2, h3⟩ := pairs_get _ _ 16 0 k c hk
    have hi := h.2 i (by omega)
    rcases h3 with ⟨rfl, rfl⟩ | ⟨rfl, rfl⟩
    · exact ⟨_, hi.1, rfl, sc_lo _⟩
    · exact ⟨_, hi.2, rfl, sc_hi _⟩
noncomputable def laidWorld (os : Os) : World :=
  let w0 := World.holding Tryd.prog os ⟨#[], #[], []⟩
  let put (h : Array Obj) (g : Nat) (cs : Array Value) : Array Obj := h.modify g fun
    | .cells _ t frozen => .cells cs t frozen
    | o => o
  let h1 := put w0.heap 0 (Lib.firstTab.map fun z => Value.int .u8 z).toArray
  let h2 := put h1 1 ((List.range 16).flatMap fun i => [Value.int .u8 (Lib.accLo i), Value.int .u8 (Lib.accHi i)]).toArray
  { w0 with heap := h2 }
theorem uU8 : Tryd.prog.underlying 5 = some (.int .u8) := by kernel_rfl
theorem sU8 : Sees Tryd.prog 5 (fun x => ∃ n : Int, (IntKind.u8.min ≤ n ∧ n ≤ IntKind.u8.max) ∧ x = .lit (.int .u8 n)) := sees_int uU8
end Go.Proofs.YtlfpnfjibgeehaaDoor
end
