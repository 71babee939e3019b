/- Part of the proof: S70, S71, S72, S73, S74, S75, S76, S77, S78, S79, S80, S60, S82, S62. -/
import Derived.Test.YteonapeaaepipaaDoorCards
import Derived.Test.YteonapeaaepipaaDoorTie
import Derived.Deep.DeepHandedRow
import Derived.Deep.DeepWitnessRowRef
import Derived.Lib.LaidIn
import Derived.Lib.LaidU8
import Derived.ProofKit
import Derived.SizedLaws
import Derived.PinnedBridge
import Derived.SevenTiedAt
import Derived.Test.YteonapeaaepipaaDoorG
set_option linter.unnecessarySimpa false
set_option linter.unusedVariables false
set_option linter.unusedSimpArgs false
section
namespace Go.Proofs.YteonapeaaepipaaDoor
open Go Go.Proofs.YteonapeaaepipaaDoor.AL
attribute [local simp] dT_agg dT_nt dT_noTup dT_cells dT_one bs_toList bs_size strV dW_cells dW_agg dW_noTup dSm_cells dSm_agg dSm_noTup dOp_cells dOp_agg dOp_noTup dWs_cells dWs_one dWs_agg dWs_noTup dWs_nt
attribute [local simp] dW_nt dP_cells dP_agg dP_noTup dOld_cells dOld_agg dOld_noTup dOld_one
set_option maxRecDepth 8000
set_option maxHeartbeats 4000000
theorem right23 (d k : Int) : PCall Tryd.prog 43 [dI d, dI k] (.ret (dB (chR d k))) := by
  refine pcall_of_vc noC c43 (by simp [a43]) fun hr => ?_
  simp [a43]
  refine vc_path [] ?_
  simp [chR]
  refine ⟨fun q1 => ⟨fun q2 => ⟨fun q3 => ⟨by omega, ?_⟩, fun q3 => leD_of_eq (by simp [show ¬ 0 ≤ k by omega])⟩, fun q2 => leD_of_eq (by simp [show ¬ d ≤ 1073741824 by omega])⟩, fun q1 => leD_of_eq (by simp [show ¬ 1 ≤ d by omega])⟩
  have h1 : 0 ≤ Int.tdiv 1099511627776 d ∧ Int.tdiv 1099511627776 d ≤ 1099511627776 := by
    rw [Int.tdiv_eq_ediv_of_nonneg (by decide)]
    exact ⟨Int.ediv_nonneg (by decide) (by omega), Int.ediv_le_self _ (by decide)⟩
  rw [wrap64 (n := Int.tdiv 1099511627776 d) (by omega), wrap64 (by omega)]
  exact leD_of_eq (by simp [q1, q2, q3])
/-- The condition to begin at a time or later. -/
def dSin (T : Int) : D := .fn (.func 77) [] [.ip (dI T)]
theorem dSin_cells (T : Int) : (dSin T).cells = [dSin T] := rfl
theorem dSin_agg (T : Int) : (dSin T).isAgg = false := rfl
theorem dSin_noTup (T : Int) : (AV.d (dSin T)).noTup = true := rfl
theorem dSin_one (T : Int) : (dSin T).one = true := rfl
attribute [local simp] dSin_cells dSin_agg dSin_noTup dSin_one
theorem since1 (T : Int) (x : Wd) : PCall Tryd.prog 77 [dW x, .ip (dI T)] (.ret (dB (decide (T ≤ x.f)))) := by
  refine pcall_of_vc noC c77 (by simp [a77]) fun hr => ?_
  simp [a77]
inductive CSi : FuncId → List D → Out → Prop
  | mk (T : Int) (x : Wd) : CSi 77 [dW x, .ip (dI T)] (.ret (dB (decide (T ≤ x.f))))
theorem hSi : ∀ f ds out, CSi f ds out → PCall Tryd.prog f ds out := by
  intro f ds out h
  cases h with
  | mk T x => exact since1 T x
/-- The condition of the search. -/
def dFst (T : Int) (l : List Wd) : D := .fn (.func 106) [] [.ip (dSin T), .ip (dWs l)]
theorem first1 (T : Int) (l : List Wd) (i : Nat) (hi : i < l.length) : PCall Tryd.prog 106 [dI i, .ip (dSin T), .ip (dWs l)] (.ret (dB (decide (T ≤ l[i].f)))) := by
  refine pcall_of_vc hSi c106 (by simp [a106]) fun hr => ?_
  have hc := CSi.mk T l[i]
  generalize decide (T ≤ l[i].f) = b at hc
  simp [a106, dWs_eq]
  refine vc_pathD [.ret (dB b)] ?_
  simp [hi, dSin]
  exact ⟨hc, rfl⟩
inductive CSr : FuncId → List D → Out → Prop
  | mk (T : Int) (l : List Wd) (i : Nat) (hi : i < l.length) : CSr 106 [dI i, .ip (dSin T), .ip (dWs l)] (.ret (dB (decide (T ≤ l[i].f))))
theorem hSr : ∀ f ds out, CSr f ds out → PCall Tryd.prog f ds out := by
  intro f ds out h
  cases h with
  | mk T l i hi => exact first1 T l i hi
theorem search (T : Int) (l : List Wd) (hl : okWs 0 l = true) (hlen : l.length ≤ 4096) : PCall Tryd.prog 105 [dI l.length, dFst T l] (.ret (dI (sinN T l))) := by
  refine pcall_of_vc hSr c105 (by simp [a105]) fun hr => ?_
  simp [a105]
  refine vc_loopK [0, 1] (Nat × Nat) (fun y => [(5, true, .d (dI y.1)), (6, true, .d (dI y.2))]) (fun y => []) (fun y => y.1 ≤ y.2 ∧ y.2 ≤ l.length ∧ (∀ j, (h : j < y.1) → (h2 : j < l.length) → l[j].f < T) ∧ (∀ j, y.2 ≤ j → (h2 : j < l.length) → T ≤ l[j].f)) (fun y => y.2 - y.1) (0, l.length) (by simp; omega) ⟨[], [], ?_⟩ (fun y hy => ?_)
  · simp
  obtain ⟨i, j⟩ := y
  obtain ⟨h1, h2, h3, h4⟩ := hy
  simp only at h1 h2 h3 h4
  simp
  refine ⟨fun hlt => ?_, fun hge => ?_⟩
  · have hlt : i < j := by omega
    have w1 : IntKind.i64.wrap ((i : Int) + j) = (i : Int) + j := wrap64 (by omega)
    have w2 : IntKind.u64.wrap ((i : Int) + j) = (i : Int) + j := by simp [IntKind.wrap, IntKind.bits, IntKind.signed]; omega
    have hs : shiftV false .u64 ((i : Int) + j) 1 = .int .u64 (((i + j) / 2 : Nat) : Int) := by
      have e : min (1 : Int).toNat IntKind.u64.bits = 1 := by decide
      simp only [shiftV, e]
      rw [Int.fdiv_eq_ediv_of_nonneg _ (by decide)]
      simp
    obtain ⟨m, hm⟩ : ∃ m, (i + j) / 2 = m := ⟨_, rfl⟩
    have hmi : i ≤ m ∧ m < j := by omega
    have hml : m < l.length := by omega
    have w3 : IntKind.i64.wrap ((m : Nat) : Int) = m := wrap64 (by omega)
    rw [w1, w2, hs, hm]
    have hc := CSr.mk T l m hml
    simp [w3]
    by_cases hb : T ≤ l[m].f
    · rw [decide_eq_true hb] at hc
      refine vc_path [.ret (dB true)] ?_
      simp [dFst]
      refine ⟨hc, i, m, ⟨by omega, by omega, h3, fun a ha ha2 => ?_⟩, by omega, [], [], ?_⟩
      · have := (okWs_sorted 0 l hl m a ha ha2).2
        omega
      · simp
    · rw [decide_eq_false hb] at hc
      refine vc_path [.ret (dB false)] ?_
      simp [dFst]
      refine ⟨hc, m + 1, j, ⟨by omega, by omega, fun a ha ha2 => ?_, h4⟩, by omega, [], [], ?_⟩
      · have := (okWs_sorted 0 l hl a m (by omega) hml).2
        omega
      · rw [wrap64 (by omega)]
        simp
  · have : i = j := by omega
    subst this
    exact leD_of_eq (by rw [sin_is hl h2 h3 h4])
inductive CSs : FuncId → List D → Out → Prop
  | mk (T : Int) (l : List Wd) (hl : okWs 0 l = true) (hlen : l.length ≤ 4096) : CSs 105 [dI l.length, dFst T l] (.ret (dI (sinN T l)))
theorem hSs : ∀ f ds out, CSs f ds out → PCall Tryd.prog f ds out := by
  intro f ds out h
  cases h with
  | mk T l hl hlen => exact search T l hl hlen
theorem firstC (T : Int) (l : List Wd) (hl : okWs 0 l = true) (hlen : l.length ≤ 4096) : PCall Tryd.prog 76 [dWs l, dSin T] (.ret (dI (sinN T l))) := by
  refine pcall_of_vc hSs c76 (by simp [a76]) fun hr => ?_
  have hc := CSs.mk T l hl hlen
  generalize sinN T l = n at hc
  simp [a76, dWs_eq]
  refine vc_path [.ret (dI n)] ?_
  simp
  exact ⟨hc, .lit _⟩
inductive CSt : FuncId → List D → Out → Prop
  | mk (T : Int) (l : List Wd) (hl : okWs 0 l = true) (hlen : l.length ≤ 4096) : CSt 76 [dWs l, dSin T] (.ret (dI (sinN T l)))
theorem hSt : ∀ f ds out, CSt f ds out → PCall Tryd.prog f ds out := by
  intro f ds out h
  cases h with
  | mk T l hl hlen => exact firstC T l hl hlen
theorem since (T : Int) (l : List Wd) (hl : okWs 0 l = true) (hlen : l.length ≤ 4096) : PCall Tryd.prog 44 [dWs l, dI T] (.ret (dI (sinN T l))) := by
  refine pcall_of_vc hSt c44 (by simp [a44]) fun hr => ?_
  have hc := CSt.mk T l hl hlen
  generalize sinN T l = n at hc
  simp [a44, dWs_eq]
  refine vc_path [.ret (dI n)] ?_
  simp
  exact ⟨hc, .lit _⟩
inductive CCu : FuncId → List D → Out → Prop
  | ck (s : Sm) : CCu 23 [dSm s] (.ret (dI (eSm s)))
  | right (d k : Int) : CCu 43 [dI d, dI k] (.ret (dB (chR d k)))
  | since (T : Int) (l : List Wd) (hl : okWs 0 l = true) (hlen : l.length ≤ 4096) : CCu 44 [dWs l, dI T] (.ret (dI (sinN T l)))
  | st (s : Sm) (p t : Int) : CCu 47 [dSm s, dP p, dI t] (.ret (.tup [dI (stN s p t), dI (errP s p t)]))
theorem hCu : ∀ f ds out, CCu f ds out → PCall Tryd.prog f ds out := by
  intro f ds out h
  cases h with
  | ck s => exact Check s
  | right d k => exact right23 d k
  | since T l hl hlen => exact since T l hl hlen
  | st s p t => exact stable s p t
theorem chunk (w : List Wd) (d k : Int) : PCall Tryd.prog 14 [dWs w, dI d, dI k] (.ret (.tup [dWs (ckL w d k), dI (ckA w d k), dI (ckE w d k)])) := by
  refine pcall_of_vc hCu c14 (by simp [a14]) fun hr => ?_
  have h1 := CCu.ck ⟨w, 0⟩
  have h2 := CCu.right d k
  simp [a14, dWs_eq]
  by_cases q : eSm ⟨w, 0⟩ ≠ 0
  · have e0 : ckE w d k ≠ 0 := by simp [ckE, q]
    have e1 : ckE w d k = eSm ⟨w, 0⟩ := by simp [ckE, q]
    have e2 : ckA w d k = 0 := by simp [ckA, e0]
    have e3 : ckL w d k = [] := by simp [ckL, e0]
    rw [e2, e3, e1]
    generalize eSm ⟨w, 0⟩ = e at q h1
    refine vc_path [.ret (dI e)] ?_
    simp [q]
    exact h1
  have q : eSm ⟨w, 0⟩ = 0 := by omega
  rw [q] at h1
  refine vc_path [.ret (dI 0)] ?_
  simp
  refine ⟨h1, ?_⟩
  cases g : chR d k
  · have e1 : ckE w d k = 230 := by simp [ckE, q, g]
    have e2 : ckA w d k = 0 := by simp [ckA, e1]
    have e3 : ckL w d k = [] := by simp [ckL, e1]
    rw [g] at h2
    rw [e1, e2, e3]
    refine vc_path [.ret (dB false)] ?_
    simp
    exact h2
  rw [g] at h2
  obtain ⟨m1, m2, m3, m4, m5, m6⟩ := chR_ok g
  obtain ⟨f1, _, _, f4⟩ := eSm_ok q
  have e1 : ckE w d k = 0 := by simp [ckE, q, g]
  have e2 : ckA w d k = sinN (k * d) w := by simp [ckA, e1]
  have e3 : ckL w d k = (w.take (sinN ((k + 1) * d) w)).drop (sinN (k * d) w) := by simp [ckL, e1]
  have h3 := CCu.since (k * d) w f4 f1
  have h4 := CCu.since ((k + 1) * d) w f4 f1
  have hle := sin_mono (l := w) m6
  have hle2 := sin_le ((k + 1) * d) w
  rw [e1, e2, e3]
  generalize sinN (k * d) w = A at *
  generalize sinN ((k + 1) * d) w = B at *
  have hkd : k ≤ 1099511627776 := by
    have := Int.mul_le_mul_of_nonneg_left m1 m3
    rw [Int.mul_one] at this
    omega
  have w1 : IntKind.i64.wrap (k * d) = k * d := wrap64 (by omega)
  have w2 : IntKind.i64.wrap (k + 1) = k + 1 := wrap64 (by omega)
  have w3 : IntKind.i64.wrap ((k + 1) * d) = (k + 1) * d := wrap64 (by omega)
  refine vc_path [.ret (dB true)] ?_
  simp
  refine ⟨h2, ?_⟩
  refine vc_path [.ret (dI A)] ?_
  simp [w1]
  refine ⟨h3, ?_⟩
  refine vc_path [.ret (dI B)] ?_
  simp [w2, w3]
  exact ⟨h4, hle, hle2⟩
end Go.Proofs.YteonapeaaepipaaDoor
end

section
namespace Go.Proofs.YteonapeaaepipaaDoor
open Go Go.Proofs.YteonapeaaepipaaDoor.AL
attribute [local simp] dT_agg dT_nt dT_noTup dT_cells dT_one bs_toList bs_size strV dW_cells dW_agg dW_noTup dSm_cells dSm_agg dSm_noTup dOp_cells dOp_agg dOp_noTup dWs_cells dWs_one dWs_agg dWs_noTup dWs_nt
attribute [local simp] dW_nt dP_cells dP_agg dP_noTup dOld_cells dOld_agg dOld_noTup dOld_one
set_option maxRecDepth 8000
set_option maxHeartbeats 4000000
theorem pB_eq {s : Sm} {p t d k : Int} (h : pE s p t d k = 0) : pB s p t d k = decide ((sinN ((k + 1) * d) s.w : Int) < stN s p t) := by simp [pB, h]
theorem mul_le_end {d k : Int} (m1 : 1 ≤ d) (m3 : 0 ≤ k) (m5 : (k + 1) * d ≤ 1099511627776) (m6 : k * d ≤ (k + 1) * d) : k ≤ 1099511627776 := by
  have := Int.mul_le_mul_of_nonneg_left m1 m3
  rw [Int.mul_one] at this
  omega
theorem past (s : Sm) (p t d k : Int) : PCall Tryd.prog 16 [dSm s, dP p, dI t, dI d, dI k] (.ret (.tup [dI (pI s p t d k), dB (pB s p t d k), dI (pE s p t d k)])) := by
  refine pcall_of_vc hCu c16 (by simp [a16]) fun hr => ?_
  have h1 := CCu.st s p t
  have h2 := CCu.right d k
  simp [a16]
  by_cases q : errP s p t ≠ 0
  · have e0 : pE s p t d k ≠ 0 := by simp [pE, q]
    have e1 : pE s p t d k = errP s p t := by simp [pE, q]
    have e2 : pB s p t d k = false := by simp [pB, e0]
    have e3 : pI s p t d k = 0 := by simp [pI, e2]
    rw [e2, e3, e1]
    generalize errP s p t = e at q h1
    generalize stN s p t = n at h1
    refine vc_path [.ret (.tup [dI n, dI e])] ?_
    simp [q]
    exact h1
  have q : errP s p t = 0 := by omega
  obtain ⟨f0, _, _⟩ := errP_ok q
  obtain ⟨f1, _, _, f4⟩ := eSm_ok f0
  rw [q] at h1
  cases g : chR d k
  · have e1 : pE s p t d k = 230 := by simp [pE, q, g]
    have e2 : pB s p t d k = false := by simp [pB, e1]
    have e3 : pI s p t d k = 0 := by simp [pI, e2]
    rw [g] at h2
    rw [e1, e2, e3]
    generalize stN s p t = n at h1
    refine vc_path [.ret (.tup [dI n, dI 0])] ?_
    simp
    refine ⟨h1, ?_⟩
    refine vc_path [.ret (dB false)] ?_
    simp
    exact h2
  rw [g] at h2
  obtain ⟨m1, m2, m3, m4, m5, m6⟩ := chR_ok g
  have hkd := mul_le_end m1 m3 m5 m6
  have e1 : pE s p t d k = 0 := by simp [pE, q, g]
  have e2 := pB_eq e1
  have h4 := CCu.since ((k + 1) * d) s.w f4 f1
  have e3 : pI s p t d k = if pB s p t d k = true then (sinN ((k + 1) * d) s.w : Int) else 0 := rfl
  have w2 : IntKind.i64.wrap (k + 1) = k + 1 := wrap64 (by omega)
  have w3 : IntKind.i64.wrap ((k + 1) * d) = (k + 1) * d := wrap64 (by omega)
  rw [e1, e3, e2]
  generalize stN s p t = n at *
  generalize sinN ((k + 1) * d) s.w = B at *
  refine vc_path [.ret (.tup [dI n, dI 0])] ?_
  simp
  refine ⟨h1, ?_⟩
  refine vc_path [.ret (dB true)] ?_
  simp
  refine ⟨h2, ?_⟩
  refine vc_path [.ret (dI B)] ?_
  simp [w2, w3]
  refine ⟨h4, fun h => ?_, fun h => ?_⟩
  · have hn : ¬ (B : Int) < n := by omega
    exact ⟨leD_of_eq (by simp [hn]), leD_of_eq (by simp [hn])⟩
  · exact ⟨leD_of_eq (by simp [h]), leD_of_eq (by simp [h])⟩
end Go.Proofs.YteonapeaaepipaaDoor
end

section
namespace Go.Proofs.YteonapeaaepipaaDoor
open Go Go.Proofs.YteonapeaaepipaaDoor.AL
attribute [local simp] dT_agg dT_nt dT_noTup dT_cells dT_one bs_toList bs_size strV dW_cells dW_agg dW_noTup dSm_cells dSm_agg dSm_noTup dOp_cells dOp_agg dOp_noTup dWs_cells dWs_one dWs_agg dWs_noTup dWs_nt
attribute [local simp] dW_nt dP_cells dP_agg dP_noTup dOld_cells dOld_agg dOld_noTup dOld_one
set_option maxRecDepth 8000
set_option maxHeartbeats 4000000
theorem rright23 (d k : Int) : PCall Tryd.prog 46 [dI d, dI k] (.ret (dB (chR d k))) := by
  refine pcall_of_vc noC c46 (by simp [a46]) fun hr => ?_
  simp [a46]
  refine vc_path [] ?_
  simp [chR]
  refine ⟨fun q1 => ⟨fun q2 => ⟨fun q3 => ⟨by omega, ?_⟩, fun q3 => leD_of_eq (by simp [show ¬ 0 ≤ k by omega])⟩, fun q2 => leD_of_eq (by simp [show ¬ d ≤ 1073741824 by omega])⟩, fun q1 => leD_of_eq (by simp [show ¬ 1 ≤ d by omega])⟩
  have h1 : 0 ≤ Int.tdiv 1099511627776 d ∧ Int.tdiv 1099511627776 d ≤ 1099511627776 := by
    rw [Int.tdiv_eq_ediv_of_nonneg (by decide)]
    exact ⟨Int.ediv_nonneg (by decide) (by omega), Int.ediv_le_self _ (by decide)⟩
  rw [wrap64 (n := Int.tdiv 1099511627776 d) (by omega)]
  refine leD_of_eq ?_
  have : decide (k < Int.tdiv 1099511627776 d) = decide (k ≤ Int.tdiv 1099511627776 d - 1) := by congr 1; exact propext (by omega)
  simp [q1, q2, q3, this]
inductive CRu : FuncId → List D → Out → Prop
  | ck (s : Sm) : CRu 45 [dSm s] (.ret (dI (eSm s)))
  | right (d k : Int) : CRu 46 [dI d, dI k] (.ret (dB (chR d k)))
  | st (s : Sm) (p t : Int) : CRu 48 [dSm s, dP p, dI t] (.ret (.tup [dI (stN s p t), dI (errP s p t)]))
theorem hRu : ∀ f ds out, CRu f ds out → PCall Tryd.prog f ds out := by
  intro f ds out h
  cases h with
  | ck s => exact rcheck s
  | right d k => exact rright23 d k
  | st s p t => exact rstable s p t
theorem rchunk (w : List Wd) (d k : Int) : PCall Tryd.prog 15 [dWs w, dI d, dI k] (.ret (.tup [dWs (ckL w d k), dI (ckA w d k), dI (ckE w d k)])) := by
  refine pcall_of_vc hRu c15 (by simp [a15]) fun hr => ?_
  have h1 := CRu.ck ⟨w, 0⟩
  have h2 := CRu.right d k
  simp [a15, dWs_eq]
  by_cases q : eSm ⟨w, 0⟩ ≠ 0
  · have e0 : ckE w d k ≠ 0 := by simp [ckE, q]
    have e1 : ckE w d k = eSm ⟨w, 0⟩ := by simp [ckE, q]
    have e2 : ckA w d k = 0 := by simp [ckA, e0]
    have e3 : ckL w d k = [] := by simp [ckL, e0]
    rw [e2, e3, e1]
    generalize eSm ⟨w, 0⟩ = e at q h1
    refine vc_path [.ret (dI e)] ?_
    simp [q]
    exact h1
  have q : eSm ⟨w, 0⟩ = 0 := by omega
  rw [q] at h1
  refine vc_path [.ret (dI 0)] ?_
  simp
  refine ⟨h1, ?_⟩
  cases g : chR d k
  · have e1 : ckE w d k = 230 := by simp [ckE, q, g]
    have e2 : ckA w d k = 0 := by simp [ckA, e1]
    have e3 : ckL w d k = [] := by simp [ckL, e1]
    rw [g] at h2
    rw [e1, e2, e3]
    refine vc_path [.ret (dB false)] ?_
    simp
    exact h2
  rw [g] at h2
  obtain ⟨m1, m2, m3, m4, m5, m6⟩ := chR_ok g
  obtain ⟨f1, _, _, f4⟩ := eSm_ok q
  simp only at f1 f4
  have hkd := mul_le_end m1 m3 m5 m6
  have e1 : ckE w d k = 0 := by simp [ckE, q, g]
  have e2 : ckA w d k = sinN (k * d) w := by simp [ckA, e1]
  have e3 : ckL w d k = (w.take (sinN ((k + 1) * d) w)).drop (sinN (k * d) w) := by simp [ckL, e1]
  have hle := sin_mono (l := w) m6
  have hle2 := sin_le ((k + 1) * d) w
  have cA : ∀ i, (h : i < w.length) → (w[i].f < k * d ↔ i < sinN (k * d) w) := fun i h => ⟨fun hf => by
    rcases Nat.lt_or_ge i (sinN (k * d) w) with h' | h'
    · exact h'
    · have := sin_ge f4 h' h; omega, fun hi => sin_lt hi h⟩
  have cB : ∀ i, (h : i < w.length) → (w[i].f < (k + 1) * d ↔ i < sinN ((k + 1) * d) w) := fun i h => ⟨fun hf => by
    rcases Nat.lt_or_ge i (sinN ((k + 1) * d) w) with h' | h'
    · exact h'
    · have := sin_ge f4 h' h; omega, fun hi => sin_lt hi h⟩
  rw [e1, e2, e3]
  generalize sinN (k * d) w = A at *
  generalize sinN ((k + 1) * d) w = B at *
  have w1 : IntKind.i64.wrap (k * d) = k * d := wrap64 (by omega)
  have w2 : IntKind.i64.wrap (k + 1) = k + 1 := wrap64 (by omega)
  have w3 : IntKind.i64.wrap ((k + 1) * d) = (k + 1) * d := wrap64 (by omega)
  refine vc_path [.ret (dB true)] ?_
  simp
  refine ⟨h2, ?_⟩
  refine vc_loopK [0, 1, 2] Nat (fun i => [(12, true, .d (dI i)), (11, true, .d (dI (min i A : Nat))), (10, true, .own 8 5 (((w.take (min i B)).drop A).map dW))]) (fun i => [(8, .row)]) (fun i => i ≤ w.length) (fun i => w.length - i) 0 (by simp) ⟨[], [(8, 5)], ?_⟩ (fun i hi => ?_)
  · simp
  simp
  refine ⟨fun hlt => ?_, fun hge => ?_⟩
  · have a1 := cA i hlt
    have b1 := cB i hlt
    have wi : IntKind.i64.wrap ((i : Int) + 1) = ((i + 1 : Nat) : Int) := wrap64 (by omega)
    simp [hlt, dW, w1, w2, w3]
    have hml : (List.map dW w).length = w.length := List.length_map ..
    have hget : (List.map dW w)[i]'(by rw [hml]; exact hlt) = .agg [dT w[i].t, .lit (.int .i64 w[i].f), .lit (.int .i64 w[i].u), .lit (.int .i64 w[i].s), .sl 1 (List.map dT w[i].a)] := by simp [dW]
    refine ⟨fun g1 => ?_, fun g1 => ⟨fun g2 => ?_, fun g2 => ?_⟩⟩
    · have hi := a1.1 g1
      have e4 : min (i + 1) A = i + 1 := by omega
      have e5 : min i A = i := by omega
      have e6 : List.drop A (List.take (min i B) (List.map dW w)) = [] := List.drop_eq_nil_of_le (by rw [List.length_take, hml]; omega)
      have e7 : List.drop A (List.take (min (i + 1) B) (List.map dW w)) = [] := List.drop_eq_nil_of_le (by rw [List.length_take, hml]; omega)
      refine ⟨i + 1, by omega, by omega, [], [], ?_⟩
      simp [wi, e4, e5, e6, e7]
    · have hi : i < B := b1.1 g2
      have hA : A ≤ i := by
        rcases Nat.lt_or_ge i A with h | h
        · have := a1.2 h; omega
        · exact h
      have e4 : min (i + 1) A = A := by omega
      have e5 : min i A = A := by omega
      have e6 : List.drop A (List.take (min (i + 1) B) (List.map dW w)) = List.drop A (List.take (min i B) (List.map dW w)) ++ [.agg [dT w[i].t, .lit (.int .i64 w[i].f), .lit (.int .i64 w[i].u), .lit (.int .i64 w[i].s), .sl 1 (List.map dT w[i].a)]] := by
        rw [show min (i + 1) B = i + 1 by omega, show min i B = i by omega, List.take_add_one, List.getElem?_eq_getElem (by rw [hml]; exact hlt), hget, List.drop_append, List.length_take, hml, show A - min i w.length = 0 by omega]
        rfl
      refine ⟨⟨by omega, by omega⟩, i + 1, by omega, by omega, [(8, 10)], [], ?_⟩
      simp [wi, e4, e5, e6]
    · have hi : B ≤ i := by
        rcases Nat.lt_or_ge i B with h | h
        · have := b1.2 h; omega
        · exact h
      have e4 : min (i + 1) A = A := by omega
      have e5 : min i A = A := by omega
      have e6 : min (i + 1) B = B := by omega
      have e7 : min i B = B := by omega
      refine ⟨i + 1, by omega, by omega, [], [], ?_⟩
      simp [wi, e4, e5, e6, e7]
  · have hi : i = w.length := by omega
    have e5 : min i A = A := by omega
    have e7 : min i B = B := by omega
    rw [e5, e7]
    exact ⟨LeD.refl _, LeD.refl _⟩
end Go.Proofs.YteonapeaaepipaaDoor
end

section
namespace Go.Proofs.YteonapeaaepipaaDoor
open Go Go.Proofs.YteonapeaaepipaaDoor.AL
attribute [local simp] dT_agg dT_nt dT_noTup dT_cells dT_one bs_toList bs_size strV dW_cells dW_agg dW_noTup dSm_cells dSm_agg dSm_noTup dOp_cells dOp_agg dOp_noTup dWs_cells dWs_one dWs_agg dWs_noTup dWs_nt
attribute [local simp] dW_nt dP_cells dP_agg dP_noTup dOld_cells dOld_agg dOld_noTup dOld_one
set_option maxRecDepth 8000
set_option maxHeartbeats 4000000
theorem rpast (s : Sm) (p t d k : Int) : PCall Tryd.prog 17 [dSm s, dP p, dI t, dI d, dI k] (.ret (.tup [dI (pI s p t d k), dB (pB s p t d k), dI (pE s p t d k)])) := by
  refine pcall_of_vc hRu c17 (by simp [a17]) fun hr => ?_
  have h1 := CRu.st s p t
  have h2 := CRu.right d k
  simp [a17]
  by_cases q : errP s p t ≠ 0
  · have e0 : pE s p t d k ≠ 0 := by simp [pE, q]
    have e1 : pE s p t d k = errP s p t := by simp [pE, q]
    have e2 : pB s p t d k = false := by simp [pB, e0]
    have e3 : pI s p t d k = 0 := by simp [pI, e2]
    rw [e2, e3, e1]
    generalize errP s p t = e at q h1
    generalize stN s p t = n at h1
    refine vc_path [.ret (.tup [dI n, dI e])] ?_
    simp [q]
    exact h1
  have q : errP s p t = 0 := by omega
  obtain ⟨f0, _, _⟩ := errP_ok q
  obtain ⟨f1, _, _, f4⟩ := eSm_ok f0
  rw [q] at h1
  cases g : chR d k
  · have e1 : pE s p t d k = 230 := by simp [pE, q, g]
    have e2 : pB s p t d k = false := by simp [pB, e1]
    have e3 : pI s p t d k = 0 := by simp [pI, e2]
    rw [g] at h2
    rw [e1, e2, e3]
    generalize stN s p t = n at h1
    refine vc_path [.ret (.tup [dI n, dI 0])] ?_
    simp
    refine ⟨h1, ?_⟩
    refine vc_path [.ret (dB false)] ?_
    simp
    exact h2
  rw [g] at h2
  obtain ⟨m1, m2, m3, m4, m5, m6⟩ := chR_ok g
  have hkd := mul_le_end m1 m3 m5 m6
  have e1 : pE s p t d k = 0 := by simp [pE, q, g]
  have e2 := pB_eq e1
  have e3 : pI s p t d k = if pB s p t d k = true then (sinN ((k + 1) * d) s.w : Int) else 0 := rfl
  obtain ⟨_, _, n0, n1⟩ := stN_ok q
  have cB : ∀ i, (h : i < s.w.length) → (s.w[i].f < (k + 1) * d ↔ i < sinN ((k + 1) * d) s.w) := fun i h => ⟨fun hf => by
    rcases Nat.lt_or_ge i (sinN ((k + 1) * d) s.w) with h' | h'
    · exact h'
    · have := sin_ge f4 h' h; omega, fun hi => sin_lt hi h⟩
  have w2 : IntKind.i64.wrap (k + 1) = k + 1 := wrap64 (by omega)
  have w3 : IntKind.i64.wrap ((k + 1) * d) = (k + 1) * d := wrap64 (by omega)
  rw [e1, e3, e2]
  generalize stN s p t = n at *
  generalize sinN ((k + 1) * d) s.w = B at *
  refine vc_path [.ret (.tup [dI n, dI 0])] ?_
  simp
  refine ⟨h1, ?_⟩
  refine vc_path [.ret (dB true)] ?_
  simp
  refine ⟨h2, ?_⟩
  refine vc_loopK [3, 4, 5, 13] Nat (fun i => [(15, true, .d (dI i))]) (fun i => []) (fun i => (i : Int) ≤ n ∧ i ≤ B) (fun i => s.w.length - i) 0 (by simp; omega) ⟨[], [], ?_⟩ (fun i hi => ?_)
  · simp
  obtain ⟨i1, i2⟩ := hi
  simp
  refine ⟨fun hlt => ?_, fun hge => ?_⟩
  · have hlt2 : i < s.w.length := by omega
    have b1 := cB i hlt2
    simp [hlt2, dW, w2, w3]
    refine ⟨fun g1 => ?_, fun g1 => ?_⟩
    · have hB : B = i := by
        rcases Nat.lt_or_ge i B with h | h
        · have := b1.2 h; omega
        · omega
      subst hB
      have hn : (B : Int) < n := by omega
      exact ⟨leD_of_eq (by simp [hn]), leD_of_eq (by simp [hn])⟩
    · have := b1.1 g1
      refine ⟨i + 1, ⟨by omega, by omega⟩, by omega, [], [], ?_⟩
      rw [wrap64 (by omega)]
      simp
  · have hn : ¬ (B : Int) < n := by omega
    exact ⟨leD_of_eq (by simp [hn]), leD_of_eq (by simp [hn])⟩
end Go.Proofs.YteonapeaaepipaaDoor
end

section
namespace Go.Proofs.YteonapeaaepipaaDoor
open Go Go.Proofs.YteonapeaaepipaaDoor.AL
attribute [local simp] dT_agg dT_nt dT_noTup dT_cells dT_one bs_toList bs_size strV dW_cells dW_agg dW_noTup dSm_cells dSm_agg dSm_noTup dOp_cells dOp_agg dOp_noTup dWs_cells dWs_one dWs_agg dWs_noTup dWs_nt
attribute [local simp] dW_nt dP_cells dP_agg dP_noTup dOld_cells dOld_agg dOld_noTup dOld_one
set_option maxRecDepth 8000
set_option maxHeartbeats 4000000
inductive C74a : FuncId → List D → Out → Prop
  | mk (s : Sm) (p t d k : Int) : C74a 16 [dSm s, dP p, dI t, dI d, dI k] (.ret (.tup [dI (pI s p t d k), dB (pB s p t d k), dI (pE s p t d k)]))
theorem h74a : ∀ f ds out, C74a f ds out → PCall Tryd.prog f ds out := by
  intro f ds out h
  cases h with
  | mk s p t d k => exact past s p t d k
theorem past1 (s : Sm) (p t d k : Int) : PCall Tryd.prog 50 [.ip (dSm s), .ip (dP p), .ip (dI t), .ip (dI d), .ip (dI k)] (.ret (.tup [dI (pI s p t d k), dB (pB s p t d k), dI (pE s p t d k)])) := by
  refine pcall_of_vc h74a c50 (by simp [a50]) fun hr => ?_
  have hc := C74a.mk s p t d k
  generalize pI s p t d k = i at *
  generalize pB s p t d k = b at *
  generalize pE s p t d k = e at *
  simp [a50]
  refine vc_path [.ret (.tup [dI i, dB b, dI e])] ?_
  simp
  exact hc
/-- How a source is asked. -/
def dAsk (p t d k : Int) (s : Sm) : D := .fn (.func 50) [] [.ip (dSm s), .ip (dP p), .ip (dI t), .ip (dI d), .ip (dI k)]
theorem dAsk_cells (p t d k : Int) (s : Sm) : (dAsk p t d k s).cells = [dAsk p t d k s] := rfl
theorem dAsk_one (p t d k : Int) (s : Sm) : (dAsk p t d k s).one = true := rfl
theorem dAsk_agg (p t d k : Int) (s : Sm) : (dAsk p t d k s).isAgg = false := rfl
theorem dAsk_nt (p t d k : Int) (s : Sm) : (AV.d (dAsk p t d k s)).noTup = true := rfl
/-- A source. -/
def dSrc (p t d k : Int) (x : Sm × Bool) : D := .agg [dB x.2, dAsk p t d k x.1]
theorem dSrc_cells (p t d k : Int) (x : Sm × Bool) : (dSrc p t d k x).cells = [dB x.2, dAsk p t d k x.1] := rfl
theorem dSrc_agg (p t d k : Int) (x : Sm × Bool) : (dSrc p t d k x).isAgg = true := rfl
theorem dSrc_noTup (p t d k : Int) (x : Sm × Bool) : (AV.d (dSrc p t d k x)).noTup = true := rfl
def dSrcs (p t d k : Int) (l : List (Sm × Bool)) : D := .sl 2 (l.map (dSrc p t d k))
theorem dSrcs_cells (p t d k : Int) (l : List (Sm × Bool)) : (dSrcs p t d k l).cells = [dSrcs p t d k l] := rfl
theorem dSrcs_one (p t d k : Int) (l : List (Sm × Bool)) : (dSrcs p t d k l).one = true := rfl
theorem dSrcs_agg (p t d k : Int) (l : List (Sm × Bool)) : (dSrcs p t d k l).isAgg = false := rfl
theorem dSrcs_noTup (p t d k : Int) (l : List (Sm × Bool)) : (AV.d (dSrcs p t d k l)).noTup = true := rfl
attribute [local simp] dAsk_cells dAsk_one dAsk_agg dAsk_nt dSrc_cells dSrc_agg dSrc_noTup dSrcs_cells dSrcs_one dSrcs_agg dSrcs_noTup
theorem reasons (p t d k : Int) (l : List (Sm × Bool)) : PCall Tryd.prog 51 [dSrcs p t d k l] (.ret (.fn (.func 82) [] [.ip (dSrcs p t d k l)])) := by
  refine pcall_of_vcZ noC c51 (by simp [a51]) fun hr => ?_
  simp [a51]
  done
inductive C74b : FuncId → List D → Out → Prop
  | past (s : Sm) (p t d k : Int) : C74b 16 [dSm s, dP p, dI t, dI d, dI k] (.ret (.tup [dI (pI s p t d k), dB (pB s p t d k), dI (pE s p t d k)]))
  | past0 (p t d k : Int) : C74b 16 [.agg [.nil 5, dI 0], dP p, dI t, dI d, dI k] (.ret (.tup [dI (pI ⟨[], 0⟩ p t d k), dB (pB ⟨[], 0⟩ p t d k), dI (pE ⟨[], 0⟩ p t d k)]))
  | ask (s : Sm) (p t d k : Int) : C74b 50 [.ip (dSm s), .ip (dP p), .ip (dI t), .ip (dI d), .ip (dI k)] (.ret (.tup [dI (pI s p t d k), dB (pB s p t d k), dI (pE s p t d k)]))
  | rs (p t d k : Int) (l : List (Sm × Bool)) : C74b 51 [dSrcs p t d k l] (.ret (.fn (.func 82) [] [.ip (dSrcs p t d k l)]))
theorem h74b : ∀ f ds out, C74b f ds out → PCall Tryd.prog f ds out := by
  intro f ds out h
  cases h with
  | past s p t d k => exact past s p t d k
  | past0 p t d k => exact (past ⟨[], 0⟩ p t d k).le (.cons (LeD.agg (.cons (leD_nil0 _ _) (.cons (LeD.refl _) .nil)) (by simp [D.one])) (.cons (LeD.refl _) (.cons (LeD.refl _) (.cons (LeD.refl _) (.cons (LeD.refl _) .nil)))))
  | ask s p t d k => exact past1 s p t d k
  | rs p t d k l => exact reasons p t d k l
end Go.Proofs.YteonapeaaepipaaDoor
end

section
namespace Go.Proofs.YteonapeaaepipaaDoor
open Go Go.Proofs.YteonapeaaepipaaDoor.AL
attribute [local simp] dT_agg dT_nt dT_noTup dT_cells dT_one bs_toList bs_size strV dW_cells dW_agg dW_noTup dSm_cells dSm_agg dSm_noTup dOp_cells dOp_agg dOp_noTup dWs_cells dWs_one dWs_agg dWs_noTup dWs_nt
attribute [local simp] dW_nt dP_cells dP_agg dP_noTup dOld_cells dOld_agg dOld_noTup dOld_one
attribute [local simp] dAsk_cells dAsk_one dAsk_agg dAsk_nt dSrc_cells dSrc_agg dSrc_noTup dSrcs_cells dSrcs_one dSrcs_agg dSrcs_noTup
set_option maxRecDepth 8000
set_option maxHeartbeats 4000000
theorem pI_nonneg (s : Sm) (p t d k : Int) : 0 ≤ pI s p t d k := by unfold pI; split <;> omega
theorem whyL_take {p t d k : Int} {l : List Sm} {hd : List Bool} {i : Nat} (h : i < l.length) (h' : i < hd.length) : ((whyL p t d k l hd).take (i + 1)).map dI = ((whyL p t d k l hd).take i).map dI ++ [dI (whyOf p t d k (l[i], hd[i]))] := by
  have hlz : i < (l.zip hd).length := by simp; omega
  rw [List.take_add_one]
  simp [whyL, List.getElem?_eq_getElem hlz, List.getElem?_eq_getElem h, List.getElem?_eq_getElem h']
theorem waited_take {hd : List Bool} {i : Nat} (h' : i < hd.length) : waitedN (hd.take (i + 1)) = waitedN (hd.take i) + (if hd[i] = true then 1 else 0) := by
  rw [List.take_add_one, List.getElem?_eq_getElem h']
  simp only [waitedN, List.countP_append, Option.toList, List.countP_cons, List.countP_nil, id]
  omega
theorem passed_take {p t d k : Int} {l : List Sm} {hd : List Bool} {i : Nat} (h : i < l.length) (h' : i < hd.length) : passedN p t d k (l.take (i + 1)) (hd.take (i + 1)) = passedN p t d k (l.take i) (hd.take i) + (if (hd[i] && pB l[i] p t d k) = true then 1 else 0) := by
  have hlz : i < (l.zip hd).length := by simp; omega
  have e : ∀ n, (l.take n).zip (hd.take n) = (l.zip hd).take n := fun n => by simp [List.zip, List.take_zipWith]
  simp only [passedN, e]
  rw [List.take_add_one, List.getElem?_eq_getElem hlz]
  simp only [List.countP_append, Option.toList, List.countP_cons, List.countP_nil, List.getElem_zip]
  omega
theorem fE_step {p t d k : Int} {l : List Sm} {i : Nat} (h : i < l.length) : fE p t d k (l.drop i) = if pE l[i] p t d k = 0 then fE p t d k (l.drop (i + 1)) else pE l[i] p t d k := by
  rw [List.drop_eq_getElem_cons h, fE]
theorem countP_take_le {α : Type} (f : α → Bool) (l : List α) (i : Nat) : (l.take i).countP f ≤ i := Nat.le_trans List.countP_le_length (by simp; omega)
theorem state (l : List Sm) (hd : List Bool) (p t d k due : Int) : PCall Tryd.prog 20 [.sl 2 (l.map dSm), .sl 1 (hd.map dB), dP p, dI t, dI d, dI k, dI due] (.ret (.tup [dI (stV l hd p t d k due), .sl 1 ((stY l hd p t d k due).map dI), dI (stE l hd p t d k due)])) := by
  refine pcall_of_vc h74b c20 (by simp [a20]) fun hr => ?_
  simp [a20]
  refine ⟨fun q1 => ?_, fun q1 => ?_⟩
  · have e1 : stE l hd p t d k due = 2 := by unfold stE; rw [if_pos (by omega)]
    have e2 : stV l hd p t d k due = 0 := by unfold stV; rw [if_neg (by omega)]
    have e3 : stY l hd p t d k due = [] := by unfold stY; rw [if_neg (by omega)]
    rw [e1, e2, e3]
    exact ⟨LeD.refl _, leD_nil0 _ _, LeD.refl _⟩
  obtain ⟨Zs, hZ⟩ : ∃ Zs, Zs = (l.zip hd).map (dSrc p t d k) := ⟨_, rfl⟩
  have hZget : ∀ i, (h : i < l.length) → (h' : i < hd.length) → Zs.take (i + 1) = Zs.take i ++ [.agg [.lit (.bool hd[i]), .fn (.func 50) [] [.ip (.agg [.sl 5 (l[i].w.map dW), .lit (.int .i64 l[i].x)]), .ip (dP p), .ip (.lit (.int .i64 t)), .ip (.lit (.int .i64 d)), .ip (.lit (.int .i64 k))]]] := fun i h h' => by
    have hlz : i < (l.zip hd).length := by simp; omega
    rw [hZ, ← List.map_take, ← List.map_take, List.take_add_one, List.getElem?_eq_getElem hlz]
    simp [dSrc, dAsk, dSm]
  have hZat : ∀ i, (h : i < l.length) → (h' : i < hd.length) → Zs[i]? = some (.agg [.lit (.bool hd[i]), .fn (.func 50) [] [.ip (.agg [.sl 5 (l[i].w.map dW), .lit (.int .i64 l[i].x)]), .ip (dP p), .ip (.lit (.int .i64 t)), .ip (.lit (.int .i64 d)), .ip (.lit (.int .i64 k))]]) := fun i h h' => by
    have hlz : i < (l.zip hd).length := by simp; omega
    rw [hZ, List.getElem?_map, List.getElem?_eq_getElem hlz]
    simp [dSrc, dAsk, dSm]
  have hrs : C74b 51 [.sl 2 Zs] (.ret (.fn (.func 82) [] [.ip (.sl 2 Zs)])) := by rw [hZ]; exact .rs p t d k (l.zip hd)
  refine ⟨fun q2 => ?ga, fun q2 => ⟨fun q3 => ?gb, fun q3 => ?gc⟩⟩
  case ga =>
    have e1 : stE l hd p t d k due = 1 := by unfold stE; rw [if_neg (by omega), if_pos (by omega)]
    have e2 : stV l hd p t d k due = 0 := by unfold stV; rw [if_neg (by omega)]
    have e3 : stY l hd p t d k due = [] := by unfold stY; rw [if_neg (by omega)]
    rw [e1, e2, e3]
    exact ⟨LeD.refl _, leD_nil0 _ _, LeD.refl _⟩
  case' gb =>
    have hc := C74b.past0 p t d k
    by_cases q4 : ¬ pE ⟨[], 0⟩ p t d k = 0
    · have hl : l = [] := by simpa using q3
      have e1 : stE l hd p t d k due = pE ⟨[], 0⟩ p t d k := by unfold stE; rw [if_neg (by omega), if_neg (by omega), if_pos ⟨hl, q4⟩]
      have e2 : stV l hd p t d k due = 0 := by unfold stV; rw [if_neg (by omega)]
      have e3 : stY l hd p t d k due = [] := by unfold stY; rw [if_neg (by omega)]
      rw [e1, e2, e3]
      generalize pI ⟨[], 0⟩ p t d k = i1 at hc
      generalize pB ⟨[], 0⟩ p t d k = b1 at hc
      generalize pE ⟨[], 0⟩ p t d k = e at *
      refine vc_path [.ret (.tup [dI i1, dB b1, dI e])] ?_
      simp [q4]
      exact ⟨hc, rfl⟩
    have q4 : pE ⟨[], 0⟩ p t d k = 0 := by omega
    have hst : ¬ (l = [] ∧ pE ⟨[], 0⟩ p t d k ≠ 0) := fun h => h.2 q4
    rw [q4] at hc
    generalize pI ⟨[], 0⟩ p t d k = i1 at hc
    generalize pB ⟨[], 0⟩ p t d k = b1 at hc
    refine vc_path [.ret (.tup [dI i1, dB b1, dI 0])] ?_
    simp
    refine ⟨hc, ?_⟩
    clear hc q4 q3
    revert hst
  case' gc =>
    have hst : ¬ (l = [] ∧ pE ⟨[], 0⟩ p t d k ≠ 0) := fun h => q3 (by simp [h.1])
    clear q3
    revert hst
  all_goals
    intro hst
    refine vc_loopK [6, 8, 9, 10, 11, 12, 14, 15, 16, 48, 49] Nat (fun i => [(17, true, .own 3 2 (Zs.take i)), (50, true, .d (dI i))]) (fun i => [(3, .row)]) (fun i => i ≤ l.length) (fun i => l.length - i) 0 (by simp) ⟨[], [(3, 2)], ?_⟩ (fun i hi => ?_)
    · simp
    · rcases Nat.lt_or_ge i l.length with hlt | hge
      · have hlt' : i < hd.length := by omega
        have hmi : min i Zs.length ≤ 16 := by omega
        simp [hlt, hlt']
        refine ⟨⟨by omega, by omega⟩, i + 1, by omega, by omega, [(3, 6)], [], ?_⟩
        rw [wrap64 (by omega), hZget i hlt hlt']
        simp
      · have hZl : Zs.length = l.length := by rw [hZ]; simp; omega
        have hil : i = l.length := by omega
        subst hil
        simp
        refine vc_path [.ret (.fn (.func 82) [] [.ip (.sl 2 Zs)])] ?_
        simp
        refine ⟨by rw [List.take_of_length_le (by omega)]; exact hrs, ?_⟩
        refine vc_range (TF Tryd.prog a82) (hcall_of_vc c82) rfl (by rfl) (fun yl => by rfl) (fun yl => ?_)
        simp [a82]
        refine vc_loopK [0, 1, 8, 9] Nat (fun i => [(10, true, .d (dI i))]) (fun i => [(1, .box false [.own 8 1 (((whyL p t d k l hd).take i).map dI)]), (4, .box false [.d (dI (waitedN (hd.take i)))]), (5, .box false [.d (dI (passedN p t d k (l.take i) (hd.take i)))]), (8, .row)]) (fun i => i ≤ l.length ∧ fE p t d k (l.drop i) = fE p t d k l) (fun i => l.length - i) 0 (by simp) ⟨[], [(8, 1)], ?_⟩ (fun i hi => ?_)
        · simp [waitedN, passedN]
          intro x hx; omega
        · obtain ⟨hi, hfe⟩ := hi
          rcases Nat.lt_or_ge i l.length with hlt | hge
          · have hlt' : i < hd.length := by omega
            have hc2 := C74b.ask l[i] p t d k
            obtain ⟨_, hZe⟩ := List.getElem?_eq_some_iff.1 (hZat i hlt hlt')
            simp [hlt, hlt', hZe, hZl]
            generalize hpi : pI l[i] p t d k = n at hc2
            generalize hpb : pB l[i] p t d k = b at hc2
            generalize hpe : pE l[i] p t d k = e at hc2
            refine vc_path [.ret (.tup [dI n, dB b, dI e])] ?_
            simp
            refine ⟨hc2, ?_⟩
            have hwl : (whyL p t d k l hd).length = l.length := by simp [whyL]; omega
            have hmin : min i (whyL p t d k l hd).length = i := by omega
            have f1 := whyL_take (p := p) (t := t) (d := d) (k := k) hlt hlt'
            have f2 := waited_take hlt'
            have f3 := passed_take (p := p) (t := t) (d := d) (k := k) hlt hlt'
            have f4 := fE_step (p := p) (t := t) (d := d) (k := k) hlt
            have f5 : waitedN (hd.take i) ≤ i := countP_take_le _ _ _
            have f6 : passedN p t d k (l.take i) (hd.take i) ≤ i := by
              unfold passedN; rw [show (l.take i).zip (hd.take i) = (l.zip hd).take i by simp [List.zip, List.take_zipWith]]; exact countP_take_le _ _ _
            have f7 := pI_nonneg l[i] p t d k
            unfold whyOf at f1
            rw [hpi] at f7
            rw [hpe] at f4
            rw [hpb] at f3
            simp only [hpb, hpi] at f1
            have hbad : ¬ e = 0 → stE l hd p t d k due = e ∧ stV l hd p t d k due = 0 ∧ stY l hd p t d k due = [] := fun he => by
              rw [if_neg he] at f4
              have e1 : stE l hd p t d k due = e := by unfold stE; rw [if_neg (by omega), if_neg (by omega), if_neg hst, ← hfe, f4, if_pos he]
              exact ⟨e1, by unfold stV; rw [if_neg (by omega)], by unfold stY; rw [if_neg (by omega)]⟩
            have hwp1 : IntKind.i64.wrap ((waitedN (hd.take i) : Int) + 1) = (waitedN (hd.take i) : Int) + 1 := wrap64 (by omega)
            have hwp2 : IntKind.i64.wrap ((passedN p t d k (l.take i) (hd.take i) : Int) + 1) = (passedN p t d k (l.take i) (hd.take i) : Int) + 1 := wrap64 (by omega)
            cases hh : hd[i] <;> cases b
            all_goals
              rw [hh] at f1 f2 f3
              simp at f1 f2 f3
              refine vc_path [] ?_
              simp
              refine regS_path [] ?_
              simp [hmin, hlt', hh, f7]
              refine ⟨fun he => ?_, fun he => ?_⟩
              · obtain ⟨e1, e2, e3⟩ := hbad he
                rw [e1, e2, e3]
                exact ⟨LeD.refl _, leD_nil0 _ _, LeD.refl _⟩
              · rw [if_pos he] at f4
                refine ⟨⟨by omega, by omega⟩, i + 1, ⟨by omega, by rw [← f4]; exact hfe⟩, by omega, [(8, 11)], [], ?_⟩
                rw [wrap64 (by omega)]
                simp [f1, f2, f3, hwp1, hwp2]
                all_goals exact fun x hx => .inr ⟨by rw [if_neg (by omega)]; rfl, by omega⟩
          · have hil : i = l.length := by omega
            subst hil
            have t1 : hd.take l.length = hd := List.take_of_length_le (by omega)
            have t3 : ((whyL p t d k l hd).map dI).take l.length = (whyL p t d k l hd).map dI := List.take_of_length_le (by simp [whyL]; omega)
            have t4 : fE p t d k l = 0 := by rw [← hfe]; simp [fE]
            have hse : stE l hd p t d k due = if 0 ≤ due ∧ due < 1099511627776 then 0 else 1 := by
              unfold stE; rw [if_neg (by omega), if_neg (by omega), if_neg hst, if_neg (by omega)]
            simp [hZl, t1, t3]
            have hv : stV l hd p t d k due = if 0 ≤ due ∧ due < 1099511627776 then (if 0 < waitedN hd ∧ waitedN hd = passedN p t d k l hd then 2 else if due ≤ t then 1 else 0) else 0 := by
              unfold stV; rw [hse]; split <;> simp [*]
            have hy : stY l hd p t d k due = if 0 ≤ due ∧ due < 1099511627776 then whyL p t d k l hd else [] := by
              unfold stY; rw [hse]; split <;> simp [*]
            rw [hse, hv, hy]
            have g1 : waitedN hd ≤ 16 := Nat.le_trans List.countP_le_length (by omega)
            have g2 : passedN p t d k l hd ≤ 16 := Nat.le_trans List.countP_le_length (by simp; omega)
            generalize waitedN hd = W at *
            generalize passedN p t d k l hd = N at *
            generalize whyL p t d k l hd = L at *
            refine vc_path [] ?_
            simp
            refine ⟨fun h1 => ?_, fun h1 => ⟨fun h2 => ?_, fun h2 => ?_⟩⟩
            · have hn : ¬ (0 ≤ due ∧ due < 1099511627776) := by omega
              rw [if_neg hn, if_neg hn, if_neg hn]
              exact ⟨LeD.refl _, leD_nil0 _ _, LeD.refl _⟩
            · have hn : ¬ (0 ≤ due ∧ due < 1099511627776) := by omega
              rw [if_neg hn, if_neg hn, if_neg hn]
              exact ⟨LeD.refl _, leD_nil0 _ _, LeD.refl _⟩
            · have hn : 0 ≤ due ∧ due < 1099511627776 := ⟨h1, h2⟩
              rw [if_pos hn, if_pos hn, if_pos hn]
              refine vc_path [] ?_
              simp
              refine ⟨fun w1 => ⟨fun w2 => ⟨rfl, ?_⟩, fun w2 => ⟨fun w3 => ⟨rfl, ?_⟩, fun w3 => ⟨rfl, ?_⟩⟩⟩, fun w1 => ⟨fun w3 => ⟨rfl, ?_⟩, fun w3 => ⟨rfl, ?_⟩⟩⟩
              · rw [if_pos ⟨w1, by omega⟩]; exact LeD.refl _
              · rw [if_neg (by omega), if_pos w3]; exact LeD.refl _
              · rw [if_neg (by omega), if_neg (by omega)]; exact LeD.refl _
              · rw [if_neg (by omega), if_pos w3]; exact LeD.refl _
              · rw [if_neg (by omega), if_neg (by omega)]; exact LeD.refl _
end Go.Proofs.YteonapeaaepipaaDoor
end

section
namespace Go.Proofs.YteonapeaaepipaaDoor
open Go Go.Proofs.YteonapeaaepipaaDoor.AL
attribute [local simp] dT_agg dT_nt dT_noTup dT_cells dT_one bs_toList bs_size strV dW_cells dW_agg dW_noTup dSm_cells dSm_agg dSm_noTup dOp_cells dOp_agg dOp_noTup dWs_cells dWs_one dWs_agg dWs_noTup dWs_nt
attribute [local simp] dW_nt dP_cells dP_agg dP_noTup dOld_cells dOld_agg dOld_noTup dOld_one
set_option maxRecDepth 8000
set_option maxHeartbeats 4000000
inductive C76 : FuncId → List D → Out → Prop
  | past (s : Sm) (p t d k : Int) : C76 17 [dSm s, dP p, dI t, dI d, dI k] (.ret (.tup [dI (pI s p t d k), dB (pB s p t d k), dI (pE s p t d k)]))
  | past0 (p t d k : Int) : C76 17 [.agg [.nil 5, dI 0], dP p, dI t, dI d, dI k] (.ret (.tup [dI (pI ⟨[], 0⟩ p t d k), dB (pB ⟨[], 0⟩ p t d k), dI (pE ⟨[], 0⟩ p t d k)]))
theorem h76 : ∀ f ds out, C76 f ds out → PCall Tryd.prog f ds out := by
  intro f ds out h
  cases h with
  | past s p t d k => exact rpast s p t d k
  | past0 p t d k => exact (rpast ⟨[], 0⟩ p t d k).le (.cons (LeD.agg (.cons (leD_nil0 _ _) (.cons (LeD.refl _) .nil)) (by simp [D.one])) (.cons (LeD.refl _) (.cons (LeD.refl _) (.cons (LeD.refl _) (.cons (LeD.refl _) .nil)))))
theorem passed_le {p t d k : Int} {l : List Sm} {hd : List Bool} (h : hd.length = l.length) : ∀ i, i ≤ l.length → passedN p t d k (l.take i) (hd.take i) ≤ waitedN (hd.take i)
  | 0, _ => by simp [passedN]
  | i + 1, hi => by
    have ih := passed_le (p := p) (t := t) (d := d) (k := k) h i (by omega)
    rw [passed_take (by omega) (by omega), waited_take (by omega)]
    cases hd[i] <;> cases pB l[i] p t d k <;> simp <;> omega
theorem rstate (l : List Sm) (hd : List Bool) (p t d k due : Int) : PCall Tryd.prog 21 [.sl 2 (l.map dSm), .sl 1 (hd.map dB), dP p, dI t, dI d, dI k, dI due] (.ret (.tup [dI (stV l hd p t d k due), .sl 1 ((stY l hd p t d k due).map dI), dI (stE l hd p t d k due)])) := by
  refine pcall_of_vc h76 c21 (by simp [a21]) fun hr => ?_
  simp [a21]
  refine ⟨fun q1 => ?_, fun q1 => ⟨fun q2 => ?_, fun q2 => ?_⟩⟩
  · have e1 : stE l hd p t d k due = 2 := by unfold stE; rw [if_pos (by omega)]
    have e2 : stV l hd p t d k due = 0 := by unfold stV; rw [if_neg (by omega)]
    have e3 : stY l hd p t d k due = [] := by unfold stY; rw [if_neg (by omega)]
    rw [e1, e2, e3]
    exact ⟨LeD.refl _, leD_nil0 _ _, LeD.refl _⟩
  · have e1 : stE l hd p t d k due = 1 := by unfold stE; rw [if_neg (by omega), if_pos (by omega)]
    have e2 : stV l hd p t d k due = 0 := by unfold stV; rw [if_neg (by omega)]
    have e3 : stY l hd p t d k due = [] := by unfold stY; rw [if_neg (by omega)]
    rw [e1, e2, e3]
    exact ⟨LeD.refl _, leD_nil0 _ _, LeD.refl _⟩
  have hc := C76.past0 p t d k
  obtain ⟨e0, he0⟩ : ∃ e0, e0 = pE ⟨[], 0⟩ p t d k := ⟨_, rfl⟩
  rw [← he0] at hc
  generalize pI ⟨[], 0⟩ p t d k = i1 at hc
  generalize pB ⟨[], 0⟩ p t d k = b1 at hc
  refine vc_path [.ret (.tup [dI i1, dB b1, dI e0])] ?_
  simp
  refine ⟨hc, ?_⟩
  refine vc_path [] ?_
  simp
  refine ⟨fun g1 => ⟨fun g2 => ?ga, fun g2 => ?gb⟩, fun g1 => ?gc⟩
  case ga =>
    have e1 : stE l hd p t d k due = e0 := by unfold stE; rw [if_neg (by omega), if_neg (by omega), ← he0, if_pos ⟨by simpa using g1, g2⟩]
    have e2 : stV l hd p t d k due = 0 := by unfold stV; rw [if_neg (by omega)]
    have e3 : stY l hd p t d k due = [] := by unfold stY; rw [if_neg (by omega)]
    rw [e1, e2, e3]
    exact ⟨LeD.refl _, leD_nil0 _ _, LeD.refl _⟩
  case' gb =>
    have hst : ¬ (l = [] ∧ pE ⟨[], 0⟩ p t d k ≠ 0) := fun h => h.2 (by omega)
  case' gc =>
    have hst : ¬ (l = [] ∧ pE ⟨[], 0⟩ p t d k ≠ 0) := fun h => g1 (by simp [h.1])
  all_goals
    refine vc_loopK [0, 1, 3, 4, 5, 6, 9] Nat (fun i => [(20, true, .own 1 1 (((whyL p t d k l hd).take i).map dI)), (21, true, .d (dB (decide (0 < waitedN (hd.take i))))), (22, true, .d (dB (decide (waitedN (hd.take i) = passedN p t d k (l.take i) (hd.take i))))), (23, true, .d (dI i))]) (fun i => [(1, .row)]) (fun i => i ≤ l.length ∧ fE p t d k (l.drop i) = fE p t d k l) (fun i => l.length - i) 0 (by simp) ⟨[], [(1, 1)], ?_⟩ (fun i hi => ?_)
    · simp [waitedN, passedN]
      done
    · obtain ⟨hi, hfe⟩ := hi
      rcases Nat.lt_or_ge i l.length with hlt | hge
      · have hlt' : i < hd.length := by omega
        have hc2 := C76.past l[i] p t d k
        simp [hlt, hlt']
        have hwl : (whyL p t d k l hd).length = l.length := by simp [whyL]; omega
        have hmin : min i (whyL p t d k l hd).length = i := by omega
        have f1 := whyL_take (p := p) (t := t) (d := d) (k := k) hlt hlt'
        have f2 := waited_take hlt'
        have f3 := passed_take (p := p) (t := t) (d := d) (k := k) hlt hlt'
        have f4 := fE_step (p := p) (t := t) (d := d) (k := k) hlt
        have f5 := passed_le (p := p) (t := t) (d := d) (k := k) (l := l) (hd := hd) (by omega) i hi
        unfold whyOf at f1
        generalize hpi : pI l[i] p t d k = n at *
        generalize hpb : pB l[i] p t d k = b at *
        generalize hpe : pE l[i] p t d k = e at *
        have hbad : ¬ e = 0 → stE l hd p t d k due = e ∧ stV l hd p t d k due = 0 ∧ stY l hd p t d k due = [] := fun he => by
          rw [if_neg he] at f4
          have e1 : stE l hd p t d k due = e := by unfold stE; rw [if_neg (by omega), if_neg (by omega), if_neg hst, ← hfe, f4, if_pos he]
          exact ⟨e1, by unfold stV; rw [if_neg (by omega)], by unfold stY; rw [if_neg (by omega)]⟩
        refine vc_pathD [.ret (.tup [dI n, dB b, dI e])] ?_
        simp [hlt]
        refine ⟨hc2, rfl, ?_⟩
        refine ⟨fun he => ?_, fun he => ?_⟩
        · obtain ⟨e1, e2, e3⟩ := hbad he
          rw [e1, e2, e3]
          exact ⟨LeD.refl _, leD_nil0 _ _, LeD.refl _⟩
        rw [if_pos he] at f4
        have hfe' : fE p t d k (l.drop (i + 1)) = fE p t d k l := by rw [← f4]; exact hfe
        have g1' : decide (0 < waitedN (hd.take (i + 1))) = (decide (0 < waitedN (hd.take i)) || hd[i]) := by rw [f2]; cases hd[i] <;> simp
        have g2' : decide (waitedN (hd.take (i + 1)) = passedN p t d k (l.take (i + 1)) (hd.take (i + 1))) = (decide (waitedN (hd.take i) = passedN p t d k (l.take i) (hd.take i)) && (b || !hd[i])) := by rw [f2, f3]; cases hd[i] <;> cases b <;> simp <;> omega
        have hw2 : IntKind.i64.wrap ((i : Int) + 1) = (i : Int) + 1 := wrap64 (by omega)
        clear f2 f3 f5 hbad
        generalize decide (0 < waitedN (hd.take i)) = Bs at *
        generalize decide (waitedN (hd.take i) = passedN p t d k (l.take i) (hd.take i)) = Ba at *
        cases hh : hd[i] <;> cases b <;> cases Bs <;> cases Ba
        all_goals
          rw [hh] at f1 g1' g2'
          simp at f1
          refine vc_path [] ?_
          simp [hlt', hh, hmin]
          refine ⟨by omega, ?_⟩
          refine vc_path [] ?_
          simp [hlt', hh]
          refine vc_path [] ?_
          simp [hlt', hh]
          refine ⟨i + 1, ⟨by omega, hfe'⟩, by omega, [(1, 3)], [], ?_⟩
          rw [hw2, g1', g2']
          simp [f1]
      · have hil : i = l.length := by omega
        subst hil
        have t1 : hd.take l.length = hd := List.take_of_length_le (by omega)
        have t3 : ((whyL p t d k l hd).map dI).take l.length = (whyL p t d k l hd).map dI := List.take_of_length_le (by simp [whyL]; omega)
        have t4 : fE p t d k l = 0 := by rw [← hfe]; simp [fE]
        have hse : stE l hd p t d k due = if 0 ≤ due ∧ due < 1099511627776 then 0 else 1 := by
          unfold stE; rw [if_neg (by omega), if_neg (by omega), if_neg hst, if_neg (by omega)]
        have hv : stV l hd p t d k due = if 0 ≤ due ∧ due < 1099511627776 then (if 0 < waitedN hd ∧ waitedN hd = passedN p t d k l hd then 2 else if due ≤ t then 1 else 0) else 0 := by
          unfold stV; rw [hse]; split <;> simp [*]
        have hy : stY l hd p t d k due = if 0 ≤ due ∧ due < 1099511627776 then whyL p t d k l hd else [] := by
          unfold stY; rw [hse]; split <;> simp [*]
        simp [t1, t3]
        rw [hse, hv, hy]
        generalize waitedN hd = W at *
        generalize passedN p t d k l hd = N at *
        generalize whyL p t d k l hd = L at *
        refine vc_path [] ?_
        simp
        refine ⟨fun h1 => ?_, fun h1 => ⟨fun h2 => ?_, fun h2 => ?_⟩⟩
        · have hn : ¬ (0 ≤ due ∧ due < 1099511627776) := by omega
          rw [if_neg hn, if_neg hn, if_neg hn]
          exact ⟨LeD.refl _, leD_nil0 _ _, LeD.refl _⟩
        · have hn : ¬ (0 ≤ due ∧ due < 1099511627776) := by omega
          rw [if_neg hn, if_neg hn, if_neg hn]
          exact ⟨LeD.refl _, leD_nil0 _ _, LeD.refl _⟩
        · have hn : 0 ≤ due ∧ due < 1099511627776 := ⟨h1, h2⟩
          rw [if_pos hn, if_pos hn, if_pos hn]
          refine vc_path [] ?_
          simp
          refine ⟨fun w1 => ⟨fun w2 => ?_, fun w2 => ⟨fun w3 => ?_, fun w3 => ?_⟩⟩, fun w1 => ⟨fun w3 => ?_, fun w3 => ?_⟩⟩
          · rw [if_pos ⟨w1, by omega⟩]; exact LeD.refl _
          · rw [if_neg (by omega), if_pos w3]; exact LeD.refl _
          · rw [if_neg (by omega), if_neg (by omega)]; exact LeD.refl _
          · rw [if_neg (by omega), if_pos w3]; exact LeD.refl _
          · rw [if_neg (by omega), if_neg (by omega)]; exact LeD.refl _
end Go.Proofs.YteonapeaaepipaaDoor
end

section
namespace Go.Proofs.YteonapeaaepipaaDoor
open Go Go.Proofs.YteonapeaaepipaaDoor.AL
attribute [local simp] dT_agg dT_nt dT_noTup dT_cells dT_one bs_toList bs_size strV dW_cells dW_agg dW_noTup dSm_cells dSm_agg dSm_noTup dOp_cells dOp_agg dOp_noTup dWs_cells dWs_one dWs_agg dWs_noTup dWs_nt
attribute [local simp] dW_nt dP_cells dP_agg dP_noTup dOld_cells dOld_agg dOld_noTup dOld_one
set_option maxRecDepth 8000
set_option maxHeartbeats 4000000
theorem same23 (a b : List Int) : PCall Tryd.prog 22 [.sl 1 (a.map dI), .sl 1 (b.map dI)] (.ret (dB (decide (a = b)))) := by
  refine pcall_of_vc noC c22 (by simp [a22]) fun hr => ?_
  have hla : a.length ≤ 9223372036854775807 := by simpa using (hr (.sl 1 (a.map dI)) (by simp)).sl.1
  simp [a22]
  refine ⟨fun h => leD_of_eq (by have : ¬ a = b := (by rintro rfl; exact h rfl); simp [this]), fun h => ?_⟩
  refine vc_loopK [0, 1] Nat (fun i => [(5, true, .d (dI i))]) (fun i => []) (fun i => i ≤ a.length ∧ a.take i = b.take i) (fun i => a.length - i) 0 (by simp) ⟨[], [], ?_⟩ (fun i hi => ?_)
  · simp
  · obtain ⟨hi, he⟩ := hi
    rcases Nat.lt_or_ge i a.length with hlt | hge
    · have hlt' : i < b.length := by omega
      simp [hlt, hlt']
      refine ⟨rfl, fun hne => leD_of_eq ?_, fun heq => ⟨i + 1, ⟨by omega, ?_⟩, by omega, [], [], ?_⟩⟩
      · have : ¬ a = b := by rintro rfl; exact hne rfl
        simp [this]
      · rw [List.take_add_one, List.take_add_one, he]; simp [List.getElem?_eq_getElem, hlt, hlt', heq]
      · rw [wrap64 (by omega)]; simp
    · have hil : i = a.length := by omega
      simp [hil]
      have : a = b := by rw [hil, List.take_length, List.take_of_length_le (by omega)] at he; exact he
      exact leD_of_eq (by simp [this])
def few23B (l : List Sm) (hd : List Bool) : Bool := ((l.take 30).all fun s => decide (s.w.length ≤ 30)) && ((decide (l.length ≤ 6) || (decide (16 < l.length) && decide (l.length ≤ 20))) && decide (hd.length ≤ 30))
theorem few23 (l : List Sm) (hd : List Bool) : PCall Tryd.prog 19 [.sl 2 (l.map dSm), .sl 1 (hd.map dB)] (.ret (dB (few23B l hd))) := by
  refine pcall_of_vc noC c19 (by simp [a19]) fun hr => ?_
  simp [a19]
  refine vc_loopK [0, 1] Nat (fun i => [(5, true, .d (dI i))]) (fun i => []) (fun i => i ≤ 30 ∧ (l.take i).all (fun s => decide (s.w.length ≤ 30)) = true) (fun i => 30 - i) 0 (by simp) ⟨[], [], ?_⟩ (fun i hi => ?_)
  · simp
  · obtain ⟨hi, he⟩ := hi
    have hend : l.take 30 = l.take i → few23B l hd = ((decide (l.length ≤ 6) || (decide (16 < l.length) && decide (l.length ≤ 20))) && decide (hd.length ≤ 30)) := fun h => by rw [few23B, h, he]; rfl
    by_cases hlt : i < l.length ∧ i < 30
    · obtain ⟨h1, h2⟩ := hlt
      simp
      refine vc_path [] ?_
      simp [h1, show (i : Int) < 30 by omega]
      refine ⟨fun h => leD_of_eq ?_, fun h => ?_⟩
      · have : ((l.take 30).all fun s => decide (s.w.length ≤ 30)) = false := by
          rw [List.all_eq_false]
          exact ⟨l[i], List.mem_take_iff_getElem.2 ⟨i, by omega, rfl⟩, by simp; omega⟩
        simp [few23B, this]
      · have hall : ((l.take (i + 1)).all fun s => decide (s.w.length ≤ 30)) = true := by
          rw [List.take_add_one, List.all_append, he, List.getElem?_eq_getElem h1, Bool.true_and]
          exact List.all_eq_true.2 (fun x hx => by simp at hx; subst hx; simp; omega)
        refine ⟨i + 1, ⟨by omega, by simpa using hall⟩, by omega, [], [], ?_⟩
        rw [wrap64 (by omega)]; simp
    · simp
      refine vc_path [] ?_
      have hh := hend (by
        rcases Nat.lt_or_ge i 30 with h | h
        · rw [List.take_of_length_le (by omega), List.take_of_length_le (by omega)]
        · rw [show i = 30 by omega])
      rw [hh]
      by_cases g : i < l.length
      · simp [g, show ¬ (i : Int) < 30 by omega]
        refine vc_path [] ?_
        simp
        refine ⟨fun q => ?_, fun q => ⟨fun q2 => ⟨fun q3 => ?_, fun q3 => ?_⟩, fun q2 => ?_⟩⟩
        all_goals
          refine leD_of_eq (congrArg (fun b => D.lit (.bool b)) ?_)
          rw [Bool.eq_iff_iff]
          simp
          omega
      · simp [g]
        refine vc_path [] ?_
        simp
        refine ⟨fun q => ?_, fun q => ⟨fun q2 => ⟨fun q3 => ?_, fun q3 => ?_⟩, fun q2 => ?_⟩⟩
        all_goals
          refine leD_of_eq (congrArg (fun b => D.lit (.bool b)) ?_)
          rw [Bool.eq_iff_iff]
          simp
          omega
end Go.Proofs.YteonapeaaepipaaDoor
end

section
namespace Go.Proofs.YteonapeaaepipaaDoor
open Go Go.Proofs.YteonapeaaepipaaDoor.AL
attribute [local simp] dT_agg dT_nt dT_noTup dT_cells dT_one bs_toList bs_size strV dW_cells dW_agg dW_noTup dSm_cells dSm_agg dSm_noTup dOp_cells dOp_agg dOp_noTup dWs_cells dWs_one dWs_agg dWs_noTup dWs_nt
attribute [local simp] dW_nt dP_cells dP_agg dP_noTup dOld_cells dOld_agg dOld_noTup dOld_one
set_option maxRecDepth 20000
set_option maxHeartbeats 8000000
def wd23 (u : Int) : Wd := ⟨[119], u, u + 10, 0, []⟩
theorem word23 (u : Int) (hu : 0 ≤ u ∧ u ≤ 100000) : PCall Tryd.prog 42 [dI u] (.ret (dW (wd23 u))) := by
  refine pcall_of_vc noC c42 (by simp [a42]) fun hr => ?_
  have hw : IntKind.i64.wrap (u + 10) = u + 10 := wrap64 (by omega)
  simp [a42, hw]
  refine LeD.agg (.cons (LeD.refl _) (.cons (LeD.refl _) (.cons (LeD.refl _) (.cons (LeD.refl _) (.cons (LeD.nil 1) .nil))))) (by simp)
/-- The contracts that the laws use. -/
inductive C78a : FuncId → List D → Out → Prop
  | word (u : Int) (hu : 0 ≤ u ∧ u ≤ 100000) : C78a 42 [dI u] (.ret (dW (wd23 u)))
  | ck (w : List Wd) (d k : Int) : C78a 14 [dWs w, dI d, dI k] (.ret (.tup [dWs (ckL w d k), dI (ckA w d k), dI (ckE w d k)]))
  | rck (w : List Wd) (d k : Int) : C78a 15 [dWs w, dI d, dI k] (.ret (.tup [dWs (ckL w d k), dI (ckA w d k), dI (ckE w d k)]))
  | pa (s : Sm) (p t d k : Int) : C78a 16 [dSm s, dP p, dI t, dI d, dI k] (.ret (.tup [dI (pI s p t d k), dB (pB s p t d k), dI (pE s p t d k)]))
  | rpa (s : Sm) (p t d k : Int) : C78a 17 [dSm s, dP p, dI t, dI d, dI k] (.ret (.tup [dI (pI s p t d k), dB (pB s p t d k), dI (pE s p t d k)]))
  | st (l : List Sm) (hd : List Bool) (p t d k due : Int) : C78a 20 [.sl 2 (l.map dSm), .sl 1 (hd.map dB), dP p, dI t, dI d, dI k, dI due] (.ret (.tup [dI (stV l hd p t d k due), .sl 1 ((stY l hd p t d k due).map dI), dI (stE l hd p t d k due)]))
  | stA (l : List Sm) (hd : List Bool) (p t d k due : Int) : C78a 20 [.sl 2 (l.map dSm), .sl 1 (hd.map dB), dP p, dI t, dI d, dI k, dI due] (.ret (.tup [dI (stV l hd p t d k due), .any, dI (stE l hd p t d k due)]))
  | rst (l : List Sm) (hd : List Bool) (p t d k due : Int) : C78a 21 [.sl 2 (l.map dSm), .sl 1 (hd.map dB), dP p, dI t, dI d, dI k, dI due] (.ret (.tup [dI (stV l hd p t d k due), .sl 1 ((stY l hd p t d k due).map dI), dI (stE l hd p t d k due)]))
  | same (a b : List Int) : C78a 22 [.sl 1 (a.map dI), .sl 1 (b.map dI)] (.ret (dB (decide (a = b))))
  | few (l : List Sm) (hd : List Bool) : C78a 19 [.sl 2 (l.map dSm), .sl 1 (hd.map dB)] (.ret (dB (few23B l hd)))
  | sw (x y : List Wd) : C78a 18 [dWs x, dWs y] (.ret (dB (decide (x = y))))
  | sck (s : Sm) : C78a 23 [dSm s] (.ret (dI (eSm s)))
  | al (s : Sm) (p t : Int) (o : Op) : C78a 24 [dSm s, dP p, dI t, dOp o] (.ret (.tup [dB (alW s p t o), dI (errP s p t)]))
  | do_ (s : Sm) (o : Op) : C78a 25 [dSm s, dOp o] (.ret (.tup [dSm (doX s o), dI (doE s o)]))
inductive C78 : FuncId → List D → Out → Prop
  | mk {f : FuncId} {ds ds' : List D} {out : Out} (h : C78a f ds' out) (hl : All2 LeD ds ds') : C78 f ds out
theorem PCall.leR {f : FuncId} {ds : List D} {d d' : D} (h : PCall Tryd.prog f ds (.ret d)) (hl : LeD d d') : PCall Tryd.prog f ds (.ret d') := by
  refine ⟨h.1, fun I w vals hI hgl hr => Calls.mono (h.2 I w vals hI hgl hr) fun e w' hR => ?_⟩
  obtain ⟨I', v', k1, k2, k3, k4, k5⟩ := hR
  cases e with
  | returned v => exact ⟨I', v', k1, k2, k3, k4, k5.1, hl _ _ _ k5.2⟩
  | panicked ch => simp [OutR] at k5
  | outgrown => simp [OutR] at k5
theorem h78 : ∀ f ds out, C78 f ds out → PCall Tryd.prog f ds out := by
  intro f ds out h
  cases h with
  | mk h hl =>
    refine AL.PCall.le ?_ hl
    cases h with
    | word u hu => exact word23 u hu
    | ck w d k => exact chunk w d k
    | rck w d k => exact rchunk w d k
    | pa s p t d k => exact past s p t d k
    | rpa s p t d k => exact rpast s p t d k
    | st l hd p t d k due => exact state l hd p t d k due
    | stA l hd p t d k due => exact PCall.leR (state l hd p t d k due) (LeD.tup (.cons (LeD.refl _) (.cons (LeD.any rfl) (.cons (LeD.refl _) .nil))))
    | rst l hd p t d k due => exact rstate l hd p t d k due
    | same a b => exact same23 a b
    | few l hd => exact few23 l hd
    | sw x y => exact rSW x y
    | sck s => exact Check s
    | al s p t o => exact allowed s p t o
    | do_ s o => exact Do s o
theorem C78.of {f : FuncId} {ds : List D} {out : Out} (h : C78a f ds out) : C78 f ds out := .mk h (all2_refl LeD.refl _)
theorem C78.ck' {w L : List Wd} {d k A E : Int} (h : ckL w d k = L ∧ ckA w d k = A ∧ ckE w d k = E) {ds : List D} (hl : All2 LeD ds [dWs w, dI d, dI k]) : C78 14 ds (.ret (.tup [dWs L, dI A, dI E])) := by
  have := C78.mk (C78a.ck w d k) hl; rw [h.1, h.2.1, h.2.2] at this; exact this
theorem C78.pa' {s : Sm} {p t d k i e : Int} {b : Bool} (h : pI s p t d k = i ∧ pB s p t d k = b ∧ pE s p t d k = e) {ds : List D} (hl : All2 LeD ds [dSm s, dP p, dI t, dI d, dI k]) : C78 16 ds (.ret (.tup [dI i, dB b, dI e])) := by
  have := C78.mk (C78a.pa s p t d k) hl; rw [h.1, h.2.1, h.2.2] at this; exact this
theorem C78.st' {l : List Sm} {hd : List Bool} {p t d k due v e : Int} {y : List Int} (h : stV l hd p t d k due = v ∧ stY l hd p t d k due = y ∧ stE l hd p t d k due = e) {ds : List D} (hl : All2 LeD ds [.sl 2 (l.map dSm), .sl 1 (hd.map dB), dP p, dI t, dI d, dI k, dI due]) : C78 20 ds (.ret (.tup [dI v, .sl 1 (y.map dI), dI e])) := by
  have := C78.mk (C78a.st l hd p t d k due) hl; rw [h.1, h.2.1, h.2.2] at this; exact this
theorem C78.same' {a b : List Int} (h : a = b) {ds : List D} (hl : All2 LeD ds [.sl 1 (a.map dI), .sl 1 (b.map dI)]) : C78 22 ds (.ret (dB true)) := by
  have := C78.mk (C78a.same a b) hl; rw [decide_eq_true h] at this; exact this
theorem C78.sw' {x y : List Wd} (h : x = y) {ds : List D} (hl : All2 LeD ds [dWs x, dWs y]) : C78 18 ds (.ret (dB true)) := by
  have := C78.mk (C78a.sw x y) hl; rw [decide_eq_true h] at this; exact this
def sw23 : List Wd := [wd23 900, wd23 1000, wd23 1999, wd23 2000]
def one23 : Sm := ⟨sw23, 4⟩
def two23 : Sm := ⟨sw23, 0⟩
theorem sv1 : ckL sw23 1000 1 = [wd23 1000, wd23 1999] ∧ ckA sw23 1000 1 = 1 ∧ ckE sw23 1000 1 = 0 := by decide
theorem sv2 : ckL [] 1000 0 = [] ∧ ckA [] 1000 0 = 0 ∧ ckE [] 1000 0 = 0 := by decide
theorem sv3 : ckL [] 0 0 = [] ∧ ckA [] 0 0 = 0 ∧ ckE [] 0 0 = 230 := by decide
theorem sv4 : pI one23 500 2100 1000 1 = 3 ∧ pB one23 500 2100 1000 1 = true ∧ pE one23 500 2100 1000 1 = 0 := by decide
theorem sv5 : pI two23 500 2100 1000 1 = 0 ∧ pB two23 500 2100 1000 1 = false ∧ pE two23 500 2100 1000 1 = 0 := by decide
theorem sv6 : stV [one23, two23] [true, false] 500 2100 1000 1 5000 = 2 ∧ stY [one23, two23] [true, false] 500 2100 1000 1 5000 = [3, -1] ∧ stE [one23, two23] [true, false] 500 2100 1000 1 5000 = 0 := by decide
theorem sv7 : stV [one23, two23] [true, true] 500 2100 1000 1 5000 = 0 ∧ stY [one23, two23] [true, true] 500 2100 1000 1 5000 = [3, -1] ∧ stE [one23, two23] [true, true] 500 2100 1000 1 5000 = 0 := by decide
theorem sv8 : stV [one23, two23] [true, true] 500 2100 1000 1 2100 = 1 ∧ stY [one23, two23] [true, true] 500 2100 1000 1 2100 = [3, -1] ∧ stE [one23, two23] [true, true] 500 2100 1000 1 2100 = 0 := by decide
theorem sv9 : stV [] [] 0 5 1000 0 9 = 0 ∧ stY [] [] 0 5 1000 0 9 = [] ∧ stE [] [] 0 5 1000 0 9 = 0 := by decide
theorem sv10 : stV [] [] 0 9 1000 0 9 = 1 ∧ stY [] [] 0 9 1000 0 9 = [] ∧ stE [] [] 0 9 1000 0 9 = 0 := by decide
theorem sv11 : stV [] [true] 0 9 1000 0 9 = 0 ∧ stY [] [true] 0 9 1000 0 9 = [] ∧ stE [] [true] 0 9 1000 0 9 = 1 := by decide
theorem sv12 : stV [] [] 0 9 1000 0 (-1) = 0 ∧ stY [] [] 0 9 1000 0 (-1) = [] ∧ stE [] [] 0 9 1000 0 (-1) = 1 := by decide
end Go.Proofs.YteonapeaaepipaaDoor
end

section
namespace Go.Proofs.YteonapeaaepipaaDoor
open Go Go.Proofs.YteonapeaaepipaaDoor.AL
attribute [local simp] dT_agg dT_nt dT_noTup dT_cells dT_one bs_toList bs_size strV dW_cells dW_agg dW_noTup dSm_cells dSm_agg dSm_noTup dOp_cells dOp_agg dOp_noTup dWs_cells dWs_one dWs_agg dWs_noTup dWs_nt
attribute [local simp] dW_nt dP_cells dP_agg dP_noTup dOld_cells dOld_agg dOld_noTup dOld_one
set_option maxRecDepth 20000
set_option maxHeartbeats 8000000
theorem sane23 : PCall Tryd.prog 13 [] (.ret (dB true)) := by
  refine pcall_of_vc h78 c13 (by simp [a13]) fun hr => ?_
  simp [a13]
  refine vc_path [.ret (dW (wd23 900)), .ret (dW (wd23 1000)), .ret (dW (wd23 1999)), .ret (dW (wd23 2000))] ?_
  simp
  refine ⟨.of (.word 900 (by omega)), .of (.word 1000 (by omega)), .of (.word 1999 (by omega)), .of (.word 2000 (by omega)), ?_⟩
  have R : ∀ l : List D, All2 LeD l l := all2_refl LeD.refl
  refine vc_path [.ret (.tup [dWs [wd23 1000, wd23 1999], dI 1, dI 0])] ?_
  simp
  refine ⟨.ck' (w := sw23) sv1 (R _), ?_⟩
  refine vc_path [.ret (.tup [dWs [], dI 0, dI 0])] ?_
  simp
  refine ⟨.ck' sv2 (.cons (leD_nil0 _ _) (R _)), ?_⟩
  refine vc_path [.ret (.tup [dWs [], dI 0, dI 230])] ?_
  simp
  refine ⟨.ck' sv3 (.cons (leD_nil0 _ _) (R _)), ?_⟩
  refine vc_path [.ret (.tup [dI 3, dB true, dI 0])] ?_
  simp
  refine ⟨.pa' (s := one23) sv4 (R _), ?_⟩
  refine vc_path [.ret (.tup [dI 0, dB false, dI 0])] ?_
  simp
  refine ⟨.pa' (s := two23) sv5 (R _), ?_⟩
  refine vc_path [.ret (.tup [dI 2, .sl 1 (([3, -1] : List Int).map dI), dI 0])] ?_
  simp
  refine ⟨.st' (l := [one23, two23]) (hd := [true, false]) sv6 (R _), ?_⟩
  refine vc_path [.ret (.tup [dI 0, .sl 1 (([3, -1] : List Int).map dI), dI 0])] ?_
  simp
  refine ⟨.st' (l := [one23, two23]) (hd := [true, true]) sv7 (R _), ?_⟩
  refine vc_path [.ret (.tup [dI 1, .sl 1 (([3, -1] : List Int).map dI), dI 0])] ?_
  simp
  refine ⟨.st' (l := [one23, two23]) (hd := [true, true]) sv8 (R _), ?_⟩
  refine vc_path [.ret (.tup [dI 0, .sl 1 (([] : List Int).map dI), dI 0])] ?_
  simp
  refine ⟨.st' (l := []) (hd := []) sv9 (.cons (leD_nil0 _ _) (.cons (leD_nil0 _ _) (R _))), ?_⟩
  refine vc_path [.ret (.tup [dI 1, .sl 1 (([] : List Int).map dI), dI 0])] ?_
  simp
  refine ⟨.st' (l := []) (hd := []) sv10 (.cons (leD_nil0 _ _) (.cons (leD_nil0 _ _) (R _))), ?_⟩
  refine vc_path [.ret (.tup [dI 0, .sl 1 (([] : List Int).map dI), dI 1])] ?_
  simp
  refine ⟨.st' (l := []) (hd := [true]) sv11 (.cons (leD_nil0 _ _) (R _)), ?_⟩
  refine vc_path [.ret (.tup [dI 0, .sl 1 (([] : List Int).map dI), dI 1])] ?_
  simp
  refine ⟨.st' (l := []) (hd := []) sv12 (.cons (leD_nil0 _ _) (.cons (leD_nil0 _ _) (R _))), ?_⟩
  refine vc_path [] ?_
  simp (config := { maxSteps := 10000000 })
  refine vc_path [.ret (dB true), .ret (dB true), .ret (dB true)] ?_
  simp [dWs_eq]
  refine ⟨.sw' (x := [wd23 1000, wd23 1999]) (y := [wd23 1000, wd23 1999]) rfl (R _), .same' (a := [3, -1]) (b := [3, -1]) rfl (R _), ?_⟩
  refine vc_path [] ?_
  simp
end Go.Proofs.YteonapeaaepipaaDoor
end

section
namespace Go.Proofs.YteonapeaaepipaaDoor
open Go Go.Proofs.YteonapeaaepipaaDoor.AL
attribute [local simp] dT_agg dT_nt dT_noTup dT_cells dT_one bs_toList bs_size strV dW_cells dW_agg dW_noTup dSm_cells dSm_agg dSm_noTup dOp_cells dOp_agg dOp_noTup dWs_cells dWs_one dWs_agg dWs_noTup dWs_nt
attribute [local simp] dW_nt dP_cells dP_agg dP_noTup dOld_cells dOld_agg dOld_noTup dOld_one
set_option maxRecDepth 20000
set_option maxHeartbeats 8000000
inductive C80 : FuncId → List D → Out → Prop
  | sane : C80 13 [] (.ret (dB true))
  | of {f : FuncId} {ds : List D} {out : Out} (h : C78 f ds out) : C80 f ds out
theorem h80 : ∀ f ds out, C80 f ds out → PCall Tryd.prog f ds out := by
  intro f ds out h
  cases h with
  | sane => exact sane23
  | of h => exact h78 _ _ _ h
theorem C80.a {f : FuncId} {ds : List D} {out : Out} (h : C78a f ds out) : C80 f ds out := .of (.of h)
theorem settledSpec (s : Sm) (p t d k : Int) : PCall Tryd.prog 3 [dSm s, dP p, dI t, dI d, dI k] (.ret (dB true)) := by
  refine pcall_of_vc h80 c3 (by simp [a3]) fun hr => ?_
  simp [a3]
  refine vc_path [.ret (dB true)] ?_
  simp
  refine ⟨.sane, fun _ => ?_⟩
  have h1 := C78a.ck s.w d k
  have h2 := C78a.rck s.w d k
  have h3 := C78a.pa s p t d k
  have h4 := C78a.rpa s p t d k
  have h5 := C78a.sw (ckL s.w d k) (ckL s.w d k)
  simp only [decide_true] at h5
  generalize ckL s.w d k = L at *
  generalize ckA s.w d k = A at *
  generalize ckE s.w d k = E at *
  generalize pI s p t d k = I at *
  generalize pB s p t d k = B at *
  generalize pE s p t d k = F at *
  refine vc_path [.ret (.tup [dWs L, dI A, dI E])] ?_
  simp
  refine ⟨.a h1, ?_⟩
  refine vc_path [.ret (.tup [dWs L, dI A, dI E])] ?_
  simp
  refine ⟨.a h2, ?_⟩
  refine vc_path [.ret (.tup [dI I, dB B, dI F])] ?_
  simp
  refine ⟨.a h3, ?_⟩
  refine vc_path [.ret (.tup [dI I, dB B, dI F])] ?_
  simp
  refine ⟨.a h4, ?_⟩
  refine vc_path [.ret (dB true)] ?_
  simp
  exact .a h5
theorem settledStateSpec (l : List Sm) (hd : List Bool) (p t d k due : Int) : PCall Tryd.prog 4 [.sl 2 (l.map dSm), .sl 1 (hd.map dB), dP p, dI t, dI d, dI k, dI due] (.ret (dB true)) := by
  refine pcall_of_vc h80 c4 (by simp [a4]) fun hr => ?_
  simp [a4]
  refine vc_path [.ret (dB true)] ?_
  simp
  refine ⟨.sane, ?_⟩
  have h1 := C78a.few l hd
  cases hf : few23B l hd
  · rw [hf] at h1
    refine vc_path [.ret (dB false)] ?_
    simp
    exact .a h1
  · rw [hf] at h1
    refine vc_path [.ret (dB true)] ?_
    simp
    refine ⟨.a h1, ?_⟩
    have h2 := C78a.st l hd p t d k due
    have h3 := C78a.rst l hd p t d k due
    have h4 := C78a.same (stY l hd p t d k due) (stY l hd p t d k due)
    simp only [decide_true] at h4
    generalize stV l hd p t d k due = V at *
    generalize stY l hd p t d k due = Y at *
    generalize stE l hd p t d k due = E at *
    refine vc_path [.ret (.tup [dI V, .sl 1 (Y.map dI), dI E])] ?_
    simp
    refine ⟨.a h2, ?_⟩
    refine vc_path [.ret (.tup [dI V, .sl 1 (Y.map dI), dI E])] ?_
    simp
    refine ⟨.a h3, ?_⟩
    refine vc_path [.ret (dB true)] ?_
    simp
    exact .a h4
end Go.Proofs.YteonapeaaepipaaDoor
end

section
namespace Go.Proofs.YteonapeaaepipaaDoor
open Go Go.Proofs.YteonapeaaepipaaDoor.AL
noncomputable def fsOf (t : TypeId) : Array Field := match Tryd.prog.underlying t with
  | some (.struct fs) => fs
  | _ => #[]
noncomputable def fld (t : TypeId) (i : Nat) : Field := (fsOf t).getD i ⟨ "", 0, 0, false, "", "", 0⟩
theorem uWd : Tryd.prog.underlying 46 = some (.struct #[fld 46 0, fld 46 1, fld 46 2, fld 46 3, fld 46 4]) := by kernel_rfl
theorem uSm : Tryd.prog.underlying 24 = some (.struct #[fld 24 0, fld 24 1]) := by kernel_rfl
theorem uOp : Tryd.prog.underlying 51 = some (.struct #[fld 51 0, fld 51 1, fld 51 2, fld 51 3]) := by kernel_rfl
theorem uInt : Tryd.prog.underlying 3 = some (.int .i64) := by kernel_rfl
theorem uBool : Tryd.prog.underlying 4 = some .bool := by kernel_rfl
theorem uStr : Tryd.prog.underlying 9 = some .string := by kernel_rfl
theorem uStrs : Tryd.prog.underlying 44 = some (.slice 9) := by kernel_rfl
theorem uWds : Tryd.prog.underlying 22 = some (.slice 46) := by kernel_rfl
theorem zInt : Tryd.prog.cellsOf 3 = 1 := by kernel_rfl
theorem zStr : Tryd.prog.cellsOf 9 = 1 := by kernel_rfl
theorem zStrs : Tryd.prog.cellsOf 44 = 1 := by kernel_rfl
theorem zWds : Tryd.prog.cellsOf 22 = 1 := by kernel_rfl
theorem zWd : Tryd.prog.cellsOf 46 = 5 := by kernel_rfl
theorem zSm : Tryd.prog.cellsOf 24 = 2 := by kernel_rfl
theorem zOp : Tryd.prog.cellsOf 51 = 4 := by kernel_rfl
section
variable {H : Type} {enc : TypeId × Value → H} {w : World}
theorem shI : Shows enc Tryd.prog w 3 dI := shows_int uInt
theorem shT : Shows enc Tryd.prog w 9 dT := shows_str uStr
theorem shTs : Shows enc Tryd.prog w 44 (fun l : List (List UInt8) => .sl 1 (l.map dT)) := shows_slice uStrs zStr (fun _ => rfl) (fun y c hc => by simp [dT, D.cells] at hc; subst hc; rfl) shT
theorem shW : Shows enc Tryd.prog w 46 dW := shows_map (shows_structN uWd (by rw [zWd]; kernel_rfl)
  (showsR_cons (t := 9) (off' := 1) (by kernel_rfl) (by kernel_rfl) (by rw [zStr]) shT (showsR_cons (t := 3) (off' := 2) (by kernel_rfl) (by kernel_rfl) (by rw [zInt]) shI (showsR_cons (t := 3) (off' := 3) (by kernel_rfl) (by kernel_rfl) (by rw [zInt]) shI
  (showsR_cons (t := 3) (off' := 4) (by kernel_rfl) (by kernel_rfl) (by rw [zInt]) shI (showsR_cons (t := 44) (off' := 5) (by kernel_rfl) (by kernel_rfl) (by rw [zStrs]) shTs showsR_nil)))))) (fun y => ⟨⟨y.1, y.2.1, y.2.2.1, y.2.2.2.1, y.2.2.2.2.1⟩, rfl⟩)
theorem shWs : Shows enc Tryd.prog w 22 (fun l : List Wd => .sl 5 (l.map dW)) := shows_slice uWds zWd (fun _ => rfl) (fun y c hc => by simp [dW, D.cells] at hc; rcases hc with rfl | rfl | rfl | rfl | rfl <;> rfl) shW
theorem shSm : Shows enc Tryd.prog w 24 dSm := shows_map (shows_structN uSm (by rw [zSm]; kernel_rfl)
  (showsR_cons (t := 22) (off' := 1) (by kernel_rfl) (by kernel_rfl) (by rw [zWds]) shWs (showsR_cons (t := 3) (off' := 2) (by kernel_rfl) (by kernel_rfl) (by rw [zInt]) shI showsR_nil))) (fun y => ⟨⟨y.1, y.2.1⟩, rfl⟩)
theorem shOp : Shows enc Tryd.prog w 51 dOp := shows_map (shows_structN uOp (by rw [zOp]; kernel_rfl)
  (showsR_cons (t := 3) (off' := 1) (by kernel_rfl) (by kernel_rfl) (by rw [zInt]) shI (showsR_cons (t := 3) (off' := 2) (by kernel_rfl) (by kernel_rfl) (by rw [zInt]) shI (showsR_cons (t := 3) (off' := 3) (by kernel_rfl) (by kernel_rfl) (by rw [zInt]) shI
  (showsR_cons (t := 22) (off' := 4) (by kernel_rfl) (by kernel_rfl) (by rw [zWds]) shWs showsR_nil))))) (fun y => ⟨⟨y.1, y.2.1, y.2.2.1, y.2.2.2.1⟩, rfl⟩)
end
theorem one_Sm (n : Sm) : ∀ c ∈ (dSm n).cells, c.one = true := by
  intro c hc
  simp [dSm, D.cells] at hc
  rcases hc with rfl | rfl <;> rfl
theorem one_Op (n : Op) : ∀ c ∈ (dOp n).cells, c.one = true := by
  intro c hc
  simp [dOp, D.cells] at hc
  rcases hc with rfl | rfl | rfl | rfl <;> rfl
theorem sSm : Sees Tryd.prog 24 (fun x => ∃ n : Sm, x = dSm n) := sees_agg (by rw [uSm]) shSm (fun _ => rfl) one_Sm
theorem sOp : Sees Tryd.prog 51 (fun x => ∃ n : Op, x = dOp n) := sees_agg (by rw [uOp]) shOp (fun _ => rfl) one_Op
theorem sWs : Sees Tryd.prog 22 (fun x => ∃ l : List Wd, x = .sl 5 (l.map dW)) := sees_slice uWds shWs
theorem sI : Sees Tryd.prog 3 (fun x => ∃ n : Int, (IntKind.i64.min ≤ n ∧ n ≤ IntKind.i64.max) ∧ x = .lit (.int .i64 n)) := sees_int uInt
end Go.Proofs.YteonapeaaepipaaDoor
end

section
namespace Go.Proofs.YteonapeaaepipaaDoor
open Go Go.Proofs.YteonapeaaepipaaDoor.AL
theorem uPm : Tryd.prog.underlying 26 = some (.struct #[fld 26 0]) := by kernel_rfl
theorem zPm : Tryd.prog.cellsOf 26 = 1 := by kernel_rfl
theorem uSms : Tryd.prog.underlying 35 = some (.slice 24) := by kernel_rfl
theorem uBs : Tryd.prog.underlying 36 = some (.slice 4) := by kernel_rfl
theorem zBool : Tryd.prog.cellsOf 4 = 1 := by kernel_rfl
theorem uEv3 : Tryd.prog.underlying 54 = some (.struct #[fld 54 0, fld 54 1, fld 54 2]) := by kernel_rfl
theorem uEv3s : Tryd.prog.underlying 49 = some (.slice 54) := by kernel_rfl
theorem uU16 : Tryd.prog.underlying 52 = some (.int .u16) := by kernel_rfl
theorem zEv3 : Tryd.prog.cellsOf 54 = 6 := by kernel_rfl
theorem zU16 : Tryd.prog.cellsOf 52 = 1 := by kernel_rfl
/-- An op of a source, some time after the one before. -/
structure Ev3 where
  s : Int
  a : Int
  o : Op
def dEv3 (e : Ev3) : D := .agg [.lit (.int .u16 e.s), .lit (.int .u16 e.a), dI e.o.k, dI e.o.a, dI e.o.c, dWs e.o.w]
def Ev3B : Type := {e : Ev3 // (0 ≤ e.s ∧ e.s ≤ 65535) ∧ (0 ≤ e.a ∧ e.a ≤ 65535)}
section
variable {H : Type} {enc : TypeId × Value → H} {w : World}
theorem shows_u16 {P : Program} {t : TypeId} (ht : P.underlying t = some (.int .u16)) : Shows enc P w t (fun n : {x : Int // 0 ≤ x ∧ x ≤ 65535} => .lit (.int .u16 n.1)) := by
  intro fuel cs x h
  obtain ⟨n, rfl, _, hw⟩ := DataW.trod_int ht h
  have hw' : 0 ≤ n ∧ n ≤ 65535 := by simpa [Lit.wf, IntKind.min, IntKind.max, IntKind.signed, IntKind.bits] using hw
  refine ⟨⟨n, hw'⟩, repL_one (.lit ?_)⟩
  simpa [Sc, Lit.wf] using hw
theorem shPm : Shows enc Tryd.prog w 26 dP := shows_map (shows_structN uPm (by rw [zPm]; kernel_rfl)
  (showsR_cons (t := 3) (off' := 1) (by kernel_rfl) (by kernel_rfl) (by rw [zInt]) shI showsR_nil)) (fun y => ⟨y.1, rfl⟩)
theorem shSms : Shows enc Tryd.prog w 35 (fun l : List Sm => .sl 2 (l.map dSm)) := shows_slice uSms zSm (fun _ => rfl) one_Sm shSm
theorem shBs : Shows enc Tryd.prog w 36 (fun l : List Bool => .sl 1 (l.map dB)) := shows_slice uBs zBool (fun _ => rfl) (fun y c hc => by simp [D.cells] at hc; subst hc; rfl) (shows_bool uBool)
theorem shEv3 : Shows enc Tryd.prog w 54 (fun z : Ev3B => dEv3 z.1) := shows_map (shows_structN uEv3 (by rw [zEv3]; kernel_rfl)
  (showsR_cons (t := 52) (off' := 1) (by kernel_rfl) (by kernel_rfl) (by rw [zU16]) (shows_u16 uU16) (showsR_cons (t := 52) (off' := 2) (by kernel_rfl) (by kernel_rfl) (by rw [zU16]) (shows_u16 uU16) (showsR_cons (t := 51) (off' := 6) (by kernel_rfl) (by kernel_rfl) (by rw [zOp]) shOp showsR_nil)))) (fun y => ⟨⟨⟨y.1.1, y.2.1.1, y.2.2.1⟩, y.1.2, y.2.1.2⟩, rfl⟩)
theorem shEv3s : Shows enc Tryd.prog w 49 (fun l : List Ev3B => .sl 6 (l.map fun z => dEv3 z.1)) := shows_slice uEv3s zEv3 (fun _ => rfl) (fun y c hc => by simp [dEv3, D.cells] at hc; rcases hc with rfl | rfl | rfl | rfl | rfl | rfl <;> rfl) shEv3
end
theorem sPm : Sees Tryd.prog 26 (fun x => ∃ p : Int, x = dP p) := sees_agg (by rw [uPm]) shPm (fun _ => rfl) (fun p c hc => by simp [dP, D.cells] at hc; subst hc; rfl)
theorem sSms : Sees Tryd.prog 35 (fun x => ∃ l : List Sm, x = .sl 2 (l.map dSm)) := sees_slice uSms shSms
theorem sBs : Sees Tryd.prog 36 (fun x => ∃ l : List Bool, x = .sl 1 (l.map dB)) := sees_slice uBs shBs
theorem sEv3s : Sees Tryd.prog 49 (fun x => ∃ l : List Ev3B, x = .sl 6 (l.map fun z => dEv3 z.1)) := sees_slice uEv3s shEv3s
end Go.Proofs.YteonapeaaepipaaDoor
end

section
namespace Go.Proofs.YteonapeaaepipaaDoor
open Go Go.Proofs.YteonapeaaepipaaDoor.AL Go.ChangeShapes Go.WideShapes Go.ChangeAt Go.RowKit Go.Lib Go.Shelf
theorem own : ownKnob Tryd.prog.godebug = none := by kernel_rfl
theorem laidOut : laidOutB Tryd.prog = true := by kernel_rfl
theorem ip_of {w : World} {cs : List D} {g : Nat} (h : ∀ (k : Nat) (c : D), cs[k]? = some c → ∃ v, w.cell? ⟨g, k, none⟩ = some v ∧ c = .lit v ∧ Sc v) : Rep (allI w) w (.ip (.agg cs)) (.pointer (some ⟨g, 0, none⟩)) := by
  have ha : ∀ k, (⟨g, 0, none⟩ : Addr).add k = ⟨g, k, none⟩ := fun k => by
    cases k <;> simp [Addr.add]
  refine .ip ⟨g, 0, none⟩ (fun k => (w.cell? ⟨g, k, none⟩).getD (.bool false)) ?_ ?_ ?_
  · intro c hc
    obtain ⟨k, hk⟩ := List.mem_iff_getElem?.1 hc
    obtain ⟨v, _, rfl, _⟩ := h k c hk
    rfl
  · intro k c hk
    obtain ⟨v, hv, _, _⟩ := h k c hk
    rw [ha]
    exact ⟨by simp [allI, hv], by simp [hv]⟩
  · intro k c hk
    obtain ⟨v, hv, rfl, hs⟩ := h k c hk
    simp only [hv, Option.getD_some]
    exact .lit hs
theorem sc_first (c : Nat) : Sc (.int .u8 (firstT c)) := by
  have h := firstT_cases c
  simp only [Sc, IntKind.min, IntKind.max]
  rcases h with h | h | h | h | h | h | h | h | h <;> rw [h] <;> decide
theorem sc_lo (i : Nat) : Sc (.int .u8 (accLo i)) := by
  have h : accLo i ≤ 255 := by
    unfold accLo
    repeat' split
    all_goals omega
  exact ⟨by simp [IntKind.min, IntKind.signed], by simp [IntKind.max, IntKind.signed, IntKind.bits]; omega⟩
theorem sc_hi (i : Nat) : Sc (.int .u8 (accHi i)) := by
  have h : accHi i ≤ 255 := by
    unfold accHi
    repeat' split
    all_goals omega
  exact ⟨by simp [IntKind.min, IntKind.signed], by simp [IntKind.max, IntKind.signed, IntKind.bits]; omega⟩
theorem pairs_get (lo hi : Nat → D) : ∀ (n b k : Nat) (c : D), ((List.range' b n).flatMap fun i => [lo i, hi i])[k]? = some c →
    ∃ i, b ≤ i ∧ i < b + n ∧ ((k = 2 * (i - b) ∧ c = lo i) ∨ (k = 2 * (i - b) + 1 ∧ c = hi i))
  | 0, b, k, c, h => by simp at h
  | n + 1, b, 0, c, h => by
    simp [List.range'_succ] at h
    exact ⟨b, by omega, by omega, .inl ⟨by omega, h.symm⟩⟩
  | n + 1, b, 1, c, h => by
    simp [List.range'_succ] at h
    exact ⟨b, by omega, by omega, .inr ⟨by omega, h.symm⟩⟩
  | n + 1, b, k + 2, c, h => by
    simp only [List.range'_succ, List.flatMap_cons, List.cons_append, List.nil_append, List.getElem?_cons_succ] at h
    obtain ⟨i, h1, h2, h3⟩ := pairs_get lo hi n (b + 1) k c h
    refine ⟨i, by omega, by omega, ?_⟩
    rcases h3 with ⟨h3, h4⟩ | ⟨h3, h4⟩
    · exact .inl ⟨by omega, h4⟩
    · exact .inr ⟨by omega, h4⟩
/-- The variables' cells make the contract's premise. -/
theorem glOk_of {W : World} (h : Lib.Utf8Tabs 0 1 W) : GlOk (allI W) W := by
  intro p hp
  simp only [glbTab, List.mem_cons, List.not_mem_nil, or_false] at hp
  rcases hp with rfl | rfl
  · refine ip_of fun k c hk => ?_
    rw [List.getElem?_map] at hk
    obtain ⟨j, hj, rfl⟩ := Option.map_eq_some_iff.1 hk
    obtain ⟨hl, he⟩ := List.getElem?_eq_some_iff.1 hj
    simp at hl he
    subst he
    exact ⟨_, h.1 _ hl, rfl, sc_first _⟩
  · refine ip_of fun k c hk => ?_
    rw [List.range_eq_range'] at hk
    obtain ⟨i, _, h2, h3⟩ := pairs_get _ _ 16 0 k c hk
    have hi := h.2 i (by omega)
    rcases h3 with ⟨rfl, rfl⟩ | ⟨rfl, rfl⟩
    · exact ⟨_, hi.1, rfl, sc_lo _⟩
    · exact ⟨_, hi.2, rfl, sc_hi _⟩
noncomputable def laidWorld (os : Os) : World :=
  let w0 := World.holding Tryd.prog os ⟨#[], #[], []⟩
  let put (h : Array Obj) (g : Nat) (cs : Array Value) : Array Obj := h.modify g fun
    | .cells _ t frozen => .cells cs t frozen
    | o => o
  let h1 := put w0.heap 0 (Lib.firstTab.map fun z => Value.int .u8 z).toArray
  let h2 := put h1 1 ((List.range 16).flatMap fun i => [Value.int .u8 (Lib.accLo i), Value.int .u8 (Lib.accHi i)]).toArray
  { w0 with heap := h2 }
theorem uU8 : Tryd.prog.underlying 5 = some (.int .u8) := by kernel_rfl
theorem sU8 : Sees Tryd.prog 5 (fun x => ∃ n : Int, (IntKind.u8.min ≤ n ∧ n ≤ IntKind.u8.max) ∧ x = .lit (.int .u8 n)) := sees_int uU8
end Go.Proofs.YteonapeaaepipaaDoor
end
