/- Part of the proof: S76, S77, S78, S79, S80, S83, S85, S60, S82, S62, S84. -/
import Derived.Test.YteonapeaaepipaaDoorCards
import Derived.Test.YteonapeaaepipaaDoorTie
import Derived.Deep.DeepHandedRow
import Derived.Deep.DeepWitnessRowRef
import Derived.Lib.LaidIn
import Derived.Lib.LaidU8
import Derived.ProofKit
import Derived.SizedLaws
import Derived.PinnedBridge
import Derived.SevenTiedAt
import Derived.Test.YteonapeaaepipaaDoorH
set_option linter.unnecessarySimpa false
set_option linter.unusedVariables false
set_option linter.unusedSimpArgs false
section
namespace Go.Proofs.YteonapeaaepipaaDoor
open Go Go.Proofs.YteonapeaaepipaaDoor.AL
attribute [local simp] dT_agg dT_nt dT_noTup dT_cells dT_one bs_toList bs_size strV dW_cells dW_agg dW_noTup dSm_cells dSm_agg dSm_noTup dOp_cells dOp_agg dOp_noTup dWs_cells dWs_one dWs_agg dWs_noTup dWs_nt
attribute [local simp] dW_nt dP_cells dP_agg dP_noTup dOld_cells dOld_agg dOld_noTup dOld_one
set_option maxRecDepth 8000
set_option maxHeartbeats 4000000
inductive C76 : FuncId → List D → Out → Prop
  | past (s : Sm) (p t d k : Int) : C76 17 [dSm s, dP p, dI t, dI d, dI k] (.ret (.tup [dI (pI s p t d k), dB (pB s p t d k), dI (pE s p t d k)]))
  | past0 (p t d k : Int) : C76 17 [.agg [.nil 5, dI 0], dP p, dI t, dI d, dI k] (.ret (.tup [dI (pI ⟨[], 0⟩ p t d k), dB (pB ⟨[], 0⟩ p t d k), dI (pE ⟨[], 0⟩ p t d k)]))
theorem h76 : ∀ f ds out, C76 f ds out → PCall Tryd.prog f ds out := by
  intro f ds out h
  cases h with
  | past s p t d k => exact rpast s p t d k
  | past0 p t d k => exact (rpast ⟨[], 0⟩ p t d k).le (.cons (LeD.agg (.cons (leD_nil0 _ _) (.cons (LeD.refl _) .nil)) (by simp [D.one])) (.cons (LeD.refl _) (.cons (LeD.refl _) (.cons (LeD.refl _) (.cons (LeD.refl _) .nil)))))
theorem passed_le {p t d k : Int} {l : List Sm} {hd : List Bool} (h : hd.length = l.length) : ∀ i, i ≤ l.length → passedN p t d k (l.take i) (hd.take i) ≤ waitedN (hd.take i)
  | 0, _ => by simp [passedN]
  | i + 1, hi => by
    have ih := passed_le (p := p) (t := t) (d := d) (k := k) h i (by omega)
    rw [passed_take (by omega) (by omega), waited_take (by omega)]
    cases hd[i] <;> cases pB l[i] p t d k <;> simp <;> omega
theorem rstate (l : List Sm) (hd : List Bool) (p t d k due : Int) : PCall Tryd.prog 21 [.sl 2 (l.map dSm), .sl 1 (hd.map dB), dP p, dI t, dI d, dI k, dI due] (.ret (.tup [dI (stV l hd p t d k due), .sl 1 ((stY l hd p t d k due).map dI), dI (stE l hd p t d k due)])) := by
  refine pcall_of_vc h76 c21 (by simp [a21]) fun hr => ?_
  simp [a21]
  refine ⟨fun q1 => ?_, fun q1 => ⟨fun q2 => ?_, fun q2 => ?_⟩⟩
  · have e1 : stE l hd p t d k due = 2 := by unfold stE; rw [if_pos (by omega)]
    have e2 : stV l hd p t d k due = 0 := by unfold stV; rw [if_neg (by omega)]
    have e3 : stY l hd p t d k due = [] := by unfold stY; rw [if_neg (by omega)]
    rw [e1, e2, e3]
    exact ⟨LeD.refl _, leD_nil0 _ _, LeD.refl _⟩
  · have e1 : stE l hd p t d k due = 1 := by unfold stE; rw [if_neg (by omega), if_pos (by omega)]
    have e2 : stV l hd p t d k due = 0 := by unfold stV; rw [if_neg (by omega)]
    have e3 : stY l hd p t d k due = [] := by unfold stY; rw [if_neg (by omega)]
    rw [e1, e2, e3]
    exact ⟨LeD.refl _, leD_nil0 _ _, LeD.refl _⟩
  have hc := C76.past0 p t d k
  obtain ⟨e0, he0⟩ : ∃ e0, e0 = pE ⟨[], 0⟩ p t d k := ⟨_, rfl⟩
  rw [← he0] at hc
  generalize pI ⟨[], 0⟩ p t d k = i1 at hc
  generalize pB ⟨[], 0⟩ p t d k = b1 at hc
  refine vc_path [.ret (.tup [dI i1, dB b1, dI e0])] ?_
  simp
  refine ⟨hc, ?_⟩
  refine vc_path [] ?_
  simp
  refine ⟨fun g1 => ⟨fun g2 => ?ga, fun g2 => ?gb⟩, fun g1 => ?gc⟩
  case ga =>
    have e1 : stE l hd p t d k due = e0 := by unfold stE; rw [if_neg (by omega), if_neg (by omega), ← he0, if_pos ⟨by simpa using g1, g2⟩]
    have e2 : stV l hd p t d k due = 0 := by unfold stV; rw [if_neg (by omega)]
    have e3 : stY l hd p t d k due = [] := by unfold stY; rw [if_neg (by omega)]
    rw [e1, e2, e3]
    exact ⟨LeD.refl _, leD_nil0 _ _, LeD.refl _⟩
  case' gb =>
    have hst : ¬ (l = [] ∧ pE ⟨[], 0⟩ p t d k ≠ 0) := fun h => h.2 (by omega)
  case' gc =>
    have hst : ¬ (l = [] ∧ pE ⟨[], 0⟩ p t d k ≠ 0) := fun h => g1 (by simp [h.1])
  all_goals
    refine vc_loopK [0, 1, 3, 4, 5, 6, 9] Nat (fun i => [(20, true, .own 1 1 (((whyL p t d k l hd).take i).map dI)), (21, true, .d (dB (decide (0 < waitedN (hd.take i))))), (22, true, .d (dB (decide (waitedN (hd.take i) = passedN p t d k (l.take i) (hd.take i))))), (23, true, .d (dI i))]) (fun i => [(1, .row)]) (fun i => i ≤ l.length ∧ fE p t d k (l.drop i) = fE p t d k l) (fun i => l.length - i) 0 (by simp) ⟨[], [(1, 1)], ?_⟩ (fun i hi => ?_)
    · simp [waitedN, passedN]
      done
    · obtain ⟨hi, hfe⟩ := hi
      rcases Nat.lt_or_ge i l.length with hlt | hge
      · have hlt' : i < hd.length := by omega
        have hc2 := C76.past l[i] p t d k
        simp [hlt, hlt']
        have hwl : (whyL p t d k l hd).length = l.length := by simp [whyL]; omega
        have hmin : min i (whyL p t d k l hd).length = i := by omega
        have f1 := whyL_take (p := p) (t := t) (d := d) (k := k) hlt hlt'
        have f2 := waited_take hlt'
        have f3 := passed_take (p := p) (t := t) (d := d) (k := k) hlt hlt'
        have f4 := fE_step (p := p) (t := t) (d := d) (k := k) hlt
        have f5 := passed_le (p := p) (t := t) (d := d) (k := k) (l := l) (hd := hd) (by omega) i hi
        unfold whyOf at f1
        generalize hpi : pI l[i] p t d k = n at *
        generalize hpb : pB l[i] p t d k = b at *
        generalize hpe : pE l[i] p t d k = e at *
        have hbad : ¬ e = 0 → stE l hd p t d k due = e ∧ stV l hd p t d k due = 0 ∧ stY l hd p t d k due = [] := fun he => by
          rw [if_neg he] at f4
          have e1 : stE l hd p t d k due = e := by unfold stE; rw [if_neg (by omega), if_neg (by omega), if_neg hst, ← hfe, f4, if_pos he]
          exact ⟨e1, by unfold stV; rw [if_neg (by omega)], by unfold stY; rw [if_neg (by omega)]⟩
        refine vc_pathD [.ret (.tup [dI n, dB b, dI e])] ?_
        simp [hlt]
        refine ⟨hc2, rfl, ?_⟩
        refine ⟨fun he => ?_, fun he => ?_⟩
        · obtain ⟨e1, e2, e3⟩ := hbad he
          rw [e1, e2, e3]
          exact ⟨LeD.refl _, leD_nil0 _ _, LeD.refl _⟩
        rw [if_pos he] at f4
        have hfe' : fE p t d k (l.drop (i + 1)) = fE p t d k l := by rw [← f4]; exact hfe
        have g1' : decide (0 < waitedN (hd.take (i + 1))) = (decide (0 < waitedN (hd.take i)) || hd[i]) := by rw [f2]; cases hd[i] <;> simp
        have g2' : decide (waitedN (hd.take (i + 1)) = passedN p t d k (l.take (i + 1)) (hd.take (i + 1))) = (decide (waitedN (hd.take i) = passedN p t d k (l.take i) (hd.take i)) && (b || !hd[i])) := by rw [f2, f3]; cases hd[i] <;> cases b <;> simp <;> omega
        have hw2 : IntKind.i64.wrap ((i : Int) + 1) = (i : Int) + 1 := wrap64 (by omega)
        clear f2 f3 f5 hbad
        generalize decide (0 < waitedN (hd.take i)) = Bs at *
        generalize decide (waitedN (hd.take i) = passedN p t d k (l.take i) (hd.take i)) = Ba at *
        cases hh : hd[i] <;> cases b <;> cases Bs <;> cases Ba
        all_goals
          rw [hh] at f1 g1' g2'
          simp at f1
          refine vc_path [] ?_
          simp [hlt', hh, hmin]
          refine ⟨by omega, ?_⟩
          refine vc_path [] ?_
          simp [hlt', hh]
          refine vc_path [] ?_
          simp [hlt', hh]
          refine ⟨i + 1, ⟨by omega, hfe'⟩, by omega, [(1, 3)], [], ?_⟩
          rw [hw2, g1', g2']
          simp [f1]
      · have hil : i = l.length := by omega
        subst hil
        have t1 : hd.take l.length = hd := List.take_of_length_le (by omega)
        have t3 : ((whyL p t d k l hd).map dI).take l.length = (whyL p t d k l hd).map dI := List.take_of_length_le (by simp [whyL]; omega)
        have t4 : fE p t d k l = 0 := by rw [← hfe]; simp [fE]
        have hse : stE l hd p t d k due = if 0 ≤ due ∧ due < 1099511627776 then 0 else 1 := by
          unfold stE; rw [if_neg (by omega), if_neg (by omega), if_neg hst, if_neg (by omega)]
        have hv : stV l hd p t d k due = if 0 ≤ due ∧ due < 1099511627776 then (if 0 < waitedN hd ∧ waitedN hd = passedN p t d k l hd then 2 else if due ≤ t then 1 else 0) else 0 := by
          unfold stV; rw [hse]; split <;> simp [*]
        have hy : stY l hd p t d k due = if 0 ≤ due ∧ due < 1099511627776 then whyL p t d k l hd else [] := by
          unfold stY; rw [hse]; split <;> simp [*]
        simp [t1, t3]
        rw [hse, hv, hy]
        generalize waitedN hd = W at *
        generalize passedN p t d k l hd = N at *
        generalize whyL p t d k l hd = L at *
        refine vc_path [] ?_
        simp
        refine ⟨fun h1 => ?_, fun h1 => ⟨fun h2 => ?_, fun h2 => ?_⟩⟩
        · have hn : ¬ (0 ≤ due ∧ due < 1099511627776) := by omega
          rw [if_neg hn, if_neg hn, if_neg hn]
          exact ⟨LeD.refl _, leD_nil0 _ _, LeD.refl _⟩
        · have hn : ¬ (0 ≤ due ∧ due < 1099511627776) := by omega
          rw [if_neg hn, if_neg hn, if_neg hn]
          exact ⟨LeD.refl _, leD_nil0 _ _, LeD.refl _⟩
        · have hn : 0 ≤ due ∧ due < 1099511627776 := ⟨h1, h2⟩
          rw [if_pos hn, if_pos hn, if_pos hn]
          refine vc_path [] ?_
          simp
          refine ⟨fun w1 => ⟨fun w2 => ?_, fun w2 => ⟨fun w3 => ?_, fun w3 => ?_⟩⟩, fun w1 => ⟨fun w3 => ?_, fun w3 => ?_⟩⟩
          · rw [if_pos ⟨w1, by omega⟩]; exact LeD.refl _
          · rw [if_neg (by omega), if_pos w3]; exact LeD.refl _
          · rw [if_neg (by omega), if_neg (by omega)]; exact LeD.refl _
          · rw [if_neg (by omega), if_pos w3]; exact LeD.refl _
          · rw [if_neg (by omega), if_neg (by omega)]; exact LeD.refl _
end Go.Proofs.YteonapeaaepipaaDoor
end

section
namespace Go.Proofs.YteonapeaaepipaaDoor
open Go Go.Proofs.YteonapeaaepipaaDoor.AL
attribute [local simp] dT_agg dT_nt dT_noTup dT_cells dT_one bs_toList bs_size strV dW_cells dW_agg dW_noTup dSm_cells dSm_agg dSm_noTup dOp_cells dOp_agg dOp_noTup dWs_cells dWs_one dWs_agg dWs_noTup dWs_nt
attribute [local simp] dW_nt dP_cells dP_agg dP_noTup dOld_cells dOld_agg dOld_noTup dOld_one
set_option maxRecDepth 8000
set_option maxHeartbeats 4000000
theorem same23 (a b : List Int) : PCall Tryd.prog 22 [.sl 1 (a.map dI), .sl 1 (b.map dI)] (.ret (dB (decide (a = b)))) := by
  refine pcall_of_vc noC c22 (by simp [a22]) fun hr => ?_
  have hla : a.length ≤ 9223372036854775807 := by simpa using (hr (.sl 1 (a.map dI)) (by simp)).sl.1
  simp [a22]
  refine ⟨fun h => leD_of_eq (by have : ¬ a = b := (by rintro rfl; exact h rfl); simp [this]), fun h => ?_⟩
  refine vc_loopK [0, 1] Nat (fun i => [(5, true, .d (dI i))]) (fun i => []) (fun i => i ≤ a.length ∧ a.take i = b.take i) (fun i => a.length - i) 0 (by simp) ⟨[], [], ?_⟩ (fun i hi => ?_)
  · simp
  · obtain ⟨hi, he⟩ := hi
    rcases Nat.lt_or_ge i a.length with hlt | hge
    · have hlt' : i < b.length := by omega
      simp [hlt, hlt']
      refine ⟨rfl, fun hne => leD_of_eq ?_, fun heq => ⟨i + 1, ⟨by omega, ?_⟩, by omega, [], [], ?_⟩⟩
      · have : ¬ a = b := by rintro rfl; exact hne rfl
        simp [this]
      · rw [List.take_add_one, List.take_add_one, he]; simp [List.getElem?_eq_getElem, hlt, hlt', heq]
      · rw [wrap64 (by omega)]; simp
    · have hil : i = a.length := by omega
      simp [hil]
      have : a = b := by rw [hil, List.take_length, List.take_of_length_le (by omega)] at he; exact he
      exact leD_of_eq (by simp [this])
def few23B (l : List Sm) (hd : List Bool) : Bool := ((l.take 30).all fun s => decide (s.w.length ≤ 30)) && ((decide (l.length ≤ 6) || (decide (16 < l.length) && decide (l.length ≤ 20))) && decide (hd.length ≤ 30))
theorem few23 (l : List Sm) (hd : List Bool) : PCall Tryd.prog 19 [.sl 2 (l.map dSm), .sl 1 (hd.map dB)] (.ret (dB (few23B l hd))) := by
  refine pcall_of_vc noC c19 (by simp [a19]) fun hr => ?_
  simp [a19]
  refine vc_loopK [0, 1] Nat (fun i => [(5, true, .d (dI i))]) (fun i => []) (fun i => i ≤ 30 ∧ (l.take i).all (fun s => decide (s.w.length ≤ 30)) = true) (fun i => 30 - i) 0 (by simp) ⟨[], [], ?_⟩ (fun i hi => ?_)
  · simp
  · obtain ⟨hi, he⟩ := hi
    have hend : l.take 30 = l.take i → few23B l hd = ((decide (l.length ≤ 6) || (decide (16 < l.length) && decide (l.length ≤ 20))) && decide (hd.length ≤ 30)) := fun h => by rw [few23B, h, he]; rfl
    by_cases hlt : i < l.length ∧ i < 30
    · obtain ⟨h1, h2⟩ := hlt
      simp
      refine vc_path [] ?_
      simp [h1, show (i : Int) < 30 by omega]
      refine ⟨fun h => leD_of_eq ?_, fun h => ?_⟩
      · have : ((l.take 30).all fun s => decide (s.w.length ≤ 30)) = false := by
          rw [List.all_eq_false]
          exact ⟨l[i], List.mem_take_iff_getElem.2 ⟨i, by omega, rfl⟩, by simp; omega⟩
        simp [few23B, this]
      · have hall : ((l.take (i + 1)).all fun s => decide (s.w.length ≤ 30)) = true := by
          rw [List.take_add_one, List.all_append, he, List.getElem?_eq_getElem h1, Bool.true_and]
          exact List.all_eq_true.2 (fun x hx => by simp at hx; subst hx; simp; omega)
        refine ⟨i + 1, ⟨by omega, by simpa using hall⟩, by omega, [], [], ?_⟩
        rw [wrap64 (by omega)]; simp
    · simp
      refine vc_path [] ?_
      have hh := hend (by
        rcases Nat.lt_or_ge i 30 with h | h
        · rw [List.take_of_length_le (by omega), List.take_of_length_le (by omega)]
        · rw [show i = 30 by omega])
      rw [hh]
      by_cases g : i < l.length
      · simp [g, show ¬ (i : Int) < 30 by omega]
        refine vc_path [] ?_
        simp
        refine ⟨fun q => ?_, fun q => ⟨fun q2 => ⟨fun q3 => ?_, fun q3 => ?_⟩, fun q2 => ?_⟩⟩
        all_goals
          refine leD_of_eq (congrArg (fun b => D.lit (.bool b)) ?_)
          rw [Bool.eq_iff_iff]
          simp
          omega
      · simp [g]
        refine vc_path [] ?_
        simp
        refine ⟨fun q => ?_, fun q => ⟨fun q2 => ⟨fun q3 => ?_, fun q3 => ?_⟩, fun q2 => ?_⟩⟩
        all_goals
          refine leD_of_eq (congrArg (fun b => D.lit (.bool b)) ?_)
          rw [Bool.eq_iff_iff]
          simp
          omega
end Go.Proofs.YteonapeaaepipaaDoor
end

section
namespace Go.Proofs.YteonapeaaepipaaDoor
open Go Go.Proofs.YteonapeaaepipaaDoor.AL
attribute [local simp] dT_agg dT_nt dT_noTup dT_cells dT_one bs_toList bs_size strV dW_cells dW_agg dW_noTup dSm_cells dSm_agg dSm_noTup dOp_cells dOp_agg dOp_noTup dWs_cells dWs_one dWs_agg dWs_noTup dWs_nt
attribute [local simp] dW_nt dP_cells dP_agg dP_noTup dOld_cells dOld_agg dOld_noTup dOld_one
set_option maxRecDepth 20000
set_option maxHeartbeats 8000000
def wd23 (u : Int) : Wd := ⟨[119], u, u + 10, 0, []⟩
theorem word23 (u : Int) (hu : 0 ≤ u ∧ u ≤ 100000) : PCall Tryd.prog 42 [dI u] (.ret (dW (wd23 u))) := by
  refine pcall_of_vc noC c42 (by simp [a42]) fun hr => ?_
  have hw : IntKind.i64.wrap (u + 10) = u + 10 := wrap64 (by omega)
  simp [a42, hw]
  refine LeD.agg (.cons (LeD.refl _) (.cons (LeD.refl _) (.cons (LeD.refl _) (.cons (LeD.refl _) (.cons (LeD.nil 1) .nil))))) (by simp)
/-- The contracts that the laws use. -/
inductive C78a : FuncId → List D → Out → Prop
  | word (u : Int) (hu : 0 ≤ u ∧ u ≤ 100000) : C78a 42 [dI u] (.ret (dW (wd23 u)))
  | ck (w : List Wd) (d k : Int) : C78a 14 [dWs w, dI d, dI k] (.ret (.tup [dWs (ckL w d k), dI (ckA w d k), dI (ckE w d k)]))
  | rck (w : List Wd) (d k : Int) : C78a 15 [dWs w, dI d, dI k] (.ret (.tup [dWs (ckL w d k), dI (ckA w d k), dI (ckE w d k)]))
  | pa (s : Sm) (p t d k : Int) : C78a 16 [dSm s, dP p, dI t, dI d, dI k] (.ret (.tup [dI (pI s p t d k), dB (pB s p t d k), dI (pE s p t d k)]))
  | rpa (s : Sm) (p t d k : Int) : C78a 17 [dSm s, dP p, dI t, dI d, dI k] (.ret (.tup [dI (pI s p t d k), dB (pB s p t d k), dI (pE s p t d k)]))
  | st (l : List Sm) (hd : List Bool) (p t d k due : Int) : C78a 20 [.sl 2 (l.map dSm), .sl 1 (hd.map dB), dP p, dI t, dI d, dI k, dI due] (.ret (.tup [dI (stV l hd p t d k due), .sl 1 ((stY l hd p t d k due).map dI), dI (stE l hd p t d k due)]))
  | stA (l : List Sm) (hd : List Bool) (p t d k due : Int) : C78a 20 [.sl 2 (l.map dSm), .sl 1 (hd.map dB), dP p, dI t, dI d, dI k, dI due] (.ret (.tup [dI (stV l hd p t d k due), .any, dI (stE l hd p t d k due)]))
  | rst (l : List Sm) (hd : List Bool) (p t d k due : Int) : C78a 21 [.sl 2 (l.map dSm), .sl 1 (hd.map dB), dP p, dI t, dI d, dI k, dI due] (.ret (.tup [dI (stV l hd p t d k due), .sl 1 ((stY l hd p t d k due).map dI), dI (stE l hd p t d k due)]))
  | same (a b : List Int) : C78a 22 [.sl 1 (a.map dI), .sl 1 (b.map dI)] (.ret (dB (decide (a = b))))
  | few (l : List Sm) (hd : List Bool) : C78a 19 [.sl 2 (l.map dSm), .sl 1 (hd.map dB)] (.ret (dB (few23B l hd)))
  | sw (x y : List Wd) : C78a 18 [dWs x, dWs y] (.ret (dB (decide (x = y))))
  | sck (s : Sm) : C78a 23 [dSm s] (.ret (dI (eSm s)))
  | al (s : Sm) (p t : Int) (o : Op) : C78a 24 [dSm s, dP p, dI t, dOp o] (.ret (.tup [dB (alW s p t o), dI (errP s p t)]))
  | do_ (s : Sm) (o : Op) : C78a 25 [dSm s, dOp o] (.ret (.tup [dSm (doX s o), dI (doE s o)]))
inductive C78 : FuncId → List D → Out → Prop
  | mk {f : FuncId} {ds ds' : List D} {out : Out} (h : C78a f ds' out) (hl : All2 LeD ds ds') : C78 f ds out
theorem PCall.leR {f : FuncId} {ds : List D} {d d' : D} (h : PCall Tryd.prog f ds (.ret d)) (hl : LeD d d') : PCall Tryd.prog f ds (.ret d') := by
  refine ⟨h.1, fun I w vals hI hgl hr => Calls.mono (h.2 I w vals hI hgl hr) fun e w' hR => ?_⟩
  obtain ⟨I', v', k1, k2, k3, k4, k5⟩ := hR
  cases e with
  | returned v => exact ⟨I', v', k1, k2, k3, k4, k5.1, hl _ _ _ k5.2⟩
  | panicked ch => simp [OutR] at k5
  | outgrown => simp [OutR] at k5
theorem h78 : ∀ f ds out, C78 f ds out → PCall Tryd.prog f ds out := by
  intro f ds out h
  cases h with
  | mk h hl =>
    refine AL.PCall.le ?_ hl
    cases h with
    | word u hu => exact word23 u hu
    | ck w d k => exact chunk w d k
    | rck w d k => exact rchunk w d k
    | pa s p t d k => exact past s p t d k
    | rpa s p t d k => exact rpast s p t d k
    | st l hd p t d k due => exact state l hd p t d k due
    | stA l hd p t d k due => exact PCall.leR (state l hd p t d k due) (LeD.tup (.cons (LeD.refl _) (.cons (LeD.any rfl) (.cons (LeD.refl _) .nil))))
    | rst l hd p t d k due => exact rstate l hd p t d k due
    | same a b => exact same23 a b
    | few l hd => exact few23 l hd
    | sw x y => exact rSW x y
    | sck s => exact Check s
    | al s p t o => exact allowed s p t o
    | do_ s o => exact Do s o
theorem C78.of {f : FuncId} {ds : List D} {out : Out} (h : C78a f ds out) : C78 f ds out := .mk h (all2_refl LeD.refl _)
theorem C78.ck' {w L : List Wd} {d k A E : Int} (h : ckL w d k = L ∧ ckA w d k = A ∧ ckE w d k = E) {ds : List D} (hl : All2 LeD ds [dWs w, dI d, dI k]) : C78 14 ds (.ret (.tup [dWs L, dI A, dI E])) := by
  have := C78.mk (C78a.ck w d k) hl; rw [h.1, h.2.1, h.2.2] at this; exact this
theorem C78.pa' {s : Sm} {p t d k i e : Int} {b : Bool} (h : pI s p t d k = i ∧ pB s p t d k = b ∧ pE s p t d k = e) {ds : List D} (hl : All2 LeD ds [dSm s, dP p, dI t, dI d, dI k]) : C78 16 ds (.ret (.tup [dI i, dB b, dI e])) := by
  have := C78.mk (C78a.pa s p t d k) hl; rw [h.1, h.2.1, h.2.2] at this; exact this
theorem C78.st' {l : List Sm} {hd : List Bool} {p t d k due v e : Int} {y : List Int} (h : stV l hd p t d k due = v ∧ stY l hd p t d k due = y ∧ stE l hd p t d k due = e) {ds : List D} (hl : All2 LeD ds [.sl 2 (l.map dSm), .sl 1 (hd.map dB), dP p, dI t, dI d, dI k, dI due]) : C78 20 ds (.ret (.tup [dI v, .sl 1 (y.map dI), dI e])) := by
  have := C78.mk (C78a.st l hd p t d k due) hl; rw [h.1, h.2.1, h.2.2] at this; exact this
theorem C78.same' {a b : List Int} (h : a = b) {ds : List D} (hl : All2 LeD ds [.sl 1 (a.map dI), .sl 1 (b.map dI)]) : C78 22 ds (.ret (dB true)) := by
  have := C78.mk (C78a.same a b) hl; rw [decide_eq_true h] at this; exact this
theorem C78.sw' {x y : List Wd} (h : x = y) {ds : List D} (hl : All2 LeD ds [dWs x, dWs y]) : C78 18 ds (.ret (dB true)) := by
  have := C78.mk (C78a.sw x y) hl; rw [decide_eq_true h] at this; exact this
def sw23 : List Wd := [wd23 900, wd23 1000, wd23 1999, wd23 2000]
def one23 : Sm := ⟨sw23, 4⟩
def two23 : Sm := ⟨sw23, 0⟩
theorem sv1 : ckL sw23 1000 1 = [wd23 1000, wd23 1999] ∧ ckA sw23 1000 1 = 1 ∧ ckE sw23 1000 1 = 0 := by decide
theorem sv2 : ckL [] 1000 0 = [] ∧ ckA [] 1000 0 = 0 ∧ ckE [] 1000 0 = 0 := by decide
theorem sv3 : ckL [] 0 0 = [] ∧ ckA [] 0 0 = 0 ∧ ckE [] 0 0 = 230 := by decide
theorem sv4 : pI one23 500 2100 1000 1 = 3 ∧ pB one23 500 2100 1000 1 = true ∧ pE one23 500 2100 1000 1 = 0 := by decide
theorem sv5 : pI two23 500 2100 1000 1 = 0 ∧ pB two23 500 2100 1000 1 = false ∧ pE two23 500 2100 1000 1 = 0 := by decide
theorem sv6 : stV [one23, two23] [true, false] 500 2100 1000 1 5000 = 2 ∧ stY [one23, two23] [true, false] 500 2100 1000 1 5000 = [3, -1] ∧ stE [one23, two23] [true, false] 500 2100 1000 1 5000 = 0 := by decide
theorem sv7 : stV [one23, two23] [true, true] 500 2100 1000 1 5000 = 0 ∧ stY [one23, two23] [true, true] 500 2100 1000 1 5000 = [3, -1] ∧ stE [one23, two23] [true, true] 500 2100 1000 1 5000 = 0 := by decide
theorem sv8 : stV [one23, two23] [true, true] 500 2100 1000 1 2100 = 1 ∧ stY [one23, two23] [true, true] 500 2100 1000 1 2100 = [3, -1] ∧ stE [one23, two23] [true, true] 500 2100 1000 1 2100 = 0 := by decide
theorem sv9 : stV [] [] 0 5 1000 0 9 = 0 ∧ stY [] [] 0 5 1000 0 9 = [] ∧ stE [] [] 0 5 1000 0 9 = 0 := by decide
theorem sv10 : stV [] [] 0 9 1000 0 9 = 1 ∧ stY [] [] 0 9 1000 0 9 = [] ∧ stE [] [] 0 9 1000 0 9 = 0 := by decide
theorem sv11 : stV [] [true] 0 9 1000 0 9 = 0 ∧ stY [] [true] 0 9 1000 0 9 = [] ∧ stE [] [true] 0 9 1000 0 9 = 1 := by decide
theorem sv12 : stV [] [] 0 9 1000 0 (-1) = 0 ∧ stY [] [] 0 9 1000 0 (-1) = [] ∧ stE [] [] 0 9 1000 0 (-1) = 1 := by decide
end Go.Proofs.YteonapeaaepipaaDoor
end

section
namespace Go.Proofs.YteonapeaaepipaaDoor
open Go Go.Proofs.YteonapeaaepipaaDoor.AL
attribute [local simp] dT_agg dT_nt dT_noTup dT_cells dT_one bs_toList bs_size strV dW_cells dW_agg dW_noTup dSm_cells dSm_agg dSm_noTup dOp_cells dOp_agg dOp_noTup dWs_cells dWs_one dWs_agg dWs_noTup dWs_nt
attribute [local simp] dW_nt dP_cells dP_agg dP_noTup dOld_cells dOld_agg dOld_noTup dOld_one
set_option maxRecDepth 20000
set_option maxHeartbeats 8000000
theorem sane23 : PCall Tryd.prog 13 [] (.ret (dB true)) := by
  refine pcall_of_vc h78 c13 (by simp [a13]) fun hr => ?_
  simp [a13]
  refine vc_path [.ret (dW (wd23 900)), .ret (dW (wd23 1000)), .ret (dW (wd23 1999)), .ret (dW (wd23 2000))] ?_
  simp
  refine ⟨.of (.word 900 (by omega)), .of (.word 1000 (by omega)), .of (.word 1999 (by omega)), .of (.word 2000 (by omega)), ?_⟩
  have R : ∀ l : List D, All2 LeD l l := all2_refl LeD.refl
  refine vc_path [.ret (.tup [dWs [wd23 1000, wd23 1999], dI 1, dI 0])] ?_
  simp
  refine ⟨.ck' (w := sw23) sv1 (R _), ?_⟩
  refine vc_path [.ret (.tup [dWs [], dI 0, dI 0])] ?_
  simp
  refine ⟨.ck' sv2 (.cons (leD_nil0 _ _) (R _)), ?_⟩
  refine vc_path [.ret (.tup [dWs [], dI 0, dI 230])] ?_
  simp
  refine ⟨.ck' sv3 (.cons (leD_nil0 _ _) (R _)), ?_⟩
  refine vc_path [.ret (.tup [dI 3, dB true, dI 0])] ?_
  simp
  refine ⟨.pa' (s := one23) sv4 (R _), ?_⟩
  refine vc_path [.ret (.tup [dI 0, dB false, dI 0])] ?_
  simp
  refine ⟨.pa' (s := two23) sv5 (R _), ?_⟩
  refine vc_path [.ret (.tup [dI 2, .sl 1 (([3, -1] : List Int).map dI), dI 0])] ?_
  simp
  refine ⟨.st' (l := [one23, two23]) (hd := [true, false]) sv6 (R _), ?_⟩
  refine vc_path [.ret (.tup [dI 0, .sl 1 (([3, -1] : List Int).map dI), dI 0])] ?_
  simp
  refine ⟨.st' (l := [one23, two23]) (hd := [true, true]) sv7 (R _), ?_⟩
  refine vc_path [.ret (.tup [dI 1, .sl 1 (([3, -1] : List Int).map dI), dI 0])] ?_
  simp
  refine ⟨.st' (l := [one23, two23]) (hd := [true, true]) sv8 (R _), ?_⟩
  refine vc_path [.ret (.tup [dI 0, .sl 1 (([] : List Int).map dI), dI 0])] ?_
  simp
  refine ⟨.st' (l := []) (hd := []) sv9 (.cons (leD_nil0 _ _) (.cons (leD_nil0 _ _) (R _))), ?_⟩
  refine vc_path [.ret (.tup [dI 1, .sl 1 (([] : List Int).map dI), dI 0])] ?_
  simp
  refine ⟨.st' (l := []) (hd := []) sv10 (.cons (leD_nil0 _ _) (.cons (leD_nil0 _ _) (R _))), ?_⟩
  refine vc_path [.ret (.tup [dI 0, .sl 1 (([] : List Int).map dI), dI 1])] ?_
  simp
  refine ⟨.st' (l := []) (hd := [true]) sv11 (.cons (leD_nil0 _ _) (R _)), ?_⟩
  refine vc_path [.ret (.tup [dI 0, .sl 1 (([] : List Int).map dI), dI 1])] ?_
  simp
  refine ⟨.st' (l := []) (hd := []) sv12 (.cons (leD_nil0 _ _) (.cons (leD_nil0 _ _) (R _))), ?_⟩
  refine vc_path [] ?_
  simp (config := { maxSteps := 10000000 })
  refine vc_path [.ret (dB true), .ret (dB true), .ret (dB true)] ?_
  simp [dWs_eq]
  refine ⟨.sw' (x := [wd23 1000, wd23 1999]) (y := [wd23 1000, wd23 1999]) rfl (R _), .same' (a := [3, -1]) (b := [3, -1]) rfl (R _), ?_⟩
  refine vc_path [] ?_
  simp
end Go.Proofs.YteonapeaaepipaaDoor
end

section
namespace Go.Proofs.YteonapeaaepipaaDoor
open Go Go.Proofs.YteonapeaaepipaaDoor.AL
attribute [local simp] dT_agg dT_nt dT_noTup dT_cells dT_one bs_toList bs_size strV dW_cells dW_agg dW_noTup dSm_cells dSm_agg dSm_noTup dOp_cells dOp_agg dOp_noTup dWs_cells dWs_one dWs_agg dWs_noTup dWs_nt
attribute [local simp] dW_nt dP_cells dP_agg dP_noTup dOld_cells dOld_agg dOld_noTup dOld_one
set_option maxRecDepth 20000
set_option maxHeartbeats 8000000
inductive C80 : FuncId → List D → Out → Prop
  | sane : C80 13 [] (.ret (dB true))
  | of {f : FuncId} {ds : List D} {out : Out} (h : C78 f ds out) : C80 f ds out
theorem h80 : ∀ f ds out, C80 f ds out → PCall Tryd.prog f ds out := by
  intro f ds out h
  cases h with
  | sane => exact sane23
  | of h => exact h78 _ _ _ h
theorem C80.a {f : FuncId} {ds : List D} {out : Out} (h : C78a f ds out) : C80 f ds out := .of (.of h)
theorem settledSpec (s : Sm) (p t d k : Int) : PCall Tryd.prog 3 [dSm s, dP p, dI t, dI d, dI k] (.ret (dB true)) := by
  refine pcall_of_vc h80 c3 (by simp [a3]) fun hr => ?_
  simp [a3]
  refine vc_path [.ret (dB true)] ?_
  simp
  refine ⟨.sane, fun _ => ?_⟩
  have h1 := C78a.ck s.w d k
  have h2 := C78a.rck s.w d k
  have h3 := C78a.pa s p t d k
  have h4 := C78a.rpa s p t d k
  have h5 := C78a.sw (ckL s.w d k) (ckL s.w d k)
  simp only [decide_true] at h5
  generalize ckL s.w d k = L at *
  generalize ckA s.w d k = A at *
  generalize ckE s.w d k = E at *
  generalize pI s p t d k = I at *
  generalize pB s p t d k = B at *
  generalize pE s p t d k = F at *
  refine vc_path [.ret (.tup [dWs L, dI A, dI E])] ?_
  simp
  refine ⟨.a h1, ?_⟩
  refine vc_path [.ret (.tup [dWs L, dI A, dI E])] ?_
  simp
  refine ⟨.a h2, ?_⟩
  refine vc_path [.ret (.tup [dI I, dB B, dI F])] ?_
  simp
  refine ⟨.a h3, ?_⟩
  refine vc_path [.ret (.tup [dI I, dB B, dI F])] ?_
  simp
  refine ⟨.a h4, ?_⟩
  refine vc_path [.ret (dB true)] ?_
  simp
  exact .a h5
theorem settledStateSpec (l : List Sm) (hd : List Bool) (p t d k due : Int) : PCall Tryd.prog 4 [.sl 2 (l.map dSm), .sl 1 (hd.map dB), dP p, dI t, dI d, dI k, dI due] (.ret (dB true)) := by
  refine pcall_of_vc h80 c4 (by simp [a4]) fun hr => ?_
  simp [a4]
  refine vc_path [.ret (dB true)] ?_
  simp
  refine ⟨.sane, ?_⟩
  have h1 := C78a.few l hd
  cases hf : few23B l hd
  · rw [hf] at h1
    refine vc_path [.ret (dB false)] ?_
    simp
    exact .a h1
  · rw [hf] at h1
    refine vc_path [.ret (dB true)] ?_
    simp
    refine ⟨.a h1, ?_⟩
    have h2 := C78a.st l hd p t d k due
    have h3 := C78a.rst l hd p t d k due
    have h4 := C78a.same (stY l hd p t d k due) (stY l hd p t d k due)
    simp only [decide_true] at h4
    generalize stV l hd p t d k due = V at *
    generalize stY l hd p t d k due = Y at *
    generalize stE l hd p t d k due = E at *
    refine vc_path [.ret (.tup [dI V, .sl 1 (Y.map dI), dI E])] ?_
    simp
    refine ⟨.a h2, ?_⟩
    refine vc_path [.ret (.tup [dI V, .sl 1 (Y.map dI), dI E])] ?_
    simp
    refine ⟨.a h3, ?_⟩
    refine vc_path [.ret (dB true)] ?_
    simp
    exact .a h4
end Go.Proofs.YteonapeaaepipaaDoor
end

section
namespace Go.Proofs.YteonapeaaepipaaDoor
open Go Go.Proofs.YteonapeaaepipaaDoor.AL
/-! Plain laws of settled chunks. -/
theorem all_passed {p t d k : Int} : ∀ (l : List Sm) (hd : List Bool), hd.length = l.length → waitedN hd = passedN p t d k l hd → ∀ j, (h : j < l.length) → (h' : j < hd.length) → hd[j] = true → pB l[j] p t d k = true
  | [], _, _, _, j, h, _, _ => by simp at h
  | s :: l, [], hl, _, _, _, _, _ => by simp at hl
  | s :: l, b :: hd, hl, he, j, h, h', hj => by
    have hl' : hd.length = l.length := by simpa using hl
    have hle : passedN p t d k l hd ≤ waitedN hd := by
      have : ∀ (l : List Sm) (hd : List Bool), passedN p t d k l hd ≤ waitedN hd := by
        intro l
        induction l with
        | nil => intro hd; simp [passedN]
        | cons s l ih =>
          intro hd
          cases hd with
          | nil => simp [passedN]
          | cons b hd =>
            have := ih hd
            simp only [passedN, waitedN, List.zip_cons_cons, List.countP_cons, id] at this ⊢
            cases b <;> cases pB s p t d k <;> simp <;> omega
      exact this l hd
    simp only [passedN, waitedN, List.zip_cons_cons, List.countP_cons, id] at he hle
    cases j with
    | zero =>
      simp at hj
      subst hj
      cases hb : pB s p t d k
      · simp [hb] at he; omega
      · simpa using hb
    | succ j =>
      have he' : waitedN hd = passedN p t d k l hd := by
        simp only [passedN, waitedN]
        cases b <;> cases hb : pB s p t d k <;> simp [hb] at he <;> omega
      simpa using all_passed l hd hl' he' j (by simpa using h) (by simpa using h') (by simpa using hj)
theorem passed_all {p t d k : Int} : ∀ (l : List Sm) (hd : List Bool), hd.length = l.length → (∀ j, (h : j < l.length) → (h' : j < hd.length) → hd[j] = true → pB l[j] p t d k = true) → waitedN hd = passedN p t d k l hd
  | [], [], _, _ => rfl
  | [], _ :: _, hl, _ => by simp at hl
  | s :: l, [], hl, _ => by simp at hl
  | s :: l, b :: hd, hl, he => by
    have ih := passed_all (p := p) (t := t) (d := d) (k := k) l hd (by simpa using hl) (fun j h h' hj => by
      have := he (j + 1) (by simpa using h) (by simpa using h') (by simpa using hj)
      simpa using this)
    have h0 := he 0 (by simp) (by simp)
    simp only [passedN, waitedN, List.zip_cons_cons, List.countP_cons, id] at ih ⊢
    cases b
    · simp [ih]
    · simp at h0; simp [h0, ih]
theorem fE_all {p t d k : Int} : ∀ (l : List Sm), fE p t d k l = 0 ↔ ∀ j, (h : j < l.length) → pE l[j] p t d k = 0
  | [] => by simp [fE]
  | s :: l => by
    have ih := fE_all (p := p) (t := t) (d := d) (k := k) l
    simp only [fE]
    constructor
    · intro h j hj
      split at h
      · cases j with
        | zero => simpa using ‹_›
        | succ j => simpa using ih.1 h j (by simpa using hj)
      · omega
    · intro h
      rw [if_pos (show pE s p t d k = 0 from h 0 (by simp))]
      exact ih.2 fun j hj => h (j + 1) (by simpa using hj)
/-- What it is to be settled. -/
theorem settled_iff {l : List Sm} {hd : List Bool} {p t d k due : Int} : (stE l hd p t d k due = 0 ∧ stV l hd p t d k due = 2) ↔
    l.length ≤ 16 ∧ hd.length = l.length ∧ (∀ j, (h : j < l.length) → pE l[j] p t d k = 0) ∧ (0 ≤ due ∧ due < 1099511627776) ∧ 0 < waitedN hd ∧ (∀ j, (h : j < l.length) → (h' : j < hd.length) → hd[j] = true → pB l[j] p t d k = true) := by
  have hw0 : hd.length = l.length → 0 < waitedN hd → l ≠ [] := by
    rintro h1 h2 rfl
    have : hd = [] := List.eq_nil_of_length_eq_zero (by simpa using h1)
    subst this; simp [waitedN] at h2
  constructor
  · rintro ⟨h1, h2⟩
    have h1' := h1
    unfold stE at h1'
    split at h1'; · omega
    split at h1'; · omega
    split at h1'; · omega
    split at h1'; · omega
    split at h1'
    · rename_i a1 a2 a3 a4 a5
      have a2 : hd.length = l.length := by omega
      have a4 : fE p t d k l = 0 := by omega
      unfold stV at h2
      rw [if_pos h1] at h2
      split at h2
      · rename_i a6
        exact ⟨by omega, a2, (fE_all l).1 a4, a5, a6.1, all_passed l hd a2 a6.2⟩
      · split at h2 <;> omega
    · omega
  · rintro ⟨h1, h2, h3, h4, h5, h6⟩
    have h7 := passed_all (p := p) (t := t) (d := d) (k := k) l hd h2 h6
    have e1 : stE l hd p t d k due = 0 := by
      unfold stE
      rw [if_neg (by omega), if_neg (by omega), if_neg (fun h => hw0 h2 h5 h.1), if_neg (by have := (fE_all (p := p) (t := t) (d := d) (k := k) l).2 h3; omega), if_pos h4]
    exact ⟨e1, by unfold stV; rw [if_pos e1, if_pos ⟨h5, h7⟩]⟩
/-- Two streams agree up to the end of a chunk, and a word after it. -/
def Upto (T : Int) (a b : List Wd) : Prop := sinN T a < a.length ∧ sinN T a < b.length ∧ b.take (sinN T a + 1) = a.take (sinN T a + 1)
theorem upto_get {T : Int} {a b : List Wd} (h : Upto T a b) : ∀ i, i ≤ sinN T a → (h1 : i < a.length) → (h2 : i < b.length) → a[i] = b[i] := fun i hi h1 h2 => by
  have e1 : (a.take (sinN T a + 1))[i]? = some a[i] := by rw [List.getElem?_take, if_pos (by omega), List.getElem?_eq_getElem h1]
  have e2 : (b.take (sinN T a + 1))[i]? = some b[i] := by rw [List.getElem?_take, if_pos (by omega), List.getElem?_eq_getElem h2]
  rw [h.2.2, e1] at e2
  injection e2
theorem upto_sin {T U m m' : Int} {a b : List Wd} (ha : okWs m a = true) (hb : okWs m' b = true) (h : Upto T a b) (hU : U ≤ T) : sinN U b = sinN U a := by
  have hm := sin_mono (l := a) hU
  have hle := h.1
  have hle2 := h.2.1
  refine sin_is hb (by omega) (fun j hj h2 => ?_) (fun j hj h2 => ?_)
  · rw [← upto_get h j (by omega) (by omega) h2]
    exact sin_lt hj (by omega)
  · have h3 := upto_get h (sinN U a) hm (by omega) (by omega)
    have h4 := sin_ge ha (Nat.le_refl _) (show sinN U a < a.length by omega)
    have h5 := (okWs_sorted m' b hb (sinN U a) j hj h2).2
    rw [← h3] at h5
    omega
theorem upto_trans {T m m' : Int} {a b c : List Wd} (ha : okWs m a = true) (hb : okWs m' b = true) (h : Upto T a b) (k : Upto T b c) : Upto T a c := by
  have e := upto_sin ha hb h (Int.le_refl T)
  obtain ⟨h1, h2, h3⟩ := h
  obtain ⟨k1, k2, k3⟩ := k
  rw [e] at k1 k2 k3
  exact ⟨h1, k2, k3.trans h3⟩
theorem upto_refl {T : Int} {a : List Wd} (h : sinN T a < a.length) : Upto T a a := ⟨h, h, rfl⟩
/-- An allowed op keeps what comes before a stable word. -/
theorem upto_step {s : Sm} {p t T : Int} {o : Op} (h : alW s p t o = true) (hs : (sinN T s.w : Int) < stN s p t) : Upto T s.w (doX s o).w := by
  obtain ⟨r1, r2, r3, r4⟩ := remain_step h
  obtain ⟨s1, s2, s3, s4⟩ := stN_ok (alW_ok h).1
  refine ⟨by omega, by omega, ?_⟩
  have : ∀ l : List Wd, l.take (sinN T s.w + 1) = (l.take (stN s p t).toNat).take (sinN T s.w + 1) := fun l => by
    rw [List.take_take]; congr 1; omega
  rw [this, r4, ← this]
theorem upto_chunk {a b : List Wd} {d k n : Int} (ha : eSm ⟨a, 0⟩ = 0) (hb : eSm ⟨b, 0⟩ = 0) (hd : chR d k = true) (h : Upto ((k + 1) * d) a b) (hn0 : 0 ≤ n) (hn : n ≤ k) :
    ckE a d n = 0 ∧ ckE b d n = 0 ∧ ckA b d n = ckA a d n ∧ ckL b d n = ckL a d n := by
  obtain ⟨h1, h2, h3, h4, h5, h6⟩ := chR_ok hd
  have ha' := (eSm_ok ha).2.2.2
  have hb' := (eSm_ok hb).2.2.2
  have m1 : (n + 1) * d ≤ (k + 1) * d := Int.mul_le_mul_of_nonneg_right (by omega) (by omega)
  have m2 : n * d ≤ (n + 1) * d := by rw [Int.add_mul, Int.one_mul]; omega
  have hr : chR d n = true := chR_of h1 h2 hn0 (by omega)
  have e1 : ckE a d n = 0 := by unfold ckE; rw [if_pos ha, if_pos hr]
  have e2 : ckE b d n = 0 := by unfold ckE; rw [if_pos hb, if_pos hr]
  have s1 := upto_sin ha' hb' h m1
  have s2 := upto_sin ha' hb' h (show n * d ≤ (k + 1) * d by omega)
  refine ⟨e1, e2, by unfold ckA; rw [if_pos e1, if_pos e2, s2], ?_⟩
  unfold ckL
  rw [if_pos e1, if_pos e2, s1, s2]
  have hm := sin_mono (l := a) m1
  have : ∀ l : List Wd, l.take (sinN ((n + 1) * d) a) = (l.take (sinN ((k + 1) * d) a + 1)).take (sinN ((n + 1) * d) a) := fun l => by
    rw [List.take_take]; congr 1; omega
  rw [this b, h.2.2, ← this a]
end Go.Proofs.YteonapeaaepipaaDoor
end

section
namespace Go.Proofs.YteonapeaaepipaaDoor
open Go Go.Proofs.YteonapeaaepipaaDoor.AL
attribute [local simp] dT_agg dT_nt dT_noTup dT_cells dT_one bs_toList bs_size strV dW_cells dW_agg dW_noTup dSm_cells dSm_agg dSm_noTup dOp_cells dOp_agg dOp_noTup dWs_cells dWs_one dWs_agg dWs_noTup dWs_nt
attribute [local simp] dW_nt dP_cells dP_agg dP_noTup dOld_cells dOld_agg dOld_noTup dOld_one
set_option maxRecDepth 20000
set_option maxHeartbeats 8000000
theorem kept23 (a b : List Wd) (d k : Int) (ha : eSm ⟨a, 0⟩ = 0) (hb : eSm ⟨b, 0⟩ = 0) (hd : chR d k = true) (h : Upto ((k + 1) * d) a b) (hk : k ≤ 8) : PCall Tryd.prog 26 [dWs a, dWs b, dI d, dI k] (.ret (dB true)) := by
  refine pcall_of_vc h80 c26 (by simp [a26]) fun hr => ?_
  obtain ⟨_, _, hk0, _, _, _⟩ := chR_ok hd
  simp [a26]
  refine vc_loopK [0, 1, 2, 3] Nat (fun n => [(9, true, .d (dI n))]) (fun n => []) (fun n => (n : Int) ≤ k + 1) (fun n => 10 - n) 0 (by simp; omega) ⟨[], [], ?_⟩ (fun n hn => ?_)
  · simp
  · rcases Int.lt_or_le k n with hlt | hge
    · simp [show ¬ (n : Int) ≤ k by omega]
    · simp [hge]
      obtain ⟨e1, e2, e3, e4⟩ := upto_chunk ha hb hd h (show (0 : Int) ≤ n by omega) hge
      have h1 := C78a.ck a d n
      have h2 := C78a.ck b d n
      have h5 := C78a.sw (ckL a d n) (ckL a d n)
      simp only [decide_true] at h5
      rw [e1] at h1
      rw [e2, e3, e4] at h2
      generalize ckL a d n = L at *
      generalize ckA a d n = A at *
      refine vc_path [.ret (.tup [dWs L, dI A, dI 0])] ?_
      simp
      refine ⟨.a h1, ?_⟩
      refine vc_path [.ret (.tup [dWs L, dI A, dI 0])] ?_
      simp
      refine ⟨.a h2, ?_⟩
      refine vc_path [.ret (dB true)] ?_
      simp
      refine ⟨.a h5, n + 1, by omega, by omega, [], [], ?_⟩
      rw [wrap64 (by omega)]
      simp
end Go.Proofs.YteonapeaaepipaaDoor
end

section
namespace Go.Proofs.YteonapeaaepipaaDoor
open Go Go.Proofs.YteonapeaaepipaaDoor.AL
noncomputable def fsOf (t : TypeId) : Array Field := match Tryd.prog.underlying t with
  | some (.struct fs) => fs
  | _ => #[]
noncomputable def fld (t : TypeId) (i : Nat) : Field := (fsOf t).getD i ⟨ "", 0, 0, false, "", "", 0⟩
theorem uWd : Tryd.prog.underlying 46 = some (.struct #[fld 46 0, fld 46 1, fld 46 2, fld 46 3, fld 46 4]) := by kernel_rfl
theorem uSm : Tryd.prog.underlying 24 = some (.struct #[fld 24 0, fld 24 1]) := by kernel_rfl
theorem uOp : Tryd.prog.underlying 51 = some (.struct #[fld 51 0, fld 51 1, fld 51 2, fld 51 3]) := by kernel_rfl
theorem uInt : Tryd.prog.underlying 3 = some (.int .i64) := by kernel_rfl
theorem uBool : Tryd.prog.underlying 4 = some .bool := by kernel_rfl
theorem uStr : Tryd.prog.underlying 9 = some .string := by kernel_rfl
theorem uStrs : Tryd.prog.underlying 44 = some (.slice 9) := by kernel_rfl
theorem uWds : Tryd.prog.underlying 22 = some (.slice 46) := by kernel_rfl
theorem zInt : Tryd.prog.cellsOf 3 = 1 := by kernel_rfl
theorem zStr : Tryd.prog.cellsOf 9 = 1 := by kernel_rfl
theorem zStrs : Tryd.prog.cellsOf 44 = 1 := by kernel_rfl
theorem zWds : Tryd.prog.cellsOf 22 = 1 := by kernel_rfl
theorem zWd : Tryd.prog.cellsOf 46 = 5 := by kernel_rfl
theorem zSm : Tryd.prog.cellsOf 24 = 2 := by kernel_rfl
theorem zOp : Tryd.prog.cellsOf 51 = 4 := by kernel_rfl
section
variable {H : Type} {enc : TypeId × Value → H} {w : World}
theorem shI : Shows enc Tryd.prog w 3 dI := shows_int uInt
theorem shT : Shows enc Tryd.prog w 9 dT := shows_str uStr
theorem shTs : Shows enc Tryd.prog w 44 (fun l : List (List UInt8) => .sl 1 (l.map dT)) := shows_slice uStrs zStr (fun _ => rfl) (fun y c hc => by simp [dT, D.cells] at hc; subst hc; rfl) shT
theorem shW : Shows enc Tryd.prog w 46 dW := shows_map (shows_structN uWd (by rw [zWd]; kernel_rfl)
  (showsR_cons (t := 9) (off' := 1) (by kernel_rfl) (by kernel_rfl) (by rw [zStr]) shT (showsR_cons (t := 3) (off' := 2) (by kernel_rfl) (by kernel_rfl) (by rw [zInt]) shI (showsR_cons (t := 3) (off' := 3) (by kernel_rfl) (by kernel_rfl) (by rw [zInt]) shI
  (showsR_cons (t := 3) (off' := 4) (by kernel_rfl) (by kernel_rfl) (by rw [zInt]) shI (showsR_cons (t := 44) (off' := 5) (by kernel_rfl) (by kernel_rfl) (by rw [zStrs]) shTs showsR_nil)))))) (fun y => ⟨⟨y.1, y.2.1, y.2.2.1, y.2.2.2.1, y.2.2.2.2.1⟩, rfl⟩)
theorem shWs : Shows enc Tryd.prog w 22 (fun l : List Wd => .sl 5 (l.map dW)) := shows_slice uWds zWd (fun _ => rfl) (fun y c hc => by simp [dW, D.cells] at hc; rcases hc with rfl | rfl | rfl | rfl | rfl <;> rfl) shW
theorem shSm : Shows enc Tryd.prog w 24 dSm := shows_map (shows_structN uSm (by rw [zSm]; kernel_rfl)
  (showsR_cons (t := 22) (off' := 1) (by kernel_rfl) (by kernel_rfl) (by rw [zWds]) shWs (showsR_cons (t := 3) (off' := 2) (by kernel_rfl) (by kernel_rfl) (by rw [zInt]) shI showsR_nil))) (fun y => ⟨⟨y.1, y.2.1⟩, rfl⟩)
theorem shOp : Shows enc Tryd.prog w 51 dOp := shows_map (shows_structN uOp (by rw [zOp]; kernel_rfl)
  (showsR_cons (t := 3) (off' := 1) (by kernel_rfl) (by kernel_rfl) (by rw [zInt]) shI (showsR_cons (t := 3) (off' := 2) (by kernel_rfl) (by kernel_rfl) (by rw [zInt]) shI (showsR_cons (t := 3) (off' := 3) (by kernel_rfl) (by kernel_rfl) (by rw [zInt]) shI
  (showsR_cons (t := 22) (off' := 4) (by kernel_rfl) (by kernel_rfl) (by rw [zWds]) shWs showsR_nil))))) (fun y => ⟨⟨y.1, y.2.1, y.2.2.1, y.2.2.2.1⟩, rfl⟩)
end
theorem one_Sm (n : Sm) : ∀ c ∈ (dSm n).cells, c.one = true := by
  intro c hc
  simp [dSm, D.cells] at hc
  rcases hc with rfl | rfl <;> rfl
theorem one_Op (n : Op) : ∀ c ∈ (dOp n).cells, c.one = true := by
  intro c hc
  simp [dOp, D.cells] at hc
  rcases hc with rfl | rfl | rfl | rfl <;> rfl
theorem sSm : Sees Tryd.prog 24 (fun x => ∃ n : Sm, x = dSm n) := sees_agg (by rw [uSm]) shSm (fun _ => rfl) one_Sm
theorem sOp : Sees Tryd.prog 51 (fun x => ∃ n : Op, x = dOp n) := sees_agg (by rw [uOp]) shOp (fun _ => rfl) one_Op
theorem sWs : Sees Tryd.prog 22 (fun x => ∃ l : List Wd, x = .sl 5 (l.map dW)) := sees_slice uWds shWs
theorem sI : Sees Tryd.prog 3 (fun x => ∃ n : Int, (IntKind.i64.min ≤ n ∧ n ≤ IntKind.i64.max) ∧ x = .lit (.int .i64 n)) := sees_int uInt
end Go.Proofs.YteonapeaaepipaaDoor
end

section
namespace Go.Proofs.YteonapeaaepipaaDoor
open Go Go.Proofs.YteonapeaaepipaaDoor.AL
theorem uPm : Tryd.prog.underlying 26 = some (.struct #[fld 26 0]) := by kernel_rfl
theorem zPm : Tryd.prog.cellsOf 26 = 1 := by kernel_rfl
theorem uSms : Tryd.prog.underlying 35 = some (.slice 24) := by kernel_rfl
theorem uBs : Tryd.prog.underlying 36 = some (.slice 4) := by kernel_rfl
theorem zBool : Tryd.prog.cellsOf 4 = 1 := by kernel_rfl
theorem uEv3 : Tryd.prog.underlying 54 = some (.struct #[fld 54 0, fld 54 1, fld 54 2]) := by kernel_rfl
theorem uEv3s : Tryd.prog.underlying 49 = some (.slice 54) := by kernel_rfl
theorem uU16 : Tryd.prog.underlying 52 = some (.int .u16) := by kernel_rfl
theorem zEv3 : Tryd.prog.cellsOf 54 = 6 := by kernel_rfl
theorem zU16 : Tryd.prog.cellsOf 52 = 1 := by kernel_rfl
/-- An op of a source, some time after the one before. -/
structure Ev3 where
  s : Int
  a : Int
  o : Op
def dEv3 (e : Ev3) : D := .agg [.lit (.int .u16 e.s), .lit (.int .u16 e.a), dI e.o.k, dI e.o.a, dI e.o.c, dWs e.o.w]
def Ev3B : Type := {e : Ev3 // (0 ≤ e.s ∧ e.s ≤ 65535) ∧ (0 ≤ e.a ∧ e.a ≤ 65535)}
section
variable {H : Type} {enc : TypeId × Value → H} {w : World}
theorem shows_u16 {P : Program} {t : TypeId} (ht : P.underlying t = some (.int .u16)) : Shows enc P w t (fun n : {x : Int // 0 ≤ x ∧ x ≤ 65535} => .lit (.int .u16 n.1)) := by
  intro fuel cs x h
  obtain ⟨n, rfl, _, hw⟩ := DataW.trod_int ht h
  have hw' : 0 ≤ n ∧ n ≤ 65535 := by simpa [Lit.wf, IntKind.min, IntKind.max, IntKind.signed, IntKind.bits] using hw
  refine ⟨⟨n, hw'⟩, repL_one (.lit ?_)⟩
  simpa [Sc, Lit.wf] using hw
theorem shPm : Shows enc Tryd.prog w 26 dP := shows_map (shows_structN uPm (by rw [zPm]; kernel_rfl)
  (showsR_cons (t := 3) (off' := 1) (by kernel_rfl) (by kernel_rfl) (by rw [zInt]) shI showsR_nil)) (fun y => ⟨y.1, rfl⟩)
theorem shSms : Shows enc Tryd.prog w 35 (fun l : List Sm => .sl 2 (l.map dSm)) := shows_slice uSms zSm (fun _ => rfl) one_Sm shSm
theorem shBs : Shows enc Tryd.prog w 36 (fun l : List Bool => .sl 1 (l.map dB)) := shows_slice uBs zBool (fun _ => rfl) (fun y c hc => by simp [D.cells] at hc; subst hc; rfl) (shows_bool uBool)
theorem shEv3 : Shows enc Tryd.prog w 54 (fun z : Ev3B => dEv3 z.1) := shows_map (shows_structN uEv3 (by rw [zEv3]; kernel_rfl)
  (showsR_cons (t := 52) (off' := 1) (by kernel_rfl) (by kernel_rfl) (by rw [zU16]) (shows_u16 uU16) (showsR_cons (t := 52) (off' := 2) (by kernel_rfl) (by kernel_rfl) (by rw [zU16]) (shows_u16 uU16) (showsR_cons (t := 51) (off' := 6) (by kernel_rfl) (by kernel_rfl) (by rw [zOp]) shOp showsR_nil)))) (fun y => ⟨⟨⟨y.1.1, y.2.1.1, y.2.2.1⟩, y.1.2, y.2.1.2⟩, rfl⟩)
theorem shEv3s : Shows enc Tryd.prog w 49 (fun l : List Ev3B => .sl 6 (l.map fun z => dEv3 z.1)) := shows_slice uEv3s zEv3 (fun _ => rfl) (fun y c hc => by simp [dEv3, D.cells] at hc; rcases hc with rfl | rfl | rfl | rfl | rfl | rfl <;> rfl) shEv3
end
theorem sPm : Sees Tryd.prog 26 (fun x => ∃ p : Int, x = dP p) := sees_agg (by rw [uPm]) shPm (fun _ => rfl) (fun p c hc => by simp [dP, D.cells] at hc; subst hc; rfl)
theorem sSms : Sees Tryd.prog 35 (fun x => ∃ l : List Sm, x = .sl 2 (l.map dSm)) := sees_slice uSms shSms
theorem sBs : Sees Tryd.prog 36 (fun x => ∃ l : List Bool, x = .sl 1 (l.map dB)) := sees_slice uBs shBs
theorem sEv3s : Sees Tryd.prog 49 (fun x => ∃ l : List Ev3B, x = .sl 6 (l.map fun z => dEv3 z.1)) := sees_slice uEv3s shEv3s
end Go.Proofs.YteonapeaaepipaaDoor
end

section
namespace Go.Proofs.YteonapeaaepipaaDoor
open Go Go.Proofs.YteonapeaaepipaaDoor.AL Go.ChangeShapes Go.WideShapes Go.ChangeAt Go.RowKit Go.Lib Go.Shelf
theorem own : ownKnob Tryd.prog.godebug = none := by kernel_rfl
theorem laidOut : laidOutB Tryd.prog = true := by kernel_rfl
theorem ip_of {w : World} {cs : List D} {g : Nat} (h : ∀ (k : Nat) (c : D), cs[k]? = some c → ∃ v, w.cell? ⟨g, k, none⟩ = some v ∧ c = .lit v ∧ Sc v) : Rep (allI w) w (.ip (.agg cs)) (.pointer (some ⟨g, 0, none⟩)) := by
  have ha : ∀ k, (⟨g, 0, none⟩ : Addr).add k = ⟨g, k, none⟩ := fun k => by
    cases k <;> simp [Addr.add]
  refine .ip ⟨g, 0, none⟩ (fun k => (w.cell? ⟨g, k, none⟩).getD (.bool false)) ?_ ?_ ?_
  · intro c hc
    obtain ⟨k, hk⟩ := List.mem_iff_getElem?.1 hc
    obtain ⟨v, _, rfl, _⟩ := h k c hk
    rfl
  · intro k c hk
    obtain ⟨v, hv, _, _⟩ := h k c hk
    rw [ha]
    exact ⟨by simp [allI, hv], by simp [hv]⟩
  · intro k c hk
    obtain ⟨v, hv, rfl, hs⟩ := h k c hk
    simp only [hv, Option.getD_some]
    exact .lit hs
theorem sc_first (c : Nat) : Sc (.int .u8 (firstT c)) := by
  have h := firstT_cases c
  simp only [Sc, IntKind.min, IntKind.max]
  rcases h with h | h | h | h | h | h | h | h | h <;> rw [h] <;> decide
theorem sc_lo (i : Nat) : Sc (.int .u8 (accLo i)) := by
  have h : accLo i ≤ 255 := by
    unfold accLo
    repeat' split
    all_goals omega
  exact ⟨by simp [IntKind.min, IntKind.signed], by simp [IntKind.max, IntKind.signed, IntKind.bits]; omega⟩
theorem sc_hi (i : Nat) : Sc (.int .u8 (accHi i)) := by
  have h : accHi i ≤ 255 := by
    unfold accHi
    repeat' split
    all_goals omega
  exact ⟨by simp [IntKind.min, IntKind.signed], by simp [IntKind.max, IntKind.signed, IntKind.bits]; omega⟩
theorem pairs_get (lo hi : Nat → D) : ∀ (n b k : Nat) (c : D), ((List.range' b n).flatMap fun i => [lo i, hi i])[k]? = some c →
    ∃ i, b ≤ i ∧ i < b + n ∧ ((k = 2 * (i - b) ∧ c = lo i) ∨ (k = 2 * (i - b) + 1 ∧ c = hi i))
  | 0, b, k, c, h => by simp at h
  | n + 1, b, 0, c, h => by
    simp [List.range'_succ] at h
    exact ⟨b, by omega, by omega, .inl ⟨by omega, h.symm⟩⟩
  | n + 1, b, 1, c, h => by
    simp [List.range'_succ] at h
    exact ⟨b, by omega, by omega, .inr ⟨by omega, h.symm⟩⟩
  | n + 1, b, k + 2, c, h => by
    simp only [List.range'_succ, List.flatMap_cons, List.cons_append, List.nil_append, List.getElem?_cons_succ] at h
    obtain ⟨i, h1, h2, h3⟩ := pairs_get lo hi n (b + 1) k c h
    refine ⟨i, by omega, by omega, ?_⟩
    rcases h3 with ⟨h3, h4⟩ | ⟨h3, h4⟩
    · exact .inl ⟨by omega, h4⟩
    · exact .inr ⟨by omega, h4⟩
/-- The variables' cells make the contract's premise. -/
theorem glOk_of {W : World} (h : Lib.Utf8Tabs 0 1 W) : GlOk (allI W) W := by
  intro p hp
  simp only [glbTab, List.mem_cons, List.not_mem_nil, or_false] at hp
  rcases hp with rfl | rfl
  · refine ip_of fun k c hk => ?_
    rw [List.getElem?_map] at hk
    obtain ⟨j, hj, rfl⟩ := Option.map_eq_some_iff.1 hk
    obtain ⟨hl, he⟩ := List.getElem?_eq_some_iff.1 hj
    simp at hl he
    subst he
    exact ⟨_, h.1 _ hl, rfl, sc_first _⟩
  · refine ip_of fun k c hk => ?_
    rw [List.range_eq_range'] at hk
    obtain ⟨i, _, h2, h3⟩ := pairs_get _ _ 16 0 k c hk
    have hi := h.2 i (by omega)
    rcases h3 with ⟨rfl, rfl⟩ | ⟨rfl, rfl⟩
    · exact ⟨_, hi.1, rfl, sc_lo _⟩
    · exact ⟨_, hi.2, rfl, sc_hi _⟩
noncomputable def laidWorld (os : Os) : World :=
  let w0 := World.holding Tryd.prog os ⟨#[], #[], []⟩
  let put (h : Array Obj) (g : Nat) (cs : Array Value) : Array Obj := h.modify g fun
    | .cells _ t frozen => .cells cs t frozen
    | o => o
  let h1 := put w0.heap 0 (Lib.firstTab.map fun z => Value.int .u8 z).toArray
  let h2 := put h1 1 ((List.range 16).flatMap fun i => [Value.int .u8 (Lib.accLo i), Value.int .u8 (Lib.accHi i)]).toArray
  { w0 with heap := h2 }
theorem uU8 : Tryd.prog.underlying 5 = some (.int .u8) := by kernel_rfl
theorem sU8 : Sees Tryd.prog 5 (fun x => ∃ n : Int, (IntKind.u8.min ≤ n ∧ n ≤ IntKind.u8.max) ∧ x = .lit (.int .u8 n)) := sees_int uU8
end Go.Proofs.YteonapeaaepipaaDoor
end

section
namespace Go.Proofs.YteonapeaaepipaaDoor
open Go Go.Proofs.YteonapeaaepipaaDoor.AL
attribute [local simp] dT_agg dT_nt dT_noTup dT_cells dT_one bs_toList bs_size strV dW_cells dW_agg dW_noTup dSm_cells dSm_agg dSm_noTup dOp_cells dOp_agg dOp_noTup dWs_cells dWs_one dWs_agg dWs_noTup dWs_nt
attribute [local simp] dW_nt dP_cells dP_agg dP_noTup dOld_cells dOld_agg dOld_noTup dOld_one
set_option maxRecDepth 20000
set_option maxHeartbeats 8000000
theorem dEv3_cells (e : Ev3) : (dEv3 e).cells = [.lit (.int .u16 e.s), .lit (.int .u16 e.a), dI e.o.k, dI e.o.a, dI e.o.c, .sl 5 (e.o.w.map dW)] := rfl
theorem dEv3_agg (e : Ev3) : (dEv3 e).isAgg = true := rfl
theorem dEv3_noTup (e : Ev3) : (AV.d (dEv3 e)).noTup = true := rfl
attribute [local simp] dEv3_cells dEv3_agg dEv3_noTup
/-! A writable list of streams. -/
theorem zsSm (l : List Sm) : ∀ e ∈ l.map dSm, e.cells.length = 2 := fun e he => by
  obtain ⟨s, _, rfl⟩ := List.mem_map.1 he; rfl
theorem flatSm (l : List Sm) : (D.flat (l.map dSm)).length = l.length * 2 := by rw [flat_len (zsSm l), List.length_map]
theorem onesSm (l : List Sm) : ∀ c ∈ wr (l.map dSm), c.one = true := wr_one fun c hc => by
  simp only [D.flat, List.mem_flatMap] at hc
  obtain ⟨e, he, hc⟩ := hc
  obtain ⟨s, _, rfl⟩ := List.mem_map.1 he
  exact one_Sm s c hc
theorem wrSm_at {l : List Sm} {i : Nat} (h : i < l.length) : ((wr (l.map dSm)).drop (i * 2)).take 2 = [.d (dWs l[i].w), .d (dI l[i].x)] ∧ (wr (l.map dSm))[i * 2]? = some (.d (dWs l[i].w)) ∧ (wr (l.map dSm))[i * 2 + 1]? = some (.d (dI l[i].x)) :=
  wr_at2 (zsSm l) (by rw [List.getElem?_map, List.getElem?_eq_getElem h]; rfl)
theorem wrSm_set {l : List Sm} {i : Nat} (s : Sm) (h : i < l.length) : ((wr (l.map dSm)).set (i * 2) (.d (dWs s.w))).set (i * 2 + 1) (.d (dI s.x)) = wr ((l.set i s).map dSm) := by
  rw [wr_set2 _ _ (zsSm l) (by simpa using h), List.map_set]; rfl
theorem elsSm (l : List Sm) : elsD 2 l.length (D.flat (l.map dSm)) = l.map dSm := by
  have := chunkD_wr (z := 2) (l.map dSm) (fun e he => ⟨by obtain ⟨s, _, rfl⟩ := List.mem_map.1 he; rfl, zsSm l e he⟩)
  rw [List.length_map] at this
  unfold elsD
  rw [if_neg (by decide), this]
/-- What holds of the streams while events come. -/
structure Rm (l now : List Sm) (hd : List Bool) (p d k at_ : Int) : Prop where
  len : now.length = l.length
  ok : ∀ j, (h : j < now.length) → eSm now[j] = 0
  st : ∀ j, (h : j < now.length) → (h2 : j < l.length) → (h3 : j < hd.length) → hd[j] = true → Upto ((k + 1) * d) l[j].w now[j].w ∧ (sinN ((k + 1) * d) l[j].w : Int) < stN now[j] p at_
theorem eSm_w {s : Sm} (h : eSm s = 0) : eSm ⟨s.w, 0⟩ = 0 := by
  obtain ⟨h1, h2, h3, h4⟩ := eSm_ok h
  exact eSm_of h1 (Int.le_refl _) (Int.natCast_nonneg _) h4
theorem Rm.init {l : List Sm} {hd : List Bool} {p t d k due : Int} (h : stE l hd p t d k due = 0 ∧ stV l hd p t d k due = 2) : Rm l l hd p d k t ∧ hd.length = l.length ∧ 0 < l.length ∧ l.length ≤ 16 ∧ chR d k = true ∧ (0 ≤ p ∧ p ≤ 1073741824) ∧ (0 ≤ t ∧ t < 1099511627776) := by
  obtain ⟨h1, h2, h3, h4, h5, h6⟩ := settled_iff.1 h
  have hpos : 0 < l.length := by
    rcases Nat.eq_zero_or_pos l.length with h0 | h0
    · have : hd = [] := List.eq_nil_of_length_eq_zero (by omega)
      subst this; simp [waitedN] at h5
    · exact h0
  obtain ⟨g1, g2⟩ := pE_ok (h3 0 hpos)
  obtain ⟨_, g3, g4⟩ := errP_ok g1
  refine ⟨⟨rfl, fun j hj => (errP_ok (pE_ok (h3 j hj)).1).1, fun j hj h2' h3' hh => ?_⟩, h2, hpos, h1, g2, g3, g4⟩
  have hp := h6 j h2' h3' hh
  simp only [pB, Bool.and_eq_true, decide_eq_true_eq] at hp
  refine ⟨upto_refl ?_, hp.2⟩
  have := (stN_ok (pE_ok (h3 j hj)).1).2.2.2
  omega
theorem Rm.later {l now : List Sm} {hd : List Bool} {p d k t t' : Int} (h : Rm l now hd p d k t) (hp : 0 ≤ p ∧ p ≤ 1073741824) (ht : 0 ≤ t ∧ t < 1099511627776) (ht' : t ≤ t' ∧ t' < 1099511627776) : Rm l now hd p d k t' :=
  ⟨h.len, h.ok, fun j hj h2 h3 hh => by
    obtain ⟨h4, h5⟩ := h.st j hj h2 h3 hh
    have := stN_later (errP_of (h.ok j hj) hp ht) (errP_of (h.ok j hj) hp ⟨by omega, ht'.2⟩) ht'.1
    exact ⟨h4, by omega⟩⟩
theorem Rm.step {l now : List Sm} {hd : List Bool} {p d k t : Int} (h : Rm l now hd p d k t) (hl : ∀ j, (h : j < l.length) → eSm l[j] = 0) {n : Nat} (hn : n < now.length) {o : Op} (ha : alW now[n] p t o = true) : Rm l (now.set n (doX now[n] o)) hd p d k t := by
  obtain ⟨r1, r2, r3, r4⟩ := remain_step ha
  refine ⟨by rw [List.length_set]; exact h.len, fun j hj => ?_, fun j hj h2 h3 hh => ?_⟩
  · rw [List.getElem_set]
    split
    · exact r1
    · exact h.ok j (by simpa using hj)
  · obtain ⟨h4, h5⟩ := h.st j (by simpa using hj) h2 h3 hh
    rw [List.getElem_set]
    split
    · rename_i e
      subst e
      have e1 := upto_sin (eSm_ok (hl n h2)).2.2.2 (eSm_ok (h.ok n hn)).2.2.2 h4 (Int.le_refl _)
      have e2 := upto_step (T := (k + 1) * d) ha (by rw [e1]; exact h5)
      exact ⟨upto_trans (eSm_ok (hl n h2)).2.2.2 (eSm_ok (h.ok n hn)).2.2.2 h4 e2, by omega⟩
    · exact ⟨h4, h5⟩
theorem Rm.still {l now : List Sm} {hd : List Bool} {p d k t due : Int} (h : Rm l now hd p d k t) (hl : ∀ j, (h : j < l.length) → eSm l[j] = 0) (h1 : l.length ≤ 16) (h2 : hd.length = l.length) (hr : chR d k = true) (hp : 0 ≤ p ∧ p ≤ 1073741824) (ht : 0 ≤ t ∧ t < 1099511627776) (hdue : 0 ≤ due ∧ due < 1099511627776) (hw : 0 < waitedN hd) :
    stE now hd p t d k due = 0 ∧ stV now hd p t d k due = 2 := by
  have hpe : ∀ j, (hj : j < now.length) → pE now[j] p t d k = 0 := fun j hj => by
    unfold pE; rw [if_pos (errP_of (h.ok j hj) hp ht), if_pos hr]
  refine settled_iff.2 ⟨by rw [h.len]; exact h1, by rw [h.len]; exact h2, hpe, hdue, hw, fun j hj h3 hh => ?_⟩
  obtain ⟨h4, h5⟩ := h.st j hj (by rw [← h.len]; exact hj) h3 hh
  have e1 := upto_sin (eSm_ok (hl j (by rw [← h.len]; exact hj))).2.2.2 (eSm_ok (h.ok j hj)).2.2.2 h4 (Int.le_refl _)
  simp only [pB, Bool.and_eq_true, decide_eq_true_eq]
  exact ⟨hpe j hj, by rw [e1]; exact h5⟩
end Go.Proofs.YteonapeaaepipaaDoor
end
