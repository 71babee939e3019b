/- Part of the proof: S234, S235, S236, S237, S238, S60, S239, S62. -/
import Derived.Test.YteonapeaaepipaaDoorCards
import Derived.Test.YteonapeaaepipaaDoorTie
import Derived.Deep.DeepHandedRow
import Derived.Deep.DeepWitnessRowRef
import Derived.Lib.LaidIn
import Derived.Lib.LaidU8
import Derived.ProofKit
import Derived.SizedLaws
import Derived.PinnedBridge
import Derived.SevenTiedAt
import Derived.Test.YteonapeaaepipaaDoorI
set_option linter.unnecessarySimpa false
set_option linter.unusedVariables false
set_option linter.unusedSimpArgs false
section
namespace Go.Proofs.YteonapeaaepipaaDoor
open Go Go.Proofs.YteonapeaaepipaaDoor.AL
attribute [local simp] dT_agg dT_nt dT_noTup dT_cells dT_one bs_toList bs_size strV dW_cells dW_agg dW_noTup dSm_cells dSm_agg dSm_noTup dOp_cells dOp_agg dOp_noTup dWs_cells dWs_one dWs_agg dWs_noTup dWs_nt
attribute [local simp] dPk_cells dPk_agg dPk_noTup dPk_nt dFd_cells dFd_agg dFd_noTup dFd_nt
set_option maxRecDepth 20000
set_option maxHeartbeats 4000000
theorem missL_len (b : Int) : ∀ (l : List Pk) (last : Int), okWt b last l = true → last ≤ b + 64 → ((missL (last + 1) l).length : Int) ≤ b + 64 - last
  | [], last, _, h => by simp [missL]; omega
  | p :: r, last, h, hb => by
    simp only [okWt, Bool.and_eq_true, decide_eq_true_eq] at h
    have := missL_len b r p.q h.2.2.2 h.2.2.1
    simp only [missL, List.length_append, upto_len]
    omega
theorem missL_ge : ∀ (l : List Pk) (b last : Int), okWt b last l = true → ∀ x ∈ missL (last + 1) l, last < x
  | [], _, _, _, x, h => by simp [missL] at h
  | p :: r, b, last, h, x, hx => by
    simp only [okWt, Bool.and_eq_true, decide_eq_true_eq] at h
    simp only [missL, List.mem_append] at hx
    rcases hx with hx | hx
    · have : ∀ (n : Nat) (a : Int), x ∈ upto a n → a ≤ x := by
        intro n
        induction n with
        | zero => intro a h; simp [upto] at h
        | succ n ih =>
          intro a h
          simp only [upto, List.mem_cons] at h
          rcases h with rfl | h
          · omega
          · have := ih _ h; omega
      have := this _ _ hx
      omega
    · have := missL_ge r b p.q h.2.2.2 x hx
      omega
theorem missSpec (f : Fd) : PCall Tryd.prog 9 [dFd f] (.ret (dB true)) := by
  refine pcall_of_vc hL18 c9 (by simp [a9]) fun hr => ?_
  simp [a9]
  refine vc_path [.ret (dB true)] ?_
  simp
  refine ⟨.sane, ?_⟩
  have h1 := C18a.few f
  have h2 := C18a.mis f
  have h3 := C18a.rmis f
  have h4 := C18a.ints (missF f) (missF f)
  rw [decide_eq_true rfl] at h4
  have hz : eFd f ≠ 0 → missF f = [] := fun h => by rw [missF, if_neg h]
  have hy : eFd f = 0 → missF f = missL f.n f.w := fun h => by rw [missF, if_pos h]
  cases hb1 : fewF f with
  | false =>
    rw [hb1] at h1
    refine vc_path [.ret (dB false)] ?_
    simp
    exact .of h1
  | true =>
    rw [hb1] at h1
    refine vc_path [.ret (dB true)] ?_
    simp
    refine ⟨.of h1, ?_⟩
    by_cases hv : eFd f = 0
    · obtain ⟨⟨n1, n2⟩, ⟨n3, n4⟩, n5, n6⟩ := eFd_ok hv
      rw [hv, hy hv] at h2 h3
      rw [hy hv] at h4
      generalize hl0 : missL f.n f.w = l0 at *
      refine vc_path [.ret (.tup [.sl 1 (l0.map dI), dI 0])] ?_
      simp
      refine ⟨.of h2, ?_⟩
      refine vc_path [.ret (.tup [.sl 1 (l0.map dI), dI 0])] ?_
      simp
      refine ⟨.of h3, ?_⟩
      refine vc_path [.ret (dB true)] ?_
      simp
      refine ⟨.of h4, ?_⟩
      have nn : okWt f.n (f.n - 1) f.w = true := by
        cases hw : f.w with
        | nil => rfl
        | cons p r =>
          rw [hw] at n6
          simp only [okWt, Bool.and_eq_true, decide_eq_true_eq] at n6 ⊢
          exact ⟨n6.1, by omega, n6.2.2⟩
      refine vc_loopK [1] (List Int × List Pk × Int) (fun x => [(3, true, .d (.sl 1 (x.1.map dI))), (7, true, .d (dI x.2.2))]) (fun x => [(0, .box true [.d (dI f.n), .d (.sl 6 (x.2.1.map dPk)), .d (.sl 5 (f.m.w.map dW)), .d (dI f.m.x), .d (dI f.r)])]) (fun x => okWt f.n (x.2.2 - 1) x.2.1 = true ∧ x.1 = missL x.2.2 x.2.1 ∧ f.n ≤ x.2.2 ∧ x.2.2 ≤ f.n + 65) (fun x => x.1.length + x.2.1.length) (l0, f.w, f.n) ⟨nn, hl0.symm, by show f.n ≤ f.n; omega, by show f.n ≤ f.n + 65; omega⟩ ⟨[], [], ?_⟩ (fun x hx => ?_)
      · simp
      obtain ⟨l, w, n⟩ := x
      obtain ⟨x1, x2, x3, x4⟩ := hx
      simp only at x1 x2 x3 x4
      have hll := missL_len f.n w (n - 1) x1 (by omega)
      rw [show n - 1 + 1 = n by omega, ← x2] at hll
      have hwl := okWt_len f.n w (n - 1) x1 (by omega)
      have hw0 : IntKind.i64.wrap ((l.length : Int) + w.length) = (l.length : Int) + w.length := wrap64 (by omega)
      simp [hw0]
      cases w with
      | nil =>
        simp only [missL] at x2
        subst x2
        simp
      | cons p r =>
        simp only [okWt, Bool.and_eq_true, decide_eq_true_eq] at x1
        by_cases hq : p.q = n
        · have e2 : l = missL (n + 1) r := by rw [x2, missL, hq, Int.sub_self]; rfl
          subst hq
          cases l with
          | nil =>
            simp
            refine vc_path [] ?_
            simp
            refine vc_path [] ?_
            simp
            refine ⟨by omega, [], r, p.q + 1, ⟨by rw [show p.q + 1 - 1 = p.q by omega]; exact x1.2.2.2, e2, by omega, by omega⟩, by simp, [], [], ?_⟩
            rw [wrap64 (by omega)]
            simp
            exact leD_of_eq (by rw [List.take_of_length_le (by simp)])
          | cons y ys =>
            have hg := missL_ge r f.n p.q x1.2.2.2 y (by rw [← e2]; simp)
            have hne : ¬ y = p.q := by omega
            simp
            refine fun _ => ?_
            refine vc_path [] ?_
            simp [hne]
            refine vc_path [] ?_
            simp
            refine ⟨by omega, y :: ys, r, p.q + 1, ⟨by rw [show p.q + 1 - 1 = p.q by omega]; exact x1.2.2.2, e2, by omega, by omega⟩, by simp, [], [], ?_⟩
            rw [wrap64 (by omega)]
            simp
            exact leD_of_eq (by rw [List.take_of_length_le (by simp)])
        · obtain ⟨k, hk⟩ : ∃ k : Nat, (p.q - n).toNat = k + 1 := ⟨(p.q - n).toNat - 1, by omega⟩
          have e2 : l = n :: missL (n + 1) (p :: r) := by
            rw [x2, missL, missL, hk, show (p.q - (n + 1)).toNat = k by omega]
            rfl
          generalize hl' : missL (n + 1) (p :: r) = l' at *
          subst e2
          simp
          refine fun _ => ?_
          refine vc_path [] ?_
          simp
          refine ⟨by omega, l', p :: r, n + 1, ⟨?_, hl'.symm, by omega, by omega⟩, by simp, [], [], ?_⟩
          · simp only [okWt, Bool.and_eq_true, decide_eq_true_eq]
            exact ⟨x1.1, by omega, x1.2.2⟩
          · rw [wrap64 (by omega)]
            simp
            exact leD_of_eq (by rw [List.take_of_length_le (by simp)])
    · rw [hz hv] at h2 h3 h4
      generalize eFd f = v at *
      refine vc_path [.ret (.tup [.sl 1 [], dI v])] ?_
      simp
      refine ⟨.of h2, ?_⟩
      refine vc_path [.ret (.tup [.sl 1 [], dI v])] ?_
      simp
      refine ⟨.of h3, ?_⟩
      refine vc_path [.ret (dB true)] ?_
      simp [hv]
      exact .of h4
end Go.Proofs.YteonapeaaepipaaDoor
end

section
namespace Go.Proofs.YteonapeaaepipaaDoor
open Go Go.Proofs.YteonapeaaepipaaDoor.AL
/-! Plain laws of feeds. -/
theorem runF_mono : ∀ (L : List Pk) (f : Fd), f.n ≤ (runF f L).n ∧ f.r ≤ (runF f L).r
  | [], f => ⟨Int.le_refl _, Int.le_refl _⟩
  | y :: r, f => by
    simp only [runF]
    split
    · have := runF_mono r (takeF f y.o)
      have h2 : (takeF f y.o).n = f.n + 1 := rfl
      have h3 : f.r ≤ (takeF f y.o).r := by
        show f.r ≤ (if doE f.m y.o = 0 then f.r else f.r + 1)
        split <;> omega
      omega
    · exact ⟨Int.le_refl _, Int.le_refl _⟩
theorem lb_cons {q : Int} {y : Pk} {r : List Pk} (h : y.q < q) : lb q (y :: r) = lb q r + 1 := by simp [lb, h]
theorem ins_cons {p y : Pk} {r : List Pk} (h : y.q < p.q) : insP p (y :: r) = y :: insP p r := by simp [insP, lb_cons h]
theorem ins_first {p y : Pk} {r : List Pk} (h : ¬ y.q < p.q) : insP p (y :: r) = p :: y :: r := by simp [insP, lb, h]
theorem ins_nil (p : Pk) : insP p [] = [p] := by simp [insP]
theorem mem_ins {p x : Pk} : ∀ L : List Pk, x ∈ insP p L ↔ x = p ∨ x ∈ L
  | [] => by simp [ins_nil]
  | y :: r => by
    by_cases h : y.q < p.q
    · rw [ins_cons h]
      simp only [List.mem_cons, mem_ins r]
      constructor
      · rintro (h | h | h)
        · exact .inr (.inl h)
        · exact .inl h
        · exact .inr (.inr h)
      · rintro (h | h | h)
        · exact .inr (.inl h)
        · exact .inl h
        · exact .inr (.inr h)
    · rw [ins_first h]
      simp only [List.mem_cons]
theorem run_ins (p : Pk) : ∀ (L : List Pk) (f : Fd), (∀ x ∈ L, x.q ≠ p.q) → f.n ≤ p.q → runF (runF f L) (insP p (runF f L).w) = runF f (insP p L) ∧ (runF f L).n ≤ p.q
  | [], f, _, h => ⟨runF_w [p] f [], h⟩
  | y :: r, f, hn, h => by
    by_cases hy : y.q = f.n
    · have h1 : y.q ≠ p.q := hn y (by simp)
      have e : runF f (y :: r) = runF (takeF f y.o) r := by simp only [runF]; rw [if_pos hy]
      have h2 : y.q < p.q := by omega
      have h3 : (takeF f y.o).n ≤ p.q := by show f.n + 1 ≤ p.q; omega
      have ih := run_ins p r (takeF f y.o) (fun x hx => hn x (by simp [hx])) h3
      rw [e, ins_cons h2]
      simp only [runF]
      rw [if_pos hy]
      exact ih
    · have e : runF f (y :: r) = { f with w := y :: r } := by simp only [runF]; rw [if_neg hy]
      rw [e]
      exact ⟨runF_w (insP p (y :: r)) f (y :: r), h⟩
theorem okWt_mono {b b' : Int} (hb : b ≤ b') : ∀ (l : List Pk) (last : Int), okWt b last l = true → okWt b' last l = true
  | [], _, _ => rfl
  | p :: r, last, h => by
    simp only [okWt, Bool.and_eq_true, decide_eq_true_eq] at h ⊢
    exact ⟨h.1, h.2.1, by omega, okWt_mono hb r p.q h.2.2.2⟩
theorem okWt_last {b last last' : Int} (hb : last' ≤ last) : ∀ (l : List Pk), okWt b last l = true → okWt b last' l = true
  | [], _ => rfl
  | p :: r, h => by
    simp only [okWt, Bool.and_eq_true, decide_eq_true_eq] at h ⊢
    exact ⟨h.1, by omega, h.2.2⟩
theorem do_ok {s : Sm} {o : Op} (h : doE s o = 0) : eSm (doX s o) = 0 := by
  have hx : doX s o = next s o := by simp [doX, h]
  rw [hx]
  unfold doE at h
  split at h
  · split at h
    · exact h
    · omega
  · omega
theorem eFd_of {f : Fd} (h1 : 0 ≤ f.n ∧ f.n ≤ 1048577) (h2 : 0 ≤ f.r ∧ f.r ≤ f.n) (h3 : eSm f.m = 0) (h4 : okWt f.n f.n f.w = true) : eFd f = 0 := by
  unfold eFd
  rw [if_pos ⟨h1, h2, h3, h4⟩]
theorem run_ok (b : Int) : ∀ (L : List Pk) (f : Fd), okWt b (f.n - 1) L = true → b ≤ f.n → 0 ≤ f.n ∧ f.n ≤ 1048577 → 0 ≤ f.r ∧ f.r ≤ f.n → eSm f.m = 0 → eFd (runF f L) = 0
  | [], f, _, _, h1, h2, h3 => by
    exact eFd_of (f := ⟨f.n, [], f.m, f.r⟩) h1 h2 h3 rfl
  | y :: r, f, h, hb, h1, h2, h3 => by
    have h0 := h
    simp only [okWt, Bool.and_eq_true, decide_eq_true_eq] at h
    by_cases hy : y.q = f.n
    · simp only [runF]
      rw [if_pos hy]
      have hp := h.1
      simp [okPk] at hp
      refine run_ok b r (takeF f y.o) ?_ ?_ ?_ ?_ ?_
      · show okWt b (f.n + 1 - 1) r = true
        rw [show f.n + 1 - 1 = y.q by omega]
        exact h.2.2.2
      · show b ≤ f.n + 1
        omega
      · show 0 ≤ f.n + 1 ∧ f.n + 1 ≤ 1048577
        omega
      · show 0 ≤ (if doE f.m y.o = 0 then f.r else f.r + 1) ∧ (if doE f.m y.o = 0 then f.r else f.r + 1) ≤ f.n + 1
        split <;> omega
      · show eSm (if doE f.m y.o = 0 then doX f.m y.o else f.m) = 0
        split
        · rename_i hd; exact do_ok hd
        · exact h3
    · simp only [runF]
      rw [if_neg hy]
      have : okWt f.n f.n (y :: r) = true := by
        have h4 := okWt_mono hb (y :: r) _ h0
        simp only [okWt, Bool.and_eq_true, decide_eq_true_eq] at h4 ⊢
        exact ⟨h4.1, by omega, h4.2.2⟩
      exact eFd_of (f := ⟨f.n, y :: r, f.m, f.r⟩) h1 h2 h3 this
theorem run_mem : ∀ (L : List Pk) (f : Fd) (p : Pk), p ∈ L → p.q < (runF f L).n ∨ p ∈ (runF f L).w
  | [], _, _, h => by simp at h
  | y :: r, f, p, h => by
    by_cases hy : y.q = f.n
    · simp only [runF]
      rw [if_pos hy]
      rcases List.mem_cons.1 h with rfl | h
      · left
        have h1 := (runF_mono r (takeF f p.o)).1
        have h2 : (takeF f p.o).n = f.n + 1 := rfl
        omega
      · exact run_mem r (takeF f y.o) p h
    · simp only [runF]
      rw [if_neg hy]
      exact .inr h
theorem run_sub : ∀ (L : List Pk) (f : Fd) (p : Pk), p ∈ (runF f L).w → p ∈ L
  | [], _, _, h => by simp [runF] at h
  | y :: r, f, p, h => by
    simp only [runF] at h
    split at h
    · exact List.mem_cons_of_mem _ (run_sub r _ p h)
    · exact h
theorem hit_mem {q : Int} {l : List Pk} (h : hit q l = true) : ∃ x ∈ l, x.q = q := by
  simp only [hit, Bool.and_eq_true, decide_eq_true_eq] at h
  have e : l.getD (lb q l) pk0 = l[lb q l]'h.1 := by simp [List.getD, h.1]
  exact ⟨l[lb q l]'h.1, List.getElem_mem _, by rw [← e]; exact h.2⟩
theorem mem_hit {b last : Int} {l : List Pk} {p : Pk} (hs : okWt b last l = true) (hm : p ∈ l) : hit p.q l = true ∧ l.getD (lb p.q l) pk0 = p := by
  obtain ⟨i, hi, rfl⟩ := List.getElem_of_mem hm
  have hl : lb l[i].q l = i := lb_is _ l i (by omega) (fun j hj hj2 => okWt_lt b l last hs j i hj hi) (fun _ => Int.le_refl _)
  have e : l.getD i pk0 = l[i] := by simp [List.getD, hi]
  constructor
  · simp only [hit, hl, e, Bool.and_eq_true, decide_eq_true_eq]
    exact ⟨hi, trivial⟩
  · rw [hl, e]
theorem put_in {f : Fd} {p : Pk} (h : eFd f = 0) (hp : okPk p = true) (hm : p.q < f.n ∨ p ∈ f.w) : putF f p = (f, 0) := by
  unfold putF
  rw [if_neg (by omega), if_neg (by simp [hp])]
  by_cases h1 : p.q < f.n
  · rw [if_pos h1]
  · rw [if_neg h1]
    have hm : p ∈ f.w := by
      rcases hm with h | h
      · omega
      · exact h
    obtain ⟨g1, g2⟩ := mem_hit (eFd_ok h).2.2.2 hm
    rw [if_pos g1, if_pos g2]
theorem put_new {f : Fd} {p : Pk} (h : eFd f = 0) (hp : okPk p = true) (h1 : f.n ≤ p.q) (h2 : p.q ≤ f.n + 64) (hm : ∀ x ∈ f.w, x.q ≠ p.q) : putF f p = (runF f (insP p f.w), 0) := by
  unfold putF
  rw [if_neg (by omega), if_neg (by simp [hp]), if_neg (by omega), if_neg (fun g => ?_), if_neg (by omega)]
  obtain ⟨x, hx, e⟩ := hit_mem g
  exact hm x hx e
theorem ins_ok (b : Int) (p : Pk) (hp : okPk p = true) (h2 : p.q ≤ b + 64) : ∀ (l : List Pk) (last : Int), okWt b last l = true → last < p.q → (∀ x ∈ l, x.q ≠ p.q) → okWt b last (insP p l) = true
  | [], last, _, h1, _ => by
    rw [ins_nil]
    simp only [okWt, Bool.and_eq_true, decide_eq_true_eq]
    exact ⟨hp, h1, h2, trivial⟩
  | y :: r, last, h, h1, hm => by
    have h0 := h
    simp only [okWt, Bool.and_eq_true, decide_eq_true_eq] at h
    have hy := hm y (by simp)
    by_cases hq : y.q < p.q
    · rw [ins_cons hq]
      simp only [okWt, Bool.and_eq_true, decide_eq_true_eq]
      exact ⟨h.1, h.2.1, h.2.2.1, ins_ok b p hp h2 r y.q h.2.2.2 hq (fun x hx => hm x (by simp [hx]))⟩
    · rw [ins_first hq]
      simp only [okWt, Bool.and_eq_true, decide_eq_true_eq]
      exact ⟨hp, h1, h2, h.1, by omega, h.2.2⟩
/-- What comes again changes nothing. -/
theorem put_twice {f x : Fd} {p : Pk} (h : eFd f = 0) (hx : putF f p = (x, 0)) : putF x p = (x, 0) ∧ eFd x = 0 ∧ f.n ≤ x.n ∧ f.r ≤ x.r ∧ (p.q < f.n → x = f) := by
  obtain ⟨⟨n1, n2⟩, ⟨n3, n4⟩, n5, n6⟩ := eFd_ok h
  have h0 := hx
  unfold putF at hx
  rw [if_neg (by omega)] at hx
  split at hx
  · exact absurd (congrArg Prod.snd hx) (show ¬ (1 : Int) = 0 by decide)
  rename_i hp
  have hp : okPk p = true := by simpa using hp
  split at hx
  · have e : f = x := congrArg Prod.fst hx
    subst e
    exact ⟨h0, h, Int.le_refl _, Int.le_refl _, fun _ => rfl⟩
  rename_i hq
  split at hx
  · split at hx
    · have e : f = x := congrArg Prod.fst hx
      subst e
      exact ⟨h0, h, Int.le_refl _, Int.le_refl _, fun _ => rfl⟩
    · exact absurd (congrArg Prod.snd hx) (show ¬ (181 : Int) = 0 by decide)
  rename_i hh
  split at hx
  · exact absurd (congrArg Prod.snd hx) (show ¬ (2 : Int) = 0 by decide)
  rename_i h64
  have e : runF f (insP p f.w) = x := congrArg Prod.fst hx
  have hnm : ∀ y ∈ f.w, y.q ≠ p.q := fun y hy he => hh (by rw [← he]; exact (mem_hit n6 hy).1)
  have hs : okWt f.n (f.n - 1) (insP p f.w) = true := ins_ok f.n p hp (by omega) f.w (f.n - 1) (okWt_last (by omega) f.w n6) (by omega) hnm
  have hv : eFd x = 0 := by rw [← e]; exact run_ok f.n _ f hs (Int.le_refl _) ⟨n1, n2⟩ ⟨n3, n4⟩ n5
  have hmo := runF_mono (insP p f.w) f
  rw [e] at hmo
  refine ⟨put_in hv hp ?_, hv, hmo.1, hmo.2, fun g => by omega⟩
  rw [← e]
  exact run_mem _ f p ((mem_ins f.w).2 (.inl rfl))
theorem put_err {f x : Fd} {p : Pk} {e : Int} (hx : putF f p = (x, e)) (he : e ≠ 0) : x = fd0 := by
  unfold putF at hx
  repeat' split at hx
  all_goals
    obtain ⟨h1, h2⟩ := Prod.mk.inj hx
    first | exact h1.symm | exact absurd h2.symm he
theorem sorted_ext : ∀ (L M : List Pk) (b last b' last' : Int), okWt b last L = true → okWt b' last' M = true → (∀ p, p ∈ L ↔ p ∈ M) → L = M
  | [], M, _, _, _, _, _, _, h => by
    cases M with
    | nil => rfl
    | cons y s => exact absurd ((h y).2 (by simp)) (by simp)
  | x :: r, [], _, _, _, _, _, _, h => absurd ((h x).1 (by simp)) (by simp)
  | x :: r, y :: s, b, last, b', last', h1, h2, h => by
    have lt1 : ∀ z ∈ r, x.q < z.q := fun z hz => by
      simp only [okWt, Bool.and_eq_true, decide_eq_true_eq] at h1
      obtain ⟨i, hi, rfl⟩ := List.getElem_of_mem hz
      exact (okWt_at b r x.q h1.2.2.2 i hi).2.1
    have lt2 : ∀ z ∈ s, y.q < z.q := fun z hz => by
      simp only [okWt, Bool.and_eq_true, decide_eq_true_eq] at h2
      obtain ⟨i, hi, rfl⟩ := List.getElem_of_mem hz
      exact (okWt_at b' s y.q h2.2.2.2 i hi).2.1
    have hx := (h x).1 (by simp)
    have hy := (h y).2 (by simp)
    have e : x = y := by
      rcases List.mem_cons.1 hx with e | hx
      · exact e
      · rcases List.mem_cons.1 hy with e | hy
        · exact e.symm
        · have := lt1 y hy
          have := lt2 x hx
          omega
    subst e
    have hrs : r = s := by
      simp only [okWt, Bool.and_eq_true, decide_eq_true_eq] at h1 h2
      refine sorted_ext r s _ _ _ _ h1.2.2.2 h2.2.2.2 fun p => ⟨fun hp => ?_, fun hp => ?_⟩
      · rcases List.mem_cons.1 ((h p).1 (by simp [hp])) with e | g
        · subst e; exact absurd (lt1 p hp) (by omega)
        · exact g
      · rcases List.mem_cons.1 ((h p).2 (by simp [hp])) with e | g
        · subst e; exact absurd (lt2 p hp) (by omega)
        · exact g
    rw [hrs]
end Go.Proofs.YteonapeaaepipaaDoor
end

section
namespace Go.Proofs.YteonapeaaepipaaDoor
open Go Go.Proofs.YteonapeaaepipaaDoor.AL
attribute [local simp] dT_agg dT_nt dT_noTup dT_cells dT_one bs_toList bs_size strV dW_cells dW_agg dW_noTup dSm_cells dSm_agg dSm_noTup dOp_cells dOp_agg dOp_noTup dWs_cells dWs_one dWs_agg dWs_noTup dWs_nt
attribute [local simp] dPk_cells dPk_agg dPk_noTup dPk_nt dFd_cells dFd_agg dFd_noTup dFd_nt
set_option maxRecDepth 20000
set_option maxHeartbeats 4000000
theorem same_true {x y : Fd} (h : x = y) : C18a 32 [dFd x, dFd y] (.ret (dB true)) := by
  have := C18a.same x y; rw [decide_eq_true h] at this; exact this
theorem put_is {f x : Fd} {p : Pk} {e : Int} (h : putF f p = (x, e)) : C18a 30 [dFd f, dPk p] (.ret (.tup [dFd x, dI e])) := by
  have := C18a.put f p; rw [h] at this; exact this
theorem chk_is {f : Fd} {e : Int} (h : eFd f = e) : C18a 35 [dFd f] (.ret (dI e)) := by
  have := C18a.chk f; rw [h] at this; exact this
theorem twice (f : Fd) (p : Pk) : PCall Tryd.prog 12 [dFd f, dPk p] (.ret (dB true)) := by
  refine pcall_of_vc hL18 c12 (by simp [a12]) fun hr => ?_
  simp [a12]
  refine vc_path [.ret (dB true)] ?_
  simp
  refine ⟨.sane, ?_⟩
  have h1 := C18a.few f
  have h2 := C18a.fewP p
  have h3 := C18a.rchk f
  cases hb1 : fewF f with
  | false =>
    rw [hb1] at h1
    refine vc_path [.ret (dB false)] ?_
    simp
    exact .of h1
  | true =>
    rw [hb1] at h1
    cases hb2 : fewB p.o.w with
    | false =>
      rw [hb2] at h2
      refine vc_path [.ret (dB true), .ret (dB false)] ?_
      simp
      exact ⟨.of h1, .of h2⟩
    | true =>
      rw [hb2] at h2
      by_cases hlen : 80 < (f.m.w.length : Int)
      · refine vc_path [.ret (dB true), .ret (dB true)] ?_
        simp [hlen]
        exact ⟨.of h1, .of h2⟩
      by_cases hv : eFd f = 0
      · rw [hv] at h3
        refine vc_path [.ret (dB true), .ret (dB true), .ret (dI 0)] ?_
        simp [hlen]
        refine ⟨.of h1, .of h2, .of h3, ?_⟩
        obtain ⟨x, hx⟩ : ∃ x, (putF f p).1 = x := ⟨_, rfl⟩
        obtain ⟨e, he⟩ : ∃ e, (putF f p).2 = e := ⟨_, rfl⟩
        have hp : putF f p = (x, e) := Prod.ext hx he
        refine vc_path [.ret (.tup [dFd x, dI e])] ?_
        simp
        refine ⟨.of (put_is hp), ?_⟩
        by_cases h0 : e = 0
        · subst h0
          obtain ⟨t1, t2, t3, t4, t5⟩ := put_twice hv hp
          simp
          refine vc_path [.ret (.tup [dFd x, dI 0])] ?_
          simp
          refine ⟨.of (put_is t1), ?_⟩
          refine vc_path [.ret (dB true), .ret (dI 0)] ?_
          simp [show ¬ x.n < f.n by omega, show ¬ x.r < f.r by omega]
          refine ⟨.of (same_true rfl), .of (chk_is t2), ?_⟩
          by_cases hq : f.n ≤ p.q
          · refine vc_path [] ?_
            simp [hq]
          · refine vc_path [.ret (dB true)] ?_
            simp [hq]
            exact .of (same_true (t5 (by omega)))
        · have := put_err hp h0
          subst this
          simp [h0]
          refine vc_path [.ret (dB true)] ?_
          simp
          exact .mk (.mk (same_true (x := fd0) (y := fd0) rfl) (.cons (leD_of_eq rfl) (.cons nilFd .nil)))
      · generalize eFd f = v at *
        refine vc_path [.ret (dB true), .ret (dB true), .ret (dI v)] ?_
        simp [hlen, hv]
        exact ⟨.of h1, .of h2, .of h3⟩
end Go.Proofs.YteonapeaaepipaaDoor
end

section
namespace Go.Proofs.YteonapeaaepipaaDoor
open Go Go.Proofs.YteonapeaaepipaaDoor.AL
attribute [local simp] dT_agg dT_nt dT_noTup dT_cells dT_one bs_toList bs_size strV dW_cells dW_agg dW_noTup dSm_cells dSm_agg dSm_noTup dOp_cells dOp_agg dOp_noTup dWs_cells dWs_one dWs_agg dWs_noTup dWs_nt
attribute [local simp] dPk_cells dPk_agg dPk_noTup dPk_nt dFd_cells dFd_agg dFd_noTup dFd_nt
set_option maxRecDepth 20000
set_option maxHeartbeats 4000000
/-- Packets numbered from 0 on. -/
structure Num (P : List Pk) : Prop where
  q : ∀ (j : Nat) (h : j < P.length), P[j].q = j
  ok : ∀ p ∈ P, okPk p = true
  len : P.length ≤ 12
theorem num_of {l : List Op} (h : okPks l = true) : Num (pkN 0 l) := by
  simp only [okPks, Bool.and_eq_true, decide_eq_true_eq] at h
  have hl := pkN_len 0 l
  refine ⟨fun j hj => ?_, fun p hp => ?_, by omega⟩
  · rw [pkN_at 0 l j (by omega) hj]
    show (0 : Int) + j = j
    omega
  · have := List.all_eq_true.1 h.2 p hp
    simp only [Bool.and_eq_true] at this
    exact this.2
theorem Num.inj {P : List Pk} (h : Num P) {x y : Pk} (hx : x ∈ P) (hy : y ∈ P) (e : x.q = y.q) : x = y := by
  obtain ⟨i, hi, rfl⟩ := List.getElem_of_mem hx
  obtain ⟨j, hj, rfl⟩ := List.getElem_of_mem hy
  rw [h.q i hi, h.q j hj] at e
  have : i = j := by omega
  subst this
  rfl
theorem Num.bd {P : List Pk} (h : Num P) {x : Pk} (hx : x ∈ P) : 0 ≤ x.q ∧ x.q ≤ 11 := by
  obtain ⟨i, hi, rfl⟩ := List.getElem_of_mem hx
  rw [h.q i hi]
  have := h.len
  omega
/-- Some of them, in order. -/
structure Some' (P L : List Pk) : Prop where
  s : okWt 0 (-1) L = true
  m : ∀ x ∈ L, x ∈ P
theorem Some'.nil (P : List Pk) : Some' P [] := ⟨rfl, fun x h => by simp at h⟩
theorem esm0 : eSm ⟨[], 0⟩ = 0 := by decide
theorem Some'.e {P L : List Pk} (h : Some' P L) : eFd (runF fd0 L) = 0 := run_ok 0 L fd0 h.s (Int.le_refl _) ⟨by decide, by decide⟩ ⟨by decide, by decide⟩ esm0
theorem Some'.step {P L : List Pk} (hP : Num P) (h : Some' P L) {p : Pk} (hp : p ∈ P) : ∃ L', Some' P L' ∧ (∀ x, x ∈ L' ↔ x = p ∨ x ∈ L) ∧ putF (runF fd0 L) p = (runF fd0 L', 0) := by
  have hb := hP.bd hp
  by_cases hm : p ∈ L
  · exact ⟨L, h, fun x => ⟨.inr, fun g => g.elim (fun e => e ▸ hm) id⟩, put_in h.e (hP.ok p hp) (run_mem L fd0 p hm)⟩
  · have hn : ∀ x ∈ L, x.q ≠ p.q := fun x hx e => hm (hP.inj (h.m x hx) hp e ▸ hx)
    obtain ⟨r1, r2⟩ := run_ins p L fd0 hn hb.1
    have h0 := (runF_mono L fd0).1
    have h00 : fd0.n = 0 := rfl
    refine ⟨insP p L, ⟨ins_ok 0 p (hP.ok p hp) (by omega) L (-1) h.s (by omega) hn, fun x hx => ?_⟩, fun x => mem_ins L, ?_⟩
    · rcases (mem_ins L).1 hx with e | g
      · rw [e]; exact hp
      · exact h.m x g
    · rw [put_new h.e (hP.ok p hp) r2 (by omega) (fun x hx => hn x (run_sub L fd0 x hx)), r1]
theorem Num.sorted {P : List Pk} (h : Num P) : okWt 0 (-1) P = true := by
  have : ∀ (k : Nat) (L : List Pk), L = P.drop k → okWt 0 ((k : Int) - 1) L = true := by
    intro k L
    induction L generalizing k with
    | nil => intro _; rfl
    | cons y r ih =>
      intro e
      have hk : k < P.length := by
        have := congrArg List.length e
        simp at this
        omega
      rw [List.drop_eq_getElem_cons hk] at e
      obtain ⟨e1, e2⟩ := List.cons.inj e
      have hq := h.q k hk
      rw [← e1] at hq
      have := ih (k + 1) e2
      simp only [okWt, Bool.and_eq_true, decide_eq_true_eq]
      have hl := h.len
      refine ⟨h.ok y (by rw [e1]; exact List.getElem_mem _), by omega, by omega, ?_⟩
      rw [hq]
      push_cast at this
      rw [show (k : Int) + 1 - 1 = k by omega] at this
      exact this
  exact this 0 P rfl
theorem Some'.all {P L : List Pk} (hP : Num P) (h : Some' P L) (ha : ∀ x ∈ P, x ∈ L) : L = P := sorted_ext L P 0 (-1) 0 (-1) h.s hP.sorted fun p => ⟨h.m p, ha p⟩
/-- What the ops make. -/
theorem run_num {P : List Pk} (hP : Num P) (k : Nat) (hk : k < P.length) (f : Fd) (hf : f.n = k) : runF f (P.drop k) = runF (takeF f P[k].o) (P.drop (k + 1)) := by
  rw [List.drop_eq_getElem_cons hk]
  simp only [runF]
  rw [if_pos (by rw [hP.q k hk, hf])]
def dU (c : Int) : D := .lit (.int .u8 c)
theorem sm_true {x y : Sm} (h : x = y) : C18a 41 [dSm x, dSm y] (.ret (dB true)) := by
  have := C18a.sm x y; rw [decide_eq_true h] at this; exact this
theorem order (l : List Op) (o : List Int) (ho : ∀ c ∈ o, 0 ≤ c ∧ c ≤ 255) : PCall Tryd.prog 10 [.sl 4 (l.map dOp), .sl 1 (o.map dU)] (.ret (dB true)) := by
  refine pcall_of_vc hL18 c10 (by simp [a10]) fun hr => ?_
  simp [a10]
  refine vc_path [.ret (dB true)] ?_
  simp
  refine ⟨.sane, ?_⟩
  have h1 := C18a.packs l
  cases hb1 : okPks l with
  | false =>
    rw [hb1] at h1
    refine vc_path [.ret (.tup [.sl 6 [], dB false])] ?_
    simp
    refine ⟨.of h1, ?_⟩
    refine vc_path [] ?_
    simp
  | true =>
    rw [hb1] at h1
    have hP := num_of hb1
    simp only [if_pos] at h1
    generalize pkN 0 l = P at *
    refine vc_path [.ret (.tup [.sl 6 (P.map dPk), dB true])] ?_
    simp
    refine ⟨.of h1, ?_⟩
    have hl := hP.len
    by_cases h60 : 60 < (o.length : Int)
    · refine vc_path [] ?_
      simp [h60]
    refine vc_path [] ?_
    simp [h60]
    refine vc_path [.ret (dFd fd0)] ?_
    have hw0 : IntKind.i64.wrap ((o.length : Int) + P.length) = (o.length : Int) + P.length := wrap64 (by omega)
    simp [hw0]
    refine ⟨.of .new, ?_⟩
    refine vc_loopK [1, 4, 5, 7, 8, 9, 38] (Nat × List Pk × Fd) (fun x => [(39, true, .d (dI x.1))]) (fun x => [(0, .box true [.d (dI x.2.2.n), .d (.sl 6 (x.2.2.w.map dPk)), .d (.sl 5 (x.2.2.m.w.map dW)), .d (dI x.2.2.m.x), .d (dI x.2.2.r)])]) (fun x => x.1 ≤ o.length + P.length ∧ Some' P x.2.1 ∧ x.2.2 = runF fd0 x.2.1 ∧ ∀ (j : Nat), (h : j < P.length) → j + o.length < x.1 → P[j] ∈ x.2.1) (fun x => o.length + P.length - x.1) (0, [], fd0) ⟨Nat.zero_le _, Some'.nil P, rfl, fun j h h2 => absurd h2 (by simp)⟩ ⟨[], [], ?_⟩ (fun x hx => ?_)
    · simp
    obtain ⟨i, L, g⟩ := x
    obtain ⟨x1, x2, x3, x4⟩ := hx
    simp only at x1 x2 x3 x4
    have hw1 : IntKind.i64.wrap ((i : Int) - o.length) = (i : Int) - o.length := wrap64 (by omega)
    simp [hw1]
    refine ⟨fun hlt => ?_, fun hge => ?_⟩
    · by_cases hi : i < o.length
      · by_cases hz : P.length = 0
        · refine vc_path [] ?_
          simp [show (i : Int) - o.length < 0 by omega, hz]
          refine ⟨i + 1, L, g, ⟨by omega, x2, x3⟩, by omega, [], [], ?_⟩
          rw [wrap64 (by omega)]
          simp
        · have hoi := ho o[i] (List.getElem_mem hi)
          have hwo : IntKind.i64.wrap o[i] = o[i] := wrap64 (by omega)
          obtain ⟨k, hk⟩ : ∃ k : Nat, Int.tmod o[i] (P.length : Int) = k := ⟨(Int.tmod o[i] (P.length : Int)).toNat, by
            rw [Int.toNat_of_nonneg (Int.tmod_nonneg _ hoi.1)]⟩
          have hkl : k < P.length := by
            have : (k : Int) < P.length := by rw [← hk]; exact Int.tmod_lt_of_pos _ (by omega)
            omega
          obtain ⟨L', s1, s2, s3⟩ := x2.step hP (List.getElem_mem hkl)
          rw [← x3] at s3
          generalize hg' : runF fd0 L' = g' at s3
          refine vc_path [] ?_
          simp [show (i : Int) - o.length < 0 by omega, show 0 < P.length by omega]
          simp [hi, dU, hwo, hk, show ¬ (k : Int) < 0 by omega]
          refine ⟨fun h => by simp [h] at hz, ?_⟩
          refine vc_pathD [.ret (.tup [dFd g', dI 0])] ?_
          simp [hkl]
          refine ⟨.of (put_is s3), rfl, i + 1, L', g', ⟨by omega, s1, hg'.symm, fun j hj hj2 => absurd hj2 (by omega)⟩, by omega, [], [], ?_⟩
          rw [wrap64 (by omega)]
          simp
      · obtain ⟨k, hk⟩ : ∃ k : Nat, (i : Int) - o.length = k := ⟨i - o.length, by omega⟩
        have hkl : k < P.length := by omega
        obtain ⟨L', s1, s2, s3⟩ := x2.step hP (List.getElem_mem hkl)
        rw [← x3] at s3
        generalize hg' : runF fd0 L' = g' at s3
        refine vc_path [] ?_
        simp [show ¬ (i : Int) - o.length < 0 by omega]
        refine vc_pathD [.ret (.tup [dFd g', dI 0])] ?_
        simp [hk, hkl]
        refine ⟨.of (put_is s3), rfl, i + 1, L', g', ⟨by omega, s1, hg'.symm, fun j hj hj2 => ?_⟩, by omega, [], [], ?_⟩
        · by_cases e : j = k
          · subst e; exact (s2 _).2 (.inl rfl)
          · exact (s2 _).2 (.inr (x4 j hj (by omega)))
        · rw [wrap64 (by omega)]
          simp
    · have hL : L = P := x2.all hP fun y hy => by
        obtain ⟨j, hj, rfl⟩ := List.getElem_of_mem hy
        exact x4 j hj (by omega)
      rw [hL] at x3
      have he : eFd g = 0 := by rw [x3]; exact Some'.e ⟨hP.sorted, fun _ h => h⟩
      refine vc_loopK [4, 5, 7, 8, 76, 77] (Nat × Sm × Int) (fun y => [(78, true, .d (dI y.1)), (9, true, .d (dI y.2.2))]) (fun y => [(1, .box true [.d (.sl 5 (y.2.1.w.map dW)), .d (dI y.2.1.x)])]) (fun y => y.1 ≤ P.length ∧ runF ⟨y.1, [], y.2.1, y.2.2⟩ (P.drop y.1) = g ∧ 0 ≤ y.2.2 ∧ y.2.2 ≤ y.1) (fun y => P.length - y.1) (0, ⟨[], 0⟩, 0) ⟨Nat.zero_le _, x3.symm, Int.le_refl _, Int.le_refl _⟩ ⟨[], [], ?_⟩ (fun y hy => ?_)
      · simp
      obtain ⟨j, s, r⟩ := y
      obtain ⟨y1, y2, y3, y4⟩ := hy
      simp only at y1 y2 y3 y4
      simp
      refine ⟨fun jlt => ?_, fun jge => ?_⟩
      · have hrn := run_num hP j jlt ⟨j, [], s, r⟩ rfl
        rw [y2] at hrn
        have ht : takeF ⟨j, [], s, r⟩ P[j].o = ⟨j + 1, [], if doE s P[j].o = 0 then doX s P[j].o else s, if doE s P[j].o = 0 then r else r + 1⟩ := rfl
        rw [ht] at hrn
        have hdo := C18a.run s P[j].o
        generalize doE s P[j].o = de at *
        generalize doX s P[j].o = dx at *
        simp [jlt]
        refine vc_path [.ret (.tup [dSm dx, dI de])] ?_
        simp
        refine ⟨.of hdo, fun hd => ⟨j + 1, dx, r, ⟨by omega, ?_, y3, by push_cast; omega⟩, by omega, [], [], ?_⟩, fun hd => ⟨j + 1, s, r + 1, ⟨by omega, ?_, by omega, by push_cast; omega⟩, by omega, [], [], ?_⟩⟩
        · rw [if_pos hd, if_pos hd] at hrn
          exact hrn.symm
        · rw [wrap64 (by omega)]
          simp
        · rw [if_neg hd, if_neg hd] at hrn
          exact hrn.symm
        · rw [wrap64 (by omega), wrap64 (by omega)]
          simp
      · have hj : P.length ≤ j := by omega
        rw [List.drop_eq_nil_of_le hj] at y2
        simp only [runF] at y2
        subst y2
        have hjl : j = P.length := by omega
        refine vc_path [.ret (dB true), .ret (dI 0)] ?_
        simp [hjl]
        rw [hjl] at he
        exact ⟨.of (sm_true (x := s) (y := s) rfl), .of (chk_is (f := ⟨P.length, [], s, r⟩) he)⟩
end Go.Proofs.YteonapeaaepipaaDoor
end

section
namespace Go.Proofs.YteonapeaaepipaaDoor
open Go Go.Proofs.YteonapeaaepipaaDoor.AL
attribute [local simp] dT_agg dT_nt dT_noTup dT_cells dT_one bs_toList bs_size strV dW_cells dW_agg dW_noTup dSm_cells dSm_agg dSm_noTup dOp_cells dOp_agg dOp_noTup dWs_cells dWs_one dWs_agg dWs_noTup dWs_nt
attribute [local simp] dPk_cells dPk_agg dPk_noTup dPk_nt dFd_cells dFd_agg dFd_noTup dFd_nt
set_option maxRecDepth 20000
set_option maxHeartbeats 4000000
theorem turn_all {n k t : Nat} (hk : k < n) : ∃ j, j < n ∧ (n - 1 - j + t) % n = k := by
  refine ⟨(n - 1 + t - k) % n, Nat.mod_lt _ (by omega), ?_⟩
  have h1 := Nat.div_add_mod (n - 1 + t - k) n
  have h2 := Nat.mod_lt (n - 1 + t - k) (show n > 0 by omega)
  generalize (n - 1 + t - k) % n = j at *
  generalize (n - 1 + t - k) / n = q at *
  have : n - 1 - j + t = k + n * q := by omega
  rw [this, Nat.add_mul_mod_self_left, Nat.mod_eq_of_lt hk]
theorem set_ (l : List Op) (so tu : Int) (hs : 0 ≤ so ∧ so ≤ 65535) (ht : 0 ≤ tu ∧ tu ≤ 255) : PCall Tryd.prog 11 [.sl 4 (l.map dOp), .lit (.int .u16 so), .lit (.int .u8 tu)] (.ret (dB true)) := by
  refine pcall_of_vc hL18 c11 (by simp [a11]) fun hr => ?_
  obtain ⟨t, rfl⟩ : ∃ t : Nat, tu = t := ⟨tu.toNat, by omega⟩
  simp [a11]
  refine vc_path [.ret (dB true)] ?_
  simp
  refine ⟨.sane, ?_⟩
  have h1 := C18a.packs l
  cases hb1 : okPks l with
  | false =>
    rw [hb1] at h1
    refine vc_path [.ret (.tup [.sl 6 [], dB false])] ?_
    simp
    exact .of h1
  | true =>
    rw [hb1] at h1
    have hP := num_of hb1
    simp only [if_pos] at h1
    generalize pkN 0 l = P at *
    refine vc_path [.ret (.tup [.sl 6 (P.map dPk), dB true])] ?_
    simp
    refine ⟨.of h1, ?_⟩
    have hl := hP.len
    refine vc_loopK [1, 2, 6, 28, 29] (Nat × List Pk) (fun x => [(30, true, .d (dI x.1)), (9, true, .own 0 6 (x.2.map dPk))]) (fun x => [(0, .row)]) (fun x => x.1 ≤ P.length ∧ (∀ y ∈ x.2, y ∈ P) ∧ x.2.length ≤ x.1) (fun x => P.length - x.1) (0, []) ⟨Nat.zero_le _, fun y h => by simp at h, Nat.le_refl _⟩ ⟨[], [(0, 6)], ?_⟩ (fun x hx => ?_)
    · simp
    obtain ⟨i, own⟩ := x
    obtain ⟨x1, x2, x3⟩ := hx
    simp only at x1 x2 x3
    simp
    refine ⟨fun hlt => ?_, fun hge => ?_⟩
    · simp [hlt]
      obtain ⟨m, hm⟩ : ∃ m, shiftV false .u16 so i = .int .u16 m := ⟨_, rfl⟩
      simp [hm]
      refine ⟨fun _ => ⟨⟨by omega, by omega⟩, i + 1, own ++ [P[i]], ⟨by omega, fun y hy => ?_, by simp; omega⟩, by omega, [(0, 3)], [], ?_⟩, fun _ => ⟨i + 1, own, ⟨by omega, x2, by omega⟩, by omega, [], [], ?_⟩⟩
      · rcases List.mem_append.1 hy with h | h
        · exact x2 y h
        · rw [List.mem_singleton.1 h]; exact List.getElem_mem _
      · rw [wrap64 (by omega)]
        simp
        rfl
      · rw [wrap64 (by omega)]
        simp
    · have hon : own.length ≤ 12 := by omega
      refine vc_path [.ret (dFd fd0), .ret (dFd fd0)] ?_
      simp
      refine ⟨.of .new, ?_⟩
      refine vc_loopK [2, 6, 12, 13, 48] (Nat × (List Pk × Fd) × (List Pk × Fd)) (fun x => [(49, true, .d (dI x.1)), (9, true, .d (.sl 6 (own.map dPk)))]) (fun x => [(1, .box true [.d (dI x.2.1.2.n), .d (.sl 6 (x.2.1.2.w.map dPk)), .d (.sl 5 (x.2.1.2.m.w.map dW)), .d (dI x.2.1.2.m.x), .d (dI x.2.1.2.r)]), (2, .box true [.d (dI x.2.2.2.n), .d (.sl 6 (x.2.2.2.w.map dPk)), .d (.sl 5 (x.2.2.2.m.w.map dW)), .d (dI x.2.2.2.m.x), .d (dI x.2.2.2.r)])]) (fun x => x.1 ≤ own.length ∧ (Some' P x.2.1.1 ∧ x.2.1.2 = runF fd0 x.2.1.1 ∧ (∀ y ∈ x.2.1.1, y ∈ own) ∧ ∀ (j : Nat), (h : j < own.length) → j < x.1 → own[j] ∈ x.2.1.1) ∧ Some' P x.2.2.1 ∧ x.2.2.2 = runF fd0 x.2.2.1 ∧ (∀ y ∈ x.2.2.1, y ∈ own) ∧ ∀ (j : Nat), (h : (own.length - 1 - j + t) % own.length < own.length) → j < x.1 → own[(own.length - 1 - j + t) % own.length] ∈ x.2.2.1) (fun x => own.length - x.1) (0, ([], fd0), ([], fd0)) ⟨Nat.zero_le _, ⟨Some'.nil P, rfl, fun y h => by simp at h, fun j h h2 => absurd h2 (by simp)⟩, Some'.nil P, rfl, fun y h => by simp at h, fun j h h2 => absurd h2 (by simp)⟩ ⟨[], [], ?_⟩ (fun x hx => ?_)
      · simp
      obtain ⟨k, ⟨La, ga⟩, ⟨Lb, gb⟩⟩ := x
      obtain ⟨y1, ⟨a1, a2, a3, a4⟩, b1, b2, b3, b4⟩ := hx
      simp only at y1 a1 a2 a3 a4 b1 b2 b3 b4
      simp
      refine ⟨fun klt => ?_, fun kge => ?_⟩
      · have hmod := Nat.mod_lt (own.length - 1 - k + t) (show own.length > 0 by omega)
        obtain ⟨La', c1, c2, c3⟩ := a1.step hP (x2 _ (List.getElem_mem klt))
        obtain ⟨Lb', d1, d2, d3⟩ := b1.step hP (x2 _ (List.getElem_mem hmod))
        rw [← a2] at c3
        rw [← b2] at d3
        generalize hga : runF fd0 La' = ga' at c3
        generalize hgb : runF fd0 Lb' = gb' at d3
        have w1 : IntKind.i64.wrap ((own.length : Int) - 1) = (own.length : Int) - 1 := wrap64 (by omega)
        have w2 : IntKind.i64.wrap ((own.length : Int) - 1 - k) = (own.length : Int) - 1 - k := wrap64 (by omega)
        have w3 : IntKind.i64.wrap (t : Int) = t := wrap64 (by omega)
        have w4 : IntKind.i64.wrap ((own.length : Int) - 1 - k + t) = (own.length : Int) - 1 - k + t := wrap64 (by omega)
        have w5 : Int.tmod ((own.length : Int) - 1 - k + t) own.length = ((own.length - 1 - k + t) % own.length : Nat) := by
          rw [show (own.length : Int) - 1 - k + t = ((own.length - 1 - k + t : Nat) : Int) by omega]
          rfl
        have w6 : IntKind.i64.wrap (((own.length - 1 - k + t) % own.length : Nat) : Int) = ((own.length - 1 - k + t) % own.length : Nat) := wrap64 (by omega)
        generalize hmm : (own.length - 1 - k + t) % own.length = mm at *
        refine vc_pathD [.ret (.tup [dFd ga', dI 0])] ?_
        simp [klt]
        refine ⟨.of (put_is c3), rfl, ?_⟩
        refine vc_pathD [.ret (.tup [dFd gb', dI 0])] ?_
        simp [w1, w2, w3, w4, w5, w6, hmod]
        refine ⟨fun h => by simp [h] at klt, .of (put_is d3), rfl, ?_⟩
        refine vc_path [] ?_
        simp
        refine ⟨rfl, k + 1, La', ga', Lb', gb', ⟨by omega, ⟨c1, hga.symm, fun y hy => ?_, fun j hj hj2 => ?_⟩, d1, hgb.symm, fun y hy => ?_, fun j hj hj2 => ?_⟩, by omega, [], [], ?_⟩
        · rcases (c2 y).1 hy with h | h
          · rw [h]; exact List.getElem_mem _
          · exact a3 y h
        · by_cases e : j = k
          · subst e; exact (c2 _).2 (.inl rfl)
          · exact (c2 _).2 (.inr (a4 j hj (by omega)))
        · rcases (d2 y).1 hy with h | h
          · rw [h]; exact List.getElem_mem _
          · exact b3 y h
        · by_cases e : j = k
          · subst e; simp only [hmm]; exact (d2 _).2 (.inl rfl)
          · exact (d2 _).2 (.inr (b4 j hj (by omega)))
        · rw [wrap64 (by omega)]
          simp
      · have hk : own.length ≤ k := by omega
        have hLL : La = Lb := sorted_ext La Lb 0 (-1) 0 (-1) a1.s b1.s fun y => ⟨fun h => by
            obtain ⟨m, hm, rfl⟩ := List.getElem_of_mem (a3 y h)
            obtain ⟨j, j1, j2⟩ := turn_all (t := t) hm
            have := b4 j (by omega) (by omega)
            simp only [j2] at this
            exact this, fun h => by
            obtain ⟨m, hm, rfl⟩ := List.getElem_of_mem (b3 y h)
            exact a4 m hm (by omega)⟩
        have hgg : ga = gb := by rw [a2, b2, hLL]
        refine vc_path [.ret (dB true)] ?_
        simp
        exact .of (same_true hgg)
end Go.Proofs.YteonapeaaepipaaDoor
end

section
namespace Go.Proofs.YteonapeaaepipaaDoor
open Go Go.Proofs.YteonapeaaepipaaDoor.AL
noncomputable def fsOf (t : TypeId) : Array Field := match Tryd.prog.underlying t with
  | some (.struct fs) => fs
  | _ => #[]
noncomputable def fld (t : TypeId) (i : Nat) : Field := (fsOf t).getD i ⟨ "", 0, 0, false, "", "", 0⟩
theorem uWd : Tryd.prog.underlying 46 = some (.struct #[fld 46 0, fld 46 1, fld 46 2, fld 46 3, fld 46 4]) := by kernel_rfl
theorem uSm : Tryd.prog.underlying 24 = some (.struct #[fld 24 0, fld 24 1]) := by kernel_rfl
theorem uOp : Tryd.prog.underlying 51 = some (.struct #[fld 51 0, fld 51 1, fld 51 2, fld 51 3]) := by kernel_rfl
theorem uInt : Tryd.prog.underlying 3 = some (.int .i64) := by kernel_rfl
theorem uBool : Tryd.prog.underlying 4 = some .bool := by kernel_rfl
theorem uStr : Tryd.prog.underlying 9 = some .string := by kernel_rfl
theorem uStrs : Tryd.prog.underlying 44 = some (.slice 9) := by kernel_rfl
theorem uWds : Tryd.prog.underlying 22 = some (.slice 46) := by kernel_rfl
theorem zInt : Tryd.prog.cellsOf 3 = 1 := by kernel_rfl
theorem zStr : Tryd.prog.cellsOf 9 = 1 := by kernel_rfl
theorem zStrs : Tryd.prog.cellsOf 44 = 1 := by kernel_rfl
theorem zWds : Tryd.prog.cellsOf 22 = 1 := by kernel_rfl
theorem zWd : Tryd.prog.cellsOf 46 = 5 := by kernel_rfl
theorem zSm : Tryd.prog.cellsOf 24 = 2 := by kernel_rfl
theorem zOp : Tryd.prog.cellsOf 51 = 4 := by kernel_rfl
section
variable {H : Type} {enc : TypeId × Value → H} {w : World}
theorem shI : Shows enc Tryd.prog w 3 dI := shows_int uInt
theorem shT : Shows enc Tryd.prog w 9 dT := shows_str uStr
theorem shTs : Shows enc Tryd.prog w 44 (fun l : List (List UInt8) => .sl 1 (l.map dT)) := shows_slice uStrs zStr (fun _ => rfl) (fun y c hc => by simp [dT, D.cells] at hc; subst hc; rfl) shT
theorem shW : Shows enc Tryd.prog w 46 dW := shows_map (shows_structN uWd (by rw [zWd]; kernel_rfl)
  (showsR_cons (t := 9) (off' := 1) (by kernel_rfl) (by kernel_rfl) (by rw [zStr]) shT (showsR_cons (t := 3) (off' := 2) (by kernel_rfl) (by kernel_rfl) (by rw [zInt]) shI (showsR_cons (t := 3) (off' := 3) (by kernel_rfl) (by kernel_rfl) (by rw [zInt]) shI
  (showsR_cons (t := 3) (off' := 4) (by kernel_rfl) (by kernel_rfl) (by rw [zInt]) shI (showsR_cons (t := 44) (off' := 5) (by kernel_rfl) (by kernel_rfl) (by rw [zStrs]) shTs showsR_nil)))))) (fun y => ⟨⟨y.1, y.2.1, y.2.2.1, y.2.2.2.1, y.2.2.2.2.1⟩, rfl⟩)
theorem shWs : Shows enc Tryd.prog w 22 (fun l : List Wd => .sl 5 (l.map dW)) := shows_slice uWds zWd (fun _ => rfl) (fun y c hc => by simp [dW, D.cells] at hc; rcases hc with rfl | rfl | rfl | rfl | rfl <;> rfl) shW
theorem shSm : Shows enc Tryd.prog w 24 dSm := shows_map (shows_structN uSm (by rw [zSm]; kernel_rfl)
  (showsR_cons (t := 22) (off' := 1) (by kernel_rfl) (by kernel_rfl) (by rw [zWds]) shWs (showsR_cons (t := 3) (off' := 2) (by kernel_rfl) (by kernel_rfl) (by rw [zInt]) shI showsR_nil))) (fun y => ⟨⟨y.1, y.2.1⟩, rfl⟩)
theorem shOp : Shows enc Tryd.prog w 51 dOp := shows_map (shows_structN uOp (by rw [zOp]; kernel_rfl)
  (showsR_cons (t := 3) (off' := 1) (by kernel_rfl) (by kernel_rfl) (by rw [zInt]) shI (showsR_cons (t := 3) (off' := 2) (by kernel_rfl) (by kernel_rfl) (by rw [zInt]) shI (showsR_cons (t := 3) (off' := 3) (by kernel_rfl) (by kernel_rfl) (by rw [zInt]) shI
  (showsR_cons (t := 22) (off' := 4) (by kernel_rfl) (by kernel_rfl) (by rw [zWds]) shWs showsR_nil))))) (fun y => ⟨⟨y.1, y.2.1, y.2.2.1, y.2.2.2.1⟩, rfl⟩)
end
theorem one_Sm (n : Sm) : ∀ c ∈ (dSm n).cells, c.one = true := by
  intro c hc
  simp [dSm, D.cells] at hc
  rcases hc with rfl | rfl <;> rfl
theorem one_Op (n : Op) : ∀ c ∈ (dOp n).cells, c.one = true := by
  intro c hc
  simp [dOp, D.cells] at hc
  rcases hc with rfl | rfl | rfl | rfl <;> rfl
theorem sSm : Sees Tryd.prog 24 (fun x => ∃ n : Sm, x = dSm n) := sees_agg (by rw [uSm]) shSm (fun _ => rfl) one_Sm
theorem sOp : Sees Tryd.prog 51 (fun x => ∃ n : Op, x = dOp n) := sees_agg (by rw [uOp]) shOp (fun _ => rfl) one_Op
theorem sWs : Sees Tryd.prog 22 (fun x => ∃ l : List Wd, x = .sl 5 (l.map dW)) := sees_slice uWds shWs
theorem sI : Sees Tryd.prog 3 (fun x => ∃ n : Int, (IntKind.i64.min ≤ n ∧ n ≤ IntKind.i64.max) ∧ x = .lit (.int .i64 n)) := sees_int uInt
end Go.Proofs.YteonapeaaepipaaDoor
end

section
namespace Go.Proofs.YteonapeaaepipaaDoor
open Go Go.Proofs.YteonapeaaepipaaDoor.AL
theorem uPk : Tryd.prog.underlying 65 = some (.struct #[fld 65 0, fld 65 1, fld 65 2]) := by kernel_rfl
theorem uFd : Tryd.prog.underlying 63 = some (.struct #[fld 63 0, fld 63 1, fld 63 2, fld 63 3]) := by kernel_rfl
theorem uPks : Tryd.prog.underlying 61 = some (.slice 65) := by kernel_rfl
theorem uOps : Tryd.prog.underlying 76 = some (.slice 51) := by kernel_rfl
theorem uU8' : Tryd.prog.underlying 5 = some (.int .u8) := by kernel_rfl
theorem uU16' : Tryd.prog.underlying 52 = some (.int .u16) := by kernel_rfl
theorem uU8s : Tryd.prog.underlying 77 = some (.slice 5) := by kernel_rfl
theorem zPk : Tryd.prog.cellsOf 65 = 6 := by kernel_rfl
theorem zFd : Tryd.prog.cellsOf 63 = 5 := by kernel_rfl
theorem zPks : Tryd.prog.cellsOf 61 = 1 := by kernel_rfl
theorem zU8 : Tryd.prog.cellsOf 5 = 1 := by kernel_rfl
section
variable {H : Type} {enc : TypeId × Value → H} {w : World}
theorem shPk : Shows enc Tryd.prog w 65 dPk := shows_map (shows_structN uPk (by rw [zPk]; kernel_rfl)
  (showsR_cons (t := 3) (off' := 1) (by kernel_rfl) (by kernel_rfl) (by rw [zInt]) shI (showsR_cons (t := 3) (off' := 2) (by kernel_rfl) (by kernel_rfl) (by rw [zInt]) shI (showsR_cons (t := 51) (off' := 6) (by kernel_rfl) (by kernel_rfl) (by rw [zOp]) shOp showsR_nil)))) (fun y => ⟨⟨y.1, y.2.1, y.2.2.1⟩, rfl⟩)
theorem shPks : Shows enc Tryd.prog w 61 (fun l : List Pk => .sl 6 (l.map dPk)) := shows_slice uPks zPk (fun _ => rfl) (fun y c hc => by simp [dPk, D.cells] at hc; rcases hc with rfl | rfl | rfl | rfl | rfl | rfl <;> rfl) shPk
theorem shFd : Shows enc Tryd.prog w 63 dFd := shows_map (shows_structN uFd (by rw [zFd]; kernel_rfl)
  (showsR_cons (t := 3) (off' := 1) (by kernel_rfl) (by kernel_rfl) (by rw [zInt]) shI (showsR_cons (t := 61) (off' := 2) (by kernel_rfl) (by kernel_rfl) (by rw [zPks]) shPks (showsR_cons (t := 24) (off' := 4) (by kernel_rfl) (by kernel_rfl) (by rw [zSm]) shSm (showsR_cons (t := 3) (off' := 5) (by kernel_rfl) (by kernel_rfl) (by rw [zInt]) shI showsR_nil))))) (fun y => ⟨⟨y.1, y.2.1, y.2.2.1, y.2.2.2.1⟩, rfl⟩)
theorem shOps : Shows enc Tryd.prog w 76 (fun l : List Op => .sl 4 (l.map dOp)) := shows_slice uOps zOp (fun _ => rfl) one_Op shOp
theorem shU8s : Shows enc Tryd.prog w 77 (fun l : List UInt8 => .sl 1 (l.map AL.dU)) := shows_slice uU8s zU8 (fun _ => rfl) (fun y c hc => by simp [AL.dU, D.cells] at hc; subst hc; rfl) (shows_u8 uU8')
end
theorem sPk : Sees Tryd.prog 65 (fun x => ∃ n : Pk, x = dPk n) := sees_agg (by rw [uPk]) shPk (fun _ => rfl) (fun n c hc => by simp [dPk, D.cells] at hc; rcases hc with rfl | rfl | rfl | rfl | rfl | rfl <;> rfl)
theorem sFd : Sees Tryd.prog 63 (fun x => ∃ n : Fd, x = dFd n) := sees_agg (by rw [uFd]) shFd (fun _ => rfl) (fun n c hc => by simp [dFd, D.cells] at hc; rcases hc with rfl | rfl | rfl | rfl | rfl <;> rfl)
theorem sOps : Sees Tryd.prog 76 (fun x => ∃ l : List Op, x = .sl 4 (l.map dOp)) := sees_slice uOps shOps
theorem sU8s : Sees Tryd.prog 77 (fun x => ∃ l : List UInt8, x = .sl 1 (l.map AL.dU)) := sees_slice uU8s shU8s
theorem sU16 : Sees Tryd.prog 52 (fun x => ∃ n : Int, (IntKind.u16.min ≤ n ∧ n ≤ IntKind.u16.max) ∧ x = .lit (.int .u16 n)) := sees_int uU16'
theorem order' (l : List Op) (o : List UInt8) : PCall Tryd.prog 10 [.sl 4 (l.map dOp), .sl 1 (o.map AL.dU)] (.ret (dB true)) := by
  have h := order l (o.map fun c => (c.toNat : Int)) (fun c hc => by
    obtain ⟨b, _, rfl⟩ := List.mem_map.1 hc
    have := b.toNat_lt
    omega)
  rw [List.map_map] at h
  exact h
end Go.Proofs.YteonapeaaepipaaDoor
end

section
namespace Go.Proofs.YteonapeaaepipaaDoor
open Go Go.Proofs.YteonapeaaepipaaDoor.AL Go.ChangeShapes Go.WideShapes Go.ChangeAt Go.RowKit Go.Lib Go.Shelf
theorem own : ownKnob Tryd.prog.godebug = none := by kernel_rfl
theorem laidOut : laidOutB Tryd.prog = true := by kernel_rfl
theorem ip_of {w : World} {cs : List D} {g : Nat} (h : ∀ (k : Nat) (c : D), cs[k]? = some c → ∃ v, w.cell? ⟨g, k, none⟩ = some v ∧ c = .lit v ∧ Sc v) : Rep (allI w) w (.ip (.agg cs)) (.pointer (some ⟨g, 0, none⟩)) := by
  have ha : ∀ k, (⟨g, 0, none⟩ : Addr).add k = ⟨g, k, none⟩ := fun k => by
    cases k <;> simp [Addr.add]
  refine .ip ⟨g, 0, none⟩ (fun k => (w.cell? ⟨g, k, none⟩).getD (.bool false)) ?_ ?_ ?_
  · intro c hc
    obtain ⟨k, hk⟩ := List.mem_iff_getElem?.1 hc
    obtain ⟨v, _, rfl, _⟩ := h k c hk
    rfl
  · intro k c hk
    obtain ⟨v, hv, _, _⟩ := h k c hk
    rw [ha]
    exact ⟨by simp [allI, hv], by simp [hv]⟩
  · intro k c hk
    obtain ⟨v, hv, rfl, hs⟩ := h k c hk
    simp only [hv, Option.getD_some]
    exact .lit hs
theorem sc_first (c : Nat) : Sc (.int .u8 (firstT c)) := by
  have h := firstT_cases c
  simp only [Sc, IntKind.min, IntKind.max]
  rcases h with h | h | h | h | h | h | h | h | h <;> rw [h] <;> decide
theorem sc_lo (i : Nat) : Sc (.int .u8 (accLo i)) := by
  have h : accLo i ≤ 255 := by
    unfold accLo
    repeat' split
    all_goals omega
  exact ⟨by simp [IntKind.min, IntKind.signed], by simp [IntKind.max, IntKind.signed, IntKind.bits]; omega⟩
theorem sc_hi (i : Nat) : Sc (.int .u8 (accHi i)) := by
  have h : accHi i ≤ 255 := by
    unfold accHi
    repeat' split
    all_goals omega
  exact ⟨by simp [IntKind.min, IntKind.signed], by simp [IntKind.max, IntKind.signed, IntKind.bits]; omega⟩
theorem pairs_get (lo hi : Nat → D) : ∀ (n b k : Nat) (c : D), ((List.range' b n).flatMap fun i => [lo i, hi i])[k]? = some c →
    ∃ i, b ≤ i ∧ i < b + n ∧ ((k = 2 * (i - b) ∧ c = lo i) ∨ (k = 2 * (i - b) + 1 ∧ c = hi i))
  | 0, b, k, c, h => by simp at h
  | n + 1, b, 0, c, h => by
    simp [List.range'_succ] at h
    exact ⟨b, by omega, by omega, .inl ⟨by omega, h.symm⟩⟩
  | n + 1, b, 1, c, h => by
    simp [List.range'_succ] at h
    exact ⟨b, by omega, by omega, .inr ⟨by omega, h.symm⟩⟩
  | n + 1, b, k + 2, c, h => by
    simp only [List.range'_succ, List.flatMap_cons, List.cons_append, List.nil_append, List.getElem?_cons_succ] at h
    obtain ⟨i, h1, h2, h3⟩ := pairs_get lo hi n (b + 1) k c h
    refine ⟨i, by omega, by omega, ?_⟩
    rcases h3 with ⟨h3, h4⟩ | ⟨h3, h4⟩
    · exact .inl ⟨by omega, h4⟩
    · exact .inr ⟨by omega, h4⟩
/-- The variables' cells make the contract's premise. -/
theorem glOk_of {W : World} (h : Lib.Utf8Tabs 0 1 W) : GlOk (allI W) W := by
  intro p hp
  simp only [glbTab, List.mem_cons, List.not_mem_nil, or_false] at hp
  rcases hp with rfl | rfl
  · refine ip_of fun k c hk => ?_
    rw [List.getElem?_map] at hk
    obtain ⟨j, hj, rfl⟩ := Option.map_eq_some_iff.1 hk
    obtain ⟨hl, he⟩ := List.getElem?_eq_some_iff.1 hj
    simp at hl he
    subst he
    exact ⟨_, h.1 _ hl, rfl, sc_first _⟩
  · refine ip_of fun k c hk => ?_
    rw [List.range_eq_range'] at hk
    obtain ⟨i, _, h2, h3⟩ := pairs_get _ _ 16 0 k c hk
    have hi := h.2 i (by omega)
    rcases h3 with ⟨rfl, rfl⟩ | ⟨rfl, rfl⟩
    · exact ⟨_, hi.1, rfl, sc_lo _⟩
    · exact ⟨_, hi.2, rfl, sc_hi _⟩
noncomputable def laidWorld (os : Os) : World :=
  let w0 := World.holding Tryd.prog os ⟨#[], #[], []⟩
  let put (h : Array Obj) (g : Nat) (cs : Array Value) : Array Obj := h.modify g fun
    | .cells _ t frozen => .cells cs t frozen
    | o => o
  let h1 := put w0.heap 0 (Lib.firstTab.map fun z => Value.int .u8 z).toArray
  let h2 := put h1 1 ((List.range 16).flatMap fun i => [Value.int .u8 (Lib.accLo i), Value.int .u8 (Lib.accHi i)]).toArray
  { w0 with heap := h2 }
theorem uU8 : Tryd.prog.underlying 5 = some (.int .u8) := by kernel_rfl
theorem sU8 : Sees Tryd.prog 5 (fun x => ∃ n : Int, (IntKind.u8.min ≤ n ∧ n ≤ IntKind.u8.max) ∧ x = .lit (.int .u8 n)) := sees_int uU8
end Go.Proofs.YteonapeaaepipaaDoor
end
