/- Part of the proof: S7, S8, S9, S10, S23, S11, S12, S13, S14, S15, S16, S220, S221, S222, S223, S224, S225, S226, S227, S228, S229, S230, S231, S232, S233. -/
import Derived.Test.YteonapeaaepipaaDoorH
set_option linter.unnecessarySimpa false
set_option linter.unusedVariables false
set_option linter.unusedSimpArgs false
section
namespace Go.Proofs.YteonapeaaepipaaDoor
open Go Go.Proofs.YteonapeaaepipaaDoor.AL
attribute [local simp] dT_agg dT_nt dT_noTup dT_cells dT_one bs_toList bs_size dW_cells dW_agg dW_noTup dSm_cells dSm_agg dSm_noTup dOp_cells dOp_agg dOp_noTup
def dWs (l : List Wd) : D := .sl 5 (l.map dW)
theorem dWs_cells (l : List Wd) : (dWs l).cells = [dWs l] := rfl
theorem dWs_one (l : List Wd) : (dWs l).one = true := rfl
theorem dWs_agg (l : List Wd) : (dWs l).isAgg = false := rfl
theorem dWs_noTup (l : List Wd) : (AV.d (dWs l)).noTup = true := rfl
theorem dWs_nt (l : List Wd) (ds : List D) : (dWs l = .tup ds) = False := by simp [dWs]
theorem dWs_eq (l : List Wd) : dWs l = .sl 5 (l.map dW) := rfl
attribute [local simp] dWs_cells dWs_one dWs_agg dWs_noTup dWs_nt
def cat (ls : List (List Wd)) (k : Nat) : List Wd := (ls.take k).flatten
theorem cat_zero (ls : List (List Wd)) : cat ls 0 = [] := by simp [cat]
theorem cat_succ {ls : List (List Wd)} {k : Nat} (h : k < ls.length) : cat ls (k + 1) = cat ls k ++ ls[k] := by
  unfold cat
  have : ls.take (k + 1) = ls.take k ++ [ls[k]] := by rw [List.take_add_one, List.getElem?_eq_getElem h]; rfl
  rw [this, List.flatten_append]; simp
theorem cat_le (ls : List (List Wd)) (k : Nat) : (cat ls k).length ≤ (cat ls ls.length).length := by
  unfold cat
  rw [List.take_length]
  conv => rhs; rw [← List.take_append_drop k ls]
  rw [List.flatten_append, List.length_append]; omega
theorem cat_all (ls : List (List Wd)) : cat ls ls.length = ls.flatten := by unfold cat; rw [List.take_length]
set_option maxRecDepth 8000 in
theorem concat (ls : List (List Wd)) (hb : (cat ls ls.length).length ≤ 100000) : PCall Tryd.prog 114 [.sl 1 (ls.map dWs)] (.ret (dWs (cat ls ls.length))) := by
  refine pcall_of_vc noC c114 (by simp [a114]) fun hr => ?_
  have hlen := (hr (.sl 1 (ls.map dWs)) (by simp)).sl.1
  simp at hlen
  simp [a114]
  refine vc_loopK [0, 2, 9, 10] Nat (fun k => [(11, true, .d (dI k)), (3, true, .d (dI (((cat ls k).length : Nat) : Int)))]) (fun k => []) (fun k => k ≤ ls.length) (fun k => ls.length - k) 0 (by simp) ⟨[], [], ?_⟩ (fun k h1 => ?_)
  · simp [cat_zero]
  simp
  refine ⟨fun hlt => ?_, fun hge => ?_⟩
  · simp [hlt, dWs_eq]
    have hs := cat_succ hlt
    have hl : (cat ls (k + 1)).length = (cat ls k).length + ls[k].length := by rw [hs, List.length_append]
    have hle := cat_le ls (k + 1)
    rw [wrap64 (n := ((cat ls k).length : Int) + ls[k].length) (by omega)]
    refine ⟨fun hneg => by omega, fun _ => ⟨k + 1, by omega, by omega, [], [], ?_⟩⟩
    rw [wrap64 (by omega), hl]
    simp
  · have hk : k = ls.length := by omega
    subst hk
    refine regS_path [] ?_
    simp
    refine icall_T (TF Tryd.prog a126) (hcall_of_vc c126) ?_
    simp [a126]
    refine ⟨fun hneg => absurd hneg (by omega), ?_⟩
    have w0 : IntKind.i64.wrap 0 = 0 := wrap64 (by omega)
    have w1 : IntKind.i64.wrap ((cat ls ls.length).length : Int) = (cat ls ls.length).length := wrap64 (by omega)
    simp [w0, w1]
    have hc0 : ∀ x : Nat, x < 0 → False := fun x h => by omega
    refine ⟨fun hp => ⟨by omega, ?_⟩, fun hz => ?_⟩
    all_goals
      refine vc_loopK [0, 25, 26] Nat (fun k => [(27, true, .d (dI k)), (6, true, .own 0 5 ((cat ls k).map dW))]) (fun k => [(0, .row)]) (fun k => k ≤ ls.length) (fun k => ls.length - k) 0 (by simp) (by first | (refine ⟨[], [], ?_⟩; simp [cat_zero]; done) | (refine ⟨[], [(0, 5)], ?_⟩; simp [cat_zero]; done)) (fun k h1 => ?_)
      simp
      refine ⟨fun hlt => ?_, fun hge => ?_⟩
      · simp [hlt, dWs_eq]
        have hs := cat_succ hlt
        have hl : (cat ls (k + 1)).length = (cat ls k).length + ls[k].length := by rw [hs, List.length_append]
        have hle := cat_le ls (k + 1)
        refine ⟨⟨by omega, by omega⟩, k + 1, by omega, by omega, [(0, 1)], [], ?_⟩
        rw [wrap64 (by omega)]
        simp [hs]
      · have hk : k = ls.length := by omega
        subst hk
        simp [dWs_eq]
        done
end Go.Proofs.YteonapeaaepipaaDoor
end

section
namespace Go.Proofs.YteonapeaaepipaaDoor
open Go Go.Proofs.YteonapeaaepipaaDoor.AL
attribute [local simp] dT_agg dT_nt dT_noTup dT_cells dT_one bs_toList bs_size strV dW_cells dW_agg dW_noTup dSm_cells dSm_agg dSm_noTup dOp_cells dOp_agg dOp_noTup dWs_cells dWs_one dWs_agg dWs_noTup dWs_nt
inductive CJo : FuncId → List D → Out → Prop
  | cat (ls : List (List Wd)) (hb : (cat ls ls.length).length ≤ 100000) : CJo 114 [.sl 1 (ls.map dWs)] (.ret (dWs (cat ls ls.length)))
theorem hJo : ∀ f ds out, CJo f ds out → PCall Tryd.prog f ds out := by
  intro f ds out h
  cases h with
  | cat ls hb => exact concat ls hb
theorem joined (ls : List (List Wd)) (hb : (cat ls ls.length).length ≤ 100000) : PCall Tryd.prog 90 [.sl 1 (ls.map dWs)] (.ret (dWs (cat ls ls.length))) := by
  refine pcall_of_vc hJo c90 (by simp [a90]) fun hr => ?_
  simp [a90]
  refine vc_path [.ret (dWs (cat ls ls.length))] ?_
  simp
  exact .cat ls hb
theorem take_eq {α : Type} {a b : List α} {k : Nat} (h : a.take k = b.take k) (h1 : k < a.length) (h2 : k < b.length) (he : a[k] = b[k]) : a.take (k + 1) = b.take (k + 1) := by
  rw [List.take_add_one, List.take_add_one, h, List.getElem?_eq_getElem h1, List.getElem?_eq_getElem h2, he]
theorem ne_of_at {α : Type} {a b : List α} {k : Nat} (h1 : k < a.length) (h2 : k < b.length) (he : a[k] ≠ b[k]) : a ≠ b := fun e => by subst e; exact he rfl
set_option maxRecDepth 8000 in
theorem eqT (a b : List (List UInt8)) : PCall Tryd.prog 99 [.sl 1 (a.map dT), .sl 1 (b.map dT)] (.ret (dB (decide (a = b)))) := by
  refine pcall_of_vc noC c99 (by simp [a99]) fun hr => ?_
  have hlen := (hr (.sl 1 (a.map dT)) (by simp)).sl.1
  simp at hlen
  simp [a99]
  refine ⟨fun hne => leD_of_eq ?_, fun hl => ?_⟩
  · have : a ≠ b := fun e => hne (by rw [e])
    simp [this]
  · refine vc_loopK [0, 1, 12] Nat (fun k => [(13, true, .d (dI k))]) (fun k => []) (fun k => k ≤ a.length ∧ a.take k = b.take k) (fun k => a.length - k) 0 (by simp) ⟨[], [], ?_⟩ (fun k hk => ?_)
    · simp
    obtain ⟨h1, h2⟩ := hk
    simp
    refine ⟨fun hlt => ?_, fun hge => ?_⟩
    · have hlt2 : k < b.length := by omega
      simp [hlt, hlt2, dT_eq]
      refine ⟨rfl, fun he => leD_of_eq ?_, fun he => ⟨k + 1, ⟨by omega, take_eq h2 hlt hlt2 he⟩, by omega, [], [], ?_⟩⟩
      · simp [ne_of_at hlt hlt2 he]
      · rw [wrap64 (by omega)]
        simp
    · have hk : k = a.length := by omega
      subst hk
      have hl' : a.length = b.length := by omega
      rw [List.take_length, hl', List.take_length] at h2
      simp [h2]
set_option maxRecDepth 8000 in
theorem reqT (a b : List (List UInt8)) : PCall Tryd.prog 146 [.sl 1 (a.map dT), .sl 1 (b.map dT)] (.ret (dB (decide (a = b)))) := by
  refine pcall_of_vc noC c146 (by simp [a146]) fun hr => ?_
  have hlen := (hr (.sl 1 (a.map dT)) (by simp)).sl.1
  simp at hlen
  simp [a146]
  refine ⟨fun hne => leD_of_eq ?_, fun hl => ?_⟩
  · have : a ≠ b := fun e => hne (by rw [e])
    simp [this]
  · refine vc_loopK [0, 1] Nat (fun k => [(5, true, .d (dI k))]) (fun k => []) (fun k => k ≤ a.length ∧ a.take k = b.take k) (fun k => a.length - k) 0 (by simp) ⟨[], [], ?_⟩ (fun k hk => ?_)
    · simp
    obtain ⟨h1, h2⟩ := hk
    simp
    refine ⟨fun hlt => ?_, fun hge => ?_⟩
    · have hlt2 : k < b.length := by omega
      simp [hlt, hlt2, dT_eq]
      refine ⟨rfl, fun he => leD_of_eq ?_, fun he => ⟨k + 1, ⟨by omega, take_eq h2 hlt hlt2 he⟩, by omega, [], [], ?_⟩⟩
      · simp [ne_of_at hlt hlt2 he]
      · rw [wrap64 (by omega)]
        simp
    · have hk : k = a.length := by omega
      subst hk
      have hl' : a.length = b.length := by omega
      rw [List.take_length, hl', List.take_length] at h2
      simp [h2]
inductive CSm : FuncId → List D → Out → Prop
  | eq (a b : List (List UInt8)) : CSm 99 [.sl 1 (a.map dT), .sl 1 (b.map dT)] (.ret (dB (decide (a = b))))
  | req (a b : List (List UInt8)) : CSm 146 [.sl 1 (a.map dT), .sl 1 (b.map dT)] (.ret (dB (decide (a = b))))
theorem hSm : ∀ f ds out, CSm f ds out → PCall Tryd.prog f ds out := by
  intro f ds out h
  cases h with
  | eq a b => exact eqT a b
  | req a b => exact reqT a b
theorem wd_eq (x y : Wd) : decide (x = y) = (decide (x.t = y.t) && (decide (x.f = y.f) && (decide (x.u = y.u) && (decide (x.s = y.s) && decide (x.a = y.a))))) := by
  cases x; cases y; simp
set_option maxRecDepth 8000 in
theorem same (x y : Wd) : PCall Tryd.prog 93 [dW x, dW y] (.ret (dB (decide (x = y)))) := by
  refine pcall_of_vc hSm c93 (by simp [a93]) fun hr => ?_
  simp [a93, dW]
  refine vc_path [.ret (dB (decide (x.a = y.a)))] ?_
  simp [dT_eq]
  rw [wd_eq]
  refine ⟨fun q1 => ⟨fun q2 => ⟨fun q3 => ⟨fun q4 => ⟨.eq x.a y.a, leD_of_eq (by simp [q1, q2, q3, q4])⟩, fun q4 => leD_of_eq (by simp [q4])⟩, fun q3 => leD_of_eq (by simp [q3])⟩, fun q2 => leD_of_eq (by simp [q2])⟩, fun q1 => leD_of_eq (by simp [q1])⟩
set_option maxRecDepth 8000 in
theorem rsame (x y : Wd) : PCall Tryd.prog 137 [dW x, dW y] (.ret (dB (decide (x = y)))) := by
  refine pcall_of_vc hSm c137 (by simp [a137]) fun hr => ?_
  simp [a137, dW]
  refine vc_path [.ret (dB (decide (x.a = y.a)))] ?_
  simp [dT_eq]
  rw [wd_eq]
  refine ⟨fun q1 => ⟨fun q2 => ⟨fun q3 => ⟨fun q4 => ⟨.req x.a y.a, leD_of_eq (by simp [q1, q2, q3, q4])⟩, fun q4 => leD_of_eq (by simp [q4])⟩, fun q3 => leD_of_eq (by simp [q3])⟩, fun q2 => leD_of_eq (by simp [q2])⟩, fun q1 => leD_of_eq (by simp [q1])⟩
inductive CSw : FuncId → List D → Out → Prop
  | same (x y : Wd) : CSw 93 [dW x, dW y] (.ret (dB (decide (x = y))))
  | rsame (x y : Wd) : CSw 137 [dW x, dW y] (.ret (dB (decide (x = y))))
theorem hSw : ∀ f ds out, CSw f ds out → PCall Tryd.prog f ds out := by
  intro f ds out h
  cases h with
  | same a b => exact AL.PCall.le (same a b) (all2_refl LeD.refl _)
  | rsame a b => exact rsame a b
set_option maxRecDepth 8000 in
theorem eqWs (a b : List Wd) : PCall Tryd.prog 92 [dWs a, dWs b, .fn (.func 93) [] []] (.ret (dB (decide (a = b)))) := by
  refine pcall_of_vc hSw c92 (by simp [a92]) fun hr => ?_
  have hlen := (hr (dWs a) (by simp)).sl.1
  simp at hlen
  simp [a92, dWs_eq]
  refine ⟨fun hne => leD_of_eq ?_, fun hl => ?_⟩
  · have : a ≠ b := fun e => hne (by rw [e])
    simp [this]
  · refine vc_loopK [0, 1, 2, 15, 16] Nat (fun k => [(17, true, .d (dI k))]) (fun k => []) (fun k => k ≤ a.length ∧ a.take k = b.take k) (fun k => a.length - k) 0 (by simp) ⟨[], [], ?_⟩ (fun k hk => ?_)
    · simp
    obtain ⟨h1, h2⟩ := hk
    simp
    refine ⟨fun hlt => ?_, fun hge => ?_⟩
    · have hlt2 : k < b.length := by omega
      simp [hlt, hlt2]
      refine vc_path [.ret (dB (decide (a[k] = b[k])))] ?_
      simp
      have hc := CSw.same a[k] b[k]
      refine ⟨hc, fun he => leD_of_eq ?_, fun he => ⟨k + 1, ⟨by omega, take_eq h2 hlt hlt2 he⟩, by omega, [], [], ?_⟩⟩
      · simp [ne_of_at hlt hlt2 he]
      · rw [wrap64 (by omega)]
        simp
    · have hk : k = a.length := by omega
      subst hk
      have hl' : a.length = b.length := by omega
      rw [List.take_length, hl', List.take_length] at h2
      simp [h2]
set_option maxRecDepth 8000 in
theorem reqWs (a b : List Wd) : PCall Tryd.prog 128 [dWs a, dWs b] (.ret (dB (decide (a = b)))) := by
  refine pcall_of_vc hSw c128 (by simp [a128]) fun hr => ?_
  have hlen := (hr (dWs a) (by simp)).sl.1
  simp at hlen
  simp [a128, dWs_eq]
  refine ⟨fun hne => leD_of_eq ?_, fun hl => ?_⟩
  · have : a ≠ b := fun e => hne (by rw [e])
    simp [this]
  · refine vc_loopK [0, 1] Nat (fun k => [(5, true, .d (dI k))]) (fun k => []) (fun k => k ≤ a.length ∧ a.take k = b.take k) (fun k => a.length - k) 0 (by simp) ⟨[], [], ?_⟩ (fun k hk => ?_)
    · simp
    obtain ⟨h1, h2⟩ := hk
    simp
    refine ⟨fun hlt => ?_, fun hge => ?_⟩
    · have hlt2 : k < b.length := by omega
      simp [hlt, hlt2]
      refine vc_pathD [.ret (dB (decide (a[k] = b[k])))] ?_
      simp [hlt, hlt2]
      have hc := CSw.rsame a[k] b[k]
      refine ⟨hc, rfl, fun he => leD_of_eq ?_, fun he => ⟨k + 1, ⟨by omega, take_eq h2 hlt hlt2 he⟩, by omega, [], [], ?_⟩⟩
      · simp [ne_of_at hlt hlt2 he]
      · rw [wrap64 (by omega)]
        simp
    · have hk : k = a.length := by omega
      subst hk
      have hl' : a.length = b.length := by omega
      rw [List.take_length, hl', List.take_length] at h2
      simp [h2]
end Go.Proofs.YteonapeaaepipaaDoor
end

section
namespace Go.Proofs.YteonapeaaepipaaDoor
open Go Go.Proofs.YteonapeaaepipaaDoor.AL
attribute [local simp] dT_agg dT_nt dT_noTup dT_cells dT_one bs_toList bs_size strV dW_cells dW_agg dW_noTup dSm_cells dSm_agg dSm_noTup dOp_cells dOp_agg dOp_noTup dWs_cells dWs_one dWs_agg dWs_noTup dWs_nt
def okAdd (o : Op) : Bool := decide (o.a = 0) && (decide (o.c = 0) && (decide (0 < o.w.length) && decide ((o.w.length : Int) ≤ 64)))
theorem k1 (s : Sm) (o : Op) : PCall Tryd.prog 88 [dSm s, dOp o] (.ret (dB (okAdd o))) := by
  refine pcall_of_vc noC c88 (by simp [a88]) fun hr => ?_
  simp [a88, dSm, dOp]
  refine vc_path [] ?_
  simp [okAdd]
  exact ⟨fun q1 => ⟨fun q2 => ⟨fun q3 => leD_of_eq (by simp [q1, q2, q3]), fun q3 => leD_of_eq (by simp [q3])⟩, fun q2 => leD_of_eq (by simp [q2])⟩, fun q1 => leD_of_eq (by simp [q1])⟩
theorem k6 (s : Sm) (o : Op) : PCall Tryd.prog 96 [dSm s, dOp o] (.ret (dSm { s with x := o.a })) := by
  refine pcall_of_vc noC c96 (by simp [a96]) fun hr => ?_
  simp [a96, dSm, dOp]
def okFix (s : Sm) (o : Op) : Bool := decide (s.x ≤ o.a) && (decide (o.a ≤ s.w.length) && (decide (o.c = 0) && decide (o.w = [])))
theorem k5 (s : Sm) (o : Op) : PCall Tryd.prog 95 [dSm s, dOp o] (.ret (dB (okFix s o))) := by
  refine pcall_of_vc noC c95 (by simp [a95]) fun hr => ?_
  simp [a95, dSm, dOp]
  refine vc_path [] ?_
  simp [okFix]
  refine ⟨fun q1 => ⟨fun q2 => ⟨fun q3 => leD_of_eq ?_, fun q3 => leD_of_eq (by simp [q3])⟩, fun q2 => leD_of_eq ?_⟩, fun q1 => leD_of_eq ?_⟩
  · cases hw : o.w <;> simp [q1, q2, q3]
    omega
  · simp [show ¬ o.a ≤ s.w.length by omega]
  · simp [show ¬ s.x ≤ o.a by omega]
inductive CKi : FuncId → List D → Out → Prop
  | join (ls : List (List Wd)) (hb : (cat ls ls.length).length ≤ 100000) : CKi 90 [.sl 1 (ls.map dWs)] (.ret (dWs (cat ls ls.length)))
  | eq (a b : List Wd) : CKi 92 [dWs a, dWs b, .fn (.func 93) [] []] (.ret (dB (decide (a = b))))
theorem hKi : ∀ f ds out, CKi f ds out → PCall Tryd.prog f ds out := by
  intro f ds out h
  cases h with
  | join ls hb => exact joined ls hb
  | eq a b => exact eqWs a b
theorem k2 (s : Sm) (o : Op) (hb : s.w.length + o.w.length ≤ 100000) : PCall Tryd.prog 89 [dSm s, dOp o] (.ret (dSm { s with w := s.w ++ o.w })) := by
  refine pcall_of_vc hKi c89 (by simp [a89]) fun hr => ?_
  simp [a89, dSm, dOp]
  have hc := CKi.join [s.w, o.w] (by simp [cat]; omega)
  refine vc_path [.ret (dWs (s.w ++ o.w))] ?_
  simp [cat] at hc ⊢
  exact ⟨hc, leD_of_eq (by simp [dWs])⟩
def okRev (s : Sm) (o : Op) : Bool := decide (s.x ≤ o.a) && (decide (o.a ≤ s.w.length) && (decide (1 ≤ o.c) && (decide (o.c ≤ 64) && (decide (o.a + o.c ≤ s.w.length) && (decide ((o.w.length : Int) ≤ 64) && !decide (o.w = (s.w.take (o.a + o.c).toNat).drop o.a.toNat))))))
set_option maxRecDepth 8000 in
theorem k3 (s : Sm) (o : Op) (hx : 0 ≤ s.x) : PCall Tryd.prog 91 [dSm s, dOp o] (.ret (dB (okRev s o))) := by
  refine pcall_of_vc hKi c91 (by simp [a91]) fun hr => ?_
  have hl1 := (hr (dSm s) (by simp)).agg (.sl 5 (s.w.map dW)) (by simp [dSm])
  have hlen := hl1.2.sl.1
  simp at hlen
  simp [a91, dSm, dOp]
  refine vc_path [] ?_
  simp
  refine ⟨fun q1 => leD_of_eq ?_, fun q1 => ⟨fun q2 => leD_of_eq ?_, fun q2 => ?_⟩⟩
  · simp [okRev, show ¬ s.x ≤ o.a by omega]
  · simp [okRev, show ¬ o.a ≤ s.w.length by omega]
  have hw1 : IntKind.i64.wrap ((s.w.length : Int) - o.a) = s.w.length - o.a := wrap64 (by omega)
  rw [hw1]
  refine ⟨fun q3 => leD_of_eq ?_, fun q3 => ⟨fun q4 => leD_of_eq ?_, fun q4 => ?_⟩⟩
  · simp [okRev, show ¬ 1 ≤ o.c by omega]
  · have : ¬ o.c ≤ 64 ∨ ¬ o.a + o.c ≤ s.w.length := by split at q4 <;> omega
    rcases this with h | h <;> simp [okRev, h]
  have q5 : o.c ≤ 64 ∧ o.a + o.c ≤ s.w.length := by split at q4 <;> omega
  refine ⟨fun q6 => leD_of_eq ?_, fun q6 => ?_⟩
  · simp [okRev, show ¬ (o.w.length : Int) ≤ 64 by omega]
  have hw : IntKind.i64.wrap (o.a + o.c) = o.a + o.c := wrap64 (by omega)
  have hc := CKi.eq o.w ((s.w.take (o.a + o.c).toNat).drop o.a.toNat)
  refine vc_pathD [.ret (dB (decide (o.w = (s.w.take (o.a + o.c).toNat).drop o.a.toNat)))] ?_
  simp [dWs] at hc
  simp [hw]
  refine ⟨⟨by omega, by omega, by omega⟩, hc, rfl, leD_of_eq ?_⟩
  simp [okRev, q1, q2, q3, q5, q6]
set_option maxRecDepth 8000 in
theorem k4 (s : Sm) (o : Op) (h0 : 0 ≤ o.a) (h1 : 0 ≤ o.c) (h2 : o.a + o.c ≤ s.w.length) (hb : s.w.length + o.w.length ≤ 100000) : PCall Tryd.prog 94 [dSm s, dOp o] (.ret (dSm { s with w := s.w.take o.a.toNat ++ (o.w ++ s.w.drop (o.a + o.c).toNat) })) := by
  refine pcall_of_vc hKi c94 (by simp [a94]) fun hr => ?_
  have hc := CKi.join [s.w.take o.a.toNat, o.w, s.w.drop (o.a + o.c).toNat] (by simp [cat]; omega)
  have hw : IntKind.i64.wrap (o.a + o.c) = o.a + o.c := wrap64 (by omega)
  simp [a94, dSm, dOp]
  refine vc_pathD [.ret (dWs (s.w.take o.a.toNat ++ (o.w ++ s.w.drop (o.a + o.c).toNat)))] ?_
  simp [cat, dWs] at hc
  have ht : List.take s.w.length (List.map dW s.w) = List.map dW s.w := by rw [← List.length_map (f := dW), List.take_length]
  simp [hw, ht]
  exact ⟨⟨h0, by omega⟩, ⟨by omega, h2⟩, by simpa [dWs] using hc, rfl, leD_of_eq (by simp [dWs])⟩
end Go.Proofs.YteonapeaaepipaaDoor
end

section
namespace Go.Proofs.YteonapeaaepipaaDoor
open Go Go.Proofs.YteonapeaaepipaaDoor.AL
attribute [local simp] dT_agg dT_nt dT_noTup dT_cells dT_one bs_toList bs_size strV dW_cells dW_agg dW_noTup dSm_cells dSm_agg dSm_noTup dOp_cells dOp_agg dOp_noTup dWs_cells dWs_one dWs_agg dWs_noTup dWs_nt
def fnD (n : Nat) : D := .fn (.func n) [] []
def kMap : List (Value × D) := [(.int .i64 1, .agg [fnD 88, fnD 89]), (.int .i64 2, .agg [fnD 91, fnD 94]), (.int .i64 3, .agg [fnD 95, fnD 96])]
theorem kinds : PCall Tryd.prog 58 [] (.retM kMap) := by
  refine pcall_of_vc noC c58 (by simp [a58]) fun hr => ?_
  simp [a58, kMap, fnD]
/-- Is an op right? -/
def okOp (s : Sm) (o : Op) : Bool := if o.k = 1 then okAdd o else if o.k = 2 then okRev s o else if o.k = 3 then okFix s o else false
def next (s : Sm) (o : Op) : Sm := if o.k = 1 then { s with w := s.w ++ o.w } else if o.k = 2 then { s with w := s.w.take o.a.toNat ++ (o.w ++ s.w.drop (o.a + o.c).toNat) } else { s with x := o.a }
def doE (s : Sm) (o : Op) : Int := if eSm s = 0 then (if okOp s o = true then eSm (next s o) else 170) else eSm s
def doX (s : Sm) (o : Op) : Sm := if doE s o = 0 then next s o else ⟨[], 0⟩
inductive CDo : FuncId → List D → Out → Prop
  | ck (m : Sm) : CDo 53 [dSm m] (oE (eSm m))
  | kinds : CDo 58 [] (.retM kMap)
  | need_t (n : Int) : CDo 59 [dB true, dI n] (.ret (.tup []))
  | need_f (n : Int) : CDo 59 [dB false, dI n] (.pan (tE n))
  | k1 (s : Sm) (o : Op) : CDo 88 [dSm s, dOp o] (.ret (dB (okAdd o)))
  | k2 (s : Sm) (o : Op) (hb : s.w.length + o.w.length ≤ 100000) : CDo 89 [dSm s, dOp o] (.ret (dSm { s with w := s.w ++ o.w }))
  | k3 (s : Sm) (o : Op) (hx : 0 ≤ s.x) : CDo 91 [dSm s, dOp o] (.ret (dB (okRev s o)))
  | k4 (s : Sm) (o : Op) (h0 : 0 ≤ o.a) (h1 : 0 ≤ o.c) (h2 : o.a + o.c ≤ s.w.length) (hb : s.w.length + o.w.length ≤ 100000) : CDo 94 [dSm s, dOp o] (.ret (dSm { s with w := s.w.take o.a.toNat ++ (o.w ++ s.w.drop (o.a + o.c).toNat) }))
  | k5 (s : Sm) (o : Op) : CDo 95 [dSm s, dOp o] (.ret (dB (okFix s o)))
  | k6 (s : Sm) (o : Op) : CDo 96 [dSm s, dOp o] (.ret (dSm { s with x := o.a }))
theorem hDo : ∀ f ds out, CDo f ds out → PCall Tryd.prog f ds out := by
  intro f ds out h
  cases h with
  | ck m => exact check m
  | kinds => exact kinds
  | need_t n => exact need_t n
  | need_f n => exact need_f n
  | k1 s o => exact k1 s o
  | k2 s o hb => exact k2 s o hb
  | k3 s o hx => exact k3 s o hx
  | k4 s o h0 h1 h2 hb => exact k4 s o h0 h1 h2 hb
  | k5 s o => exact k5 s o
  | k6 s o => exact k6 s o
theorem nilSm : LeD (.agg [.nil 5, .lit (.int .i64 0)]) (dSm ⟨[], 0⟩) := LeD.agg (.cons (LeD.nil 5) (.cons (LeD.refl _) .nil)) (by simp)
set_option maxRecDepth 8000 in
theorem Do (s : Sm) (o : Op) : PCall Tryd.prog 25 [dSm s, dOp o] (.ret (.tup [dSm (doX s o), dI (doE s o)])) := by
  refine pcall_of_vc hDo c25 (by simp [a25]) fun hr => ?_
  simp [a25]
  refine regS_path [] ?_
  simp
  refine regS_path [] ?_
  simp
  have hc := CDo.ck s
  by_cases q : eSm s = 0
  · refine vc_path [.ret (.tup [])] ?_
    simp [oE, q] at hc ⊢
    refine ⟨hc, ?_⟩
    have hs : s.w.length ≤ 4096 ∧ 0 ≤ s.x := by
      unfold eSm at q
      split at q
      · split at q
        · rename_i h1 h2; exact ⟨by omega, h2.1⟩
        · simp at q
      · simp at q
    have hR1 : o.k = 1 → CDo 88 [dSm s, dOp o] (.ret (dB (okOp s o))) := fun h => by have := CDo.k1 s o; simpa [okOp, h] using this
    have hR2 : o.k = 2 → CDo 91 [dSm s, dOp o] (.ret (dB (okOp s o))) := fun h => by have := CDo.k3 s o hs.2; simpa [okOp, h] using this
    have hR3 : o.k = 3 → CDo 95 [dSm s, dOp o] (.ret (dB (okOp s o))) := fun h => by have := CDo.k5 s o; simpa [okOp, h] using this
    have hN1 : o.k = 1 → okOp s o = true → CDo 89 [dSm s, dOp o] (.ret (dSm (next s o))) := fun h p => by
      have hl : o.w.length ≤ 64 := by simp [okOp, h, okAdd] at p; omega
      have := CDo.k2 s o (by omega); simpa [next, h] using this
    have hN2 : o.k = 2 → okOp s o = true → CDo 94 [dSm s, dOp o] (.ret (dSm (next s o))) := fun h p => by
      have hl : s.x ≤ o.a ∧ 1 ≤ o.c ∧ o.a + o.c ≤ s.w.length ∧ o.w.length ≤ 64 := by simp [okOp, h, okRev] at p; omega
      have := CDo.k4 s o (by omega) (by omega) hl.2.2.1 (by omega); simpa [next, h] using this
    have hN3 : o.k = 3 → okOp s o = true → CDo 96 [dSm s, dOp o] (.ret (dSm (next s o))) := fun h p => by
      have := CDo.k6 s o; simpa [next, h] using this
    have hfail : okOp s o = false → LeD (.agg [.nil 5, .lit (.int .i64 0)]) (dSm (doX s o)) ∧ doE s o = 170 := fun p => by
      have e1 : doE s o = 170 := by simp [doE, q, p]
      have e2 : doX s o = ⟨[], 0⟩ := by simp [doX, e1]
      rw [e2]; exact ⟨nilSm, e1⟩
    have hc2 := CDo.ck (next s o)
    have hk : (o.k = 1 ∧ ((o.k == 1) = true)) ∨ (o.k = 2 ∧ ((o.k == 1) = false) ∧ ((o.k == 2) = true)) ∨ (o.k = 3 ∧ ((o.k == 1) = false) ∧ ((o.k == 2) = false) ∧ ((o.k == 3) = true)) ∨ (okOp s o = false ∧ ((o.k == 1) = false) ∧ ((o.k == 2) = false) ∧ ((o.k == 3) = false)) := by
      by_cases k1 : o.k = 1
      · exact .inl ⟨k1, by simp [k1]⟩
      · by_cases k2 : o.k = 2
        · exact .inr (.inl ⟨k2, by simp [k2], by simp [k2]⟩)
        · by_cases k3 : o.k = 3
          · exact .inr (.inr (.inl ⟨k3, by simp [k3], by simp [k3], by simp [k3]⟩))
          · exact .inr (.inr (.inr ⟨by simp [okOp, k1, k2, k3], by simp [k1], by simp [k2], by simp [k3]⟩))
    rcases hk with ⟨k, e1⟩ | ⟨k, e1, e2⟩ | ⟨k, e1, e2, e3⟩ | ⟨k, e1, e2, e3⟩
    · have hR := hR1 k
      have hN := hN1 k
      refine vc_pathD [.retM kMap] ?_
      simp [e1, kMap, fnD]
      refine ⟨.kinds, rfl, ?_⟩
      by_cases p : okOp s o = true
      · rw [p] at hR
        refine vc_path [.ret (dB true), .ret (.tup [])] ?_
        simp
        refine ⟨hR, .need_t 170, vc_path [.ret (dSm (next s o))] ?_⟩
        simp
        refine ⟨hN p, ?_⟩
        by_cases q2 : eSm (next s o) = 0
        · have d1 : doE s o = 0 := by simp [doE, q, p, q2]
          have d2 : doX s o = next s o := by simp [doX, d1]
          rw [d1, d2]
          refine vc_path [.ret (.tup [])] ?_
          simp [oE, q2] at hc2 ⊢
          refine ⟨hc2, ?_⟩
          refine leave_fn (TR Tryd.prog a52) (dcall_of_vcR c52) ?_
          simp [a52]
          refine leave_fn (TD Tryd.prog a57) (dcall_of_vc c57) ?_
          simp [a57]
          exact LeD.refl _
        · have d1 : doE s o = eSm (next s o) := by simp [doE, q, p]
          have d2 : doX s o = ⟨[], 0⟩ := by simp [doX, d1, q2]
          rw [d1, d2]
          refine vc_path [.pan (tE (eSm (next s o)))] ?_
          simp [oE, q2] at hc2 ⊢
          refine ⟨hc2, ?_⟩
          refine leave_fn (TR Tryd.prog a52) (dcall_of_vcR c52) ?_
          simp [a52, tE]
          refine leave_fn (TD Tryd.prog a57) (dcall_of_vc c57) ?_
          simp [a57, q2]
          exact nilSm
      · have p : okOp s o = false := by simpa using p
        rw [p] at hR
        obtain ⟨g1, g2⟩ := hfail p
        refine vc_path [.ret (dB false), .pan (tE 170)] ?_
        simp
        refine ⟨hR, .need_f 170, ?_⟩
        refine leave_fn (TR Tryd.prog a52) (dcall_of_vcR c52) ?_
        simp [a52, tE]
        refine leave_fn (TD Tryd.prog a57) (dcall_of_vc c57) ?_
        simp [a57]
        exact ⟨g1, leD_of_eq (by rw [g2])⟩
    · have hR := hR2 k
      have hN := hN2 k
      refine vc_pathD [.retM kMap] ?_
      simp [e1, e2, kMap, fnD]
      refine ⟨.kinds, rfl, ?_⟩
      by_cases p : okOp s o = true
      · rw [p] at hR
        refine vc_path [.ret (dB true), .ret (.tup [])] ?_
        simp
        refine ⟨hR, .need_t 170, vc_path [.ret (dSm (next s o))] ?_⟩
        simp
        refine ⟨hN p, ?_⟩
        by_cases q2 : eSm (next s o) = 0
        · have d1 : doE s o = 0 := by simp [doE, q, p, q2]
          have d2 : doX s o = next s o := by simp [doX, d1]
          rw [d1, d2]
          refine vc_path [.ret (.tup [])] ?_
          simp [oE, q2] at hc2 ⊢
          refine ⟨hc2, ?_⟩
          refine leave_fn (TR Tryd.prog a52) (dcall_of_vcR c52) ?_
          simp [a52]
          refine leave_fn (TD Tryd.prog a57) (dcall_of_vc c57) ?_
          simp [a57]
          exact LeD.refl _
        · have d1 : doE s o = eSm (next s o) := by simp [doE, q, p]
          have d2 : doX s o = ⟨[], 0⟩ := by simp [doX, d1, q2]
          rw [d1, d2]
          refine vc_path [.pan (tE (eSm (next s o)))] ?_
          simp [oE, q2] at hc2 ⊢
          refine ⟨hc2, ?_⟩
          refine leave_fn (TR Tryd.prog a52) (dcall_of_vcR c52) ?_
          simp [a52, tE]
          refine leave_fn (TD Tryd.prog a57) (dcall_of_vc c57) ?_
          simp [a57, q2]
          exact nilSm
      · have p : okOp s o = false := by simpa using p
        rw [p] at hR
        obtain ⟨g1, g2⟩ := hfail p
        refine vc_path [.ret (dB false), .pan (tE 170)] ?_
        simp
        refine ⟨hR, .need_f 170, ?_⟩
        refine leave_fn (TR Tryd.prog a52) (dcall_of_vcR c52) ?_
        simp [a52, tE]
        refine leave_fn (TD Tryd.prog a57) (dcall_of_vc c57) ?_
        simp [a57]
        exact ⟨g1, leD_of_eq (by rw [g2])⟩
    · have hR := hR3 k
      have hN := hN3 k
      refine vc_pathD [.retM kMap] ?_
      simp [e1, e2, e3, kMap, fnD]
      refine ⟨.kinds, rfl, ?_⟩
      by_cases p : okOp s o = true
      · rw [p] at hR
        refine vc_path [.ret (dB true), .ret (.tup [])] ?_
        simp
        refine ⟨hR, .need_t 170, vc_path [.ret (dSm (next s o))] ?_⟩
        simp
        refine ⟨hN p, ?_⟩
        by_cases q2 : eSm (next s o) = 0
        · have d1 : doE s o = 0 := by simp [doE, q, p, q2]
          have d2 : doX s o = next s o := by simp [doX, d1]
          rw [d1, d2]
          refine vc_path [.ret (.tup [])] ?_
          simp [oE, q2] at hc2 ⊢
          refine ⟨hc2, ?_⟩
          refine leave_fn (TR Tryd.prog a52) (dcall_of_vcR c52) ?_
          simp [a52]
          refine leave_fn (TD Tryd.prog a57) (dcall_of_vc c57) ?_
          simp [a57]
          exact LeD.refl _
        · have d1 : doE s o = eSm (next s o) := by simp [doE, q, p]
          have d2 : doX s o = ⟨[], 0⟩ := by simp [doX, d1, q2]
          rw [d1, d2]
          refine vc_path [.pan (tE (eSm (next s o)))] ?_
          simp [oE, q2] at hc2 ⊢
          refine ⟨hc2, ?_⟩
          refine leave_fn (TR Tryd.prog a52) (dcall_of_vcR c52) ?_
          simp [a52, tE]
          refine leave_fn (TD Tryd.prog a57) (dcall_of_vc c57) ?_
          simp [a57, q2]
          exact nilSm
      · have p : okOp s o = false := by simpa using p
        rw [p] at hR
        obtain ⟨g1, g2⟩ := hfail p
        refine vc_path [.ret (dB false), .pan (tE 170)] ?_
        simp
        refine ⟨hR, .need_f 170, ?_⟩
        refine leave_fn (TR Tryd.prog a52) (dcall_of_vcR c52) ?_
        simp [a52, tE]
        refine leave_fn (TD Tryd.prog a57) (dcall_of_vc c57) ?_
        simp [a57]
        exact ⟨g1, leD_of_eq (by rw [g2])⟩
    · obtain ⟨g1, g2⟩ := hfail k
      refine vc_pathD [.retM kMap] ?_
      simp [e1, e2, e3, kMap, fnD]
      refine ⟨.kinds, rfl, ?_⟩
      refine vc_path [.ret (.tup []), .pan (tE 170)] ?_
      simp
      refine ⟨.need_f 170, ?_⟩
      refine leave_fn (TR Tryd.prog a52) (dcall_of_vcR c52) ?_
      simp [a52, tE]
      refine leave_fn (TD Tryd.prog a57) (dcall_of_vc c57) ?_
      simp [a57]
      exact ⟨g1, leD_of_eq (by rw [g2])⟩
  · have e1 : doE s o = eSm s := by simp [doE, q]
    have e2 : doX s o = ⟨[], 0⟩ := by simp [doX, e1, q]
    rw [e1, e2]
    refine vc_path [.pan (tE (eSm s))] ?_
    simp [oE, q] at hc ⊢
    refine ⟨hc, ?_⟩
    refine leave_fn (TR Tryd.prog a52) (dcall_of_vcR c52) ?_
    simp [a52, tE]
    refine leave_fn (TD Tryd.prog a57) (dcall_of_vc c57) ?_
    simp [a57, q]
    exact nilSm
end Go.Proofs.YteonapeaaepipaaDoor
end

section
namespace Go.Proofs.YteonapeaaepipaaDoor
open Go Go.Proofs.YteonapeaaepipaaDoor.AL
/-! Plain laws of streams and ops. -/
theorem eSm_ok {m : Sm} (h : eSm m = 0) : m.w.length ≤ 4096 ∧ 0 ≤ m.x ∧ m.x ≤ m.w.length ∧ okWs 0 m.w = true := by
  unfold eSm at h
  split at h
  · split at h
    · rename_i h1 h2
      split at h
      · rename_i h3; exact ⟨by omega, h2.1, h2.2, h3⟩
      · simp at h
    · simp at h
  · simp at h
theorem eSm_of {m : Sm} (h1 : m.w.length ≤ 4096) (h2 : 0 ≤ m.x) (h3 : m.x ≤ m.w.length) (h4 : okWs 0 m.w = true) : eSm m = 0 := by
  unfold eSm
  rw [if_pos (by omega), if_pos ⟨h2, h3⟩, if_pos h4]
theorem eSm_x {w : List Wd} {x y : Int} (hx : 0 ≤ x ∧ x ≤ w.length) (hy : 0 ≤ y ∧ y ≤ w.length) : eSm ⟨w, x⟩ = eSm ⟨w, y⟩ := by
  simp [eSm, hx, hy]
theorem doE_ok {s : Sm} {o : Op} (h : doE s o = 0) : eSm s = 0 ∧ okOp s o = true ∧ eSm (next s o) = 0 ∧ doX s o = next s o := by
  have h0 := h
  unfold doE at h
  split at h
  · rename_i h1
    split at h
    · rename_i h2
      exact ⟨h1, h2, h, by simp [doX, h0]⟩
    · simp at h
  · exact absurd h ‹_›
theorem doX_bad {s : Sm} {o : Op} (h : doE s o ≠ 0) : doX s o = ⟨[], 0⟩ := by simp [doX, h]
theorem doE_eq {s : Sm} {o : Op} (h1 : eSm s = 0) (h2 : okOp s o = true) : doE s o = eSm (next s o) := by simp [doE, h1, h2]
theorem okRev_ok {s : Sm} {o : Op} (h : okRev s o = true) : s.x ≤ o.a ∧ o.a ≤ s.w.length ∧ 1 ≤ o.c ∧ o.c ≤ 64 ∧ o.a + o.c ≤ s.w.length ∧ (o.w.length : Int) ≤ 64 ∧ o.w ≠ (s.w.take (o.a + o.c).toNat).drop o.a.toNat := by
  simp only [okRev, Bool.and_eq_true, decide_eq_true_eq, Bool.not_eq_true', decide_eq_false_iff_not] at h
  exact ⟨h.1, h.2.1, h.2.2.1, h.2.2.2.1, h.2.2.2.2.1, h.2.2.2.2.2.1, h.2.2.2.2.2.2⟩
theorem okRev_of {s : Sm} {o : Op} (h1 : s.x ≤ o.a) (h2 : o.a ≤ s.w.length) (h3 : 1 ≤ o.c) (h4 : o.c ≤ 64) (h5 : o.a + o.c ≤ s.w.length) (h6 : (o.w.length : Int) ≤ 64) (h7 : o.w ≠ (s.w.take (o.a + o.c).toNat).drop o.a.toNat) : okRev s o = true := by
  simp [okRev, h1, h2, h3, h4, h5, h6, h7]
theorem okFix_ok {s : Sm} {o : Op} (h : okFix s o = true) : s.x ≤ o.a ∧ o.a ≤ s.w.length ∧ o.c = 0 ∧ o.w = [] := by
  simp only [okFix, Bool.and_eq_true, decide_eq_true_eq] at h
  exact h
/-- What is fixed stays. -/
theorem fixed_step {s : Sm} {o : Op} (h : doE s o = 0) : eSm (doX s o) = 0 ∧ s.x ≤ (doX s o).x ∧ (doX s o).x ≤ (doX s o).w.length ∧ (doX s o).w.take s.x.toNat = s.w.take s.x.toNat := by
  obtain ⟨h1, h2, h3, h4⟩ := doE_ok h
  rw [h4]
  obtain ⟨_, g2, g3, _⟩ := eSm_ok h1
  refine ⟨h3, ?_, (eSm_ok h3).2.2.1, ?_⟩
  · unfold okOp at h2
    unfold next
    split
    · exact Int.le_refl _
    · rename_i k1
      split
      · exact Int.le_refl _
      · rename_i k2
        rw [if_neg k1, if_neg k2] at h2
        split at h2
        · exact (okFix_ok h2).1
        · cases h2
  · unfold okOp at h2
    unfold next
    split
    · simp only
      rw [List.take_append_of_le_length (by omega)]
    · rename_i k1
      split
      · rename_i k2
        rw [if_neg k1, if_pos k2] at h2
        obtain ⟨r1, r2, _⟩ := okRev_ok h2
        simp only
        rw [List.take_append_of_le_length (by simp; omega), List.take_take]
        congr 1; omega
      · rfl
/-- A revision is revised back. -/
theorem back_law {s : Sm} {o : Op} (h : doE s o = 0) (hk : o.k = 2) (hw : o.w ≠ []) :
    0 ≤ o.a ∧ 1 ≤ o.c ∧ o.a + o.c ≤ s.w.length ∧ doE (doX s o) ⟨2, o.a, o.w.length, (s.w.take (o.a + o.c).toNat).drop o.a.toNat⟩ = 0 ∧ doX (doX s o) ⟨2, o.a, o.w.length, (s.w.take (o.a + o.c).toNat).drop o.a.toNat⟩ = s := by
  obtain ⟨h1, h2, h3, h4⟩ := doE_ok h
  obtain ⟨_, g2, g3, _⟩ := eSm_ok h1
  have h2' : okRev s o = true := by simpa [okOp, hk] using h2
  obtain ⟨r1, r2, r3, r4, r5, r6, r7⟩ := okRev_ok h2'
  have hn : next s o = ⟨s.w.take o.a.toNat ++ (o.w ++ s.w.drop (o.a + o.c).toNat), s.x⟩ := by simp [next, hk]
  have hl : 1 ≤ o.w.length := by
    cases hh : o.w with
    | nil => exact absurd hh hw
    | cons => simp
  have ht : (s.w.take o.a.toNat).length = o.a.toNat := by simp; omega
  have e1 : ((s.w.take o.a.toNat ++ (o.w ++ s.w.drop (o.a + o.c).toNat)).take (o.a + o.w.length).toNat).drop o.a.toNat = o.w := by
    have : (o.a + o.w.length).toNat = o.a.toNat + o.w.length := by omega
    rw [this, List.take_append, ht, List.take_of_length_le (by omega), show o.a.toNat + o.w.length - o.a.toNat = o.w.length by omega, List.take_left, List.drop_append, ht]
    simp
  have e2 : (s.w.take o.a.toNat ++ (o.w ++ s.w.drop (o.a + o.c).toNat)).take o.a.toNat = s.w.take o.a.toNat := by
    rw [List.take_append, ht]; simp [List.take_take]
  have e3 : (s.w.take o.a.toNat ++ (o.w ++ s.w.drop (o.a + o.c).toNat)).drop (o.a + o.w.length).toNat = s.w.drop (o.a + o.c).toNat := by
    have : (o.a + o.w.length).toNat = o.a.toNat + o.w.length := by omega
    rw [this, List.drop_append, ht, show o.a.toNat + o.w.length - o.a.toNat = o.w.length by omega, List.drop_left, List.drop_eq_nil_of_le (by omega), List.nil_append]
  have e4 : s.w.take o.a.toNat ++ ((s.w.take (o.a + o.c).toNat).drop o.a.toNat ++ s.w.drop (o.a + o.c).toNat) = s.w := by
    have : s.w.take o.a.toNat = (s.w.take (o.a + o.c).toNat).take o.a.toNat := by
      rw [List.take_take]; congr 1; omega
    rw [this, ← List.append_assoc, List.take_append_drop, List.take_append_drop]
  have hlen : ((s.w.take o.a.toNat ++ (o.w ++ s.w.drop (o.a + o.c).toNat)).length : Int) = s.w.length - o.c + o.w.length := by simp; omega
  have hlr : (((s.w.take (o.a + o.c).toNat).drop o.a.toNat).length : Int) = o.c := by simp; omega
  have hok : okOp (next s o) ⟨2, o.a, o.w.length, (s.w.take (o.a + o.c).toNat).drop o.a.toNat⟩ = true := by
    rw [hn]
    simp only [okOp]
    rw [if_neg (by decide), if_pos trivial]
    refine okRev_of r1 ?_ ?_ r6 ?_ ?_ ?_
    · simp only [hlen]; omega
    · simp only; omega
    · simp only [hlen]; omega
    · simp only [hlr]; omega
    · simp only [e1]; exact fun e => r7 e.symm
  have hnn : next (next s o) ⟨2, o.a, o.w.length, (s.w.take (o.a + o.c).toNat).drop o.a.toNat⟩ = s := by
    rw [hn]
    simp only [next]
    rw [if_neg (by decide), if_pos trivial]
    simp only [e2, e3, e4]
  refine ⟨by omega, r3, r5, ?_⟩
  rw [h4]
  have hd : doE (next s o) ⟨2, o.a, o.w.length, (s.w.take (o.a + o.c).toNat).drop o.a.toNat⟩ = 0 := by
    rw [doE_eq h3 hok, hnn, h1]
  exact ⟨hd, by rw [(doE_ok hd).2.2.2, hnn]⟩
theorem okWs_append : ∀ (l : Int) (a b : List Wd), okWs l (a ++ b) = true → okWs l a = true
  | l, [], b, _ => rfl
  | l, x :: a, b, h => by
    simp only [List.cons_append, okWs, Bool.and_eq_true] at h ⊢
    exact ⟨h.1, h.2.1, okWs_append _ a b h.2.2⟩
/-- Words are added in two parts as they are added at once. -/
theorem adds_law {s : Sm} {l : List Wd} {k : Nat} (hs : s.w.length ≤ 100) (h1 : 1 ≤ k) (h2 : k < l.length) (h3 : l.length ≤ 64) :
    (doE s ⟨1, 0, 0, l.take k⟩ ≠ 0 → doE s ⟨1, 0, 0, l⟩ = doE s ⟨1, 0, 0, l.take k⟩) ∧
    (doE s ⟨1, 0, 0, l.take k⟩ = 0 → doE s ⟨1, 0, 0, l⟩ = doE (doX s ⟨1, 0, 0, l.take k⟩) ⟨1, 0, 0, l.drop k⟩ ∧ doX s ⟨1, 0, 0, l⟩ = doX (doX s ⟨1, 0, 0, l.take k⟩) ⟨1, 0, 0, l.drop k⟩) := by
  have ok : ∀ (s : Sm) (m : List Wd), 0 < m.length → m.length ≤ 64 → okOp s ⟨1, 0, 0, m⟩ = true := fun s m a b => by
    simp only [okOp, okAdd, if_true, Bool.and_eq_true, decide_eq_true_eq]
    exact ⟨trivial, trivial, a, by omega⟩
  have nx : ∀ (s : Sm) (m : List Wd), next s ⟨1, 0, 0, m⟩ = ⟨s.w ++ m, s.x⟩ := fun s m => by simp [next]
  have okl := ok s l (by omega) h3
  have okt := ok s (l.take k) (by simp; omega) (by simp; omega)
  by_cases q : eSm s = 0
  · obtain ⟨_, g2, g3, _⟩ := eSm_ok q
    rw [doE_eq q okl, doE_eq q okt, nx, nx]
    constructor
    · intro hb
      have hw : ¬ okWs 0 (s.w ++ l.take k) = true := fun hw => hb (eSm_of (by simp; omega) g2 (by simp; omega) hw)
      have hw2 : ¬ okWs 0 (s.w ++ l) = true := fun h => hw (okWs_append 0 _ (l.drop k) (by rw [List.append_assoc, List.take_append_drop]; exact h))
      unfold eSm
      simp only
      rw [if_pos (by simp; omega), if_pos (by simp; omega), if_neg hw2, if_pos (by simp; omega), if_pos (by simp; omega), if_neg hw]
    · intro hb
      have ht : doE s ⟨1, 0, 0, l.take k⟩ = 0 := by rw [doE_eq q okt, nx]; exact hb
      have hx : doX s ⟨1, 0, 0, l.take k⟩ = ⟨s.w ++ l.take k, s.x⟩ := by rw [(doE_ok ht).2.2.2, nx]
      have okd := ok ⟨s.w ++ l.take k, s.x⟩ (l.drop k) (by simp; omega) (by simp; omega)
      have e : next ⟨s.w ++ l.take k, s.x⟩ ⟨1, 0, 0, l.drop k⟩ = ⟨s.w ++ l, s.x⟩ := by
        rw [nx]; simp only [List.append_assoc, List.take_append_drop]
      rw [hx, doE_eq hb okd, e]
      refine ⟨rfl, ?_⟩
      unfold doX
      rw [doE_eq q okl, doE_eq hb okd, e, nx]
  · have e : ∀ m, doE s ⟨1, 0, 0, m⟩ = eSm s := fun m => by simp [doE, q]
    rw [e, e]
    exact ⟨fun _ => rfl, fun h => absurd h q⟩
/-- Revisions of different places. -/
theorem apart_law {s : Sm} {a b : Op} (ha : a.k = 2) (hb : b.k = 2) (h1 : 0 ≤ a.a) (h2 : 0 ≤ a.c) (h3 : a.a + a.c ≤ b.a) (e : doE s a = 0) (f : doE s b = 0) :
    doE (doX s a) ⟨2, b.a + (a.w.length - a.c), b.c, b.w⟩ = doE (doX s b) a ∧ doX (doX s a) ⟨2, b.a + (a.w.length - a.c), b.c, b.w⟩ = doX (doX s b) a := by
  obtain ⟨p1, p2, p3, p4⟩ := doE_ok e
  obtain ⟨_, q2, q3, q4⟩ := doE_ok f
  obtain ⟨_, g2, g3, _⟩ := eSm_ok p1
  have p2' : okRev s a = true := by simpa [okOp, ha] using p2
  have q2' : okRev s b = true := by simpa [okOp, hb] using q2
  obtain ⟨a1, a2, a3, a4, a5, a6, a7⟩ := okRev_ok p2'
  obtain ⟨b1, b2, b3, b4, b5, b6, b7⟩ := okRev_ok q2'
  have hna : next s a = ⟨s.w.take a.a.toNat ++ (a.w ++ s.w.drop (a.a + a.c).toNat), s.x⟩ := by simp [next, ha]
  have hnb : next s b = ⟨s.w.take b.a.toNat ++ (b.w ++ s.w.drop (b.a + b.c).toNat), s.x⟩ := by simp [next, hb]
  rw [p4, q4]
  -- the five parts of the words
  obtain ⟨i, hi⟩ : ∃ i : Nat, a.a = i := ⟨a.a.toNat, by omega⟩
  obtain ⟨c, hc⟩ : ∃ i : Nat, a.c = i := ⟨a.c.toNat, by omega⟩
  obtain ⟨j, hj⟩ : ∃ i : Nat, b.a = i := ⟨b.a.toNat, by omega⟩
  obtain ⟨d, hd⟩ : ∃ i : Nat, b.c = i := ⟨b.c.toNat, by omega⟩
  obtain ⟨w, x⟩ := s
  obtain ⟨ak, aa, ac, aw⟩ := a
  obtain ⟨bk, ba, bc, bw⟩ := b
  simp only at ha hb hi hc hj hd
  subst ha; subst hb; subst hi; subst hc; subst hj; subst hd
  simp only at *
  have hsplit : ∃ P A M B S, w = P ++ (A ++ (M ++ (B ++ S))) ∧ P.length = i ∧ A.length = c ∧ M.length = j - (i + c) ∧ B.length = d := by
    refine ⟨w.take i, (w.drop i).take c, (w.drop (i + c)).take (j - (i + c)), (w.drop j).take d, w.drop (j + d), ?_, by simp; omega, by simp; omega, by simp; omega, by simp; omega⟩
    have e1 : (w.drop j).take d ++ w.drop (j + d) = w.drop j := by rw [← List.drop_drop, List.take_append_drop]
    have e2 : (w.drop (i + c)).take (j - (i + c)) ++ w.drop j = w.drop (i + c) := by
      have : w.drop j = (w.drop (i + c)).drop (j - (i + c)) := by rw [List.drop_drop]; congr 1; omega
      rw [this, List.take_append_drop]
    have e3 : (w.drop i).take c ++ w.drop (i + c) = w.drop i := by rw [← List.drop_drop, List.take_append_drop]
    rw [e1, e2, e3, List.take_append_drop]
  obtain ⟨P, A, M, B, S, rfl, hP, hA, hM, hB⟩ := hsplit
  have t1 : ((i : Int) + (c : Int)).toNat = i + c := by omega
  have t2 : ((j : Int) + (d : Int)).toNat = j + d := by omega
  have t0 : (i : Int).toNat = i := by omega
  have t3 : (j : Int).toNat = j := by omega
  rw [t0, t1] at hna a7
  rw [t3, t2] at hnb b7
  have tk : ∀ (n : Nat) (X Y : List Wd), X.length = n → (X ++ Y).take n = X := fun n X Y h => by rw [← h]; exact List.take_left ..
  have dp : ∀ (n : Nat) (X Y : List Wd), X.length = n → (X ++ Y).drop n = Y := fun n X Y h => by rw [← h]; exact List.drop_left ..
  have na : next ⟨P ++ (A ++ (M ++ (B ++ S))), x⟩ ⟨2, i, c, aw⟩ = ⟨P ++ (aw ++ (M ++ (B ++ S))), x⟩ := by
    rw [hna, tk i P _ hP, ← List.append_assoc P A, dp (i + c) (P ++ A) _ (by simp; omega)]
  have nb : next ⟨P ++ (A ++ (M ++ (B ++ S))), x⟩ ⟨2, j, d, bw⟩ = ⟨P ++ (A ++ (M ++ (bw ++ S))), x⟩ := by
    rw [hnb]
    have r1 : P ++ (A ++ (M ++ (B ++ S))) = (P ++ (A ++ M)) ++ (B ++ S) := by simp
    have r2 : P ++ (A ++ (M ++ (B ++ S))) = (P ++ (A ++ (M ++ B))) ++ S := by simp
    conv => lhs; rw [r2]
    rw [dp (j + d) (P ++ (A ++ (M ++ B))) S (by simp; omega), ← r2, r1, tk j (P ++ (A ++ M)) _ (by simp; omega)]
    simp
  have n1 : next ⟨P ++ (aw ++ (M ++ (B ++ S))), x⟩ ⟨2, j + (aw.length - c), d, bw⟩ = ⟨P ++ (aw ++ (M ++ (bw ++ S))), x⟩ := by
    have u1 : ((j : Int) + ((aw.length : Int) - c)).toNat = i + aw.length + (j - (i + c)) := by omega
    have u2 : ((j : Int) + ((aw.length : Int) - c) + d).toNat = i + aw.length + (j - (i + c)) + d := by omega
    have r1 : P ++ (aw ++ (M ++ (B ++ S))) = (P ++ (aw ++ M)) ++ (B ++ S) := by simp
    have r2 : P ++ (aw ++ (M ++ (B ++ S))) = (P ++ (aw ++ (M ++ B))) ++ S := by simp
    simp only [next]
    rw [if_neg (by decide), if_pos trivial, u1, u2]
    conv => lhs; rw [r2]
    rw [dp _ (P ++ (aw ++ (M ++ B))) S (by simp; omega), ← r2, r1, tk _ (P ++ (aw ++ M)) _ (by simp; omega)]
    simp
  have n2 : next ⟨P ++ (A ++ (M ++ (bw ++ S))), x⟩ ⟨2, i, c, aw⟩ = ⟨P ++ (aw ++ (M ++ (bw ++ S))), x⟩ := by
    simp only [next]
    rw [if_neg (by decide), if_pos trivial, t0, t1, tk i P _ hP, ← List.append_assoc P A, dp (i + c) (P ++ A) _ (by simp; omega)]
  have w1 : (((P ++ (A ++ (M ++ (B ++ S)))).take (i + c)).drop i) = A := by
    rw [← List.append_assoc P A, tk (i + c) (P ++ A) _ (by simp; omega), dp i P A hP]
  have w2 : (((P ++ (A ++ (M ++ (B ++ S)))).take (j + d)).drop j) = B := by
    have r2 : P ++ (A ++ (M ++ (B ++ S))) = (P ++ (A ++ (M ++ B))) ++ S := by simp
    rw [r2, tk (j + d) _ S (by simp; omega)]
    have r3 : P ++ (A ++ (M ++ B)) = (P ++ (A ++ M)) ++ B := by simp
    rw [r3, dp j _ B (by simp; omega)]
  rw [w1] at a7
  rw [w2] at b7
  rw [na] at p3 ⊢
  rw [nb] at q3 ⊢
  have o1 : okOp ⟨P ++ (aw ++ (M ++ (B ++ S))), x⟩ ⟨2, j + (aw.length - c), d, bw⟩ = true := by
    simp only [okOp]
    rw [if_neg (by decide), if_pos trivial]
    have u1 : ((j : Int) + ((aw.length : Int) - c)).toNat = i + aw.length + (j - (i + c)) := by omega
    have u2 : ((j : Int) + ((aw.length : Int) - c) + d).toNat = i + aw.length + (j - (i + c)) + d := by omega
    refine okRev_of ?_ ?_ b3 b4 ?_ b6 ?_
    · simp only; simp at g3 a5; omega
    · simp; omega
    · simp; omega
    · simp only [u1, u2]
      have r2 : P ++ (aw ++ (M ++ (B ++ S))) = (P ++ (aw ++ (M ++ B))) ++ S := by simp
      have r3 : P ++ (aw ++ (M ++ B)) = (P ++ (aw ++ M)) ++ B := by simp
      rw [r2, tk _ _ S (by simp; omega), r3, dp _ _ B (by simp; omega)]
      exact b7
  have o2 : okOp ⟨P ++ (A ++ (M ++ (bw ++ S))), x⟩ ⟨2, i, c, aw⟩ = true := by
    simp only [okOp]
    rw [if_neg (by decide), if_pos trivial]
    refine okRev_of a1 ?_ a3 a4 ?_ a6 ?_
    · simp; omega
    · simp; omega
    · simp only [t0, t1]
      rw [← List.append_assoc P A, tk (i + c) (P ++ A) _ (by simp; omega), dp i P A hP]
      exact a7
  have d1 := doE_eq p3 o1
  have d2 := doE_eq q3 o2
  rw [n1] at d1
  rw [n2] at d2
  refine ⟨d1.trans d2.symm, ?_⟩
  unfold doX
  rw [d1, d2, n1, n2]
/-- What is fixed cannot be revised any more. -/
theorem fix_law {s : Sm} {at_ : Int} (e : doE s ⟨3, at_, 0, []⟩ = 0) :
    s.x ≤ at_ ∧ at_ ≤ s.w.length ∧ doX s ⟨3, at_, 0, []⟩ = ⟨s.w, at_⟩ ∧ eSm s = 0 ∧ eSm ⟨s.w, at_⟩ = 0 := by
  obtain ⟨p1, p2, p3, p4⟩ := doE_ok e
  have h : okFix s ⟨3, at_, 0, []⟩ = true := by simpa [okOp] using p2
  obtain ⟨q1, q2, _⟩ := okFix_ok h
  have hn : next s ⟨3, at_, 0, []⟩ = ⟨s.w, at_⟩ := by simp [next]
  rw [hn] at p3 p4
  exact ⟨q1, q2, p4, p1, p3⟩
theorem fix_less {w : List Wd} {at_ : Int} (h : eSm ⟨w, at_⟩ = 0) : doE ⟨w, at_⟩ ⟨3, at_ - 1, 0, []⟩ = 170 := by
  have : okOp ⟨w, at_⟩ ⟨3, at_ - 1, 0, []⟩ = false := by
    simp [okOp, okFix, show ¬ at_ ≤ at_ - 1 by omega]
  simp [doE, h, this]
theorem fix_below {w : List Wd} {at_ : Int} {o : Op} (h : eSm ⟨w, at_⟩ = 0) (hk : o.k ≠ 1) (ho : o.a < at_) : doE ⟨w, at_⟩ o = 170 := by
  have : okOp ⟨w, at_⟩ o = false := by
    simp [okOp, okFix, okRev, hk, show ¬ at_ ≤ o.a by omega]
  simp [doE, h, this]
theorem fix_above {s : Sm} {at_ : Int} {o : Op} (h0 : eSm s = 0) (h : eSm ⟨s.w, at_⟩ = 0) (h1 : s.x ≤ at_) (ho : o.k = 1 ∨ at_ ≤ o.a) : doE s o = doE ⟨s.w, at_⟩ o ∧ (doX s o).w = (doX ⟨s.w, at_⟩ o).w := by
  obtain ⟨_, g2, g3, _⟩ := eSm_ok h0
  obtain ⟨_, g5, g6, _⟩ := eSm_ok h
  simp only at g5 g6
  have hok : okOp s o = okOp ⟨s.w, at_⟩ o := by
    unfold okOp
    split
    · rfl
    · rename_i k1
      have ho : at_ ≤ o.a := ho.resolve_left k1
      have c1 : decide (s.x ≤ o.a) = decide (at_ ≤ o.a) := by simp [ho]; omega
      simp [okRev, okFix, c1]
  have hd : doE s o = doE ⟨s.w, at_⟩ o := by
    unfold doE
    rw [if_pos h0, if_pos h, ← hok]
    split
    · rename_i hp
      unfold okOp at hp
      unfold next
      split
      · exact eSm_x (by simp; omega) (by simp; omega)
      · rename_i k1
        rw [if_neg k1] at hp
        have ho : at_ ≤ o.a := ho.resolve_left k1
        split
        · rename_i k2
          rw [if_pos k2] at hp
          obtain ⟨r1, r2, r3, r4, r5, r6, r7⟩ := okRev_ok hp
          exact eSm_x (by simp; omega) (by simp; omega)
        · rfl
    · rfl
  refine ⟨hd, ?_⟩
  unfold doX
  rw [← hd]
  split
  · unfold next
    split
    · rfl
    · split <;> rfl
  · rfl
end Go.Proofs.YteonapeaaepipaaDoor
end

section
namespace Go.Proofs.YteonapeaaepipaaDoor
open Go Go.Proofs.YteonapeaaepipaaDoor.AL
attribute [local simp] dT_agg dT_nt dT_noTup dT_cells dT_one bs_toList bs_size strV
def longF (b : Int) : Int × Int := if b < 128 then (1, b) else if 192 ≤ b ∧ b < 224 then (2, b - 192) else if 224 ≤ b ∧ b < 240 then (3, b - 224) else if 240 ≤ b ∧ b < 248 then (4, b - 240) else (0, 0)
theorem long (b : Int) (hb : 0 ≤ b ∧ b ≤ 255) : PCall Tryd.prog 147 [dI b] (.ret (.tup [dI (longF b).1, dI (longF b).2])) := by
  refine pcall_of_vc noC c147 (by simp [a147]) fun hr => ?_
  have w1 : IntKind.i64.wrap (b - 192) = b - 192 := wrap64 (by omega)
  have w2 : IntKind.i64.wrap (b - 224) = b - 224 := wrap64 (by omega)
  have w3 : IntKind.i64.wrap (b - 240) = b - 240 := wrap64 (by omega)
  simp [a147]
  have fin : ∀ x y : Int, (x, y) = longF b → LeD (.lit (.int .i64 x)) (.lit (.int .i64 (longF b).1)) ∧ LeD (.lit (.int .i64 y)) (.lit (.int .i64 (longF b).2)) := fun x y h => by rw [← h]; exact ⟨LeD.refl _, LeD.refl _⟩
  refine ⟨fun q => fin 1 b (by simp [longF, q]), fun q => vc_path [] ?_⟩
  simp [w1]
  refine ⟨fun q1 => ⟨fun q2 => fin 2 _ (by unfold longF; rw [if_neg (by omega), if_pos (by omega)]), fun q2 => vc_path [] ?_⟩, fun q1 => vc_path [] ?_⟩
  · simp [w2, q2]
    refine ⟨fun q3 => fin 3 _ (by unfold longF; rw [if_neg (by omega), if_neg (by omega), if_pos (by omega)]), fun q3 => vc_path [] ?_⟩
    simp [w3, q3]
    refine ⟨fun q4 => fin 4 _ (by unfold longF; rw [if_neg (by omega), if_neg (by omega), if_neg (by omega), if_pos (by omega)]), fun q4 => fin 0 0 (by unfold longF; rw [if_neg (by omega), if_neg (by omega), if_neg (by omega), if_neg (by omega)])⟩
  · have q2 : ¬ 224 ≤ b := by omega
    have q3 : ¬ 240 ≤ b := by omega
    simp [q2]
    refine vc_path [] ?_
    simp [q3]
    exact fin 0 0 (by unfold longF; rw [if_neg (by omega), if_neg (by omega), if_neg (by omega), if_neg (by omega)])
def pointB (r : Int) : Bool := decide (0 ≤ r) && (decide (r ≤ 1114111) && (decide (r < 55296) || decide (r > 57343)))
theorem point (r : Int) : PCall Tryd.prog 148 [dI r] (.ret (dB (pointB r))) := by
  refine pcall_of_vc noC c148 (by simp [a148]) fun hr => ?_
  simp [a148]
  refine vc_path [] ?_
  simp [pointB]
  exact ⟨fun q1 => ⟨fun q2 => ⟨fun q3 => leD_of_eq (by simp [q1, q2, q3]), fun q3 => leD_of_eq (by simp [q1, q2, show ¬ r < 55296 by omega])⟩, fun q2 => leD_of_eq (by simp [show ¬ r ≤ 1114111 by omega])⟩, fun q1 => leD_of_eq (by simp [show ¬ 0 ≤ r by omega])⟩
def kindF (r : Int) : Int × Int :=
  if pointB r = false then (0, 90) else if r = 9 ∨ r = 10 ∨ r = 13 ∨ r = 32 then (1, 0) else if 48 ≤ r ∧ r ≤ 57 then (2, 0)
  else if (65 ≤ r ∧ r ≤ 90) ∨ (97 ≤ r ∧ r ≤ 122) ∨ (192 ≤ r ∧ r ≤ 591 ∧ r ≠ 215 ∧ r ≠ 247) ∨ (880 ≤ r ∧ r ≤ 1279) then (3, 0) else if 1424 ≤ r ∧ r ≤ 1983 then (4, 0) else (0, 0)
inductive CPt : FuncId → List D → Out → Prop
  | pt (r : Int) : CPt 148 [dI r] (.ret (dB (pointB r)))
theorem hPt : ∀ f ds out, CPt f ds out → PCall Tryd.prog f ds out := by
  intro f ds out h
  cases h with
  | pt r => exact point r
set_option maxRecDepth 8000 in
set_option maxHeartbeats 8000000 in
theorem kind (r : Int) : PCall Tryd.prog 139 [dI r] (.ret (.tup [dI (kindF r).1, dI (kindF r).2])) := by
  refine pcall_of_vc hPt c139 (by simp [a139]) fun hr => ?_
  have hp := CPt.pt r
  generalize hb : pointB r = pb at hp
  simp [a139]
  refine vc_path [.ret (dB pb)] ?_
  simp
  refine ⟨hp, fun q => ?_, fun q => vc_path [] ?_⟩
  · have : kindF r = (0, 90) := by unfold kindF; rw [if_pos (by rw [hb, q])]
    rw [this]; exact ⟨LeD.refl _, LeD.refl _⟩
  have fin : ∀ x y : Int, (x, y) = kindF r → LeD (.lit (.int .i64 x)) (.lit (.int .i64 (kindF r).1)) ∧ LeD (.lit (.int .i64 y)) (.lit (.int .i64 (kindF r).2)) := fun x y h => by rw [← h]; exact ⟨LeD.refl _, LeD.refl _⟩
  have hk : kindF r = if r = 9 ∨ r = 10 ∨ r = 13 ∨ r = 32 then (1, 0) else if 48 ≤ r ∧ r ≤ 57 then (2, 0)
    else if (65 ≤ r ∧ r ≤ 90) ∨ (97 ≤ r ∧ r ≤ 122) ∨ (192 ≤ r ∧ r ≤ 591 ∧ r ≠ 215 ∧ r ≠ 247) ∨ (880 ≤ r ∧ r ≤ 1279) then (3, 0) else if 1424 ≤ r ∧ r ≤ 1983 then (4, 0) else (0, 0) := by
    unfold kindF; rw [if_neg (by rw [hb, q]; simp)]
  clear hb
  simp
  iterate 40 all_goals (try (first
     | (refine fin _ _ ?_)
     | (refine vc_path [] ?_; simp)
     | (refine And.intro ?_ ?_)
     | (intro _)))
  all_goals (rw [hk]; repeat' split)
  all_goals first | rfl | (exfalso; omega)
theorem kind_space (r : Int) : decide ((kindF r).1 = 1) = spc r := by
  unfold kindF spc pointB
  repeat' split
  all_goals simp
  all_goals simp at *
  all_goals omega
inductive CKd : FuncId → List D → Out → Prop
  | kd (r : Int) : CKd 139 [dI r] (.ret (.tup [dI (kindF r).1, dI (kindF r).2]))
theorem hKd : ∀ f ds out, CKd f ds out → PCall Tryd.prog f ds out := by
  intro f ds out h
  cases h with
  | kd r => exact kind r
theorem rspace (r : Int) : PCall Tryd.prog 130 [dI r] (.ret (dB (spc r))) := by
  refine pcall_of_vc hKd c130 (by simp [a130]) fun hr => ?_
  simp [a130]
  refine vc_path [.ret (.tup [dI (kindF r).1, dI (kindF r).2])] ?_
  simp
  exact ⟨.kd r, leD_of_eq (by rw [← kind_space]; rfl)⟩
end Go.Proofs.YteonapeaaepipaaDoor
end

section
namespace Go.Proofs.YteonapeaaepipaaDoor
open Go Go.Proofs.YteonapeaaepipaaDoor.AL
attribute [local simp] dT_agg dT_nt dT_noTup dT_cells dT_one bs_toList bs_size strV
def u8 (n : Nat) : UInt8 := UInt8.ofNat n
theorem u8w (n : Nat) (h : n < 256) : IntKind.u8.wrap (n : Int) = n := by
  simp [IntKind.wrap, IntKind.bits, IntKind.signed]; omega
theorem dU_u8 (n : Nat) (h : n < 256) : (.lit (.int .u8 (IntKind.u8.wrap (n : Int))) : D) = dU (u8 n) := by
  rw [u8w n h, dU, u8, UInt8.toNat_ofNat', Nat.mod_eq_of_lt h]
def encB (r : Nat) : List UInt8 :=
  if r < 128 then [u8 r] else if r < 2048 then [u8 (192 + r / 64), u8 (128 + r % 64)] else if r < 65536 then [u8 (224 + r / 4096), u8 (128 + r / 64 % 64), u8 (128 + r % 64)]
  else [u8 (240 + r / 262144), u8 (128 + r / 4096 % 64), u8 (128 + r / 64 % 64), u8 (128 + r % 64)]
theorem byteEq (k : Int) (m n : Nat) (x : Int) (hk : k = m) (hx : x = n) (h : m + n < 256) : (.lit (.int .u8 (IntKind.u8.wrap (IntKind.i64.wrap (k + x)))) : D) = dU (u8 (m + n)) := by
  rw [hk, hx, show ((m : Int) + (n : Int)) = ((m + n : Nat) : Int) by omega, wrap64 (by omega)]
  exact dU_u8 _ h
theorem bytes (r : Nat) (hb : r ≤ 1114111) : PCall Tryd.prog 149 [dI r] (.ret (.sl 1 ((encB r).map dU))) := by
  refine pcall_of_vc noC c149 (by simp [a149]) fun hr => ?_
  have w1 : ∀ n : Nat, n ≤ 1114111 → IntKind.i64.wrap (n : Int) = n := fun n h => wrap64 (by omega)
  have t1 : IntKind.i64.wrap ((r : Int) / 64) = ((r / 64 : Nat) : Int) := w1 (r / 64) (by omega)
  have t2 : IntKind.i64.wrap ((r : Int) / 4096) = ((r / 4096 : Nat) : Int) := w1 (r / 4096) (by omega)
  have t3 : IntKind.i64.wrap ((r : Int) / 262144) = ((r / 262144 : Nat) : Int) := w1 (r / 262144) (by omega)
  have m1 : ((r : Int).tmod 64) = ((r % 64 : Nat) : Int) := rfl
  have m2 : (IntKind.i64.wrap ((r : Int) / 64)).tmod 64 = ((r / 64 % 64 : Nat) : Int) := by rw [t1]; rfl
  have m3 : (IntKind.i64.wrap ((r : Int) / 4096)).tmod 64 = ((r / 4096 % 64 : Nat) : Int) := by rw [t2]; rfl
  simp only [a149, vcFun_eq]
  simp
  refine ⟨fun q => leD_of_eq (congrArg (D.sl 1) ?_), fun q => ⟨fun q2 => leD_of_eq (congrArg (D.sl 1) ?_), fun q2 => ⟨fun q3 => leD_of_eq (congrArg (D.sl 1) ?_), fun q3 => leD_of_eq (congrArg (D.sl 1) ?_)⟩⟩⟩
  · rw [encB, if_pos (by omega), dU_u8 r (by omega)]; rfl
  · rw [encB, if_neg (by omega), if_pos (by omega)]
    exact congr (congrArg List.cons (byteEq 192 192 (r / 64) _ rfl t1 (by omega))) (congr (congrArg List.cons (byteEq 128 128 (r % 64) _ rfl m1 (by omega))) rfl)
  · rw [encB, if_neg (by omega), if_neg (by omega), if_pos (by omega)]
    exact congr (congrArg List.cons (byteEq 224 224 (r / 4096) _ rfl t2 (by omega))) (congr (congrArg List.cons (byteEq 128 128 (r / 64 % 64) _ rfl m2 (by omega))) (congr (congrArg List.cons (byteEq 128 128 (r % 64) _ rfl m1 (by omega))) rfl))
  · rw [encB, if_neg (by omega), if_neg (by omega), if_neg (by omega)]
    exact congr (congrArg List.cons (byteEq 240 240 (r / 262144) _ rfl t3 (by omega))) (congr (congrArg List.cons (byteEq 128 128 (r / 4096 % 64) _ rfl m3 (by omega))) (congr (congrArg List.cons (byteEq 128 128 (r / 64 % 64) _ rfl m2 (by omega))) (congr (congrArg List.cons (byteEq 128 128 (r % 64) _ rfl m1 (by omega))) rfl)))
theorem bytesOf_bs (l : List UInt8) : bytesOf (l.map dU) = bs l := by
  have h : (bytesOf (l.map dU)).toList = l := by
    rw [ByteArray.toList_eq, bytesOf, strOfNums_data, List.map_map, List.map_map]
    conv => rhs; rw [← List.map_id l]
    apply List.map_congr_left
    intro b _
    simp [dU, D.num]
  have h2 : (bytesOf (l.map dU)).data.toList = l := by rw [← Lib.toList_data]; exact h
  generalize bytesOf (l.map dU) = z at h2
  cases z
  simp only at h2
  rw [bs, ← h2]
theorem u8_all (l : List UInt8) : ∀ e ∈ l.map dU, e.u8.isSome = true := by
  intro e he
  obtain ⟨b, _, rfl⟩ := List.mem_map.1 he
  rfl
/-- The bits of the bytes behind the first. -/
def cn (b : List UInt8) (r : Int) : Nat → Option Int
  | 0 => some r
  | i + 1 => match cn b r i with
    | none => none
    | some x => if ((b.getD (i + 1) 0).toNat : Int) < 128 ∨ ((b.getD (i + 1) 0).toNat : Int) ≥ 192 then none else some (x * 64 + (b.getD (i + 1) 0).toNat - 128)
theorem cn_none {b : List UInt8} {r : Int} {i : Nat} (h : cn b r i = none) : ∀ j, i ≤ j → cn b r j = none
  | 0, hj => by
    have : i = 0 := by omega
    subst this; exact h
  | j + 1, hj => by
    by_cases e : i = j + 1
    · subst e; exact h
    · rw [cn, cn_none h j (by omega)]
def firstF (b : List UInt8) : Int × Int :=
  if (longF (b.getD 0 0).toNat).1 = 0 ∨ (longF (b.getD 0 0).toNat).1 > b.length then (0, 0) else
  match cn b (longF (b.getD 0 0).toNat).2 ((longF (b.getD 0 0).toNat).1 - 1).toNat with
  | none => (0, 0)
  | some r => if pointB r && decide (encB r.toNat = b.take (longF (b.getD 0 0).toNat).1.toNat) then (r, (longF (b.getD 0 0).toNat).1) else (0, 0)
inductive CFi : FuncId → List D → Out → Prop
  | long (b : Int) (hb : 0 ≤ b ∧ b ≤ 255) : CFi 147 [dI b] (.ret (.tup [dI (longF b).1, dI (longF b).2]))
  | pt (r : Int) : CFi 148 [dI r] (.ret (dB (pointB r)))
  | by_ (r : Nat) (hb : r ≤ 1114111) : CFi 149 [dI r] (.ret (.sl 1 ((encB r).map dU)))
theorem hFi : ∀ f ds out, CFi f ds out → PCall Tryd.prog f ds out := by
  intro f ds out h
  cases h with
  | long b hb => exact long b hb
  | pt r => exact point r
  | by_ r hb => exact bytes r hb
theorem longF_b (c : Nat) (hc : c ≤ 255) : 0 ≤ (longF c).1 ∧ (longF c).1 ≤ 4 ∧ 0 ≤ (longF c).2 ∧ (longF c).2 < 128 := by
  unfold longF
  repeat' split
  all_goals simp
  all_goals omega
set_option maxRecDepth 8000 in
theorem first (b : List UInt8) (h0 : b ≠ []) (h1 : b.length ≤ 4096) : PCall Tryd.prog 138 [dT b] (.ret (.tup [dI (firstF b).1, dI (firstF b).2])) := by
  refine pcall_of_vc hFi c138 (by simp [a138]) fun hr => ?_
  have hp : 0 < b.length := List.length_pos_iff.2 h0
  simp [a138, dT]
  have hc : (b.getD 0 0).toNat ≤ 255 := by have := (b.getD 0 0).toNat_lt; omega
  have hl := CFi.long (b.getD 0 0).toNat (by omega)
  have hlb := longF_b _ hc
  have hf : firstF b = firstF b := rfl
  conv at hf => rhs; unfold firstF
  generalize hcc : (b.getD 0 0).toNat = c at *
  generalize (longF c).1 = n at *
  generalize (longF c).2 = r0 at *
  refine vc_path [.ret (.tup [dI n, dI r0])] ?_
  simp [bs_data]
  have hcc' : (b[0]?.getD 0).toNat = c := by rw [← List.getD_eq_getElem?_getD]; exact hcc
  rw [hcc', wrap64 (n := (c : Int)) (by omega)]
  refine ⟨hp, hl, vc_path [] ?_⟩
  simp
  have bad : ∀ {p q : Int}, firstF b = (p, q) → LeD (.lit (.int .i64 p)) (.lit (.int .i64 (firstF b).1)) ∧ LeD (.lit (.int .i64 q)) (.lit (.int .i64 (firstF b).2)) := fun h => by rw [h]; exact ⟨LeD.refl _, LeD.refl _⟩
  refine ⟨fun q1 => bad (by rw [hf, if_pos (.inl q1)]), fun q1 => ⟨fun q2 => bad (by rw [hf, if_pos (.inr q2)]), fun q2 => ?_⟩⟩
  rw [if_neg (by omega)] at hf
  refine vc_loopK [0, 4] (Nat × Int) (fun y => [(6, true, .d (dI ((y.1 + 1 : Nat) : Int))), (5, true, .d (dI y.2))]) (fun y => []) (fun y => (y.1 : Int) + 1 ≤ n ∧ cn b r0 y.1 = some y.2 ∧ 0 ≤ y.2 ∧ y.2 < 64 ^ (y.1 + 2)) (fun y => 4 - y.1) (0, r0) ⟨by simp; omega, rfl, by simp; omega, by simp; omega⟩ ⟨[], [], ?_⟩ (fun y hy => ?_)
  · simp
  obtain ⟨k, r⟩ := y
  obtain ⟨g1, g2, g3, g4⟩ := hy
  simp only at g1 g2 g3 g4
  have hk3 : k ≤ 3 := by omega
  have hr30 : r < 1073741824 := by
    have : k = 0 ∨ k = 1 ∨ k = 2 ∨ k = 3 := by omega
    rcases this with rfl | rfl | rfl | rfl <;> simp at g4 <;> omega
  simp
  refine ⟨fun hlt => ?_, fun hge => ?_⟩
  · refine ⟨⟨by omega, by omega⟩, vc_path [] ?_⟩
    simp [bs_data]
    have hv0 : ((bs b).data[k + 1]?.getD 0) = b.getD (k + 1) 0 := by simp [bs]
    rw [hv0]
    have hvb : (b.getD (k + 1) 0).toNat ≤ 255 := by have := (b.getD (k + 1) 0).toNat_lt; omega
    have hcn : cn b r0 (k + 1) = if ((b.getD (k + 1) 0).toNat : Int) < 128 ∨ ((b.getD (k + 1) 0).toNat : Int) ≥ 192 then none else some (r * 64 + (b.getD (k + 1) 0).toNat - 128) := by
      rw [cn, g2]
    generalize (b.getD (k + 1) 0).toNat = v at hvb hcn
    rw [wrap64 (n := (v : Int)) (by omega), wrap64 (n := r * 64) (by omega), wrap64 (n := r * 64 + (v : Int)) (by omega), wrap64 (n := r * 64 + (v : Int) - 128) (by omega), wrap64 (n := (k : Int) + 1 + 1) (by omega)]
    have hbad : cn b r0 (k + 1) = none → firstF b = (0, 0) := fun h => by
      rw [hf, cn_none h _ (by omega)]
    refine ⟨fun e => bad (hbad (by rw [hcn, if_pos (.inl e)])), fun e1 => ⟨fun e => bad (hbad (by rw [hcn, if_pos (.inr e)])), fun e2 => ⟨k + 1, r * 64 + v - 128, ⟨by omega, by rw [hcn, if_neg (by omega)], by omega, ?_⟩, by omega, [], [], ?_⟩⟩⟩
    · have : (64 : Int) ^ (k + 1 + 2) = 64 ^ (k + 2) * 64 := by rw [show k + 1 + 2 = (k + 2) + 1 by omega, Int.pow_succ]
      rw [this]; omega
    · simp
  · have hkn : (n - 1).toNat = k := by omega
    rw [hkn, g2] at hf
    simp only at hf
    by_cases p1 : pointB r = true
    · have hpt := CFi.pt r
      rw [p1] at hpt
      have hrn : r = ((r.toNat : Nat) : Int) := by omega
      have hle : r.toNat ≤ 1114111 := by simp [pointB] at p1; omega
      have hby := CFi.by_ r.toNat hle
      refine vc_pathD [.ret (dB true), .ret (.sl 1 ((encB r.toNat).map dU))] ?_
      rw [← hrn] at hby
      simp [bytesOf_bs, bs_data]
      refine ⟨hpt, hby, fun a _ => rfl, ⟨by omega, q2⟩, rfl, fun e => bad (by rw [hf, if_neg (by simp [e])]), fun e => bad (by rw [hf, if_pos (by simp [p1, e])])⟩
    · have p1 : pointB r = false := by simpa using p1
      have hpt := CFi.pt r
      rw [p1] at hpt
      refine vc_pathD [.ret (dB false)] ?_
      simp
      exact ⟨hpt, rfl, bad (by rw [hf, if_neg (by simp [p1])])⟩
end Go.Proofs.YteonapeaaepipaaDoor
end

section
namespace Go.Proofs.YteonapeaaepipaaDoor
open Go Go.Proofs.YteonapeaaepipaaDoor.AL
theorem u8_iff (n : Nat) (x : UInt8) (h : n < 256) : u8 n = x ↔ n = x.toNat := by
  constructor
  · intro e; rw [← e, u8, UInt8.toNat_ofNat', Nat.mod_eq_of_lt h]
  · intro e; subst e; simp [u8]
theorem take1 {b : List UInt8} (h : 1 ≤ b.length) : b.take 1 = [b.getD 0 0] := by
  match b, h with
  | x :: t, _ => simp
theorem take2 {b : List UInt8} (h : 2 ≤ b.length) : b.take 2 = [b.getD 0 0, b.getD 1 0] := by
  match b, h with
  | x :: y :: t, _ => simp
theorem take3 {b : List UInt8} (h : 3 ≤ b.length) : b.take 3 = [b.getD 0 0, b.getD 1 0, b.getD 2 0] := by
  match b, h with
  | x :: y :: z :: t, _ => simp
theorem take4 {b : List UInt8} (h : 4 ≤ b.length) : b.take 4 = [b.getD 0 0, b.getD 1 0, b.getD 2 0, b.getD 3 0] := by
  match b, h with
  | x :: y :: z :: w :: t, _ => simp
theorem enc1 (r : Nat) (x0 : UInt8) : encB r = [x0] ↔ r < 128 ∧ r = x0.toNat := by
  unfold encB
  repeat' split
  · rename_i h; simp only [List.cons.injEq, and_true]; rw [u8_iff _ _ (by omega)]; omega
  all_goals simp; omega
theorem enc2 (r : Nat) (x0 x1 : UInt8) : encB r = [x0, x1] ↔ 128 ≤ r ∧ r < 2048 ∧ 192 + r / 64 = x0.toNat ∧ 128 + r % 64 = x1.toNat := by
  unfold encB
  repeat' split
  · simp; omega
  · rename_i h; simp only [List.cons.injEq, and_true]; rw [u8_iff _ _ (by omega), u8_iff _ _ (by omega)]; omega
  all_goals simp; omega
theorem enc3 (r : Nat) (x0 x1 x2 : UInt8) : encB r = [x0, x1, x2] ↔ 2048 ≤ r ∧ r < 65536 ∧ 224 + r / 4096 = x0.toNat ∧ 128 + r / 64 % 64 = x1.toNat ∧ 128 + r % 64 = x2.toNat := by
  unfold encB
  repeat' split
  · simp; omega
  · simp; omega
  · rename_i h; simp only [List.cons.injEq, and_true]; rw [u8_iff _ _ (by omega), u8_iff _ _ (by omega), u8_iff _ _ (by omega)]; omega
  · simp; omega
theorem enc4 (r : Nat) (hr : r ≤ 1114111) (x0 x1 x2 x3 : UInt8) : encB r = [x0, x1, x2, x3] ↔ 65536 ≤ r ∧ 240 + r / 262144 = x0.toNat ∧ 128 + r / 4096 % 64 = x1.toNat ∧ 128 + r / 64 % 64 = x2.toNat ∧ 128 + r % 64 = x3.toNat := by
  unfold encB
  repeat' split
  · simp; omega
  · simp; omega
  · simp; omega
  · rename_i h; simp only [List.cons.injEq, and_true]; rw [u8_iff _ _ (by omega), u8_iff _ _ (by omega), u8_iff _ _ (by omega), u8_iff _ _ (by omega)]; omega
theorem get_bs (b : List UInt8) (k : Nat) : (bs b).get! k = b.getD k 0 := by
  simp [bs, ByteArray.get!]
  rfl
theorem decode_bs (b : List UInt8) (h : b ≠ []) : Lib.decodeGo (bs b) = Lib.decodeN b.length (b.getD 0 0).toNat (b.getD 1 0).toNat (b.getD 2 0).toNat (b.getD 3 0).toNat := by
  have hl : 0 < b.length := List.length_pos_iff.2 h
  unfold Lib.decodeGo
  rw [bs_size, if_neg (by omega), Lib.decode_at, bs_size]
  simp only [get_bs, Nat.sub_zero, Nat.zero_add]
def goF (d : Nat × Nat) : Int × Int := if d.1 = 65533 ∧ d.2 < 2 then (0, 0) else ((d.1 : Int), (d.2 : Int))
theorem point_iff (r : Int) : pointB r = true ↔ 0 ≤ r ∧ r ≤ 1114111 ∧ (r < 55296 ∨ r > 57343) := by simp [pointB]
theorem ite_and {a : Bool} {p q : Prop} [Decidable p] (h : (a && decide p) = true ↔ q) (x y : Int × Int) : (q → (if (a && decide p) = true then x else y) = x) ∧ (¬ q → (if (a && decide p) = true then x else y) = y) :=
  ⟨fun hq => if_pos (h.2 hq), fun hq => if_neg (fun e => hq (h.1 e))⟩
set_option maxHeartbeats 4000000 in
set_option maxRecDepth 20000 in
theorem first_eq (b : List UInt8) (h : b ≠ []) : firstF b = goF (Lib.decodeGo (bs b)) := by
  have hl : 0 < b.length := List.length_pos_iff.2 h
  rw [decode_bs b h]
  have t1 := take1 (b := b) hl
  have t2 := take2 (b := b)
  have t3 := take3 (b := b)
  have t4 := take4 (b := b)
  unfold firstF
  have cn1 : ∀ r, cn b r 1 = if ((b.getD 1 0).toNat : Int) < 128 ∨ ((b.getD 1 0).toNat : Int) ≥ 192 then none else some (r * 64 + (b.getD 1 0).toNat - 128) := fun r => rfl
  have cn2 : ∀ r, cn b r 2 = match cn b r 1 with
    | none => none
    | some x => if ((b.getD 2 0).toNat : Int) < 128 ∨ ((b.getD 2 0).toNat : Int) ≥ 192 then none else some (x * 64 + (b.getD 2 0).toNat - 128) := fun r => rfl
  have cn3 : ∀ r, cn b r 3 = match cn b r 2 with
    | none => none
    | some x => if ((b.getD 3 0).toNat : Int) < 128 ∨ ((b.getD 3 0).toNat : Int) ≥ 192 then none else some (x * 64 + (b.getD 3 0).toNat - 128) := fun r => rfl
  have cn0 : ∀ r, cn b r 0 = some r := fun r => rfl
  have v0 : (b.getD 0 0).toNat < 256 := (b.getD 0 0).toNat_lt
  have v1 : (b.getD 1 0).toNat < 256 := (b.getD 1 0).toNat_lt
  have v2 : (b.getD 2 0).toNat < 256 := (b.getD 2 0).toNat_lt
  have v3 : (b.getD 3 0).toNat < 256 := (b.getD 3 0).toNat_lt
  generalize b.getD 0 0 = x0 at *
  generalize b.getD 1 0 = x1 at *
  generalize b.getD 2 0 = x2 at *
  generalize b.getD 3 0 = x3 at *
  have en1 := fun r => enc1 r x0
  have en2 := fun r => enc2 r x0 x1
  have en3 := fun r => enc3 r x0 x1 x2
  have en4 := fun r hr => enc4 r hr x0 x1 x2 x3
  generalize b.length = n at *
  by_cases c1 : x0.toNat < 128
  · have e : longF (x0.toNat : Int) = (1, (x0.toNat : Int)) := by unfold longF; rw [if_pos (by omega)]
    rw [e]
    simp only
    rw [if_neg (by omega)]
    simp only [show ((1 : Int) - 1).toNat = 0 from rfl, show (1 : Int).toNat = 1 from rfl, cn, Int.toNat_natCast]
    rw [t1, if_pos (by rw [Bool.and_eq_true, point_iff, decide_eq_true_eq, en1]; omega)]
    have hb : Lib.decodeN n x0.toNat x1.toNat x2.toNat x3.toNat = (x0.toNat, 1) := by unfold Lib.decodeN; rw [if_pos c1]
    rw [hb, goF, if_neg (by simp only; omega)]; rfl
  by_cases c2 : 192 ≤ x0.toNat ∧ x0.toNat < 224
  · have e : longF (x0.toNat : Int) = (2, (x0.toNat : Int) - 192) := by unfold longF; rw [if_neg (by omega), if_pos (by omega)]
    rw [e]
    simp only
    by_cases d1 : (2 : Int) > n
    · rw [if_pos (.inr d1)]
      have hb : Lib.decodeN n x0.toNat x1.toNat x2.toNat x3.toNat = (65533, 1) := by
        unfold Lib.decodeN
        rw [if_neg c1, if_neg (by omega), if_neg (by omega), if_neg (by omega)]
      rw [hb]; rfl
    rw [if_neg (by omega)]
    simp only [show ((2 : Int) - 1).toNat = 1 from rfl, show (2 : Int).toNat = 2 from rfl]
    rw [cn1, t2 (by omega)]
    by_cases d2 : (x1.toNat : Int) < 128 ∨ (x1.toNat : Int) ≥ 192
    · rw [if_pos d2]
      have hb : Lib.decodeN n x0.toNat x1.toNat x2.toNat x3.toNat = (65533, 1) := by
        unfold Lib.decodeN
        rw [if_neg c1, if_neg (by omega), if_neg (by omega), if_neg (by omega)]
      rw [hb]; rfl
    rw [if_neg d2]
    simp only
    obtain ⟨g1, g2⟩ := ite_and (a := pointB (((x0.toNat : Int) - 192) * 64 + x1.toNat - 128)) (p := encB (((x0.toNat : Int) - 192) * 64 + x1.toNat - 128).toNat = [x0, x1]) (q := 128 ≤ ((x0.toNat : Int) - 192) * 64 + x1.toNat - 128) (by rw [Bool.and_eq_true, point_iff, decide_eq_true_eq, en2]; omega) (((x0.toNat : Int) - 192) * 64 + x1.toNat - 128, 2) (0, 0)
    have hd : Lib.decodeN n x0.toNat x1.toNat x2.toNat x3.toNat = if x0.toNat % 32 * 64 + x1.toNat % 64 ≥ 128 then (x0.toNat % 32 * 64 + x1.toNat % 64, 2) else (65533, 1) := by
      unfold Lib.decodeN; rw [if_neg c1, if_pos (by omega)]
    rw [hd]
    by_cases d3 : 128 ≤ ((x0.toNat : Int) - 192) * 64 + x1.toNat - 128
    · rw [g1 d3, if_pos (by omega), goF, if_neg (by simp only; omega)]
      apply Prod.ext
      · simp only; omega
      · rfl
    · rw [g2 d3, if_neg (by omega)]; rfl
  by_cases c3 : 224 ≤ x0.toNat ∧ x0.toNat < 240
  · have e : longF (x0.toNat : Int) = (3, (x0.toNat : Int) - 224) := by unfold longF; rw [if_neg (by omega), if_neg (by omega), if_pos (by omega)]
    rw [e]
    simp only
    by_cases d1 : (3 : Int) > n
    · rw [if_pos (.inr d1)]
      have hb : Lib.decodeN n x0.toNat x1.toNat x2.toNat x3.toNat = (65533, 1) := by
        unfold Lib.decodeN
        rw [if_neg c1, if_neg (by omega), if_neg (by omega), if_neg (by omega)]
      rw [hb]; rfl
    rw [if_neg (by omega)]
    simp only [show ((3 : Int) - 1).toNat = 2 from rfl, show (3 : Int).toNat = 3 from rfl]
    rw [cn2, cn1, t3 (by omega)]
    by_cases d2 : (x1.toNat : Int) < 128 ∨ (x1.toNat : Int) ≥ 192
    · rw [if_pos d2]
      have hb : Lib.decodeN n x0.toNat x1.toNat x2.toNat x3.toNat = (65533, 1) := by
        unfold Lib.decodeN
        rw [if_neg c1, if_neg (by omega), if_neg (by omega), if_neg (by omega)]
      rw [hb]; rfl
    rw [if_neg d2]
    simp only
    by_cases d2' : (x2.toNat : Int) < 128 ∨ (x2.toNat : Int) ≥ 192
    · rw [if_pos d2']
      have hb : Lib.decodeN n x0.toNat x1.toNat x2.toNat x3.toNat = (65533, 1) := by
        unfold Lib.decodeN
        rw [if_neg c1, if_neg (by omega), if_neg (by omega), if_neg (by omega)]
      rw [hb]; rfl
    rw [if_neg d2']
    simp only
    obtain ⟨r, hr⟩ : ∃ r : Int, r = (((x0.toNat : Int) - 224) * 64 + x1.toNat - 128) * 64 + x2.toNat - 128 := ⟨_, rfl⟩
    rw [← hr]
    obtain ⟨g1, g2⟩ := ite_and (a := pointB r) (p := encB r.toNat = [x0, x1, x2]) (q := 2048 ≤ r ∧ (r < 55296 ∨ r > 57343)) (by rw [Bool.and_eq_true, point_iff, decide_eq_true_eq, en3]; omega) (r, 3) (0, 0)
    have hm : x0.toNat % 16 * 4096 + x1.toNat % 64 * 64 + x2.toNat % 64 = r.toNat := by omega
    have hd : Lib.decodeN n x0.toNat x1.toNat x2.toNat x3.toNat = if r.toNat ≥ 2048 ∧ (r.toNat < 55296 ∨ (57344 ≤ r.toNat ∧ r.toNat ≤ 1114111)) then (r.toNat, 3) else (65533, 1) := by
      unfold Lib.decodeN; rw [if_neg c1, if_neg (by omega), if_pos (by omega), hm]
    rw [hd]
    by_cases d3 : 2048 ≤ r ∧ (r < 55296 ∨ r > 57343)
    · rw [g1 d3, if_pos (by omega), goF, if_neg (by simp only; omega)]
      apply Prod.ext
      · simp only; omega
      · rfl
    · rw [g2 d3, if_neg (by omega)]; rfl
  by_cases c4 : 240 ≤ x0.toNat ∧ x0.toNat < 248
  · have e : longF (x0.toNat : Int) = (4, (x0.toNat : Int) - 240) := by unfold longF; rw [if_neg (by omega), if_neg (by omega), if_neg (by omega), if_pos (by omega)]
    rw [e]
    simp only
    by_cases d1 : (4 : Int) > n
    · rw [if_pos (.inr d1)]
      have hb : Lib.decodeN n x0.toNat x1.toNat x2.toNat x3.toNat = (65533, 1) := by
        unfold Lib.decodeN
        rw [if_neg c1, if_neg (by omega), if_neg (by omega), if_neg (by omega)]
      rw [hb]; rfl
    rw [if_neg (by omega)]
    simp only [show ((4 : Int) - 1).toNat = 3 from rfl, show (4 : Int).toNat = 4 from rfl]
    rw [cn3, cn2, cn1, t4 (by omega)]
    by_cases d2 : (x1.toNat : Int) < 128 ∨ (x1.toNat : Int) ≥ 192
    · rw [if_pos d2]
      have hb : Lib.decodeN n x0.toNat x1.toNat x2.toNat x3.toNat = (65533, 1) := by
        unfold Lib.decodeN
        rw [if_neg c1, if_neg (by omega), if_neg (by omega), if_neg (by omega)]
      rw [hb]; rfl
    rw [if_neg d2]
    simp only
    by_cases d2' : (x2.toNat : Int) < 128 ∨ (x2.toNat : Int) ≥ 192
    · rw [if_pos d2']
      have hb : Lib.decodeN n x0.toNat x1.toNat x2.toNat x3.toNat = (65533, 1) := by
        unfold Lib.decodeN
        rw [if_neg c1, if_neg (by omega), if_neg (by omega), if_neg (by omega)]
      rw [hb]; rfl
    rw [if_neg d2']
    simp only
    by_cases d2'' : (x3.toNat : Int) < 128 ∨ (x3.toNat : Int) ≥ 192
    · rw [if_pos d2'']
      have hb : Lib.decodeN n x0.toNat x1.toNat x2.toNat x3.toNat = (65533, 1) := by
        unfold Lib.decodeN
        rw [if_neg c1, if_neg (by omega), if_neg (by omega), if_neg (by omega)]
      rw [hb]; rfl
    rw [if_neg d2'']
    simp only
    obtain ⟨r, hr⟩ : ∃ r : Int, r = ((((x0.toNat : Int) - 240) * 64 + x1.toNat - 128) * 64 + x2.toNat - 128) * 64 + x3.toNat - 128 := ⟨_, rfl⟩
    rw [← hr]
    obtain ⟨g1, g2⟩ := ite_and (a := pointB r) (p := encB r.toNat = [x0, x1, x2, x3]) (q := 65536 ≤ r ∧ r ≤ 1114111) (by
      rw [Bool.and_eq_true, point_iff, decide_eq_true_eq]
      by_cases hle : r.toNat ≤ 1114111
      · rw [en4 _ hle]; omega
      · omega) (r, 4) (0, 0)
    have hm : x0.toNat % 8 * 262144 + x1.toNat % 64 * 4096 + x2.toNat % 64 * 64 + x3.toNat % 64 = r.toNat := by omega
    have hd : Lib.decodeN n x0.toNat x1.toNat x2.toNat x3.toNat = if r.toNat ≥ 65536 ∧ (r.toNat < 55296 ∨ (57344 ≤ r.toNat ∧ r.toNat ≤ 1114111)) then (r.toNat, 4) else (65533, 1) := by
      unfold Lib.decodeN; rw [if_neg c1, if_neg (by omega), if_neg (by omega), if_pos (by omega), hm]
    rw [hd]
    by_cases d3 : 65536 ≤ r ∧ r ≤ 1114111
    · rw [g1 d3, if_pos (by omega), goF, if_neg (by simp only; omega)]
      apply Prod.ext
      · simp only; omega
      · rfl
    · rw [g2 d3, if_neg (by omega)]; rfl
  have e : longF (x0.toNat : Int) = (0, 0) := by unfold longF; rw [if_neg (by omega), if_neg (by omega), if_neg (by omega), if_neg (by omega)]
  rw [e]
  rw [if_pos (.inl rfl)]
  have hb : Lib.decodeN n x0.toNat x1.toNat x2.toNat x3.toNat = (65533, 1) := by
    unfold Lib.decodeN
    rw [if_neg c1, if_neg (by omega), if_neg (by omega), if_neg (by omega)]
  rw [hb]; rfl
end Go.Proofs.YteonapeaaepipaaDoor
end

section
namespace Go.Proofs.YteonapeaaepipaaDoor
open Go Go.Proofs.YteonapeaaepipaaDoor.AL
attribute [local simp] dT_agg dT_nt dT_noTup dT_cells dT_one bs_toList bs_size strV
inductive CRn : FuncId → List D → Out → Prop
  | first (b : List UInt8) (h0 : b ≠ []) (h1 : b.length ≤ 4096) : CRn 138 [dT b] (.ret (.tup [dI (firstF b).1, dI (firstF b).2]))
theorem hRn : ∀ f ds out, CRn f ds out → PCall Tryd.prog f ds out := by
  intro f ds out h
  cases h with
  | first b h0 h1 => exact first b h0 h1
set_option maxRecDepth 8000 in
theorem rrunes (b : List UInt8) : PCall Tryd.prog 129 [dT b] (.ret (.tup [.sl 1 ((runesL b).map dI), dI (runesE b)])) := by
  refine pcall_of_vc hRn c129 (by simp [a129]) fun hr => ?_
  simp [a129, dT, bs_size]
  refine ⟨fun hlt => ?_, fun hge => ?_⟩
  · have e1 : runesL b = [] := by unfold runesL; rw [if_pos (by omega)]
    have e2 : runesE b = 2 := by unfold runesE; rw [if_pos (by omega)]
    rw [e1, e2]
    exact ⟨leD_nil0 _ _, LeD.refl _⟩
  refine vc_loopK [] (List UInt8 × List Int) (fun x => [(0, true, .d (.lit (.string (bs x.1)))), (4, true, .own 0 1 (x.2.map dI))]) (fun x => [(0, .row)]) (fun x => x.1.length + x.2.length ≤ b.length ∧ (rn x.1.length x.1).map (x.2 ++ ·) = rn b.length b) (fun x => x.1.length) (b, []) (by simp) ⟨[], [], ?_⟩ (fun x hx => ?_)
  · simp
  obtain ⟨c, m⟩ := x
  obtain ⟨h1, h2⟩ := hx
  simp only at h1 h2
  simp
  refine ⟨fun hpos => ?_, fun hz => ?_⟩
  · have hc : c ≠ [] := by rintro rfl; simp at hpos
    have hp := decode_pos c hc
    have hs := rn_step c hc
    have hC := CRn.first c hc (by omega)
    rw [first_eq c hc, goF] at hC
    change 1 ≤ (Lib.decodeGo (bs c)).2 ∧ (Lib.decodeGo (bs c)).2 ≤ c.length at hp
    change rn c.length c = if (Lib.decodeGo (bs c)).1 = 65533 ∧ (Lib.decodeGo (bs c)).2 < 2 then none else (rn (c.drop (Lib.decodeGo (bs c)).2).length (c.drop (Lib.decodeGo (bs c)).2)).map (((Lib.decodeGo (bs c)).1 : Int) :: ·) at hs
    have hd := decode_le (bs c)
    generalize (Lib.decodeGo (bs c)).1 = r at hs hd hC
    generalize (Lib.decodeGo (bs c)).2 = k at hs hd hp hC
    by_cases hb : r = 65533 ∧ k < 2
    · rw [if_pos hb] at hs hC
      refine vc_path [.ret (.tup [dI 0, dI 0])] ?_
      simp
      refine ⟨hC, ?_⟩
      have e1 : runesL b = [] := by unfold runesL; rw [if_neg (by omega), ← h2, hs]; rfl
      have e2 : runesE b = 90 := by unfold runesE; rw [if_neg (by omega), ← h2, hs]; rfl
      rw [e1, e2]
      exact ⟨leD_nil0 _ _, LeD.refl _⟩
    · rw [if_neg hb] at hs hC
      refine vc_path [.ret (.tup [dI r, dI k])] ?_
      have hk0 : ¬ k = 0 := by omega
      simp [hk0]
      refine ⟨hC, ⟨by omega, by omega⟩, by omega, c.drop k, m ++ [(r : Int)], ⟨by simp; omega, ?_⟩, by simp; omega, [(0, 2)], [], ?_⟩
      · rw [← h2, hs]
        cases rn (c.drop k).length (c.drop k) <;> simp
      · simp
        exact leD_of_eq (by rw [bs_data, List.take_length]; rfl)
  · have hc : c = [] := by first | exact hz | exact List.eq_nil_of_length_eq_zero (by omega)
    subst hc
    have e1 : runesL b = m := by unfold runesL; rw [if_neg (by omega), ← h2]; simp [rn]
    have e2 : runesE b = 0 := by unfold runesE; rw [if_neg (by omega), ← h2]; rfl
    simp [e1, e2]
inductive CRw : FuncId → List D → Out → Prop
  | runes (b : List UInt8) : CRw 129 [dT b] (.ret (.tup [.sl 1 ((runesL b).map dI), dI (runesE b)]))
  | sp (r : Int) : CRw 130 [dI r] (.ret (dB (spc r)))
theorem hRw : ∀ f ds out, CRw f ds out → PCall Tryd.prog f ds out := by
  intro f ds out h
  cases h with
  | runes b => exact rrunes b
  | sp r => exact rspace r
theorem rn_len : ∀ (n : Nat) (b : List UInt8) (l : List Int), rn n b = some l → l.length ≤ n
  | 0, b, l, h => by simp [rn] at h; subst h; simp
  | n + 1, b, l, h => by
    simp only [rn] at h
    split at h
    · simp at h; subst h; simp
    · split at h
      · cases h
      · simp only [Option.map_eq_some_iff] at h
        obtain ⟨m, hm, rfl⟩ := h
        have := rn_len n _ m hm
        simp; omega
theorem runesL_len (b : List UInt8) : (runesL b).length ≤ 4096 := by
  unfold runesL
  split
  · simp
  · cases h : rn b.length b with
    | none => simp
    | some l => have := rn_len _ _ _ h; simp; omega
set_option maxRecDepth 8000 in
theorem rword (b : List UInt8) : PCall Tryd.prog 118 [dT b] (.ret (dB (isWd b))) := by
  refine pcall_of_vc hRw c118 (by simp [a118]) fun hr => ?_
  rw [isWd_eq]
  simp [a118, dT, bs_size]
  refine vc_path [] ?_
  simp
  refine ⟨fun q1 => leD_of_eq (by simp [show ¬ 0 < b.length by omega]), fun q1 => ⟨fun q2 => leD_of_eq (by simp [show ¬ (b.length : Int) ≤ 64 by omega]), fun q2 => ?_⟩⟩
  refine vc_path [.ret (.tup [.sl 1 ((runesL b).map dI), dI (runesE b)])] ?_
  simp
  refine ⟨.runes b, fun q3 => leD_of_eq (by simp [q3]), fun q3 => ?_⟩
  have hle := runesL_len b
  refine vc_loopK [0, 3] Nat (fun k => [(5, true, .d (dI k))]) (fun k => []) (fun k => k ≤ (runesL b).length ∧ ∀ j, (h : j < k) → (h2 : j < (runesL b).length) → spc (runesL b)[j] = false) (fun k => (runesL b).length - k) 0 (by simp) ⟨[], [], ?_⟩ (fun k hk => ?_)
  · simp
  obtain ⟨h1, h2⟩ := hk
  simp
  refine ⟨fun hlt => ?_, fun hge => ?_⟩
  · refine vc_path [.ret (dB (spc (runesL b)[k]))] ?_
    simp [hlt]
    refine ⟨.sp _, fun g => leD_of_eq ?_, fun g => ⟨k + 1, ⟨by omega, fun j hj hj2 => ?_⟩, by omega, [], [], ?_⟩⟩
    · have : (runesL b).any spc = true := by rw [List.any_eq_true]; exact ⟨_, List.getElem_mem hlt, g⟩
      simp [this]
    · by_cases e : j = k
      · subst e; exact g
      · exact h2 j (by omega) hj2
    · rw [wrap64 (by omega)]
      simp
  · have : (runesL b).any spc = false := by
      rw [List.any_eq_false]
      intro x hx
      obtain ⟨j, hj, rfl⟩ := List.getElem_of_mem hx
      simp [h2 j (by omega) hj]
    exact leD_of_eq (by simp [this, show 0 < b.length by omega, q2, q3])
set_option maxRecDepth 8000 in
theorem rhas (l : List (List UInt8)) (v : List UInt8) (hl : l.length ≤ 100000) : PCall Tryd.prog 119 [.sl 1 (l.map dT), dT v] (.ret (dB (decide (v ∈ l)))) := by
  refine pcall_of_vc noC c119 (by simp [a119]) fun hr => ?_
  simp [a119, dT_eq v]
  refine vc_loopK [0, 1] Nat (fun i => [(5, true, .d (dI i))]) (fun i => []) (fun i => i ≤ l.length ∧ ∀ j, (h : j < i) → (h2 : j < l.length) → l[j] ≠ v) (fun i => l.length - i) 0 (by simp) ⟨[], [], ?_⟩ (fun i hi => ?_)
  · simp
  obtain ⟨h1, h2⟩ := hi
  simp
  refine ⟨fun hlt => ?_, fun hge => ?_⟩
  · simp [hlt, dT_eq]
    refine ⟨fun hb => leD_of_eq ?_, fun hb => ⟨i + 1, ⟨by omega, fun j hj hj2 => ?_⟩, by omega, [], [], ?_⟩⟩
    · have : v ∈ l := by rw [← hb]; exact List.getElem_mem hlt
      simp [this]
    · by_cases e : j = i
      · subst e; exact hb
      · exact h2 j (by omega) hj2
    · rw [wrap64 (by omega)]
      simp
  · have : v ∉ l := fun hm => by
      obtain ⟨j, hj, e⟩ := List.getElem_of_mem hm
      exact h2 j (by omega) hj e
    exact leD_of_eq (by simp [this])
attribute [local simp] dW_cells dW_agg dW_noTup dSm_cells dSm_agg dSm_noTup dOp_cells dOp_agg dOp_noTup
inductive CRr : FuncId → List D → Out → Prop
  | word (b : List UInt8) : CRr 118 [dT b] (.ret (dB (isWd b)))
  | has (l : List (List UInt8)) (v : List UInt8) (hl : l.length ≤ 100000) : CRr 119 [.sl 1 (l.map dT), dT v] (.ret (dB (decide (v ∈ l))))
theorem hRr : ∀ f ds out, CRr f ds out → PCall Tryd.prog f ds out := by
  intro f ds out h
  cases h with
  | word b => exact rword b
  | has l v hl => exact rhas l v hl
set_option maxRecDepth 8000 in
set_option maxHeartbeats 8000000 in
theorem rright (x : Wd) : PCall Tryd.prog 107 [dW x] (.ret (dB (okW x))) := by
  refine pcall_of_vc hRr c107 (by simp [a107]) fun hr => ?_
  simp [a107, dW]
  have hw := CRr.word x.t
  generalize hwt : isWd x.t = wt at hw
  have bad : (okW x = true → False) → LeD (.lit (.bool false)) (.lit (.bool (okW x))) := fun h1 => leD_of_eq (by congr 2; exact (Bool.eq_false_iff.2 h1).symm)
  have hok : okW x = true → 0 ≤ x.f ∧ x.f < x.u ∧ x.u < 1099511627775 ∧ wt = true ∧ 0 ≤ x.s ∧ x.s < 64 ∧ (x.a.length : Int) ≤ 4 ∧ okA x = true := fun h => by simp [okW, hwt] at h; exact h
  refine vc_path [.ret (dB wt)] ?_
  simp
  refine ⟨hw, fun q => bad fun h => ?_, fun q0 => ⟨fun q => bad fun h => ?_, fun q1 => ⟨fun q => bad fun h => ?_, fun q2 => ⟨fun q => bad fun h => ?_, fun q3 => ⟨fun q => bad fun h => ?_, fun q4 => ⟨fun q => bad fun h => ?_, fun q5 => ⟨fun q => bad fun h => ?_, fun q6 => ?_⟩⟩⟩⟩⟩⟩⟩
  · have := (hok h).2.2.2.1; rw [q] at this; cases this
  · have := hok h; omega
  · have := hok h; omega
  · have := hok h; omega
  · have := hok h; omega
  · have := hok h; omega
  · have := hok h; omega
  refine vc_loopK [1] Nat (fun i => [(3, true, .d (dI i))]) (fun i => []) (fun i => i ≤ x.a.length ∧ ∀ j, j < i → oddAt x j = false) (fun i => x.a.length - i) 0 (by simp) ⟨[], [], ?_⟩ (fun i hi => ?_)
  · simp
  obtain ⟨h1, h2⟩ := hi
  simp
  refine ⟨fun hlt => ?_, fun hge => ?_⟩
  · have ho : oddAt x i = (decide (x.a[i] = x.t ∨ x.a[i] ∈ x.a.take i) || !isWd x.a[i]) := by simp [oddAt, hlt]
    have hc1 := CRr.word x.a[i]
    have hc2 := CRr.has (x.a.take i) x.a[i] (by simp; omega)
    have hbad : oddAt x i = true → LeD (.lit (.bool false)) (.lit (.bool (okW x))) := fun ho => bad fun h => by
      have h8 := (hok h).2.2.2.2.2.2.2
      unfold okA at h8
      rw [List.all_eq_true] at h8
      have := h8 i (by simpa using hlt)
      rw [ho] at this; cases this
    have hi' : (i : Int) ≤ x.a.length := by omega
    rw [List.map_take] at hc2
    by_cases g1 : isWd x.a[i] = true
    · rw [g1] at hc1
      by_cases g2 : x.a[i] = x.t
      · refine vc_pathD [.ret (dB true)] ?_
        simp (config := { maxSteps := 10000000 }) [hlt, dT_eq, g2]
        exact ⟨by have := hc1; rw [g2] at this; exact this, rfl, hbad (by rw [ho]; simp [g2])⟩
      · by_cases g3 : x.a[i] ∈ x.a.take i
        · refine vc_pathD [.ret (dB true), .ret (dB true)] ?_
          rw [decide_eq_true g3] at hc2
          simp (config := { maxSteps := 10000000 }) [hlt, dT_eq, g2, hi']
          exact ⟨hc1, hc2, rfl, hbad (by rw [ho]; simp [g3])⟩
        · refine vc_pathD [.ret (dB true), .ret (dB false)] ?_
          rw [decide_eq_false g3] at hc2
          simp (config := { maxSteps := 10000000 }) [hlt, dT_eq, g2, hi']
          refine ⟨hc1, hc2, rfl, i + 1, ⟨by omega, fun j hj => ?_⟩, by omega, [], [], ?_⟩
          · by_cases e : j = i
            · rw [e, ho, g1]; simp [g2, g3]
            · exact h2 j (by omega)
          · rw [wrap64 (by omega)]
            simp
    · have g1 : isWd x.a[i] = false := by simpa using g1
      rw [g1] at hc1
      refine vc_pathD [.ret (dB false)] ?_
      simp (config := { maxSteps := 10000000 }) [hlt]
      exact ⟨hc1, rfl, hbad (by rw [ho, g1]; simp)⟩
  · have : okA x = true := by
      unfold okA
      rw [List.all_eq_true]
      intro j hj
      rw [h2 j (by simp at hj; omega)]; rfl
    exact leD_of_eq (by simp [okW, hwt, q0, q1, q2, q3, q4, q5, q6, this])
end Go.Proofs.YteonapeaaepipaaDoor
end

section
namespace Go.Proofs.YteonapeaaepipaaDoor
open Go Go.Proofs.YteonapeaaepipaaDoor.AL
attribute [local simp] dT_agg dT_nt dT_noTup dT_cells dT_one bs_toList bs_size strV dW_cells dW_agg dW_noTup dSm_cells dSm_agg dSm_noTup dOp_cells dOp_agg dOp_noTup dWs_cells dWs_one dWs_agg dWs_noTup dWs_nt
inductive CRws : FuncId → List D → Out → Prop
  | right (x : Wd) : CRws 107 [dW x] (.ret (dB (okW x)))
theorem hRws : ∀ f ds out, CRws f ds out → PCall Tryd.prog f ds out := by
  intro f ds out h
  cases h with
  | right x => exact rright x
def lastF (l : List Wd) : Nat → Int
  | 0 => 0
  | i + 1 => (l.getD i default).f
set_option maxRecDepth 8000 in
set_option maxHeartbeats 4000000 in
theorem rwords (l : List Wd) (hl : l.length ≤ 100000) : PCall Tryd.prog 78 [dWs l] (.ret (dB (okWs 0 l))) := by
  refine pcall_of_vc hRws c78 (by simp [a78]) fun hr => ?_
  simp [a78, dWs_eq]
  refine vc_loopK [0] Nat (fun i => [(3, true, .d (dI i))]) (fun i => []) (fun i => i ≤ l.length ∧ okWs (lastF l i) (l.drop i) = okWs 0 l) (fun i => l.length - i) 0 (by simp [lastF]) ⟨[], [], ?_⟩ (fun i hi => ?_)
  · simp
  obtain ⟨h1, h2⟩ := hi
  simp
  refine ⟨fun hlt => ?_, fun hge => ?_⟩
  · rw [List.drop_eq_getElem_cons hlt, okWs] at h2
    have hc := CRws.right l[i]
    have hgf : okW l[i] = true → 0 ≤ l[i].f := fun h => by simp [okW] at h; exact h.1
    by_cases g1 : okW l[i] = true
    · rw [g1] at hc h2
      have hf := hgf g1
      cases i with
      | zero =>
        refine vc_pathD [.ret (dB true)] ?_
        simp (config := { maxSteps := 10000000 }) [hlt]
        have h3 : okWs l[0].f (l.drop 1) = okWs 0 l := by simpa [lastF, hf] using h2
        refine ⟨hc, rfl, 1, ⟨by omega, by simpa [lastF, hlt] using h3⟩, by omega, [], [], ?_⟩
        rw [wrap64 (by omega)]
        simp
      | succ i =>
        have hi : i < l.length := by omega
        have hw : IntKind.i64.wrap (i : Int) = i := wrap64 (by omega)
        by_cases g2 : l[i + 1].f < l[i].f
        · refine vc_pathD [.ret (dB true)] ?_
          simp (config := { maxSteps := 10000000 }) [hlt, hi, hw, g2]
          have h3 : okWs 0 l = false := by rw [← h2]; simp [lastF, hi]; intro h; omega
          exact ⟨⟨by omega, by omega⟩, hc, ⟨by omega, by omega⟩, rfl, leD_of_eq (by rw [h3])⟩
        · refine vc_pathD [.ret (dB true)] ?_
          simp (config := { maxSteps := 10000000 }) [hlt, hi, hw, g2]
          have h3 : okWs l[i + 1].f (l.drop (i + 1 + 1)) = okWs 0 l := by rw [← h2]; simp [lastF, hi]; intro _; omega
          refine ⟨⟨by omega, by omega⟩, hc, ⟨by omega, by omega⟩, rfl, i + 2, ⟨by omega, by simpa [lastF, hlt] using h3⟩, by omega, [], [], ?_⟩
          rw [wrap64 (n := (i : Int) + 1 + 1) (by omega)]
          simp
          exact leD_of_eq (by congr 2)
    · have g1 : okW l[i] = false := by simpa using g1
      rw [g1] at hc h2
      refine vc_pathD [.ret (dB false)] ?_
      simp (config := { maxSteps := 10000000 }) [hlt]
      refine ⟨hc, rfl, leD_of_eq ?_⟩
      rw [← h2]; rfl
  · have hk : i = l.length := by omega
    subst hk
    rw [List.drop_length, okWs] at h2
    exact leD_of_eq (by rw [← h2])
inductive CRc : FuncId → List D → Out → Prop
  | ws (l : List Wd) (hl : l.length ≤ 100000) : CRc 78 [dWs l] (.ret (dB (okWs 0 l)))
  | same (a b : List Wd) : CRc 128 [dWs a, dWs b] (.ret (dB (decide (a = b))))
theorem hRc : ∀ f ds out, CRc f ds out → PCall Tryd.prog f ds out := by
  intro f ds out h
  cases h with
  | ws l hl => exact rwords l hl
  | same a b => exact reqWs a b
set_option maxRecDepth 8000 in
theorem rcheck (m : Sm) : PCall Tryd.prog 45 [dSm m] (.ret (dI (eSm m))) := by
  refine pcall_of_vc hRc c45 (by simp [a45]) fun hr => ?_
  simp [a45, dSm]
  refine ⟨fun q => leD_of_eq (by simp [eSm, show ¬ (m.w.length : Int) ≤ 4096 by omega]), fun q => ?_⟩
  have hc := CRc.ws m.w (by omega)
  generalize ho : okWs 0 m.w = ob at hc
  refine vc_path [.ret (dB ob)] ?_
  simp
  refine ⟨fun q1 => leD_of_eq (by simp [eSm, q, show ¬ 0 ≤ m.x by omega]), fun q1 => ⟨fun q2 => leD_of_eq (by simp [eSm, q, show ¬ m.x ≤ m.w.length by omega]), fun q2 => ⟨hc, fun q3 => leD_of_eq (by simp [eSm, q, q1, q2, ho, q3]), fun q3 => leD_of_eq (by simp [eSm, q, q1, q2, ho, q3])⟩⟩⟩
theorem sm_eq (x y : Sm) : decide (x = y) = (decide (x.x = y.x) && decide (x.w = y.w)) := by
  cases x; cases y; simp [and_comm]
set_option maxRecDepth 8000 in
theorem rallowed (s : Sm) (o : Op) (hx : 0 ≤ s.x) (hl : s.w.length ≤ 4096) : PCall Tryd.prog 117 [dSm s, dOp o] (.ret (dB (okOp s o))) := by
  refine pcall_of_vc hRc c117 (by simp [a117]) fun hr => ?_
  simp [a117, dSm, dOp]
  refine ⟨fun k1 => vc_path [] ?_, fun k1 => ⟨fun k2 => vc_path [] ?_, fun k2 => ⟨fun k3 => vc_path [] ?_, fun k3 => ?_⟩⟩⟩
  · simp [okOp, k1, okAdd]
    refine ⟨fun q1 => ⟨fun q2 => ⟨fun q3 => leD_of_eq (by simp [q1, q2, show 0 < o.w.length by omega]), fun q3 => leD_of_eq (by simp [show ¬ 0 < o.w.length by omega])⟩, fun q2 => leD_of_eq (by simp [q2])⟩, fun q1 => leD_of_eq (by simp [q1])⟩
  · simp
    have e : okOp s o = okRev s o := by simp [okOp, k2]
    rw [e]
    refine ⟨fun q1 => leD_of_eq ?_, fun q1 => ⟨fun q2 => leD_of_eq ?_, fun q2 => ⟨fun q3 => leD_of_eq ?_, fun q3 => ⟨fun q4 => leD_of_eq ?_, fun q4 => ?_⟩⟩⟩⟩
    · simp [okRev, show ¬ s.x ≤ o.a by omega]
    · simp [okRev, show ¬ o.a ≤ s.w.length by omega]
    · simp [okRev, show ¬ 1 ≤ o.c by omega]
    · simp [okRev, show ¬ o.c ≤ 64 by omega]
    have hw : IntKind.i64.wrap (o.a + o.c) = o.a + o.c := wrap64 (by omega)
    rw [hw]
    refine ⟨fun q5 => leD_of_eq ?_, fun q5 => ⟨fun q6 => leD_of_eq ?_, fun q6 => ?_⟩⟩
    · simp [okRev, show ¬ o.a + o.c ≤ s.w.length by omega]
    · simp [okRev, show ¬ (o.w.length : Int) ≤ 64 by omega]
    have hc := CRc.same o.w ((s.w.take (o.a + o.c).toNat).drop o.a.toNat)
    refine vc_pathD [.ret (dB (decide (o.w = (s.w.take (o.a + o.c).toNat).drop o.a.toNat)))] ?_
    simp [dWs] at hc
    simp [hw]
    refine ⟨⟨by omega, by omega, by omega⟩, hc, rfl, leD_of_eq ?_⟩
    simp [okRev, q1, q2, q3, q4, q5, q6]
  · simp [okOp, k1, k2, k3, okFix]
    refine ⟨fun q1 => ⟨fun q2 => ⟨fun q3 => leD_of_eq ?_, fun q3 => leD_of_eq (by simp [q3])⟩, fun q2 => leD_of_eq ?_⟩, fun q1 => leD_of_eq ?_⟩
    · cases hw : o.w <;> simp [q1, q2, q3]
      omega
    · simp [show ¬ o.a ≤ s.w.length by omega]
    · simp [show ¬ s.x ≤ o.a by omega]
  · exact leD_of_eq (by simp [okOp, k1, k2, k3])
end Go.Proofs.YteonapeaaepipaaDoor
end

section
namespace Go.Proofs.YteonapeaaepipaaDoor
open Go Go.Proofs.YteonapeaaepipaaDoor.AL
attribute [local simp] dT_agg dT_nt dT_noTup dT_cells dT_one bs_toList bs_size strV dW_cells dW_agg dW_noTup dSm_cells dSm_agg dSm_noTup dOp_cells dOp_agg dOp_noTup dWs_cells dWs_one dWs_agg dWs_noTup dWs_nt
inductive CRd : FuncId → List D → Out → Prop
  | ck (m : Sm) : CRd 45 [dSm m] (.ret (dI (eSm m)))
  | al (s : Sm) (o : Op) (hx : 0 ≤ s.x) (hl : s.w.length ≤ 4096) : CRd 117 [dSm s, dOp o] (.ret (dB (okOp s o)))
theorem hRd : ∀ f ds out, CRd f ds out → PCall Tryd.prog f ds out := by
  intro f ds out h
  cases h with
  | ck m => exact rcheck m
  | al s o hx hl => exact rallowed s o hx hl
set_option maxRecDepth 8000 in
set_option maxHeartbeats 4000000 in
theorem rDo (s : Sm) (o : Op) : PCall Tryd.prog 103 [dSm s, dOp o] (.ret (.tup [dSm (doX s o), dI (doE s o)])) := by
  refine pcall_of_vc hRd c103 (by simp [a103]) fun hr => ?_
  simp [a103]
  have hc := CRd.ck s
  refine vc_path [.ret (dI (eSm s))] ?_
  simp
  refine ⟨hc, ?_⟩
  by_cases q : eSm s = 0
  · simp [q]
    have hs : s.w.length ≤ 4096 ∧ 0 ≤ s.x := by
      unfold eSm at q
      split at q
      · split at q
        · rename_i h1 h2; exact ⟨by omega, h2.1⟩
        · simp at q
      · simp at q
    have ha := CRd.al s o hs.2 hs.1
    by_cases p : okOp s o = true
    · rw [p] at ha
      refine vc_path [.ret (dB true)] ?_
      simp
      refine ⟨ha, ?_⟩
      have hc2 := CRd.ck (next s o)
      by_cases k1 : o.k = 1
      · have e1 : (o.k == 1) = true := by simp [k1]
        have hl : o.w.length ≤ 64 := by simp [okOp, k1, okAdd] at p; omega
        have hn : next s o = ⟨s.w ++ o.w, s.x⟩ := by simp [next, k1]
        simp [k1]
        refine ⟨⟨by omega, by omega⟩, ⟨by omega, by omega⟩, rfl, ?_⟩
        refine vc_path [.ret (dI (eSm (next s o)))] ?_
        rw [hn] at hc2
        simp [dSm] at hc2
        simp
        refine ⟨by rw [hn]; exact hc2, ?_⟩
        by_cases q2 : eSm (next s o) = 0
        · have d1 : doE s o = 0 := by simp [doE, q, p, q2]
          have d2 : doX s o = next s o := by simp [doX, d1]
          rw [d1, d2, hn]
          simp [q2, dSm]
          exact fun h => absurd (by rw [← hn]; exact q2) h
        · have d1 : doE s o = eSm (next s o) := by simp [doE, q, p]
          have d2 : doX s o = ⟨[], 0⟩ := by simp [doX, d1, q2]
          rw [d1, d2]
          simp [q2]
          exact nilSm
      · by_cases k2 : o.k = 2
        · have hl : s.x ≤ o.a ∧ 1 ≤ o.c ∧ o.a + o.c ≤ s.w.length ∧ o.w.length ≤ 64 := by simp [okOp, k2, okRev] at p; omega
          have hn : next s o = ⟨s.w.take o.a.toNat ++ (o.w ++ s.w.drop (o.a + o.c).toNat), s.x⟩ := by simp [next, k2]
          have hw : IntKind.i64.wrap (o.a + o.c) = o.a + o.c := wrap64 (by omega)
          have ht : List.take s.w.length (List.map dW s.w) = List.map dW s.w := by rw [← List.length_map (f := dW), List.take_length]
          simp [k2, hw, ht]
          refine ⟨⟨by omega, by omega⟩, ⟨by omega, by omega⟩, ⟨by omega, by omega⟩, ⟨by omega, by omega⟩, ⟨by omega, by omega⟩, rfl, ?_⟩
          refine vc_path [.ret (dI (eSm (next s o)))] ?_
          rw [hn] at hc2
          simp [dSm] at hc2
          simp
          refine ⟨by rw [hn]; exact hc2, ?_⟩
          by_cases q2 : eSm (next s o) = 0
          · have d1 : doE s o = 0 := by simp [doE, q, p, q2]
            have d2 : doX s o = next s o := by simp [doX, d1]
            rw [d1, d2, hn]
            simp [q2, dSm]
            exact fun h => absurd (by rw [← hn]; exact q2) h
          · have d1 : doE s o = eSm (next s o) := by simp [doE, q, p]
            have d2 : doX s o = ⟨[], 0⟩ := by simp [doX, d1, q2]
            rw [d1, d2]
            simp [q2]
            exact nilSm
        · have hn : next s o = ⟨s.w, o.a⟩ := by simp [next, k1, k2]
          simp [k1, k2]
          refine ⟨⟨by omega, by omega⟩, ?_⟩
          refine vc_path [.ret (dI (eSm (next s o)))] ?_
          rw [hn] at hc2
          simp [dSm] at hc2
          simp
          refine ⟨by rw [hn]; exact hc2, ?_⟩
          by_cases q2 : eSm (next s o) = 0
          · have d1 : doE s o = 0 := by simp [doE, q, p, q2]
            have d2 : doX s o = next s o := by simp [doX, d1]
            rw [d1, d2, hn]
            simp [q2, dSm]
            exact fun h => absurd (by rw [← hn]; exact q2) h
          · have d1 : doE s o = eSm (next s o) := by simp [doE, q, p]
            have d2 : doX s o = ⟨[], 0⟩ := by simp [doX, d1, q2]
            rw [d1, d2]
            simp [q2]
            exact nilSm
    · have p : okOp s o = false := by simpa using p
      rw [p] at ha
      have d1 : doE s o = 170 := by simp [doE, q, p]
      have d2 : doX s o = ⟨[], 0⟩ := by simp [doX, d1]
      rw [d1, d2]
      refine vc_path [.ret (dB false)] ?_
      simp
      exact ⟨ha, nilSm⟩
  · have e1 : doE s o = eSm s := by simp [doE, q]
    have e2 : doX s o = ⟨[], 0⟩ := by simp [doX, e1, q]
    rw [e1, e2]
    simp [q]
    exact nilSm
end Go.Proofs.YteonapeaaepipaaDoor
end

section
namespace Go.Proofs.YteonapeaaepipaaDoor
open Go Go.Proofs.YteonapeaaepipaaDoor.AL
/-! Packets and feeds. -/
structure Pk where
  q : Int
  s : Int
  o : Op
  deriving DecidableEq
structure Fd where
  n : Int
  w : List Pk
  m : Sm
  r : Int
  deriving DecidableEq
def dPk (p : Pk) : D := .agg [dI p.q, dI p.s, dI p.o.k, dI p.o.a, dI p.o.c, .sl 5 (p.o.w.map dW)]
theorem dPk_cells (p : Pk) : (dPk p).cells = [dI p.q, dI p.s, dI p.o.k, dI p.o.a, dI p.o.c, .sl 5 (p.o.w.map dW)] := rfl
theorem dPk_agg (p : Pk) : (dPk p).isAgg = true := rfl
theorem dPk_noTup (p : Pk) : (AV.d (dPk p)).noTup = true := rfl
theorem dPk_nt (p : Pk) (ds : List D) : (dPk p = .tup ds) = False := by simp [dPk]
def dPks (l : List Pk) : D := .sl 6 (l.map dPk)
def dFd (f : Fd) : D := .agg [dI f.n, .sl 6 (f.w.map dPk), .sl 5 (f.m.w.map dW), dI f.m.x, dI f.r]
theorem dFd_cells (f : Fd) : (dFd f).cells = [dI f.n, .sl 6 (f.w.map dPk), .sl 5 (f.m.w.map dW), dI f.m.x, dI f.r] := rfl
theorem dFd_agg (f : Fd) : (dFd f).isAgg = true := rfl
theorem dFd_noTup (f : Fd) : (AV.d (dFd f)).noTup = true := rfl
theorem dFd_nt (f : Fd) (ds : List D) : (dFd f = .tup ds) = False := by simp [dFd]
/-- Is a packet in form? -/
def okPk (p : Pk) : Bool := decide (0 ≤ p.q) && (decide (p.q ≤ 1048576) && (decide (0 ≤ p.s) && (decide (p.s < 1099511627776) && decide ((p.o.w.length : Int) ≤ 64))))
/-- Are packets that wait in order? -/
def okWt (b : Int) : Int → List Pk → Bool
  | _, [] => true
  | last, p :: r => okPk p && (decide (last < p.q) && (decide (p.q ≤ b + 64) && okWt b p.q r))
def eFd (f : Fd) : Int := if (0 ≤ f.n ∧ f.n ≤ 1048577) ∧ (0 ≤ f.r ∧ f.r ≤ f.n) ∧ eSm f.m = 0 ∧ okWt f.n f.n f.w = true then 0 else 180
def fd0 : Fd := ⟨0, [], ⟨[], 0⟩, 0⟩
end Go.Proofs.YteonapeaaepipaaDoor
end

section
namespace Go.Proofs.YteonapeaaepipaaDoor
open Go Go.Proofs.YteonapeaaepipaaDoor.AL
attribute [local simp] dT_agg dT_nt dT_noTup dT_cells dT_one bs_toList bs_size strV dW_cells dW_agg dW_noTup dSm_cells dSm_agg dSm_noTup dOp_cells dOp_agg dOp_noTup dWs_cells dWs_one dWs_agg dWs_noTup dWs_nt
attribute [local simp] dPk_cells dPk_agg dPk_noTup dPk_nt dFd_cells dFd_agg dFd_noTup dFd_nt
set_option maxRecDepth 8000
set_option maxHeartbeats 4000000
theorem formed (p : Pk) : PCall Tryd.prog 63 [dPk p] (.ret (dB (okPk p))) := by
  refine pcall_of_vc noC c63 (by simp [a63]) fun hr => ?_
  simp [a63]
  refine vc_path [] ?_
  by_cases q : p.s < p.q
  all_goals
    simp [q]
    refine ⟨fun g1 => ⟨fun g2 => ⟨fun g3 => leD_of_eq ?_, fun g3 => leD_of_eq ?_⟩, fun g2 => leD_of_eq ?_⟩, fun g1 => leD_of_eq ?_⟩
    all_goals
      congr 2
      rw [Bool.eq_iff_iff]
      simp [okPk]
      try omega
inductive C221 : FuncId → List D → Out → Prop
  | formed (p : Pk) : C221 63 [dPk p] (.ret (dB (okPk p)))
  | sck (s : Sm) : C221 23 [dSm s] (.ret (dI (eSm s)))
theorem h221 : ∀ f ds out, C221 f ds out → PCall Tryd.prog f ds out := by
  intro f ds out h
  cases h with
  | formed p => exact formed p
  | sck s => exact Check s
theorem okWt_drop (b last : Int) (l : List Pk) (i : Nat) (h : i < l.length) : okWt b last (l.drop i) = (okPk l[i] && (decide (last < l[i].q) && (decide (l[i].q ≤ b + 64) && okWt b l[i].q (l.drop (i + 1))))) := by
  rw [List.drop_eq_getElem_cons h]
  rfl
theorem okWt_end (b last : Int) (l : List Pk) (i : Nat) (h : l.length ≤ i) : okWt b last (l.drop i) = true := by
  rw [List.drop_eq_nil_of_le h]
  rfl
theorem check18 (f : Fd) : PCall Tryd.prog 35 [dFd f] (.ret (dI (eFd f))) := by
  refine pcall_of_vc h221 c35 (by simp [a35]) fun hr => ?_
  simp [a35]
  by_cases q1 : ¬ (0 ≤ f.n)
  · have e : eFd f = 180 := by unfold eFd; rw [if_neg (by omega)]
    rw [e]
    refine regS_path [] ?_
    simp [show f.n < 0 by omega]
  by_cases q2 : ¬ (f.n ≤ 1048577)
  · have e : eFd f = 180 := by unfold eFd; rw [if_neg (by omega)]
    rw [e]
    refine regS_path [] ?_
    simp [show ¬ f.n < 0 by omega, show 1048577 < f.n by omega]
  by_cases q3 : ¬ (0 ≤ f.r)
  · have e : eFd f = 180 := by unfold eFd; rw [if_neg (by omega)]
    rw [e]
    refine regS_path [] ?_
    simp [show ¬ f.n < 0 by omega, show ¬ 1048577 < f.n by omega, show f.r < 0 by omega]
  by_cases q4 : ¬ (f.r ≤ f.n)
  · have e : eFd f = 180 := by unfold eFd; rw [if_neg (by omega)]
    rw [e]
    refine regS_path [] ?_
    simp [show ¬ f.n < 0 by omega, show ¬ 1048577 < f.n by omega, show ¬ f.r < 0 by omega, show f.n < f.r by omega]
  have hc := C221.sck f.m
  by_cases q5 : ¬ eSm f.m = 0
  · have e : eFd f = 180 := by unfold eFd; rw [if_neg (fun h => q5 h.2.2.1)]
    rw [e]
    generalize eSm f.m = em at *
    refine regS_path [.ret (dI em)] ?_
    simp [show ¬ f.n < 0 by omega, show ¬ 1048577 < f.n by omega, show ¬ f.r < 0 by omega, show ¬ f.n < f.r by omega, q5]
    exact hc
  have q5 : eSm f.m = 0 := by omega
  rw [q5] at hc
  have he : eFd f = if okWt f.n f.n f.w = true then 0 else 180 := by
    unfold eFd
    by_cases h : okWt f.n f.n f.w = true
    · rw [if_pos ⟨⟨by omega, by omega⟩, ⟨by omega, by omega⟩, q5, h⟩, if_pos h]
    · rw [if_neg (fun g => h g.2.2.2), if_neg h]
  refine regS_path [.ret (dI 0)] ?_
  simp [show ¬ f.n < 0 by omega, show ¬ 1048577 < f.n by omega, show ¬ f.r < 0 by omega, show ¬ f.n < f.r by omega]
  refine ⟨hc, ?_⟩
  refine icall_T (TF Tryd.prog a74) (hcall_of_vc c74) ?_
  simp [a74]
  refine regS_path [] ?_
  simp
  refine icall_T (TF Tryd.prog a104) (hcall_of_vc c104) ?_
  simp [a104]
  have hl := (hr (dFd f) (by simp))
  have hlen : f.w.length ≤ 9223372036854775807 := by
    have := hl.agg (.sl 6 (f.w.map dPk)) (by simp)
    exact (by simpa using this.2.sl.1)
  refine vc_loopK [0, 1, 7] (Nat × Int) (fun y => [(8, true, .d (dI y.1))]) (fun y => [(1, .box false [.d (dI y.2)])]) (fun y => y.1 ≤ f.w.length ∧ okWt f.n f.n f.w = okWt f.n y.2 (f.w.drop y.1)) (fun y => f.w.length - y.1) (0, f.n) (by simp) ⟨[], [], ?_⟩ (fun y hi => ?_)
  · simp
    intro x hx; omega
  obtain ⟨i, la⟩ := y
  obtain ⟨h1, h2⟩ := hi
  simp only at h1 h2
  simp
  refine ⟨fun hlt => ?_, fun hge => leD_of_eq (by rw [he, h2, okWt_end _ _ _ _ hge]; rfl)⟩
  refine regS_path [] ?_
  simp [hlt]
  refine icall_T (TF Tryd.prog a73) (hcall_of_vc c73) ?_
  simp [a73]
  have hf := C221.formed f.w[i]
  generalize hk : okPk f.w[i] = ok at hf
  refine vc_path [.ret (dB ok)] ?_
  simp
  have hd := okWt_drop f.n la f.w i hlt
  have hw : IntKind.i64.wrap (f.n + 64) = f.n + 64 := wrap64 (by omega)
  rw [hw]
  have hbad : okWt f.n la (f.w.drop i) = false → LeD (D.lit (Value.int IntKind.i64 180)) (D.lit (Value.int IntKind.i64 (eFd f))) := fun h => leD_of_eq (by rw [he, h2, h]; rfl)
  refine ⟨hf, fun g1 => ⟨fun g2 => ⟨fun g3 => hbad (by rw [hd]; simp; intros; omega), fun g3 => ⟨i + 1, f.w[i].q, ⟨by omega, by rw [h2, hd, hk, g1]; simp [g2, g3]⟩, by omega, ?_⟩⟩, fun g2 => hbad (by rw [hd]; simp; intros; omega)⟩, fun g1 => hbad (by rw [hd, hk, g1]; rfl)⟩
  rw [wrap64 (by omega)]
  refine ⟨[(2, 3)], [], ?_⟩
  simp
  exact fun x hx => .inr ⟨by rw [if_neg (by omega)]; rfl, by omega⟩
end Go.Proofs.YteonapeaaepipaaDoor
end

section
namespace Go.Proofs.YteonapeaaepipaaDoor
open Go Go.Proofs.YteonapeaaepipaaDoor.AL
attribute [local simp] dT_agg dT_nt dT_noTup dT_cells dT_one bs_toList bs_size strV dW_cells dW_agg dW_noTup dSm_cells dSm_agg dSm_noTup dOp_cells dOp_agg dOp_noTup dWs_cells dWs_one dWs_agg dWs_noTup dWs_nt
attribute [local simp] dPk_cells dPk_agg dPk_noTup dPk_nt dFd_cells dFd_agg dFd_noTup dFd_nt
set_option maxRecDepth 8000
set_option maxHeartbeats 4000000
/-- The sign of a difference. -/
def cmpI (a b : Int) : Int := if a < b then -1 else if b < a then 1 else 0
theorem cmpI_zero (a b : Int) : cmpI a b = 0 ↔ a = b := by
  unfold cmpI
  split
  · exact ⟨fun h => absurd h (by decide), fun h => by omega⟩
  · split
    · exact ⟨fun h => absurd h (by decide), fun h => by omega⟩
    · exact ⟨fun _ => by omega, fun _ => rfl⟩
theorem isNaN (a : Int) : PCall Tryd.prog 115 [dI a] (.ret (dB false)) := by
  refine pcall_of_vc noC c115 (by simp [a115]) fun hr => ?_
  simp [a115]
inductive C222a : FuncId → List D → Out → Prop
  | nan (a : Int) : C222a 115 [dI a] (.ret (dB false))
theorem h222a : ∀ f ds out, C222a f ds out → PCall Tryd.prog f ds out := by
  intro f ds out h
  cases h with
  | nan a => exact isNaN a
theorem compare (a b : Int) : PCall Tryd.prog 97 [dI a, dI b] (.ret (dI (cmpI a b))) := by
  refine pcall_of_vc h222a c97 (by simp [a97]) fun hr => ?_
  have h1 := C222a.nan a
  have h2 := C222a.nan b
  simp [a97]
  refine vc_path [.ret (dB false)] ?_
  simp
  refine ⟨h1, vc_path [.ret (dB false)] ?_⟩
  simp
  refine ⟨h2, ?_⟩
  by_cases g1 : a < b
  · simp [g1, cmpI]
    intro h; omega
  · by_cases g2 : b < a
    · simp [g1, g2, cmpI]
      intro h h2; omega
    · simp [g1, g2, cmpI]
inductive C222b : FuncId → List D → Out → Prop
  | cmp (a b : Int) : C222b 97 [dI a, dI b] (.ret (dI (cmpI a b)))
theorem h222b : ∀ f ds out, C222b f ds out → PCall Tryd.prog f ds out := by
  intro f ds out h
  cases h with
  | cmp a b => exact compare a b
theorem keyCmp (k p : Pk) (z : Int) : PCall Tryd.prog 65 [dPk k, dPk p, dI z] (.ret (dI (cmpI p.q k.q))) := by
  refine pcall_of_vc h222b c65 (by simp [a65]) fun hr => ?_
  have h1 := C222b.cmp p.q k.q
  generalize cmpI p.q k.q = v at h1
  simp [a65]
  refine vc_path [.ret (dI v)] ?_
  simp
  exact h1
/-- The place of a number in a list. -/
def lb (q : Int) : List Pk → Nat
  | [] => 0
  | x :: r => if x.q < q then lb q r + 1 else 0
def pk0 : Pk := ⟨0, 0, ⟨0, 0, 0, []⟩⟩
def hit (q : Int) (l : List Pk) : Bool := decide (lb q l < l.length) && decide ((l.getD (lb q l) pk0).q = q)
theorem lb_le (q : Int) : ∀ l : List Pk, lb q l ≤ l.length
  | [] => Nat.le_refl 0
  | x :: r => by
    have := lb_le q r
    simp only [lb, List.length_cons]
    split <;> omega
theorem lb_is (q : Int) : ∀ (l : List Pk) (i : Nat), i ≤ l.length → (∀ j, (h : j < i) → (h2 : j < l.length) → l[j].q < q) → ((h : i < l.length) → q ≤ l[i].q) → lb q l = i
  | [], i, hi, _, _ => by simp at hi; simp [lb, hi]
  | x :: r, 0, _, _, h2 => by
    have := h2 (by simp)
    simp at this
    simp only [lb]
    rw [if_neg (by omega)]
  | x :: r, i + 1, hi, h1, h2 => by
    have h0 := h1 0 (by omega) (by simp)
    simp at h0
    simp only [lb]
    rw [if_pos h0, lb_is q r i (by simpa using hi) (fun j hj hj2 => by have := h1 (j + 1) (by omega) (by simpa using hj2); rwa [List.getElem_cons_succ] at this) (fun h => by have := h2 (by simpa using h); rwa [List.getElem_cons_succ] at this)]
theorem lb_lt (q : Int) : ∀ (l : List Pk) (j : Nat), (h : j < lb q l) → (h2 : j < l.length) → l[j].q < q
  | [], _, h, _ => by simp [lb] at h
  | x :: r, 0, h, _ => by
    simp only [lb] at h
    split at h
    · simpa
    · omega
  | x :: r, j + 1, h, h2 => by
    simp only [lb] at h
    split at h
    · simpa using lb_lt q r j (by omega) (by simpa using h2)
    · omega
theorem lb_ge (q : Int) : ∀ (l : List Pk), (h : lb q l < l.length) → q ≤ l[lb q l].q
  | [], h => by simp at h
  | x :: r, h => by
    by_cases hx : x.q < q
    · have e : lb q (x :: r) = lb q r + 1 := by simp [lb, hx]
      have h3 : lb q r < r.length := by rw [e] at h; simpa using h
      have := lb_ge q r h3
      simp only [e, List.getElem_cons_succ]
      exact this
    · have e : lb q (x :: r) = 0 := by simp [lb, hx]
      simp only [e, List.getElem_cons_zero]
      omega
theorem okWt_len (b : Int) : ∀ (l : List Pk) (last : Int), okWt b last l = true → last ≤ b + 64 → (l.length : Int) ≤ b + 64 - last
  | [], last, _, h => by simp; omega
  | x :: r, last, h, h2 => by
    simp only [okWt, Bool.and_eq_true, decide_eq_true_eq] at h
    have := okWt_len b r x.q h.2.2.2 h.2.2.1
    simp only [List.length_cons]
    omega
theorem okWt_at (b : Int) : ∀ (l : List Pk) (last : Int), okWt b last l = true → ∀ (i : Nat) (h : i < l.length), okPk l[i] = true ∧ last < l[i].q ∧ l[i].q ≤ b + 64
  | [], _, _, i, hi => by simp at hi
  | x :: r, last, h, 0, hi => by
    simp only [okWt, Bool.and_eq_true, decide_eq_true_eq] at h
    exact ⟨h.1, h.2.1, h.2.2.1⟩
  | x :: r, last, h, i + 1, hi => by
    simp only [okWt, Bool.and_eq_true, decide_eq_true_eq] at h
    have := okWt_at b r x.q h.2.2.2 i (by simpa using hi)
    simp only [List.getElem_cons_succ]
    exact ⟨this.1, by omega, this.2.2⟩
theorem okWt_lt (b : Int) : ∀ (l : List Pk) (last : Int), okWt b last l = true → ∀ (i j : Nat) (_ : i < j) (h : j < l.length), l[i].q < l[j].q
  | [], _, _, i, j, _, hj => by simp at hj
  | x :: r, last, h, 0, j + 1, _, hj => by
    simp only [okWt, Bool.and_eq_true, decide_eq_true_eq] at h
    have := okWt_at b r x.q h.2.2.2 j (by simpa using hj)
    simp only [List.getElem_cons_succ, List.getElem_cons_zero]
    exact this.2.1
  | x :: r, last, h, i + 1, j + 1, hij, hj => by
    simp only [okWt, Bool.and_eq_true, decide_eq_true_eq] at h
    simp only [List.getElem_cons_succ]
    exact okWt_lt b r x.q h.2.2.2 i j (by omega) (by simpa using hj)
def dKey (p : Pk) : D := .fn (.func 65) [dPk p] []
inductive C222c : FuncId → List D → Out → Prop
  | mk (k p : Pk) (z : Int) : C222c 65 [dPk k, dPk p, dI z] (.ret (dI (cmpI p.q k.q)))
theorem h222c : ∀ f ds out, C222c f ds out → PCall Tryd.prog f ds out := by
  intro f ds out h
  cases h with
  | mk k p z => exact keyCmp k p z
theorem bsearch (b last : Int) (l : List Pk) (p : Pk) (hl : okWt b last l = true) (hlen : l.length ≤ 4096) : PCall Tryd.prog 64 [.sl 6 (l.map dPk), dI 0, dKey p] (.ret (.tup [dI (lb p.q l), dB (hit p.q l)])) := by
  refine pcall_of_vc h222c c64 (by simp [a64]) fun hr => ?_
  simp [a64]
  refine vc_loopK [0, 1, 2, 8] (Nat × Nat) (fun y => [(9, true, .d (dI y.1)), (10, true, .d (dI y.2))]) (fun y => []) (fun y => y.1 ≤ y.2 ∧ y.2 ≤ l.length ∧ (∀ j, (h : j < y.1) → (h2 : j < l.length) → l[j].q < p.q) ∧ (∀ j, y.2 ≤ j → (h2 : j < l.length) → p.q ≤ l[j].q)) (fun y => y.2 - y.1) (0, l.length) (by simp; intro j h1 h2; omega) ⟨[], [], ?_⟩ (fun y hy => ?_)
  · simp
  obtain ⟨i, j⟩ := y
  obtain ⟨h1, h2, h3, h4⟩ := hy
  simp only at h1 h2 h3 h4
  simp
  refine ⟨fun hlt => ?_, fun hge => ?_⟩
  · have hlt : i < j := by omega
    have w1 : IntKind.i64.wrap ((i : Int) + j) = (i : Int) + j := wrap64 (by omega)
    have w2 : IntKind.u64.wrap ((i : Int) + j) = (i : Int) + j := by simp [IntKind.wrap, IntKind.bits, IntKind.signed]; omega
    have hs : shiftV false .u64 ((i : Int) + j) 1 = .int .u64 (((i + j) / 2 : Nat) : Int) := by
      have e : min (1 : Int).toNat IntKind.u64.bits = 1 := by decide
      simp only [shiftV, e]
      rw [Int.fdiv_eq_ediv_of_nonneg _ (by decide)]
      simp
    obtain ⟨m, hm⟩ : ∃ m, (i + j) / 2 = m := ⟨_, rfl⟩
    have hmi : i ≤ m ∧ m < j := by omega
    have hml : m < l.length := by omega
    have w3 : IntKind.i64.wrap ((m : Nat) : Int) = m := wrap64 (by omega)
    rw [w1, w2, hs, hm]
    have hc := C222c.mk p l[m] 0
    simp [w3]
    by_cases hb : l[m].q < p.q
    · have e : cmpI l[m].q p.q = -1 := by simp [cmpI, hb]
      rw [e] at hc
      refine vc_path [.ret (dI (-1))] ?_
      simp [dKey, hml]
      refine ⟨hc, m + 1, j, ⟨by omega, by omega, fun a ha ha2 => ?_, h4⟩, by omega, [], [], ?_⟩
      · by_cases e : a = m
        · subst e; exact hb
        · have := okWt_lt b l last hl a m (by omega) hml
          omega
      · rw [wrap64 (by omega)]
        simp
    · have e : ¬ cmpI l[m].q p.q < 0 := by unfold cmpI; split; omega; split <;> omega
      generalize cmpI l[m].q p.q = v at e hc
      refine vc_path [.ret (dI v)] ?_
      simp [dKey, hml, e]
      refine ⟨hc, i, m, ⟨by omega, by omega, h3, fun a ha ha2 => ?_⟩, by omega, [], [], ?_⟩
      · by_cases e : a = m
        · subst e; omega
        · have := okWt_lt b l last hl m a (by omega) ha2
          omega
      · simp
  · have : i = j := by omega
    subst this
    have hlb : lb p.q l = i := lb_is p.q l i h2 h3 (fun h => h4 i (Nat.le_refl i) h)
    rw [hlb]
    by_cases hi : i < l.length
    · have hc := C222c.mk p l[i] 0
      have hh : hit p.q l = decide (cmpI l[i].q p.q = 0) := by
        unfold hit
        rw [hlb, Bool.eq_iff_iff]
        have := h4 i (Nat.le_refl i) hi
        simp [hi, List.getD, cmpI_zero]
      rw [hh]
      generalize cmpI l[i].q p.q = v at hc
      refine vc_path [.ret (dI v)] ?_
      simp [dKey, hi]
      exact ⟨hc, leD_of_eq (by congr 2)⟩
    · have hh : hit p.q l = false := by
        unfold hit
        rw [hlb]
        simp [hi]
      rw [hh]
      refine vc_path [] ?_
      simp [hi]
end Go.Proofs.YteonapeaaepipaaDoor
end

section
namespace Go.Proofs.YteonapeaaepipaaDoor
open Go Go.Proofs.YteonapeaaepipaaDoor.AL
attribute [local simp] dT_agg dT_nt dT_noTup dT_cells dT_one bs_toList bs_size strV dW_cells dW_agg dW_noTup dSm_cells dSm_agg dSm_noTup dOp_cells dOp_agg dOp_noTup dWs_cells dWs_one dWs_agg dWs_noTup dWs_nt
attribute [local simp] dPk_cells dPk_agg dPk_noTup dPk_nt dFd_cells dFd_agg dFd_noTup dFd_nt
set_option maxRecDepth 8000
set_option maxHeartbeats 4000000
theorem same1 (x y : Wd) : PCall Tryd.prog 98 [dW x, dW y] (.ret (dB (decide (x = y)))) := by
  refine pcall_of_vc hSm c98 (by simp [a98]) fun hr => ?_
  have hc := CSm.eq x.a y.a
  simp [a98]
  refine vc_path [.ret (dB (decide (x.a = y.a)))] ?_
  simp
  refine ⟨hc, vc_path [] ?_⟩
  simp [dT_eq]
  rw [wd_eq]
  refine ⟨fun q1 => ⟨fun q2 => leD_of_eq ?_, fun q2 => leD_of_eq ?_⟩, fun q1 => leD_of_eq ?_⟩
  · congr 2
    rw [Bool.eq_iff_iff]
    simp [q1, q2]
  · simp [q2]
  · simp [q1]
inductive C223a : FuncId → List D → Out → Prop
  | mk (x y : Wd) : C223a 98 [dW x, dW y] (.ret (dB (decide (x = y))))
theorem h223a : ∀ f ds out, C223a f ds out → PCall Tryd.prog f ds out := by
  intro f ds out h
  cases h with
  | mk x y => exact same1 x y
theorem eqWs18 (a b : List Wd) : PCall Tryd.prog 92 [dWs a, dWs b, .fn (.func 98) [] []] (.ret (dB (decide (a = b)))) := by
  refine pcall_of_vc h223a c92 (by simp [a92]) fun hr => ?_
  have hlen := (hr (dWs a) (by simp)).sl.1
  simp at hlen
  simp [a92, dWs_eq]
  refine ⟨fun hne => leD_of_eq ?_, fun hl => ?_⟩
  · have : a ≠ b := fun e => hne (by rw [e])
    simp [this]
  · refine vc_loopK [0, 1, 2, 15, 16] Nat (fun k => [(17, true, .d (dI k))]) (fun k => []) (fun k => k ≤ a.length ∧ a.take k = b.take k) (fun k => a.length - k) 0 (by simp) ⟨[], [], ?_⟩ (fun k hk => ?_)
    · simp
    obtain ⟨h1, h2⟩ := hk
    simp
    refine ⟨fun hlt => ?_, fun hge => ?_⟩
    · have hlt2 : k < b.length := by omega
      simp [hlt, hlt2]
      refine vc_path [.ret (dB (decide (a[k] = b[k])))] ?_
      simp
      have hc := C223a.mk a[k] b[k]
      refine ⟨hc, fun he => leD_of_eq ?_, fun he => ⟨k + 1, ⟨by omega, take_eq h2 hlt hlt2 he⟩, by omega, [], [], ?_⟩⟩
      · simp [ne_of_at hlt hlt2 he]
      · rw [wrap64 (by omega)]
        simp
    · have hk : k = a.length := by omega
      subst hk
      have hl' : a.length = b.length := by omega
      rw [List.take_length, hl', List.take_length] at h2
      simp [h2]
inductive C223 : FuncId → List D → Out → Prop
  | eq (a b : List Wd) : C223 92 [dWs a, dWs b, .fn (.func 98) [] []] (.ret (dB (decide (a = b))))
theorem h223 : ∀ f ds out, C223 f ds out → PCall Tryd.prog f ds out := by
  intro f ds out h
  cases h with
  | eq a b => exact eqWs18 a b
theorem pk_eq (x y : Pk) : decide (x = y) = (decide (x.q = y.q) && (decide (x.s = y.s) && (decide (x.o.k = y.o.k) && (decide (x.o.a = y.o.a) && (decide (x.o.c = y.o.c) && decide (x.o.w = y.o.w)))))) := by
  obtain ⟨q, s, k, a, c, w⟩ := x
  obtain ⟨q', s', k', a', c', w'⟩ := y
  simp
theorem same18 (x y : Pk) : PCall Tryd.prog 66 [dPk x, dPk y] (.ret (dB (decide (x = y)))) := by
  refine pcall_of_vc h223 c66 (by simp [a66]) fun hr => ?_
  have hc := C223.eq x.o.w y.o.w
  rw [dWs_eq, dWs_eq] at hc
  simp [a66]
  refine vc_path [.ret (dB (decide (x.o.w = y.o.w)))] ?_
  simp
  rw [pk_eq]
  refine ⟨fun a b c d e => ⟨hc, leD_of_eq (by simp [a, b, c, d, e])⟩, fun h => leD_of_eq ?_⟩
  congr 2
  rw [Bool.eq_iff_iff]
  simp
  intro a b c d e
  exact absurd e (h a b c d)
end Go.Proofs.YteonapeaaepipaaDoor
end

section
namespace Go.Proofs.YteonapeaaepipaaDoor
open Go Go.Proofs.YteonapeaaepipaaDoor.AL
attribute [local simp] dT_agg dT_nt dT_noTup dT_cells dT_one bs_toList bs_size strV dW_cells dW_agg dW_noTup dSm_cells dSm_agg dSm_noTup dOp_cells dOp_agg dOp_noTup dWs_cells dWs_one dWs_agg dWs_noTup dWs_nt
attribute [local simp] dPk_cells dPk_agg dPk_noTup dPk_nt dFd_cells dFd_agg dFd_noTup dFd_nt
set_option maxRecDepth 8000
set_option maxHeartbeats 4000000
/-- What a feed is after an op. -/
def takeF (f : Fd) (o : Op) : Fd := ⟨f.n + 1, f.w, if doE f.m o = 0 then doX f.m o else f.m, if doE f.m o = 0 then f.r else f.r + 1⟩
/-- Takes the packets that can be taken. -/
def runF (f : Fd) : List Pk → Fd
  | [] => { f with w := [] }
  | p :: r => if p.q = f.n then runF (takeF f p.o) r else { f with w := p :: r }
theorem runF_w : ∀ (l : List Pk) (f : Fd) (w : List Pk), runF ⟨f.n, w, f.m, f.r⟩ l = runF f l
  | [], f, w => rfl
  | p :: r, f, w => by
    simp only [runF]
    split
    · exact (runF_w r (takeF f p.o) w).symm ▸ rfl
    · rfl
def insP (p : Pk) (l : List Pk) : List Pk := l.take (lb p.q l) ++ p :: l.drop (lb p.q l)
def putF (f : Fd) (p : Pk) : Fd × Int :=
  if eFd f ≠ 0 then (fd0, 180) else
  if okPk p = false then (fd0, 1) else
  if p.q < f.n then (f, 0) else
  if hit p.q f.w = true then (if f.w.getD (lb p.q f.w) pk0 = p then (f, 0) else (fd0, 181)) else
  if f.n + 64 < p.q then (fd0, 2) else (runF f (insP p f.w), 0)
inductive C224 : FuncId → List D → Out → Prop
  | chk (f : Fd) : C224 35 [dFd f] (.ret (dI (eFd f)))
  | formed (p : Pk) : C224 63 [dPk p] (.ret (dB (okPk p)))
  | bs (b last : Int) (l : List Pk) (p : Pk) (hl : okWt b last l = true) (hlen : l.length ≤ 4096) : C224 64 [.sl 6 (l.map dPk), dI 0, dKey p] (.ret (.tup [dI (lb p.q l), dB (hit p.q l)]))
  | same (x y : Pk) : C224 66 [dPk x, dPk y] (.ret (dB (decide (x = y))))
  | run (s : Sm) (o : Op) : C224 25 [dSm s, dOp o] (.ret (.tup [dSm (doX s o), dI (doE s o)]))
theorem h224 : ∀ f ds out, C224 f ds out → PCall Tryd.prog f ds out := by
  intro f ds out h
  cases h with
  | chk f => exact check18 f
  | formed p => exact formed p
  | bs b last l p hl hlen => exact bsearch b last l p hl hlen
  | same x y => exact same18 x y
  | run s o => exact Do s o
theorem nilFd : LeD (.agg [.lit (.int .i64 0), .nil 6, .nil 5, .lit (.int .i64 0), .lit (.int .i64 0)]) (dFd fd0) := by
  refine LeD.agg (.cons (LeD.refl _) (.cons (LeD.nil' _ _) (.cons (LeD.nil' _ _) (.cons (LeD.refl _) (.cons (LeD.refl _) .nil))))) ?_
  simp [fd0]
theorem flat_pk : ∀ l : List Pk, (D.flat (l.map dPk)).length = l.length * 6
  | [] => rfl
  | x :: r => by
    have := flat_pk r
    simp only [D.flat, List.map_cons, List.flatMap_cons, List.length_append, dPk_cells, List.length_cons, List.length_nil] at this ⊢
    omega
theorem els_pk (l : List Pk) : elsD 6 l.length (D.flat (l.map dPk)) = l.map dPk := by
  have := chunkD_wr (z := 6) (l.map dPk) (fun e he => by
    obtain ⟨x, _, rfl⟩ := List.mem_map.1 he
    exact ⟨rfl, rfl⟩)
  rw [List.length_map] at this
  unfold elsD
  rw [if_neg (by decide)]
  exact this
theorem els_pk1 (y : Pk) (r : List Pk) : elsD 6 (r.length + 1) (D.flat (dPk y :: r.map dPk)) = dPk y :: r.map dPk := els_pk (y :: r)
theorem flat_pk1 (y : Pk) (r : List Pk) : (D.flat (dPk y :: r.map dPk)).length = (r.length + 1) * 6 := flat_pk (y :: r)
theorem els_one (a b c d e f : D) : elsD 6 1 (D.flat [D.agg [a, b, c, d, e, f]]) = [D.agg [a, b, c, d, e, f]] := rfl
theorem flat_one (a b c d e f : D) : (D.flat [D.agg [a, b, c, d, e, f]]).length = 6 := rfl
theorem one_pk (l : List Pk) : ∀ c ∈ wr (l.map dPk), c.one = true := wr_one fun c hc => by
  simp only [D.flat, List.mem_flatMap, List.mem_map] at hc
  obtain ⟨_, ⟨x, _, rfl⟩, hc⟩ := hc
  rw [dPk_cells] at hc
  simp at hc
  rcases hc with rfl | rfl | rfl | rfl | rfl | rfl <;> rfl
theorem putX (f : Fd) (p : Pk) (hb : eFd f = 0) : ((0 ≤ f.n ∧ f.n ≤ 1048577) ∧ (0 ≤ f.r ∧ f.r ≤ f.n) ∧ eSm f.m = 0 ∧ okWt f.n f.n f.w = true) := by
  unfold eFd at hb
  split at hb
  · assumption
  · omega
theorem put18 (f : Fd) (p : Pk) : PCall Tryd.prog 30 [dFd f, dPk p] (.ret (.tup [dFd (putF f p).1, dI (putF f p).2])) := by
  refine pcall_of_vc h224 c30 (by simp [a30]) fun hr => ?_
  have h1 := C224.chk f
  have h2 := C224.formed p
  simp [a30]
  by_cases q1 : ¬ eFd f = 0
  · have e : putF f p = (fd0, 180) := by unfold putF; rw [if_pos q1]
    rw [e]
    have q0 : eFd f = 180 := by unfold eFd at q1 ⊢; split <;> simp_all
    rw [q0] at h1
    refine vc_path [.ret (dI 180)] ?_
    simp
    exact ⟨h1, nilFd⟩
  have q1 : eFd f = 0 := by omega
  rw [q1] at h1
  refine vc_path [.ret (dI 0)] ?_
  simp
  refine ⟨h1, ?_⟩
  by_cases q2 : okPk p = false
  · have e : putF f p = (fd0, 1) := by unfold putF; rw [if_neg (by omega), if_pos q2]
    rw [e]
    rw [q2] at h2
    refine vc_path [.ret (dB false)] ?_
    simp
    exact ⟨h2, nilFd⟩
  have q2' : okPk p = true := by simpa using q2
  rw [q2'] at h2
  refine vc_path [.ret (dB true)] ?_
  simp
  refine ⟨h2, fun q3 => ?_, fun q3 => ?_⟩
  · have e : putF f p = (f, 0) := by unfold putF; rw [if_neg (by omega), if_neg q2, if_pos q3]
    rw [e]
    exact ⟨leD_of_eq rfl, LeD.refl _⟩
  obtain ⟨⟨n1, n2⟩, ⟨n3, n4⟩, n5, n6⟩ := putX f p q1
  have hlen := okWt_len f.n f.w f.n n6 (by omega)
  have hlen : f.w.length ≤ 64 := by omega
  have h3 := C224.bs f.n f.n f.w p n6 (by omega)
  have hle := lb_le p.q f.w
  have hd : ∀ h : lb p.q f.w < f.w.length, f.w.getD (lb p.q f.w) pk0 = f.w[lb p.q f.w] := fun h => by simp [List.getD, h]
  have hpq : p.q < 1152921504606846976 := by simp [okPk] at q2'; omega
  by_cases q4 : hit p.q f.w = true
  · rw [q4] at h3
    have hlt : lb p.q f.w < f.w.length := by simp [hit] at q4; exact q4.1
    have hd := hd hlt
    have h4 := C224.same f.w[lb p.q f.w] p
    have e : putF f p = if f.w[lb p.q f.w] = p then (f, 0) else (fd0, 181) := by unfold putF; rw [if_neg (by omega), if_neg q2, if_neg (by omega), if_pos q4, hd]
    generalize lb p.q f.w = at_ at *
    refine vc_path [.ret (.tup [dI at_, dB true])] ?_
    simp
    refine ⟨h3, ?_⟩
    by_cases q5 : f.w[at_] = p
    · rw [if_pos q5] at e
      rw [decide_eq_true q5] at h4
      rw [e]
      refine vc_pathD [.ret (dB true)] ?_
      simp [hlt]
      exact ⟨h4, rfl, leD_of_eq rfl⟩
    · rw [if_neg q5] at e
      rw [decide_eq_false q5] at h4
      rw [e]
      refine vc_pathD [.ret (dB false)] ?_
      simp [hlt]
      exact ⟨h4, rfl, nilFd⟩
  have q4 : hit p.q f.w = false := by simpa using q4
  rw [q4] at h3
  by_cases q6 : f.n + 64 < p.q
  · have e : putF f p = (fd0, 2) := by unfold putF; rw [if_neg (by omega), if_neg q2, if_neg (by omega), if_neg (by simp [q4]), if_pos q6]
    rw [e]
    generalize lb p.q f.w = at_ at *
    refine vc_path [.ret (.tup [dI at_, dB false])] ?_
    simp
    refine ⟨h3, ?_⟩
    refine vc_pathD [] ?_
    simp
    exact ⟨rfl, fun _ => nilFd, fun h => by rw [wrap64 (by omega)] at h; omega⟩
  have e : putF f p = (runF f (insP p f.w), 0) := by unfold putF; rw [if_neg (by omega), if_neg q2, if_neg (by omega), if_neg (by simp [q4]), if_neg q6]
  rw [e]
  have hi : insP p f.w = f.w.take (lb p.q f.w) ++ p :: f.w.drop (lb p.q f.w) := rfl
  generalize hV : runF f (insP p f.w) = V at *
  generalize insP p f.w = L at *
  generalize lb p.q f.w = at_ at *
  refine vc_path [.ret (.tup [dI at_, dB false])] ?_
  simp
  refine ⟨h3, ?_⟩
  refine vc_pathD [] ?_
  simp
  refine ⟨rfl, fun h => by rw [wrap64 (by omega)] at h; omega, fun _ => ?_⟩
  have hL : L.length ≤ 65 := by rw [hi]; simp; omega
  cases hw : f.w
  case' nil =>
    rw [hw] at hle
    have e0 : at_ = 0 := by simpa using hle
    subst e0
    simp [els_one, flat_one]
    refine ⟨rfl, regS_path [] ?_⟩
  case' cons y r =>
    have hl2 : r.length ≤ 63 := by rw [hw] at hlen; simp at hlen; omega
    have hle2 : at_ ≤ r.length + 1 := by rw [hw] at hle; simpa using hle
    simp [els_one, flat_one, els_pk1, flat_pk1]
    refine ⟨by omega, ⟨by omega, by omega, by omega⟩, rfl, regS_path [] ?_⟩
  all_goals
    simp
    refine icall_T (TF Tryd.prog a69) (hcall_of_vc c69) ?_
    simp [a69]
    refine vc_range (TF Tryd.prog a102) (hcall_of_vc c102) rfl (by rfl) (fun l => by rfl) (fun l => ?_)
    simp [a102]
    refine vc_loopK [0, 1] Fd (fun x => []) (fun x => [(0, .box true [.d (dI x.n), .d (.sl 6 (x.w.map dPk)), .d (.sl 5 (x.m.w.map dW)), .d (dI x.m.x), .d (dI x.r)])]) (fun x => x.w.length ≤ 65 ∧ 0 ≤ x.n ∧ x.n + x.w.length ≤ 2000000 ∧ 0 ≤ x.r ∧ x.r + x.w.length ≤ 2000000 ∧ runF x x.w = V) (fun x => x.w.length) ⟨f.n, L, f.m, f.r⟩ (by simp; exact ⟨by omega, by omega, by omega, by omega, by omega, by rw [← hV]; exact runF_w L f L⟩) ⟨[], [], ?_⟩ (fun x hx => ?_)
    · simp [hi, hw]
      exact ⟨⟨leD_of_eq rfl, one_pk [p]⟩, fun x hx => by omega⟩
    obtain ⟨hx1, hx2, hx3, hx4, hx5, hx6⟩ := hx
    simp
    cases hxw : x.w with
    | nil =>
      refine vc_pathD [] ?_
      simp
      rw [hxw] at hx6
      exact ⟨rfl, leD_of_eq (by rw [← hx6]; rfl)⟩
    | cons y r =>
      rw [hxw] at hx6 hx1 hx3 hx5
      simp only [List.length_cons] at hx1 hx3 hx5
      by_cases hy : y.q = x.n
      · have hx7 : runF (takeF x y.o) r = V := by rw [← hx6]; simp only [runF]; rw [if_pos hy]
        have hrun := C224.run x.m y.o
        have ht : takeF x y.o = ⟨x.n + 1, x.w, if doE x.m y.o = 0 then doX x.m y.o else x.m, if doE x.m y.o = 0 then x.r else x.r + 1⟩ := rfl
        rw [ht] at hx7
        generalize doE x.m y.o = de at *
        generalize doX x.m y.o = dx at *
        refine vc_pathD [] ?_
        simp [hy]
        refine ⟨rfl, by omega, rfl, regS_path [] ?_⟩
        simp
        refine vc_path [.ret (.tup [dSm dx, dI de])] ?_
        simp
        have hm : (r.map dPk).take r.length = r.map dPk := by rw [List.take_of_length_le (by simp)]
        refine ⟨hrun, fun hd => ⟨⟨x.n + 1, r, dx, x.r⟩, ⟨by show r.length ≤ 65; omega, by show 0 ≤ x.n + 1; omega, by show x.n + 1 + r.length ≤ 2000000; omega, by show 0 ≤ x.r; omega, by show x.r + r.length ≤ 2000000; omega, ?_⟩, by show r.length < r.length + 1; omega, [], [], ?_⟩, fun hd => ⟨⟨x.n + 1, r, x.m, x.r + 1⟩, ⟨by show r.length ≤ 65; omega, by show 0 ≤ x.n + 1; omega, by show x.n + 1 + r.length ≤ 2000000; omega, by show 0 ≤ x.r + 1; omega, by show x.r + 1 + r.length ≤ 2000000; omega, ?_⟩, by show r.length < r.length + 1; omega, [], [], ?_⟩⟩
        · rw [if_pos hd, if_pos hd] at hx7
          rw [← hx7]; exact (runF_w r ⟨x.n + 1, x.w, dx, x.r⟩ r)
        · rw [wrap64 (by omega), hm]
          simp
          exact ⟨one_pk [p], fun x hx => by omega⟩
        · rw [if_neg hd, if_neg hd] at hx7
          rw [← hx7]; exact (runF_w r ⟨x.n + 1, x.w, x.m, x.r + 1⟩ r)
        · rw [wrap64 (by omega), wrap64 (by omega), hm]
          simp
          exact ⟨one_pk [p], fun x hx => by omega⟩
      · refine vc_pathD [] ?_
        simp [hy]
        simp only [runF] at hx6
        rw [if_neg hy] at hx6
        exact ⟨rfl, leD_of_eq (by rw [← hx6]; rfl)⟩
end Go.Proofs.YteonapeaaepipaaDoor
end

section
namespace Go.Proofs.YteonapeaaepipaaDoor
open Go Go.Proofs.YteonapeaaepipaaDoor.AL
attribute [local simp] dT_agg dT_nt dT_noTup dT_cells dT_one bs_toList bs_size strV dW_cells dW_agg dW_noTup dSm_cells dSm_agg dSm_noTup dOp_cells dOp_agg dOp_noTup dWs_cells dWs_one dWs_agg dWs_noTup dWs_nt
attribute [local simp] dPk_cells dPk_agg dPk_noTup dPk_nt dFd_cells dFd_agg dFd_noTup dFd_nt
set_option maxRecDepth 8000
set_option maxHeartbeats 4000000
theorem sameInts (a b : List Int) : PCall Tryd.prog 39 [.sl 1 (a.map dI), .sl 1 (b.map dI)] (.ret (dB (decide (a = b)))) := by
  refine pcall_of_vc noC c39 (by simp [a39]) fun hr => ?_
  have hlen := (hr (.sl 1 (a.map dI)) (by simp)).sl.1
  simp at hlen
  simp [a39]
  refine ⟨fun hne => leD_of_eq ?_, fun hl => ?_⟩
  · have : a ≠ b := fun e => hne (by rw [e])
    simp [this]
  · refine vc_loopK [0, 1] Nat (fun k => [(5, true, .d (dI k))]) (fun k => []) (fun k => k ≤ a.length ∧ a.take k = b.take k) (fun k => a.length - k) 0 (by simp) ⟨[], [], ?_⟩ (fun k hk => ?_)
    · simp
    obtain ⟨h1, h2⟩ := hk
    simp
    refine ⟨fun hlt => ?_, fun hge => ?_⟩
    · have hlt2 : k < b.length := by omega
      simp [hlt, hlt2]
      refine ⟨rfl, fun he => leD_of_eq ?_, fun he => ⟨k + 1, ⟨by omega, take_eq h2 hlt hlt2 he⟩, by omega, [], [], ?_⟩⟩
      · simp [ne_of_at hlt hlt2 he]
      · rw [wrap64 (by omega)]
        simp
    · have hk : k = a.length := by omega
      subst hk
      have hl' : a.length = b.length := by omega
      rw [List.take_length, hl', List.take_length] at h2
      simp [h2]
theorem wd_eq2 (x y : Wd) : x = y ↔ x.t = y.t ∧ x.f = y.f ∧ x.u = y.u ∧ x.s = y.s ∧ x.a = y.a := by
  obtain ⟨⟩ := x
  obtain ⟨⟩ := y
  simp
theorem sameWs75 (a b : List Wd) : PCall Tryd.prog 75 [dWs a, dWs b] (.ret (dB (decide (a = b)))) := by
  refine pcall_of_vc noC c75 (by simp [a75]) fun hr => ?_
  have hlen := (hr (dWs a) (by simp)).sl.1
  simp at hlen
  simp [a75, dWs_eq]
  refine ⟨fun hne => leD_of_eq ?_, fun hl => ?_⟩
  · have : a ≠ b := fun e => hne (by rw [e])
    simp [this]
  · refine vc_loopK [0, 1] Nat (fun k => [(5, true, .d (dI k))]) (fun k => []) (fun k => k ≤ a.length ∧ a.take k = b.take k) (fun k => a.length - k) 0 (by simp) ⟨[], [], ?_⟩ (fun k hk => ?_)
    · simp
    obtain ⟨h1, h2⟩ := hk
    simp
    refine ⟨fun hlt => ?_, fun hge => ?_⟩
    · have hlt2 : k < b.length := by omega
      refine vc_pathD [] ?_
      simp [hlt, hlt2, dT_eq]
      have bad : a[k] ≠ b[k] → LeD (D.lit (Value.bool false)) (D.lit (Value.bool (decide (a = b)))) := fun h => leD_of_eq (by rw [decide_eq_false (ne_of_at hlt hlt2 h)])
      have bad2 : ¬ (a[k].t = b[k].t ∧ a[k].f = b[k].f ∧ a[k].u = b[k].u ∧ a[k].s = b[k].s ∧ a[k].a = b[k].a) → LeD (D.lit (Value.bool false)) (D.lit (Value.bool (decide (a = b)))) := fun h => bad (fun e => h ((wd_eq2 _ _).1 e))
      refine ⟨fun g1 => ⟨rfl, bad2 (fun h => g1 h.1)⟩, fun g1 => ⟨fun g2 => ⟨rfl, bad2 (fun h => g2 h.2.1)⟩, fun g2 => ⟨fun g3 => ⟨rfl, bad2 (fun h => g3 h.2.2.1)⟩, fun g3 => ⟨fun g4 => ⟨rfl, bad2 (fun h => g4 h.2.2.2.1)⟩, fun g4 => ⟨rfl, fun g5 => bad2 (fun h => g5 (by rw [h.2.2.2.2])), fun g5 => ?_⟩⟩⟩⟩⟩
      have g5 : a[k].a.length = b[k].a.length := by omega
      have hlen2 : a[k].a.length ≤ 9223372036854775807 := by
        have h0 := (hr (dWs a) (by simp)).sl
        have h3 := (h0.2.2 (.sl 1 (a[k].a.map dT)) (by
          rw [D.flat, List.mem_flatMap]
          exact ⟨dW a[k], List.mem_map.2 ⟨a[k], List.getElem_mem _, rfl⟩, by simp⟩)).2.sl.1
        simpa using h3
      refine vc_loopK [0, 1, 5] Nat (fun j => [(6, true, .d (dI j))]) (fun j => []) (fun j => j ≤ a[k].a.length ∧ a[k].a.take j = b[k].a.take j) (fun j => a[k].a.length - j) 0 (by simp) ⟨[], [], ?_⟩ (fun j hj => ?_)
      · simp
      obtain ⟨j1, j2⟩ := hj
      simp [hlt, hlt2]
      refine ⟨fun jlt => ?_, fun jge => ?_⟩
      · have jlt2 : j < b[k].a.length := by omega
        simp [hlt, hlt2, jlt, jlt2, dT_eq]
        refine ⟨rfl, fun he => bad2 (fun h => ne_of_at jlt jlt2 he h.2.2.2.2), fun he => ⟨j + 1, ⟨by omega, take_eq j2 jlt jlt2 he⟩, by omega, [], [], ?_⟩⟩
        rw [wrap64 (by omega)]
        simp
      · have hj : j = a[k].a.length := by omega
        subst hj
        rw [List.take_length, g5, List.take_length] at j2
        have heq : a[k] = b[k] := (wd_eq2 _ _).2 ⟨g1, g2, g3, g4, j2⟩
        refine ⟨k + 1, ⟨by omega, take_eq h2 hlt hlt2 heq⟩, by omega, [], [], ?_⟩
        rw [wrap64 (by omega)]
        simp
    · have hk : k = a.length := by omega
      subst hk
      have hl' : a.length = b.length := by omega
      rw [List.take_length, hl', List.take_length] at h2
      simp [h2]
theorem formed18 (p : Pk) : PCall Tryd.prog 70 [dPk p] (.ret (dB (okPk p))) := by
  refine pcall_of_vc noC c70 (by simp [a70]) fun hr => ?_
  simp [a70]
  refine vc_path [] ?_
  simp
  refine ⟨fun g1 => ⟨fun g2 => ⟨fun g3 => ⟨fun g4 => leD_of_eq ?_, fun g4 => leD_of_eq ?_⟩, fun g3 => leD_of_eq ?_⟩, fun g2 => leD_of_eq ?_⟩, fun g1 => leD_of_eq ?_⟩
  all_goals
    congr 2
    rw [Bool.eq_iff_iff]
    simp [okPk]
    try omega
inductive C225a : FuncId → List D → Out → Prop
  | ws (a b : List Wd) : C225a 75 [dWs a, dWs b] (.ret (dB (decide (a = b))))
theorem h225a : ∀ f ds out, C225a f ds out → PCall Tryd.prog f ds out := by
  intro f ds out h
  cases h with
  | ws a b => exact sameWs75 a b
theorem pk_eq18 (x y : Pk) : decide (x = y) = (decide (x.q = y.q) && (decide (x.s = y.s) && (decide (x.o.k = y.o.k) && (decide (x.o.a = y.o.a) && (decide (x.o.c = y.o.c) && decide (x.o.w = y.o.w)))))) := by
  obtain ⟨q, s, k, a, c, w⟩ := x
  obtain ⟨q', s', k', a', c', w'⟩ := y
  simp
theorem sm_eq18 (x y : Sm) : decide (x = y) = (decide (x.x = y.x) && decide (x.w = y.w)) := by
  obtain ⟨a, b⟩ := x
  obtain ⟨c, d⟩ := y
  simp [Bool.eq_iff_iff, and_comm]
theorem samePack (x y : Pk) : PCall Tryd.prog 71 [dPk x, dPk y] (.ret (dB (decide (x = y)))) := by
  refine pcall_of_vc h225a c71 (by simp [a71]) fun hr => ?_
  have hc := C225a.ws x.o.w y.o.w
  rw [dWs_eq, dWs_eq] at hc
  simp [a71]
  refine vc_path [.ret (dB (decide (x.o.w = y.o.w)))] ?_
  simp
  rw [pk_eq18]
  refine ⟨fun q1 => ⟨fun q2 => ⟨fun q3 => ⟨fun q4 => ⟨fun q5 => ⟨hc, leD_of_eq ?_⟩, fun q => leD_of_eq ?_⟩, fun q => leD_of_eq ?_⟩, fun q => leD_of_eq ?_⟩, fun q => leD_of_eq ?_⟩, fun q => leD_of_eq ?_⟩
  · simp [q1, q2, q3, q4, q5]
  all_goals simp [q]
theorem sameSm (x y : Sm) : PCall Tryd.prog 41 [dSm x, dSm y] (.ret (dB (decide (x = y)))) := by
  refine pcall_of_vc h225a c41 (by simp [a41]) fun hr => ?_
  have hc := C225a.ws x.w y.w
  rw [dWs_eq, dWs_eq] at hc
  simp [a41]
  refine vc_path [.ret (dB (decide (x.w = y.w)))] ?_
  simp
  rw [sm_eq18]
  exact ⟨fun q1 => ⟨hc, leD_of_eq (by simp [q1])⟩, fun q => leD_of_eq (by simp [q])⟩
end Go.Proofs.YteonapeaaepipaaDoor
end

section
namespace Go.Proofs.YteonapeaaepipaaDoor
open Go Go.Proofs.YteonapeaaepipaaDoor.AL
attribute [local simp] dT_agg dT_nt dT_noTup dT_cells dT_one bs_toList bs_size strV dW_cells dW_agg dW_noTup dSm_cells dSm_agg dSm_noTup dOp_cells dOp_agg dOp_noTup dWs_cells dWs_one dWs_agg dWs_noTup dWs_nt
attribute [local simp] dPk_cells dPk_agg dPk_noTup dPk_nt dFd_cells dFd_agg dFd_noTup dFd_nt
set_option maxRecDepth 8000
set_option maxHeartbeats 4000000
inductive C226a : FuncId → List D → Out → Prop
  | pk (a b : Pk) : C226a 71 [dPk a, dPk b] (.ret (dB (decide (a = b))))
  | sm (a b : Sm) : C226a 41 [dSm a, dSm b] (.ret (dB (decide (a = b))))
theorem h226a : ∀ f ds out, C226a f ds out → PCall Tryd.prog f ds out := by
  intro f ds out h
  cases h with
  | pk a b => exact samePack a b
  | sm a b => exact sameSm a b
theorem fd_eq2 (x y : Fd) : x = y ↔ x.n = y.n ∧ x.r = y.r ∧ x.m = y.m ∧ x.w = y.w := by
  obtain ⟨a, b, c, d⟩ := x
  obtain ⟨a', b', c', d'⟩ := y
  simp only [Fd.mk.injEq]
  exact ⟨fun ⟨a, b, c, d⟩ => ⟨a, d, c, b⟩, fun ⟨a, b, c, d⟩ => ⟨a, d, c, b⟩⟩
theorem sameF (x y : Fd) : PCall Tryd.prog 32 [dFd x, dFd y] (.ret (dB (decide (x = y)))) := by
  refine pcall_of_vc h226a c32 (by simp [a32]) fun hr => ?_
  have hc := C226a.sm x.m y.m
  have hlen : x.w.length ≤ 9223372036854775807 := by
    have := (hr (dFd x) (by simp)).agg (.sl 6 (x.w.map dPk)) (by simp)
    simpa using this.2.sl.1
  have bad : ¬ (x.n = y.n ∧ x.r = y.r ∧ x.m = y.m ∧ x.w = y.w) → LeD (D.lit (Value.bool false)) (D.lit (Value.bool (decide (x = y)))) := fun h => leD_of_eq (by rw [decide_eq_false (fun e => h ((fd_eq2 _ _).1 e))])
  simp [a32]
  refine vc_path [.ret (dB (decide (x.m = y.m)))] ?_
  simp
  refine ⟨fun q => bad (fun h => q h.1), fun q1 => ⟨fun q => bad (fun h => q h.2.1), fun q2 => ⟨fun q => bad (fun h => q (by rw [h.2.2.2])), fun q3 => ⟨hc, fun q => bad (fun h => q h.2.2.1), fun q4 => ?_⟩⟩⟩⟩
  have q3 : x.w.length = y.w.length := by omega
  refine vc_loopK [2, 3] Nat (fun k => [(5, true, .d (dI k))]) (fun k => []) (fun k => k ≤ x.w.length ∧ x.w.take k = y.w.take k) (fun k => x.w.length - k) 0 (by simp) ⟨[], [], ?_⟩ (fun k hk => ?_)
  · simp
  obtain ⟨h1, h2⟩ := hk
  simp
  refine ⟨fun hlt => ?_, fun hge => ?_⟩
  · have hlt2 : k < y.w.length := by omega
    refine vc_pathD [.ret (dB (decide (x.w[k] = y.w[k])))] ?_
    simp [hlt, hlt2]
    have hp := C226a.pk x.w[k] y.w[k]
    refine ⟨hp, rfl, fun he => bad (fun h => ne_of_at hlt hlt2 he h.2.2.2), fun he => ⟨k + 1, ⟨by omega, take_eq h2 hlt hlt2 he⟩, by omega, [], [], ?_⟩⟩
    rw [wrap64 (by omega)]
    simp
  · have hk : k = x.w.length := by omega
    subst hk
    rw [List.take_length, q3, List.take_length] at h2
    exact leD_of_eq (by rw [decide_eq_true ((fd_eq2 _ _).2 ⟨q1, q2, q4, h2⟩)])
theorem nilFd' : LeD (.agg [.lit (.int .i64 0), .nil 6, .nil 5, .lit (.int .i64 0), .lit (.int .i64 0)]) (dFd fd0) := by
  refine LeD.agg (.cons (LeD.refl _) (.cons (LeD.nil' _ _) (.cons (LeD.nil' _ _) (.cons (LeD.refl _) (.cons (LeD.refl _) .nil))))) ?_
  simp [fd0]
/-- Is a word small? -/
def fewX (x : Wd) : Bool := decide ((x.a.length : Int) ≤ 10) && decide ((x.t.length : Int) ≤ 200)
def fewN (n : Nat) : Bool := (decide ((n : Int) ≤ 80) || decide (4096 < (n : Int))) && decide ((n : Int) ≤ 5000)
def fewB (l : List Wd) : Bool := fewN l.length && (l.take 100).all fewX
theorem few62 (l : List Wd) : PCall Tryd.prog 62 [dWs l] (.ret (dB (fewB l))) := by
  refine pcall_of_vc noC c62 (by simp [a62]) fun hr => ?_
  have hlen := (hr (dWs l) (by simp)).sl.1
  simp at hlen
  have badN : fewN l.length = false → LeD (D.lit (Value.bool false)) (D.lit (Value.bool (fewB l))) := fun h => leD_of_eq (by rw [fewB, h]; rfl)
  simp [a62, dWs_eq]
  refine vc_path [] ?_
  simp
  refine ⟨fun q1 => ⟨fun q2 => badN (by simp [fewN]; omega), fun q2 => ⟨fun q3 => badN (by simp [fewN]; omega), fun q3 => ?_⟩⟩, fun q1 => ⟨fun q3 => badN (by simp [fewN]; omega), fun q3 => ?_⟩⟩
  case' refine_1 => have hn : fewN l.length = true := by simp [fewN]; omega
  case' refine_2 => have hn : fewN l.length = true := by simp [fewN]; omega
  all_goals
    have hB : fewB l = (l.take 100).all fewX := by rw [fewB, hn]; rfl
    refine vc_loopK [0] Nat (fun i => [(3, true, .d (dI i))]) (fun i => []) (fun i => i ≤ l.length ∧ i ≤ 100 ∧ ∀ j, (h : j < i) → (h2 : j < l.length) → fewX l[j] = true) (fun i => l.length - i) 0 (by simp) ⟨[], [], ?_⟩ (fun i hi => ?_)
    · simp
    obtain ⟨h1, h0, h2⟩ := hi
    have hend : (l.length ≤ i ∨ 100 ≤ i) → LeD (D.lit (Value.bool true)) (D.lit (Value.bool (fewB l))) := fun h => leD_of_eq (by
      have : (l.take 100).all fewX = true := by
        rw [List.all_eq_true]
        intro x hx
        obtain ⟨j, hj, rfl⟩ := List.getElem_of_mem hx
        simp at hj
        rw [List.getElem_take]
        exact h2 j (by omega) (by omega)
      rw [hB, this])
    have hbad : ∀ (hlt : i < l.length), i < 100 → fewX l[i] = false → LeD (.lit (.bool false)) (.lit (.bool (fewB l))) := fun hlt h110 h => by
      have : (l.take 100).all fewX = false := by
        rw [List.all_eq_false]
        exact ⟨l[i], by rw [List.mem_take_iff_getElem]; exact ⟨i, by omega, rfl⟩, by simp [h]⟩
      exact leD_of_eq (by rw [hB, this])
    simp
    refine vc_path [] ?_
    simp
    refine ⟨fun hlt => ⟨fun h110 => ?_, fun h110 => hend (.inr (by omega))⟩, fun hge => hend (.inl (by omega))⟩
    refine vc_path [] ?_
    simp [hlt, dT_eq]
    refine ⟨fun g => hbad hlt (by omega) (by simp [fewX]; intros; omega), fun g1 => ⟨fun g => hbad hlt (by omega) (by simp [fewX]; intros; omega), fun g2 => ⟨i + 1, ⟨by omega, by omega, fun j hj hj2 => ?_⟩, by omega, [], [], ?_⟩⟩⟩
    · by_cases e : j = i
      · subst e
        simp [fewX]; omega
      · exact h2 j (by omega) hj2
    · rw [wrap64 (by omega)]
      simp
inductive C226b : FuncId → List D → Out → Prop
  | ws (l : List Wd) : C226b 62 [dWs l] (.ret (dB (fewB l)))
theorem h226b : ∀ f ds out, C226b f ds out → PCall Tryd.prog f ds out := by
  intro f ds out h
  cases h with
  | ws l => exact few62 l
theorem fewPack (p : Pk) : PCall Tryd.prog 29 [dPk p] (.ret (dB (fewB p.o.w))) := by
  refine pcall_of_vc h226b c29 (by simp [a29]) fun hr => ?_
  have hc := C226b.ws p.o.w
  rw [dWs_eq] at hc
  generalize fewB p.o.w = b at *
  simp [a29]
  refine vc_path [.ret (dB b)] ?_
  simp
  exact hc
def fewF (f : Fd) : Bool := fewB f.m.w && (decide ((f.w.length : Int) ≤ 80) && f.w.all fun p => fewB p.o.w)
inductive C226c : FuncId → List D → Out → Prop
  | ws (l : List Wd) : C226c 62 [dWs l] (.ret (dB (fewB l)))
  | pk (p : Pk) : C226c 29 [dPk p] (.ret (dB (fewB p.o.w)))
theorem h226c : ∀ f ds out, C226c f ds out → PCall Tryd.prog f ds out := by
  intro f ds out h
  cases h with
  | ws l => exact few62 l
  | pk p => exact fewPack p
theorem few18 (f : Fd) : PCall Tryd.prog 28 [dFd f] (.ret (dB (fewF f))) := by
  refine pcall_of_vc h226c c28 (by simp [a28]) fun hr => ?_
  have hc := C226c.ws f.m.w
  rw [dWs_eq] at hc
  simp [a28]
  cases h1 : fewB f.m.w with
  | false =>
    rw [h1] at hc
    have e : fewF f = false := by rw [fewF, h1]; rfl
    rw [e]
    refine vc_path [.ret (dB false)] ?_
    simp
    exact hc
  | true =>
    rw [h1] at hc
    have e : fewF f = (decide ((f.w.length : Int) ≤ 80) && f.w.all fun p => fewB p.o.w) := by rw [fewF, h1]; rfl
    refine vc_path [.ret (dB true)] ?_
    simp
    refine ⟨hc, fun q => leD_of_eq (by rw [e]; rw [decide_eq_false (by omega)]; rfl), fun q => ?_⟩
    have e : fewF f = f.w.all fun p => fewB p.o.w := by rw [e, decide_eq_true (by omega)]; rfl
    refine vc_loopK [1] Nat (fun i => [(3, true, .d (dI i))]) (fun i => []) (fun i => i ≤ f.w.length ∧ ∀ j, (h : j < i) → (h2 : j < f.w.length) → fewB f.w[j].o.w = true) (fun i => f.w.length - i) 0 (by simp) ⟨[], [], ?_⟩ (fun i hi => ?_)
    · simp
    obtain ⟨h1, h2⟩ := hi
    simp
    refine ⟨fun hlt => ?_, fun hge => leD_of_eq ?_⟩
    · have hp := C226c.pk f.w[i]
      cases hb : fewB f.w[i].o.w with
      | false =>
        rw [hb] at hp
        have e2 : fewF f = false := by
          rw [e, List.all_eq_false]
          exact ⟨f.w[i], List.getElem_mem _, by simp [hb]⟩
        rw [e2]
        refine vc_path [.ret (dB false)] ?_
        simp [hlt]
        exact hp
      | true =>
        rw [hb] at hp
        refine vc_path [.ret (dB true)] ?_
        simp [hlt]
        refine ⟨hp, i + 1, ⟨by omega, fun j hj hj2 => ?_⟩, by omega, [], [], ?_⟩
        · by_cases e : j = i
          · subst e; exact hb
          · exact h2 j (by omega) hj2
        · rw [wrap64 (by omega)]
          simp
    · have : (f.w.all fun p => fewB p.o.w) = true := by
        rw [List.all_eq_true]
        intro x hx
        obtain ⟨j, hj, rfl⟩ := List.getElem_of_mem hx
        exact h2 j (by omega) hj
      rw [e, this]
theorem new18 : PCall Tryd.prog 33 [] (.ret (dFd fd0)) := by
  refine pcall_of_vc noC c33 (by simp [a33]) fun hr => ?_
  simp [a33]
  exact nilFd'
theorem rnew18 : PCall Tryd.prog 34 [] (.ret (dFd fd0)) := by
  refine pcall_of_vc noC c34 (by simp [a34]) fun hr => ?_
  simp [a34]
  exact nilFd'
end Go.Proofs.YteonapeaaepipaaDoor
end

section
namespace Go.Proofs.YteonapeaaepipaaDoor
open Go Go.Proofs.YteonapeaaepipaaDoor.AL
attribute [local simp] dT_agg dT_nt dT_noTup dT_cells dT_one bs_toList bs_size strV dW_cells dW_agg dW_noTup dSm_cells dSm_agg dSm_noTup dOp_cells dOp_agg dOp_noTup dWs_cells dWs_one dWs_agg dWs_noTup dWs_nt
attribute [local simp] dPk_cells dPk_agg dPk_noTup dPk_nt dFd_cells dFd_agg dFd_noTup dFd_nt
set_option maxRecDepth 8000
set_option maxHeartbeats 4000000
inductive C227 : FuncId → List D → Out → Prop
  | formed (p : Pk) : C227 70 [dPk p] (.ret (dB (okPk p)))
  | sck (s : Sm) : C227 45 [dSm s] (.ret (dI (eSm s)))
theorem h227 : ∀ f ds out, C227 f ds out → PCall Tryd.prog f ds out := by
  intro f ds out h
  cases h with
  | formed p => exact formed18 p
  | sck s => exact rcheck s
theorem rcheck18 (f : Fd) : PCall Tryd.prog 36 [dFd f] (.ret (dI (eFd f))) := by
  refine pcall_of_vc h227 c36 (by simp [a36]) fun hr => ?_
  simp [a36]
  by_cases q1 : ¬ (0 ≤ f.n)
  · have e : eFd f = 180 := by unfold eFd; rw [if_neg (by omega)]
    rw [e]
    refine vc_path [] ?_
    simp [show f.n < 0 by omega]
  by_cases q2 : ¬ (f.n ≤ 1048577)
  · have e : eFd f = 180 := by unfold eFd; rw [if_neg (by omega)]
    rw [e]
    refine vc_path [] ?_
    simp [show ¬ f.n < 0 by omega, show 1048577 < f.n by omega]
  by_cases q3 : ¬ (0 ≤ f.r)
  · have e : eFd f = 180 := by unfold eFd; rw [if_neg (by omega)]
    rw [e]
    refine vc_path [] ?_
    simp [show ¬ f.n < 0 by omega, show ¬ 1048577 < f.n by omega, show f.r < 0 by omega]
  by_cases q4 : ¬ (f.r ≤ f.n)
  · have e : eFd f = 180 := by unfold eFd; rw [if_neg (by omega)]
    rw [e]
    refine vc_path [] ?_
    simp [show ¬ f.n < 0 by omega, show ¬ 1048577 < f.n by omega, show ¬ f.r < 0 by omega, show f.n < f.r by omega]
  have hc := C227.sck f.m
  by_cases q5 : ¬ eSm f.m = 0
  · have e : eFd f = 180 := by unfold eFd; rw [if_neg (fun h => q5 h.2.2.1)]
    rw [e]
    generalize eSm f.m = em at *
    refine vc_path [.ret (dI em)] ?_
    simp [show ¬ f.n < 0 by omega, show ¬ 1048577 < f.n by omega, show ¬ f.r < 0 by omega, show ¬ f.n < f.r by omega, q5]
    exact hc
  have q5 : eSm f.m = 0 := by omega
  rw [q5] at hc
  have he : eFd f = if okWt f.n f.n f.w = true then 0 else 180 := by
    unfold eFd
    by_cases h : okWt f.n f.n f.w = true
    · rw [if_pos ⟨⟨by omega, by omega⟩, ⟨by omega, by omega⟩, q5, h⟩, if_pos h]
    · rw [if_neg (fun g => h g.2.2.2), if_neg h]
  have hbad : okWt f.n f.n f.w = false → LeD (D.lit (Value.int IntKind.i64 180)) (D.lit (Value.int IntKind.i64 (eFd f))) := fun h => leD_of_eq (by rw [he, h]; rfl)
  refine vc_path [.ret (dI 0)] ?_
  simp [show ¬ f.n < 0 by omega, show ¬ 1048577 < f.n by omega, show ¬ f.r < 0 by omega, show ¬ f.n < f.r by omega]
  refine ⟨hc, fun h => hbad ?_, fun hlen => ?_⟩
  · cases hw : okWt f.n f.n f.w with
    | false => rfl
    | true =>
      have := okWt_len f.n f.w f.n hw (by omega)
      omega
  refine vc_loopK [1] (Nat × Int) (fun y => [(3, true, .d (dI y.1))]) (fun y => []) (fun y => y.1 ≤ f.w.length ∧ (y.1 = 0 → y.2 = f.n) ∧ (∀ h : y.1 ≤ f.w.length, ∀ h2 : 0 < y.1, y.2 = (f.w[y.1 - 1]'(by omega)).q) ∧ f.n ≤ y.2 ∧ okWt f.n f.n f.w = okWt f.n y.2 (f.w.drop y.1)) (fun y => f.w.length - y.1) (0, f.n) (by simp) ⟨[], [], ?_⟩ (fun y hi => ?_)
  · simp
  obtain ⟨i, la⟩ := y
  obtain ⟨h1, h2, h3, h4, h5⟩ := hi
  simp only at h1 h2 h3 h4 h5
  simp
  refine ⟨fun hlt => ?_, fun hge => leD_of_eq (by rw [he, h5, okWt_end _ _ _ _ (by omega)]; rfl)⟩
  have hd := okWt_drop f.n la f.w i hlt
  have hf := C227.formed f.w[i]
  have hw : IntKind.i64.wrap (f.n + 64) = f.n + 64 := wrap64 (by omega)
  simp [hlt]
  generalize hk : okPk f.w[i] = ok at *
  cases ok
  · refine vc_pathD [.ret (dB false)] ?_
    simp [hlt]
    exact ⟨hf, rfl, hbad (by rw [h5, hd]; rfl)⟩
  by_cases g1 : f.w[i].q ≤ f.n
  · refine vc_pathD [.ret (dB true)] ?_
    simp [hlt, g1]
    exact ⟨hf, rfl, hbad (by rw [h5, hd, decide_eq_false (by omega)]; rfl)⟩
  by_cases g2 : f.n + 64 < f.w[i].q
  · refine vc_pathD [.ret (dB true)] ?_
    simp [hlt, g1, hw, g2]
    exact ⟨hf, rfl, hbad (by rw [h5, hd, decide_eq_false (p := f.w[i].q ≤ f.n + 64) (by omega)]; simp)⟩
  by_cases g3 : i = 0
  · subst g3
    refine vc_pathD [.ret (dB true)] ?_
    simp [hlt, g1, hw, g2]
    have e2 := h2 rfl
    subst e2
    refine ⟨hf, rfl, 1, ⟨by omega, f.w[0].q, ?_⟩, by omega, [], [], ?_⟩
    · refine ⟨fun h => absurd h (by decide), fun h h2 => rfl, by omega, ?_⟩
      rw [h5, hd, decide_eq_true (p := f.n < f.w[0].q) (by omega), decide_eq_true (p := f.w[0].q ≤ f.n + 64) (by omega)]
      rfl
    · rw [wrap64 (by omega)]
      simp
  · obtain ⟨m, rfl⟩ : ∃ m, i = m + 1 := ⟨i - 1, by omega⟩
    have e2 := h3 h1 (by omega)
    simp only [Nat.add_sub_cancel] at e2
    have hw2 : IntKind.i64.wrap (m : Int) = (m : Int) := wrap64 (by omega)
    have hm : m < f.w.length := by omega
    refine vc_pathD [.ret (dB true)] ?_
    simp [hlt, g1, hw, g2, hw2, hm]
    refine ⟨hf, rfl, fun g4 => hbad ?_, fun g4 => ⟨m + 1 + 1, ⟨by omega, f.w[m + 1].q, ?_⟩, by omega, [], [], ?_⟩⟩
    · rw [h5, hd, decide_eq_false (p := la < f.w[m + 1].q) (by omega)]
      rfl
    · refine ⟨fun h => absurd h (by omega), fun h h2 => rfl, by omega, ?_⟩
      rw [h5, hd, decide_eq_true (p := la < f.w[m + 1].q) (by omega), decide_eq_true (p := f.w[m + 1].q ≤ f.n + 64) (by omega)]
      rfl
    · rw [wrap64 (by omega)]
      simp
end Go.Proofs.YteonapeaaepipaaDoor
end

section
namespace Go.Proofs.YteonapeaaepipaaDoor
open Go Go.Proofs.YteonapeaaepipaaDoor.AL
attribute [local simp] dT_agg dT_nt dT_noTup dT_cells dT_one bs_toList bs_size strV dW_cells dW_agg dW_noTup dSm_cells dSm_agg dSm_noTup dOp_cells dOp_agg dOp_noTup dWs_cells dWs_one dWs_agg dWs_noTup dWs_nt
attribute [local simp] dPk_cells dPk_agg dPk_noTup dPk_nt dFd_cells dFd_agg dFd_noTup dFd_nt
set_option maxRecDepth 8000
set_option maxHeartbeats 4000000
inductive C228a : FuncId → List D → Out → Prop
  | run (s : Sm) (o : Op) : C228a 103 [dSm s, dOp o] (.ret (.tup [dSm (doX s o), dI (doE s o)]))
theorem h228a : ∀ f ds out, C228a f ds out → PCall Tryd.prog f ds out := by
  intro f ds out h
  cases h with
  | run s o => exact rDo s o
theorem rtake (f : Fd) (o : Op) (h1 : 0 ≤ f.n ∧ f.n ≤ 1000000000) (h2 : 0 ≤ f.r ∧ f.r ≤ 1000000000) : PCall Tryd.prog 72 [dFd f, dOp o] (.ret (dFd (takeF f o))) := by
  refine pcall_of_vc h228a c72 (by simp [a72]) fun hr => ?_
  have hrun := C228a.run f.m o
  have ht : takeF f o = ⟨f.n + 1, f.w, if doE f.m o = 0 then doX f.m o else f.m, if doE f.m o = 0 then f.r else f.r + 1⟩ := rfl
  rw [ht]
  generalize doE f.m o = de at *
  generalize doX f.m o = dx at *
  simp [a72]
  refine vc_path [.ret (.tup [dSm dx, dI de])] ?_
  simp
  refine ⟨hrun, fun q => ?_, fun q => ?_⟩
  · rw [wrap64 (by omega), if_pos q, if_pos q]
    exact leD_of_eq rfl
  · rw [wrap64 (by omega), wrap64 (by omega), if_neg q, if_neg q]
    exact leD_of_eq rfl
inductive C228 : FuncId → List D → Out → Prop
  | chk (f : Fd) : C228 36 [dFd f] (.ret (dI (eFd f)))
  | formed (p : Pk) : C228 70 [dPk p] (.ret (dB (okPk p)))
  | same (x y : Pk) : C228 71 [dPk x, dPk y] (.ret (dB (decide (x = y))))
  | tk (f : Fd) (o : Op) (h1 : 0 ≤ f.n ∧ f.n ≤ 1000000000) (h2 : 0 ≤ f.r ∧ f.r ≤ 1000000000) : C228 72 [dFd f, dOp o] (.ret (dFd (takeF f o)))
theorem h228 : ∀ f ds out, C228 f ds out → PCall Tryd.prog f ds out := by
  intro f ds out h
  cases h with
  | chk f => exact rcheck18 f
  | formed p => exact formed18 p
  | same x y => exact samePack x y
  | tk f o h1 h2 => exact rtake f o h1 h2
theorem rput18 (f : Fd) (p : Pk) : PCall Tryd.prog 31 [dFd f, dPk p] (.ret (.tup [dFd (putF f p).1, dI (putF f p).2])) := by
  refine pcall_of_vc h228 c31 (by simp [a31]) fun hr => ?_
  have h1 := C228.chk f
  have h2 := C228.formed p
  simp [a31]
  by_cases q1 : ¬ eFd f = 0
  · have e : putF f p = (fd0, 180) := by unfold putF; rw [if_pos q1]
    rw [e]
    have q0 : eFd f = 180 := by unfold eFd at q1 ⊢; split <;> simp_all
    rw [q0] at h1
    refine vc_path [.ret (dI 180)] ?_
    simp
    exact ⟨h1, nilFd⟩
  have q1 : eFd f = 0 := by omega
  rw [q1] at h1
  refine vc_path [.ret (dI 0)] ?_
  simp
  refine ⟨h1, ?_⟩
  by_cases q2 : okPk p = false
  · have e : putF f p = (fd0, 1) := by unfold putF; rw [if_neg (by omega), if_pos q2]
    rw [e]
    rw [q2] at h2
    refine vc_path [.ret (dB false)] ?_
    simp
    exact ⟨h2, nilFd⟩
  have q2' : okPk p = true := by simpa using q2
  rw [q2'] at h2
  refine vc_path [.ret (dB true)] ?_
  simp
  refine ⟨h2, fun q3 => ?_, fun q3 => ?_⟩
  · have e : putF f p = (f, 0) := by unfold putF; rw [if_neg (by omega), if_neg q2, if_pos q3]
    rw [e]
    exact ⟨leD_of_eq rfl, LeD.refl _⟩
  obtain ⟨⟨n1, n2⟩, ⟨n3, n4⟩, n5, n6⟩ := putX f p q1
  have hlen := okWt_len f.n f.w f.n n6 (by omega)
  have hlen : f.w.length ≤ 64 := by omega
  have hpq : p.q < 1152921504606846976 := by simp [okPk] at q2'; omega
  refine vc_loopK [2, 3, 4, 5] Nat (fun i => [(6, true, .d (dI i))]) (fun y => []) (fun i => i ≤ f.w.length ∧ (∀ j, (h : j < i) → (h2 : j < f.w.length) → f.w[j].q < p.q)) (fun y => f.w.length - y) 0 (by simp) ⟨[], [], ?_⟩ (fun i hi => ?_)
  · simp
  obtain ⟨i1, i2⟩ := hi
  have hlb : (∀ h : i < f.w.length, p.q ≤ f.w[i].q) → lb p.q f.w = i := fun h => lb_is p.q f.w i i1 i2 h
  simp
  have hwn : IntKind.i64.wrap (f.n + 64) = f.n + 64 := wrap64 (by omega)
  by_cases hlt : i < f.w.length
  case' pos =>
    by_cases hq : f.w[i].q < p.q
    · refine vc_pathD [] ?_
      simp [hlt, hq]
      refine ⟨rfl, i + 1, ⟨by omega, fun j hj hj2 => ?_⟩, by omega, [], [], ?_⟩
      · by_cases e : j = i
        · subst e; exact hq
        · exact i2 j (by omega) hj2
      · rw [wrap64 (by omega)]
        simp
    have hlb := hlb (fun h => by omega)
    have hd : f.w.getD i pk0 = f.w[i] := by simp [List.getD, hlt]
    refine vc_pathD [] ?_
    simp [hlt, hq]
    refine ⟨rfl, ?_⟩
    by_cases he : f.w[i].q = p.q
    · have hh : hit p.q f.w = true := by simp [hit, hlb, hlt, he, List.getD]
      have e : putF f p = if f.w[i] = p then (f, 0) else (fd0, 181) := by unfold putF; rw [if_neg (by omega), if_neg q2, if_neg (by omega), if_pos hh, hlb, hd]
      have h4 := C228.same f.w[i] p
      refine vc_pathD [] ?_
      simp [hlt, he]
      refine ⟨rfl, ?_⟩
      by_cases q5 : f.w[i] = p
      · rw [if_pos q5] at e
        rw [decide_eq_true q5] at h4
        rw [e]
        refine vc_pathD [.ret (dB true)] ?_
        simp [hlt]
        exact ⟨h4, rfl, leD_of_eq rfl⟩
      · rw [if_neg q5] at e
        rw [decide_eq_false q5] at h4
        rw [e]
        refine vc_pathD [.ret (dB false)] ?_
        simp [hlt]
        exact ⟨h4, rfl, nilFd⟩
    have hh : hit p.q f.w = false := by simp [hit, hlb, hlt, he, List.getD]
    have e : putF f p = if f.n + 64 < p.q then (fd0, 2) else (runF f (insP p f.w), 0) := by unfold putF; rw [if_neg (by omega), if_neg q2, if_neg (by omega), if_neg (by simp [hh])]
    refine vc_pathD [] ?_
    simp [hlt, he, hwn]
  case' neg =>
    have hlb := hlb (fun h => by omega)
    have hh : hit p.q f.w = false := by simp [hit, hlb, hlt]
    have e : putF f p = if f.n + 64 < p.q then (fd0, 2) else (runF f (insP p f.w), 0) := by unfold putF; rw [if_neg (by omega), if_neg q2, if_neg (by omega), if_neg (by simp [hh])]
    refine vc_pathD [] ?_
    simp [hlt]
    refine ⟨rfl, ?_⟩
    refine vc_pathD [] ?_
    simp [hlt, hwn]
  all_goals
    refine ⟨rfl, fun g => by rw [e, if_pos g]; exact ⟨nilFd, LeD.refl _⟩, fun g => ⟨by omega, ⟨by omega, by omega⟩, ⟨by omega, by omega⟩, by omega, ⟨by omega, by omega⟩, rfl, ?_⟩⟩
    rw [e, if_neg (by omega)]
    have hi : insP p f.w = f.w.take i ++ p :: f.w.drop i := by rw [insP, hlb]
    have hL : (insP p f.w).length ≤ 65 := by rw [hi]; simp; omega
    generalize hV : runF f (insP p f.w) = V at *
    generalize insP p f.w = L at *
    refine vc_loopK [2, 3, 4, 5] Fd (fun x => [(7, true, .d (.sl 6 (x.w.map dPk)))]) (fun x => [(0, .box true [.d (dI x.n), .d (.sl 6 (f.w.map dPk)), .d (.sl 5 (x.m.w.map dW)), .d (dI x.m.x), .d (dI x.r)])]) (fun x => x.w.length ≤ 65 ∧ 0 ≤ x.n ∧ x.n + x.w.length ≤ 2000000 ∧ 0 ≤ x.r ∧ x.r + x.w.length ≤ 2000000 ∧ runF x x.w = V) (fun x => x.w.length) ⟨f.n, L, f.m, f.r⟩ (by simp; exact ⟨by omega, by omega, by omega, by omega, by omega, by rw [← hV]; exact runF_w L f L⟩) ⟨[], [], ?_⟩ (fun x hx => ?_)
    · simp
      refine leD_of_eq ?_
      rw [hi]
      congr 1
      simp [List.map_take, List.map_drop]
      exact ⟨rfl, by rw [List.take_of_length_le (by simp)]⟩
    obtain ⟨hx1, hx2, hx3, hx4, hx5, hx6⟩ := hx
    simp
    cases hxw : x.w with
    | nil =>
      rw [hxw] at hx6
      refine vc_pathD [] ?_
      simp
      exact ⟨rfl, leD_of_eq (by rw [← hx6]; rfl)⟩
    | cons y r =>
      rw [hxw] at hx6 hx1 hx3 hx5
      simp only [List.length_cons] at hx1 hx3 hx5
      by_cases hy : y.q = x.n
      · have hx7 : runF (takeF x y.o) r = V := by rw [← hx6]; simp only [runF]; rw [if_pos hy]
        have hk := C228.tk ⟨x.n, f.w, x.m, x.r⟩ y.o ⟨by show 0 ≤ x.n; omega, by show x.n ≤ _; omega⟩ ⟨by show 0 ≤ x.r; omega, by show x.r ≤ _; omega⟩
        have t1 : takeF x y.o = ⟨(takeF ⟨x.n, f.w, x.m, x.r⟩ y.o).n, x.w, (takeF ⟨x.n, f.w, x.m, x.r⟩ y.o).m, (takeF ⟨x.n, f.w, x.m, x.r⟩ y.o).r⟩ := rfl
        have t2 : (takeF ⟨x.n, f.w, x.m, x.r⟩ y.o).w = f.w := rfl
        have t3 : (takeF ⟨x.n, f.w, x.m, x.r⟩ y.o).n = x.n + 1 := rfl
        have t4 : x.r ≤ (takeF ⟨x.n, f.w, x.m, x.r⟩ y.o).r ∧ (takeF ⟨x.n, f.w, x.m, x.r⟩ y.o).r ≤ x.r + 1 := by
          show x.r ≤ (if doE x.m y.o = 0 then x.r else x.r + 1) ∧ (if doE x.m y.o = 0 then x.r else x.r + 1) ≤ x.r + 1
          split <;> omega
        rw [t1] at hx7
        generalize takeF ⟨x.n, f.w, x.m, x.r⟩ y.o = T at *
        refine vc_pathD [] ?_
        simp [hy]
        refine ⟨rfl, ?_⟩
        refine vc_pathD [.ret (dFd T)] ?_
        simp
        refine ⟨hk, rfl, by omega, ⟨T.n, r, T.m, T.r⟩, ⟨by show r.length ≤ 65; omega, by show 0 ≤ T.n; omega, by show T.n + r.length ≤ 2000000; omega, by show 0 ≤ T.r; omega, by show T.r + r.length ≤ 2000000; omega, ?_⟩, by show r.length < r.length + 1; omega, [], [], ?_⟩
        · rw [← hx7]
          exact (runF_w r T r).trans (runF_w r T x.w).symm
        · simp [t2]
          exact leD_of_eq (by rw [List.take_of_length_le (by simp)])
      · simp only [runF] at hx6
        rw [if_neg hy] at hx6
        refine vc_pathD [] ?_
        simp [hy]
        exact ⟨rfl, leD_of_eq (by rw [← hx6]; rfl)⟩
end Go.Proofs.YteonapeaaepipaaDoor
end

section
namespace Go.Proofs.YteonapeaaepipaaDoor
open Go Go.Proofs.YteonapeaaepipaaDoor.AL
attribute [local simp] dT_agg dT_nt dT_noTup dT_cells dT_one bs_toList bs_size strV dW_cells dW_agg dW_noTup dSm_cells dSm_agg dSm_noTup dOp_cells dOp_agg dOp_noTup dWs_cells dWs_one dWs_agg dWs_noTup dWs_nt
attribute [local simp] dPk_cells dPk_agg dPk_noTup dPk_nt dFd_cells dFd_agg dFd_noTup dFd_nt
set_option maxRecDepth 8000
set_option maxHeartbeats 4000000
/-- Numbers from one on. -/
def upto (a : Int) : Nat → List Int
  | 0 => []
  | n + 1 => a :: upto (a + 1) n
theorem upto_snoc (a : Int) : ∀ n, upto a (n + 1) = upto a n ++ [a + n]
  | 0 => by simp [upto]
  | n + 1 => by
    have := upto_snoc (a + 1) n
    rw [upto, this]
    simp only [upto, List.cons_append]
    congr 3
    omega
theorem upto_len (a : Int) : ∀ n, (upto a n).length = n
  | 0 => rfl
  | n + 1 => by simp [upto, upto_len (a + 1) n]
/-- The numbers that are missing. -/
def missL : Int → List Pk → List Int
  | _, [] => []
  | n, p :: r => upto n (p.q - n).toNat ++ missL (p.q + 1) r
def missF (f : Fd) : List Int := if eFd f = 0 then missL f.n f.w else []
inductive C229 : FuncId → List D → Out → Prop
  | chk (f : Fd) : C229 35 [dFd f] (.ret (dI (eFd f)))
  | rchk (f : Fd) : C229 36 [dFd f] (.ret (dI (eFd f)))
theorem h229 : ∀ f ds out, C229 f ds out → PCall Tryd.prog f ds out := by
  intro f ds out h
  cases h with
  | chk f => exact check18 f
  | rchk f => exact rcheck18 f
theorem eFd_ok {f : Fd} (hb : eFd f = 0) : ((0 ≤ f.n ∧ f.n ≤ 1048577) ∧ (0 ≤ f.r ∧ f.r ≤ f.n) ∧ eSm f.m = 0 ∧ okWt f.n f.n f.w = true) := by
  unfold eFd at hb
  split at hb
  · assumption
  · omega
theorem missing (f : Fd) : PCall Tryd.prog 37 [dFd f] (.ret (.tup [.sl 1 ((missF f).map dI), dI (eFd f)])) := by
  refine pcall_of_vc h229 c37 (by simp [a37]) fun hr => ?_
  have h1 := C229.chk f
  simp [a37]
  by_cases q1 : ¬ eFd f = 0
  · have e : missF f = [] := by unfold missF; rw [if_neg q1]
    rw [e]
    generalize eFd f = v at *
    refine vc_path [.ret (dI v)] ?_
    simp [q1]
    exact h1
  have q1 : eFd f = 0 := by omega
  have e : missF f = missL f.n f.w := by unfold missF; rw [if_pos q1]
  obtain ⟨⟨n1, n2⟩, ⟨n3, n4⟩, n5, n6⟩ := eFd_ok q1
  have hlen := okWt_len f.n f.w f.n n6 (by omega)
  have hlen : f.w.length ≤ 64 := by omega
  rw [q1] at h1 ⊢
  rw [e]
  refine vc_path [.ret (dI 0)] ?_
  simp
  refine ⟨h1, ?_⟩
  refine vc_loopK [1, 3, 16, 17] (Nat × Int × List Int) (fun y => [(18, true, .d (dI y.1)), (5, true, .d (dI y.2.1)), (2, true, .own 1 1 (y.2.2.map dI))]) (fun y => [(1, .row)]) (fun y => y.1 ≤ f.w.length ∧ f.n ≤ y.2.1 ∧ y.2.1 ≤ f.n + 65 ∧ (y.2.2.length : Int) ≤ y.2.1 - f.n ∧ (∀ h : y.1 < f.w.length, y.2.1 ≤ f.w[y.1].q) ∧ y.2.2 ++ missL y.2.1 (f.w.drop y.1) = missL f.n f.w) (fun y => f.w.length - y.1) (0, f.n, []) ⟨by show 0 ≤ _; omega, by show f.n ≤ f.n; omega, by show f.n ≤ f.n + 65; omega, by show ((0 : Nat) : Int) ≤ f.n - f.n; omega, fun h => by have := okWt_at f.n f.w f.n n6 0 h; show f.n ≤ f.w[0].q; omega, rfl⟩ ⟨[], [(1, 1)], ?_⟩ (fun y hy => ?_)
  · simp
  obtain ⟨i, n, acc⟩ := y
  obtain ⟨i1, i2, i3, i4, i5, i6⟩ := hy
  simp only at i1 i2 i3 i4 i5 i6
  simp
  refine ⟨fun hlt => ?_, fun hge => ?_⟩
  · have hlt : i < f.w.length := by omega
    have hq := okWt_at f.n f.w f.n n6 i hlt
    have i5 := i5 hlt
    have hdr : missL n (f.w.drop i) = upto n (f.w[i].q - n).toNat ++ missL (f.w[i].q + 1) (f.w.drop (i + 1)) := by
      rw [List.drop_eq_getElem_cons hlt]
      rfl
    rw [hdr] at i6
    simp [hlt]
    refine vc_loopK [1, 3, 7, 16, 17, 18] Nat (fun k => [(5, true, .d (dI (n + k))), (2, true, .own 1 1 ((acc ++ upto n k).map dI))]) (fun k => [(1, .row)]) (fun k => k ≤ (f.w[i].q - n).toNat) (fun k => (f.w[i].q - n).toNat - k) 0 (by simp) ⟨[], [], ?_⟩ (fun k hk => ?_)
    · simp [upto]
    have hul := upto_len n k
    simp
    refine ⟨fun hk2 => ?_, fun hk2 => ?_⟩
    · refine ⟨⟨by omega, by omega⟩, k + 1, by omega, by omega, [(1, 4)], [], ?_⟩
      rw [wrap64 (by omega), upto_snoc]
      simp [Int.add_assoc]
    · have hk3 : k = (f.w[i].q - n).toNat := by omega
      have e1 : n + (k : Int) = f.w[i].q := by omega
      rw [← hk3] at i6
      refine ⟨i + 1, f.w[i].q + 1, acc ++ upto n k, ⟨by omega, by omega, by omega, by simp; omega, fun h => ?_, by rw [List.append_assoc]; exact i6⟩, by omega, [], [], ?_⟩
      · have := okWt_lt f.n f.w f.n n6 i (i + 1) (by omega) h
        omega
      · rw [e1, wrap64 (by omega), wrap64 (by omega)]
        simp
  · have hge : f.w.length ≤ i := by omega
    rw [List.drop_eq_nil_of_le hge, missL, List.append_nil] at i6
    exact leD_of_eq (by rw [i6])
theorem rmissing (f : Fd) : PCall Tryd.prog 38 [dFd f] (.ret (.tup [.sl 1 ((missF f).map dI), dI (eFd f)])) := by
  refine pcall_of_vc h229 c38 (by simp [a38]) fun hr => ?_
  have h1 := C229.rchk f
  simp [a38]
  by_cases q1 : ¬ eFd f = 0
  · have e : missF f = [] := by unfold missF; rw [if_neg q1]
    rw [e]
    have q0 : eFd f = 180 := by unfold eFd at q1 ⊢; split <;> simp_all
    generalize eFd f = v at *
    subst q0
    refine vc_path [.ret (dI 180)] ?_
    simp
    exact h1
  have q1 : eFd f = 0 := by omega
  have e : missF f = missL f.n f.w := by unfold missF; rw [if_pos q1]
  obtain ⟨⟨n1, n2⟩, ⟨n3, n4⟩, n5, n6⟩ := eFd_ok q1
  have hlen := okWt_len f.n f.w f.n n6 (by omega)
  have hlen : f.w.length ≤ 64 := by omega
  rw [q1] at h1 ⊢
  rw [e]
  refine vc_path [.ret (dI 0)] ?_
  simp
  refine ⟨h1, ?_⟩
  refine vc_loopK [1, 3] (Nat × Int × List Int) (fun y => [(6, true, .d (dI y.1)), (5, true, .d (dI y.2.1)), (4, true, .own 1 1 (y.2.2.map dI))]) (fun y => [(1, .row)]) (fun y => y.1 ≤ f.w.length ∧ f.n ≤ y.2.1 ∧ y.2.1 ≤ f.n + 65 ∧ (y.2.2.length : Int) ≤ y.2.1 - f.n ∧ (∀ h : y.1 < f.w.length, y.2.1 ≤ f.w[y.1].q) ∧ y.2.2 ++ missL y.2.1 (f.w.drop y.1) = missL f.n f.w) (fun y => f.w.length - y.1) (0, f.n, []) ⟨by show 0 ≤ _; omega, by show f.n ≤ f.n; omega, by show f.n ≤ f.n + 65; omega, by show ((0 : Nat) : Int) ≤ f.n - f.n; omega, fun h => by have := okWt_at f.n f.w f.n n6 0 h; show f.n ≤ f.w[0].q; omega, rfl⟩ ⟨[], [], ?_⟩ (fun y hy => ?_)
  · simp
  obtain ⟨i, n, acc⟩ := y
  obtain ⟨i1, i2, i3, i4, i5, i6⟩ := hy
  simp only at i1 i2 i3 i4 i5 i6
  simp
  refine ⟨fun hlt => ?_, fun hge => ?_⟩
  · have hlt : i < f.w.length := by omega
    have hq := okWt_at f.n f.w f.n n6 i hlt
    have i5 := i5 hlt
    have hdr : missL n (f.w.drop i) = upto n (f.w[i].q - n).toNat ++ missL (f.w[i].q + 1) (f.w.drop (i + 1)) := by
      rw [List.drop_eq_getElem_cons hlt]
      rfl
    rw [hdr] at i6
    simp [hlt]
    refine vc_loopK [1, 3, 6] Nat (fun k => [(5, true, .d (dI (n + k))), (4, true, .own 1 1 ((acc ++ upto n k).map dI))]) (fun k => [(1, .row)]) (fun k => k ≤ (f.w[i].q - n).toNat) (fun k => (f.w[i].q - n).toNat - k) 0 (by simp) ⟨[], [], ?_⟩ (fun k hk => ?_)
    · simp [upto]
    have hul := upto_len n k
    simp [hlt]
    refine ⟨fun hk2 => ?_, fun hk2 => ?_⟩
    · refine ⟨⟨by omega, by omega⟩, k + 1, by omega, by omega, [(1, 3)], [], ?_⟩
      rw [wrap64 (by omega), upto_snoc]
      simp [Int.add_assoc]
    · have hk3 : k = (f.w[i].q - n).toNat := by omega
      have e1 : n + (k : Int) = f.w[i].q := by omega
      rw [← hk3] at i6
      refine ⟨i + 1, f.w[i].q + 1, acc ++ upto n k, ⟨by omega, by omega, by omega, by simp; omega, fun h => ?_, by rw [List.append_assoc]; exact i6⟩, by omega, [], [], ?_⟩
      · have := okWt_lt f.n f.w f.n n6 i (i + 1) (by omega) h
        omega
      · rw [e1, wrap64 (by omega), wrap64 (by omega)]
        simp
  · have hge : f.w.length ≤ i := by omega
    rw [List.drop_eq_nil_of_le hge, missL, List.append_nil] at i6
    exact leD_of_eq (by rw [i6])
end Go.Proofs.YteonapeaaepipaaDoor
end

section
namespace Go.Proofs.YteonapeaaepipaaDoor
open Go Go.Proofs.YteonapeaaepipaaDoor.AL
attribute [local simp] dT_agg dT_nt dT_noTup dT_cells dT_one bs_toList bs_size strV dW_cells dW_agg dW_noTup dSm_cells dSm_agg dSm_noTup dOp_cells dOp_agg dOp_noTup dWs_cells dWs_one dWs_agg dWs_noTup dWs_nt
attribute [local simp] dPk_cells dPk_agg dPk_noTup dPk_nt dFd_cells dFd_agg dFd_noTup dFd_nt
set_option maxRecDepth 8000
set_option maxHeartbeats 4000000
def wdX (t : List UInt8) (k : Int) : Wd := ⟨t, k, k + 10, 0, []⟩
def pkX (q : Int) (t : List UInt8) (k : Int) : Pk := ⟨q, k, ⟨1, 0, 0, [wdX t k]⟩⟩
theorem wordX (t : List UInt8) (u : Int) (hu : 0 ≤ u ∧ u ≤ 1000) : PCall Tryd.prog 61 [dT t, dI u] (.ret (dW (wdX t u))) := by
  refine pcall_of_vc noC c61 (by simp [a61]) fun hr => ?_
  have hw : IntKind.i64.wrap (u + 10) = u + 10 := wrap64 (by omega)
  simp [a61, hw]
  refine LeD.agg (.cons (LeD.refl _) (.cons (LeD.refl _) (.cons (LeD.refl _) (.cons (LeD.refl _) (.cons (LeD.nil 1) .nil))))) (by simp)
inductive C230a : FuncId → List D → Out → Prop
  | mk (t : List UInt8) (u : Int) (hu : 0 ≤ u ∧ u ≤ 1000) : C230a 61 [dT t, dI u] (.ret (dW (wdX t u)))
theorem h230a : ∀ f ds out, C230a f ds out → PCall Tryd.prog f ds out := by
  intro f ds out h
  cases h with
  | mk t u hu => exact wordX t u hu
theorem packX (q : Int) (t : List UInt8) (u : Int) (hu : 0 ≤ u ∧ u ≤ 1000) : PCall Tryd.prog 60 [dI q, dT t, dI u] (.ret (dPk (pkX q t u))) := by
  refine pcall_of_vc h230a c60 (by simp [a60]) fun hr => ?_
  have hw := C230a.mk t u hu
  simp [a60]
  refine vc_path [.ret (dW (wdX t u))] ?_
  simp
  refine ⟨hw, ?_⟩
  simp [pkX, dPk]
  simp [dW]
/-- Ops as packets. -/
def pkN (i : Int) : List Op → List Pk
  | [] => []
  | o :: r => ⟨i, i, o⟩ :: pkN (i + 1) r
def okPks (l : List Op) : Bool := decide ((l.length : Int) ≤ 12) && (pkN 0 l).all fun p => fewB p.o.w && okPk p
theorem pkN_len (i : Int) : ∀ l : List Op, (pkN i l).length = l.length
  | [] => rfl
  | o :: r => by simp [pkN, pkN_len (i + 1) r]
theorem pkN_at (i : Int) : ∀ (l : List Op) (k : Nat) (h : k < l.length) (h2 : k < (pkN i l).length), (pkN i l)[k] = ⟨i + k, i + k, l[k]⟩
  | [], k, h, _ => by simp at h
  | o :: r, 0, h, h2 => by simp [pkN]
  | o :: r, k + 1, h, h2 => by
    have := pkN_at (i + 1) r k (by simpa using h) (by simpa [pkN] using h2)
    simp only [pkN, List.getElem_cons_succ]
    rw [this]
    congr 1 <;> (push_cast; omega)
inductive C230b : FuncId → List D → Out → Prop
  | few (p : Pk) : C230b 29 [dPk p] (.ret (dB (fewB p.o.w)))
  | formed (p : Pk) : C230b 70 [dPk p] (.ret (dB (okPk p)))
theorem h230b : ∀ f ds out, C230b f ds out → PCall Tryd.prog f ds out := by
  intro f ds out h
  cases h with
  | few p => exact fewPack p
  | formed p => exact formed18 p
def dOps (l : List Op) : D := .sl 4 (l.map dOp)
theorem packs (l : List Op) : PCall Tryd.prog 40 [.sl 4 (l.map dOp)] (.ret (.tup [.sl 6 ((if okPks l = true then pkN 0 l else []).map dPk), dB (okPks l)])) := by
  refine pcall_of_vc h230b c40 (by simp [a40]) fun hr => ?_
  simp [a40]
  have bad : okPks l = false → LeD (D.nil 6) (D.sl 6 ((if okPks l = true then pkN 0 l else []).map dPk)) ∧ LeD (D.lit (Value.bool false)) (D.lit (Value.bool (okPks l))) := fun h => by
    rw [h]; exact ⟨LeD.nil' _ _, LeD.refl _⟩
  refine ⟨fun h => bad (by simp [okPks]; intros; omega), fun h12 => ?_⟩
  have hN : okPks l = (pkN 0 l).all fun p => fewB p.o.w && okPk p := by rw [okPks, decide_eq_true h12]; rfl
  have hpl := pkN_len 0 l
  refine vc_loopK [3, 10, 11] Nat (fun i => [(12, true, .d (dI i)), (2, true, .own 0 6 (((pkN 0 l).take i).map dPk))]) (fun i => [(0, .row)]) (fun i => i ≤ l.length ∧ ∀ j, (h : j < i) → (h2 : j < (pkN 0 l).length) → (fewB (pkN 0 l)[j].o.w && okPk (pkN 0 l)[j]) = true) (fun i => l.length - i) 0 (by simp) ⟨[], [(0, 6)], ?_⟩ (fun i hi => ?_)
  · simp
  obtain ⟨i1, i2⟩ := hi
  simp
  refine ⟨fun hlt => ?_, fun hge => ?_⟩
  · have hlt2 : i < (pkN 0 l).length := by omega
    have hp := pkN_at 0 l i hlt hlt2
    have c1 := C230b.few ⟨i, i, l[i]⟩
    have c2 := C230b.formed ⟨i, i, l[i]⟩
    have hbad : (fewB l[i].w && okPk ⟨i, i, l[i]⟩) = false → okPks l = false := fun h => by
      rw [hN, List.all_eq_false]
      exact ⟨(pkN 0 l)[i], List.getElem_mem _, by rw [hp]; simp at h ⊢; exact h⟩
    simp [hlt]
    cases hb1 : fewB l[i].w with
    | false =>
      simp only [hb1] at c1
      refine vc_path [.ret (dB false)] ?_
      simp [hlt]
      exact ⟨c1, bad (hbad (by rw [hb1]; rfl))⟩
    | true =>
      simp only [hb1] at c1
      cases hb2 : okPk ⟨i, i, l[i]⟩ with
      | false =>
        rw [hb2] at c2
        refine vc_path [.ret (dB true), .ret (dB false)] ?_
        simp [hlt]
        exact ⟨c1, c2, bad (hbad (by rw [hb1, hb2]; rfl))⟩
      | true =>
        rw [hb2] at c2
        refine vc_path [.ret (dB true), .ret (dB true)] ?_
        simp [hlt]
        refine ⟨c1, c2, ⟨by omega, by omega⟩, i + 1, ⟨by omega, fun j hj hj2 => ?_⟩, by omega, [(0, 4)], [], ?_⟩
        · by_cases e : j = i
          · subst e
            rw [hp]
            simp
            exact ⟨hb1, hb2⟩
          · have := i2 j (by omega) hj2
            simpa using this
        · rw [wrap64 (by omega)]
          simp [List.take_add_one, hlt2, hp]
          rfl
  · have hge : l.length ≤ i := by omega
    have hi : (pkN 0 l).length ≤ i := by omega
    have ht : okPks l = true := by
      rw [hN, List.all_eq_true]
      intro x hx
      obtain ⟨j, hj, rfl⟩ := List.getElem_of_mem hx
      exact i2 j (by omega) hj
    rw [ht]
    exact ⟨leD_of_eq (by rw [List.take_of_length_le (by simp; omega)]; rfl), LeD.refl _⟩
end Go.Proofs.YteonapeaaepipaaDoor
end

section
namespace Go.Proofs.YteonapeaaepipaaDoor
open Go Go.Proofs.YteonapeaaepipaaDoor.AL
attribute [local simp] dT_agg dT_nt dT_noTup dT_cells dT_one bs_toList bs_size strV dW_cells dW_agg dW_noTup dSm_cells dSm_agg dSm_noTup dOp_cells dOp_agg dOp_noTup dWs_cells dWs_one dWs_agg dWs_noTup dWs_nt
attribute [local simp] dPk_cells dPk_agg dPk_noTup dPk_nt dFd_cells dFd_agg dFd_noTup dFd_nt
set_option maxRecDepth 20000
set_option maxHeartbeats 4000000
/-- The contracts that the laws use. -/
inductive C18a : FuncId → List D → Out → Prop
  | word (t : List UInt8) (u : Int) (hu : 0 ≤ u ∧ u ≤ 1000) : C18a 61 [dT t, dI u] (.ret (dW (wdX t u)))
  | pack (q : Int) (t : List UInt8) (u : Int) (hu : 0 ≤ u ∧ u ≤ 1000) : C18a 60 [dI q, dT t, dI u] (.ret (dPk (pkX q t u)))
  | new : C18a 33 [] (.ret (dFd fd0))
  | rnew : C18a 34 [] (.ret (dFd fd0))
  | put (f : Fd) (p : Pk) : C18a 30 [dFd f, dPk p] (.ret (.tup [dFd (putF f p).1, dI (putF f p).2]))
  | rput (f : Fd) (p : Pk) : C18a 31 [dFd f, dPk p] (.ret (.tup [dFd (putF f p).1, dI (putF f p).2]))
  | chk (f : Fd) : C18a 35 [dFd f] (.ret (dI (eFd f)))
  | rchk (f : Fd) : C18a 36 [dFd f] (.ret (dI (eFd f)))
  | mis (f : Fd) : C18a 37 [dFd f] (.ret (.tup [.sl 1 ((missF f).map dI), dI (eFd f)]))
  | rmis (f : Fd) : C18a 38 [dFd f] (.ret (.tup [.sl 1 ((missF f).map dI), dI (eFd f)]))
  | same (x y : Fd) : C18a 32 [dFd x, dFd y] (.ret (dB (decide (x = y))))
  | sm (x y : Sm) : C18a 41 [dSm x, dSm y] (.ret (dB (decide (x = y))))
  | ints (x y : List Int) : C18a 39 [.sl 1 (x.map dI), .sl 1 (y.map dI)] (.ret (dB (decide (x = y))))
  | few (f : Fd) : C18a 28 [dFd f] (.ret (dB (fewF f)))
  | fewP (p : Pk) : C18a 29 [dPk p] (.ret (dB (fewB p.o.w)))
  | packs (l : List Op) : C18a 40 [.sl 4 (l.map dOp)] (.ret (.tup [.sl 6 ((if okPks l = true then pkN 0 l else []).map dPk), dB (okPks l)]))
  | run (s : Sm) (o : Op) : C18a 25 [dSm s, dOp o] (.ret (.tup [dSm (doX s o), dI (doE s o)]))
inductive C18 : FuncId → List D → Out → Prop
  | mk {f : FuncId} {ds ds' : List D} {out : Out} (h : C18a f ds' out) (hl : All2 LeD ds ds') : C18 f ds out
theorem h18 : ∀ f ds out, C18 f ds out → PCall Tryd.prog f ds out := by
  intro f ds out h
  cases h with
  | mk h hl =>
    refine AL.PCall.le ?_ hl
    cases h with
    | word t u hu => exact wordX t u hu
    | pack q t u hu => exact packX q t u hu
    | new => exact new18
    | rnew => exact rnew18
    | put f p => exact put18 f p
    | rput f p => exact rput18 f p
    | chk f => exact check18 f
    | rchk f => exact rcheck18 f
    | mis f => exact missing f
    | rmis f => exact rmissing f
    | same x y => exact sameF x y
    | sm x y => exact sameSm x y
    | ints x y => exact sameInts x y
    | few f => exact few18 f
    | fewP p => exact fewPack p
    | packs l => exact packs l
    | run s o => exact Do s o
theorem C18.of {f : FuncId} {ds : List D} {out : Out} (h : C18a f ds out) : C18 f ds out := .mk h (all2_refl LeD.refl _)
theorem C18.put' {f : Fd} {p : Pk} {x : Fd} {e : Int} (h : putF f p = (x, e)) : C18 30 [dFd f, dPk p] (.ret (.tup [dFd x, dI e])) := by
  have := C18.of (.put f p); rw [h] at this; exact this
theorem C18.mis' {f : Fd} {l : List Int} {e : Int} (h1 : missF f = l) (h2 : eFd f = e) {ds : List D} (hl : All2 LeD ds [dFd f]) : C18 37 ds (.ret (.tup [.sl 1 (l.map dI), dI e])) := by
  have := C18.mk (.mis f) hl; rw [h1, h2] at this; exact this
theorem C18.chk' {f : Fd} {e : Int} (h : eFd f = e) : C18 35 [dFd f] (.ret (dI e)) := by
  have := C18.of (.chk f); rw [h] at this; exact this
theorem C18.sm' {x y : Sm} (h : x = y) {ds : List D} (hl : All2 LeD ds [dSm x, dSm y]) : C18 41 ds (.ret (dB true)) := by
  have := C18.mk (.sm x y) hl; rw [decide_eq_true h] at this; exact this
theorem C18.ints' {x y : List Int} (h : x = y) {ds : List D} (hl : All2 LeD ds [.sl 1 (x.map dI), .sl 1 (y.map dI)]) : C18 39 ds (.ret (dB true)) := by
  have := C18.mk (.ints x y) hl; rw [decide_eq_true h] at this; exact this
def two18 : Pk := pkX 1 [116, 119, 111] 20
def one18 : Pk := pkX 0 [111, 110, 101] 5
def thr18 : Pk := pkX 2 [116, 104, 114, 101, 101] 40
def fou18 : Pk := pkX 4 [102, 111, 117, 114] 60
def f18 : Fd := ⟨0, [two18], ⟨[], 0⟩, 0⟩
def g18 : Fd := ⟨2, [], ⟨[wdX [111, 110, 101] 5, wdX [116, 119, 111] 20], 0⟩, 0⟩
def d18 : Fd := ⟨0, [two18, thr18], ⟨[], 0⟩, 0⟩
def k18 : Fd := ⟨0, [two18, thr18, fou18], ⟨[], 0⟩, 0⟩
def n18 : Fd := ⟨-1, [], ⟨[], 0⟩, 0⟩
theorem sv1 : putF fd0 two18 = (f18, 0) := by decide
theorem sv2 : putF f18 one18 = (g18, 0) := by decide
theorem sv3 : putF fd0 (pkX 65 [102, 97, 114] 5) = (fd0, 2) := by decide
theorem sv4 : putF fd0 (pkX (-1) [111, 100, 100] 5) = (fd0, 1) := by decide
theorem sv5 : putF f18 (pkX 1 [116, 104, 114, 101, 101] 20) = (fd0, 181) := by decide
theorem sv6 : putF f18 thr18 = (d18, 0) := by decide
theorem sv7 : putF d18 fou18 = (k18, 0) := by decide
theorem sv8 : missF k18 = [0, 3] ∧ eFd k18 = 0 := by decide
theorem sv9 : missF fd0 = [] ∧ eFd fd0 = 0 := by decide
theorem sv10 : missF n18 = [] ∧ eFd n18 = 180 := by decide
end Go.Proofs.YteonapeaaepipaaDoor
end

section
namespace Go.Proofs.YteonapeaaepipaaDoor
open Go Go.Proofs.YteonapeaaepipaaDoor.AL
attribute [local simp] dT_agg dT_nt dT_noTup dT_cells dT_one bs_toList bs_size strV dW_cells dW_agg dW_noTup dSm_cells dSm_agg dSm_noTup dOp_cells dOp_agg dOp_noTup dWs_cells dWs_one dWs_agg dWs_noTup dWs_nt
attribute [local simp] dPk_cells dPk_agg dPk_noTup dPk_nt dFd_cells dFd_agg dFd_noTup dFd_nt
set_option maxRecDepth 20000
set_option maxHeartbeats 4000000
theorem dW_nt18 (x : Wd) (ds : List D) : (dW x = .tup ds) = False := by simp [dW]
attribute [local simp] dW_nt18
theorem sane18 : PCall Tryd.prog 27 [] (.ret (dB true)) := by
  refine pcall_of_vc h18 c27 (by simp [a27]) fun hr => ?_
  simp [a27]
  refine vc_path [.ret (dFd fd0), .ret (dPk two18), .ret (.tup [dFd f18, dI 0])] ?_
  simp
  refine ⟨.of .new, .of (.pack 1 [116, 119, 111] 20 (by omega)), .put' sv1, ?_⟩
  refine vc_pathD [.ret (dPk one18), .ret (.tup [dFd g18, dI 0])] ?_
  simp
  refine ⟨.of (.pack 0 [111, 110, 101] 5 (by omega)), .put' sv2, rfl, ?_⟩
  refine vc_path [.ret (dFd fd0), .ret (dPk (pkX 65 [102, 97, 114] 5)), .ret (.tup [dFd fd0, dI 2])] ?_
  simp
  refine ⟨.of .new, .of (.pack 65 [102, 97, 114] 5 (by omega)), .put' sv3, ?_⟩
  refine vc_path [.ret (dFd fd0), .ret (dPk (pkX (-1) [111, 100, 100] 5)), .ret (.tup [dFd fd0, dI 1])] ?_
  simp
  refine ⟨.of .new, .of (.pack (-1) [111, 100, 100] 5 (by omega)), .put' sv4, ?_⟩
  refine vc_pathD [.ret (dPk (pkX 1 [116, 104, 114, 101, 101] 20)), .ret (.tup [dFd fd0, dI 181])] ?_
  simp
  refine ⟨.of (.pack 1 [116, 104, 114, 101, 101] 20 (by omega)), .put' sv5, rfl, ?_⟩
  refine vc_pathD [.ret (dPk thr18), .ret (.tup [dFd d18, dI 0])] ?_
  simp
  refine ⟨.of (.pack 2 [116, 104, 114, 101, 101] 40 (by omega)), .put' sv6, rfl, ?_⟩
  refine vc_pathD [.ret (dPk fou18), .ret (.tup [dFd k18, dI 0])] ?_
  simp
  refine ⟨.of (.pack 4 [102, 111, 117, 114] 60 (by omega)), .put' sv7, rfl, ?_⟩
  refine vc_path [.ret (.tup [.sl 1 [dI 0, dI 3], dI 0])] ?_
  simp
  refine ⟨.mis' sv8.1 sv8.2 (all2_refl LeD.refl _), ?_⟩
  refine vc_path [.ret (dFd fd0), .ret (.tup [.sl 1 [], dI 0])] ?_
  simp
  refine ⟨.of .new, .mis' sv9.1 sv9.2 (all2_refl LeD.refl _), ?_⟩
  refine vc_path [.ret (.tup [.sl 1 [], dI 180])] ?_
  simp
  refine ⟨.mis' sv10.1 sv10.2 ?_, ?_⟩
  · refine .cons (LeD.agg (.cons (LeD.refl _) (.cons (LeD.nil' _ _) (.cons (LeD.nil' _ _) (.cons (LeD.refl _) (.cons (LeD.refl _) .nil))))) ?_) .nil
    simp [n18]
  refine vc_path [] ?_
  have e1 : f18.w.length = 1 := rfl
  have e2 : f18.n = 0 := rfl
  have e3 : g18.n = 2 := rfl
  have e4 : g18.r = 0 := rfl
  have e5 : g18.w.length = 0 := rfl
  simp [e1, e2]
  refine vc_path [.ret (dW (wdX [111, 110, 101] 5)), .ret (dW (wdX [116, 119, 111] 20))] ?_
  simp
  refine ⟨.of (.word [111, 110, 101] 5 (by omega)), .of (.word [116, 119, 111] 20 (by omega)), ?_⟩
  refine vc_path [.ret (dB true), .ret (dB true), .ret (dFd fd0), .ret (dI 0), .ret (dI 0)] ?_
  simp [e3, e4, e5]
  exact ⟨.sm' (x := g18.m) (y := g18.m) rfl (all2_refl LeD.refl _), .ints' (x := [0, 3]) (y := [0, 3]) rfl (all2_refl LeD.refl _), .of .new, .chk' sv9.2, .chk' sv8.2⟩
end Go.Proofs.YteonapeaaepipaaDoor
end

section
namespace Go.Proofs.YteonapeaaepipaaDoor
open Go Go.Proofs.YteonapeaaepipaaDoor.AL
attribute [local simp] dT_agg dT_nt dT_noTup dT_cells dT_one bs_toList bs_size strV dW_cells dW_agg dW_noTup dSm_cells dSm_agg dSm_noTup dOp_cells dOp_agg dOp_noTup dWs_cells dWs_one dWs_agg dWs_noTup dWs_nt
attribute [local simp] dPk_cells dPk_agg dPk_noTup dPk_nt dFd_cells dFd_agg dFd_noTup dFd_nt
set_option maxRecDepth 20000
set_option maxHeartbeats 4000000
inductive L18 : FuncId → List D → Out → Prop
  | sane : L18 27 [] (.ret (dB true))
  | mk {f : FuncId} {ds : List D} {out : Out} (h : C18 f ds out) : L18 f ds out
theorem L18.of {f : FuncId} {ds : List D} {out : Out} (h : C18a f ds out) : L18 f ds out := .mk (.of h)
theorem hL18 : ∀ f ds out, L18 f ds out → PCall Tryd.prog f ds out := by
  intro f ds out h
  cases h with
  | sane => exact sane18
  | mk h => exact h18 _ _ _ h
theorem specF (f : Fd) (p : Pk) : PCall Tryd.prog 8 [dFd f, dPk p] (.ret (dB true)) := by
  refine pcall_of_vc hL18 c8 (by simp [a8]) fun hr => ?_
  simp [a8]
  refine vc_path [.ret (dB true)] ?_
  simp
  refine ⟨.sane, ?_⟩
  have h1 := C18a.few f
  have h2 := C18a.fewP p
  have h3 := C18a.put f p
  have h4 := C18a.rput f p
  have h5 := C18a.chk f
  have h6 := C18a.rchk f
  generalize putF f p = xe at *
  obtain ⟨x, e⟩ := xe
  simp only at h3 h4
  have h7 := C18a.same x x
  rw [decide_eq_true rfl] at h7
  have h8 := C18a.same fd0 fd0
  rw [decide_eq_true rfl] at h8
  generalize eFd f = v at *
  cases hb1 : fewF f with
  | false =>
    rw [hb1] at h1
    refine vc_path [.ret (dB false)] ?_
    simp
    exact .of h1
  | true =>
    rw [hb1] at h1
    cases hb2 : fewB p.o.w with
    | false =>
      rw [hb2] at h2
      refine vc_path [.ret (dB true), .ret (dB false)] ?_
      simp
      exact ⟨.of h1, .of h2⟩
    | true =>
      rw [hb2] at h2
      refine vc_path [.ret (dB true), .ret (dB true)] ?_
      simp
      refine ⟨.of h1, .of h2, ?_⟩
      refine vc_path [.ret (.tup [dFd x, dI e])] ?_
      simp
      refine ⟨.of h3, ?_⟩
      refine vc_path [.ret (.tup [dFd x, dI e])] ?_
      simp
      refine ⟨.of h4, ?_⟩
      refine vc_pathD [.ret (dFd fd0), .ret (dFd fd0), .ret (dB true), .ret (dI v), .ret (dI v), .ret (dB true)] ?_
      simp
      exact ⟨.of .new, .of .rnew, .of h8, .of h5, .of h6, .of h7, rfl⟩
end Go.Proofs.YteonapeaaepipaaDoor
end
