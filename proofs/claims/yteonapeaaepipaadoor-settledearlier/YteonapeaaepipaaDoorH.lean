/- Part of the proof: S8, S9, S10, S23, S11, S12, S13, S14, S15, S16, S40, S41, S42, S43, S44, S45, S46, S47, S70, S71, S72, S73, S74, S75. -/
import Derived.Test.YteonapeaaepipaaDoorG
set_option linter.unnecessarySimpa false
set_option linter.unusedVariables false
set_option linter.unusedSimpArgs false
section
namespace Go.Proofs.YteonapeaaepipaaDoor
open Go Go.Proofs.YteonapeaaepipaaDoor.AL
attribute [local simp] dT_agg dT_nt dT_noTup dT_cells dT_one bs_toList bs_size strV dW_cells dW_agg dW_noTup dSm_cells dSm_agg dSm_noTup dOp_cells dOp_agg dOp_noTup dWs_cells dWs_one dWs_agg dWs_noTup dWs_nt
inductive CJo : FuncId → List D → Out → Prop
  | cat (ls : List (List Wd)) (hb : (cat ls ls.length).length ≤ 100000) : CJo 114 [.sl 1 (ls.map dWs)] (.ret (dWs (cat ls ls.length)))
theorem hJo : ∀ f ds out, CJo f ds out → PCall Tryd.prog f ds out := by
  intro f ds out h
  cases h with
  | cat ls hb => exact concat ls hb
theorem joined (ls : List (List Wd)) (hb : (cat ls ls.length).length ≤ 100000) : PCall Tryd.prog 90 [.sl 1 (ls.map dWs)] (.ret (dWs (cat ls ls.length))) := by
  refine pcall_of_vc hJo c90 (by simp [a90]) fun hr => ?_
  simp [a90]
  refine vc_path [.ret (dWs (cat ls ls.length))] ?_
  simp
  exact .cat ls hb
theorem take_eq {α : Type} {a b : List α} {k : Nat} (h : a.take k = b.take k) (h1 : k < a.length) (h2 : k < b.length) (he : a[k] = b[k]) : a.take (k + 1) = b.take (k + 1) := by
  rw [List.take_add_one, List.take_add_one, h, List.getElem?_eq_getElem h1, List.getElem?_eq_getElem h2, he]
theorem ne_of_at {α : Type} {a b : List α} {k : Nat} (h1 : k < a.length) (h2 : k < b.length) (he : a[k] ≠ b[k]) : a ≠ b := fun e => by subst e; exact he rfl
set_option maxRecDepth 8000 in
theorem eqT (a b : List (List UInt8)) : PCall Tryd.prog 99 [.sl 1 (a.map dT), .sl 1 (b.map dT)] (.ret (dB (decide (a = b)))) := by
  refine pcall_of_vc noC c99 (by simp [a99]) fun hr => ?_
  have hlen := (hr (.sl 1 (a.map dT)) (by simp)).sl.1
  simp at hlen
  simp [a99]
  refine ⟨fun hne => leD_of_eq ?_, fun hl => ?_⟩
  · have : a ≠ b := fun e => hne (by rw [e])
    simp [this]
  · refine vc_loopK [0, 1, 12] Nat (fun k => [(13, true, .d (dI k))]) (fun k => []) (fun k => k ≤ a.length ∧ a.take k = b.take k) (fun k => a.length - k) 0 (by simp) ⟨[], [], ?_⟩ (fun k hk => ?_)
    · simp
    obtain ⟨h1, h2⟩ := hk
    simp
    refine ⟨fun hlt => ?_, fun hge => ?_⟩
    · have hlt2 : k < b.length := by omega
      simp [hlt, hlt2, dT_eq]
      refine ⟨rfl, fun he => leD_of_eq ?_, fun he => ⟨k + 1, ⟨by omega, take_eq h2 hlt hlt2 he⟩, by omega, [], [], ?_⟩⟩
      · simp [ne_of_at hlt hlt2 he]
      · rw [wrap64 (by omega)]
        simp
    · have hk : k = a.length := by omega
      subst hk
      have hl' : a.length = b.length := by omega
      rw [List.take_length, hl', List.take_length] at h2
      simp [h2]
set_option maxRecDepth 8000 in
theorem reqT (a b : List (List UInt8)) : PCall Tryd.prog 146 [.sl 1 (a.map dT), .sl 1 (b.map dT)] (.ret (dB (decide (a = b)))) := by
  refine pcall_of_vc noC c146 (by simp [a146]) fun hr => ?_
  have hlen := (hr (.sl 1 (a.map dT)) (by simp)).sl.1
  simp at hlen
  simp [a146]
  refine ⟨fun hne => leD_of_eq ?_, fun hl => ?_⟩
  · have : a ≠ b := fun e => hne (by rw [e])
    simp [this]
  · refine vc_loopK [0, 1] Nat (fun k => [(5, true, .d (dI k))]) (fun k => []) (fun k => k ≤ a.length ∧ a.take k = b.take k) (fun k => a.length - k) 0 (by simp) ⟨[], [], ?_⟩ (fun k hk => ?_)
    · simp
    obtain ⟨h1, h2⟩ := hk
    simp
    refine ⟨fun hlt => ?_, fun hge => ?_⟩
    · have hlt2 : k < b.length := by omega
      simp [hlt, hlt2, dT_eq]
      refine ⟨rfl, fun he => leD_of_eq ?_, fun he => ⟨k + 1, ⟨by omega, take_eq h2 hlt hlt2 he⟩, by omega, [], [], ?_⟩⟩
      · simp [ne_of_at hlt hlt2 he]
      · rw [wrap64 (by omega)]
        simp
    · have hk : k = a.length := by omega
      subst hk
      have hl' : a.length = b.length := by omega
      rw [List.take_length, hl', List.take_length] at h2
      simp [h2]
inductive CSm : FuncId → List D → Out → Prop
  | eq (a b : List (List UInt8)) : CSm 99 [.sl 1 (a.map dT), .sl 1 (b.map dT)] (.ret (dB (decide (a = b))))
  | req (a b : List (List UInt8)) : CSm 146 [.sl 1 (a.map dT), .sl 1 (b.map dT)] (.ret (dB (decide (a = b))))
theorem hSm : ∀ f ds out, CSm f ds out → PCall Tryd.prog f ds out := by
  intro f ds out h
  cases h with
  | eq a b => exact eqT a b
  | req a b => exact reqT a b
theorem wd_eq (x y : Wd) : decide (x = y) = (decide (x.t = y.t) && (decide (x.f = y.f) && (decide (x.u = y.u) && (decide (x.s = y.s) && decide (x.a = y.a))))) := by
  cases x; cases y; simp
set_option maxRecDepth 8000 in
theorem same (x y : Wd) : PCall Tryd.prog 93 [dW x, dW y] (.ret (dB (decide (x = y)))) := by
  refine pcall_of_vc hSm c93 (by simp [a93]) fun hr => ?_
  simp [a93, dW]
  refine vc_path [.ret (dB (decide (x.a = y.a)))] ?_
  simp [dT_eq]
  rw [wd_eq]
  refine ⟨fun q1 => ⟨fun q2 => ⟨fun q3 => ⟨fun q4 => ⟨.eq x.a y.a, leD_of_eq (by simp [q1, q2, q3, q4])⟩, fun q4 => leD_of_eq (by simp [q4])⟩, fun q3 => leD_of_eq (by simp [q3])⟩, fun q2 => leD_of_eq (by simp [q2])⟩, fun q1 => leD_of_eq (by simp [q1])⟩
set_option maxRecDepth 8000 in
theorem rsame (x y : Wd) : PCall Tryd.prog 137 [dW x, dW y] (.ret (dB (decide (x = y)))) := by
  refine pcall_of_vc hSm c137 (by simp [a137]) fun hr => ?_
  simp [a137, dW]
  refine vc_path [.ret (dB (decide (x.a = y.a)))] ?_
  simp [dT_eq]
  rw [wd_eq]
  refine ⟨fun q1 => ⟨fun q2 => ⟨fun q3 => ⟨fun q4 => ⟨.req x.a y.a, leD_of_eq (by simp [q1, q2, q3, q4])⟩, fun q4 => leD_of_eq (by simp [q4])⟩, fun q3 => leD_of_eq (by simp [q3])⟩, fun q2 => leD_of_eq (by simp [q2])⟩, fun q1 => leD_of_eq (by simp [q1])⟩
inductive CSw : FuncId → List D → Out → Prop
  | same (x y : Wd) : CSw 93 [dW x, dW y] (.ret (dB (decide (x = y))))
  | rsame (x y : Wd) : CSw 137 [dW x, dW y] (.ret (dB (decide (x = y))))
theorem hSw : ∀ f ds out, CSw f ds out → PCall Tryd.prog f ds out := by
  intro f ds out h
  cases h with
  | same a b => exact AL.PCall.le (same a b) (all2_refl LeD.refl _)
  | rsame a b => exact rsame a b
set_option maxRecDepth 8000 in
theorem eqWs (a b : List Wd) : PCall Tryd.prog 92 [dWs a, dWs b, .fn (.func 93) [] []] (.ret (dB (decide (a = b)))) := by
  refine pcall_of_vc hSw c92 (by simp [a92]) fun hr => ?_
  have hlen := (hr (dWs a) (by simp)).sl.1
  simp at hlen
  simp [a92, dWs_eq]
  refine ⟨fun hne => leD_of_eq ?_, fun hl => ?_⟩
  · have : a ≠ b := fun e => hne (by rw [e])
    simp [this]
  · refine vc_loopK [0, 1, 2, 15, 16] Nat (fun k => [(17, true, .d (dI k))]) (fun k => []) (fun k => k ≤ a.length ∧ a.take k = b.take k) (fun k => a.length - k) 0 (by simp) ⟨[], [], ?_⟩ (fun k hk => ?_)
    · simp
    obtain ⟨h1, h2⟩ := hk
    simp
    refine ⟨fun hlt => ?_, fun hge => ?_⟩
    · have hlt2 : k < b.length := by omega
      simp [hlt, hlt2]
      refine vc_path [.ret (dB (decide (a[k] = b[k])))] ?_
      simp
      have hc := CSw.same a[k] b[k]
      refine ⟨hc, fun he => leD_of_eq ?_, fun he => ⟨k + 1, ⟨by omega, take_eq h2 hlt hlt2 he⟩, by omega, [], [], ?_⟩⟩
      · simp [ne_of_at hlt hlt2 he]
      · rw [wrap64 (by omega)]
        simp
    · have hk : k = a.length := by omega
      subst hk
      have hl' : a.length = b.length := by omega
      rw [List.take_length, hl', List.take_length] at h2
      simp [h2]
set_option maxRecDepth 8000 in
theorem reqWs (a b : List Wd) : PCall Tryd.prog 128 [dWs a, dWs b] (.ret (dB (decide (a = b)))) := by
  refine pcall_of_vc hSw c128 (by simp [a128]) fun hr => ?_
  have hlen := (hr (dWs a) (by simp)).sl.1
  simp at hlen
  simp [a128, dWs_eq]
  refine ⟨fun hne => leD_of_eq ?_, fun hl => ?_⟩
  · have : a ≠ b := fun e => hne (by rw [e])
    simp [this]
  · refine vc_loopK [0, 1] Nat (fun k => [(5, true, .d (dI k))]) (fun k => []) (fun k => k ≤ a.length ∧ a.take k = b.take k) (fun k => a.length - k) 0 (by simp) ⟨[], [], ?_⟩ (fun k hk => ?_)
    · simp
    obtain ⟨h1, h2⟩ := hk
    simp
    refine ⟨fun hlt => ?_, fun hge => ?_⟩
    · have hlt2 : k < b.length := by omega
      simp [hlt, hlt2]
      refine vc_pathD [.ret (dB (decide (a[k] = b[k])))] ?_
      simp [hlt, hlt2]
      have hc := CSw.rsame a[k] b[k]
      refine ⟨hc, rfl, fun he => leD_of_eq ?_, fun he => ⟨k + 1, ⟨by omega, take_eq h2 hlt hlt2 he⟩, by omega, [], [], ?_⟩⟩
      · simp [ne_of_at hlt hlt2 he]
      · rw [wrap64 (by omega)]
        simp
    · have hk : k = a.length := by omega
      subst hk
      have hl' : a.length = b.length := by omega
      rw [List.take_length, hl', List.take_length] at h2
      simp [h2]
end Go.Proofs.YteonapeaaepipaaDoor
end

section
namespace Go.Proofs.YteonapeaaepipaaDoor
open Go Go.Proofs.YteonapeaaepipaaDoor.AL
attribute [local simp] dT_agg dT_nt dT_noTup dT_cells dT_one bs_toList bs_size strV dW_cells dW_agg dW_noTup dSm_cells dSm_agg dSm_noTup dOp_cells dOp_agg dOp_noTup dWs_cells dWs_one dWs_agg dWs_noTup dWs_nt
def okAdd (o : Op) : Bool := decide (o.a = 0) && (decide (o.c = 0) && (decide (0 < o.w.length) && decide ((o.w.length : Int) ≤ 64)))
theorem k1 (s : Sm) (o : Op) : PCall Tryd.prog 88 [dSm s, dOp o] (.ret (dB (okAdd o))) := by
  refine pcall_of_vc noC c88 (by simp [a88]) fun hr => ?_
  simp [a88, dSm, dOp]
  refine vc_path [] ?_
  simp [okAdd]
  exact ⟨fun q1 => ⟨fun q2 => ⟨fun q3 => leD_of_eq (by simp [q1, q2, q3]), fun q3 => leD_of_eq (by simp [q3])⟩, fun q2 => leD_of_eq (by simp [q2])⟩, fun q1 => leD_of_eq (by simp [q1])⟩
theorem k6 (s : Sm) (o : Op) : PCall Tryd.prog 96 [dSm s, dOp o] (.ret (dSm { s with x := o.a })) := by
  refine pcall_of_vc noC c96 (by simp [a96]) fun hr => ?_
  simp [a96, dSm, dOp]
def okFix (s : Sm) (o : Op) : Bool := decide (s.x ≤ o.a) && (decide (o.a ≤ s.w.length) && (decide (o.c = 0) && decide (o.w = [])))
theorem k5 (s : Sm) (o : Op) : PCall Tryd.prog 95 [dSm s, dOp o] (.ret (dB (okFix s o))) := by
  refine pcall_of_vc noC c95 (by simp [a95]) fun hr => ?_
  simp [a95, dSm, dOp]
  refine vc_path [] ?_
  simp [okFix]
  refine ⟨fun q1 => ⟨fun q2 => ⟨fun q3 => leD_of_eq ?_, fun q3 => leD_of_eq (by simp [q3])⟩, fun q2 => leD_of_eq ?_⟩, fun q1 => leD_of_eq ?_⟩
  · cases hw : o.w <;> simp [q1, q2, q3]
    omega
  · simp [show ¬ o.a ≤ s.w.length by omega]
  · simp [show ¬ s.x ≤ o.a by omega]
inductive CKi : FuncId → List D → Out → Prop
  | join (ls : List (List Wd)) (hb : (cat ls ls.length).length ≤ 100000) : CKi 90 [.sl 1 (ls.map dWs)] (.ret (dWs (cat ls ls.length)))
  | eq (a b : List Wd) : CKi 92 [dWs a, dWs b, .fn (.func 93) [] []] (.ret (dB (decide (a = b))))
theorem hKi : ∀ f ds out, CKi f ds out → PCall Tryd.prog f ds out := by
  intro f ds out h
  cases h with
  | join ls hb => exact joined ls hb
  | eq a b => exact eqWs a b
theorem k2 (s : Sm) (o : Op) (hb : s.w.length + o.w.length ≤ 100000) : PCall Tryd.prog 89 [dSm s, dOp o] (.ret (dSm { s with w := s.w ++ o.w })) := by
  refine pcall_of_vc hKi c89 (by simp [a89]) fun hr => ?_
  simp [a89, dSm, dOp]
  have hc := CKi.join [s.w, o.w] (by simp [cat]; omega)
  refine vc_path [.ret (dWs (s.w ++ o.w))] ?_
  simp [cat] at hc ⊢
  exact ⟨hc, leD_of_eq (by simp [dWs])⟩
def okRev (s : Sm) (o : Op) : Bool := decide (s.x ≤ o.a) && (decide (o.a ≤ s.w.length) && (decide (1 ≤ o.c) && (decide (o.c ≤ 64) && (decide (o.a + o.c ≤ s.w.length) && (decide ((o.w.length : Int) ≤ 64) && !decide (o.w = (s.w.take (o.a + o.c).toNat).drop o.a.toNat))))))
set_option maxRecDepth 8000 in
theorem k3 (s : Sm) (o : Op) (hx : 0 ≤ s.x) : PCall Tryd.prog 91 [dSm s, dOp o] (.ret (dB (okRev s o))) := by
  refine pcall_of_vc hKi c91 (by simp [a91]) fun hr => ?_
  have hl1 := (hr (dSm s) (by simp)).agg (.sl 5 (s.w.map dW)) (by simp [dSm])
  have hlen := hl1.2.sl.1
  simp at hlen
  simp [a91, dSm, dOp]
  refine vc_path [] ?_
  simp
  refine ⟨fun q1 => leD_of_eq ?_, fun q1 => ⟨fun q2 => leD_of_eq ?_, fun q2 => ?_⟩⟩
  · simp [okRev, show ¬ s.x ≤ o.a by omega]
  · simp [okRev, show ¬ o.a ≤ s.w.length by omega]
  have hw1 : IntKind.i64.wrap ((s.w.length : Int) - o.a) = s.w.length - o.a := wrap64 (by omega)
  rw [hw1]
  refine ⟨fun q3 => leD_of_eq ?_, fun q3 => ⟨fun q4 => leD_of_eq ?_, fun q4 => ?_⟩⟩
  · simp [okRev, show ¬ 1 ≤ o.c by omega]
  · have : ¬ o.c ≤ 64 ∨ ¬ o.a + o.c ≤ s.w.length := by split at q4 <;> omega
    rcases this with h | h <;> simp [okRev, h]
  have q5 : o.c ≤ 64 ∧ o.a + o.c ≤ s.w.length := by split at q4 <;> omega
  refine ⟨fun q6 => leD_of_eq ?_, fun q6 => ?_⟩
  · simp [okRev, show ¬ (o.w.length : Int) ≤ 64 by omega]
  have hw : IntKind.i64.wrap (o.a + o.c) = o.a + o.c := wrap64 (by omega)
  have hc := CKi.eq o.w ((s.w.take (o.a + o.c).toNat).drop o.a.toNat)
  refine vc_pathD [.ret (dB (decide (o.w = (s.w.take (o.a + o.c).toNat).drop o.a.toNat)))] ?_
  simp [dWs] at hc
  simp [hw]
  refine ⟨⟨by omega, by omega, by omega⟩, hc, rfl, leD_of_eq ?_⟩
  simp [okRev, q1, q2, q3, q5, q6]
set_option maxRecDepth 8000 in
theorem k4 (s : Sm) (o : Op) (h0 : 0 ≤ o.a) (h1 : 0 ≤ o.c) (h2 : o.a + o.c ≤ s.w.length) (hb : s.w.length + o.w.length ≤ 100000) : PCall Tryd.prog 94 [dSm s, dOp o] (.ret (dSm { s with w := s.w.take o.a.toNat ++ (o.w ++ s.w.drop (o.a + o.c).toNat) })) := by
  refine pcall_of_vc hKi c94 (by simp [a94]) fun hr => ?_
  have hc := CKi.join [s.w.take o.a.toNat, o.w, s.w.drop (o.a + o.c).toNat] (by simp [cat]; omega)
  have hw : IntKind.i64.wrap (o.a + o.c) = o.a + o.c := wrap64 (by omega)
  simp [a94, dSm, dOp]
  refine vc_pathD [.ret (dWs (s.w.take o.a.toNat ++ (o.w ++ s.w.drop (o.a + o.c).toNat)))] ?_
  simp [cat, dWs] at hc
  have ht : List.take s.w.length (List.map dW s.w) = List.map dW s.w := by rw [← List.length_map (f := dW), List.take_length]
  simp [hw, ht]
  exact ⟨⟨h0, by omega⟩, ⟨by omega, h2⟩, by simpa [dWs] using hc, rfl, leD_of_eq (by simp [dWs])⟩
end Go.Proofs.YteonapeaaepipaaDoor
end

section
namespace Go.Proofs.YteonapeaaepipaaDoor
open Go Go.Proofs.YteonapeaaepipaaDoor.AL
attribute [local simp] dT_agg dT_nt dT_noTup dT_cells dT_one bs_toList bs_size strV dW_cells dW_agg dW_noTup dSm_cells dSm_agg dSm_noTup dOp_cells dOp_agg dOp_noTup dWs_cells dWs_one dWs_agg dWs_noTup dWs_nt
def fnD (n : Nat) : D := .fn (.func n) [] []
def kMap : List (Value × D) := [(.int .i64 1, .agg [fnD 88, fnD 89]), (.int .i64 2, .agg [fnD 91, fnD 94]), (.int .i64 3, .agg [fnD 95, fnD 96])]
theorem kinds : PCall Tryd.prog 58 [] (.retM kMap) := by
  refine pcall_of_vc noC c58 (by simp [a58]) fun hr => ?_
  simp [a58, kMap, fnD]
/-- Is an op right? -/
def okOp (s : Sm) (o : Op) : Bool := if o.k = 1 then okAdd o else if o.k = 2 then okRev s o else if o.k = 3 then okFix s o else false
def next (s : Sm) (o : Op) : Sm := if o.k = 1 then { s with w := s.w ++ o.w } else if o.k = 2 then { s with w := s.w.take o.a.toNat ++ (o.w ++ s.w.drop (o.a + o.c).toNat) } else { s with x := o.a }
def doE (s : Sm) (o : Op) : Int := if eSm s = 0 then (if okOp s o = true then eSm (next s o) else 170) else eSm s
def doX (s : Sm) (o : Op) : Sm := if doE s o = 0 then next s o else ⟨[], 0⟩
inductive CDo : FuncId → List D → Out → Prop
  | ck (m : Sm) : CDo 53 [dSm m] (oE (eSm m))
  | kinds : CDo 58 [] (.retM kMap)
  | need_t (n : Int) : CDo 59 [dB true, dI n] (.ret (.tup []))
  | need_f (n : Int) : CDo 59 [dB false, dI n] (.pan (tE n))
  | k1 (s : Sm) (o : Op) : CDo 88 [dSm s, dOp o] (.ret (dB (okAdd o)))
  | k2 (s : Sm) (o : Op) (hb : s.w.length + o.w.length ≤ 100000) : CDo 89 [dSm s, dOp o] (.ret (dSm { s with w := s.w ++ o.w }))
  | k3 (s : Sm) (o : Op) (hx : 0 ≤ s.x) : CDo 91 [dSm s, dOp o] (.ret (dB (okRev s o)))
  | k4 (s : Sm) (o : Op) (h0 : 0 ≤ o.a) (h1 : 0 ≤ o.c) (h2 : o.a + o.c ≤ s.w.length) (hb : s.w.length + o.w.length ≤ 100000) : CDo 94 [dSm s, dOp o] (.ret (dSm { s with w := s.w.take o.a.toNat ++ (o.w ++ s.w.drop (o.a + o.c).toNat) }))
  | k5 (s : Sm) (o : Op) : CDo 95 [dSm s, dOp o] (.ret (dB (okFix s o)))
  | k6 (s : Sm) (o : Op) : CDo 96 [dSm s, dOp o] (.ret (dSm { s with x := o.a }))
theorem hDo : ∀ f ds out, CDo f ds out → PCall Tryd.prog f ds out := by
  intro f ds out h
  cases h with
  | ck m => exact check m
  | kinds => exact kinds
  | need_t n => exact need_t n
  | need_f n => exact need_f n
  | k1 s o => exact k1 s o
  | k2 s o hb => exact k2 s o hb
  | k3 s o hx => exact k3 s o hx
  | k4 s o h0 h1 h2 hb => exact k4 s o h0 h1 h2 hb
  | k5 s o => exact k5 s o
  | k6 s o => exact k6 s o
theorem nilSm : LeD (.agg [.nil 5, .lit (.int .i64 0)]) (dSm ⟨[], 0⟩) := LeD.agg (.cons (LeD.nil 5) (.cons (LeD.refl _) .nil)) (by simp)
set_option maxRecDepth 8000 in
theorem Do (s : Sm) (o : Op) : PCall Tryd.prog 25 [dSm s, dOp o] (.ret (.tup [dSm (doX s o), dI (doE s o)])) := by
  refine pcall_of_vc hDo c25 (by simp [a25]) fun hr => ?_
  simp [a25]
  refine regS_path [] ?_
  simp
  refine regS_path [] ?_
  simp
  have hc := CDo.ck s
  by_cases q : eSm s = 0
  · refine vc_path [.ret (.tup [])] ?_
    simp [oE, q] at hc ⊢
    refine ⟨hc, ?_⟩
    have hs : s.w.length ≤ 4096 ∧ 0 ≤ s.x := by
      unfold eSm at q
      split at q
      · split at q
        · rename_i h1 h2; exact ⟨by omega, h2.1⟩
        · simp at q
      · simp at q
    have hR1 : o.k = 1 → CDo 88 [dSm s, dOp o] (.ret (dB (okOp s o))) := fun h => by have := CDo.k1 s o; simpa [okOp, h] using this
    have hR2 : o.k = 2 → CDo 91 [dSm s, dOp o] (.ret (dB (okOp s o))) := fun h => by have := CDo.k3 s o hs.2; simpa [okOp, h] using this
    have hR3 : o.k = 3 → CDo 95 [dSm s, dOp o] (.ret (dB (okOp s o))) := fun h => by have := CDo.k5 s o; simpa [okOp, h] using this
    have hN1 : o.k = 1 → okOp s o = true → CDo 89 [dSm s, dOp o] (.ret (dSm (next s o))) := fun h p => by
      have hl : o.w.length ≤ 64 := by simp [okOp, h, okAdd] at p; omega
      have := CDo.k2 s o (by omega); simpa [next, h] using this
    have hN2 : o.k = 2 → okOp s o = true → CDo 94 [dSm s, dOp o] (.ret (dSm (next s o))) := fun h p => by
      have hl : s.x ≤ o.a ∧ 1 ≤ o.c ∧ o.a + o.c ≤ s.w.length ∧ o.w.length ≤ 64 := by simp [okOp, h, okRev] at p; omega
      have := CDo.k4 s o (by omega) (by omega) hl.2.2.1 (by omega); simpa [next, h] using this
    have hN3 : o.k = 3 → okOp s o = true → CDo 96 [dSm s, dOp o] (.ret (dSm (next s o))) := fun h p => by
      have := CDo.k6 s o; simpa [next, h] using this
    have hfail : okOp s o = false → LeD (.agg [.nil 5, .lit (.int .i64 0)]) (dSm (doX s o)) ∧ doE s o = 170 := fun p => by
      have e1 : doE s o = 170 := by simp [doE, q, p]
      have e2 : doX s o = ⟨[], 0⟩ := by simp [doX, e1]
      rw [e2]; exact ⟨nilSm, e1⟩
    have hc2 := CDo.ck (next s o)
    have hk : (o.k = 1 ∧ ((o.k == 1) = true)) ∨ (o.k = 2 ∧ ((o.k == 1) = false) ∧ ((o.k == 2) = true)) ∨ (o.k = 3 ∧ ((o.k == 1) = false) ∧ ((o.k == 2) = false) ∧ ((o.k == 3) = true)) ∨ (okOp s o = false ∧ ((o.k == 1) = false) ∧ ((o.k == 2) = false) ∧ ((o.k == 3) = false)) := by
      by_cases k1 : o.k = 1
      · exact .inl ⟨k1, by simp [k1]⟩
      · by_cases k2 : o.k = 2
        · exact .inr (.inl ⟨k2, by simp [k2], by simp [k2]⟩)
        · by_cases k3 : o.k = 3
          · exact .inr (.inr (.inl ⟨k3, by simp [k3], by simp [k3], by simp [k3]⟩))
          · exact .inr (.inr (.inr ⟨by simp [okOp, k1, k2, k3], by simp [k1], by simp [k2], by simp [k3]⟩))
    rcases hk with ⟨k, e1⟩ | ⟨k, e1, e2⟩ | ⟨k, e1, e2, e3⟩ | ⟨k, e1, e2, e3⟩
    · have hR := hR1 k
      have hN := hN1 k
      refine vc_pathD [.retM kMap] ?_
      simp [e1, kMap, fnD]
      refine ⟨.kinds, rfl, ?_⟩
      by_cases p : okOp s o = true
      · rw [p] at hR
        refine vc_path [.ret (dB true), .ret (.tup [])] ?_
        simp
        refine ⟨hR, .need_t 170, vc_path [.ret (dSm (next s o))] ?_⟩
        simp
        refine ⟨hN p, ?_⟩
        by_cases q2 : eSm (next s o) = 0
        · have d1 : doE s o = 0 := by simp [doE, q, p, q2]
          have d2 : doX s o = next s o := by simp [doX, d1]
          rw [d1, d2]
          refine vc_path [.ret (.tup [])] ?_
          simp [oE, q2] at hc2 ⊢
          refine ⟨hc2, ?_⟩
          refine leave_fn (TR Tryd.prog a52) (dcall_of_vcR c52) ?_
          simp [a52]
          refine leave_fn (TD Tryd.prog a57) (dcall_of_vc c57) ?_
          simp [a57]
          exact LeD.refl _
        · have d1 : doE s o = eSm (next s o) := by simp [doE, q, p]
          have d2 : doX s o = ⟨[], 0⟩ := by simp [doX, d1, q2]
          rw [d1, d2]
          refine vc_path [.pan (tE (eSm (next s o)))] ?_
          simp [oE, q2] at hc2 ⊢
          refine ⟨hc2, ?_⟩
          refine leave_fn (TR Tryd.prog a52) (dcall_of_vcR c52) ?_
          simp [a52, tE]
          refine leave_fn (TD Tryd.prog a57) (dcall_of_vc c57) ?_
          simp [a57, q2]
          exact nilSm
      · have p : okOp s o = false := by simpa using p
        rw [p] at hR
        obtain ⟨g1, g2⟩ := hfail p
        refine vc_path [.ret (dB false), .pan (tE 170)] ?_
        simp
        refine ⟨hR, .need_f 170, ?_⟩
        refine leave_fn (TR Tryd.prog a52) (dcall_of_vcR c52) ?_
        simp [a52, tE]
        refine leave_fn (TD Tryd.prog a57) (dcall_of_vc c57) ?_
        simp [a57]
        exact ⟨g1, leD_of_eq (by rw [g2])⟩
    · have hR := hR2 k
      have hN := hN2 k
      refine vc_pathD [.retM kMap] ?_
      simp [e1, e2, kMap, fnD]
      refine ⟨.kinds, rfl, ?_⟩
      by_cases p : okOp s o = true
      · rw [p] at hR
        refine vc_path [.ret (dB true), .ret (.tup [])] ?_
        simp
        refine ⟨hR, .need_t 170, vc_path [.ret (dSm (next s o))] ?_⟩
        simp
        refine ⟨hN p, ?_⟩
        by_cases q2 : eSm (next s o) = 0
        · have d1 : doE s o = 0 := by simp [doE, q, p, q2]
          have d2 : doX s o = next s o := by simp [doX, d1]
          rw [d1, d2]
          refine vc_path [.ret (.tup [])] ?_
          simp [oE, q2] at hc2 ⊢
          refine ⟨hc2, ?_⟩
          refine leave_fn (TR Tryd.prog a52) (dcall_of_vcR c52) ?_
          simp [a52]
          refine leave_fn (TD Tryd.prog a57) (dcall_of_vc c57) ?_
          simp [a57]
          exact LeD.refl _
        · have d1 : doE s o = eSm (next s o) := by simp [doE, q, p]
          have d2 : doX s o = ⟨[], 0⟩ := by simp [doX, d1, q2]
          rw [d1, d2]
          refine vc_path [.pan (tE (eSm (next s o)))] ?_
          simp [oE, q2] at hc2 ⊢
          refine ⟨hc2, ?_⟩
          refine leave_fn (TR Tryd.prog a52) (dcall_of_vcR c52) ?_
          simp [a52, tE]
          refine leave_fn (TD Tryd.prog a57) (dcall_of_vc c57) ?_
          simp [a57, q2]
          exact nilSm
      · have p : okOp s o = false := by simpa using p
        rw [p] at hR
        obtain ⟨g1, g2⟩ := hfail p
        refine vc_path [.ret (dB false), .pan (tE 170)] ?_
        simp
        refine ⟨hR, .need_f 170, ?_⟩
        refine leave_fn (TR Tryd.prog a52) (dcall_of_vcR c52) ?_
        simp [a52, tE]
        refine leave_fn (TD Tryd.prog a57) (dcall_of_vc c57) ?_
        simp [a57]
        exact ⟨g1, leD_of_eq (by rw [g2])⟩
    · have hR := hR3 k
      have hN := hN3 k
      refine vc_pathD [.retM kMap] ?_
      simp [e1, e2, e3, kMap, fnD]
      refine ⟨.kinds, rfl, ?_⟩
      by_cases p : okOp s o = true
      · rw [p] at hR
        refine vc_path [.ret (dB true), .ret (.tup [])] ?_
        simp
        refine ⟨hR, .need_t 170, vc_path [.ret (dSm (next s o))] ?_⟩
        simp
        refine ⟨hN p, ?_⟩
        by_cases q2 : eSm (next s o) = 0
        · have d1 : doE s o = 0 := by simp [doE, q, p, q2]
          have d2 : doX s o = next s o := by simp [doX, d1]
          rw [d1, d2]
          refine vc_path [.ret (.tup [])] ?_
          simp [oE, q2] at hc2 ⊢
          refine ⟨hc2, ?_⟩
          refine leave_fn (TR Tryd.prog a52) (dcall_of_vcR c52) ?_
          simp [a52]
          refine leave_fn (TD Tryd.prog a57) (dcall_of_vc c57) ?_
          simp [a57]
          exact LeD.refl _
        · have d1 : doE s o = eSm (next s o) := by simp [doE, q, p]
          have d2 : doX s o = ⟨[], 0⟩ := by simp [doX, d1, q2]
          rw [d1, d2]
          refine vc_path [.pan (tE (eSm (next s o)))] ?_
          simp [oE, q2] at hc2 ⊢
          refine ⟨hc2, ?_⟩
          refine leave_fn (TR Tryd.prog a52) (dcall_of_vcR c52) ?_
          simp [a52, tE]
          refine leave_fn (TD Tryd.prog a57) (dcall_of_vc c57) ?_
          simp [a57, q2]
          exact nilSm
      · have p : okOp s o = false := by simpa using p
        rw [p] at hR
        obtain ⟨g1, g2⟩ := hfail p
        refine vc_path [.ret (dB false), .pan (tE 170)] ?_
        simp
        refine ⟨hR, .need_f 170, ?_⟩
        refine leave_fn (TR Tryd.prog a52) (dcall_of_vcR c52) ?_
        simp [a52, tE]
        refine leave_fn (TD Tryd.prog a57) (dcall_of_vc c57) ?_
        simp [a57]
        exact ⟨g1, leD_of_eq (by rw [g2])⟩
    · obtain ⟨g1, g2⟩ := hfail k
      refine vc_pathD [.retM kMap] ?_
      simp [e1, e2, e3, kMap, fnD]
      refine ⟨.kinds, rfl, ?_⟩
      refine vc_path [.ret (.tup []), .pan (tE 170)] ?_
      simp
      refine ⟨.need_f 170, ?_⟩
      refine leave_fn (TR Tryd.prog a52) (dcall_of_vcR c52) ?_
      simp [a52, tE]
      refine leave_fn (TD Tryd.prog a57) (dcall_of_vc c57) ?_
      simp [a57]
      exact ⟨g1, leD_of_eq (by rw [g2])⟩
  · have e1 : doE s o = eSm s := by simp [doE, q]
    have e2 : doX s o = ⟨[], 0⟩ := by simp [doX, e1, q]
    rw [e1, e2]
    refine vc_path [.pan (tE (eSm s))] ?_
    simp [oE, q] at hc ⊢
    refine ⟨hc, ?_⟩
    refine leave_fn (TR Tryd.prog a52) (dcall_of_vcR c52) ?_
    simp [a52, tE]
    refine leave_fn (TD Tryd.prog a57) (dcall_of_vc c57) ?_
    simp [a57, q]
    exact nilSm
end Go.Proofs.YteonapeaaepipaaDoor
end

section
namespace Go.Proofs.YteonapeaaepipaaDoor
open Go Go.Proofs.YteonapeaaepipaaDoor.AL
/-! Plain laws of streams and ops. -/
theorem eSm_ok {m : Sm} (h : eSm m = 0) : m.w.length ≤ 4096 ∧ 0 ≤ m.x ∧ m.x ≤ m.w.length ∧ okWs 0 m.w = true := by
  unfold eSm at h
  split at h
  · split at h
    · rename_i h1 h2
      split at h
      · rename_i h3; exact ⟨by omega, h2.1, h2.2, h3⟩
      · simp at h
    · simp at h
  · simp at h
theorem eSm_of {m : Sm} (h1 : m.w.length ≤ 4096) (h2 : 0 ≤ m.x) (h3 : m.x ≤ m.w.length) (h4 : okWs 0 m.w = true) : eSm m = 0 := by
  unfold eSm
  rw [if_pos (by omega), if_pos ⟨h2, h3⟩, if_pos h4]
theorem eSm_x {w : List Wd} {x y : Int} (hx : 0 ≤ x ∧ x ≤ w.length) (hy : 0 ≤ y ∧ y ≤ w.length) : eSm ⟨w, x⟩ = eSm ⟨w, y⟩ := by
  simp [eSm, hx, hy]
theorem doE_ok {s : Sm} {o : Op} (h : doE s o = 0) : eSm s = 0 ∧ okOp s o = true ∧ eSm (next s o) = 0 ∧ doX s o = next s o := by
  have h0 := h
  unfold doE at h
  split at h
  · rename_i h1
    split at h
    · rename_i h2
      exact ⟨h1, h2, h, by simp [doX, h0]⟩
    · simp at h
  · exact absurd h ‹_›
theorem doX_bad {s : Sm} {o : Op} (h : doE s o ≠ 0) : doX s o = ⟨[], 0⟩ := by simp [doX, h]
theorem doE_eq {s : Sm} {o : Op} (h1 : eSm s = 0) (h2 : okOp s o = true) : doE s o = eSm (next s o) := by simp [doE, h1, h2]
theorem okRev_ok {s : Sm} {o : Op} (h : okRev s o = true) : s.x ≤ o.a ∧ o.a ≤ s.w.length ∧ 1 ≤ o.c ∧ o.c ≤ 64 ∧ o.a + o.c ≤ s.w.length ∧ (o.w.length : Int) ≤ 64 ∧ o.w ≠ (s.w.take (o.a + o.c).toNat).drop o.a.toNat := by
  simp only [okRev, Bool.and_eq_true, decide_eq_true_eq, Bool.not_eq_true', decide_eq_false_iff_not] at h
  exact ⟨h.1, h.2.1, h.2.2.1, h.2.2.2.1, h.2.2.2.2.1, h.2.2.2.2.2.1, h.2.2.2.2.2.2⟩
theorem okRev_of {s : Sm} {o : Op} (h1 : s.x ≤ o.a) (h2 : o.a ≤ s.w.length) (h3 : 1 ≤ o.c) (h4 : o.c ≤ 64) (h5 : o.a + o.c ≤ s.w.length) (h6 : (o.w.length : Int) ≤ 64) (h7 : o.w ≠ (s.w.take (o.a + o.c).toNat).drop o.a.toNat) : okRev s o = true := by
  simp [okRev, h1, h2, h3, h4, h5, h6, h7]
theorem okFix_ok {s : Sm} {o : Op} (h : okFix s o = true) : s.x ≤ o.a ∧ o.a ≤ s.w.length ∧ o.c = 0 ∧ o.w = [] := by
  simp only [okFix, Bool.and_eq_true, decide_eq_true_eq] at h
  exact h
/-- What is fixed stays. -/
theorem fixed_step {s : Sm} {o : Op} (h : doE s o = 0) : eSm (doX s o) = 0 ∧ s.x ≤ (doX s o).x ∧ (doX s o).x ≤ (doX s o).w.length ∧ (doX s o).w.take s.x.toNat = s.w.take s.x.toNat := by
  obtain ⟨h1, h2, h3, h4⟩ := doE_ok h
  rw [h4]
  obtain ⟨_, g2, g3, _⟩ := eSm_ok h1
  refine ⟨h3, ?_, (eSm_ok h3).2.2.1, ?_⟩
  · unfold okOp at h2
    unfold next
    split
    · exact Int.le_refl _
    · rename_i k1
      split
      · exact Int.le_refl _
      · rename_i k2
        rw [if_neg k1, if_neg k2] at h2
        split at h2
        · exact (okFix_ok h2).1
        · cases h2
  · unfold okOp at h2
    unfold next
    split
    · simp only
      rw [List.take_append_of_le_length (by omega)]
    · rename_i k1
      split
      · rename_i k2
        rw [if_neg k1, if_pos k2] at h2
        obtain ⟨r1, r2, _⟩ := okRev_ok h2
        simp only
        rw [List.take_append_of_le_length (by simp; omega), List.take_take]
        congr 1; omega
      · rfl
/-- A revision is revised back. -/
theorem back_law {s : Sm} {o : Op} (h : doE s o = 0) (hk : o.k = 2) (hw : o.w ≠ []) :
    0 ≤ o.a ∧ 1 ≤ o.c ∧ o.a + o.c ≤ s.w.length ∧ doE (doX s o) ⟨2, o.a, o.w.length, (s.w.take (o.a + o.c).toNat).drop o.a.toNat⟩ = 0 ∧ doX (doX s o) ⟨2, o.a, o.w.length, (s.w.take (o.a + o.c).toNat).drop o.a.toNat⟩ = s := by
  obtain ⟨h1, h2, h3, h4⟩ := doE_ok h
  obtain ⟨_, g2, g3, _⟩ := eSm_ok h1
  have h2' : okRev s o = true := by simpa [okOp, hk] using h2
  obtain ⟨r1, r2, r3, r4, r5, r6, r7⟩ := okRev_ok h2'
  have hn : next s o = ⟨s.w.take o.a.toNat ++ (o.w ++ s.w.drop (o.a + o.c).toNat), s.x⟩ := by simp [next, hk]
  have hl : 1 ≤ o.w.length := by
    cases hh : o.w with
    | nil => exact absurd hh hw
    | cons => simp
  have ht : (s.w.take o.a.toNat).length = o.a.toNat := by simp; omega
  have e1 : ((s.w.take o.a.toNat ++ (o.w ++ s.w.drop (o.a + o.c).toNat)).take (o.a + o.w.length).toNat).drop o.a.toNat = o.w := by
    have : (o.a + o.w.length).toNat = o.a.toNat + o.w.length := by omega
    rw [this, List.take_append, ht, List.take_of_length_le (by omega), show o.a.toNat + o.w.length - o.a.toNat = o.w.length by omega, List.take_left, List.drop_append, ht]
    simp
  have e2 : (s.w.take o.a.toNat ++ (o.w ++ s.w.drop (o.a + o.c).toNat)).take o.a.toNat = s.w.take o.a.toNat := by
    rw [List.take_append, ht]; simp [List.take_take]
  have e3 : (s.w.take o.a.toNat ++ (o.w ++ s.w.drop (o.a + o.c).toNat)).drop (o.a + o.w.length).toNat = s.w.drop (o.a + o.c).toNat := by
    have : (o.a + o.w.length).toNat = o.a.toNat + o.w.length := by omega
    rw [this, List.drop_append, ht, show o.a.toNat + o.w.length - o.a.toNat = o.w.length by omega, List.drop_left, List.drop_eq_nil_of_le (by omega), List.nil_append]
  have e4 : s.w.take o.a.toNat ++ ((s.w.take (o.a + o.c).toNat).drop o.a.toNat ++ s.w.drop (o.a + o.c).toNat) = s.w := by
    have : s.w.take o.a.toNat = (s.w.take (o.a + o.c).toNat).take o.a.toNat := by
      rw [List.take_take]; congr 1; omega
    rw [this, ← List.append_assoc, List.take_append_drop, List.take_append_drop]
  have hlen : ((s.w.take o.a.toNat ++ (o.w ++ s.w.drop (o.a + o.c).toNat)).length : Int) = s.w.length - o.c + o.w.length := by simp; omega
  have hlr : (((s.w.take (o.a + o.c).toNat).drop o.a.toNat).length : Int) = o.c := by simp; omega
  have hok : okOp (next s o) ⟨2, o.a, o.w.length, (s.w.take (o.a + o.c).toNat).drop o.a.toNat⟩ = true := by
    rw [hn]
    simp only [okOp]
    rw [if_neg (by decide), if_pos trivial]
    refine okRev_of r1 ?_ ?_ r6 ?_ ?_ ?_
    · simp only [hlen]; omega
    · simp only; omega
    · simp only [hlen]; omega
    · simp only [hlr]; omega
    · simp only [e1]; exact fun e => r7 e.symm
  have hnn : next (next s o) ⟨2, o.a, o.w.length, (s.w.take (o.a + o.c).toNat).drop o.a.toNat⟩ = s := by
    rw [hn]
    simp only [next]
    rw [if_neg (by decide), if_pos trivial]
    simp only [e2, e3, e4]
  refine ⟨by omega, r3, r5, ?_⟩
  rw [h4]
  have hd : doE (next s o) ⟨2, o.a, o.w.length, (s.w.take (o.a + o.c).toNat).drop o.a.toNat⟩ = 0 := by
    rw [doE_eq h3 hok, hnn, h1]
  exact ⟨hd, by rw [(doE_ok hd).2.2.2, hnn]⟩
theorem okWs_append : ∀ (l : Int) (a b : List Wd), okWs l (a ++ b) = true → okWs l a = true
  | l, [], b, _ => rfl
  | l, x :: a, b, h => by
    simp only [List.cons_append, okWs, Bool.and_eq_true] at h ⊢
    exact ⟨h.1, h.2.1, okWs_append _ a b h.2.2⟩
/-- Words are added in two parts as they are added at once. -/
theorem adds_law {s : Sm} {l : List Wd} {k : Nat} (hs : s.w.length ≤ 100) (h1 : 1 ≤ k) (h2 : k < l.length) (h3 : l.length ≤ 64) :
    (doE s ⟨1, 0, 0, l.take k⟩ ≠ 0 → doE s ⟨1, 0, 0, l⟩ = doE s ⟨1, 0, 0, l.take k⟩) ∧
    (doE s ⟨1, 0, 0, l.take k⟩ = 0 → doE s ⟨1, 0, 0, l⟩ = doE (doX s ⟨1, 0, 0, l.take k⟩) ⟨1, 0, 0, l.drop k⟩ ∧ doX s ⟨1, 0, 0, l⟩ = doX (doX s ⟨1, 0, 0, l.take k⟩) ⟨1, 0, 0, l.drop k⟩) := by
  have ok : ∀ (s : Sm) (m : List Wd), 0 < m.length → m.length ≤ 64 → okOp s ⟨1, 0, 0, m⟩ = true := fun s m a b => by
    simp only [okOp, okAdd, if_true, Bool.and_eq_true, decide_eq_true_eq]
    exact ⟨trivial, trivial, a, by omega⟩
  have nx : ∀ (s : Sm) (m : List Wd), next s ⟨1, 0, 0, m⟩ = ⟨s.w ++ m, s.x⟩ := fun s m => by simp [next]
  have okl := ok s l (by omega) h3
  have okt := ok s (l.take k) (by simp; omega) (by simp; omega)
  by_cases q : eSm s = 0
  · obtain ⟨_, g2, g3, _⟩ := eSm_ok q
    rw [doE_eq q okl, doE_eq q okt, nx, nx]
    constructor
    · intro hb
      have hw : ¬ okWs 0 (s.w ++ l.take k) = true := fun hw => hb (eSm_of (by simp; omega) g2 (by simp; omega) hw)
      have hw2 : ¬ okWs 0 (s.w ++ l) = true := fun h => hw (okWs_append 0 _ (l.drop k) (by rw [List.append_assoc, List.take_append_drop]; exact h))
      unfold eSm
      simp only
      rw [if_pos (by simp; omega), if_pos (by simp; omega), if_neg hw2, if_pos (by simp; omega), if_pos (by simp; omega), if_neg hw]
    · intro hb
      have ht : doE s ⟨1, 0, 0, l.take k⟩ = 0 := by rw [doE_eq q okt, nx]; exact hb
      have hx : doX s ⟨1, 0, 0, l.take k⟩ = ⟨s.w ++ l.take k, s.x⟩ := by rw [(doE_ok ht).2.2.2, nx]
      have okd := ok ⟨s.w ++ l.take k, s.x⟩ (l.drop k) (by simp; omega) (by simp; omega)
      have e : next ⟨s.w ++ l.take k, s.x⟩ ⟨1, 0, 0, l.drop k⟩ = ⟨s.w ++ l, s.x⟩ := by
        rw [nx]; simp only [List.append_assoc, List.take_append_drop]
      rw [hx, doE_eq hb okd, e]
      refine ⟨rfl, ?_⟩
      unfold doX
      rw [doE_eq q okl, doE_eq hb okd, e, nx]
  · have e : ∀ m, doE s ⟨1, 0, 0, m⟩ = eSm s := fun m => by simp [doE, q]
    rw [e, e]
    exact ⟨fun _ => rfl, fun h => absurd h q⟩
/-- Revisions of different places. -/
theorem apart_law {s : Sm} {a b : Op} (ha : a.k = 2) (hb : b.k = 2) (h1 : 0 ≤ a.a) (h2 : 0 ≤ a.c) (h3 : a.a + a.c ≤ b.a) (e : doE s a = 0) (f : doE s b = 0) :
    doE (doX s a) ⟨2, b.a + (a.w.length - a.c), b.c, b.w⟩ = doE (doX s b) a ∧ doX (doX s a) ⟨2, b.a + (a.w.length - a.c), b.c, b.w⟩ = doX (doX s b) a := by
  obtain ⟨p1, p2, p3, p4⟩ := doE_ok e
  obtain ⟨_, q2, q3, q4⟩ := doE_ok f
  obtain ⟨_, g2, g3, _⟩ := eSm_ok p1
  have p2' : okRev s a = true := by simpa [okOp, ha] using p2
  have q2' : okRev s b = true := by simpa [okOp, hb] using q2
  obtain ⟨a1, a2, a3, a4, a5, a6, a7⟩ := okRev_ok p2'
  obtain ⟨b1, b2, b3, b4, b5, b6, b7⟩ := okRev_ok q2'
  have hna : next s a = ⟨s.w.take a.a.toNat ++ (a.w ++ s.w.drop (a.a + a.c).toNat), s.x⟩ := by simp [next, ha]
  have hnb : next s b = ⟨s.w.take b.a.toNat ++ (b.w ++ s.w.drop (b.a + b.c).toNat), s.x⟩ := by simp [next, hb]
  rw [p4, q4]
  -- the five parts of the words
  obtain ⟨i, hi⟩ : ∃ i : Nat, a.a = i := ⟨a.a.toNat, by omega⟩
  obtain ⟨c, hc⟩ : ∃ i : Nat, a.c = i := ⟨a.c.toNat, by omega⟩
  obtain ⟨j, hj⟩ : ∃ i : Nat, b.a = i := ⟨b.a.toNat, by omega⟩
  obtain ⟨d, hd⟩ : ∃ i : Nat, b.c = i := ⟨b.c.toNat, by omega⟩
  obtain ⟨w, x⟩ := s
  obtain ⟨ak, aa, ac, aw⟩ := a
  obtain ⟨bk, ba, bc, bw⟩ := b
  simp only at ha hb hi hc hj hd
  subst ha; subst hb; subst hi; subst hc; subst hj; subst hd
  simp only at *
  have hsplit : ∃ P A M B S, w = P ++ (A ++ (M ++ (B ++ S))) ∧ P.length = i ∧ A.length = c ∧ M.length = j - (i + c) ∧ B.length = d := by
    refine ⟨w.take i, (w.drop i).take c, (w.drop (i + c)).take (j - (i + c)), (w.drop j).take d, w.drop (j + d), ?_, by simp; omega, by simp; omega, by simp; omega, by simp; omega⟩
    have e1 : (w.drop j).take d ++ w.drop (j + d) = w.drop j := by rw [← List.drop_drop, List.take_append_drop]
    have e2 : (w.drop (i + c)).take (j - (i + c)) ++ w.drop j = w.drop (i + c) := by
      have : w.drop j = (w.drop (i + c)).drop (j - (i + c)) := by rw [List.drop_drop]; congr 1; omega
      rw [this, List.take_append_drop]
    have e3 : (w.drop i).take c ++ w.drop (i + c) = w.drop i := by rw [← List.drop_drop, List.take_append_drop]
    rw [e1, e2, e3, List.take_append_drop]
  obtain ⟨P, A, M, B, S, rfl, hP, hA, hM, hB⟩ := hsplit
  have t1 : ((i : Int) + (c : Int)).toNat = i + c := by omega
  have t2 : ((j : Int) + (d : Int)).toNat = j + d := by omega
  have t0 : (i : Int).toNat = i := by omega
  have t3 : (j : Int).toNat = j := by omega
  rw [t0, t1] at hna a7
  rw [t3, t2] at hnb b7
  have tk : ∀ (n : Nat) (X Y : List Wd), X.length = n → (X ++ Y).take n = X := fun n X Y h => by rw [← h]; exact List.take_left ..
  have dp : ∀ (n : Nat) (X Y : List Wd), X.length = n → (X ++ Y).drop n = Y := fun n X Y h => by rw [← h]; exact List.drop_left ..
  have na : next ⟨P ++ (A ++ (M ++ (B ++ S))), x⟩ ⟨2, i, c, aw⟩ = ⟨P ++ (aw ++ (M ++ (B ++ S))), x⟩ := by
    rw [hna, tk i P _ hP, ← List.append_assoc P A, dp (i + c) (P ++ A) _ (by simp; omega)]
  have nb : next ⟨P ++ (A ++ (M ++ (B ++ S))), x⟩ ⟨2, j, d, bw⟩ = ⟨P ++ (A ++ (M ++ (bw ++ S))), x⟩ := by
    rw [hnb]
    have r1 : P ++ (A ++ (M ++ (B ++ S))) = (P ++ (A ++ M)) ++ (B ++ S) := by simp
    have r2 : P ++ (A ++ (M ++ (B ++ S))) = (P ++ (A ++ (M ++ B))) ++ S := by simp
    conv => lhs; rw [r2]
    rw [dp (j + d) (P ++ (A ++ (M ++ B))) S (by simp; omega), ← r2, r1, tk j (P ++ (A ++ M)) _ (by simp; omega)]
    simp
  have n1 : next ⟨P ++ (aw ++ (M ++ (B ++ S))), x⟩ ⟨2, j + (aw.length - c), d, bw⟩ = ⟨P ++ (aw ++ (M ++ (bw ++ S))), x⟩ := by
    have u1 : ((j : Int) + ((aw.length : Int) - c)).toNat = i + aw.length + (j - (i + c)) := by omega
    have u2 : ((j : Int) + ((aw.length : Int) - c) + d).toNat = i + aw.length + (j - (i + c)) + d := by omega
    have r1 : P ++ (aw ++ (M ++ (B ++ S))) = (P ++ (aw ++ M)) ++ (B ++ S) := by simp
    have r2 : P ++ (aw ++ (M ++ (B ++ S))) = (P ++ (aw ++ (M ++ B))) ++ S := by simp
    simp only [next]
    rw [if_neg (by decide), if_pos trivial, u1, u2]
    conv => lhs; rw [r2]
    rw [dp _ (P ++ (aw ++ (M ++ B))) S (by simp; omega), ← r2, r1, tk _ (P ++ (aw ++ M)) _ (by simp; omega)]
    simp
  have n2 : next ⟨P ++ (A ++ (M ++ (bw ++ S))), x⟩ ⟨2, i, c, aw⟩ = ⟨P ++ (aw ++ (M ++ (bw ++ S))), x⟩ := by
    simp only [next]
    rw [if_neg (by decide), if_pos trivial, t0, t1, tk i P _ hP, ← List.append_assoc P A, dp (i + c) (P ++ A) _ (by simp; omega)]
  have w1 : (((P ++ (A ++ (M ++ (B ++ S)))).take (i + c)).drop i) = A := by
    rw [← List.append_assoc P A, tk (i + c) (P ++ A) _ (by simp; omega), dp i P A hP]
  have w2 : (((P ++ (A ++ (M ++ (B ++ S)))).take (j + d)).drop j) = B := by
    have r2 : P ++ (A ++ (M ++ (B ++ S))) = (P ++ (A ++ (M ++ B))) ++ S := by simp
    rw [r2, tk (j + d) _ S (by simp; omega)]
    have r3 : P ++ (A ++ (M ++ B)) = (P ++ (A ++ M)) ++ B := by simp
    rw [r3, dp j _ B (by simp; omega)]
  rw [w1] at a7
  rw [w2] at b7
  rw [na] at p3 ⊢
  rw [nb] at q3 ⊢
  have o1 : okOp ⟨P ++ (aw ++ (M ++ (B ++ S))), x⟩ ⟨2, j + (aw.length - c), d, bw⟩ = true := by
    simp only [okOp]
    rw [if_neg (by decide), if_pos trivial]
    have u1 : ((j : Int) + ((aw.length : Int) - c)).toNat = i + aw.length + (j - (i + c)) := by omega
    have u2 : ((j : Int) + ((aw.length : Int) - c) + d).toNat = i + aw.length + (j - (i + c)) + d := by omega
    refine okRev_of ?_ ?_ b3 b4 ?_ b6 ?_
    · simp only; simp at g3 a5; omega
    · simp; omega
    · simp; omega
    · simp only [u1, u2]
      have r2 : P ++ (aw ++ (M ++ (B ++ S))) = (P ++ (aw ++ (M ++ B))) ++ S := by simp
      have r3 : P ++ (aw ++ (M ++ B)) = (P ++ (aw ++ M)) ++ B := by simp
      rw [r2, tk _ _ S (by simp; omega), r3, dp _ _ B (by simp; omega)]
      exact b7
  have o2 : okOp ⟨P ++ (A ++ (M ++ (bw ++ S))), x⟩ ⟨2, i, c, aw⟩ = true := by
    simp only [okOp]
    rw [if_neg (by decide), if_pos trivial]
    refine okRev_of a1 ?_ a3 a4 ?_ a6 ?_
    · simp; omega
    · simp; omega
    · simp only [t0, t1]
      rw [← List.append_assoc P A, tk (i + c) (P ++ A) _ (by simp; omega), dp i P A hP]
      exact a7
  have d1 := doE_eq p3 o1
  have d2 := doE_eq q3 o2
  rw [n1] at d1
  rw [n2] at d2
  refine ⟨d1.trans d2.symm, ?_⟩
  unfold doX
  rw [d1, d2, n1, n2]
/-- What is fixed cannot be revised any more. -/
theorem fix_law {s : Sm} {at_ : Int} (e : doE s ⟨3, at_, 0, []⟩ = 0) :
    s.x ≤ at_ ∧ at_ ≤ s.w.length ∧ doX s ⟨3, at_, 0, []⟩ = ⟨s.w, at_⟩ ∧ eSm s = 0 ∧ eSm ⟨s.w, at_⟩ = 0 := by
  obtain ⟨p1, p2, p3, p4⟩ := doE_ok e
  have h : okFix s ⟨3, at_, 0, []⟩ = true := by simpa [okOp] using p2
  obtain ⟨q1, q2, _⟩ := okFix_ok h
  have hn : next s ⟨3, at_, 0, []⟩ = ⟨s.w, at_⟩ := by simp [next]
  rw [hn] at p3 p4
  exact ⟨q1, q2, p4, p1, p3⟩
theorem fix_less {w : List Wd} {at_ : Int} (h : eSm ⟨w, at_⟩ = 0) : doE ⟨w, at_⟩ ⟨3, at_ - 1, 0, []⟩ = 170 := by
  have : okOp ⟨w, at_⟩ ⟨3, at_ - 1, 0, []⟩ = false := by
    simp [okOp, okFix, show ¬ at_ ≤ at_ - 1 by omega]
  simp [doE, h, this]
theorem fix_below {w : List Wd} {at_ : Int} {o : Op} (h : eSm ⟨w, at_⟩ = 0) (hk : o.k ≠ 1) (ho : o.a < at_) : doE ⟨w, at_⟩ o = 170 := by
  have : okOp ⟨w, at_⟩ o = false := by
    simp [okOp, okFix, okRev, hk, show ¬ at_ ≤ o.a by omega]
  simp [doE, h, this]
theorem fix_above {s : Sm} {at_ : Int} {o : Op} (h0 : eSm s = 0) (h : eSm ⟨s.w, at_⟩ = 0) (h1 : s.x ≤ at_) (ho : o.k = 1 ∨ at_ ≤ o.a) : doE s o = doE ⟨s.w, at_⟩ o ∧ (doX s o).w = (doX ⟨s.w, at_⟩ o).w := by
  obtain ⟨_, g2, g3, _⟩ := eSm_ok h0
  obtain ⟨_, g5, g6, _⟩ := eSm_ok h
  simp only at g5 g6
  have hok : okOp s o = okOp ⟨s.w, at_⟩ o := by
    unfold okOp
    split
    · rfl
    · rename_i k1
      have ho : at_ ≤ o.a := ho.resolve_left k1
      have c1 : decide (s.x ≤ o.a) = decide (at_ ≤ o.a) := by simp [ho]; omega
      simp [okRev, okFix, c1]
  have hd : doE s o = doE ⟨s.w, at_⟩ o := by
    unfold doE
    rw [if_pos h0, if_pos h, ← hok]
    split
    · rename_i hp
      unfold okOp at hp
      unfold next
      split
      · exact eSm_x (by simp; omega) (by simp; omega)
      · rename_i k1
        rw [if_neg k1] at hp
        have ho : at_ ≤ o.a := ho.resolve_left k1
        split
        · rename_i k2
          rw [if_pos k2] at hp
          obtain ⟨r1, r2, r3, r4, r5, r6, r7⟩ := okRev_ok hp
          exact eSm_x (by simp; omega) (by simp; omega)
        · rfl
    · rfl
  refine ⟨hd, ?_⟩
  unfold doX
  rw [← hd]
  split
  · unfold next
    split
    · rfl
    · split <;> rfl
  · rfl
end Go.Proofs.YteonapeaaepipaaDoor
end

section
namespace Go.Proofs.YteonapeaaepipaaDoor
open Go Go.Proofs.YteonapeaaepipaaDoor.AL
attribute [local simp] dT_agg dT_nt dT_noTup dT_cells dT_one bs_toList bs_size strV
def longF (b : Int) : Int × Int := if b < 128 then (1, b) else if 192 ≤ b ∧ b < 224 then (2, b - 192) else if 224 ≤ b ∧ b < 240 then (3, b - 224) else if 240 ≤ b ∧ b < 248 then (4, b - 240) else (0, 0)
theorem long (b : Int) (hb : 0 ≤ b ∧ b ≤ 255) : PCall Tryd.prog 147 [dI b] (.ret (.tup [dI (longF b).1, dI (longF b).2])) := by
  refine pcall_of_vc noC c147 (by simp [a147]) fun hr => ?_
  have w1 : IntKind.i64.wrap (b - 192) = b - 192 := wrap64 (by omega)
  have w2 : IntKind.i64.wrap (b - 224) = b - 224 := wrap64 (by omega)
  have w3 : IntKind.i64.wrap (b - 240) = b - 240 := wrap64 (by omega)
  simp [a147]
  have fin : ∀ x y : Int, (x, y) = longF b → LeD (.lit (.int .i64 x)) (.lit (.int .i64 (longF b).1)) ∧ LeD (.lit (.int .i64 y)) (.lit (.int .i64 (longF b).2)) := fun x y h => by rw [← h]; exact ⟨LeD.refl _, LeD.refl _⟩
  refine ⟨fun q => fin 1 b (by simp [longF, q]), fun q => vc_path [] ?_⟩
  simp [w1]
  refine ⟨fun q1 => ⟨fun q2 => fin 2 _ (by unfold longF; rw [if_neg (by omega), if_pos (by omega)]), fun q2 => vc_path [] ?_⟩, fun q1 => vc_path [] ?_⟩
  · simp [w2, q2]
    refine ⟨fun q3 => fin 3 _ (by unfold longF; rw [if_neg (by omega), if_neg (by omega), if_pos (by omega)]), fun q3 => vc_path [] ?_⟩
    simp [w3, q3]
    refine ⟨fun q4 => fin 4 _ (by unfold longF; rw [if_neg (by omega), if_neg (by omega), if_neg (by omega), if_pos (by omega)]), fun q4 => fin 0 0 (by unfold longF; rw [if_neg (by omega), if_neg (by omega), if_neg (by omega), if_neg (by omega)])⟩
  · have q2 : ¬ 224 ≤ b := by omega
    have q3 : ¬ 240 ≤ b := by omega
    simp [q2]
    refine vc_path [] ?_
    simp [q3]
    exact fin 0 0 (by unfold longF; rw [if_neg (by omega), if_neg (by omega), if_neg (by omega), if_neg (by omega)])
def pointB (r : Int) : Bool := decide (0 ≤ r) && (decide (r ≤ 1114111) && (decide (r < 55296) || decide (r > 57343)))
theorem point (r : Int) : PCall Tryd.prog 148 [dI r] (.ret (dB (pointB r))) := by
  refine pcall_of_vc noC c148 (by simp [a148]) fun hr => ?_
  simp [a148]
  refine vc_path [] ?_
  simp [pointB]
  exact ⟨fun q1 => ⟨fun q2 => ⟨fun q3 => leD_of_eq (by simp [q1, q2, q3]), fun q3 => leD_of_eq (by simp [q1, q2, show ¬ r < 55296 by omega])⟩, fun q2 => leD_of_eq (by simp [show ¬ r ≤ 1114111 by omega])⟩, fun q1 => leD_of_eq (by simp [show ¬ 0 ≤ r by omega])⟩
def kindF (r : Int) : Int × Int :=
  if pointB r = false then (0, 90) else if r = 9 ∨ r = 10 ∨ r = 13 ∨ r = 32 then (1, 0) else if 48 ≤ r ∧ r ≤ 57 then (2, 0)
  else if (65 ≤ r ∧ r ≤ 90) ∨ (97 ≤ r ∧ r ≤ 122) ∨ (192 ≤ r ∧ r ≤ 591 ∧ r ≠ 215 ∧ r ≠ 247) ∨ (880 ≤ r ∧ r ≤ 1279) then (3, 0) else if 1424 ≤ r ∧ r ≤ 1983 then (4, 0) else (0, 0)
inductive CPt : FuncId → List D → Out → Prop
  | pt (r : Int) : CPt 148 [dI r] (.ret (dB (pointB r)))
theorem hPt : ∀ f ds out, CPt f ds out → PCall Tryd.prog f ds out := by
  intro f ds out h
  cases h with
  | pt r => exact point r
set_option maxRecDepth 8000 in
set_option maxHeartbeats 8000000 in
theorem kind (r : Int) : PCall Tryd.prog 139 [dI r] (.ret (.tup [dI (kindF r).1, dI (kindF r).2])) := by
  refine pcall_of_vc hPt c139 (by simp [a139]) fun hr => ?_
  have hp := CPt.pt r
  generalize hb : pointB r = pb at hp
  simp [a139]
  refine vc_path [.ret (dB pb)] ?_
  simp
  refine ⟨hp, fun q => ?_, fun q => vc_path [] ?_⟩
  · have : kindF r = (0, 90) := by unfold kindF; rw [if_pos (by rw [hb, q])]
    rw [this]; exact ⟨LeD.refl _, LeD.refl _⟩
  have fin : ∀ x y : Int, (x, y) = kindF r → LeD (.lit (.int .i64 x)) (.lit (.int .i64 (kindF r).1)) ∧ LeD (.lit (.int .i64 y)) (.lit (.int .i64 (kindF r).2)) := fun x y h => by rw [← h]; exact ⟨LeD.refl _, LeD.refl _⟩
  have hk : kindF r = if r = 9 ∨ r = 10 ∨ r = 13 ∨ r = 32 then (1, 0) else if 48 ≤ r ∧ r ≤ 57 then (2, 0)
    else if (65 ≤ r ∧ r ≤ 90) ∨ (97 ≤ r ∧ r ≤ 122) ∨ (192 ≤ r ∧ r ≤ 591 ∧ r ≠ 215 ∧ r ≠ 247) ∨ (880 ≤ r ∧ r ≤ 1279) then (3, 0) else if 1424 ≤ r ∧ r ≤ 1983 then (4, 0) else (0, 0) := by
    unfold kindF; rw [if_neg (by rw [hb, q]; simp)]
  clear hb
  simp
  iterate 40 all_goals (try (first
     | (refine fin _ _ ?_)
     | (refine vc_path [] ?_; simp)
     | (refine And.intro ?_ ?_)
     | (intro _)))
  all_goals (rw [hk]; repeat' split)
  all_goals first | rfl | (exfalso; omega)
theorem kind_space (r : Int) : decide ((kindF r).1 = 1) = spc r := by
  unfold kindF spc pointB
  repeat' split
  all_goals simp
  all_goals simp at *
  all_goals omega
inductive CKd : FuncId → List D → Out → Prop
  | kd (r : Int) : CKd 139 [dI r] (.ret (.tup [dI (kindF r).1, dI (kindF r).2]))
theorem hKd : ∀ f ds out, CKd f ds out → PCall Tryd.prog f ds out := by
  intro f ds out h
  cases h with
  | kd r => exact kind r
theorem rspace (r : Int) : PCall Tryd.prog 130 [dI r] (.ret (dB (spc r))) := by
  refine pcall_of_vc hKd c130 (by simp [a130]) fun hr => ?_
  simp [a130]
  refine vc_path [.ret (.tup [dI (kindF r).1, dI (kindF r).2])] ?_
  simp
  exact ⟨.kd r, leD_of_eq (by rw [← kind_space]; rfl)⟩
end Go.Proofs.YteonapeaaepipaaDoor
end

section
namespace Go.Proofs.YteonapeaaepipaaDoor
open Go Go.Proofs.YteonapeaaepipaaDoor.AL
attribute [local simp] dT_agg dT_nt dT_noTup dT_cells dT_one bs_toList bs_size strV
def u8 (n : Nat) : UInt8 := UInt8.ofNat n
theorem u8w (n : Nat) (h : n < 256) : IntKind.u8.wrap (n : Int) = n := by
  simp [IntKind.wrap, IntKind.bits, IntKind.signed]; omega
theorem dU_u8 (n : Nat) (h : n < 256) : (.lit (.int .u8 (IntKind.u8.wrap (n : Int))) : D) = dU (u8 n) := by
  rw [u8w n h, dU, u8, UInt8.toNat_ofNat', Nat.mod_eq_of_lt h]
def encB (r : Nat) : List UInt8 :=
  if r < 128 then [u8 r] else if r < 2048 then [u8 (192 + r / 64), u8 (128 + r % 64)] else if r < 65536 then [u8 (224 + r / 4096), u8 (128 + r / 64 % 64), u8 (128 + r % 64)]
  else [u8 (240 + r / 262144), u8 (128 + r / 4096 % 64), u8 (128 + r / 64 % 64), u8 (128 + r % 64)]
theorem byteEq (k : Int) (m n : Nat) (x : Int) (hk : k = m) (hx : x = n) (h : m + n < 256) : (.lit (.int .u8 (IntKind.u8.wrap (IntKind.i64.wrap (k + x)))) : D) = dU (u8 (m + n)) := by
  rw [hk, hx, show ((m : Int) + (n : Int)) = ((m + n : Nat) : Int) by omega, wrap64 (by omega)]
  exact dU_u8 _ h
theorem bytes (r : Nat) (hb : r ≤ 1114111) : PCall Tryd.prog 149 [dI r] (.ret (.sl 1 ((encB r).map dU))) := by
  refine pcall_of_vc noC c149 (by simp [a149]) fun hr => ?_
  have w1 : ∀ n : Nat, n ≤ 1114111 → IntKind.i64.wrap (n : Int) = n := fun n h => wrap64 (by omega)
  have t1 : IntKind.i64.wrap ((r : Int) / 64) = ((r / 64 : Nat) : Int) := w1 (r / 64) (by omega)
  have t2 : IntKind.i64.wrap ((r : Int) / 4096) = ((r / 4096 : Nat) : Int) := w1 (r / 4096) (by omega)
  have t3 : IntKind.i64.wrap ((r : Int) / 262144) = ((r / 262144 : Nat) : Int) := w1 (r / 262144) (by omega)
  have m1 : ((r : Int).tmod 64) = ((r % 64 : Nat) : Int) := rfl
  have m2 : (IntKind.i64.wrap ((r : Int) / 64)).tmod 64 = ((r / 64 % 64 : Nat) : Int) := by rw [t1]; rfl
  have m3 : (IntKind.i64.wrap ((r : Int) / 4096)).tmod 64 = ((r / 4096 % 64 : Nat) : Int) := by rw [t2]; rfl
  simp only [a149, vcFun_eq]
  simp
  refine ⟨fun q => leD_of_eq (congrArg (D.sl 1) ?_), fun q => ⟨fun q2 => leD_of_eq (congrArg (D.sl 1) ?_), fun q2 => ⟨fun q3 => leD_of_eq (congrArg (D.sl 1) ?_), fun q3 => leD_of_eq (congrArg (D.sl 1) ?_)⟩⟩⟩
  · rw [encB, if_pos (by omega), dU_u8 r (by omega)]; rfl
  · rw [encB, if_neg (by omega), if_pos (by omega)]
    exact congr (congrArg List.cons (byteEq 192 192 (r / 64) _ rfl t1 (by omega))) (congr (congrArg List.cons (byteEq 128 128 (r % 64) _ rfl m1 (by omega))) rfl)
  · rw [encB, if_neg (by omega), if_neg (by omega), if_pos (by omega)]
    exact congr (congrArg List.cons (byteEq 224 224 (r / 4096) _ rfl t2 (by omega))) (congr (congrArg List.cons (byteEq 128 128 (r / 64 % 64) _ rfl m2 (by omega))) (congr (congrArg List.cons (byteEq 128 128 (r % 64) _ rfl m1 (by omega))) rfl))
  · rw [encB, if_neg (by omega), if_neg (by omega), if_neg (by omega)]
    exact congr (congrArg List.cons (byteEq 240 240 (r / 262144) _ rfl t3 (by omega))) (congr (congrArg List.cons (byteEq 128 128 (r / 4096 % 64) _ rfl m3 (by omega))) (congr (congrArg List.cons (byteEq 128 128 (r / 64 % 64) _ rfl m2 (by omega))) (congr (congrArg List.cons (byteEq 128 128 (r % 64) _ rfl m1 (by omega))) rfl)))
theorem bytesOf_bs (l : List UInt8) : bytesOf (l.map dU) = bs l := by
  have h : (bytesOf (l.map dU)).toList = l := by
    rw [ByteArray.toList_eq, bytesOf, strOfNums_data, List.map_map, List.map_map]
    conv => rhs; rw [← List.map_id l]
    apply List.map_congr_left
    intro b _
    simp [dU, D.num]
  have h2 : (bytesOf (l.map dU)).data.toList = l := by rw [← Lib.toList_data]; exact h
  generalize bytesOf (l.map dU) = z at h2
  cases z
  simp only at h2
  rw [bs, ← h2]
theorem u8_all (l : List UInt8) : ∀ e ∈ l.map dU, e.u8.isSome = true := by
  intro e he
  obtain ⟨b, _, rfl⟩ := List.mem_map.1 he
  rfl
/-- The bits of the bytes behind the first. -/
def cn (b : List UInt8) (r : Int) : Nat → Option Int
  | 0 => some r
  | i + 1 => match cn b r i with
    | none => none
    | some x => if ((b.getD (i + 1) 0).toNat : Int) < 128 ∨ ((b.getD (i + 1) 0).toNat : Int) ≥ 192 then none else some (x * 64 + (b.getD (i + 1) 0).toNat - 128)
theorem cn_none {b : List UInt8} {r : Int} {i : Nat} (h : cn b r i = none) : ∀ j, i ≤ j → cn b r j = none
  | 0, hj => by
    have : i = 0 := by omega
    subst this; exact h
  | j + 1, hj => by
    by_cases e : i = j + 1
    · subst e; exact h
    · rw [cn, cn_none h j (by omega)]
def firstF (b : List UInt8) : Int × Int :=
  if (longF (b.getD 0 0).toNat).1 = 0 ∨ (longF (b.getD 0 0).toNat).1 > b.length then (0, 0) else
  match cn b (longF (b.getD 0 0).toNat).2 ((longF (b.getD 0 0).toNat).1 - 1).toNat with
  | none => (0, 0)
  | some r => if pointB r && decide (encB r.toNat = b.take (longF (b.getD 0 0).toNat).1.toNat) then (r, (longF (b.getD 0 0).toNat).1) else (0, 0)
inductive CFi : FuncId → List D → Out → Prop
  | long (b : Int) (hb : 0 ≤ b ∧ b ≤ 255) : CFi 147 [dI b] (.ret (.tup [dI (longF b).1, dI (longF b).2]))
  | pt (r : Int) : CFi 148 [dI r] (.ret (dB (pointB r)))
  | by_ (r : Nat) (hb : r ≤ 1114111) : CFi 149 [dI r] (.ret (.sl 1 ((encB r).map dU)))
theorem hFi : ∀ f ds out, CFi f ds out → PCall Tryd.prog f ds out := by
  intro f ds out h
  cases h with
  | long b hb => exact long b hb
  | pt r => exact point r
  | by_ r hb => exact bytes r hb
theorem longF_b (c : Nat) (hc : c ≤ 255) : 0 ≤ (longF c).1 ∧ (longF c).1 ≤ 4 ∧ 0 ≤ (longF c).2 ∧ (longF c).2 < 128 := by
  unfold longF
  repeat' split
  all_goals simp
  all_goals omega
set_option maxRecDepth 8000 in
theorem first (b : List UInt8) (h0 : b ≠ []) (h1 : b.length ≤ 4096) : PCall Tryd.prog 138 [dT b] (.ret (.tup [dI (firstF b).1, dI (firstF b).2])) := by
  refine pcall_of_vc hFi c138 (by simp [a138]) fun hr => ?_
  have hp : 0 < b.length := List.length_pos_iff.2 h0
  simp [a138, dT]
  have hc : (b.getD 0 0).toNat ≤ 255 := by have := (b.getD 0 0).toNat_lt; omega
  have hl := CFi.long (b.getD 0 0).toNat (by omega)
  have hlb := longF_b _ hc
  have hf : firstF b = firstF b := rfl
  conv at hf => rhs; unfold firstF
  generalize hcc : (b.getD 0 0).toNat = c at *
  generalize (longF c).1 = n at *
  generalize (longF c).2 = r0 at *
  refine vc_path [.ret (.tup [dI n, dI r0])] ?_
  simp [bs_data]
  have hcc' : (b[0]?.getD 0).toNat = c := by rw [← List.getD_eq_getElem?_getD]; exact hcc
  rw [hcc', wrap64 (n := (c : Int)) (by omega)]
  refine ⟨hp, hl, vc_path [] ?_⟩
  simp
  have bad : ∀ {p q : Int}, firstF b = (p, q) → LeD (.lit (.int .i64 p)) (.lit (.int .i64 (firstF b).1)) ∧ LeD (.lit (.int .i64 q)) (.lit (.int .i64 (firstF b).2)) := fun h => by rw [h]; exact ⟨LeD.refl _, LeD.refl _⟩
  refine ⟨fun q1 => bad (by rw [hf, if_pos (.inl q1)]), fun q1 => ⟨fun q2 => bad (by rw [hf, if_pos (.inr q2)]), fun q2 => ?_⟩⟩
  rw [if_neg (by omega)] at hf
  refine vc_loopK [0, 4] (Nat × Int) (fun y => [(6, true, .d (dI ((y.1 + 1 : Nat) : Int))), (5, true, .d (dI y.2))]) (fun y => []) (fun y => (y.1 : Int) + 1 ≤ n ∧ cn b r0 y.1 = some y.2 ∧ 0 ≤ y.2 ∧ y.2 < 64 ^ (y.1 + 2)) (fun y => 4 - y.1) (0, r0) ⟨by simp; omega, rfl, by simp; omega, by simp; omega⟩ ⟨[], [], ?_⟩ (fun y hy => ?_)
  · simp
  obtain ⟨k, r⟩ := y
  obtain ⟨g1, g2, g3, g4⟩ := hy
  simp only at g1 g2 g3 g4
  have hk3 : k ≤ 3 := by omega
  have hr30 : r < 1073741824 := by
    have : k = 0 ∨ k = 1 ∨ k = 2 ∨ k = 3 := by omega
    rcases this with rfl | rfl | rfl | rfl <;> simp at g4 <;> omega
  simp
  refine ⟨fun hlt => ?_, fun hge => ?_⟩
  · refine ⟨⟨by omega, by omega⟩, vc_path [] ?_⟩
    simp [bs_data]
    have hv0 : ((bs b).data[k + 1]?.getD 0) = b.getD (k + 1) 0 := by simp [bs]
    rw [hv0]
    have hvb : (b.getD (k + 1) 0).toNat ≤ 255 := by have := (b.getD (k + 1) 0).toNat_lt; omega
    have hcn : cn b r0 (k + 1) = if ((b.getD (k + 1) 0).toNat : Int) < 128 ∨ ((b.getD (k + 1) 0).toNat : Int) ≥ 192 then none else some (r * 64 + (b.getD (k + 1) 0).toNat - 128) := by
      rw [cn, g2]
    generalize (b.getD (k + 1) 0).toNat = v at hvb hcn
    rw [wrap64 (n := (v : Int)) (by omega), wrap64 (n := r * 64) (by omega), wrap64 (n := r * 64 + (v : Int)) (by omega), wrap64 (n := r * 64 + (v : Int) - 128) (by omega), wrap64 (n := (k : Int) + 1 + 1) (by omega)]
    have hbad : cn b r0 (k + 1) = none → firstF b = (0, 0) := fun h => by
      rw [hf, cn_none h _ (by omega)]
    refine ⟨fun e => bad (hbad (by rw [hcn, if_pos (.inl e)])), fun e1 => ⟨fun e => bad (hbad (by rw [hcn, if_pos (.inr e)])), fun e2 => ⟨k + 1, r * 64 + v - 128, ⟨by omega, by rw [hcn, if_neg (by omega)], by omega, ?_⟩, by omega, [], [], ?_⟩⟩⟩
    · have : (64 : Int) ^ (k + 1 + 2) = 64 ^ (k + 2) * 64 := by rw [show k + 1 + 2 = (k + 2) + 1 by omega, Int.pow_succ]
      rw [this]; omega
    · simp
  · have hkn : (n - 1).toNat = k := by omega
    rw [hkn, g2] at hf
    simp only at hf
    by_cases p1 : pointB r = true
    · have hpt := CFi.pt r
      rw [p1] at hpt
      have hrn : r = ((r.toNat : Nat) : Int) := by omega
      have hle : r.toNat ≤ 1114111 := by simp [pointB] at p1; omega
      have hby := CFi.by_ r.toNat hle
      refine vc_pathD [.ret (dB true), .ret (.sl 1 ((encB r.toNat).map dU))] ?_
      rw [← hrn] at hby
      simp [bytesOf_bs, bs_data]
      refine ⟨hpt, hby, fun a _ => rfl, ⟨by omega, q2⟩, rfl, fun e => bad (by rw [hf, if_neg (by simp [e])]), fun e => bad (by rw [hf, if_pos (by simp [p1, e])])⟩
    · have p1 : pointB r = false := by simpa using p1
      have hpt := CFi.pt r
      rw [p1] at hpt
      refine vc_pathD [.ret (dB false)] ?_
      simp
      exact ⟨hpt, rfl, bad (by rw [hf, if_neg (by simp [p1])])⟩
end Go.Proofs.YteonapeaaepipaaDoor
end

section
namespace Go.Proofs.YteonapeaaepipaaDoor
open Go Go.Proofs.YteonapeaaepipaaDoor.AL
theorem u8_iff (n : Nat) (x : UInt8) (h : n < 256) : u8 n = x ↔ n = x.toNat := by
  constructor
  · intro e; rw [← e, u8, UInt8.toNat_ofNat', Nat.mod_eq_of_lt h]
  · intro e; subst e; simp [u8]
theorem take1 {b : List UInt8} (h : 1 ≤ b.length) : b.take 1 = [b.getD 0 0] := by
  match b, h with
  | x :: t, _ => simp
theorem take2 {b : List UInt8} (h : 2 ≤ b.length) : b.take 2 = [b.getD 0 0, b.getD 1 0] := by
  match b, h with
  | x :: y :: t, _ => simp
theorem take3 {b : List UInt8} (h : 3 ≤ b.length) : b.take 3 = [b.getD 0 0, b.getD 1 0, b.getD 2 0] := by
  match b, h with
  | x :: y :: z :: t, _ => simp
theorem take4 {b : List UInt8} (h : 4 ≤ b.length) : b.take 4 = [b.getD 0 0, b.getD 1 0, b.getD 2 0, b.getD 3 0] := by
  match b, h with
  | x :: y :: z :: w :: t, _ => simp
theorem enc1 (r : Nat) (x0 : UInt8) : encB r = [x0] ↔ r < 128 ∧ r = x0.toNat := by
  unfold encB
  repeat' split
  · rename_i h; simp only [List.cons.injEq, and_true]; rw [u8_iff _ _ (by omega)]; omega
  all_goals simp; omega
theorem enc2 (r : Nat) (x0 x1 : UInt8) : encB r = [x0, x1] ↔ 128 ≤ r ∧ r < 2048 ∧ 192 + r / 64 = x0.toNat ∧ 128 + r % 64 = x1.toNat := by
  unfold encB
  repeat' split
  · simp; omega
  · rename_i h; simp only [List.cons.injEq, and_true]; rw [u8_iff _ _ (by omega), u8_iff _ _ (by omega)]; omega
  all_goals simp; omega
theorem enc3 (r : Nat) (x0 x1 x2 : UInt8) : encB r = [x0, x1, x2] ↔ 2048 ≤ r ∧ r < 65536 ∧ 224 + r / 4096 = x0.toNat ∧ 128 + r / 64 % 64 = x1.toNat ∧ 128 + r % 64 = x2.toNat := by
  unfold encB
  repeat' split
  · simp; omega
  · simp; omega
  · rename_i h; simp only [List.cons.injEq, and_true]; rw [u8_iff _ _ (by omega), u8_iff _ _ (by omega), u8_iff _ _ (by omega)]; omega
  · simp; omega
theorem enc4 (r : Nat) (hr : r ≤ 1114111) (x0 x1 x2 x3 : UInt8) : encB r = [x0, x1, x2, x3] ↔ 65536 ≤ r ∧ 240 + r / 262144 = x0.toNat ∧ 128 + r / 4096 % 64 = x1.toNat ∧ 128 + r / 64 % 64 = x2.toNat ∧ 128 + r % 64 = x3.toNat := by
  unfold encB
  repeat' split
  · simp; omega
  · simp; omega
  · simp; omega
  · rename_i h; simp only [List.cons.injEq, and_true]; rw [u8_iff _ _ (by omega), u8_iff _ _ (by omega), u8_iff _ _ (by omega), u8_iff _ _ (by omega)]; omega
theorem get_bs (b : List UInt8) (k : Nat) : (bs b).get! k = b.getD k 0 := by
  simp [bs, ByteArray.get!]
  rfl
theorem decode_bs (b : List UInt8) (h : b ≠ []) : Lib.decodeGo (bs b) = Lib.decodeN b.length (b.getD 0 0).toNat (b.getD 1 0).toNat (b.getD 2 0).toNat (b.getD 3 0).toNat := by
  have hl : 0 < b.length := List.length_pos_iff.2 h
  unfold Lib.decodeGo
  rw [bs_size, if_neg (by omega), Lib.decode_at, bs_size]
  simp only [get_bs, Nat.sub_zero, Nat.zero_add]
def goF (d : Nat × Nat) : Int × Int := if d.1 = 65533 ∧ d.2 < 2 then (0, 0) else ((d.1 : Int), (d.2 : Int))
theorem point_iff (r : Int) : pointB r = true ↔ 0 ≤ r ∧ r ≤ 1114111 ∧ (r < 55296 ∨ r > 57343) := by simp [pointB]
theorem ite_and {a : Bool} {p q : Prop} [Decidable p] (h : (a && decide p) = true ↔ q) (x y : Int × Int) : (q → (if (a && decide p) = true then x else y) = x) ∧ (¬ q → (if (a && decide p) = true then x else y) = y) :=
  ⟨fun hq => if_pos (h.2 hq), fun hq => if_neg (fun e => hq (h.1 e))⟩
set_option maxHeartbeats 4000000 in
set_option maxRecDepth 20000 in
theorem first_eq (b : List UInt8) (h : b ≠ []) : firstF b = goF (Lib.decodeGo (bs b)) := by
  have hl : 0 < b.length := List.length_pos_iff.2 h
  rw [decode_bs b h]
  have t1 := take1 (b := b) hl
  have t2 := take2 (b := b)
  have t3 := take3 (b := b)
  have t4 := take4 (b := b)
  unfold firstF
  have cn1 : ∀ r, cn b r 1 = if ((b.getD 1 0).toNat : Int) < 128 ∨ ((b.getD 1 0).toNat : Int) ≥ 192 then none else some (r * 64 + (b.getD 1 0).toNat - 128) := fun r => rfl
  have cn2 : ∀ r, cn b r 2 = match cn b r 1 with
    | none => none
    | some x => if ((b.getD 2 0).toNat : Int) < 128 ∨ ((b.getD 2 0).toNat : Int) ≥ 192 then none else some (x * 64 + (b.getD 2 0).toNat - 128) := fun r => rfl
  have cn3 : ∀ r, cn b r 3 = match cn b r 2 with
    | none => none
    | some x => if ((b.getD 3 0).toNat : Int) < 128 ∨ ((b.getD 3 0).toNat : Int) ≥ 192 then none else some (x * 64 + (b.getD 3 0).toNat - 128) := fun r => rfl
  have cn0 : ∀ r, cn b r 0 = some r := fun r => rfl
  have v0 : (b.getD 0 0).toNat < 256 := (b.getD 0 0).toNat_lt
  have v1 : (b.getD 1 0).toNat < 256 := (b.getD 1 0).toNat_lt
  have v2 : (b.getD 2 0).toNat < 256 := (b.getD 2 0).toNat_lt
  have v3 : (b.getD 3 0).toNat < 256 := (b.getD 3 0).toNat_lt
  generalize b.getD 0 0 = x0 at *
  generalize b.getD 1 0 = x1 at *
  generalize b.getD 2 0 = x2 at *
  generalize b.getD 3 0 = x3 at *
  have en1 := fun r => enc1 r x0
  have en2 := fun r => enc2 r x0 x1
  have en3 := fun r => enc3 r x0 x1 x2
  have en4 := fun r hr => enc4 r hr x0 x1 x2 x3
  generalize b.length = n at *
  by_cases c1 : x0.toNat < 128
  · have e : longF (x0.toNat : Int) = (1, (x0.toNat : Int)) := by unfold longF; rw [if_pos (by omega)]
    rw [e]
    simp only
    rw [if_neg (by omega)]
    simp only [show ((1 : Int) - 1).toNat = 0 from rfl, show (1 : Int).toNat = 1 from rfl, cn, Int.toNat_natCast]
    rw [t1, if_pos (by rw [Bool.and_eq_true, point_iff, decide_eq_true_eq, en1]; omega)]
    have hb : Lib.decodeN n x0.toNat x1.toNat x2.toNat x3.toNat = (x0.toNat, 1) := by unfold Lib.decodeN; rw [if_pos c1]
    rw [hb, goF, if_neg (by simp only; omega)]; rfl
  by_cases c2 : 192 ≤ x0.toNat ∧ x0.toNat < 224
  · have e : longF (x0.toNat : Int) = (2, (x0.toNat : Int) - 192) := by unfold longF; rw [if_neg (by omega), if_pos (by omega)]
    rw [e]
    simp only
    by_cases d1 : (2 : Int) > n
    · rw [if_pos (.inr d1)]
      have hb : Lib.decodeN n x0.toNat x1.toNat x2.toNat x3.toNat = (65533, 1) := by
        unfold Lib.decodeN
        rw [if_neg c1, if_neg (by omega), if_neg (by omega), if_neg (by omega)]
      rw [hb]; rfl
    rw [if_neg (by omega)]
    simp only [show ((2 : Int) - 1).toNat = 1 from rfl, show (2 : Int).toNat = 2 from rfl]
    rw [cn1, t2 (by omega)]
    by_cases d2 : (x1.toNat : Int) < 128 ∨ (x1.toNat : Int) ≥ 192
    · rw [if_pos d2]
      have hb : Lib.decodeN n x0.toNat x1.toNat x2.toNat x3.toNat = (65533, 1) := by
        unfold Lib.decodeN
        rw [if_neg c1, if_neg (by omega), if_neg (by omega), if_neg (by omega)]
      rw [hb]; rfl
    rw [if_neg d2]
    simp only
    obtain ⟨g1, g2⟩ := ite_and (a := pointB (((x0.toNat : Int) - 192) * 64 + x1.toNat - 128)) (p := encB (((x0.toNat : Int) - 192) * 64 + x1.toNat - 128).toNat = [x0, x1]) (q := 128 ≤ ((x0.toNat : Int) - 192) * 64 + x1.toNat - 128) (by rw [Bool.and_eq_true, point_iff, decide_eq_true_eq, en2]; omega) (((x0.toNat : Int) - 192) * 64 + x1.toNat - 128, 2) (0, 0)
    have hd : Lib.decodeN n x0.toNat x1.toNat x2.toNat x3.toNat = if x0.toNat % 32 * 64 + x1.toNat % 64 ≥ 128 then (x0.toNat % 32 * 64 + x1.toNat % 64, 2) else (65533, 1) := by
      unfold Lib.decodeN; rw [if_neg c1, if_pos (by omega)]
    rw [hd]
    by_cases d3 : 128 ≤ ((x0.toNat : Int) - 192) * 64 + x1.toNat - 128
    · rw [g1 d3, if_pos (by omega), goF, if_neg (by simp only; omega)]
      apply Prod.ext
      · simp only; omega
      · rfl
    · rw [g2 d3, if_neg (by omega)]; rfl
  by_cases c3 : 224 ≤ x0.toNat ∧ x0.toNat < 240
  · have e : longF (x0.toNat : Int) = (3, (x0.toNat : Int) - 224) := by unfold longF; rw [if_neg (by omega), if_neg (by omega), if_pos (by omega)]
    rw [e]
    simp only
    by_cases d1 : (3 : Int) > n
    · rw [if_pos (.inr d1)]
      have hb : Lib.decodeN n x0.toNat x1.toNat x2.toNat x3.toNat = (65533, 1) := by
        unfold Lib.decodeN
        rw [if_neg c1, if_neg (by omega), if_neg (by omega), if_neg (by omega)]
      rw [hb]; rfl
    rw [if_neg (by omega)]
    simp only [show ((3 : Int) - 1).toNat = 2 from rfl, show (3 : Int).toNat = 3 from rfl]
    rw [cn2, cn1, t3 (by omega)]
    by_cases d2 : (x1.toNat : Int) < 128 ∨ (x1.toNat : Int) ≥ 192
    · rw [if_pos d2]
      have hb : Lib.decodeN n x0.toNat x1.toNat x2.toNat x3.toNat = (65533, 1) := by
        unfold Lib.decodeN
        rw [if_neg c1, if_neg (by omega), if_neg (by omega), if_neg (by omega)]
      rw [hb]; rfl
    rw [if_neg d2]
    simp only
    by_cases d2' : (x2.toNat : Int) < 128 ∨ (x2.toNat : Int) ≥ 192
    · rw [if_pos d2']
      have hb : Lib.decodeN n x0.toNat x1.toNat x2.toNat x3.toNat = (65533, 1) := by
        unfold Lib.decodeN
        rw [if_neg c1, if_neg (by omega), if_neg (by omega), if_neg (by omega)]
      rw [hb]; rfl
    rw [if_neg d2']
    simp only
    obtain ⟨r, hr⟩ : ∃ r : Int, r = (((x0.toNat : Int) - 224) * 64 + x1.toNat - 128) * 64 + x2.toNat - 128 := ⟨_, rfl⟩
    rw [← hr]
    obtain ⟨g1, g2⟩ := ite_and (a := pointB r) (p := encB r.toNat = [x0, x1, x2]) (q := 2048 ≤ r ∧ (r < 55296 ∨ r > 57343)) (by rw [Bool.and_eq_true, point_iff, decide_eq_true_eq, en3]; omega) (r, 3) (0, 0)
    have hm : x0.toNat % 16 * 4096 + x1.toNat % 64 * 64 + x2.toNat % 64 = r.toNat := by omega
    have hd : Lib.decodeN n x0.toNat x1.toNat x2.toNat x3.toNat = if r.toNat ≥ 2048 ∧ (r.toNat < 55296 ∨ (57344 ≤ r.toNat ∧ r.toNat ≤ 1114111)) then (r.toNat, 3) else (65533, 1) := by
      unfold Lib.decodeN; rw [if_neg c1, if_neg (by omega), if_pos (by omega), hm]
    rw [hd]
    by_cases d3 : 2048 ≤ r ∧ (r < 55296 ∨ r > 57343)
    · rw [g1 d3, if_pos (by omega), goF, if_neg (by simp only; omega)]
      apply Prod.ext
      · simp only; omega
      · rfl
    · rw [g2 d3, if_neg (by omega)]; rfl
  by_cases c4 : 240 ≤ x0.toNat ∧ x0.toNat < 248
  · have e : longF (x0.toNat : Int) = (4, (x0.toNat : Int) - 240) := by unfold longF; rw [if_neg (by omega), if_neg (by omega), if_neg (by omega), if_pos (by omega)]
    rw [e]
    simp only
    by_cases d1 : (4 : Int) > n
    · rw [if_pos (.inr d1)]
      have hb : Lib.decodeN n x0.toNat x1.toNat x2.toNat x3.toNat = (65533, 1) := by
        unfold Lib.decodeN
        rw [if_neg c1, if_neg (by omega), if_neg (by omega), if_neg (by omega)]
      rw [hb]; rfl
    rw [if_neg (by omega)]
    simp only [show ((4 : Int) - 1).toNat = 3 from rfl, show (4 : Int).toNat = 4 from rfl]
    rw [cn3, cn2, cn1, t4 (by omega)]
    by_cases d2 : (x1.toNat : Int) < 128 ∨ (x1.toNat : Int) ≥ 192
    · rw [if_pos d2]
      have hb : Lib.decodeN n x0.toNat x1.toNat x2.toNat x3.toNat = (65533, 1) := by
        unfold Lib.decodeN
        rw [if_neg c1, if_neg (by omega), if_neg (by omega), if_neg (by omega)]
      rw [hb]; rfl
    rw [if_neg d2]
    simp only
    by_cases d2' : (x2.toNat : Int) < 128 ∨ (x2.toNat : Int) ≥ 192
    · rw [if_pos d2']
      have hb : Lib.decodeN n x0.toNat x1.toNat x2.toNat x3.toNat = (65533, 1) := by
        unfold Lib.decodeN
        rw [if_neg c1, if_neg (by omega), if_neg (by omega), if_neg (by omega)]
      rw [hb]; rfl
    rw [if_neg d2']
    simp only
    by_cases d2'' : (x3.toNat : Int) < 128 ∨ (x3.toNat : Int) ≥ 192
    · rw [if_pos d2'']
      have hb : Lib.decodeN n x0.toNat x1.toNat x2.toNat x3.toNat = (65533, 1) := by
        unfold Lib.decodeN
        rw [if_neg c1, if_neg (by omega), if_neg (by omega), if_neg (by omega)]
      rw [hb]; rfl
    rw [if_neg d2'']
    simp only
    obtain ⟨r, hr⟩ : ∃ r : Int, r = ((((x0.toNat : Int) - 240) * 64 + x1.toNat - 128) * 64 + x2.toNat - 128) * 64 + x3.toNat - 128 := ⟨_, rfl⟩
    rw [← hr]
    obtain ⟨g1, g2⟩ := ite_and (a := pointB r) (p := encB r.toNat = [x0, x1, x2, x3]) (q := 65536 ≤ r ∧ r ≤ 1114111) (by
      rw [Bool.and_eq_true, point_iff, decide_eq_true_eq]
      by_cases hle : r.toNat ≤ 1114111
      · rw [en4 _ hle]; omega
      · omega) (r, 4) (0, 0)
    have hm : x0.toNat % 8 * 262144 + x1.toNat % 64 * 4096 + x2.toNat % 64 * 64 + x3.toNat % 64 = r.toNat := by omega
    have hd : Lib.decodeN n x0.toNat x1.toNat x2.toNat x3.toNat = if r.toNat ≥ 65536 ∧ (r.toNat < 55296 ∨ (57344 ≤ r.toNat ∧ r.toNat ≤ 1114111)) then (r.toNat, 4) else (65533, 1) := by
      unfold Lib.decodeN; rw [if_neg c1, if_neg (by omega), if_neg (by omega), if_pos (by omega), hm]
    rw [hd]
    by_cases d3 : 65536 ≤ r ∧ r ≤ 1114111
    · rw [g1 d3, if_pos (by omega), goF, if_neg (by simp only; omega)]
      apply Prod.ext
      · simp only; omega
      · rfl
    · rw [g2 d3, if_neg (by omega)]; rfl
  have e : longF (x0.toNat : Int) = (0, 0) := by unfold longF; rw [if_neg (by omega), if_neg (by omega), if_neg (by omega), if_neg (by omega)]
  rw [e]
  rw [if_pos (.inl rfl)]
  have hb : Lib.decodeN n x0.toNat x1.toNat x2.toNat x3.toNat = (65533, 1) := by
    unfold Lib.decodeN
    rw [if_neg c1, if_neg (by omega), if_neg (by omega), if_neg (by omega)]
  rw [hb]; rfl
end Go.Proofs.YteonapeaaepipaaDoor
end

section
namespace Go.Proofs.YteonapeaaepipaaDoor
open Go Go.Proofs.YteonapeaaepipaaDoor.AL
attribute [local simp] dT_agg dT_nt dT_noTup dT_cells dT_one bs_toList bs_size strV
inductive CRn : FuncId → List D → Out → Prop
  | first (b : List UInt8) (h0 : b ≠ []) (h1 : b.length ≤ 4096) : CRn 138 [dT b] (.ret (.tup [dI (firstF b).1, dI (firstF b).2]))
theorem hRn : ∀ f ds out, CRn f ds out → PCall Tryd.prog f ds out := by
  intro f ds out h
  cases h with
  | first b h0 h1 => exact first b h0 h1
set_option maxRecDepth 8000 in
theorem rrunes (b : List UInt8) : PCall Tryd.prog 129 [dT b] (.ret (.tup [.sl 1 ((runesL b).map dI), dI (runesE b)])) := by
  refine pcall_of_vc hRn c129 (by simp [a129]) fun hr => ?_
  simp [a129, dT, bs_size]
  refine ⟨fun hlt => ?_, fun hge => ?_⟩
  · have e1 : runesL b = [] := by unfold runesL; rw [if_pos (by omega)]
    have e2 : runesE b = 2 := by unfold runesE; rw [if_pos (by omega)]
    rw [e1, e2]
    exact ⟨leD_nil0 _ _, LeD.refl _⟩
  refine vc_loopK [] (List UInt8 × List Int) (fun x => [(0, true, .d (.lit (.string (bs x.1)))), (4, true, .own 0 1 (x.2.map dI))]) (fun x => [(0, .row)]) (fun x => x.1.length + x.2.length ≤ b.length ∧ (rn x.1.length x.1).map (x.2 ++ ·) = rn b.length b) (fun x => x.1.length) (b, []) (by simp) ⟨[], [], ?_⟩ (fun x hx => ?_)
  · simp
  obtain ⟨c, m⟩ := x
  obtain ⟨h1, h2⟩ := hx
  simp only at h1 h2
  simp
  refine ⟨fun hpos => ?_, fun hz => ?_⟩
  · have hc : c ≠ [] := by rintro rfl; simp at hpos
    have hp := decode_pos c hc
    have hs := rn_step c hc
    have hC := CRn.first c hc (by omega)
    rw [first_eq c hc, goF] at hC
    change 1 ≤ (Lib.decodeGo (bs c)).2 ∧ (Lib.decodeGo (bs c)).2 ≤ c.length at hp
    change rn c.length c = if (Lib.decodeGo (bs c)).1 = 65533 ∧ (Lib.decodeGo (bs c)).2 < 2 then none else (rn (c.drop (Lib.decodeGo (bs c)).2).length (c.drop (Lib.decodeGo (bs c)).2)).map (((Lib.decodeGo (bs c)).1 : Int) :: ·) at hs
    have hd := decode_le (bs c)
    generalize (Lib.decodeGo (bs c)).1 = r at hs hd hC
    generalize (Lib.decodeGo (bs c)).2 = k at hs hd hp hC
    by_cases hb : r = 65533 ∧ k < 2
    · rw [if_pos hb] at hs hC
      refine vc_path [.ret (.tup [dI 0, dI 0])] ?_
      simp
      refine ⟨hC, ?_⟩
      have e1 : runesL b = [] := by unfold runesL; rw [if_neg (by omega), ← h2, hs]; rfl
      have e2 : runesE b = 90 := by unfold runesE; rw [if_neg (by omega), ← h2, hs]; rfl
      rw [e1, e2]
      exact ⟨leD_nil0 _ _, LeD.refl _⟩
    · rw [if_neg hb] at hs hC
      refine vc_path [.ret (.tup [dI r, dI k])] ?_
      have hk0 : ¬ k = 0 := by omega
      simp [hk0]
      refine ⟨hC, ⟨by omega, by omega⟩, by omega, c.drop k, m ++ [(r : Int)], ⟨by simp; omega, ?_⟩, by simp; omega, [(0, 2)], [], ?_⟩
      · rw [← h2, hs]
        cases rn (c.drop k).length (c.drop k) <;> simp
      · simp
        exact leD_of_eq (by rw [bs_data, List.take_length]; rfl)
  · have hc : c = [] := by first | exact hz | exact List.eq_nil_of_length_eq_zero (by omega)
    subst hc
    have e1 : runesL b = m := by unfold runesL; rw [if_neg (by omega), ← h2]; simp [rn]
    have e2 : runesE b = 0 := by unfold runesE; rw [if_neg (by omega), ← h2]; rfl
    simp [e1, e2]
inductive CRw : FuncId → List D → Out → Prop
  | runes (b : List UInt8) : CRw 129 [dT b] (.ret (.tup [.sl 1 ((runesL b).map dI), dI (runesE b)]))
  | sp (r : Int) : CRw 130 [dI r] (.ret (dB (spc r)))
theorem hRw : ∀ f ds out, CRw f ds out → PCall Tryd.prog f ds out := by
  intro f ds out h
  cases h with
  | runes b => exact rrunes b
  | sp r => exact rspace r
theorem rn_len : ∀ (n : Nat) (b : List UInt8) (l : List Int), rn n b = some l → l.length ≤ n
  | 0, b, l, h => by simp [rn] at h; subst h; simp
  | n + 1, b, l, h => by
    simp only [rn] at h
    split at h
    · simp at h; subst h; simp
    · split at h
      · cases h
      · simp only [Option.map_eq_some_iff] at h
        obtain ⟨m, hm, rfl⟩ := h
        have := rn_len n _ m hm
        simp; omega
theorem runesL_len (b : List UInt8) : (runesL b).length ≤ 4096 := by
  unfold runesL
  split
  · simp
  · cases h : rn b.length b with
    | none => simp
    | some l => have := rn_len _ _ _ h; simp; omega
set_option maxRecDepth 8000 in
theorem rword (b : List UInt8) : PCall Tryd.prog 118 [dT b] (.ret (dB (isWd b))) := by
  refine pcall_of_vc hRw c118 (by simp [a118]) fun hr => ?_
  rw [isWd_eq]
  simp [a118, dT, bs_size]
  refine vc_path [] ?_
  simp
  refine ⟨fun q1 => leD_of_eq (by simp [show ¬ 0 < b.length by omega]), fun q1 => ⟨fun q2 => leD_of_eq (by simp [show ¬ (b.length : Int) ≤ 64 by omega]), fun q2 => ?_⟩⟩
  refine vc_path [.ret (.tup [.sl 1 ((runesL b).map dI), dI (runesE b)])] ?_
  simp
  refine ⟨.runes b, fun q3 => leD_of_eq (by simp [q3]), fun q3 => ?_⟩
  have hle := runesL_len b
  refine vc_loopK [0, 3] Nat (fun k => [(5, true, .d (dI k))]) (fun k => []) (fun k => k ≤ (runesL b).length ∧ ∀ j, (h : j < k) → (h2 : j < (runesL b).length) → spc (runesL b)[j] = false) (fun k => (runesL b).length - k) 0 (by simp) ⟨[], [], ?_⟩ (fun k hk => ?_)
  · simp
  obtain ⟨h1, h2⟩ := hk
  simp
  refine ⟨fun hlt => ?_, fun hge => ?_⟩
  · refine vc_path [.ret (dB (spc (runesL b)[k]))] ?_
    simp [hlt]
    refine ⟨.sp _, fun g => leD_of_eq ?_, fun g => ⟨k + 1, ⟨by omega, fun j hj hj2 => ?_⟩, by omega, [], [], ?_⟩⟩
    · have : (runesL b).any spc = true := by rw [List.any_eq_true]; exact ⟨_, List.getElem_mem hlt, g⟩
      simp [this]
    · by_cases e : j = k
      · subst e; exact g
      · exact h2 j (by omega) hj2
    · rw [wrap64 (by omega)]
      simp
  · have : (runesL b).any spc = false := by
      rw [List.any_eq_false]
      intro x hx
      obtain ⟨j, hj, rfl⟩ := List.getElem_of_mem hx
      simp [h2 j (by omega) hj]
    exact leD_of_eq (by simp [this, show 0 < b.length by omega, q2, q3])
set_option maxRecDepth 8000 in
theorem rhas (l : List (List UInt8)) (v : List UInt8) (hl : l.length ≤ 100000) : PCall Tryd.prog 119 [.sl 1 (l.map dT), dT v] (.ret (dB (decide (v ∈ l)))) := by
  refine pcall_of_vc noC c119 (by simp [a119]) fun hr => ?_
  simp [a119, dT_eq v]
  refine vc_loopK [0, 1] Nat (fun i => [(5, true, .d (dI i))]) (fun i => []) (fun i => i ≤ l.length ∧ ∀ j, (h : j < i) → (h2 : j < l.length) → l[j] ≠ v) (fun i => l.length - i) 0 (by simp) ⟨[], [], ?_⟩ (fun i hi => ?_)
  · simp
  obtain ⟨h1, h2⟩ := hi
  simp
  refine ⟨fun hlt => ?_, fun hge => ?_⟩
  · simp [hlt, dT_eq]
    refine ⟨fun hb => leD_of_eq ?_, fun hb => ⟨i + 1, ⟨by omega, fun j hj hj2 => ?_⟩, by omega, [], [], ?_⟩⟩
    · have : v ∈ l := by rw [← hb]; exact List.getElem_mem hlt
      simp [this]
    · by_cases e : j = i
      · subst e; exact hb
      · exact h2 j (by omega) hj2
    · rw [wrap64 (by omega)]
      simp
  · have : v ∉ l := fun hm => by
      obtain ⟨j, hj, e⟩ := List.getElem_of_mem hm
      exact h2 j (by omega) hj e
    exact leD_of_eq (by simp [this])
attribute [local simp] dW_cells dW_agg dW_noTup dSm_cells dSm_agg dSm_noTup dOp_cells dOp_agg dOp_noTup
inductive CRr : FuncId → List D → Out → Prop
  | word (b : List UInt8) : CRr 118 [dT b] (.ret (dB (isWd b)))
  | has (l : List (List UInt8)) (v : List UInt8) (hl : l.length ≤ 100000) : CRr 119 [.sl 1 (l.map dT), dT v] (.ret (dB (decide (v ∈ l))))
theorem hRr : ∀ f ds out, CRr f ds out → PCall Tryd.prog f ds out := by
  intro f ds out h
  cases h with
  | word b => exact rword b
  | has l v hl => exact rhas l v hl
set_option maxRecDepth 8000 in
set_option maxHeartbeats 8000000 in
theorem rright (x : Wd) : PCall Tryd.prog 107 [dW x] (.ret (dB (okW x))) := by
  refine pcall_of_vc hRr c107 (by simp [a107]) fun hr => ?_
  simp [a107, dW]
  have hw := CRr.word x.t
  generalize hwt : isWd x.t = wt at hw
  have bad : (okW x = true → False) → LeD (.lit (.bool false)) (.lit (.bool (okW x))) := fun h1 => leD_of_eq (by congr 2; exact (Bool.eq_false_iff.2 h1).symm)
  have hok : okW x = true → 0 ≤ x.f ∧ x.f < x.u ∧ x.u < 1099511627775 ∧ wt = true ∧ 0 ≤ x.s ∧ x.s < 64 ∧ (x.a.length : Int) ≤ 4 ∧ okA x = true := fun h => by simp [okW, hwt] at h; exact h
  refine vc_path [.ret (dB wt)] ?_
  simp
  refine ⟨hw, fun q => bad fun h => ?_, fun q0 => ⟨fun q => bad fun h => ?_, fun q1 => ⟨fun q => bad fun h => ?_, fun q2 => ⟨fun q => bad fun h => ?_, fun q3 => ⟨fun q => bad fun h => ?_, fun q4 => ⟨fun q => bad fun h => ?_, fun q5 => ⟨fun q => bad fun h => ?_, fun q6 => ?_⟩⟩⟩⟩⟩⟩⟩
  · have := (hok h).2.2.2.1; rw [q] at this; cases this
  · have := hok h; omega
  · have := hok h; omega
  · have := hok h; omega
  · have := hok h; omega
  · have := hok h; omega
  · have := hok h; omega
  refine vc_loopK [1] Nat (fun i => [(3, true, .d (dI i))]) (fun i => []) (fun i => i ≤ x.a.length ∧ ∀ j, j < i → oddAt x j = false) (fun i => x.a.length - i) 0 (by simp) ⟨[], [], ?_⟩ (fun i hi => ?_)
  · simp
  obtain ⟨h1, h2⟩ := hi
  simp
  refine ⟨fun hlt => ?_, fun hge => ?_⟩
  · have ho : oddAt x i = (decide (x.a[i] = x.t ∨ x.a[i] ∈ x.a.take i) || !isWd x.a[i]) := by simp [oddAt, hlt]
    have hc1 := CRr.word x.a[i]
    have hc2 := CRr.has (x.a.take i) x.a[i] (by simp; omega)
    have hbad : oddAt x i = true → LeD (.lit (.bool false)) (.lit (.bool (okW x))) := fun ho => bad fun h => by
      have h8 := (hok h).2.2.2.2.2.2.2
      unfold okA at h8
      rw [List.all_eq_true] at h8
      have := h8 i (by simpa using hlt)
      rw [ho] at this; cases this
    have hi' : (i : Int) ≤ x.a.length := by omega
    rw [List.map_take] at hc2
    by_cases g1 : isWd x.a[i] = true
    · rw [g1] at hc1
      by_cases g2 : x.a[i] = x.t
      · refine vc_pathD [.ret (dB true)] ?_
        simp (config := { maxSteps := 10000000 }) [hlt, dT_eq, g2]
        exact ⟨by have := hc1; rw [g2] at this; exact this, rfl, hbad (by rw [ho]; simp [g2])⟩
      · by_cases g3 : x.a[i] ∈ x.a.take i
        · refine vc_pathD [.ret (dB true), .ret (dB true)] ?_
          rw [decide_eq_true g3] at hc2
          simp (config := { maxSteps := 10000000 }) [hlt, dT_eq, g2, hi']
          exact ⟨hc1, hc2, rfl, hbad (by rw [ho]; simp [g3])⟩
        · refine vc_pathD [.ret (dB true), .ret (dB false)] ?_
          rw [decide_eq_false g3] at hc2
          simp (config := { maxSteps := 10000000 }) [hlt, dT_eq, g2, hi']
          refine ⟨hc1, hc2, rfl, i + 1, ⟨by omega, fun j hj => ?_⟩, by omega, [], [], ?_⟩
          · by_cases e : j = i
            · rw [e, ho, g1]; simp [g2, g3]
            · exact h2 j (by omega)
          · rw [wrap64 (by omega)]
            simp
    · have g1 : isWd x.a[i] = false := by simpa using g1
      rw [g1] at hc1
      refine vc_pathD [.ret (dB false)] ?_
      simp (config := { maxSteps := 10000000 }) [hlt]
      exact ⟨hc1, rfl, hbad (by rw [ho, g1]; simp)⟩
  · have : okA x = true := by
      unfold okA
      rw [List.all_eq_true]
      intro j hj
      rw [h2 j (by simp at hj; omega)]; rfl
    exact leD_of_eq (by simp [okW, hwt, q0, q1, q2, q3, q4, q5, q6, this])
end Go.Proofs.YteonapeaaepipaaDoor
end

section
namespace Go.Proofs.YteonapeaaepipaaDoor
open Go Go.Proofs.YteonapeaaepipaaDoor.AL
attribute [local simp] dT_agg dT_nt dT_noTup dT_cells dT_one bs_toList bs_size strV dW_cells dW_agg dW_noTup dSm_cells dSm_agg dSm_noTup dOp_cells dOp_agg dOp_noTup dWs_cells dWs_one dWs_agg dWs_noTup dWs_nt
inductive CRws : FuncId → List D → Out → Prop
  | right (x : Wd) : CRws 107 [dW x] (.ret (dB (okW x)))
theorem hRws : ∀ f ds out, CRws f ds out → PCall Tryd.prog f ds out := by
  intro f ds out h
  cases h with
  | right x => exact rright x
def lastF (l : List Wd) : Nat → Int
  | 0 => 0
  | i + 1 => (l.getD i default).f
set_option maxRecDepth 8000 in
set_option maxHeartbeats 4000000 in
theorem rwords (l : List Wd) (hl : l.length ≤ 100000) : PCall Tryd.prog 78 [dWs l] (.ret (dB (okWs 0 l))) := by
  refine pcall_of_vc hRws c78 (by simp [a78]) fun hr => ?_
  simp [a78, dWs_eq]
  refine vc_loopK [0] Nat (fun i => [(3, true, .d (dI i))]) (fun i => []) (fun i => i ≤ l.length ∧ okWs (lastF l i) (l.drop i) = okWs 0 l) (fun i => l.length - i) 0 (by simp [lastF]) ⟨[], [], ?_⟩ (fun i hi => ?_)
  · simp
  obtain ⟨h1, h2⟩ := hi
  simp
  refine ⟨fun hlt => ?_, fun hge => ?_⟩
  · rw [List.drop_eq_getElem_cons hlt, okWs] at h2
    have hc := CRws.right l[i]
    have hgf : okW l[i] = true → 0 ≤ l[i].f := fun h => by simp [okW] at h; exact h.1
    by_cases g1 : okW l[i] = true
    · rw [g1] at hc h2
      have hf := hgf g1
      cases i with
      | zero =>
        refine vc_pathD [.ret (dB true)] ?_
        simp (config := { maxSteps := 10000000 }) [hlt]
        have h3 : okWs l[0].f (l.drop 1) = okWs 0 l := by simpa [lastF, hf] using h2
        refine ⟨hc, rfl, 1, ⟨by omega, by simpa [lastF, hlt] using h3⟩, by omega, [], [], ?_⟩
        rw [wrap64 (by omega)]
        simp
      | succ i =>
        have hi : i < l.length := by omega
        have hw : IntKind.i64.wrap (i : Int) = i := wrap64 (by omega)
        by_cases g2 : l[i + 1].f < l[i].f
        · refine vc_pathD [.ret (dB true)] ?_
          simp (config := { maxSteps := 10000000 }) [hlt, hi, hw, g2]
          have h3 : okWs 0 l = false := by rw [← h2]; simp [lastF, hi]; intro h; omega
          exact ⟨⟨by omega, by omega⟩, hc, ⟨by omega, by omega⟩, rfl, leD_of_eq (by rw [h3])⟩
        · refine vc_pathD [.ret (dB true)] ?_
          simp (config := { maxSteps := 10000000 }) [hlt, hi, hw, g2]
          have h3 : okWs l[i + 1].f (l.drop (i + 1 + 1)) = okWs 0 l := by rw [← h2]; simp [lastF, hi]; intro _; omega
          refine ⟨⟨by omega, by omega⟩, hc, ⟨by omega, by omega⟩, rfl, i + 2, ⟨by omega, by simpa [lastF, hlt] using h3⟩, by omega, [], [], ?_⟩
          rw [wrap64 (n := (i : Int) + 1 + 1) (by omega)]
          simp
          exact leD_of_eq (by congr 2)
    · have g1 : okW l[i] = false := by simpa using g1
      rw [g1] at hc h2
      refine vc_pathD [.ret (dB false)] ?_
      simp (config := { maxSteps := 10000000 }) [hlt]
      refine ⟨hc, rfl, leD_of_eq ?_⟩
      rw [← h2]; rfl
  · have hk : i = l.length := by omega
    subst hk
    rw [List.drop_length, okWs] at h2
    exact leD_of_eq (by rw [← h2])
inductive CRc : FuncId → List D → Out → Prop
  | ws (l : List Wd) (hl : l.length ≤ 100000) : CRc 78 [dWs l] (.ret (dB (okWs 0 l)))
  | same (a b : List Wd) : CRc 128 [dWs a, dWs b] (.ret (dB (decide (a = b))))
theorem hRc : ∀ f ds out, CRc f ds out → PCall Tryd.prog f ds out := by
  intro f ds out h
  cases h with
  | ws l hl => exact rwords l hl
  | same a b => exact reqWs a b
set_option maxRecDepth 8000 in
theorem rcheck (m : Sm) : PCall Tryd.prog 45 [dSm m] (.ret (dI (eSm m))) := by
  refine pcall_of_vc hRc c45 (by simp [a45]) fun hr => ?_
  simp [a45, dSm]
  refine ⟨fun q => leD_of_eq (by simp [eSm, show ¬ (m.w.length : Int) ≤ 4096 by omega]), fun q => ?_⟩
  have hc := CRc.ws m.w (by omega)
  generalize ho : okWs 0 m.w = ob at hc
  refine vc_path [.ret (dB ob)] ?_
  simp
  refine ⟨fun q1 => leD_of_eq (by simp [eSm, q, show ¬ 0 ≤ m.x by omega]), fun q1 => ⟨fun q2 => leD_of_eq (by simp [eSm, q, show ¬ m.x ≤ m.w.length by omega]), fun q2 => ⟨hc, fun q3 => leD_of_eq (by simp [eSm, q, q1, q2, ho, q3]), fun q3 => leD_of_eq (by simp [eSm, q, q1, q2, ho, q3])⟩⟩⟩
theorem sm_eq (x y : Sm) : decide (x = y) = (decide (x.x = y.x) && decide (x.w = y.w)) := by
  cases x; cases y; simp [and_comm]
set_option maxRecDepth 8000 in
theorem rallowed (s : Sm) (o : Op) (hx : 0 ≤ s.x) (hl : s.w.length ≤ 4096) : PCall Tryd.prog 117 [dSm s, dOp o] (.ret (dB (okOp s o))) := by
  refine pcall_of_vc hRc c117 (by simp [a117]) fun hr => ?_
  simp [a117, dSm, dOp]
  refine ⟨fun k1 => vc_path [] ?_, fun k1 => ⟨fun k2 => vc_path [] ?_, fun k2 => ⟨fun k3 => vc_path [] ?_, fun k3 => ?_⟩⟩⟩
  · simp [okOp, k1, okAdd]
    refine ⟨fun q1 => ⟨fun q2 => ⟨fun q3 => leD_of_eq (by simp [q1, q2, show 0 < o.w.length by omega]), fun q3 => leD_of_eq (by simp [show ¬ 0 < o.w.length by omega])⟩, fun q2 => leD_of_eq (by simp [q2])⟩, fun q1 => leD_of_eq (by simp [q1])⟩
  · simp
    have e : okOp s o = okRev s o := by simp [okOp, k2]
    rw [e]
    refine ⟨fun q1 => leD_of_eq ?_, fun q1 => ⟨fun q2 => leD_of_eq ?_, fun q2 => ⟨fun q3 => leD_of_eq ?_, fun q3 => ⟨fun q4 => leD_of_eq ?_, fun q4 => ?_⟩⟩⟩⟩
    · simp [okRev, show ¬ s.x ≤ o.a by omega]
    · simp [okRev, show ¬ o.a ≤ s.w.length by omega]
    · simp [okRev, show ¬ 1 ≤ o.c by omega]
    · simp [okRev, show ¬ o.c ≤ 64 by omega]
    have hw : IntKind.i64.wrap (o.a + o.c) = o.a + o.c := wrap64 (by omega)
    rw [hw]
    refine ⟨fun q5 => leD_of_eq ?_, fun q5 => ⟨fun q6 => leD_of_eq ?_, fun q6 => ?_⟩⟩
    · simp [okRev, show ¬ o.a + o.c ≤ s.w.length by omega]
    · simp [okRev, show ¬ (o.w.length : Int) ≤ 64 by omega]
    have hc := CRc.same o.w ((s.w.take (o.a + o.c).toNat).drop o.a.toNat)
    refine vc_pathD [.ret (dB (decide (o.w = (s.w.take (o.a + o.c).toNat).drop o.a.toNat)))] ?_
    simp [dWs] at hc
    simp [hw]
    refine ⟨⟨by omega, by omega, by omega⟩, hc, rfl, leD_of_eq ?_⟩
    simp [okRev, q1, q2, q3, q4, q5, q6]
  · simp [okOp, k1, k2, k3, okFix]
    refine ⟨fun q1 => ⟨fun q2 => ⟨fun q3 => leD_of_eq ?_, fun q3 => leD_of_eq (by simp [q3])⟩, fun q2 => leD_of_eq ?_⟩, fun q1 => leD_of_eq ?_⟩
    · cases hw : o.w <;> simp [q1, q2, q3]
      omega
    · simp [show ¬ o.a ≤ s.w.length by omega]
    · simp [show ¬ s.x ≤ o.a by omega]
  · exact leD_of_eq (by simp [okOp, k1, k2, k3])
end Go.Proofs.YteonapeaaepipaaDoor
end

section
namespace Go.Proofs.YteonapeaaepipaaDoor
open Go Go.Proofs.YteonapeaaepipaaDoor.AL
attribute [local simp] dT_agg dT_nt dT_noTup dT_cells dT_one bs_toList bs_size strV dW_cells dW_agg dW_noTup dSm_cells dSm_agg dSm_noTup dOp_cells dOp_agg dOp_noTup dWs_cells dWs_one dWs_agg dWs_noTup dWs_nt
inductive CRd : FuncId → List D → Out → Prop
  | ck (m : Sm) : CRd 45 [dSm m] (.ret (dI (eSm m)))
  | al (s : Sm) (o : Op) (hx : 0 ≤ s.x) (hl : s.w.length ≤ 4096) : CRd 117 [dSm s, dOp o] (.ret (dB (okOp s o)))
theorem hRd : ∀ f ds out, CRd f ds out → PCall Tryd.prog f ds out := by
  intro f ds out h
  cases h with
  | ck m => exact rcheck m
  | al s o hx hl => exact rallowed s o hx hl
set_option maxRecDepth 8000 in
set_option maxHeartbeats 4000000 in
theorem rDo (s : Sm) (o : Op) : PCall Tryd.prog 103 [dSm s, dOp o] (.ret (.tup [dSm (doX s o), dI (doE s o)])) := by
  refine pcall_of_vc hRd c103 (by simp [a103]) fun hr => ?_
  simp [a103]
  have hc := CRd.ck s
  refine vc_path [.ret (dI (eSm s))] ?_
  simp
  refine ⟨hc, ?_⟩
  by_cases q : eSm s = 0
  · simp [q]
    have hs : s.w.length ≤ 4096 ∧ 0 ≤ s.x := by
      unfold eSm at q
      split at q
      · split at q
        · rename_i h1 h2; exact ⟨by omega, h2.1⟩
        · simp at q
      · simp at q
    have ha := CRd.al s o hs.2 hs.1
    by_cases p : okOp s o = true
    · rw [p] at ha
      refine vc_path [.ret (dB true)] ?_
      simp
      refine ⟨ha, ?_⟩
      have hc2 := CRd.ck (next s o)
      by_cases k1 : o.k = 1
      · have e1 : (o.k == 1) = true := by simp [k1]
        have hl : o.w.length ≤ 64 := by simp [okOp, k1, okAdd] at p; omega
        have hn : next s o = ⟨s.w ++ o.w, s.x⟩ := by simp [next, k1]
        simp [k1]
        refine ⟨⟨by omega, by omega⟩, ⟨by omega, by omega⟩, rfl, ?_⟩
        refine vc_path [.ret (dI (eSm (next s o)))] ?_
        rw [hn] at hc2
        simp [dSm] at hc2
        simp
        refine ⟨by rw [hn]; exact hc2, ?_⟩
        by_cases q2 : eSm (next s o) = 0
        · have d1 : doE s o = 0 := by simp [doE, q, p, q2]
          have d2 : doX s o = next s o := by simp [doX, d1]
          rw [d1, d2, hn]
          simp [q2, dSm]
          exact fun h => absurd (by rw [← hn]; exact q2) h
        · have d1 : doE s o = eSm (next s o) := by simp [doE, q, p]
          have d2 : doX s o = ⟨[], 0⟩ := by simp [doX, d1, q2]
          rw [d1, d2]
          simp [q2]
          exact nilSm
      · by_cases k2 : o.k = 2
        · have hl : s.x ≤ o.a ∧ 1 ≤ o.c ∧ o.a + o.c ≤ s.w.length ∧ o.w.length ≤ 64 := by simp [okOp, k2, okRev] at p; omega
          have hn : next s o = ⟨s.w.take o.a.toNat ++ (o.w ++ s.w.drop (o.a + o.c).toNat), s.x⟩ := by simp [next, k2]
          have hw : IntKind.i64.wrap (o.a + o.c) = o.a + o.c := wrap64 (by omega)
          have ht : List.take s.w.length (List.map dW s.w) = List.map dW s.w := by rw [← List.length_map (f := dW), List.take_length]
          simp [k2, hw, ht]
          refine ⟨⟨by omega, by omega⟩, ⟨by omega, by omega⟩, ⟨by omega, by omega⟩, ⟨by omega, by omega⟩, ⟨by omega, by omega⟩, rfl, ?_⟩
          refine vc_path [.ret (dI (eSm (next s o)))] ?_
          rw [hn] at hc2
          simp [dSm] at hc2
          simp
          refine ⟨by rw [hn]; exact hc2, ?_⟩
          by_cases q2 : eSm (next s o) = 0
          · have d1 : doE s o = 0 := by simp [doE, q, p, q2]
            have d2 : doX s o = next s o := by simp [doX, d1]
            rw [d1, d2, hn]
            simp [q2, dSm]
            exact fun h => absurd (by rw [← hn]; exact q2) h
          · have d1 : doE s o = eSm (next s o) := by simp [doE, q, p]
            have d2 : doX s o = ⟨[], 0⟩ := by simp [doX, d1, q2]
            rw [d1, d2]
            simp [q2]
            exact nilSm
        · have hn : next s o = ⟨s.w, o.a⟩ := by simp [next, k1, k2]
          simp [k1, k2]
          refine ⟨⟨by omega, by omega⟩, ?_⟩
          refine vc_path [.ret (dI (eSm (next s o)))] ?_
          rw [hn] at hc2
          simp [dSm] at hc2
          simp
          refine ⟨by rw [hn]; exact hc2, ?_⟩
          by_cases q2 : eSm (next s o) = 0
          · have d1 : doE s o = 0 := by simp [doE, q, p, q2]
            have d2 : doX s o = next s o := by simp [doX, d1]
            rw [d1, d2, hn]
            simp [q2, dSm]
            exact fun h => absurd (by rw [← hn]; exact q2) h
          · have d1 : doE s o = eSm (next s o) := by simp [doE, q, p]
            have d2 : doX s o = ⟨[], 0⟩ := by simp [doX, d1, q2]
            rw [d1, d2]
            simp [q2]
            exact nilSm
    · have p : okOp s o = false := by simpa using p
      rw [p] at ha
      have d1 : doE s o = 170 := by simp [doE, q, p]
      have d2 : doX s o = ⟨[], 0⟩ := by simp [doX, d1]
      rw [d1, d2]
      refine vc_path [.ret (dB false)] ?_
      simp
      exact ⟨ha, nilSm⟩
  · have e1 : doE s o = eSm s := by simp [doE, q]
    have e2 : doX s o = ⟨[], 0⟩ := by simp [doX, e1, q]
    rw [e1, e2]
    simp [q]
    exact nilSm
end Go.Proofs.YteonapeaaepipaaDoor
end

section
namespace Go.Proofs.YteonapeaaepipaaDoor
open Go Go.Proofs.YteonapeaaepipaaDoor.AL
/-! Plain laws of permits. -/
def errP (s : Sm) (p t : Int) : Int := if eSm s = 0 then (if 0 ≤ p ∧ p ≤ 1073741824 then (if 0 ≤ t ∧ t < 1099511627776 then 0 else 1) else 190) else eSm s
theorem errP_ok {s : Sm} {p t : Int} (h : errP s p t = 0) : eSm s = 0 ∧ (0 ≤ p ∧ p ≤ 1073741824) ∧ 0 ≤ t ∧ t < 1099511627776 := by
  unfold errP at h
  split at h
  · rename_i h1
    split at h
    · rename_i h2
      split at h
      · rename_i h3; exact ⟨h1, h2, h3⟩
      · simp at h
    · simp at h
  · exact absurd h ‹_›
theorem errP_of {s : Sm} {p t : Int} (h1 : eSm s = 0) (h2 : 0 ≤ p ∧ p ≤ 1073741824) (h3 : 0 ≤ t ∧ t < 1099511627776) : errP s p t = 0 := by
  simp [errP, h1, h2, h3]
def oldW (p t : Int) (x : Wd) : Bool := decide (x.u + p ≤ t)
/-- May an op be performed? -/
def alW (s : Sm) (p t : Int) (o : Op) : Bool := decide (errP s p t = 0) && (decide (doE s o = 0) && (decide (o.k ≠ 2) || (!(s.w.drop o.a.toNat).any (oldW p t) && !o.w.any (oldW p t))))
/-- How many of the first n words are not behind the last old one? -/
def lo (p t : Int) (l : List Wd) : Nat → Nat
  | 0 => 0
  | i + 1 => if oldW p t (l.getD i default) = true then i + 1 else lo p t l i
theorem lo_le (p t : Int) (l : List Wd) : ∀ n, lo p t l n ≤ n
  | 0 => Nat.le_refl 0
  | n + 1 => by
    unfold lo
    split
    · exact Nat.le_refl _
    · exact Nat.le_succ_of_le (lo_le p t l n)
theorem lo_mono_n (p t : Int) (l : List Wd) : ∀ n m, n ≤ m → lo p t l n ≤ lo p t l m
  | n, 0, h => by
    have : n = 0 := by omega
    subst this; exact Nat.le_refl _
  | n, m + 1, h => by
    by_cases e : n = m + 1
    · subst e; exact Nat.le_refl _
    · have ih := lo_mono_n p t l n m (by omega)
      have := lo_le p t l n
      conv => rhs; unfold lo
      split
      · omega
      · exact ih
theorem lo_old (p t : Int) (l : List Wd) : ∀ n i, i < n → oldW p t (l.getD i default) = true → i < lo p t l n
  | 0, i, h, _ => by omega
  | n + 1, i, h, ho => by
    unfold lo
    split
    · omega
    · rename_i hn
      by_cases e : i = n
      · subst e; exact absurd ho hn
      · exact lo_old p t l n i (by omega) ho
theorem lo_new (p t : Int) (l : List Wd) : ∀ n i, lo p t l n ≤ i → i < n → oldW p t (l.getD i default) = false := fun n i h1 h2 => by
  cases h : oldW p t (l.getD i default)
  · rfl
  · have := lo_old p t l n i h2 h; omega
/-- It is the last old one, or there is none. -/
theorem lo_is (p t : Int) (l : List Wd) : ∀ n, lo p t l n = 0 ∨ oldW p t (l.getD (lo p t l n - 1) default) = true
  | 0 => .inl rfl
  | n + 1 => by
    unfold lo
    split
    · rename_i h; exact .inr h
    · exact lo_is p t l n
theorem lo_congr (p t : Int) (l m : List Wd) : ∀ n, (∀ i, i < n → l.getD i default = m.getD i default) → lo p t l n = lo p t m n
  | 0, _ => rfl
  | n + 1, h => by
    unfold lo
    rw [h n (by omega), lo_congr p t l m n (fun i hi => h i (by omega))]
def stN (s : Sm) (p t : Int) : Int := if errP s p t = 0 then max s.x (lo p t s.w s.w.length : Nat) else 0
theorem stN_ok {s : Sm} {p t : Int} (h : errP s p t = 0) : stN s p t = max s.x (lo p t s.w s.w.length : Nat) ∧ s.x ≤ stN s p t ∧ 0 ≤ stN s p t ∧ stN s p t ≤ s.w.length := by
  have e : stN s p t = max s.x (lo p t s.w s.w.length : Nat) := by simp [stN, h]
  have h1 := lo_le p t s.w s.w.length
  obtain ⟨_, h2, h3, _⟩ := eSm_ok (errP_ok h).1
  refine ⟨e, ?_, ?_, ?_⟩ <;> rw [e] <;> omega
theorem old_later {p t t' : Int} (h : t ≤ t') (x : Wd) : oldW p t x = true → oldW p t' x = true := by
  simp [oldW]; omega
theorem lo_later {p q t t' : Int} (hp : ∀ x, oldW p t x = true → oldW q t' x = true) (l : List Wd) : ∀ n, lo p t l n ≤ lo q t' l n
  | 0 => Nat.le_refl 0
  | n + 1 => by
    have := lo_le p t l n
    have ih := lo_later hp l n
    unfold lo
    split
    · rename_i h; rw [if_pos (hp _ h)]; exact Nat.le_refl _
    · split <;> omega
theorem getD_take {l : List Wd} {n i : Nat} (h : i < n) : (l.take n).getD i default = l.getD i default := by
  simp [List.getD, List.getElem?_take, h]
theorem getD_app {l m : List Wd} {i : Nat} (h : i < l.length) : (l ++ m).getD i default = l.getD i default := by
  simp [List.getD, List.getElem?_append_left h]
theorem any_drop_false {f : Wd → Bool} {l : List Wd} {k : Nat} (h : (l.drop k).any f = false) {i : Nat} (h1 : k ≤ i) (h2 : i < l.length) : f (l.getD i default) = false := by
  rw [List.any_eq_false] at h
  have hm : l[i] ∈ l.drop k := by
    rw [List.mem_drop_iff_getElem]
    exact ⟨i - k, by omega, by congr 1; omega⟩
  have := h _ hm
  simpa [List.getD, List.getElem?_eq_getElem h2] using this
theorem any_drop_true {f : Wd → Bool} {l : List Wd} {k : Nat} (h : (l.drop k).any f = true) : ∃ i, k ≤ i ∧ i < l.length ∧ f (l.getD i default) = true := by
  rw [List.any_eq_true] at h
  obtain ⟨x, hx, hf⟩ := h
  obtain ⟨j, hj, rfl⟩ := List.mem_drop_iff_getElem.1 hx
  exact ⟨k + j, by omega, by omega, by simpa [List.getD, List.getElem?_eq_getElem (show k + j < l.length by omega)] using hf⟩
theorem alW_ok {s : Sm} {p t : Int} {o : Op} (h : alW s p t o = true) : errP s p t = 0 ∧ doE s o = 0 ∧ (o.k = 2 → (s.w.drop o.a.toNat).any (oldW p t) = false ∧ o.w.any (oldW p t) = false) := by
  simp only [alW, Bool.and_eq_true, decide_eq_true_eq, Bool.or_eq_true, Bool.not_eq_true'] at h
  exact ⟨h.1, h.2.1, fun hk => h.2.2.resolve_left (fun hn => hn hk)⟩
/-- What is stable remains. -/
theorem remain_step {s : Sm} {p t : Int} {o : Op} (h : alW s p t o = true) :
    eSm (doX s o) = 0 ∧ stN s p t ≤ stN (doX s o) p t ∧ (stN s p t ≤ (doX s o).w.length) ∧ (doX s o).w.take (stN s p t).toNat = s.w.take (stN s p t).toNat := by
  obtain ⟨h1, h2, h3⟩ := alW_ok h
  obtain ⟨e1, e2, e3, e4⟩ := doE_ok h2
  obtain ⟨s1, s2, s3, s4⟩ := stN_ok h1
  obtain ⟨_, p2, p3⟩ := errP_ok h1
  have h1' : errP (doX s o) p t = 0 := errP_of (by rw [e4]; exact e3) p2 p3
  obtain ⟨r1, r2, r3, r4⟩ := stN_ok h1'
  obtain ⟨x1, x2, x3, _⟩ := eSm_ok e1
  refine ⟨by rw [e4]; exact e3, ?_⟩
  -- the words before the stable end are the same
  have key : (stN s p t ≤ (doX s o).w.length) ∧ (doX s o).w.take (stN s p t).toNat = s.w.take (stN s p t).toNat ∧ s.x ≤ (doX s o).x := by
    rw [e4]
    unfold okOp at e2
    unfold next
    split
    · exact ⟨by simp; omega, by simp only; rw [List.take_append_of_le_length (by omega)], Int.le_refl _⟩
    · rename_i k1
      split
      · rename_i k2
        rw [if_neg k1, if_pos k2] at e2
        obtain ⟨a1, a2, a3, a4, a5, a6, a7⟩ := okRev_ok e2
        obtain ⟨g1, g2⟩ := h3 k2
        have hle : stN s p t ≤ o.a := by
          rw [s1]
          have : (lo p t s.w s.w.length : Int) ≤ o.a := by
            rcases lo_is p t s.w s.w.length with hz | hz
            · omega
            · have hl := lo_le p t s.w s.w.length
              by_cases hh : (lo p t s.w s.w.length : Int) ≤ o.a
              · exact hh
              · have := any_drop_false g1 (i := lo p t s.w s.w.length - 1) (by omega) (by omega)
                rw [this] at hz; cases hz
          omega
        refine ⟨by simp; omega, ?_, Int.le_refl _⟩
        simp only
        rw [List.take_append_of_le_length (by simp; omega), List.take_take]
        congr 1; omega
      · rename_i k2
        rw [if_neg k1, if_neg k2] at e2
        split at e2
        · exact ⟨by simpa using s4, rfl, (okFix_ok e2).1⟩
        · cases e2
  obtain ⟨k1, k2, k3⟩ := key
  refine ⟨?_, k1, k2⟩
  rw [r1]
  have : (lo p t s.w s.w.length : Int) ≤ lo p t (doX s o).w (doX s o).w.length := by
    rcases lo_is p t s.w s.w.length with hz | hz
    · omega
    · have hl := lo_le p t s.w s.w.length
      by_cases h0 : lo p t s.w s.w.length = 0
      · omega
      · have hlt : lo p t s.w s.w.length - 1 < (stN s p t).toNat := by omega
        have he : (doX s o).w.getD (lo p t s.w s.w.length - 1) default = s.w.getD (lo p t s.w s.w.length - 1) default := by
          rw [← getD_take hlt, k2, getD_take hlt]
        have := lo_old p t (doX s o).w (doX s o).w.length (lo p t s.w s.w.length - 1) (by omega) (by rw [he]; exact hz)
        omega
  rw [s1]; omega
theorem stN_later {s : Sm} {p t t' : Int} (h : errP s p t = 0) (h' : errP s p t' = 0) (ht : t ≤ t') : stN s p t ≤ stN s p t' := by
  rw [(stN_ok h).1, (stN_ok h').1]
  have := lo_later (p := p) (q := p) (t := t) (t' := t') (old_later ht) s.w s.w.length
  omega
/-- The word that Change puts. -/
def chW (x : Wd) : Wd := ⟨if x.t = [97] then [98] else [97], x.f, x.u, x.s, []⟩
def chO (s : Sm) (p t i : Int) : Op := if errP s p t = 0 then (if 0 ≤ i ∧ i < s.w.length then (if i < stN s p t then ⟨0, 0, 0, []⟩ else ⟨2, i, 1, [chW (s.w.getD i.toNat default)]⟩) else ⟨0, 0, 0, []⟩) else ⟨0, 0, 0, []⟩
def chB (s : Sm) (p t i : Int) : Bool := decide (errP s p t = 0) && (decide (0 ≤ i ∧ i < s.w.length) && decide (stN s p t ≤ i))
def chE (s : Sm) (p t i : Int) : Int := if errP s p t = 0 then (if 0 ≤ i ∧ i < s.w.length then 0 else 1) else errP s p t
theorem okW_ch {x : Wd} (h : okW x = true) : okW (chW x) = true := by
  simp only [okW, Bool.and_eq_true, decide_eq_true_eq] at h ⊢
  obtain ⟨h1, h2, h3, _, h5, h6, _⟩ := h
  refine ⟨h1, h2, h3, ?_, h5, h6, by simp [chW], by simp [chW, okA]⟩
  unfold chW
  simp only
  split <;> decide
theorem okWs_set : ∀ (m : Int) (l : List Wd) (i : Nat) (y : Wd), okWs m l = true → (h : i < l.length) → okW y = true → y.f = l[i].f → okWs m (l.take i ++ (y :: l.drop (i + 1))) = true
  | m, x :: r, 0, y, hl, h, hy, hf => by
    simp only [okWs, Bool.and_eq_true, decide_eq_true_eq] at hl
    simp at hf
    simp only [List.take_zero, List.nil_append, List.drop_succ_cons, List.drop_zero, okWs, Bool.and_eq_true, decide_eq_true_eq]
    rw [hf]
    exact ⟨hy, hl.2⟩
  | m, x :: r, i + 1, y, hl, h, hy, hf => by
    simp only [okWs, Bool.and_eq_true, decide_eq_true_eq] at hl
    simp only [List.take_succ_cons, List.cons_append, List.drop_succ_cons, okWs, Bool.and_eq_true, decide_eq_true_eq]
    exact ⟨hl.1, hl.2.1, okWs_set x.f r i y hl.2.2 (by simpa using h) hy (by simpa using hf)⟩
theorem okWs_mem : ∀ (m : Int) (l : List Wd), okWs m l = true → ∀ x ∈ l, okW x = true
  | m, y :: r, h, x, hx => by
    simp only [okWs, Bool.and_eq_true] at h
    rcases List.mem_cons.1 hx with e | e
    · rw [e]; exact h.1
    · exact okWs_mem _ r h.2.2 x e
/-- All words that are not stable can be changed. -/
theorem change_law {s : Sm} {p t : Int} {i : Nat} (h : errP s p t = 0) (h1 : i < s.w.length) (h2 : stN s p t ≤ i) :
    doE s ⟨2, i, 1, [chW s.w[i]]⟩ = 0 ∧ doX s ⟨2, i, 1, [chW s.w[i]]⟩ = ⟨s.w.take i ++ (chW s.w[i] :: s.w.drop (i + 1)), s.x⟩ ∧ alW s p t ⟨2, i, 1, [chW s.w[i]]⟩ = true := by
  obtain ⟨e1, e2, e3⟩ := errP_ok h
  obtain ⟨x1, x2, x3, x4⟩ := eSm_ok e1
  obtain ⟨s1, s2, s3, s4⟩ := stN_ok h
  have hd : ((s.w.take ((i : Int) + 1).toNat).drop (i : Int).toNat) = [s.w[i]] := by
    rw [show ((i : Int) + 1).toNat = i + 1 by omega, show (i : Int).toNat = i by omega, List.take_add_one, List.drop_append]
    rw [List.length_take, Nat.min_eq_left (by omega), Nat.sub_self]
    simp [h1]
  have hne : chW s.w[i] ≠ s.w[i] := fun e => by
    have : (chW s.w[i]).t = s.w[i].t := by rw [e]
    unfold chW at this
    simp only at this
    split at this
    · rename_i h; rw [h] at this; simp at this
    · rename_i h; exact h this.symm
  have hok : okOp s ⟨2, i, 1, [chW s.w[i]]⟩ = true := by
    simp only [okOp]
    rw [if_neg (by decide), if_pos trivial]
    refine okRev_of (by simp only; omega) (by simp only; omega) (by simp) (by simp) (by simp only; omega) (by simp) ?_
    simp only [hd]
    exact fun e => hne (by simpa using e)
  have hn : next s ⟨2, i, 1, [chW s.w[i]]⟩ = ⟨s.w.take i ++ (chW s.w[i] :: s.w.drop (i + 1)), s.x⟩ := by
    simp only [next]
    rw [if_neg (by decide), if_pos trivial, show ((i : Int) + 1).toNat = i + 1 by omega, show (i : Int).toNat = i by omega]
    rfl
  have hw := okWs_set 0 s.w i (chW s.w[i]) x4 h1 (okW_ch (okWs_mem 0 s.w x4 _ (List.getElem_mem h1))) rfl
  have he : eSm (next s ⟨2, i, 1, [chW s.w[i]]⟩) = 0 := by
    rw [hn]
    exact eSm_of (by simp; omega) x2 (by simp; omega) hw
  have hdo : doE s ⟨2, i, 1, [chW s.w[i]]⟩ = 0 := by rw [doE_eq e1 hok, he]
  refine ⟨hdo, by rw [(doE_ok hdo).2.2.2, hn], ?_⟩
  have no : ∀ j, i ≤ j → j < s.w.length → oldW p t (s.w.getD j default) = false := fun j hj hj2 => lo_new p t s.w s.w.length j (by omega) hj2
  have hany : (s.w.drop i).any (oldW p t) = false := by
    cases hh : (s.w.drop i).any (oldW p t)
    · rfl
    · obtain ⟨j, j1, j2, j3⟩ := any_drop_true hh
      rw [no j j1 j2] at j3; cases j3
  have hch : oldW p t (chW s.w[i]) = false := by
    have := no i (Nat.le_refl _) h1
    simp only [List.getD, List.getElem?_eq_getElem h1, Option.getD_some] at this
    exact this
  simp [alW, h, hdo, hany, hch]
theorem any_imp {f g : Wd → Bool} (h : ∀ x, f x = true → g x = true) {l : List Wd} (hg : l.any g = false) : l.any f = false := by
  rw [List.any_eq_false] at hg ⊢
  exact fun x hx hf => hg x hx (h x hf)
/-- Earlier, and with a greater Late. -/
theorem more_law {s : Sm} {p q t u : Int} {o : Op} (hq : p ≤ q) (hu : u ≤ t) (h : errP s p t = 0) (h' : errP s q u = 0) :
    (alW s p t o = true → alW s q u o = true) ∧ stN s q u ≤ stN s p t := by
  have him : ∀ x, oldW q u x = true → oldW p t x = true := fun x => by simp [oldW]; omega
  constructor
  · intro ha
    obtain ⟨_, a2, a3⟩ := alW_ok ha
    by_cases hk : o.k = 2
    · obtain ⟨b1, b2⟩ := a3 hk
      simp [alW, h', a2, any_imp him b1, any_imp him b2]
    · simp [alW, h', a2, hk]
  · rw [(stN_ok h).1, (stN_ok h').1]
    have := lo_later him s.w s.w.length
    omega
/-- What is refused though it can be performed. -/
theorem fixed_law {s : Sm} {p t : Int} {o : Op} (h : errP s p t = 0) (hd : doE s o = 0) (ha : alW s p t o = false) : o.k = 2 ∧ ((s.w.any (oldW p t)) = true ∨ o.w.any (oldW p t) = true) := by
  by_cases hk : o.k = 2
  · refine ⟨hk, ?_⟩
    simp only [alW, h, hd, hk, decide_true, Bool.true_and] at ha
    cases h1 : (s.w.drop o.a.toNat).any (oldW p t)
    · cases h2 : o.w.any (oldW p t)
      · simp [h1, h2] at ha
      · exact .inr rfl
    · refine .inl ?_
      rw [List.any_eq_true] at h1 ⊢
      obtain ⟨x, hx, hf⟩ := h1
      exact ⟨x, List.mem_of_mem_drop hx, hf⟩
  · simp [alW, h, hd, hk] at ha
end Go.Proofs.YteonapeaaepipaaDoor
end

section
namespace Go.Proofs.YteonapeaaepipaaDoor
open Go Go.Proofs.YteonapeaaepipaaDoor.AL
/-! Plain laws of chunks. -/
def chR (d k : Int) : Bool := decide (1 ≤ d) && (decide (d ≤ 1073741824) && (decide (0 ≤ k) && decide (k ≤ (1099511627776 : Int).tdiv d - 1)))
theorem chR_ok {d k : Int} (h : chR d k = true) : 1 ≤ d ∧ d ≤ 1073741824 ∧ 0 ≤ k ∧ 0 ≤ k * d ∧ (k + 1) * d ≤ 1099511627776 ∧ k * d ≤ (k + 1) * d := by
  simp only [chR, Bool.and_eq_true, decide_eq_true_eq] at h
  obtain ⟨h1, h2, h3, h4⟩ := h
  rw [Int.tdiv_eq_ediv_of_nonneg (by decide)] at h4
  have hm : (k + 1) * d ≤ 1099511627776 := by
    have := Int.mul_le_mul_of_nonneg_right (show k + 1 ≤ 1099511627776 / d by omega) (show 0 ≤ d by omega)
    have h5 := Int.ediv_mul_le 1099511627776 (show d ≠ 0 by omega)
    omega
  have h0 : 0 ≤ k * d := Int.mul_nonneg h3 (by omega)
  have : (k + 1) * d = k * d + d := by rw [Int.add_mul, Int.one_mul]
  exact ⟨h1, h2, h3, h0, hm, by omega⟩
theorem chR_of {d k : Int} (h1 : 1 ≤ d) (h2 : d ≤ 1073741824) (h3 : 0 ≤ k) (h4 : (k + 1) * d ≤ 1099511627776) : chR d k = true := by
  have : k + 1 ≤ 1099511627776 / d := (Int.le_ediv_iff_mul_le (by omega)).2 h4
  simp only [chR, Bool.and_eq_true, decide_eq_true_eq]
  rw [Int.tdiv_eq_ediv_of_nonneg (by decide)]
  exact ⟨h1, h2, h3, by omega⟩
/-- Where the words that begin at a time or later begin. -/
def sinN (T : Int) (l : List Wd) : Nat := l.findIdx fun x => decide (T ≤ x.f)
theorem sin_le (T : Int) (l : List Wd) : sinN T l ≤ l.length := List.findIdx_le_length
theorem okWs_sorted : ∀ (m : Int) (l : List Wd), okWs m l = true → ∀ i j, (hij : i ≤ j) → (hj : j < l.length) → m ≤ (l[i]'(by omega)).f ∧ (l[i]'(by omega)).f ≤ l[j].f
  | m, x :: r, h, i, j, hij, hj => by
    simp only [okWs, Bool.and_eq_true, decide_eq_true_eq] at h
    match i, j with
    | 0, 0 => exact ⟨h.2.1, Int.le_refl _⟩
    | 0, j + 1 =>
      have := okWs_sorted x.f r h.2.2 j j (Nat.le_refl _) (by simpa using hj)
      exact ⟨h.2.1, by simpa using this.1⟩
    | i + 1, j + 1 =>
      have := okWs_sorted x.f r h.2.2 i j (by omega) (by simpa using hj)
      simp only [List.getElem_cons_succ]
      omega
theorem sin_lt {T : Int} {l : List Wd} {i : Nat} (h : i < sinN T l) (hi : i < l.length) : l[i].f < T := by
  have := List.not_of_lt_findIdx h
  simpa using this
theorem sin_ge {T : Int} {m : Int} {l : List Wd} (hl : okWs m l = true) {i : Nat} (h : sinN T l ≤ i) (hi : i < l.length) : T ≤ l[i].f := by
  have hlt : sinN T l < l.length := by omega
  have h1 : T ≤ (l[sinN T l]).f := by
    have := List.findIdx_getElem (p := fun x : Wd => decide (T ≤ x.f)) (xs := l) (w := hlt)
    exact of_decide_eq_true this
  have := (okWs_sorted m l hl (sinN T l) i h hi).2
  omega
theorem sin_is {T : Int} {m : Int} {l : List Wd} (hl : okWs m l = true) {i : Nat} (hi : i ≤ l.length) (h1 : ∀ j, (h : j < i) → (h2 : j < l.length) → l[j].f < T) (h2 : ∀ j, i ≤ j → (h2 : j < l.length) → T ≤ l[j].f) : sinN T l = i := by
  rcases Nat.lt_trichotomy (sinN T l) i with h | h | h
  · have a := sin_ge hl (Nat.le_refl _) (show sinN T l < l.length by omega)
    have b := h1 (sinN T l) h (by omega)
    omega
  · exact h
  · have hle := sin_le T l
    have a := sin_lt h (by omega)
    have b := h2 i (Nat.le_refl _) (by omega)
    omega
theorem sin_mono {T U : Int} (h : T ≤ U) {l : List Wd} : sinN T l ≤ sinN U l := by
  rcases Nat.lt_or_ge (sinN U l) (sinN T l) with hlt | hge
  · have hle := sin_le T l
    have a := sin_lt hlt (by omega)
    have b : U ≤ (l[sinN U l]'(by omega)).f := by
      have := List.findIdx_getElem (p := fun x : Wd => decide (U ≤ x.f)) (xs := l) (w := show sinN U l < l.length by omega)
      exact of_decide_eq_true this
    omega
  · exact hge
def ckE (w : List Wd) (d k : Int) : Int := if eSm ⟨w, 0⟩ = 0 then (if chR d k = true then 0 else 230) else eSm ⟨w, 0⟩
def ckA (w : List Wd) (d k : Int) : Int := if ckE w d k = 0 then (sinN (k * d) w : Nat) else 0
def ckL (w : List Wd) (d k : Int) : List Wd := if ckE w d k = 0 then (w.take (sinN ((k + 1) * d) w)).drop (sinN (k * d) w) else []
theorem ckE_ok {w : List Wd} {d k : Int} (h : ckE w d k = 0) : eSm ⟨w, 0⟩ = 0 ∧ chR d k = true := by
  unfold ckE at h
  split at h
  · rename_i h1
    split at h
    · rename_i h2; exact ⟨h1, h2⟩
    · simp at h
  · exact absurd h ‹_›
def pE (s : Sm) (p t d k : Int) : Int := if errP s p t = 0 then (if chR d k = true then 0 else 230) else errP s p t
def pB (s : Sm) (p t d k : Int) : Bool := decide (pE s p t d k = 0) && decide ((sinN ((k + 1) * d) s.w : Int) < stN s p t)
def pI (s : Sm) (p t d k : Int) : Int := if pB s p t d k = true then (sinN ((k + 1) * d) s.w : Nat) else 0
theorem pE_ok {s : Sm} {p t d k : Int} (h : pE s p t d k = 0) : errP s p t = 0 ∧ chR d k = true := by
  unfold pE at h
  split at h
  · rename_i h1
    split at h
    · rename_i h2; exact ⟨h1, h2⟩
    · simp at h
  · exact absurd h ‹_›
/-- Every word is in exactly one chunk. -/
theorem whole_step {w : List Wd} {d : Int} {k : Nat} (h : ckE w d k = 0) : w.take (sinN (k * d) w) ++ ckL w d k = w.take (sinN (((k + 1 : Nat) : Int) * d) w) ∧ ckA w d k = (w.take (sinN (k * d) w)).length := by
  obtain ⟨h1, h2⟩ := ckE_ok h
  obtain ⟨r1, r2, r3, r4, r5, r6⟩ := chR_ok h2
  have hle := sin_mono (l := w) r6
  have hl := sin_le ((k : Int) * d) w
  constructor
  · unfold ckL
    rw [if_pos h]
    have e : ((k + 1 : Nat) : Int) = (k : Int) + 1 := by omega
    rw [e]
    have : w.take (sinN ((k : Int) * d) w) = (w.take (sinN (((k : Int) + 1) * d) w)).take (sinN ((k : Int) * d) w) := by
      rw [List.take_take]; congr 1; omega
    rw [this, List.take_append_drop]
  · unfold ckA
    rw [if_pos h]
    simp; omega
/-- The error of the first stream that has one. -/
def fE (p t d k : Int) : List Sm → Int
  | [] => 0
  | s :: r => if pE s p t d k = 0 then fE p t d k r else pE s p t d k
def whyOf (p t d k : Int) (x : Sm × Bool) : Int := if x.2 = true ∧ pB x.1 p t d k = true then pI x.1 p t d k else -1
def whyL (p t d k : Int) (l : List Sm) (hd : List Bool) : List Int := (l.zip hd).map (whyOf p t d k)
def waitedN (hd : List Bool) : Nat := hd.countP id
def passedN (p t d k : Int) (l : List Sm) (hd : List Bool) : Nat := (l.zip hd).countP fun x => x.2 && pB x.1 p t d k
def stE (l : List Sm) (hd : List Bool) (p t d k due : Int) : Int :=
  if 16 < l.length then 2 else if hd.length ≠ l.length then 1 else if l = [] ∧ pE ⟨[], 0⟩ p t d k ≠ 0 then pE ⟨[], 0⟩ p t d k else if fE p t d k l ≠ 0 then fE p t d k l else if 0 ≤ due ∧ due < 1099511627776 then 0 else 1
def stV (l : List Sm) (hd : List Bool) (p t d k due : Int) : Int :=
  if stE l hd p t d k due = 0 then (if 0 < waitedN hd ∧ waitedN hd = passedN p t d k l hd then 2 else if due ≤ t then 1 else 0) else 0
def stY (l : List Sm) (hd : List Bool) (p t d k due : Int) : List Int := if stE l hd p t d k due = 0 then whyL p t d k l hd else []
end Go.Proofs.YteonapeaaepipaaDoor
end

section
namespace Go.Proofs.YteonapeaaepipaaDoor
open Go Go.Proofs.YteonapeaaepipaaDoor.AL
attribute [local simp] dT_agg dT_nt dT_noTup dT_cells dT_one bs_toList bs_size strV dW_cells dW_agg dW_noTup dSm_cells dSm_agg dSm_noTup dOp_cells dOp_agg dOp_noTup dWs_cells dWs_one dWs_agg dWs_noTup dWs_nt
theorem dW_nt (x : Wd) (ds : List D) : (dW x = .tup ds) = False := by simp [dW]
theorem nilOp (k a c : Int) : LeD (.agg [.lit (.int .i64 k), .lit (.int .i64 a), .lit (.int .i64 c), .nil 5]) (dOp ⟨k, a, c, []⟩) := LeD.agg (.cons (LeD.refl _) (.cons (LeD.refl _) (.cons (LeD.refl _) (.cons (LeD.nil 5) .nil)))) (by simp)
theorem two {a b c d : D} (h1 : LeD a c) (h2 : LeD b d) : All2 LeD [a, b] [c, d] := .cons h1 (.cons h2 .nil)
theorem LeD_sl {sz : Nat} {es es' : List D} (hl : All2 LeD (D.flat es) (D.flat es')) (hlen : es.length = es'.length) (hz : ∀ e ∈ es', e.cells.length = sz) (h1 : ∀ c ∈ D.flat es', c.one = true) : LeD (.sl sz es) (.sl sz es') := fun I w v r => by
  cases r with
  | sl ad vs hn hc hm hA hz0 h10 hI hr =>
    refine .sl ad vs (hn.trans hlen) hc hm (hA.imp id fun e => ?_) hz h1 (fun k c hk => ?_) (fun k c hk => ?_)
    · subst e; exact List.eq_nil_of_length_eq_zero (by rw [← hlen]; rfl)
    · obtain ⟨x, hx, _⟩ := all2_get hl hk
      exact hI k x hx
    · obtain ⟨x, hx, hle⟩ := all2_get hl hk
      exact hle _ _ _ (hr k x hx)
def dP (p : Int) : D := .agg [dI p]
theorem dP_cells (p : Int) : (dP p).cells = [dI p] := rfl
theorem dP_agg (p : Int) : (dP p).isAgg = true := rfl
theorem dP_noTup (p : Int) : (AV.d (dP p)).noTup = true := rfl
attribute [local simp] dP_cells dP_agg dP_noTup
/-- The condition to be old. -/
def dOld (p t : Int) : D := .fn (.func 87) [] [.ip (dP p), .ip (dI t)]
theorem dOld_cells (p t : Int) : (dOld p t).cells = [dOld p t] := rfl
theorem dOld_agg (p t : Int) : (dOld p t).isAgg = false := rfl
theorem dOld_noTup (p t : Int) : (AV.d (dOld p t)).noTup = true := rfl
theorem dOld_one (p t : Int) : (dOld p t).one = true := rfl
theorem isOld (p t : Int) : PCall Tryd.prog 56 [dP p, dI t] (.ret (dOld p t)) := by
  refine pcall_of_vcZ noC c56 (by simp [a56]) fun hr => ?_
  simp [a56, dOld]
def smallU (x : Wd) : Prop := -1099511627776 ≤ x.u ∧ x.u ≤ 1099511627776
def okP (p : Int) : Prop := 0 ≤ p ∧ p ≤ 1073741824
theorem isOld1 (p t : Int) (x : Wd) (hx : smallU x) (hp : okP p) : PCall Tryd.prog 87 [dW x, .ip (dP p), .ip (dI t)] (.ret (dB (oldW p t x))) := by
  refine pcall_of_vc noC c87 (by simp [a87]) fun hr => ?_
  have hw : IntKind.i64.wrap (x.u + p) = x.u + p := wrap64 (by obtain ⟨h1, h2⟩ := hx; obtain ⟨h3, h4⟩ := hp; omega)
  simp [a87, hw]
  exact LeD.refl _
inductive COi : FuncId → List D → Out → Prop
  | old (p t : Int) (x : Wd) (hx : smallU x) (hp : okP p) : COi 87 [dW x, .ip (dP p), .ip (dI t)] (.ret (dB (oldW p t x)))
theorem hOi : ∀ f ds out, COi f ds out → PCall Tryd.prog f ds out := by
  intro f ds out h
  cases h with
  | old p t x hx hp => exact isOld1 p t x hx hp
def firstW (f : Wd → Bool) (l : List Wd) : Int := match l.findIdx? f with | some i => i | none => -1
set_option maxRecDepth 8000 in
theorem indexW (l : List Wd) (p t : Int) (hl : ∀ x ∈ l, smallU x) (hp : okP p) : PCall Tryd.prog 113 [dWs l, dOld p t] (.ret (dI (firstW (oldW p t) l))) := by
  refine pcall_of_vc hOi c113 (by simp [a113]) fun hr => ?_
  have hlen := (hr (dWs l) (by simp)).sl.1
  simp at hlen
  simp [a113, dWs_eq, dOld]
  refine vc_loopK [0, 1, 7] Nat (fun i => [(8, true, .d (dI i))]) (fun i => []) (fun i => i ≤ l.length ∧ ∀ j, (h : j < i) → (h2 : j < l.length) → oldW p t l[j] = false) (fun i => l.length - i) 0 (by simp) ⟨[], [], ?_⟩ (fun i hi => ?_)
  · simp
  obtain ⟨h1, h2⟩ := hi
  simp
  refine ⟨fun hlt => ?_, fun hge => ?_⟩
  · have hc := COi.old p t l[i] (hl _ (List.getElem_mem hlt)) hp
    cases hb : oldW p t l[i]
    · rw [hb] at hc
      refine vc_path [.ret (dB false)] ?_
      simp [hlt]
      refine ⟨hc, i + 1, ⟨by omega, fun j hj hj2 => ?_⟩, by omega, [], [], ?_⟩
      · by_cases e : j = i
        · subst e; exact hb
        · exact h2 j (by omega) hj2
      · rw [wrap64 (by omega)]
        simp
    · rw [hb] at hc
      refine vc_path [.ret (dB true)] ?_
      simp [hlt]
      refine ⟨hc, leD_of_eq ?_⟩
      have : l.findIdx? (oldW p t) = some i := by
        rw [List.findIdx?_eq_some_iff_getElem]
        exact ⟨hlt, hb, fun j hj => by simp [h2 j hj (by omega)]⟩
      simp [firstW, this]
  · apply leD_of_eq
    have : l.findIdx? (oldW p t) = none := by
      rw [List.findIdx?_eq_none_iff]
      intro x hx
      obtain ⟨j, hj, rfl⟩ := List.getElem_of_mem hx
      exact h2 j (by omega) hj
    simp [firstW, this]
theorem firstW_any (f : Wd → Bool) (l : List Wd) : decide (0 ≤ firstW f l) = l.any f := by
  unfold firstW
  split
  · rename_i i h
    rw [List.findIdx?_eq_some_iff_getElem] at h
    obtain ⟨h1, h2, _⟩ := h
    have : l.any f = true := List.any_eq_true.2 ⟨l[i], List.getElem_mem h1, h2⟩
    rw [this]; simp
  · rename_i h
    rw [List.findIdx?_eq_none_iff] at h
    have : l.any f = false := by
      rw [List.any_eq_false]
      exact fun x hx => by simp [h x hx]
    rw [this]; rfl
inductive COj : FuncId → List D → Out → Prop
  | ix (l : List Wd) (p t : Int) (hl : ∀ x ∈ l, smallU x) (hp : okP p) : COj 113 [dWs l, dOld p t] (.ret (dI (firstW (oldW p t) l)))
theorem hOj : ∀ f ds out, COj f ds out → PCall Tryd.prog f ds out := by
  intro f ds out h
  cases h with
  | ix l p t hl hp => exact indexW l p t hl hp
theorem anyW (l : List Wd) (p t : Int) (hl : ∀ x ∈ l, smallU x) (hp : okP p) : PCall Tryd.prog 86 [dWs l, dOld p t] (.ret (dB (l.any (oldW p t)))) := by
  refine pcall_of_vc hOj c86 (by simp [a86]) fun hr => ?_
  simp [a86]
  refine vc_path [.ret (dI (firstW (oldW p t) l))] ?_
  simp
  exact ⟨.ix l p t hl hp, leD_of_eq (by rw [firstW_any])⟩
/-! The rules. -/
def dRules : D := .agg [.lit .nilFunc, .fn (.func 84) [] [], .fn (.func 85) [] [], .fn (.func 84) [] []]
theorem rules : PCall Tryd.prog 55 [] (.ret dRules) := by
  refine pcall_of_vc noC c55 (by simp [a55]) fun hr => ?_
  simp [a55, dRules]
theorem free (s : Sm) (o : Op) (p t : Int) : PCall Tryd.prog 84 [dSm s, dOp o, dOld p t] (.ret (dB true)) := by
  refine pcall_of_vc noC c84 (by simp [a84]) fun hr => ?_
  simp [a84]
inductive COk : FuncId → List D → Out → Prop
  | any (l : List Wd) (p t : Int) (hl : ∀ x ∈ l, smallU x) (hp : okP p) : COk 86 [dWs l, dOld p t] (.ret (dB (l.any (oldW p t))))
theorem hOk : ∀ f ds out, COk f ds out → PCall Tryd.prog f ds out := by
  intro f ds out h
  cases h with
  | any l p t hl hp => exact anyW l p t hl hp
theorem revise (s : Sm) (o : Op) (p t : Int) (h1 : 0 ≤ o.a ∧ o.a ≤ s.w.length) (hs : ∀ x ∈ s.w, smallU x) (ho : ∀ x ∈ o.w, smallU x) (hp : okP p) :
    PCall Tryd.prog 85 [dSm s, dOp o, dOld p t] (.ret (dB (!(s.w.drop o.a.toNat).any (oldW p t) && !o.w.any (oldW p t)))) := by
  refine pcall_of_vc hOk c85 (by simp [a85]) fun hr => ?_
  have c1 := COk.any (s.w.drop o.a.toNat) p t (fun x hx => hs x (List.mem_of_mem_drop hx)) hp
  have c2 := COk.any o.w p t ho hp
  have ht : List.take s.w.length (List.map dW s.w) = List.map dW s.w := by rw [← List.length_map (f := dW), List.take_length]
  generalize (s.w.drop o.a.toNat).any (oldW p t) = x at c1
  generalize o.w.any (oldW p t) = y at c2
  simp [a85]
  refine vc_path [.ret (dB x), .ret (dB y)] ?_
  simp [h1, ht]
  simp [dWs] at c1 c2
  exact ⟨c1, fun q => ⟨c2, leD_of_eq (by simp [q])⟩, fun q => leD_of_eq (by simp [q])⟩
end Go.Proofs.YteonapeaaepipaaDoor
end

section
namespace Go.Proofs.YteonapeaaepipaaDoor
open Go Go.Proofs.YteonapeaaepipaaDoor.AL
attribute [local simp] dT_agg dT_nt dT_noTup dT_cells dT_one bs_toList bs_size strV dW_cells dW_agg dW_noTup dSm_cells dSm_agg dSm_noTup dOp_cells dOp_agg dOp_noTup dWs_cells dWs_one dWs_agg dWs_noTup dWs_nt
attribute [local simp] dP_cells dP_agg dP_noTup
set_option maxRecDepth 8000
set_option maxHeartbeats 4000000
inductive CPa : FuncId → List D → Out → Prop
  | ck (s : Sm) : CPa 23 [dSm s] (.ret (dI (eSm s)))
theorem hPa : ∀ f ds out, CPa f ds out → PCall Tryd.prog f ds out := by
  intro f ds out h
  cases h with
  | ck s => exact Check s
theorem pcheck (s : Sm) (p t : Int) : PCall Tryd.prog 54 [dSm s, dP p, dI t] (.ret (dI (errP s p t))) := by
  refine pcall_of_vc hPa c54 (by simp [a54]) fun hr => ?_
  have hc := CPa.ck s
  have he : errP s p t = if eSm s = 0 then (if 0 ≤ p ∧ p ≤ 1073741824 then (if 0 ≤ t ∧ t < 1099511627776 then 0 else 1) else 190) else eSm s := rfl
  generalize eSm s = e at hc he
  simp [a54]
  refine vc_path [.ret (dI e)] ?_
  simp
  refine ⟨hc, fun q => ?_, fun q => ?_⟩
  · exact leD_of_eq (by rw [he, if_neg q])
  · refine vc_path [] ?_
    simp
    rw [if_pos q] at he
    refine ⟨fun q1 => leD_of_eq (by rw [he, if_neg (by omega)]), fun q1 => ⟨fun q2 => leD_of_eq (by rw [he, if_neg (by omega)]), fun q2 => ?_⟩⟩
    rw [if_pos ⟨q1, q2⟩] at he
    refine vc_path [] ?_
    simp
    exact ⟨fun q3 => leD_of_eq (by rw [he, if_neg (by omega)]), fun q3 => ⟨fun q4 => leD_of_eq (by rw [he, if_neg (by omega)]), fun q4 => leD_of_eq (by rw [he, if_pos ⟨q3, q4⟩])⟩⟩
theorem small_of_ok {x : Wd} (h : okW x = true) : smallU x := by
  simp only [okW, Bool.and_eq_true, decide_eq_true_eq] at h
  unfold smallU
  omega
theorem okWs_suffix : ∀ (m : Int) (a b : List Wd), okWs m (a ++ b) = true → ∃ m', okWs m' b = true
  | m, [], b, h => ⟨m, h⟩
  | m, x :: a, b, h => by
    simp only [List.cons_append, okWs, Bool.and_eq_true] at h
    exact okWs_suffix x.f a b h.2.2
theorem op_words {s : Sm} {o : Op} (h : doE s o = 0) : ∀ x ∈ o.w, okW x = true := by
  obtain ⟨h1, h2, h3, h4⟩ := doE_ok h
  have h5 := (eSm_ok h3).2.2.2
  unfold okOp at h2
  unfold next at h5
  split at h5
  · exact fun x hx => okWs_mem _ _ h5 x (by simp only; exact List.mem_append_right _ hx)
  · rename_i k1
    split at h5
    · exact fun x hx => okWs_mem _ _ h5 x (by simp only; exact List.mem_append_right _ (List.mem_append_left _ hx))
    · rename_i k2
      rw [if_neg k1, if_neg k2] at h2
      split at h2
      · have := (okFix_ok h2).2.2.2
        intro x hx
        rw [this] at hx; cases hx
      · cases h2
inductive CAl : FuncId → List D → Out → Prop
  | pc (s : Sm) (p t : Int) : CAl 54 [dSm s, dP p, dI t] (.ret (dI (errP s p t)))
  | do_ (s : Sm) (o : Op) : CAl 25 [dSm s, dOp o] (.ret (.tup [dSm (doX s o), dI (doE s o)]))
  | rules : CAl 55 [] (.ret dRules)
  | isOld (p t : Int) : CAl 56 [dP p, dI t] (.ret (dOld p t))
  | free (s : Sm) (o : Op) (p t : Int) : CAl 84 [dSm s, dOp o, dOld p t] (.ret (dB true))
  | revise (s : Sm) (o : Op) (p t : Int) (h1 : 0 ≤ o.a ∧ o.a ≤ s.w.length) (hs : ∀ x ∈ s.w, smallU x) (ho : ∀ x ∈ o.w, smallU x) (hp : okP p) : CAl 85 [dSm s, dOp o, dOld p t] (.ret (dB (!(s.w.drop o.a.toNat).any (oldW p t) && !o.w.any (oldW p t))))
  | back (l : List Wd) : CAl 79 [dWs l] (.ret (.fn (.func 120) [] [.ip (dWs l)]))
  | old (p t : Int) (x : Wd) (hx : smallU x) (hp : okP p) : CAl 87 [dW x, .ip (dP p), .ip (dI t)] (.ret (dB (oldW p t x)))
theorem backward (l : List Wd) : PCall Tryd.prog 108 [dWs l] (.ret (.fn (.func 120) [] [.ip (dWs l)])) := by
  refine pcall_of_vcZ noC c108 (by simp [a108]) fun hr => ?_
  simp [a108]
inductive CBk : FuncId → List D → Out → Prop
  | bk (l : List Wd) : CBk 108 [dWs l] (.ret (.fn (.func 120) [] [.ip (dWs l)]))
theorem hBk : ∀ f ds out, CBk f ds out → PCall Tryd.prog f ds out := by
  intro f ds out h
  cases h with
  | bk l => exact backward l
theorem back (l : List Wd) : PCall Tryd.prog 79 [dWs l] (.ret (.fn (.func 120) [] [.ip (dWs l)])) := by
  refine pcall_of_vc hBk c79 (by simp [a79]) fun hr => ?_
  simp [a79]
  refine vc_path [.ret (.fn (.func 120) [] [.ip (dWs l)])] ?_
  simp
  exact .bk l
theorem hAl : ∀ f ds out, CAl f ds out → PCall Tryd.prog f ds out := by
  intro f ds out h
  cases h with
  | pc s p t => exact pcheck s p t
  | do_ s o => exact Do s o
  | rules => exact rules
  | isOld p t => exact isOld p t
  | free s o p t => exact free s o p t
  | revise s o p t h1 hs ho hp => exact revise s o p t h1 hs ho hp
  | back l => exact back l
  | old p t x hx hp => exact isOld1 p t x hx hp
theorem okOp_kind {s : Sm} {o : Op} (h : okOp s o = true) : o.k = 1 ∨ o.k = 2 ∨ o.k = 3 := by
  unfold okOp at h
  split at h
  · exact .inl ‹_›
  · split at h
    · exact .inr (.inl ‹_›)
    · split at h
      · exact .inr (.inr ‹_›)
      · cases h
theorem allowed (s : Sm) (p t : Int) (o : Op) : PCall Tryd.prog 24 [dSm s, dP p, dI t, dOp o] (.ret (.tup [dB (alW s p t o), dI (errP s p t)])) := by
  refine pcall_of_vc hAl c24 (by simp [a24]) fun hr => ?_
  have hp := CAl.pc s p t
  simp [a24]
  by_cases q : errP s p t ≠ 0
  · have e1 : alW s p t o = false := by simp [alW, q]
    rw [e1]
    generalize errP s p t = e at q hp
    refine vc_path [.ret (dI e)] ?_
    simp [q]
    exact hp
  have q : errP s p t = 0 := by omega
  obtain ⟨e1, e2, e3⟩ := errP_ok q
  rw [q] at hp ⊢
  refine vc_path [.ret (dI 0)] ?_
  simp
  refine ⟨hp, ?_⟩
  have hd := CAl.do_ s o
  by_cases g : doE s o ≠ 0
  · have e4 : alW s p t o = false := by simp [alW, g]
    rw [e4]
    generalize doE s o = e at g hd
    generalize doX s o = x at hd
    refine vc_path [.ret (.tup [dSm x, dI e])] ?_
    simp [g]
    exact hd
  have g : doE s o = 0 := by omega
  have how := op_words g
  obtain ⟨_, ok, _, _⟩ := doE_ok g
  obtain ⟨_, x2, x3, x4⟩ := eSm_ok e1
  have hsm : ∀ x ∈ s.w, smallU x := fun x hx => small_of_ok (okWs_mem 0 s.w x4 x hx)
  have hom : ∀ x ∈ o.w, smallU x := fun x hx => small_of_ok (how x hx)
  rw [g] at hd
  generalize doX s o = x at hd
  refine vc_path [.ret (.tup [dSm x, dI 0])] ?_
  simp
  refine ⟨hd, ?_⟩
  rcases okOp_kind ok with k | k | k
  · have ha : alW s p t o = true := by simp [alW, q, g, k]
    have hf := CAl.free s o p t
    simp [dOp, k] at hf
    refine vc_pathD [.ret dRules, .ret (dOld p t), .ret (dB true)] ?_
    simp [k, dRules]
    exact ⟨.rules, .isOld p t, hf, rfl, leD_of_eq (by rw [ha])⟩
  · have ha : alW s p t o = (!(s.w.drop o.a.toNat).any (oldW p t) && !o.w.any (oldW p t)) := by simp [alW, q, g, k]
    have hk : okRev s o = true := by simpa [okOp, k] using ok
    obtain ⟨r1, r2, _⟩ := okRev_ok hk
    have hf := CAl.revise s o p t (by omega) hsm hom e2
    rw [← ha] at hf
    generalize alW s p t o = b at hf
    simp [dOp, k] at hf
    refine vc_pathD [.ret dRules, .ret (dOld p t), .ret (dB b)] ?_
    simp [k, dRules]
    exact ⟨.rules, .isOld p t, hf, rfl⟩
  · have ha : alW s p t o = true := by simp [alW, q, g, k]
    have hf := CAl.free s o p t
    simp [dOp, k] at hf
    refine vc_pathD [.ret dRules, .ret (dOld p t), .ret (dB true)] ?_
    simp [k, dRules]
    exact ⟨.rules, .isOld p t, hf, rfl, leD_of_eq (by rw [ha])⟩
end Go.Proofs.YteonapeaaepipaaDoor
end

section
namespace Go.Proofs.YteonapeaaepipaaDoor
open Go Go.Proofs.YteonapeaaepipaaDoor.AL
attribute [local simp] dT_agg dT_nt dT_noTup dT_cells dT_one bs_toList bs_size strV dW_cells dW_agg dW_noTup dSm_cells dSm_agg dSm_noTup dOp_cells dOp_agg dOp_noTup dWs_cells dWs_one dWs_agg dWs_noTup dWs_nt
attribute [local simp] dP_cells dP_agg dP_noTup dOld_cells dOld_agg dOld_noTup dOld_one
set_option maxRecDepth 8000
set_option maxHeartbeats 4000000
theorem stable (s : Sm) (p t : Int) : PCall Tryd.prog 47 [dSm s, dP p, dI t] (.ret (.tup [dI (stN s p t), dI (errP s p t)])) := by
  refine pcall_of_vc hAl c47 (by simp [a47]) fun hr => ?_
  have hp := CAl.pc s p t
  simp [a47]
  by_cases q : errP s p t ≠ 0
  · have e1 : stN s p t = 0 := by simp [stN, q]
    rw [e1]
    generalize errP s p t = e at q hp
    refine vc_path [.ret (dI e)] ?_
    simp [q]
    exact ⟨hp, rfl⟩
  have q : errP s p t = 0 := by omega
  obtain ⟨e1, e2, e3⟩ := errP_ok q
  obtain ⟨s1, s2, s3, s4⟩ := stN_ok q
  obtain ⟨_, x2, x3, x4⟩ := eSm_ok e1
  have hsm : ∀ x ∈ s.w, smallU x := fun x hx => small_of_ok (okWs_mem 0 s.w x4 x hx)
  rw [q] at hp ⊢
  refine vc_path [.ret (dI 0)] ?_
  simp
  refine ⟨hp, ?_⟩
  refine vc_path [.ret (dOld p t)] ?_
  simp
  refine ⟨.isOld p t, ?_⟩
  refine vc_path [.ret (.fn (.func 120) [] [.ip (dWs s.w)])] ?_
  simp
  refine ⟨.back s.w, ?_⟩
  refine vc_range (TF Tryd.prog a120) (hcall_of_vc c120) rfl (by rfl) (fun l => by rfl) (fun l => ?_)
  simp [a120, dWs_eq]
  have hlen : s.w.length ≤ 4096 := by assumption
  have hw1 : IntKind.i64.wrap ((s.w.length : Int) - 1) = s.w.length - 1 := wrap64 (by omega)
  refine vc_loopK [0, 1] Nat (fun k => [(3, true, .d (dI ((k : Int) - 1)))]) (fun k => []) (fun k => k ≤ s.w.length ∧ s.x ≤ k ∧ stN s p t = max s.x (lo p t s.w k : Nat)) (fun k => k) s.w.length (by simp [s1, x3]) ⟨[], [], ?_⟩ (fun k hk => ?_)
  · simp [hw1]
    exact fun x hx => by omega
  obtain ⟨k1, k2, k3⟩ := hk
  simp
  refine ⟨fun hpos => regS_path [] ?_, fun hneg => ?_⟩
  · obtain ⟨j, rfl⟩ : ∃ j, k = j + 1 := ⟨k - 1, by omega⟩
    have ej : ((j + 1 : Nat) : Int) - 1 = (j : Int) := by omega
    have hj : j < s.w.length := by omega
    simp [hj]
    have hget : s.w.getD j default = s.w[j] := by simp [List.getD, List.getElem?_eq_getElem hj]
    have hlo : lo p t s.w (j + 1) = if oldW p t s.w[j] = true then j + 1 else lo p t s.w j := by rw [lo, hget]
    have hlj := lo_le p t s.w j
    have hw2 : IntKind.i64.wrap ((j : Int) + 1) = (j : Int) + 1 := wrap64 (by omega)
    have hw3 : IntKind.i64.wrap ((j : Int) - 1) = (j : Int) - 1 := wrap64 (by omega)
    have hc := CAl.old p t s.w[j] (hsm _ (List.getElem_mem hj)) e2
    by_cases g1 : (j : Int) < s.x
    · have hst : stN s p t = (j : Int) + 1 := by
        rw [k3, hlo]; split <;> omega
      refine vc_path [] ?_
      simp [g1, hw2]
      exact leD_of_eq (by rw [hst])
    · cases g2 : oldW p t s.w[j]
      · rw [g2] at hc
        rw [g2] at hlo
        simp at hlo
        refine vc_path [.ret (dB false)] ?_
        simp [g1]
        refine ⟨hc, by simp, j, ⟨by omega, by omega, by rw [k3, hlo]⟩, by omega, [], [], ?_⟩
        simp [hw3]
        exact fun x hx => by omega
      · rw [g2] at hc
        rw [g2] at hlo
        simp at hlo
        have hst : stN s p t = (j : Int) + 1 := by
          rw [k3, hlo]; omega
        refine vc_path [.ret (dB true)] ?_
        simp [g1, hw2]
        exact ⟨hc, by simp, leD_of_eq (by rw [hst])⟩
  · have : k = 0 := by omega
    subst this
    exact leD_of_eq (by rw [k3]; simp [lo]; omega)
end Go.Proofs.YteonapeaaepipaaDoor
end

section
namespace Go.Proofs.YteonapeaaepipaaDoor
open Go Go.Proofs.YteonapeaaepipaaDoor.AL
attribute [local simp] dT_agg dT_nt dT_noTup dT_cells dT_one bs_toList bs_size strV dW_cells dW_agg dW_noTup dSm_cells dSm_agg dSm_noTup dOp_cells dOp_agg dOp_noTup dWs_cells dWs_one dWs_agg dWs_noTup dWs_nt
attribute [local simp] dP_cells dP_agg dP_noTup dOld_cells dOld_agg dOld_noTup dOld_one
set_option maxRecDepth 8000
set_option maxHeartbeats 4000000
inductive CCh : FuncId → List D → Out → Prop
  | st (s : Sm) (p t : Int) : CCh 47 [dSm s, dP p, dI t] (.ret (.tup [dI (stN s p t), dI (errP s p t)]))
theorem hCh : ∀ f ds out, CCh f ds out → PCall Tryd.prog f ds out := by
  intro f ds out h
  cases h with
  | st s p t => exact stable s p t
end Go.Proofs.YteonapeaaepipaaDoor
end

section
namespace Go.Proofs.YteonapeaaepipaaDoor
open Go Go.Proofs.YteonapeaaepipaaDoor.AL
attribute [local simp] dT_agg dT_nt dT_noTup dT_cells dT_one bs_toList bs_size strV dW_cells dW_agg dW_noTup dSm_cells dSm_agg dSm_noTup dOp_cells dOp_agg dOp_noTup dWs_cells dWs_one dWs_agg dWs_noTup dWs_nt
attribute [local simp] dP_cells dP_agg dP_noTup dOld_cells dOld_agg dOld_noTup dOld_one
set_option maxRecDepth 8000
set_option maxHeartbeats 4000000
inductive CRe : FuncId → List D → Out → Prop
  | ck (s : Sm) : CRe 45 [dSm s] (.ret (dI (eSm s)))
theorem hRe : ∀ f ds out, CRe f ds out → PCall Tryd.prog f ds out := by
  intro f ds out h
  cases h with
  | ck s => exact rcheck s
theorem rerror (s : Sm) (p t : Int) : PCall Tryd.prog 80 [dSm s, dP p, dI t] (.ret (dI (errP s p t))) := by
  refine pcall_of_vc hRe c80 (by simp [a80]) fun hr => ?_
  have hc := CRe.ck s
  have he : errP s p t = if eSm s = 0 then (if 0 ≤ p ∧ p ≤ 1073741824 then (if 0 ≤ t ∧ t < 1099511627776 then 0 else 1) else 190) else eSm s := rfl
  generalize eSm s = e at hc he
  simp [a80]
  refine vc_path [.ret (dI e)] ?_
  simp
  refine ⟨hc, fun q => ?_, fun q => ?_⟩
  · exact leD_of_eq (by rw [he, if_neg q])
  · refine vc_path [] ?_
    simp
    rw [if_pos q] at he
    refine ⟨fun q1 => leD_of_eq (by rw [he, if_neg (by omega)]), fun q1 => ⟨fun q2 => leD_of_eq (by rw [he, if_neg (by omega)]), fun q2 => ?_⟩⟩
    rw [if_pos ⟨q1, q2⟩] at he
    refine vc_path [] ?_
    simp
    exact ⟨fun q3 => leD_of_eq (by rw [he, if_neg (by omega)]), fun q3 => ⟨fun q4 => leD_of_eq (by rw [he, if_neg (by omega)]), fun q4 => leD_of_eq (by rw [he, if_pos ⟨q3, q4⟩])⟩⟩
theorem rOld (x : Wd) (p t : Int) (hx : smallU x) (hp : okP p) : PCall Tryd.prog 81 [dW x, dP p, dI t] (.ret (dB (oldW p t x))) := by
  refine pcall_of_vc noC c81 (by simp [a81]) fun hr => ?_
  have hw : IntKind.i64.wrap (x.u + p) = x.u + p := wrap64 (by obtain ⟨h1, h2⟩ := hx; obtain ⟨h3, h4⟩ := hp; omega)
  simp [a81, hw]
  exact LeD.refl _
inductive CRo : FuncId → List D → Out → Prop
  | old (x : Wd) (p t : Int) (hx : smallU x) (hp : okP p) : CRo 81 [dW x, dP p, dI t] (.ret (dB (oldW p t x)))
theorem hRo : ∀ f ds out, CRo f ds out → PCall Tryd.prog f ds out := by
  intro f ds out h
  cases h with
  | old x p t hx hp => exact rOld x p t hx hp
inductive CRb : FuncId → List D → Out → Prop
  | err (s : Sm) (p t : Int) : CRb 80 [dSm s, dP p, dI t] (.ret (dI (errP s p t)))
  | old (x : Wd) (p t : Int) (hx : smallU x) (hp : okP p) : CRb 81 [dW x, dP p, dI t] (.ret (dB (oldW p t x)))
theorem hRb : ∀ f ds out, CRb f ds out → PCall Tryd.prog f ds out := by
  intro f ds out h
  cases h with
  | err s p t => exact rerror s p t
  | old x p t hx hp => exact rOld x p t hx hp
theorem rstable (s : Sm) (p t : Int) : PCall Tryd.prog 48 [dSm s, dP p, dI t] (.ret (.tup [dI (stN s p t), dI (errP s p t)])) := by
  refine pcall_of_vc hRb c48 (by simp [a48]) fun hr => ?_
  have hp := CRb.err s p t
  simp [a48]
  by_cases q : errP s p t ≠ 0
  · have e1 : stN s p t = 0 := by simp [stN, q]
    rw [e1]
    generalize errP s p t = e at q hp
    refine vc_path [.ret (dI e)] ?_
    simp [q]
    exact hp
  have q : errP s p t = 0 := by omega
  obtain ⟨e1, e2, e3⟩ := errP_ok q
  obtain ⟨s1, s2, s3, s4⟩ := stN_ok q
  obtain ⟨hlen, x2, x3, x4⟩ := eSm_ok e1
  have hsm : ∀ x ∈ s.w, smallU x := fun x hx => small_of_ok (okWs_mem 0 s.w x4 x hx)
  rw [q] at hp ⊢
  refine vc_path [.ret (dI 0)] ?_
  simp
  refine ⟨hp, ?_⟩
  refine vc_loopK [2, 3, 4] Nat (fun i => [(10, true, .d (dI i)), (9, true, .d (dI (max s.x (lo p t s.w i : Nat))))]) (fun i => []) (fun i => i ≤ s.w.length) (fun i => s.w.length - i) 0 (by simp) ⟨[], [], ?_⟩ (fun i hi => ?_)
  · simp [lo]
    exact leD_of_eq (by rw [Int.max_eq_left x2])
  simp
  refine ⟨fun hlt => ?_, fun hge => ?_⟩
  · have hget : s.w.getD i default = s.w[i] := by simp [List.getD, List.getElem?_eq_getElem hlt]
    have hlo : lo p t s.w (i + 1) = if oldW p t s.w[i] = true then i + 1 else lo p t s.w i := by rw [lo, hget]
    have hlj := lo_le p t s.w i
    have hc := CRb.old s.w[i] p t (hsm _ (List.getElem_mem hlt)) e2
    have hw2 : IntKind.i64.wrap ((i : Int) + 1) = (i : Int) + 1 := wrap64 (by omega)
    cases hb : oldW p t s.w[i]
    · rw [hb] at hc hlo
      simp at hlo
      refine vc_pathD [.ret (dB false)] ?_
      simp [hlt]
      refine ⟨hc, rfl, i + 1, by omega, by omega, [], [], ?_⟩
      simp [hw2, hlo]
    · rw [hb] at hc hlo
      simp at hlo
      refine vc_pathD [.ret (dB true)] ?_
      simp [hlt, hw2]
      refine ⟨hc, rfl, i + 1, by omega, by omega, [], [], ?_⟩
      simp [hlo]
      exact leD_of_eq (by congr 2; split <;> omega)
  · have : i = s.w.length := by omega
    subst this
    exact leD_of_eq (by rw [s1])
end Go.Proofs.YteonapeaaepipaaDoor
end

section
namespace Go.Proofs.YteonapeaaepipaaDoor
open Go Go.Proofs.YteonapeaaepipaaDoor.AL
attribute [local simp] dT_agg dT_nt dT_noTup dT_cells dT_one bs_toList bs_size strV dW_cells dW_agg dW_noTup dSm_cells dSm_agg dSm_noTup dOp_cells dOp_agg dOp_noTup dWs_cells dWs_one dWs_agg dWs_noTup dWs_nt
attribute [local simp] dP_cells dP_agg dP_noTup dOld_cells dOld_agg dOld_noTup dOld_one
set_option maxRecDepth 8000
set_option maxHeartbeats 4000000
inductive CRh : FuncId → List D → Out → Prop
  | st (s : Sm) (p t : Int) : CRh 48 [dSm s, dP p, dI t] (.ret (.tup [dI (stN s p t), dI (errP s p t)]))
theorem hRh : ∀ f ds out, CRh f ds out → PCall Tryd.prog f ds out := by
  intro f ds out h
  cases h with
  | st s p t => exact rstable s p t
theorem wd_le (x : Wd) (b : List UInt8) : LeD (.sl 5 [.agg [dT b, .lit (.int .i64 x.f), .lit (.int .i64 x.u), .lit (.int .i64 x.s), .nil 1]]) (.sl 5 [dW ⟨b, x.f, x.u, x.s, []⟩]) :=
  LeD_sl (.cons (LeD.refl _) (.cons (LeD.refl _) (.cons (LeD.refl _) (.cons (LeD.refl _) (.cons (LeD.nil 1) .nil))))) rfl (by simp [dW]) (by simp [D.flat, dW])
theorem rST (a b : List (List UInt8)) : PCall Tryd.prog 49 [.sl 1 (a.map dT), .sl 1 (b.map dT)] (.ret (dB (decide (a = b)))) := by
  refine pcall_of_vc noC c49 (by simp [a49]) fun hr => ?_
  have hlen := (hr (.sl 1 (a.map dT)) (by simp)).sl.1
  simp at hlen
  simp [a49]
  refine ⟨fun hne => leD_of_eq ?_, fun hl => ?_⟩
  · have : a ≠ b := fun e => hne (by rw [e])
    simp [this]
  · refine vc_loopK [0, 1] Nat (fun k => [(5, true, .d (dI k))]) (fun k => []) (fun k => k ≤ a.length ∧ a.take k = b.take k) (fun k => a.length - k) 0 (by simp) ⟨[], [], ?_⟩ (fun k hk => ?_)
    · simp
    obtain ⟨h1, h2⟩ := hk
    simp
    refine ⟨fun hlt => ?_, fun hge => ?_⟩
    · have hlt2 : k < b.length := by omega
      simp [hlt, hlt2, dT_eq]
      refine ⟨rfl, fun he => leD_of_eq ?_, fun he => ⟨k + 1, ⟨by omega, take_eq h2 hlt hlt2 he⟩, by omega, [], [], ?_⟩⟩
      · simp [ne_of_at hlt hlt2 he]
      · rw [wrap64 (by omega)]
        simp
    · have hk : k = a.length := by omega
      subst hk
      have hl' : a.length = b.length := by omega
      rw [List.take_length, hl', List.take_length] at h2
      simp [h2]
inductive CRt2 : FuncId → List D → Out → Prop
  | st (a b : List (List UInt8)) : CRt2 49 [.sl 1 (a.map dT), .sl 1 (b.map dT)] (.ret (dB (decide (a = b))))
theorem hRt2 : ∀ f ds out, CRt2 f ds out → PCall Tryd.prog f ds out := by
  intro f ds out h
  cases h with
  | st a b => exact rST a b
theorem rSW (a b : List Wd) : PCall Tryd.prog 18 [dWs a, dWs b] (.ret (dB (decide (a = b)))) := by
  refine pcall_of_vc hRt2 c18 (by simp [a18]) fun hr => ?_
  have hlen := (hr (dWs a) (by simp)).sl.1
  simp at hlen
  simp [a18, dWs_eq]
  refine ⟨fun hne => leD_of_eq ?_, fun hl => ?_⟩
  · have : a ≠ b := fun e => hne (by rw [e])
    simp [this]
  · refine vc_loopK [0, 1] Nat (fun k => [(5, true, .d (dI k))]) (fun k => []) (fun k => k ≤ a.length ∧ a.take k = b.take k) (fun k => a.length - k) 0 (by simp) ⟨[], [], ?_⟩ (fun k hk => ?_)
    · simp
    obtain ⟨h1, h2⟩ := hk
    simp
    refine ⟨fun hlt => ?_, fun hge => ?_⟩
    · have hlt2 : k < b.length := by omega
      have hc := CRt2.st a[k].a b[k].a
      have hne : ∀ {p : Prop}, (a[k] = b[k] → p) → ¬ p → LeD (.lit (.bool false)) (.lit (.bool (decide (a = b)))) := fun h hp => leD_of_eq (by simp [ne_of_at hlt hlt2 (fun e => hp (h e))])
      have hnext : a[k] = b[k] → k + 1 ≤ a.length ∧ a.take (k + 1) = b.take (k + 1) := fun he => ⟨by omega, take_eq h2 hlt hlt2 he⟩
      have he := wd_eq a[k] b[k]
      generalize hg : decide (a[k].a = b[k].a) = g at hc he
      refine vc_pathD [.ret (dB g)] ?_
      simp (config := { maxSteps := 10000000 }) [hlt, hlt2, dT_eq, dW]
      refine ⟨fun q1 => ⟨rfl, hne (fun e => by rw [e]) q1⟩, fun q1 => ⟨fun q2 => ⟨rfl, hne (fun e => by rw [e]) q2⟩, fun q2 => ⟨fun q3 => ⟨rfl, hne (fun e => by rw [e]) q3⟩, fun q3 => ⟨fun q4 => ⟨rfl, hne (fun e => by rw [e]) q4⟩, fun q4 => ⟨hc, rfl, fun q5 => ?_, fun q5 => ⟨k + 1, hnext ?_, by omega, [], [], ?_⟩⟩⟩⟩⟩⟩
      · exact hne (p := a[k].a = b[k].a) (fun e => by rw [e]) (by rw [q5] at hg; simpa using hg)
      · rw [q1, q2, q3, q4, q5] at he
        simpa using he
      · rw [wrap64 (by omega)]
        simp
    · have hk : k = a.length := by omega
      subst hk
      have hl' : a.length = b.length := by omega
      rw [List.take_length, hl', List.take_length] at h2
      simp [h2]
inductive CRs : FuncId → List D → Out → Prop
  | sw (a b : List Wd) : CRs 18 [dWs a, dWs b] (.ret (dB (decide (a = b))))
theorem hRs : ∀ f ds out, CRs f ds out → PCall Tryd.prog f ds out := by
  intro f ds out h
  cases h with
  | sw a b => exact rSW a b
theorem op_eq (x y : Op) : decide (x = y) = (decide (x.k = y.k) && (decide (x.a = y.a) && (decide (x.c = y.c) && decide (x.w = y.w)))) := by
  cases x; cases y; simp
end Go.Proofs.YteonapeaaepipaaDoor
end

section
namespace Go.Proofs.YteonapeaaepipaaDoor
open Go Go.Proofs.YteonapeaaepipaaDoor.AL
attribute [local simp] dT_agg dT_nt dT_noTup dT_cells dT_one bs_toList bs_size strV dW_cells dW_agg dW_noTup dSm_cells dSm_agg dSm_noTup dOp_cells dOp_agg dOp_noTup dWs_cells dWs_one dWs_agg dWs_noTup dWs_nt
attribute [local simp] dW_nt dP_cells dP_agg dP_noTup dOld_cells dOld_agg dOld_noTup dOld_one
set_option maxRecDepth 8000
set_option maxHeartbeats 4000000
theorem right23 (d k : Int) : PCall Tryd.prog 43 [dI d, dI k] (.ret (dB (chR d k))) := by
  refine pcall_of_vc noC c43 (by simp [a43]) fun hr => ?_
  simp [a43]
  refine vc_path [] ?_
  simp [chR]
  refine ⟨fun q1 => ⟨fun q2 => ⟨fun q3 => ⟨by omega, ?_⟩, fun q3 => leD_of_eq (by simp [show ¬ 0 ≤ k by omega])⟩, fun q2 => leD_of_eq (by simp [show ¬ d ≤ 1073741824 by omega])⟩, fun q1 => leD_of_eq (by simp [show ¬ 1 ≤ d by omega])⟩
  have h1 : 0 ≤ Int.tdiv 1099511627776 d ∧ Int.tdiv 1099511627776 d ≤ 1099511627776 := by
    rw [Int.tdiv_eq_ediv_of_nonneg (by decide)]
    exact ⟨Int.ediv_nonneg (by decide) (by omega), Int.ediv_le_self _ (by decide)⟩
  rw [wrap64 (n := Int.tdiv 1099511627776 d) (by omega), wrap64 (by omega)]
  exact leD_of_eq (by simp [q1, q2, q3])
/-- The condition to begin at a time or later. -/
def dSin (T : Int) : D := .fn (.func 77) [] [.ip (dI T)]
theorem dSin_cells (T : Int) : (dSin T).cells = [dSin T] := rfl
theorem dSin_agg (T : Int) : (dSin T).isAgg = false := rfl
theorem dSin_noTup (T : Int) : (AV.d (dSin T)).noTup = true := rfl
theorem dSin_one (T : Int) : (dSin T).one = true := rfl
attribute [local simp] dSin_cells dSin_agg dSin_noTup dSin_one
theorem since1 (T : Int) (x : Wd) : PCall Tryd.prog 77 [dW x, .ip (dI T)] (.ret (dB (decide (T ≤ x.f)))) := by
  refine pcall_of_vc noC c77 (by simp [a77]) fun hr => ?_
  simp [a77]
inductive CSi : FuncId → List D → Out → Prop
  | mk (T : Int) (x : Wd) : CSi 77 [dW x, .ip (dI T)] (.ret (dB (decide (T ≤ x.f))))
theorem hSi : ∀ f ds out, CSi f ds out → PCall Tryd.prog f ds out := by
  intro f ds out h
  cases h with
  | mk T x => exact since1 T x
/-- The condition of the search. -/
def dFst (T : Int) (l : List Wd) : D := .fn (.func 106) [] [.ip (dSin T), .ip (dWs l)]
theorem first1 (T : Int) (l : List Wd) (i : Nat) (hi : i < l.length) : PCall Tryd.prog 106 [dI i, .ip (dSin T), .ip (dWs l)] (.ret (dB (decide (T ≤ l[i].f)))) := by
  refine pcall_of_vc hSi c106 (by simp [a106]) fun hr => ?_
  have hc := CSi.mk T l[i]
  generalize decide (T ≤ l[i].f) = b at hc
  simp [a106, dWs_eq]
  refine vc_pathD [.ret (dB b)] ?_
  simp [hi, dSin]
  exact ⟨hc, rfl⟩
inductive CSr : FuncId → List D → Out → Prop
  | mk (T : Int) (l : List Wd) (i : Nat) (hi : i < l.length) : CSr 106 [dI i, .ip (dSin T), .ip (dWs l)] (.ret (dB (decide (T ≤ l[i].f))))
theorem hSr : ∀ f ds out, CSr f ds out → PCall Tryd.prog f ds out := by
  intro f ds out h
  cases h with
  | mk T l i hi => exact first1 T l i hi
theorem search (T : Int) (l : List Wd) (hl : okWs 0 l = true) (hlen : l.length ≤ 4096) : PCall Tryd.prog 105 [dI l.length, dFst T l] (.ret (dI (sinN T l))) := by
  refine pcall_of_vc hSr c105 (by simp [a105]) fun hr => ?_
  simp [a105]
  refine vc_loopK [0, 1] (Nat × Nat) (fun y => [(5, true, .d (dI y.1)), (6, true, .d (dI y.2))]) (fun y => []) (fun y => y.1 ≤ y.2 ∧ y.2 ≤ l.length ∧ (∀ j, (h : j < y.1) → (h2 : j < l.length) → l[j].f < T) ∧ (∀ j, y.2 ≤ j → (h2 : j < l.length) → T ≤ l[j].f)) (fun y => y.2 - y.1) (0, l.length) (by simp; omega) ⟨[], [], ?_⟩ (fun y hy => ?_)
  · simp
  obtain ⟨i, j⟩ := y
  obtain ⟨h1, h2, h3, h4⟩ := hy
  simp only at h1 h2 h3 h4
  simp
  refine ⟨fun hlt => ?_, fun hge => ?_⟩
  · have hlt : i < j := by omega
    have w1 : IntKind.i64.wrap ((i : Int) + j) = (i : Int) + j := wrap64 (by omega)
    have w2 : IntKind.u64.wrap ((i : Int) + j) = (i : Int) + j := by simp [IntKind.wrap, IntKind.bits, IntKind.signed]; omega
    have hs : shiftV false .u64 ((i : Int) + j) 1 = .int .u64 (((i + j) / 2 : Nat) : Int) := by
      have e : min (1 : Int).toNat IntKind.u64.bits = 1 := by decide
      simp only [shiftV, e]
      rw [Int.fdiv_eq_ediv_of_nonneg _ (by decide)]
      simp
    obtain ⟨m, hm⟩ : ∃ m, (i + j) / 2 = m := ⟨_, rfl⟩
    have hmi : i ≤ m ∧ m < j := by omega
    have hml : m < l.length := by omega
    have w3 : IntKind.i64.wrap ((m : Nat) : Int) = m := wrap64 (by omega)
    rw [w1, w2, hs, hm]
    have hc := CSr.mk T l m hml
    simp [w3]
    by_cases hb : T ≤ l[m].f
    · rw [decide_eq_true hb] at hc
      refine vc_path [.ret (dB true)] ?_
      simp [dFst]
      refine ⟨hc, i, m, ⟨by omega, by omega, h3, fun a ha ha2 => ?_⟩, by omega, [], [], ?_⟩
      · have := (okWs_sorted 0 l hl m a ha ha2).2
        omega
      · simp
    · rw [decide_eq_false hb] at hc
      refine vc_path [.ret (dB false)] ?_
      simp [dFst]
      refine ⟨hc, m + 1, j, ⟨by omega, by omega, fun a ha ha2 => ?_, h4⟩, by omega, [], [], ?_⟩
      · have := (okWs_sorted 0 l hl a m (by omega) hml).2
        omega
      · rw [wrap64 (by omega)]
        simp
  · have : i = j := by omega
    subst this
    exact leD_of_eq (by rw [sin_is hl h2 h3 h4])
inductive CSs : FuncId → List D → Out → Prop
  | mk (T : Int) (l : List Wd) (hl : okWs 0 l = true) (hlen : l.length ≤ 4096) : CSs 105 [dI l.length, dFst T l] (.ret (dI (sinN T l)))
theorem hSs : ∀ f ds out, CSs f ds out → PCall Tryd.prog f ds out := by
  intro f ds out h
  cases h with
  | mk T l hl hlen => exact search T l hl hlen
theorem firstC (T : Int) (l : List Wd) (hl : okWs 0 l = true) (hlen : l.length ≤ 4096) : PCall Tryd.prog 76 [dWs l, dSin T] (.ret (dI (sinN T l))) := by
  refine pcall_of_vc hSs c76 (by simp [a76]) fun hr => ?_
  have hc := CSs.mk T l hl hlen
  generalize sinN T l = n at hc
  simp [a76, dWs_eq]
  refine vc_path [.ret (dI n)] ?_
  simp
  exact ⟨hc, .lit _⟩
inductive CSt : FuncId → List D → Out → Prop
  | mk (T : Int) (l : List Wd) (hl : okWs 0 l = true) (hlen : l.length ≤ 4096) : CSt 76 [dWs l, dSin T] (.ret (dI (sinN T l)))
theorem hSt : ∀ f ds out, CSt f ds out → PCall Tryd.prog f ds out := by
  intro f ds out h
  cases h with
  | mk T l hl hlen => exact firstC T l hl hlen
theorem since (T : Int) (l : List Wd) (hl : okWs 0 l = true) (hlen : l.length ≤ 4096) : PCall Tryd.prog 44 [dWs l, dI T] (.ret (dI (sinN T l))) := by
  refine pcall_of_vc hSt c44 (by simp [a44]) fun hr => ?_
  have hc := CSt.mk T l hl hlen
  generalize sinN T l = n at hc
  simp [a44, dWs_eq]
  refine vc_path [.ret (dI n)] ?_
  simp
  exact ⟨hc, .lit _⟩
inductive CCu : FuncId → List D → Out → Prop
  | ck (s : Sm) : CCu 23 [dSm s] (.ret (dI (eSm s)))
  | right (d k : Int) : CCu 43 [dI d, dI k] (.ret (dB (chR d k)))
  | since (T : Int) (l : List Wd) (hl : okWs 0 l = true) (hlen : l.length ≤ 4096) : CCu 44 [dWs l, dI T] (.ret (dI (sinN T l)))
  | st (s : Sm) (p t : Int) : CCu 47 [dSm s, dP p, dI t] (.ret (.tup [dI (stN s p t), dI (errP s p t)]))
theorem hCu : ∀ f ds out, CCu f ds out → PCall Tryd.prog f ds out := by
  intro f ds out h
  cases h with
  | ck s => exact Check s
  | right d k => exact right23 d k
  | since T l hl hlen => exact since T l hl hlen
  | st s p t => exact stable s p t
theorem chunk (w : List Wd) (d k : Int) : PCall Tryd.prog 14 [dWs w, dI d, dI k] (.ret (.tup [dWs (ckL w d k), dI (ckA w d k), dI (ckE w d k)])) := by
  refine pcall_of_vc hCu c14 (by simp [a14]) fun hr => ?_
  have h1 := CCu.ck ⟨w, 0⟩
  have h2 := CCu.right d k
  simp [a14, dWs_eq]
  by_cases q : eSm ⟨w, 0⟩ ≠ 0
  · have e0 : ckE w d k ≠ 0 := by simp [ckE, q]
    have e1 : ckE w d k = eSm ⟨w, 0⟩ := by simp [ckE, q]
    have e2 : ckA w d k = 0 := by simp [ckA, e0]
    have e3 : ckL w d k = [] := by simp [ckL, e0]
    rw [e2, e3, e1]
    generalize eSm ⟨w, 0⟩ = e at q h1
    refine vc_path [.ret (dI e)] ?_
    simp [q]
    exact h1
  have q : eSm ⟨w, 0⟩ = 0 := by omega
  rw [q] at h1
  refine vc_path [.ret (dI 0)] ?_
  simp
  refine ⟨h1, ?_⟩
  cases g : chR d k
  · have e1 : ckE w d k = 230 := by simp [ckE, q, g]
    have e2 : ckA w d k = 0 := by simp [ckA, e1]
    have e3 : ckL w d k = [] := by simp [ckL, e1]
    rw [g] at h2
    rw [e1, e2, e3]
    refine vc_path [.ret (dB false)] ?_
    simp
    exact h2
  rw [g] at h2
  obtain ⟨m1, m2, m3, m4, m5, m6⟩ := chR_ok g
  obtain ⟨f1, _, _, f4⟩ := eSm_ok q
  have e1 : ckE w d k = 0 := by simp [ckE, q, g]
  have e2 : ckA w d k = sinN (k * d) w := by simp [ckA, e1]
  have e3 : ckL w d k = (w.take (sinN ((k + 1) * d) w)).drop (sinN (k * d) w) := by simp [ckL, e1]
  have h3 := CCu.since (k * d) w f4 f1
  have h4 := CCu.since ((k + 1) * d) w f4 f1
  have hle := sin_mono (l := w) m6
  have hle2 := sin_le ((k + 1) * d) w
  rw [e1, e2, e3]
  generalize sinN (k * d) w = A at *
  generalize sinN ((k + 1) * d) w = B at *
  have hkd : k ≤ 1099511627776 := by
    have := Int.mul_le_mul_of_nonneg_left m1 m3
    rw [Int.mul_one] at this
    omega
  have w1 : IntKind.i64.wrap (k * d) = k * d := wrap64 (by omega)
  have w2 : IntKind.i64.wrap (k + 1) = k + 1 := wrap64 (by omega)
  have w3 : IntKind.i64.wrap ((k + 1) * d) = (k + 1) * d := wrap64 (by omega)
  refine vc_path [.ret (dB true)] ?_
  simp
  refine ⟨h2, ?_⟩
  refine vc_path [.ret (dI A)] ?_
  simp [w1]
  refine ⟨h3, ?_⟩
  refine vc_path [.ret (dI B)] ?_
  simp [w2, w3]
  exact ⟨h4, hle, hle2⟩
end Go.Proofs.YteonapeaaepipaaDoor
end

section
namespace Go.Proofs.YteonapeaaepipaaDoor
open Go Go.Proofs.YteonapeaaepipaaDoor.AL
attribute [local simp] dT_agg dT_nt dT_noTup dT_cells dT_one bs_toList bs_size strV dW_cells dW_agg dW_noTup dSm_cells dSm_agg dSm_noTup dOp_cells dOp_agg dOp_noTup dWs_cells dWs_one dWs_agg dWs_noTup dWs_nt
attribute [local simp] dW_nt dP_cells dP_agg dP_noTup dOld_cells dOld_agg dOld_noTup dOld_one
set_option maxRecDepth 8000
set_option maxHeartbeats 4000000
theorem pB_eq {s : Sm} {p t d k : Int} (h : pE s p t d k = 0) : pB s p t d k = decide ((sinN ((k + 1) * d) s.w : Int) < stN s p t) := by simp [pB, h]
theorem mul_le_end {d k : Int} (m1 : 1 ≤ d) (m3 : 0 ≤ k) (m5 : (k + 1) * d ≤ 1099511627776) (m6 : k * d ≤ (k + 1) * d) : k ≤ 1099511627776 := by
  have := Int.mul_le_mul_of_nonneg_left m1 m3
  rw [Int.mul_one] at this
  omega
theorem past (s : Sm) (p t d k : Int) : PCall Tryd.prog 16 [dSm s, dP p, dI t, dI d, dI k] (.ret (.tup [dI (pI s p t d k), dB (pB s p t d k), dI (pE s p t d k)])) := by
  refine pcall_of_vc hCu c16 (by simp [a16]) fun hr => ?_
  have h1 := CCu.st s p t
  have h2 := CCu.right d k
  simp [a16]
  by_cases q : errP s p t ≠ 0
  · have e0 : pE s p t d k ≠ 0 := by simp [pE, q]
    have e1 : pE s p t d k = errP s p t := by simp [pE, q]
    have e2 : pB s p t d k = false := by simp [pB, e0]
    have e3 : pI s p t d k = 0 := by simp [pI, e2]
    rw [e2, e3, e1]
    generalize errP s p t = e at q h1
    generalize stN s p t = n at h1
    refine vc_path [.ret (.tup [dI n, dI e])] ?_
    simp [q]
    exact h1
  have q : errP s p t = 0 := by omega
  obtain ⟨f0, _, _⟩ := errP_ok q
  obtain ⟨f1, _, _, f4⟩ := eSm_ok f0
  rw [q] at h1
  cases g : chR d k
  · have e1 : pE s p t d k = 230 := by simp [pE, q, g]
    have e2 : pB s p t d k = false := by simp [pB, e1]
    have e3 : pI s p t d k = 0 := by simp [pI, e2]
    rw [g] at h2
    rw [e1, e2, e3]
    generalize stN s p t = n at h1
    refine vc_path [.ret (.tup [dI n, dI 0])] ?_
    simp
    refine ⟨h1, ?_⟩
    refine vc_path [.ret (dB false)] ?_
    simp
    exact h2
  rw [g] at h2
  obtain ⟨m1, m2, m3, m4, m5, m6⟩ := chR_ok g
  have hkd := mul_le_end m1 m3 m5 m6
  have e1 : pE s p t d k = 0 := by simp [pE, q, g]
  have e2 := pB_eq e1
  have h4 := CCu.since ((k + 1) * d) s.w f4 f1
  have e3 : pI s p t d k = if pB s p t d k = true then (sinN ((k + 1) * d) s.w : Int) else 0 := rfl
  have w2 : IntKind.i64.wrap (k + 1) = k + 1 := wrap64 (by omega)
  have w3 : IntKind.i64.wrap ((k + 1) * d) = (k + 1) * d := wrap64 (by omega)
  rw [e1, e3, e2]
  generalize stN s p t = n at *
  generalize sinN ((k + 1) * d) s.w = B at *
  refine vc_path [.ret (.tup [dI n, dI 0])] ?_
  simp
  refine ⟨h1, ?_⟩
  refine vc_path [.ret (dB true)] ?_
  simp
  refine ⟨h2, ?_⟩
  refine vc_path [.ret (dI B)] ?_
  simp [w2, w3]
  refine ⟨h4, fun h => ?_, fun h => ?_⟩
  · have hn : ¬ (B : Int) < n := by omega
    exact ⟨leD_of_eq (by simp [hn]), leD_of_eq (by simp [hn])⟩
  · exact ⟨leD_of_eq (by simp [h]), leD_of_eq (by simp [h])⟩
end Go.Proofs.YteonapeaaepipaaDoor
end

section
namespace Go.Proofs.YteonapeaaepipaaDoor
open Go Go.Proofs.YteonapeaaepipaaDoor.AL
attribute [local simp] dT_agg dT_nt dT_noTup dT_cells dT_one bs_toList bs_size strV dW_cells dW_agg dW_noTup dSm_cells dSm_agg dSm_noTup dOp_cells dOp_agg dOp_noTup dWs_cells dWs_one dWs_agg dWs_noTup dWs_nt
attribute [local simp] dW_nt dP_cells dP_agg dP_noTup dOld_cells dOld_agg dOld_noTup dOld_one
set_option maxRecDepth 8000
set_option maxHeartbeats 4000000
theorem rright23 (d k : Int) : PCall Tryd.prog 46 [dI d, dI k] (.ret (dB (chR d k))) := by
  refine pcall_of_vc noC c46 (by simp [a46]) fun hr => ?_
  simp [a46]
  refine vc_path [] ?_
  simp [chR]
  refine ⟨fun q1 => ⟨fun q2 => ⟨fun q3 => ⟨by omega, ?_⟩, fun q3 => leD_of_eq (by simp [show ¬ 0 ≤ k by omega])⟩, fun q2 => leD_of_eq (by simp [show ¬ d ≤ 1073741824 by omega])⟩, fun q1 => leD_of_eq (by simp [show ¬ 1 ≤ d by omega])⟩
  have h1 : 0 ≤ Int.tdiv 1099511627776 d ∧ Int.tdiv 1099511627776 d ≤ 1099511627776 := by
    rw [Int.tdiv_eq_ediv_of_nonneg (by decide)]
    exact ⟨Int.ediv_nonneg (by decide) (by omega), Int.ediv_le_self _ (by decide)⟩
  rw [wrap64 (n := Int.tdiv 1099511627776 d) (by omega)]
  refine leD_of_eq ?_
  have : decide (k < Int.tdiv 1099511627776 d) = decide (k ≤ Int.tdiv 1099511627776 d - 1) := by congr 1; exact propext (by omega)
  simp [q1, q2, q3, this]
inductive CRu : FuncId → List D → Out → Prop
  | ck (s : Sm) : CRu 45 [dSm s] (.ret (dI (eSm s)))
  | right (d k : Int) : CRu 46 [dI d, dI k] (.ret (dB (chR d k)))
  | st (s : Sm) (p t : Int) : CRu 48 [dSm s, dP p, dI t] (.ret (.tup [dI (stN s p t), dI (errP s p t)]))
theorem hRu : ∀ f ds out, CRu f ds out → PCall Tryd.prog f ds out := by
  intro f ds out h
  cases h with
  | ck s => exact rcheck s
  | right d k => exact rright23 d k
  | st s p t => exact rstable s p t
theorem rchunk (w : List Wd) (d k : Int) : PCall Tryd.prog 15 [dWs w, dI d, dI k] (.ret (.tup [dWs (ckL w d k), dI (ckA w d k), dI (ckE w d k)])) := by
  refine pcall_of_vc hRu c15 (by simp [a15]) fun hr => ?_
  have h1 := CRu.ck ⟨w, 0⟩
  have h2 := CRu.right d k
  simp [a15, dWs_eq]
  by_cases q : eSm ⟨w, 0⟩ ≠ 0
  · have e0 : ckE w d k ≠ 0 := by simp [ckE, q]
    have e1 : ckE w d k = eSm ⟨w, 0⟩ := by simp [ckE, q]
    have e2 : ckA w d k = 0 := by simp [ckA, e0]
    have e3 : ckL w d k = [] := by simp [ckL, e0]
    rw [e2, e3, e1]
    generalize eSm ⟨w, 0⟩ = e at q h1
    refine vc_path [.ret (dI e)] ?_
    simp [q]
    exact h1
  have q : eSm ⟨w, 0⟩ = 0 := by omega
  rw [q] at h1
  refine vc_path [.ret (dI 0)] ?_
  simp
  refine ⟨h1, ?_⟩
  cases g : chR d k
  · have e1 : ckE w d k = 230 := by simp [ckE, q, g]
    have e2 : ckA w d k = 0 := by simp [ckA, e1]
    have e3 : ckL w d k = [] := by simp [ckL, e1]
    rw [g] at h2
    rw [e1, e2, e3]
    refine vc_path [.ret (dB false)] ?_
    simp
    exact h2
  rw [g] at h2
  obtain ⟨m1, m2, m3, m4, m5, m6⟩ := chR_ok g
  obtain ⟨f1, _, _, f4⟩ := eSm_ok q
  simp only at f1 f4
  have hkd := mul_le_end m1 m3 m5 m6
  have e1 : ckE w d k = 0 := by simp [ckE, q, g]
  have e2 : ckA w d k = sinN (k * d) w := by simp [ckA, e1]
  have e3 : ckL w d k = (w.take (sinN ((k + 1) * d) w)).drop (sinN (k * d) w) := by simp [ckL, e1]
  have hle := sin_mono (l := w) m6
  have hle2 := sin_le ((k + 1) * d) w
  have cA : ∀ i, (h : i < w.length) → (w[i].f < k * d ↔ i < sinN (k * d) w) := fun i h => ⟨fun hf => by
    rcases Nat.lt_or_ge i (sinN (k * d) w) with h' | h'
    · exact h'
    · have := sin_ge f4 h' h; omega, fun hi => sin_lt hi h⟩
  have cB : ∀ i, (h : i < w.length) → (w[i].f < (k + 1) * d ↔ i < sinN ((k + 1) * d) w) := fun i h => ⟨fun hf => by
    rcases Nat.lt_or_ge i (sinN ((k + 1) * d) w) with h' | h'
    · exact h'
    · have := sin_ge f4 h' h; omega, fun hi => sin_lt hi h⟩
  rw [e1, e2, e3]
  generalize sinN (k * d) w = A at *
  generalize sinN ((k + 1) * d) w = B at *
  have w1 : IntKind.i64.wrap (k * d) = k * d := wrap64 (by omega)
  have w2 : IntKind.i64.wrap (k + 1) = k + 1 := wrap64 (by omega)
  have w3 : IntKind.i64.wrap ((k + 1) * d) = (k + 1) * d := wrap64 (by omega)
  refine vc_path [.ret (dB true)] ?_
  simp
  refine ⟨h2, ?_⟩
  refine vc_loopK [0, 1, 2] Nat (fun i => [(12, true, .d (dI i)), (11, true, .d (dI (min i A : Nat))), (10, true, .own 8 5 (((w.take (min i B)).drop A).map dW))]) (fun i => [(8, .row)]) (fun i => i ≤ w.length) (fun i => w.length - i) 0 (by simp) ⟨[], [(8, 5)], ?_⟩ (fun i hi => ?_)
  · simp
  simp
  refine ⟨fun hlt => ?_, fun hge => ?_⟩
  · have a1 := cA i hlt
    have b1 := cB i hlt
    have wi : IntKind.i64.wrap ((i : Int) + 1) = ((i + 1 : Nat) : Int) := wrap64 (by omega)
    simp [hlt, dW, w1, w2, w3]
    have hml : (List.map dW w).length = w.length := List.length_map ..
    have hget : (List.map dW w)[i]'(by rw [hml]; exact hlt) = .agg [dT w[i].t, .lit (.int .i64 w[i].f), .lit (.int .i64 w[i].u), .lit (.int .i64 w[i].s), .sl 1 (List.map dT w[i].a)] := by simp [dW]
    refine ⟨fun g1 => ?_, fun g1 => ⟨fun g2 => ?_, fun g2 => ?_⟩⟩
    · have hi := a1.1 g1
      have e4 : min (i + 1) A = i + 1 := by omega
      have e5 : min i A = i := by omega
      have e6 : List.drop A (List.take (min i B) (List.map dW w)) = [] := List.drop_eq_nil_of_le (by rw [List.length_take, hml]; omega)
      have e7 : List.drop A (List.take (min (i + 1) B) (List.map dW w)) = [] := List.drop_eq_nil_of_le (by rw [List.length_take, hml]; omega)
      refine ⟨i + 1, by omega, by omega, [], [], ?_⟩
      simp [wi, e4, e5, e6, e7]
    · have hi : i < B := b1.1 g2
      have hA : A ≤ i := by
        rcases Nat.lt_or_ge i A with h | h
        · have := a1.2 h; omega
        · exact h
      have e4 : min (i + 1) A = A := by omega
      have e5 : min i A = A := by omega
      have e6 : List.drop A (List.take (min (i + 1) B) (List.map dW w)) = List.drop A (List.take (min i B) (List.map dW w)) ++ [.agg [dT w[i].t, .lit (.int .i64 w[i].f), .lit (.int .i64 w[i].u), .lit (.int .i64 w[i].s), .sl 1 (List.map dT w[i].a)]] := by
        rw [show min (i + 1) B = i + 1 by omega, show min i B = i by omega, List.take_add_one, List.getElem?_eq_getElem (by rw [hml]; exact hlt), hget, List.drop_append, List.length_take, hml, show A - min i w.length = 0 by omega]
        rfl
      refine ⟨⟨by omega, by omega⟩, i + 1, by omega, by omega, [(8, 10)], [], ?_⟩
      simp [wi, e4, e5, e6]
    · have hi : B ≤ i := by
        rcases Nat.lt_or_ge i B with h | h
        · have := b1.2 h; omega
        · exact h
      have e4 : min (i + 1) A = A := by omega
      have e5 : min i A = A := by omega
      have e6 : min (i + 1) B = B := by omega
      have e7 : min i B = B := by omega
      refine ⟨i + 1, by omega, by omega, [], [], ?_⟩
      simp [wi, e4, e5, e6, e7]
  · have hi : i = w.length := by omega
    have e5 : min i A = A := by omega
    have e7 : min i B = B := by omega
    rw [e5, e7]
    exact ⟨LeD.refl _, LeD.refl _⟩
end Go.Proofs.YteonapeaaepipaaDoor
end

section
namespace Go.Proofs.YteonapeaaepipaaDoor
open Go Go.Proofs.YteonapeaaepipaaDoor.AL
attribute [local simp] dT_agg dT_nt dT_noTup dT_cells dT_one bs_toList bs_size strV dW_cells dW_agg dW_noTup dSm_cells dSm_agg dSm_noTup dOp_cells dOp_agg dOp_noTup dWs_cells dWs_one dWs_agg dWs_noTup dWs_nt
attribute [local simp] dW_nt dP_cells dP_agg dP_noTup dOld_cells dOld_agg dOld_noTup dOld_one
set_option maxRecDepth 8000
set_option maxHeartbeats 4000000
theorem rpast (s : Sm) (p t d k : Int) : PCall Tryd.prog 17 [dSm s, dP p, dI t, dI d, dI k] (.ret (.tup [dI (pI s p t d k), dB (pB s p t d k), dI (pE s p t d k)])) := by
  refine pcall_of_vc hRu c17 (by simp [a17]) fun hr => ?_
  have h1 := CRu.st s p t
  have h2 := CRu.right d k
  simp [a17]
  by_cases q : errP s p t ≠ 0
  · have e0 : pE s p t d k ≠ 0 := by simp [pE, q]
    have e1 : pE s p t d k = errP s p t := by simp [pE, q]
    have e2 : pB s p t d k = false := by simp [pB, e0]
    have e3 : pI s p t d k = 0 := by simp [pI, e2]
    rw [e2, e3, e1]
    generalize errP s p t = e at q h1
    generalize stN s p t = n at h1
    refine vc_path [.ret (.tup [dI n, dI e])] ?_
    simp [q]
    exact h1
  have q : errP s p t = 0 := by omega
  obtain ⟨f0, _, _⟩ := errP_ok q
  obtain ⟨f1, _, _, f4⟩ := eSm_ok f0
  rw [q] at h1
  cases g : chR d k
  · have e1 : pE s p t d k = 230 := by simp [pE, q, g]
    have e2 : pB s p t d k = false := by simp [pB, e1]
    have e3 : pI s p t d k = 0 := by simp [pI, e2]
    rw [g] at h2
    rw [e1, e2, e3]
    generalize stN s p t = n at h1
    refine vc_path [.ret (.tup [dI n, dI 0])] ?_
    simp
    refine ⟨h1, ?_⟩
    refine vc_path [.ret (dB false)] ?_
    simp
    exact h2
  rw [g] at h2
  obtain ⟨m1, m2, m3, m4, m5, m6⟩ := chR_ok g
  have hkd := mul_le_end m1 m3 m5 m6
  have e1 : pE s p t d k = 0 := by simp [pE, q, g]
  have e2 := pB_eq e1
  have e3 : pI s p t d k = if pB s p t d k = true then (sinN ((k + 1) * d) s.w : Int) else 0 := rfl
  obtain ⟨_, _, n0, n1⟩ := stN_ok q
  have cB : ∀ i, (h : i < s.w.length) → (s.w[i].f < (k + 1) * d ↔ i < sinN ((k + 1) * d) s.w) := fun i h => ⟨fun hf => by
    rcases Nat.lt_or_ge i (sinN ((k + 1) * d) s.w) with h' | h'
    · exact h'
    · have := sin_ge f4 h' h; omega, fun hi => sin_lt hi h⟩
  have w2 : IntKind.i64.wrap (k + 1) = k + 1 := wrap64 (by omega)
  have w3 : IntKind.i64.wrap ((k + 1) * d) = (k + 1) * d := wrap64 (by omega)
  rw [e1, e3, e2]
  generalize stN s p t = n at *
  generalize sinN ((k + 1) * d) s.w = B at *
  refine vc_path [.ret (.tup [dI n, dI 0])] ?_
  simp
  refine ⟨h1, ?_⟩
  refine vc_path [.ret (dB true)] ?_
  simp
  refine ⟨h2, ?_⟩
  refine vc_loopK [3, 4, 5, 13] Nat (fun i => [(15, true, .d (dI i))]) (fun i => []) (fun i => (i : Int) ≤ n ∧ i ≤ B) (fun i => s.w.length - i) 0 (by simp; omega) ⟨[], [], ?_⟩ (fun i hi => ?_)
  · simp
  obtain ⟨i1, i2⟩ := hi
  simp
  refine ⟨fun hlt => ?_, fun hge => ?_⟩
  · have hlt2 : i < s.w.length := by omega
    have b1 := cB i hlt2
    simp [hlt2, dW, w2, w3]
    refine ⟨fun g1 => ?_, fun g1 => ?_⟩
    · have hB : B = i := by
        rcases Nat.lt_or_ge i B with h | h
        · have := b1.2 h; omega
        · omega
      subst hB
      have hn : (B : Int) < n := by omega
      exact ⟨leD_of_eq (by simp [hn]), leD_of_eq (by simp [hn])⟩
    · have := b1.1 g1
      refine ⟨i + 1, ⟨by omega, by omega⟩, by omega, [], [], ?_⟩
      rw [wrap64 (by omega)]
      simp
  · have hn : ¬ (B : Int) < n := by omega
    exact ⟨leD_of_eq (by simp [hn]), leD_of_eq (by simp [hn])⟩
end Go.Proofs.YteonapeaaepipaaDoor
end

section
namespace Go.Proofs.YteonapeaaepipaaDoor
open Go Go.Proofs.YteonapeaaepipaaDoor.AL
attribute [local simp] dT_agg dT_nt dT_noTup dT_cells dT_one bs_toList bs_size strV dW_cells dW_agg dW_noTup dSm_cells dSm_agg dSm_noTup dOp_cells dOp_agg dOp_noTup dWs_cells dWs_one dWs_agg dWs_noTup dWs_nt
attribute [local simp] dW_nt dP_cells dP_agg dP_noTup dOld_cells dOld_agg dOld_noTup dOld_one
set_option maxRecDepth 8000
set_option maxHeartbeats 4000000
inductive C74a : FuncId → List D → Out → Prop
  | mk (s : Sm) (p t d k : Int) : C74a 16 [dSm s, dP p, dI t, dI d, dI k] (.ret (.tup [dI (pI s p t d k), dB (pB s p t d k), dI (pE s p t d k)]))
theorem h74a : ∀ f ds out, C74a f ds out → PCall Tryd.prog f ds out := by
  intro f ds out h
  cases h with
  | mk s p t d k => exact past s p t d k
theorem past1 (s : Sm) (p t d k : Int) : PCall Tryd.prog 50 [.ip (dSm s), .ip (dP p), .ip (dI t), .ip (dI d), .ip (dI k)] (.ret (.tup [dI (pI s p t d k), dB (pB s p t d k), dI (pE s p t d k)])) := by
  refine pcall_of_vc h74a c50 (by simp [a50]) fun hr => ?_
  have hc := C74a.mk s p t d k
  generalize pI s p t d k = i at *
  generalize pB s p t d k = b at *
  generalize pE s p t d k = e at *
  simp [a50]
  refine vc_path [.ret (.tup [dI i, dB b, dI e])] ?_
  simp
  exact hc
/-- How a source is asked. -/
def dAsk (p t d k : Int) (s : Sm) : D := .fn (.func 50) [] [.ip (dSm s), .ip (dP p), .ip (dI t), .ip (dI d), .ip (dI k)]
theorem dAsk_cells (p t d k : Int) (s : Sm) : (dAsk p t d k s).cells = [dAsk p t d k s] := rfl
theorem dAsk_one (p t d k : Int) (s : Sm) : (dAsk p t d k s).one = true := rfl
theorem dAsk_agg (p t d k : Int) (s : Sm) : (dAsk p t d k s).isAgg = false := rfl
theorem dAsk_nt (p t d k : Int) (s : Sm) : (AV.d (dAsk p t d k s)).noTup = true := rfl
/-- A source. -/
def dSrc (p t d k : Int) (x : Sm × Bool) : D := .agg [dB x.2, dAsk p t d k x.1]
theorem dSrc_cells (p t d k : Int) (x : Sm × Bool) : (dSrc p t d k x).cells = [dB x.2, dAsk p t d k x.1] := rfl
theorem dSrc_agg (p t d k : Int) (x : Sm × Bool) : (dSrc p t d k x).isAgg = true := rfl
theorem dSrc_noTup (p t d k : Int) (x : Sm × Bool) : (AV.d (dSrc p t d k x)).noTup = true := rfl
def dSrcs (p t d k : Int) (l : List (Sm × Bool)) : D := .sl 2 (l.map (dSrc p t d k))
theorem dSrcs_cells (p t d k : Int) (l : List (Sm × Bool)) : (dSrcs p t d k l).cells = [dSrcs p t d k l] := rfl
theorem dSrcs_one (p t d k : Int) (l : List (Sm × Bool)) : (dSrcs p t d k l).one = true := rfl
theorem dSrcs_agg (p t d k : Int) (l : List (Sm × Bool)) : (dSrcs p t d k l).isAgg = false := rfl
theorem dSrcs_noTup (p t d k : Int) (l : List (Sm × Bool)) : (AV.d (dSrcs p t d k l)).noTup = true := rfl
attribute [local simp] dAsk_cells dAsk_one dAsk_agg dAsk_nt dSrc_cells dSrc_agg dSrc_noTup dSrcs_cells dSrcs_one dSrcs_agg dSrcs_noTup
theorem reasons (p t d k : Int) (l : List (Sm × Bool)) : PCall Tryd.prog 51 [dSrcs p t d k l] (.ret (.fn (.func 82) [] [.ip (dSrcs p t d k l)])) := by
  refine pcall_of_vcZ noC c51 (by simp [a51]) fun hr => ?_
  simp [a51]
  done
inductive C74b : FuncId → List D → Out → Prop
  | past (s : Sm) (p t d k : Int) : C74b 16 [dSm s, dP p, dI t, dI d, dI k] (.ret (.tup [dI (pI s p t d k), dB (pB s p t d k), dI (pE s p t d k)]))
  | past0 (p t d k : Int) : C74b 16 [.agg [.nil 5, dI 0], dP p, dI t, dI d, dI k] (.ret (.tup [dI (pI ⟨[], 0⟩ p t d k), dB (pB ⟨[], 0⟩ p t d k), dI (pE ⟨[], 0⟩ p t d k)]))
  | ask (s : Sm) (p t d k : Int) : C74b 50 [.ip (dSm s), .ip (dP p), .ip (dI t), .ip (dI d), .ip (dI k)] (.ret (.tup [dI (pI s p t d k), dB (pB s p t d k), dI (pE s p t d k)]))
  | rs (p t d k : Int) (l : List (Sm × Bool)) : C74b 51 [dSrcs p t d k l] (.ret (.fn (.func 82) [] [.ip (dSrcs p t d k l)]))
theorem h74b : ∀ f ds out, C74b f ds out → PCall Tryd.prog f ds out := by
  intro f ds out h
  cases h with
  | past s p t d k => exact past s p t d k
  | past0 p t d k => exact (past ⟨[], 0⟩ p t d k).le (.cons (LeD.agg (.cons (leD_nil0 _ _) (.cons (LeD.refl _) .nil)) (by simp [D.one])) (.cons (LeD.refl _) (.cons (LeD.refl _) (.cons (LeD.refl _) (.cons (LeD.refl _) .nil)))))
  | ask s p t d k => exact past1 s p t d k
  | rs p t d k l => exact reasons p t d k l
end Go.Proofs.YteonapeaaepipaaDoor
end

section
namespace Go.Proofs.YteonapeaaepipaaDoor
open Go Go.Proofs.YteonapeaaepipaaDoor.AL
attribute [local simp] dT_agg dT_nt dT_noTup dT_cells dT_one bs_toList bs_size strV dW_cells dW_agg dW_noTup dSm_cells dSm_agg dSm_noTup dOp_cells dOp_agg dOp_noTup dWs_cells dWs_one dWs_agg dWs_noTup dWs_nt
attribute [local simp] dW_nt dP_cells dP_agg dP_noTup dOld_cells dOld_agg dOld_noTup dOld_one
attribute [local simp] dAsk_cells dAsk_one dAsk_agg dAsk_nt dSrc_cells dSrc_agg dSrc_noTup dSrcs_cells dSrcs_one dSrcs_agg dSrcs_noTup
set_option maxRecDepth 8000
set_option maxHeartbeats 4000000
theorem pI_nonneg (s : Sm) (p t d k : Int) : 0 ≤ pI s p t d k := by unfold pI; split <;> omega
theorem whyL_take {p t d k : Int} {l : List Sm} {hd : List Bool} {i : Nat} (h : i < l.length) (h' : i < hd.length) : ((whyL p t d k l hd).take (i + 1)).map dI = ((whyL p t d k l hd).take i).map dI ++ [dI (whyOf p t d k (l[i], hd[i]))] := by
  have hlz : i < (l.zip hd).length := by simp; omega
  rw [List.take_add_one]
  simp [whyL, List.getElem?_eq_getElem hlz, List.getElem?_eq_getElem h, List.getElem?_eq_getElem h']
theorem waited_take {hd : List Bool} {i : Nat} (h' : i < hd.length) : waitedN (hd.take (i + 1)) = waitedN (hd.take i) + (if hd[i] = true then 1 else 0) := by
  rw [List.take_add_one, List.getElem?_eq_getElem h']
  simp only [waitedN, List.countP_append, Option.toList, List.countP_cons, List.countP_nil, id]
  omega
theorem passed_take {p t d k : Int} {l : List Sm} {hd : List Bool} {i : Nat} (h : i < l.length) (h' : i < hd.length) : passedN p t d k (l.take (i + 1)) (hd.take (i + 1)) = passedN p t d k (l.take i) (hd.take i) + (if (hd[i] && pB l[i] p t d k) = true then 1 else 0) := by
  have hlz : i < (l.zip hd).length := by simp; omega
  have e : ∀ n, (l.take n).zip (hd.take n) = (l.zip hd).take n := fun n => by simp [List.zip, List.take_zipWith]
  simp only [passedN, e]
  rw [List.take_add_one, List.getElem?_eq_getElem hlz]
  simp only [List.countP_append, Option.toList, List.countP_cons, List.countP_nil, List.getElem_zip]
  omega
theorem fE_step {p t d k : Int} {l : List Sm} {i : Nat} (h : i < l.length) : fE p t d k (l.drop i) = if pE l[i] p t d k = 0 then fE p t d k (l.drop (i + 1)) else pE l[i] p t d k := by
  rw [List.drop_eq_getElem_cons h, fE]
theorem countP_take_le {α : Type} (f : α → Bool) (l : List α) (i : Nat) : (l.take i).countP f ≤ i := Nat.le_trans List.countP_le_length (by simp; omega)
theorem state (l : List Sm) (hd : List Bool) (p t d k due : Int) : PCall Tryd.prog 20 [.sl 2 (l.map dSm), .sl 1 (hd.map dB), dP p, dI t, dI d, dI k, dI due] (.ret (.tup [dI (stV l hd p t d k due), .sl 1 ((stY l hd p t d k due).map dI), dI (stE l hd p t d k due)])) := by
  refine pcall_of_vc h74b c20 (by simp [a20]) fun hr => ?_
  simp [a20]
  refine ⟨fun q1 => ?_, fun q1 => ?_⟩
  · have e1 : stE l hd p t d k due = 2 := by unfold stE; rw [if_pos (by omega)]
    have e2 : stV l hd p t d k due = 0 := by unfold stV; rw [if_neg (by omega)]
    have e3 : stY l hd p t d k due = [] := by unfold stY; rw [if_neg (by omega)]
    rw [e1, e2, e3]
    exact ⟨LeD.refl _, leD_nil0 _ _, LeD.refl _⟩
  obtain ⟨Zs, hZ⟩ : ∃ Zs, Zs = (l.zip hd).map (dSrc p t d k) := ⟨_, rfl⟩
  have hZget : ∀ i, (h : i < l.length) → (h' : i < hd.length) → Zs.take (i + 1) = Zs.take i ++ [.agg [.lit (.bool hd[i]), .fn (.func 50) [] [.ip (.agg [.sl 5 (l[i].w.map dW), .lit (.int .i64 l[i].x)]), .ip (dP p), .ip (.lit (.int .i64 t)), .ip (.lit (.int .i64 d)), .ip (.lit (.int .i64 k))]]] := fun i h h' => by
    have hlz : i < (l.zip hd).length := by simp; omega
    rw [hZ, ← List.map_take, ← List.map_take, List.take_add_one, List.getElem?_eq_getElem hlz]
    simp [dSrc, dAsk, dSm]
  have hZat : ∀ i, (h : i < l.length) → (h' : i < hd.length) → Zs[i]? = some (.agg [.lit (.bool hd[i]), .fn (.func 50) [] [.ip (.agg [.sl 5 (l[i].w.map dW), .lit (.int .i64 l[i].x)]), .ip (dP p), .ip (.lit (.int .i64 t)), .ip (.lit (.int .i64 d)), .ip (.lit (.int .i64 k))]]) := fun i h h' => by
    have hlz : i < (l.zip hd).length := by simp; omega
    rw [hZ, List.getElem?_map, List.getElem?_eq_getElem hlz]
    simp [dSrc, dAsk, dSm]
  have hrs : C74b 51 [.sl 2 Zs] (.ret (.fn (.func 82) [] [.ip (.sl 2 Zs)])) := by rw [hZ]; exact .rs p t d k (l.zip hd)
  refine ⟨fun q2 => ?ga, fun q2 => ⟨fun q3 => ?gb, fun q3 => ?gc⟩⟩
  case ga =>
    have e1 : stE l hd p t d k due = 1 := by unfold stE; rw [if_neg (by omega), if_pos (by omega)]
    have e2 : stV l hd p t d k due = 0 := by unfold stV; rw [if_neg (by omega)]
    have e3 : stY l hd p t d k due = [] := by unfold stY; rw [if_neg (by omega)]
    rw [e1, e2, e3]
    exact ⟨LeD.refl _, leD_nil0 _ _, LeD.refl _⟩
  case' gb =>
    have hc := C74b.past0 p t d k
    by_cases q4 : ¬ pE ⟨[], 0⟩ p t d k = 0
    · have hl : l = [] := by simpa using q3
      have e1 : stE l hd p t d k due = pE ⟨[], 0⟩ p t d k := by unfold stE; rw [if_neg (by omega), if_neg (by omega), if_pos ⟨hl, q4⟩]
      have e2 : stV l hd p t d k due = 0 := by unfold stV; rw [if_neg (by omega)]
      have e3 : stY l hd p t d k due = [] := by unfold stY; rw [if_neg (by omega)]
      rw [e1, e2, e3]
      generalize pI ⟨[], 0⟩ p t d k = i1 at hc
      generalize pB ⟨[], 0⟩ p t d k = b1 at hc
      generalize pE ⟨[], 0⟩ p t d k = e at *
      refine vc_path [.ret (.tup [dI i1, dB b1, dI e])] ?_
      simp [q4]
      exact ⟨hc, rfl⟩
    have q4 : pE ⟨[], 0⟩ p t d k = 0 := by omega
    have hst : ¬ (l = [] ∧ pE ⟨[], 0⟩ p t d k ≠ 0) := fun h => h.2 q4
    rw [q4] at hc
    generalize pI ⟨[], 0⟩ p t d k = i1 at hc
    generalize pB ⟨[], 0⟩ p t d k = b1 at hc
    refine vc_path [.ret (.tup [dI i1, dB b1, dI 0])] ?_
    simp
    refine ⟨hc, ?_⟩
    clear hc q4 q3
    revert hst
  case' gc =>
    have hst : ¬ (l = [] ∧ pE ⟨[], 0⟩ p t d k ≠ 0) := fun h => q3 (by simp [h.1])
    clear q3
    revert hst
  all_goals
    intro hst
    refine vc_loopK [6, 8, 9, 10, 11, 12, 14, 15, 16, 48, 49] Nat (fun i => [(17, true, .own 3 2 (Zs.take i)), (50, true, .d (dI i))]) (fun i => [(3, .row)]) (fun i => i ≤ l.length) (fun i => l.length - i) 0 (by simp) ⟨[], [(3, 2)], ?_⟩ (fun i hi => ?_)
    · simp
    · rcases Nat.lt_or_ge i l.length with hlt | hge
      · have hlt' : i < hd.length := by omega
        have hmi : min i Zs.length ≤ 16 := by omega
        simp [hlt, hlt']
        refine ⟨⟨by omega, by omega⟩, i + 1, by omega, by omega, [(3, 6)], [], ?_⟩
        rw [wrap64 (by omega), hZget i hlt hlt']
        simp
      · have hZl : Zs.length = l.length := by rw [hZ]; simp; omega
        have hil : i = l.length := by omega
        subst hil
        simp
        refine vc_path [.ret (.fn (.func 82) [] [.ip (.sl 2 Zs)])] ?_
        simp
        refine ⟨by rw [List.take_of_length_le (by omega)]; exact hrs, ?_⟩
        refine vc_range (TF Tryd.prog a82) (hcall_of_vc c82) rfl (by rfl) (fun yl => by rfl) (fun yl => ?_)
        simp [a82]
        refine vc_loopK [0, 1, 8, 9] Nat (fun i => [(10, true, .d (dI i))]) (fun i => [(1, .box false [.own 8 1 (((whyL p t d k l hd).take i).map dI)]), (4, .box false [.d (dI (waitedN (hd.take i)))]), (5, .box false [.d (dI (passedN p t d k (l.take i) (hd.take i)))]), (8, .row)]) (fun i => i ≤ l.length ∧ fE p t d k (l.drop i) = fE p t d k l) (fun i => l.length - i) 0 (by simp) ⟨[], [(8, 1)], ?_⟩ (fun i hi => ?_)
        · simp [waitedN, passedN]
          intro x hx; omega
        · obtain ⟨hi, hfe⟩ := hi
          rcases Nat.lt_or_ge i l.length with hlt | hge
          · have hlt' : i < hd.length := by omega
            have hc2 := C74b.ask l[i] p t d k
            obtain ⟨_, hZe⟩ := List.getElem?_eq_some_iff.1 (hZat i hlt hlt')
            simp [hlt, hlt', hZe, hZl]
            generalize hpi : pI l[i] p t d k = n at hc2
            generalize hpb : pB l[i] p t d k = b at hc2
            generalize hpe : pE l[i] p t d k = e at hc2
            refine vc_path [.ret (.tup [dI n, dB b, dI e])] ?_
            simp
            refine ⟨hc2, ?_⟩
            have hwl : (whyL p t d k l hd).length = l.length := by simp [whyL]; omega
            have hmin : min i (whyL p t d k l hd).length = i := by omega
            have f1 := whyL_take (p := p) (t := t) (d := d) (k := k) hlt hlt'
            have f2 := waited_take hlt'
            have f3 := passed_take (p := p) (t := t) (d := d) (k := k) hlt hlt'
            have f4 := fE_step (p := p) (t := t) (d := d) (k := k) hlt
            have f5 : waitedN (hd.take i) ≤ i := countP_take_le _ _ _
            have f6 : passedN p t d k (l.take i) (hd.take i) ≤ i := by
              unfold passedN; rw [show (l.take i).zip (hd.take i) = (l.zip hd).take i by simp [List.zip, List.take_zipWith]]; exact countP_take_le _ _ _
            have f7 := pI_nonneg l[i] p t d k
            unfold whyOf at f1
            rw [hpi] at f7
            rw [hpe] at f4
            rw [hpb] at f3
            simp only [hpb, hpi] at f1
            have hbad : ¬ e = 0 → stE l hd p t d k due = e ∧ stV l hd p t d k due = 0 ∧ stY l hd p t d k due = [] := fun he => by
              rw [if_neg he] at f4
              have e1 : stE l hd p t d k due = e := by unfold stE; rw [if_neg (by omega), if_neg (by omega), if_neg hst, ← hfe, f4, if_pos he]
              exact ⟨e1, by unfold stV; rw [if_neg (by omega)], by unfold stY; rw [if_neg (by omega)]⟩
            have hwp1 : IntKind.i64.wrap ((waitedN (hd.take i) : Int) + 1) = (waitedN (hd.take i) : Int) + 1 := wrap64 (by omega)
            have hwp2 : IntKind.i64.wrap ((passedN p t d k (l.take i) (hd.take i) : Int) + 1) = (passedN p t d k (l.take i) (hd.take i) : Int) + 1 := wrap64 (by omega)
            cases hh : hd[i] <;> cases b
            all_goals
              rw [hh] at f1 f2 f3
              simp at f1 f2 f3
              refine vc_path [] ?_
              simp
              refine regS_path [] ?_
              simp [hmin, hlt', hh, f7]
              refine ⟨fun he => ?_, fun he => ?_⟩
              · obtain ⟨e1, e2, e3⟩ := hbad he
                rw [e1, e2, e3]
                exact ⟨LeD.refl _, leD_nil0 _ _, LeD.refl _⟩
              · rw [if_pos he] at f4
                refine ⟨⟨by omega, by omega⟩, i + 1, ⟨by omega, by rw [← f4]; exact hfe⟩, by omega, [(8, 11)], [], ?_⟩
                rw [wrap64 (by omega)]
                simp [f1, f2, f3, hwp1, hwp2]
                all_goals exact fun x hx => .inr ⟨by rw [if_neg (by omega)]; rfl, by omega⟩
          · have hil : i = l.length := by omega
            subst hil
            have t1 : hd.take l.length = hd := List.take_of_length_le (by omega)
            have t3 : ((whyL p t d k l hd).map dI).take l.length = (whyL p t d k l hd).map dI := List.take_of_length_le (by simp [whyL]; omega)
            have t4 : fE p t d k l = 0 := by rw [← hfe]; simp [fE]
            have hse : stE l hd p t d k due = if 0 ≤ due ∧ due < 1099511627776 then 0 else 1 := by
              unfold stE; rw [if_neg (by omega), if_neg (by omega), if_neg hst, if_neg (by omega)]
            simp [hZl, t1, t3]
            have hv : stV l hd p t d k due = if 0 ≤ due ∧ due < 1099511627776 then (if 0 < waitedN hd ∧ waitedN hd = passedN p t d k l hd then 2 else if due ≤ t then 1 else 0) else 0 := by
              unfold stV; rw [hse]; split <;> simp [*]
            have hy : stY l hd p t d k due = if 0 ≤ due ∧ due < 1099511627776 then whyL p t d k l hd else [] := by
              unfold stY; rw [hse]; split <;> simp [*]
            rw [hse, hv, hy]
            have g1 : waitedN hd ≤ 16 := Nat.le_trans List.countP_le_length (by omega)
            have g2 : passedN p t d k l hd ≤ 16 := Nat.le_trans List.countP_le_length (by simp; omega)
            generalize waitedN hd = W at *
            generalize passedN p t d k l hd = N at *
            generalize whyL p t d k l hd = L at *
            refine vc_path [] ?_
            simp
            refine ⟨fun h1 => ?_, fun h1 => ⟨fun h2 => ?_, fun h2 => ?_⟩⟩
            · have hn : ¬ (0 ≤ due ∧ due < 1099511627776) := by omega
              rw [if_neg hn, if_neg hn, if_neg hn]
              exact ⟨LeD.refl _, leD_nil0 _ _, LeD.refl _⟩
            · have hn : ¬ (0 ≤ due ∧ due < 1099511627776) := by omega
              rw [if_neg hn, if_neg hn, if_neg hn]
              exact ⟨LeD.refl _, leD_nil0 _ _, LeD.refl _⟩
            · have hn : 0 ≤ due ∧ due < 1099511627776 := ⟨h1, h2⟩
              rw [if_pos hn, if_pos hn, if_pos hn]
              refine vc_path [] ?_
              simp
              refine ⟨fun w1 => ⟨fun w2 => ⟨rfl, ?_⟩, fun w2 => ⟨fun w3 => ⟨rfl, ?_⟩, fun w3 => ⟨rfl, ?_⟩⟩⟩, fun w1 => ⟨fun w3 => ⟨rfl, ?_⟩, fun w3 => ⟨rfl, ?_⟩⟩⟩
              · rw [if_pos ⟨w1, by omega⟩]; exact LeD.refl _
              · rw [if_neg (by omega), if_pos w3]; exact LeD.refl _
              · rw [if_neg (by omega), if_neg (by omega)]; exact LeD.refl _
              · rw [if_neg (by omega), if_pos w3]; exact LeD.refl _
              · rw [if_neg (by omega), if_neg (by omega)]; exact LeD.refl _
end Go.Proofs.YteonapeaaepipaaDoor
end
