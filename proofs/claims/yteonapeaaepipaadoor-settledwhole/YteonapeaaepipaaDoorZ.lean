/- Part of the proof: S81, S88. -/
import Derived.Test.YteonapeaaepipaaDoorH
set_option linter.unnecessarySimpa false
set_option linter.unusedVariables false
set_option linter.unusedSimpArgs false
section
namespace Go.Proofs.YteonapeaaepipaaDoor
open Go Go.Proofs.YteonapeaaepipaaDoor.AL
attribute [local simp] dT_agg dT_nt dT_noTup dT_cells dT_one bs_toList bs_size strV dW_cells dW_agg dW_noTup dSm_cells dSm_agg dSm_noTup dOp_cells dOp_agg dOp_noTup dWs_cells dWs_one dWs_agg dWs_noTup dWs_nt
attribute [local simp] dW_nt dP_cells dP_agg dP_noTup dOld_cells dOld_agg dOld_noTup dOld_one
set_option maxRecDepth 20000
set_option maxHeartbeats 8000000
theorem sin0 {w : List Wd} (h : okWs 0 w = true) : sinN 0 w = 0 := by
  cases w with
  | nil => rfl
  | cons x r =>
    simp only [okWs, Bool.and_eq_true, decide_eq_true_eq] at h
    simp [sinN, List.findIdx_cons, h.2.1]
theorem sinAll {w : List Wd} {T : Int} (h : ∀ x ∈ w, x.f < T) : sinN T w = w.length := by
  rcases Nat.lt_or_ge (sinN T w) w.length with hlt | hge
  · have := List.findIdx_getElem (p := fun x : Wd => decide (T ≤ x.f)) (xs := w) (w := hlt)
    have h1 : T ≤ (w[sinN T w]).f := of_decide_eq_true this
    have := h _ (List.getElem_mem hlt)
    omega
  · have := sin_le T w; omega
theorem settledWhole (w : List Wd) (d : Int) : PCall Tryd.prog 5 [dWs w, dI d] (.ret (dB true)) := by
  refine pcall_of_vc h80 c5 (by simp [a5]) fun hr => ?_
  simp [a5]
  refine vc_path [.ret (dB true)] ?_
  simp
  refine ⟨.sane, ?_⟩
  have h1 := C78a.sck ⟨w, 0⟩
  by_cases g0 : ¬ (w.length ≤ 30 ∧ 1 ≤ d ∧ d ≤ 1073741824)
  · by_cases q1 : 30 < w.length
    · refine vc_path [] ?_
      simp [dWs_eq, show 30 < (w.length : Int) by omega]
    · by_cases q2 : d < 1
      · refine vc_path [] ?_
        simp [dWs_eq, q1, q2]
      · refine vc_path [] ?_
        simp [dWs_eq, q1, q2, show 1073741824 < d by omega]
  have g0 : w.length ≤ 30 ∧ 1 ≤ d ∧ d ≤ 1073741824 := by omega
  obtain ⟨g1, g2, g3⟩ := g0
  have w40 : IntKind.i64.wrap (40 * d) = 40 * d := wrap64 (by omega)
  by_cases g4 : ¬ eSm ⟨w, 0⟩ = 0
  · generalize eSm ⟨w, 0⟩ = e at *
    refine vc_path [.ret (dI e)] ?_
    simp [dWs_eq, g4, show ¬ 30 < (w.length : Int) by omega, show ¬ d < 1 by omega, show ¬ 1073741824 < d by omega]
    exact .a h1
  have g4 : eSm ⟨w, 0⟩ = 0 := by omega
  rw [g4] at h1
  obtain ⟨_, _, _, hs⟩ := eSm_ok g4
  have hs : okWs 0 w = true := hs
  by_cases g5 : w = []
  case' pos =>
    have hall : ∀ x ∈ w, x.f < 40 * d := by subst g5; simp
    refine vc_path [.ret (dI 0)] ?_
    simp [dWs_eq, show ¬ 30 < (w.length : Int) by omega, show ¬ d < 1 by omega, show ¬ 1073741824 < d by omega, show w.length = 0 by rw [g5]; rfl]
    refine ⟨.a h1, ?_⟩
    clear g5
    revert hall
  case' neg =>
    have hpos : 0 < w.length := List.length_pos_iff.2 g5
    obtain ⟨j, hj⟩ : ∃ j, w.length = j + 1 := ⟨w.length - 1, by omega⟩
    have hj' : j < w.length := by omega
    have hw1 : IntKind.i64.wrap (j : Int) = (j : Int) := wrap64 (by omega)
    have hj3 : ¬ 30 < (j : Int) + 1 := by omega
    by_cases g6 : 40 * d ≤ (w[j]).f
    · refine vc_path [.ret (dI 0)] ?_
      simp [dWs_eq, hj3, show ¬ d < 1 by omega, show ¬ 1073741824 < d by omega, hw1, w40, hj, hj', g6]
      exact ⟨.a h1, by omega⟩
    have hall : ∀ x ∈ w, x.f < 40 * d := fun x hx => by
      obtain ⟨i, hi, rfl⟩ := List.getElem_of_mem hx
      have := (okWs_sorted 0 w hs i j (by omega) hj').2
      omega
    refine vc_path [.ret (dI 0)] ?_
    simp [dWs_eq, hj3, show ¬ d < 1 by omega, show ¬ 1073741824 < d by omega, hw1, w40, hj, hj', g6]
    refine ⟨.a h1, by omega, ?_⟩
    revert hall
  all_goals
    intro hall
    refine vc_loopK [0, 1] Nat (fun k => [(5, true, .own 0 5 ((w.take (sinN (k * d) w)).map dW)), (6, true, .d (dI k))]) (fun k => [(0, .row)]) (fun k => k ≤ 40) (fun k => 40 - k) 0 (by simp) ⟨[], [(0, 5)], ?_⟩ (fun k hk => ?_)
    · simp [sin0 hs]
    · rcases Nat.lt_or_ge k 40 with hlt | hge
      · have hkd : ckE w d k = 0 := by
          have m1 : ((k : Int) + 1) * d ≤ 40 * d := Int.mul_le_mul_of_nonneg_right (by omega) (by omega)
          unfold ckE; rw [if_pos g4, if_pos (chR_of g2 g3 (by omega) (by omega))]
        obtain ⟨e1, e2⟩ := whole_step hkd
        have h3 := C78a.ck w d k
        rw [hkd, e2] at h3
        have hl1 := sin_le ((k : Int) * d) w
        have hl2 : (ckL w d k).length ≤ w.length := by unfold ckL; rw [if_pos hkd]; simp; omega
        have hmin : min (sinN ((k : Int) * d) w) w.length = sinN ((k : Int) * d) w := by omega
        rw [List.length_take, hmin] at h3
        have e1' := congrArg (List.map dW) e1
        rw [List.map_append] at e1'
        generalize ckL w d k = L at *
        simp [show (k : Int) < 40 by omega]
        refine vc_path [.ret (.tup [dWs L, dI (sinN ((k : Int) * d) w : Nat), dI 0])] ?_
        simp
        refine ⟨.a h3, ?_⟩
        refine vc_path [] ?_
        simp
        refine vc_path [] ?_
        simp [hmin, dWs_eq]
        refine ⟨⟨by omega, by omega⟩, k + 1, by omega, by omega, [(0, 1)], [], ?_⟩
        rw [wrap64 (by omega)]
        simp at e1'
        simp [e1']
      · have hk40 : k = 40 := by omega
        subst hk40
        have hs40 := sinAll hall
        have h5 := C78a.sw w w
        simp only [decide_true] at h5
        simp
        refine vc_path [.ret (dB true)] ?_
        simp [hs40]
        rw [show (w.map dW).take w.length = w.map dW from List.take_of_length_le (by simp)]
        exact .a h5
end Go.Proofs.YteonapeaaepipaaDoor
end

section
namespace Go.Proofs.YteonapeaaepipaaDoor
open Go Go.Proofs.YteonapeaaepipaaDoor.AL Go.ChangeShapes Go.WideShapes Go.ChangeAt Go.RowKit Go.Lib Go.Shelf
theorem params5 : Tryd.f5.params.toList = [22, 3] := by kernel_rfl
theorem results5 : Tryd.f5.resultTypes.toList = [4] := by kernel_rfl
set_option maxRecDepth 1000000 in
theorem settledWhole_met (os : Os) (args : Array Value) : laidMet Tryd.prog Rows.settledWholeRow.laid ((laidWorld os).forCall (fun _ _ => 0) ⟨#[], args, []⟩).memory :=
  (LaidIn.of_run [1, 0] 8 (by kernel_rfl) (by kernel_rfl) (by kernel_rfl) (by kernel_rfl)).met
theorem settledWhole_witness (os : Os) {H : Type} (enc : TypeId × Value → H) :
    (OpenSpec.ofChange Rows.settledWholeSpec).preRow enc Tryd.prog Tryd.f5 Rows.settledWholeRow.domain false Rows.settledWholeRow.laid ((laidWorld os).forCall (fun _ _ => 0) ⟨#[], #[.slice none 0 0, .int .i64 0], []⟩).memory #[.slice none 0 0, .int .i64 0] := by
  have hw : (DataW.whole enc Tryd.prog ((laidWorld os).forCall (fun _ _ => 0) ⟨#[], #[.slice none 0 0, .int .i64 0], []⟩).memory Tryd.f5.params.toList (OpenSpec.ofChange Rows.settledWholeSpec).vars false (#[.slice none 0 0, .int .i64 0] : Array Value).toList 8).map (fun x => (x.1, x.2.1)) =
      some ([.nil, .lit (.int .i64 0)], []) := by kernel_rfl
  obtain ⟨⟨x1, x2, x3⟩, hx, hx1⟩ := Option.map_eq_some_iff.1 hw
  simp only [Prod.mk.injEq] at hx1
  obtain ⟨rfl, rfl⟩ := hx1
  exact OpenSpec.preRow_of_cond 8 hx (by kernel_rfl) (fun k hk => by cases hk) (by kernel_rfl) (settledWhole_met os _)
set_option maxRecDepth 100000 in
theorem settledWhole_lifted (os : Os) (started : os.Started) (H : Type) (enc : TypeId × Value → H) (F : Stop.Interp) :
    ReturnsInHanded {} Tryd.checked os 5 .any ((OpenSpec.ofChange Rows.settledWholeSpec).preRow enc Tryd.prog Tryd.f5 Rows.settledWholeRow.domain false Rows.settledWholeRow.laid) (((OpenSpec.ofChange Rows.settledWholeSpec).at F).post enc Tryd.prog Tryd.f5 false true false false) := by
  refine returnsInHanded_of_row (C := Tryd.checked) (s := (OpenSpec.ofChange Rows.settledWholeSpec)) (F := F) own started (by kernel_rfl) Tryd.func5
    (witness_row_atRef (enc := enc) (C := Tryd.checked) false (laidWorld os) #[.slice none 0 0, .int .i64 0] rfl (by kernel_rfl) (by kernel_rfl) (by kernel_rfl) (settledWhole_witness os enc)) ?_
  intro W base args ds gs before hval hW _ _ _ hL _ _
  have hU : Lib.Utf8Tabs 0 1 W :=
    utf8Tabs_of_reads (ρ := Tryd.lays197_ren) { Tryd.lays197 with } ⟨by kernel_rfl, by kernel_rfl, by kernel_rfl, by kernel_rfl, by kernel_rfl, by kernel_rfl, by kernel_rfl⟩ (Lib.laidMet.reads hL (.tail _ (.head _))) (Lib.laidMet.reads hL (.head _))
  refine law_contract laidOut params5 results5 (by kernel_rfl) rfl (fun ds h => by match ds, h with | [_, _], _ => rfl) (by kernel_rfl) (.cons sWs (.cons sI .nil)) (fun ds hK => ?_) W base args ds gs before (glOk_of hU) hval hW
  cases hK
  rename_i h1 hK
  cases hK
  rename_i h2 hK
  cases hK
  obtain ⟨n1, rfl⟩ := h1
  obtain ⟨n2, hb2, rfl⟩ := h2
  exact Go.Proofs.YteonapeaaepipaaDoor.settledWhole n1 n2
theorem settledWhole_holds : Rows.SettledWholeSaid :=
  OpenClaim.holds_of_cond 5 Tryd.f5 rfl rfl rfl rfl rfl rfl rfl ⟨rfl, rfl, rfl, rfl, rfl⟩ rfl rfl rfl rfl rfl (by kernel_rfl) Tryd.func5 (by kernel_rfl)
    (of_decide_eq_true (by kernel_rfl)) (by unfold Func.isWrapper; rw [if_neg (of_decide_eq_false (by kernel_rfl))]; exact ⟨rfl, rfl⟩)
    (fun os started H enc _ F0 => by rw [OpenClaim.pre_eq_preRow]; exact settledWhole_lifted os started H enc F0)
theorem settledWhole_card : Rows.SettledWholeCardSaid :=
  Claim7.holds_tied_plain_at .later [] [.data, .pinned] true _ true
    settledWhole_holds (fun _ h => by cases h) (by kernel_rfl) (fun _ h => by cases h) settledWhole_row_tie rfl ⟨rfl, rfl⟩ (by kernel_rfl) rfl
    (fun f fn hf hfn => by
      obtain rfl : f = 5 := Option.some.inj ((show Tryd.prog.funcNamed Rows.settledWholeRow.func = some 5 by kernel_rfl).symm.trans hf) |>.symm
      obtain rfl : fn = Tryd.f5 := (Option.some.inj (Tryd.func5.symm.trans hfn)).symm
      exact ⟨by kernel_rfl, fun j t ht => by
        rw [← Array.getElem?_toList, params5] at ht
        match j with
        | 0 => simp at ht; subst ht; exact (show Tryd.prog.wantsStandIn 22 = false by kernel_rfl)
        | 1 => simp at ht; subst ht; exact (show Tryd.prog.wantsStandIn 3 = false by kernel_rfl)
        | j + 2 => simp at ht⟩)
    (by kernel_rfl)

end Go.Proofs.YteonapeaaepipaaDoor
end
