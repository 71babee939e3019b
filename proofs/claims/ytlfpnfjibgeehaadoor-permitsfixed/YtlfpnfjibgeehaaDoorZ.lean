/- Part of the proof: S53, S68. -/
import Derived.Test.YtlfpnfjibgeehaaDoorH
set_option linter.unnecessarySimpa false
set_option linter.unusedVariables false
set_option linter.unusedSimpArgs false
section
namespace Go.Proofs.YtlfpnfjibgeehaaDoor
open Go Go.Proofs.YtlfpnfjibgeehaaDoor.AL
attribute [local simp] dT_agg dT_nt dT_noTup dT_cells dT_one bs_toList bs_size strV dW_cells dW_agg dW_noTup dSm_cells dSm_agg dSm_noTup dOp_cells dOp_agg dOp_noTup dWs_cells dWs_one dWs_agg dWs_noTup dWs_nt
attribute [local simp] dW_nt dP_cells dP_agg dP_noTup dOld_cells dOld_agg dOld_noTup dOld_one
set_option maxRecDepth 8000
set_option maxHeartbeats 4000000
theorem pfixed (s : Sm) (p t : Int) (o : Op) : PCall Tryd.prog 8 [dSm s, dP p, dI t, dOp o] (.ret (dB true)) := by
  refine pcall_of_vc hLq c8 (by simp [a8]) fun hr => ?_
  simp [a8]
  refine vc_path [.ret (dB true)] ?_
  simp
  refine ⟨.sane, ?_⟩
  cases hf : fewP s o
  · refine vc_path [.ret (dB false)] ?_
    simp
    exact .lp (.few' hf (all2_refl LeD.refl _))
  refine vc_path [.ret (dB true)] ?_
  simp
  refine ⟨.lp (.few' hf (all2_refl LeD.refl _)), ?_⟩
  have ho70 : s.w.length ≤ 30 ∧ o.w.length ≤ 70 := by simp [fewP] at hf; omega
  have h1 := CLq.lp (.of (.al s p t o))
  by_cases g : errP s p t ≠ 0
  · have ha : alW s p t o = false := by simp [alW, g]
    rw [ha] at h1
    generalize errP s p t = e at g h1
    refine vc_path [.ret (.tup [dB false, dI e])] ?_
    simp [g]
    exact h1
  have g : errP s p t = 0 := by omega
  obtain ⟨f1, f2, f3⟩ := errP_ok g
  obtain ⟨flen, f5, f6, f7⟩ := eSm_ok f1
  have hsm : ∀ x ∈ s.w, smallU x := fun x hx => small_of_ok (okWs_mem 0 s.w f7 x hx)
  rw [g] at h1
  have h2 := CLq.lp (.of (.do_ s o))
  by_cases g2 : doE s o ≠ 0
  · have ha : alW s p t o = false := by simp [alW, g2]
    rw [ha] at h1
    generalize doE s o = e at g2 h2
    generalize doX s o = x at h2
    refine vc_path [.ret (.tup [dB false, dI 0])] ?_
    simp
    refine ⟨h1, ?_⟩
    refine vc_path [.ret (.tup [dSm x, dI e])] ?_
    simp [g2]
    exact h2
  have g2 : doE s o = 0 := by omega
  have how := op_words g2
  have hom : ∀ x ∈ o.w, smallU x := fun x hx => small_of_ok (how x hx)
  have hfix : alW s p t o = false → o.k = 2 ∧ ((s.w.any (oldW p t)) = true ∨ o.w.any (oldW p t) = true) := fixed_law g g2
  have h3 := CLq.lp (.of (.rck s))
  rw [g2] at h2
  rw [f1] at h3
  generalize doX s o = x at h2
  generalize hb : alW s p t o = b at h1 hfix
  refine vc_path [.ret (.tup [dB b, dI 0])] ?_
  simp
  refine ⟨h1, ?_⟩
  refine vc_path [.ret (.tup [dSm x, dI 0])] ?_
  simp
  refine ⟨h2, ?_⟩
  have m1 : ¬ p < 0 := by omega
  have m2 : ¬ 1073741824 < p := by omega
  refine vc_path [.ret (dI 0)] ?_
  simp [m1, m2]
  refine ⟨h3, ?_⟩
  have anyS : ∀ (l : List Wd) (i : Nat) (h : i < l.length), (l.take (i + 1)).any (oldW p t) = ((l.take i).any (oldW p t) || oldW p t l[i]) := fun l i h => by
    rw [List.take_add_one, List.any_append, List.getElem?_eq_getElem h]; simp
  refine vc_loopK [2, 4, 5, 7, 9] Nat (fun i => [(14, true, .d (dI i)), (13, true, .d (dB ((s.w.take i).any (oldW p t))))]) (fun i => []) (fun i => i ≤ s.w.length) (fun i => s.w.length - i) 0 (by simp) ⟨[], [], ?_⟩ (fun i hi => ?_)
  · simp
  simp
  refine ⟨fun hlt => ?_, fun hge => ?_⟩
  · have hc := CLq.lp (.of (.rold s.w[i] p t (hsm _ (List.getElem_mem hlt)) f2))
    have han := anyS s.w i hlt
    generalize oldW p t s.w[i] = b1 at hc han
    cases hb2 : (s.w.take i).any (oldW p t)
    · refine vc_pathD [.ret (dB b1)] ?_
      simp [hlt]
      refine ⟨hc, rfl, i + 1, by omega, by omega, [], [], ?_⟩
      rw [wrap64 (by omega)]
      simp [han, hb2]
    · refine vc_pathD [] ?_
      simp
      refine ⟨rfl, i + 1, by omega, by omega, [], [], ?_⟩
      rw [wrap64 (by omega)]
      simp [han, hb2]
  · have : i = s.w.length := by omega
    subst this
    generalize hA : (s.w.take s.w.length).any (oldW p t) = A
    rw [List.take_length] at hA
    refine vc_loopK [2, 4, 5, 7, 9] Nat (fun i => [(15, true, .d (dI i)), (13, true, .d (dB (A || (o.w.take i).any (oldW p t))))]) (fun i => []) (fun i => i ≤ o.w.length) (fun i => o.w.length - i) 0 (by simp) ⟨[], [], ?_⟩ (fun i hi => ?_)
    · simp
    simp
    refine ⟨fun hlt => ?_, fun hge => ?_⟩
    · have hc := CLq.lp (.of (.rold o.w[i] p t (hom _ (List.getElem_mem hlt)) f2))
      have han := anyS o.w i hlt
      generalize oldW p t o.w[i] = b1 at hc han
      cases hb2 : (A || (o.w.take i).any (oldW p t))
      · refine vc_pathD [.ret (dB b1)] ?_
        simp [hlt]
        refine ⟨hc, rfl, i + 1, by omega, by omega, [], [], ?_⟩
        rw [wrap64 (by omega), han, ← Bool.or_assoc, hb2]
        simp
      · refine vc_pathD [] ?_
        simp
        refine ⟨rfl, i + 1, by omega, by omega, [], [], ?_⟩
        rw [wrap64 (by omega), han, ← Bool.or_assoc, hb2]
        simp
    · have : i = o.w.length := by omega
      subst this
      generalize hB : (o.w.take o.w.length).any (oldW p t) = B
      rw [List.take_length] at hB
      rw [hA, hB] at hfix
      refine vc_path [] ?_
      simp
      intro hb0
      obtain ⟨k2, k3⟩ := hfix hb0
      refine ⟨fun _ => leD_of_eq (by simp [k2]), fun q1 q2 => ?_⟩
      rcases k3 with k3 | k3
      · rw [q1] at k3; cases k3
      · rw [q2] at k3; cases k3
end Go.Proofs.YtlfpnfjibgeehaaDoor
end

section
namespace Go.Proofs.YtlfpnfjibgeehaaDoor
open Go Go.Proofs.YtlfpnfjibgeehaaDoor.AL Go.ChangeShapes Go.WideShapes Go.ChangeAt Go.RowKit Go.Lib Go.Shelf
theorem params8 : Tryd.f8.params.toList = [24, 26, 3, 28] := by kernel_rfl
theorem results8 : Tryd.f8.resultTypes.toList = [4] := by kernel_rfl
set_option maxRecDepth 1000000 in
theorem permitsFixed_met (os : Os) (args : Array Value) : laidMet Tryd.prog Rows.permitsFixedRow.laid ((laidWorld os).forCall (fun _ _ => 0) ⟨#[], args, []⟩).memory :=
  (LaidIn.of_run [1, 0] 8 (by kernel_rfl) (by kernel_rfl) (by kernel_rfl) (by kernel_rfl)).met
theorem permitsFixed_witness (os : Os) {H : Type} (enc : TypeId × Value → H) :
    (OpenSpec.ofChange Rows.permitsFixedSpec).preRow enc Tryd.prog Tryd.f8 Rows.permitsFixedRow.domain false Rows.permitsFixedRow.laid ((laidWorld os).forCall (fun _ _ => 0) ⟨#[], #[.agg #[.slice none 0 0, .int .i64 0], .agg #[.int .i64 0], .int .i64 0, .agg #[.int .i64 0, .int .i64 0, .int .i64 0, .slice none 0 0]], []⟩).memory #[.agg #[.slice none 0 0, .int .i64 0], .agg #[.int .i64 0], .int .i64 0, .agg #[.int .i64 0, .int .i64 0, .int .i64 0, .slice none 0 0]] := by
  have hw : (DataW.whole enc Tryd.prog ((laidWorld os).forCall (fun _ _ => 0) ⟨#[], #[.agg #[.slice none 0 0, .int .i64 0], .agg #[.int .i64 0], .int .i64 0, .agg #[.int .i64 0, .int .i64 0, .int .i64 0, .slice none 0 0]], []⟩).memory Tryd.f8.params.toList (OpenSpec.ofChange Rows.permitsFixedSpec).vars false (#[.agg #[.slice none 0 0, .int .i64 0], .agg #[.int .i64 0], .int .i64 0, .agg #[.int .i64 0, .int .i64 0, .int .i64 0, .slice none 0 0]] : Array Value).toList 8).map (fun x => (x.1, x.2.1)) =
      some ([.agg [.nil, .lit (.int .i64 0)], .agg [.lit (.int .i64 0)], .lit (.int .i64 0), .agg [.lit (.int .i64 0), .lit (.int .i64 0), .lit (.int .i64 0), .nil]], []) := by kernel_rfl
  obtain ⟨⟨x1, x2, x3⟩, hx, hx1⟩ := Option.map_eq_some_iff.1 hw
  simp only [Prod.mk.injEq] at hx1
  obtain ⟨rfl, rfl⟩ := hx1
  exact OpenSpec.preRow_of_cond 8 hx (by kernel_rfl) (fun k hk => by cases hk) (by kernel_rfl) (permitsFixed_met os _)
set_option maxRecDepth 100000 in
theorem permitsFixed_lifted (os : Os) (started : os.Started) (H : Type) (enc : TypeId × Value → H) (F : Stop.Interp) :
    ReturnsInHanded {} Tryd.checked os 8 .any ((OpenSpec.ofChange Rows.permitsFixedSpec).preRow enc Tryd.prog Tryd.f8 Rows.permitsFixedRow.domain false Rows.permitsFixedRow.laid) (((OpenSpec.ofChange Rows.permitsFixedSpec).at F).post enc Tryd.prog Tryd.f8 false true false false) := by
  refine returnsInHanded_of_row (C := Tryd.checked) (s := (OpenSpec.ofChange Rows.permitsFixedSpec)) (F := F) own started (by kernel_rfl) Tryd.func8
    (witness_row_atRef (enc := enc) (C := Tryd.checked) false (laidWorld os) #[.agg #[.slice none 0 0, .int .i64 0], .agg #[.int .i64 0], .int .i64 0, .agg #[.int .i64 0, .int .i64 0, .int .i64 0, .slice none 0 0]] rfl (by kernel_rfl) (by kernel_rfl) (by kernel_rfl) (permitsFixed_witness os enc)) ?_
  intro W base args ds gs before hval hW _ _ _ hL _ _
  have hU : Lib.Utf8Tabs 0 1 W :=
    utf8Tabs_of_reads (ρ := Tryd.lays197_ren) { Tryd.lays197 with } ⟨by kernel_rfl, by kernel_rfl, by kernel_rfl, by kernel_rfl, by kernel_rfl, by kernel_rfl, by kernel_rfl⟩ (Lib.laidMet.reads hL (.tail _ (.head _))) (Lib.laidMet.reads hL (.head _))
  refine law_contract laidOut params8 results8 (by kernel_rfl) rfl (fun ds h => by match ds, h with | [_, _, _, _], _ => rfl) (by kernel_rfl) (.cons sSm (.cons sPm (.cons sI (.cons sOp .nil)))) (fun ds hK => ?_) W base args ds gs before (glOk_of hU) hval hW
  cases hK
  rename_i h1 hK
  cases hK
  rename_i h2 hK
  cases hK
  rename_i h3 hK
  cases hK
  rename_i h4 hK
  cases hK
  obtain ⟨n1, rfl⟩ := h1
  obtain ⟨n2, rfl⟩ := h2
  obtain ⟨n3, hb3, rfl⟩ := h3
  obtain ⟨n4, rfl⟩ := h4
  exact pfixed n1 n2 n3 n4
theorem permitsFixed_holds : Rows.PermitsFixedSaid :=
  OpenClaim.holds_of_cond 8 Tryd.f8 rfl rfl rfl rfl rfl rfl rfl ⟨rfl, rfl, rfl, rfl, rfl⟩ rfl rfl rfl rfl rfl (by kernel_rfl) Tryd.func8 (by kernel_rfl)
    (of_decide_eq_true (by kernel_rfl)) (by unfold Func.isWrapper; rw [if_neg (of_decide_eq_false (by kernel_rfl))]; exact ⟨rfl, rfl⟩)
    (fun os started H enc _ F0 => by rw [OpenClaim.pre_eq_preRow]; exact permitsFixed_lifted os started H enc F0)
theorem permitsFixed_card : Rows.PermitsFixedCardSaid :=
  Claim7.holds_tied_plain_at .later [] [.data, .pinned] true _ true
    permitsFixed_holds (fun _ h => by cases h) (by kernel_rfl) (fun _ h => by cases h) permitsFixed_row_tie rfl ⟨rfl, rfl⟩ (by kernel_rfl) rfl
    (fun f fn hf hfn => by
      obtain rfl : f = 8 := Option.some.inj ((show Tryd.prog.funcNamed Rows.permitsFixedRow.func = some 8 by kernel_rfl).symm.trans hf) |>.symm
      obtain rfl : fn = Tryd.f8 := (Option.some.inj (Tryd.func8.symm.trans hfn)).symm
      exact ⟨by kernel_rfl, fun j t ht => by
        rw [← Array.getElem?_toList, params8] at ht
        match j with
        | 0 => simp at ht; subst ht; exact (show Tryd.prog.wantsStandIn 24 = false by kernel_rfl)
        | 1 => simp at ht; subst ht; exact (show Tryd.prog.wantsStandIn 26 = false by kernel_rfl)
        | 2 => simp at ht; subst ht; exact (show Tryd.prog.wantsStandIn 3 = false by kernel_rfl)
        | 3 => simp at ht; subst ht; exact (show Tryd.prog.wantsStandIn 28 = false by kernel_rfl)
        | j + 4 => simp at ht⟩)
    (by kernel_rfl)

end Go.Proofs.YtlfpnfjibgeehaaDoor
end
