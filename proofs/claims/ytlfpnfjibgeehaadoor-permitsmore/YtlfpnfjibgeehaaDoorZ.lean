/- Part of the proof: S52, S67. -/
import Derived.Test.YtlfpnfjibgeehaaDoorH
set_option linter.unnecessarySimpa false
set_option linter.unusedVariables false
set_option linter.unusedSimpArgs false
section
namespace Go.Proofs.YtlfpnfjibgeehaaDoor
open Go Go.Proofs.YtlfpnfjibgeehaaDoor.AL
attribute [local simp] dT_agg dT_nt dT_noTup dT_cells dT_one bs_toList bs_size strV dW_cells dW_agg dW_noTup dSm_cells dSm_agg dSm_noTup dOp_cells dOp_agg dOp_noTup dWs_cells dWs_one dWs_agg dWs_noTup dWs_nt
attribute [local simp] dW_nt dP_cells dP_agg dP_noTup dOld_cells dOld_agg dOld_noTup dOld_one
set_option maxRecDepth 8000
set_option maxHeartbeats 4000000
theorem more (s : Sm) (p q t u : Int) (o : Op) : PCall Tryd.prog 7 [dSm s, dP p, dP q, dI t, dI u, dOp o] (.ret (dB true)) := by
  refine pcall_of_vc hLq c7 (by simp [a7]) fun hr => ?_
  simp [a7]
  refine vc_path [.ret (dB true)] ?_
  simp
  refine ⟨.sane, ?_⟩
  have h1 := CLq.lp (.of (.al s p t o))
  have h2 := CLq.lp (.of (.al s q u o))
  have h3 := CLq.lp (.of (.st s p t))
  have h4 := CLq.lp (.of (.st s q u))
  have hm : p ≤ q → u ≤ t → errP s p t = 0 → errP s q u = 0 → (alW s p t o = true → alW s q u o = true) ∧ stN s q u ≤ stN s p t := more_law
  cases hf : fewP s o
  · refine vc_path [.ret (dB false)] ?_
    simp
    exact .lp (.few' hf (all2_refl LeD.refl _))
  refine vc_path [.ret (dB true)] ?_
  simp
  refine ⟨.lp (.few' hf (all2_refl LeD.refl _)), fun g1 g2 => ?_⟩
  generalize alW s p t o = a1 at *
  generalize alW s q u o = a2 at *
  generalize errP s p t = e1 at *
  generalize errP s q u = e2 at *
  generalize stN s p t = n1 at *
  generalize stN s q u = n2 at *
  refine vc_path [.ret (.tup [dB a1, dI e1])] ?_
  simp
  refine ⟨h1, ?_⟩
  refine vc_path [.ret (.tup [dB a2, dI e2])] ?_
  simp
  refine ⟨h2, ?_⟩
  refine vc_path [.ret (.tup [dI n1, dI e1])] ?_
  simp
  refine ⟨h3, ?_⟩
  refine vc_path [.ret (.tup [dI n2, dI e2])] ?_
  simp
  refine ⟨h4, ?_⟩
  by_cases q1 : e1 ≠ 0
  · refine vc_path [] ?_
    simp [q1]
    refine vc_path [] ?_
    simp
  have q1 : e1 = 0 := by omega
  by_cases q2 : e2 ≠ 0
  · refine vc_path [] ?_
    simp [q1, q2]
    refine vc_path [] ?_
    simp
  have q2 : e2 = 0 := by omega
  obtain ⟨m1, m2⟩ := hm g1 g2 q1 q2
  refine vc_path [] ?_
  simp [q1, q2]
  refine vc_path [] ?_
  simp
  have mm : decide (n2 ≤ n1) = true := decide_eq_true m2
  exact ⟨fun _ => leD_of_eq (by rw [mm]), fun h => ⟨fun _ => leD_of_eq (by rw [mm]), fun h2 => absurd (m1 h) (by simp [h2])⟩⟩
end Go.Proofs.YtlfpnfjibgeehaaDoor
end

section
namespace Go.Proofs.YtlfpnfjibgeehaaDoor
open Go Go.Proofs.YtlfpnfjibgeehaaDoor.AL Go.ChangeShapes Go.WideShapes Go.ChangeAt Go.RowKit Go.Lib Go.Shelf
theorem params7 : Tryd.f7.params.toList = [24, 26, 26, 3, 3, 28] := by kernel_rfl
theorem results7 : Tryd.f7.resultTypes.toList = [4] := by kernel_rfl
set_option maxRecDepth 1000000 in
theorem permitsMore_met (os : Os) (args : Array Value) : laidMet Tryd.prog Rows.permitsMoreRow.laid ((laidWorld os).forCall (fun _ _ => 0) ⟨#[], args, []⟩).memory :=
  (LaidIn.of_run [1, 0] 8 (by kernel_rfl) (by kernel_rfl) (by kernel_rfl) (by kernel_rfl)).met
theorem permitsMore_witness (os : Os) {H : Type} (enc : TypeId × Value → H) :
    (OpenSpec.ofChange Rows.permitsMoreSpec).preRow enc Tryd.prog Tryd.f7 Rows.permitsMoreRow.domain false Rows.permitsMoreRow.laid ((laidWorld os).forCall (fun _ _ => 0) ⟨#[], #[.agg #[.slice none 0 0, .int .i64 0], .agg #[.int .i64 0], .agg #[.int .i64 0], .int .i64 0, .int .i64 0, .agg #[.int .i64 0, .int .i64 0, .int .i64 0, .slice none 0 0]], []⟩).memory #[.agg #[.slice none 0 0, .int .i64 0], .agg #[.int .i64 0], .agg #[.int .i64 0], .int .i64 0, .int .i64 0, .agg #[.int .i64 0, .int .i64 0, .int .i64 0, .slice none 0 0]] := by
  have hw : (DataW.whole enc Tryd.prog ((laidWorld os).forCall (fun _ _ => 0) ⟨#[], #[.agg #[.slice none 0 0, .int .i64 0], .agg #[.int .i64 0], .agg #[.int .i64 0], .int .i64 0, .int .i64 0, .agg #[.int .i64 0, .int .i64 0, .int .i64 0, .slice none 0 0]], []⟩).memory Tryd.f7.params.toList (OpenSpec.ofChange Rows.permitsMoreSpec).vars false (#[.agg #[.slice none 0 0, .int .i64 0], .agg #[.int .i64 0], .agg #[.int .i64 0], .int .i64 0, .int .i64 0, .agg #[.int .i64 0, .int .i64 0, .int .i64 0, .slice none 0 0]] : Array Value).toList 8).map (fun x => (x.1, x.2.1)) =
      some ([.agg [.nil, .lit (.int .i64 0)], .agg [.lit (.int .i64 0)], .agg [.lit (.int .i64 0)], .lit (.int .i64 0), .lit (.int .i64 0), .agg [.lit (.int .i64 0), .lit (.int .i64 0), .lit (.int .i64 0), .nil]], []) := by kernel_rfl
  obtain ⟨⟨x1, x2, x3⟩, hx, hx1⟩ := Option.map_eq_some_iff.1 hw
  simp only [Prod.mk.injEq] at hx1
  obtain ⟨rfl, rfl⟩ := hx1
  exact OpenSpec.preRow_of_cond 8 hx (by kernel_rfl) (fun k hk => by cases hk) (by kernel_rfl) (permitsMore_met os _)
set_option maxRecDepth 100000 in
theorem permitsMore_lifted (os : Os) (started : os.Started) (H : Type) (enc : TypeId × Value → H) (F : Stop.Interp) :
    ReturnsInHanded {} Tryd.checked os 7 .any ((OpenSpec.ofChange Rows.permitsMoreSpec).preRow enc Tryd.prog Tryd.f7 Rows.permitsMoreRow.domain false Rows.permitsMoreRow.laid) (((OpenSpec.ofChange Rows.permitsMoreSpec).at F).post enc Tryd.prog Tryd.f7 false true false false) := by
  refine returnsInHanded_of_row (C := Tryd.checked) (s := (OpenSpec.ofChange Rows.permitsMoreSpec)) (F := F) own started (by kernel_rfl) Tryd.func7
    (witness_row_atRef (enc := enc) (C := Tryd.checked) false (laidWorld os) #[.agg #[.slice none 0 0, .int .i64 0], .agg #[.int .i64 0], .agg #[.int .i64 0], .int .i64 0, .int .i64 0, .agg #[.int .i64 0, .int .i64 0, .int .i64 0, .slice none 0 0]] rfl (by kernel_rfl) (by kernel_rfl) (by kernel_rfl) (permitsMore_witness os enc)) ?_
  intro W base args ds gs before hval hW _ _ _ hL _ _
  have hU : Lib.Utf8Tabs 0 1 W :=
    utf8Tabs_of_reads (ρ := Tryd.lays197_ren) { Tryd.lays197 with } ⟨by kernel_rfl, by kernel_rfl, by kernel_rfl, by kernel_rfl, by kernel_rfl, by kernel_rfl, by kernel_rfl⟩ (Lib.laidMet.reads hL (.tail _ (.head _))) (Lib.laidMet.reads hL (.head _))
  refine law_contract laidOut params7 results7 (by kernel_rfl) rfl (fun ds h => by match ds, h with | [_, _, _, _, _, _], _ => rfl) (by kernel_rfl) (.cons sSm (.cons sPm (.cons sPm (.cons sI (.cons sI (.cons sOp .nil)))))) (fun ds hK => ?_) W base args ds gs before (glOk_of hU) hval hW
  cases hK
  rename_i h1 hK
  cases hK
  rename_i h2 hK
  cases hK
  rename_i h3 hK
  cases hK
  rename_i h4 hK
  cases hK
  rename_i h5 hK
  cases hK
  rename_i h6 hK
  cases hK
  obtain ⟨n1, rfl⟩ := h1
  obtain ⟨n2, rfl⟩ := h2
  obtain ⟨n3, rfl⟩ := h3
  obtain ⟨n4, hb4, rfl⟩ := h4
  obtain ⟨n5, hb5, rfl⟩ := h5
  obtain ⟨n6, rfl⟩ := h6
  exact more n1 n2 n3 n4 n5 n6
theorem permitsMore_holds : Rows.PermitsMoreSaid :=
  OpenClaim.holds_of_cond 7 Tryd.f7 rfl rfl rfl rfl rfl rfl rfl ⟨rfl, rfl, rfl, rfl, rfl⟩ rfl rfl rfl rfl rfl (by kernel_rfl) Tryd.func7 (by kernel_rfl)
    (of_decide_eq_true (by kernel_rfl)) (by unfold Func.isWrapper; rw [if_neg (of_decide_eq_false (by kernel_rfl))]; exact ⟨rfl, rfl⟩)
    (fun os started H enc _ F0 => by rw [OpenClaim.pre_eq_preRow]; exact permitsMore_lifted os started H enc F0)
theorem permitsMore_card : Rows.PermitsMoreCardSaid :=
  Claim7.holds_tied_plain_at .later [] [.data, .pinned] true _ true
    permitsMore_holds (fun _ h => by cases h) (by kernel_rfl) (fun _ h => by cases h) permitsMore_row_tie rfl ⟨rfl, rfl⟩ (by kernel_rfl) rfl
    (fun f fn hf hfn => by
      obtain rfl : f = 7 := Option.some.inj ((show Tryd.prog.funcNamed Rows.permitsMoreRow.func = some 7 by kernel_rfl).symm.trans hf) |>.symm
      obtain rfl : fn = Tryd.f7 := (Option.some.inj (Tryd.func7.symm.trans hfn)).symm
      exact ⟨by kernel_rfl, fun j t ht => by
        rw [← Array.getElem?_toList, params7] at ht
        match j with
        | 0 => simp at ht; subst ht; exact (show Tryd.prog.wantsStandIn 24 = false by kernel_rfl)
        | 1 => simp at ht; subst ht; exact (show Tryd.prog.wantsStandIn 26 = false by kernel_rfl)
        | 2 => simp at ht; subst ht; exact (show Tryd.prog.wantsStandIn 26 = false by kernel_rfl)
        | 3 => simp at ht; subst ht; exact (show Tryd.prog.wantsStandIn 3 = false by kernel_rfl)
        | 4 => simp at ht; subst ht; exact (show Tryd.prog.wantsStandIn 3 = false by kernel_rfl)
        | 5 => simp at ht; subst ht; exact (show Tryd.prog.wantsStandIn 28 = false by kernel_rfl)
        | j + 6 => simp at ht⟩)
    (by kernel_rfl)

end Go.Proofs.YtlfpnfjibgeehaaDoor
end
