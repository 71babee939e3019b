/- Part of the proof: S50, S64. -/
import Derived.Test.YtlfpnfjibgeehaaDoorH
set_option linter.unnecessarySimpa false
set_option linter.unusedVariables false
set_option linter.unusedSimpArgs false
section
namespace Go.Proofs.YtlfpnfjibgeehaaDoor
open Go Go.Proofs.YtlfpnfjibgeehaaDoor.AL
attribute [local simp] dT_agg dT_nt dT_noTup dT_cells dT_one bs_toList bs_size strV dW_cells dW_agg dW_noTup dSm_cells dSm_agg dSm_noTup dOp_cells dOp_agg dOp_noTup dWs_cells dWs_one dWs_agg dWs_noTup dWs_nt
attribute [local simp] dW_nt dP_cells dP_agg dP_noTup dOld_cells dOld_agg dOld_noTup dOld_one
set_option maxRecDepth 8000
set_option maxHeartbeats 4000000
theorem changeSpec (s : Sm) (p t i : Int) : PCall Tryd.prog 4 [dSm s, dP p, dI t, dI i] (.ret (dB true)) := by
  refine pcall_of_vc hLq c4 (by simp [a4]) fun hr => ?_
  have h1 := CLq.lp (.of (.ch s p t i))
  have h2 := CLq.lp (.of (.rch s p t i))
  generalize chO s p t i = x at h1 h2
  generalize chB s p t i = b at h1 h2
  generalize chE s p t i = e at h1 h2
  simp [a4]
  refine vc_path [.ret (dB true)] ?_
  simp
  refine ⟨.sane, ?_⟩
  cases hf : fewP s ⟨0, 0, 0, []⟩
  · refine vc_path [.ret (dB false)] ?_
    simp
    exact .lp (.few' hf (two (LeD.refl _) (nilOp _ _ _)))
  refine vc_path [.ret (dB true)] ?_
  simp
  refine ⟨.lp (.few' hf (two (LeD.refl _) (nilOp _ _ _))), ?_⟩
  refine vc_path [.ret (.tup [dOp x, dB b, dI e])] ?_
  simp
  refine ⟨h1, ?_⟩
  refine vc_path [.ret (.tup [dOp x, dB b, dI e])] ?_
  simp
  refine ⟨h2, ?_⟩
  refine vc_path [.ret (dB true)] ?_
  simp
  exact .lp (.so' rfl (two (LeD.refl _) (LeD.refl _)))
end Go.Proofs.YtlfpnfjibgeehaaDoor
end

section
namespace Go.Proofs.YtlfpnfjibgeehaaDoor
open Go Go.Proofs.YtlfpnfjibgeehaaDoor.AL Go.ChangeShapes Go.WideShapes Go.ChangeAt Go.RowKit Go.Lib Go.Shelf
theorem params4 : Tryd.f4.params.toList = [24, 26, 3, 3] := by kernel_rfl
theorem results4 : Tryd.f4.resultTypes.toList = [4] := by kernel_rfl
set_option maxRecDepth 1000000 in
theorem permitsChangeSpec_met (os : Os) (args : Array Value) : laidMet Tryd.prog Rows.permitsChangeSpecRow.laid ((laidWorld os).forCall (fun _ _ => 0) ⟨#[], args, []⟩).memory :=
  (LaidIn.of_run [1, 0] 8 (by kernel_rfl) (by kernel_rfl) (by kernel_rfl) (by kernel_rfl)).met
theorem permitsChangeSpec_witness (os : Os) {H : Type} (enc : TypeId × Value → H) :
    (OpenSpec.ofChange Rows.permitsChangeSpecSpec).preRow enc Tryd.prog Tryd.f4 Rows.permitsChangeSpecRow.domain false Rows.permitsChangeSpecRow.laid ((laidWorld os).forCall (fun _ _ => 0) ⟨#[], #[.agg #[.slice none 0 0, .int .i64 0], .agg #[.int .i64 0], .int .i64 0, .int .i64 0], []⟩).memory #[.agg #[.slice none 0 0, .int .i64 0], .agg #[.int .i64 0], .int .i64 0, .int .i64 0] := by
  have hw : (DataW.whole enc Tryd.prog ((laidWorld os).forCall (fun _ _ => 0) ⟨#[], #[.agg #[.slice none 0 0, .int .i64 0], .agg #[.int .i64 0], .int .i64 0, .int .i64 0], []⟩).memory Tryd.f4.params.toList (OpenSpec.ofChange Rows.permitsChangeSpecSpec).vars false (#[.agg #[.slice none 0 0, .int .i64 0], .agg #[.int .i64 0], .int .i64 0, .int .i64 0] : Array Value).toList 8).map (fun x => (x.1, x.2.1)) =
      some ([.agg [.nil, .lit (.int .i64 0)], .agg [.lit (.int .i64 0)], .lit (.int .i64 0), .lit (.int .i64 0)], []) := by kernel_rfl
  obtain ⟨⟨x1, x2, x3⟩, hx, hx1⟩ := Option.map_eq_some_iff.1 hw
  simp only [Prod.mk.injEq] at hx1
  obtain ⟨rfl, rfl⟩ := hx1
  exact OpenSpec.preRow_of_cond 8 hx (by kernel_rfl) (fun k hk => by cases hk) (by kernel_rfl) (permitsChangeSpec_met os _)
set_option maxRecDepth 100000 in
theorem permitsChangeSpec_lifted (os : Os) (started : os.Started) (H : Type) (enc : TypeId × Value → H) (F : Stop.Interp) :
    ReturnsInHanded {} Tryd.checked os 4 .any ((OpenSpec.ofChange Rows.permitsChangeSpecSpec).preRow enc Tryd.prog Tryd.f4 Rows.permitsChangeSpecRow.domain false Rows.permitsChangeSpecRow.laid) (((OpenSpec.ofChange Rows.permitsChangeSpecSpec).at F).post enc Tryd.prog Tryd.f4 false true false false) := by
  refine returnsInHanded_of_row (C := Tryd.checked) (s := (OpenSpec.ofChange Rows.permitsChangeSpecSpec)) (F := F) own started (by kernel_rfl) Tryd.func4
    (witness_row_atRef (enc := enc) (C := Tryd.checked) false (laidWorld os) #[.agg #[.slice none 0 0, .int .i64 0], .agg #[.int .i64 0], .int .i64 0, .int .i64 0] rfl (by kernel_rfl) (by kernel_rfl) (by kernel_rfl) (permitsChangeSpec_witness os enc)) ?_
  intro W base args ds gs before hval hW _ _ _ hL _ _
  have hU : Lib.Utf8Tabs 0 1 W :=
    utf8Tabs_of_reads (ρ := Tryd.lays197_ren) { Tryd.lays197 with } ⟨by kernel_rfl, by kernel_rfl, by kernel_rfl, by kernel_rfl, by kernel_rfl, by kernel_rfl, by kernel_rfl⟩ (Lib.laidMet.reads hL (.tail _ (.head _))) (Lib.laidMet.reads hL (.head _))
  refine law_contract laidOut params4 results4 (by kernel_rfl) rfl (fun ds h => by match ds, h with | [_, _, _, _], _ => rfl) (by kernel_rfl) (.cons sSm (.cons sPm (.cons sI (.cons sI .nil)))) (fun ds hK => ?_) W base args ds gs before (glOk_of hU) hval hW
  cases hK
  rename_i h1 hK
  cases hK
  rename_i h2 hK
  cases hK
  rename_i h3 hK
  cases hK
  rename_i h4 hK
  cases hK
  obtain ⟨n1, rfl⟩ := h1
  obtain ⟨n2, rfl⟩ := h2
  obtain ⟨n3, hb3, rfl⟩ := h3
  obtain ⟨n4, hb4, rfl⟩ := h4
  exact changeSpec n1 n2 n3 n4
theorem permitsChangeSpec_holds : Rows.PermitsChangeSpecSaid :=
  OpenClaim.holds_of_cond 4 Tryd.f4 rfl rfl rfl rfl rfl rfl rfl ⟨rfl, rfl, rfl, rfl, rfl⟩ rfl rfl rfl rfl rfl (by kernel_rfl) Tryd.func4 (by kernel_rfl)
    (of_decide_eq_true (by kernel_rfl)) (by unfold Func.isWrapper; rw [if_neg (of_decide_eq_false (by kernel_rfl))]; exact ⟨rfl, rfl⟩)
    (fun os started H enc _ F0 => by rw [OpenClaim.pre_eq_preRow]; exact permitsChangeSpec_lifted os started H enc F0)
theorem permitsChangeSpec_card : Rows.PermitsChangeSpecCardSaid :=
  Claim7.holds_tied_plain_at .later [] [.data, .pinned] true _ true
    permitsChangeSpec_holds (fun _ h => by cases h) (by kernel_rfl) (fun _ h => by cases h) permitsChangeSpec_row_tie rfl ⟨rfl, rfl⟩ (by kernel_rfl) rfl
    (fun f fn hf hfn => by
      obtain rfl : f = 4 := Option.some.inj ((show Tryd.prog.funcNamed Rows.permitsChangeSpecRow.func = some 4 by kernel_rfl).symm.trans hf) |>.symm
      obtain rfl : fn = Tryd.f4 := (Option.some.inj (Tryd.func4.symm.trans hfn)).symm
      exact ⟨by kernel_rfl, fun j t ht => by
        rw [← Array.getElem?_toList, params4] at ht
        match j with
        | 0 => simp at ht; subst ht; exact (show Tryd.prog.wantsStandIn 24 = false by kernel_rfl)
        | 1 => simp at ht; subst ht; exact (show Tryd.prog.wantsStandIn 26 = false by kernel_rfl)
        | 2 => simp at ht; subst ht; exact (show Tryd.prog.wantsStandIn 3 = false by kernel_rfl)
        | 3 => simp at ht; subst ht; exact (show Tryd.prog.wantsStandIn 3 = false by kernel_rfl)
        | j + 4 => simp at ht⟩)
    (by kernel_rfl)

end Go.Proofs.YtlfpnfjibgeehaaDoor
end
