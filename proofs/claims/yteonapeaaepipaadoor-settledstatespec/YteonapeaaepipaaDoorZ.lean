/- Part of the proof: S87. -/
import Derived.Test.YteonapeaaepipaaDoorH
set_option linter.unnecessarySimpa false
set_option linter.unusedVariables false
set_option linter.unusedSimpArgs false
section
namespace Go.Proofs.YteonapeaaepipaaDoor
open Go Go.Proofs.YteonapeaaepipaaDoor.AL Go.ChangeShapes Go.WideShapes Go.ChangeAt Go.RowKit Go.Lib Go.Shelf
theorem params4 : Tryd.f4.params.toList = [35, 36, 26, 3, 3, 3, 3] := by kernel_rfl
theorem results4 : Tryd.f4.resultTypes.toList = [4] := by kernel_rfl
set_option maxRecDepth 1000000 in
theorem settledStateSpec_met (os : Os) (args : Array Value) : laidMet Tryd.prog Rows.settledStateSpecRow.laid ((laidWorld os).forCall (fun _ _ => 0) ⟨#[], args, []⟩).memory :=
  (LaidIn.of_run [1, 0] 8 (by kernel_rfl) (by kernel_rfl) (by kernel_rfl) (by kernel_rfl)).met
theorem settledStateSpec_witness (os : Os) {H : Type} (enc : TypeId × Value → H) :
    (OpenSpec.ofChange Rows.settledStateSpecSpec).preRow enc Tryd.prog Tryd.f4 Rows.settledStateSpecRow.domain false Rows.settledStateSpecRow.laid ((laidWorld os).forCall (fun _ _ => 0) ⟨#[], #[.slice none 0 0, .slice none 0 0, .agg #[.int .i64 0], .int .i64 0, .int .i64 0, .int .i64 0, .int .i64 0], []⟩).memory #[.slice none 0 0, .slice none 0 0, .agg #[.int .i64 0], .int .i64 0, .int .i64 0, .int .i64 0, .int .i64 0] := by
  have hw : (DataW.whole enc Tryd.prog ((laidWorld os).forCall (fun _ _ => 0) ⟨#[], #[.slice none 0 0, .slice none 0 0, .agg #[.int .i64 0], .int .i64 0, .int .i64 0, .int .i64 0, .int .i64 0], []⟩).memory Tryd.f4.params.toList (OpenSpec.ofChange Rows.settledStateSpecSpec).vars false (#[.slice none 0 0, .slice none 0 0, .agg #[.int .i64 0], .int .i64 0, .int .i64 0, .int .i64 0, .int .i64 0] : Array Value).toList 8).map (fun x => (x.1, x.2.1)) =
      some ([.nil, .nil, .agg [.lit (.int .i64 0)], .lit (.int .i64 0), .lit (.int .i64 0), .lit (.int .i64 0), .lit (.int .i64 0)], []) := by kernel_rfl
  obtain ⟨⟨x1, x2, x3⟩, hx, hx1⟩ := Option.map_eq_some_iff.1 hw
  simp only [Prod.mk.injEq] at hx1
  obtain ⟨rfl, rfl⟩ := hx1
  exact OpenSpec.preRow_of_cond 8 hx (by kernel_rfl) (fun k hk => by cases hk) (by kernel_rfl) (settledStateSpec_met os _)
set_option maxRecDepth 100000 in
theorem settledStateSpec_lifted (os : Os) (started : os.Started) (H : Type) (enc : TypeId × Value → H) (F : Stop.Interp) :
    ReturnsInHanded {} Tryd.checked os 4 .any ((OpenSpec.ofChange Rows.settledStateSpecSpec).preRow enc Tryd.prog Tryd.f4 Rows.settledStateSpecRow.domain false Rows.settledStateSpecRow.laid) (((OpenSpec.ofChange Rows.settledStateSpecSpec).at F).post enc Tryd.prog Tryd.f4 false true false false) := by
  refine returnsInHanded_of_row (C := Tryd.checked) (s := (OpenSpec.ofChange Rows.settledStateSpecSpec)) (F := F) own started (by kernel_rfl) Tryd.func4
    (witness_row_atRef (enc := enc) (C := Tryd.checked) false (laidWorld os) #[.slice none 0 0, .slice none 0 0, .agg #[.int .i64 0], .int .i64 0, .int .i64 0, .int .i64 0, .int .i64 0] rfl (by kernel_rfl) (by kernel_rfl) (by kernel_rfl) (settledStateSpec_witness os enc)) ?_
  intro W base args ds gs before hval hW _ _ _ hL _ _
  have hU : Lib.Utf8Tabs 0 1 W :=
    utf8Tabs_of_reads (ρ := Tryd.lays197_ren) { Tryd.lays197 with } ⟨by kernel_rfl, by kernel_rfl, by kernel_rfl, by kernel_rfl, by kernel_rfl, by kernel_rfl, by kernel_rfl⟩ (Lib.laidMet.reads hL (.tail _ (.head _))) (Lib.laidMet.reads hL (.head _))
  refine law_contract laidOut params4 results4 (by kernel_rfl) rfl (fun ds h => by match ds, h with | [_, _, _, _, _, _, _], _ => rfl) (by kernel_rfl) (.cons sSms (.cons sBs (.cons sPm (.cons sI (.cons sI (.cons sI (.cons sI .nil))))))) (fun ds hK => ?_) W base args ds gs before (glOk_of hU) hval hW
  cases hK
  rename_i h1 hK
  cases hK
  rename_i h2 hK
  cases hK
  rename_i h3 hK
  cases hK
  rename_i h4 hK
  cases hK
  rename_i h5 hK
  cases hK
  rename_i h6 hK
  cases hK
  rename_i h7 hK
  cases hK
  obtain ⟨n1, rfl⟩ := h1
  obtain ⟨n2, rfl⟩ := h2
  obtain ⟨n3, rfl⟩ := h3
  obtain ⟨n4, hb4, rfl⟩ := h4
  obtain ⟨n5, hb5, rfl⟩ := h5
  obtain ⟨n6, hb6, rfl⟩ := h6
  obtain ⟨n7, hb7, rfl⟩ := h7
  exact Go.Proofs.YteonapeaaepipaaDoor.settledStateSpec n1 n2 n3 n4 n5 n6 n7
theorem settledStateSpec_holds : Rows.SettledStateSpecSaid :=
  OpenClaim.holds_of_cond 4 Tryd.f4 rfl rfl rfl rfl rfl rfl rfl ⟨rfl, rfl, rfl, rfl, rfl⟩ rfl rfl rfl rfl rfl (by kernel_rfl) Tryd.func4 (by kernel_rfl)
    (of_decide_eq_true (by kernel_rfl)) (by unfold Func.isWrapper; rw [if_neg (of_decide_eq_false (by kernel_rfl))]; exact ⟨rfl, rfl⟩)
    (fun os started H enc _ F0 => by rw [OpenClaim.pre_eq_preRow]; exact settledStateSpec_lifted os started H enc F0)
theorem settledStateSpec_card : Rows.SettledStateSpecCardSaid :=
  Claim7.holds_tied_plain_at .later [] [.data, .pinned] true _ true
    settledStateSpec_holds (fun _ h => by cases h) (by kernel_rfl) (fun _ h => by cases h) settledStateSpec_row_tie rfl ⟨rfl, rfl⟩ (by kernel_rfl) rfl
    (fun f fn hf hfn => by
      obtain rfl : f = 4 := Option.some.inj ((show Tryd.prog.funcNamed Rows.settledStateSpecRow.func = some 4 by kernel_rfl).symm.trans hf) |>.symm
      obtain rfl : fn = Tryd.f4 := (Option.some.inj (Tryd.func4.symm.trans hfn)).symm
      exact ⟨by kernel_rfl, fun j t ht => by
        rw [← Array.getElem?_toList, params4] at ht
        match j with
        | 0 => simp at ht; subst ht; exact (show Tryd.prog.wantsStandIn 35 = false by kernel_rfl)
        | 1 => simp at ht; subst ht; exact (show Tryd.prog.wantsStandIn 36 = false by kernel_rfl)
        | 2 => simp at ht; subst ht; exact (show Tryd.prog.wantsStandIn 26 = false by kernel_rfl)
        | 3 => simp at ht; subst ht; exact (show Tryd.prog.wantsStandIn 3 = false by kernel_rfl)
        | 4 => simp at ht; subst ht; exact (show Tryd.prog.wantsStandIn 3 = false by kernel_rfl)
        | 5 => simp at ht; subst ht; exact (show Tryd.prog.wantsStandIn 3 = false by kernel_rfl)
        | 6 => simp at ht; subst ht; exact (show Tryd.prog.wantsStandIn 3 = false by kernel_rfl)
        | j + 7 => simp at ht⟩)
    (by kernel_rfl)

end Go.Proofs.YteonapeaaepipaaDoor
end
