/- Part of the proof: S242. -/
import Derived.Test.YteonapeaaepipaaDoorJ
set_option linter.unnecessarySimpa false
set_option linter.unusedVariables false
set_option linter.unusedSimpArgs false
section
namespace Go.Proofs.YteonapeaaepipaaDoor
open Go Go.Proofs.YteonapeaaepipaaDoor.AL Go.ChangeShapes Go.WideShapes Go.ChangeAt Go.RowKit Go.Lib Go.Shelf
theorem params9 : Tryd.f9.params.toList = [63] := by kernel_rfl
theorem results9 : Tryd.f9.resultTypes.toList = [4] := by kernel_rfl
set_option maxRecDepth 1000000 in
theorem feedsMissingSpec_met (os : Os) (args : Array Value) : laidMet Tryd.prog Rows.feedsMissingSpecRow.laid ((laidWorld os).forCall (fun _ _ => 0) ⟨#[], args, []⟩).memory :=
  (LaidIn.of_run [1, 0] 8 (by kernel_rfl) (by kernel_rfl) (by kernel_rfl) (by kernel_rfl)).met
theorem feedsMissingSpec_witness (os : Os) {H : Type} (enc : TypeId × Value → H) :
    (OpenSpec.ofChange Rows.feedsMissingSpecSpec).preRow enc Tryd.prog Tryd.f9 Rows.feedsMissingSpecRow.domain false Rows.feedsMissingSpecRow.laid ((laidWorld os).forCall (fun _ _ => 0) ⟨#[], #[.agg #[.int .i64 0, .slice none 0 0, .slice none 0 0, .int .i64 0, .int .i64 0]], []⟩).memory #[.agg #[.int .i64 0, .slice none 0 0, .slice none 0 0, .int .i64 0, .int .i64 0]] := by
  have hw : (DataW.whole enc Tryd.prog ((laidWorld os).forCall (fun _ _ => 0) ⟨#[], #[.agg #[.int .i64 0, .slice none 0 0, .slice none 0 0, .int .i64 0, .int .i64 0]], []⟩).memory Tryd.f9.params.toList (OpenSpec.ofChange Rows.feedsMissingSpecSpec).vars false (#[.agg #[.int .i64 0, .slice none 0 0, .slice none 0 0, .int .i64 0, .int .i64 0]] : Array Value).toList 8).map (fun x => (x.1, x.2.1)) =
      some ([.agg [.lit (.int .i64 0), .nil, .agg [.nil, .lit (.int .i64 0)], .lit (.int .i64 0)]], []) := by kernel_rfl
  obtain ⟨⟨x1, x2, x3⟩, hx, hx1⟩ := Option.map_eq_some_iff.1 hw
  simp only [Prod.mk.injEq] at hx1
  obtain ⟨rfl, rfl⟩ := hx1
  exact OpenSpec.preRow_of_cond 8 hx (by kernel_rfl) (fun k hk => by cases hk) (by kernel_rfl) (feedsMissingSpec_met os _)
set_option maxRecDepth 100000 in
theorem feedsMissingSpec_lifted (os : Os) (started : os.Started) (H : Type) (enc : TypeId × Value → H) (F : Stop.Interp) :
    ReturnsInHanded {} Tryd.checked os 9 .any ((OpenSpec.ofChange Rows.feedsMissingSpecSpec).preRow enc Tryd.prog Tryd.f9 Rows.feedsMissingSpecRow.domain false Rows.feedsMissingSpecRow.laid) (((OpenSpec.ofChange Rows.feedsMissingSpecSpec).at F).post enc Tryd.prog Tryd.f9 false true false false) := by
  refine returnsInHanded_of_row (C := Tryd.checked) (s := (OpenSpec.ofChange Rows.feedsMissingSpecSpec)) (F := F) own started (by kernel_rfl) Tryd.func9
    (witness_row_atRef (enc := enc) (C := Tryd.checked) false (laidWorld os) #[.agg #[.int .i64 0, .slice none 0 0, .slice none 0 0, .int .i64 0, .int .i64 0]] rfl (by kernel_rfl) (by kernel_rfl) (by kernel_rfl) (feedsMissingSpec_witness os enc)) ?_
  intro W base args ds gs before hval hW _ _ _ hL _ _
  have hU : Lib.Utf8Tabs 0 1 W :=
    utf8Tabs_of_reads (ρ := Tryd.lays197_ren) { Tryd.lays197 with } ⟨by kernel_rfl, by kernel_rfl, by kernel_rfl, by kernel_rfl, by kernel_rfl, by kernel_rfl, by kernel_rfl⟩ (Lib.laidMet.reads hL (.tail _ (.head _))) (Lib.laidMet.reads hL (.head _))
  refine law_contract laidOut params9 results9 (by kernel_rfl) rfl (fun ds h => by match ds, h with | [_], _ => rfl) (by kernel_rfl) (.cons sFd .nil) (fun ds hK => ?_) W base args ds gs before (glOk_of hU) hval hW
  cases hK
  rename_i h1 hK
  cases hK
  obtain ⟨n1, rfl⟩ := h1
  exact Go.Proofs.YteonapeaaepipaaDoor.missSpec n1
theorem feedsMissingSpec_holds : Rows.FeedsMissingSpecSaid :=
  OpenClaim.holds_of_cond 9 Tryd.f9 rfl rfl rfl rfl rfl rfl rfl ⟨rfl, rfl, rfl, rfl, rfl⟩ rfl rfl rfl rfl rfl (by kernel_rfl) Tryd.func9 (by kernel_rfl)
    (of_decide_eq_true (by kernel_rfl)) (by unfold Func.isWrapper; rw [if_neg (of_decide_eq_false (by kernel_rfl))]; exact ⟨rfl, rfl⟩)
    (fun os started H enc _ F0 => by rw [OpenClaim.pre_eq_preRow]; exact feedsMissingSpec_lifted os started H enc F0)
theorem feedsMissingSpec_card : Rows.FeedsMissingSpecCardSaid :=
  Claim7.holds_tied_plain_at .later [] [.data, .pinned] true _ true
    feedsMissingSpec_holds (fun _ h => by cases h) (by kernel_rfl) (fun _ h => by cases h) feedsMissingSpec_row_tie rfl ⟨rfl, rfl⟩ (by kernel_rfl) rfl
    (fun f fn hf hfn => by
      obtain rfl : f = 9 := Option.some.inj ((show Tryd.prog.funcNamed Rows.feedsMissingSpecRow.func = some 9 by kernel_rfl).symm.trans hf) |>.symm
      obtain rfl : fn = Tryd.f9 := (Option.some.inj (Tryd.func9.symm.trans hfn)).symm
      exact ⟨by kernel_rfl, fun j t ht => by
        rw [← Array.getElem?_toList, params9] at ht
        match j with
        | 0 => simp at ht; subst ht; exact (show Tryd.prog.wantsStandIn 63 = false by kernel_rfl)
        | j + 1 => simp at ht⟩)
    (by kernel_rfl)

end Go.Proofs.YteonapeaaepipaaDoor
end
