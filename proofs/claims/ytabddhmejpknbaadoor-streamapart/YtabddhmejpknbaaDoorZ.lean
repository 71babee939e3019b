/- Part of the proof: S28, S38. -/
import Derived.Test.YtabddhmejpknbaaDoorG
set_option linter.unnecessarySimpa false
set_option linter.unusedVariables false
set_option linter.unusedSimpArgs false
section
namespace Go.Proofs.YtabddhmejpknbaaDoor
open Go Go.Proofs.YtabddhmejpknbaaDoor.AL
attribute [local simp] dT_agg dT_nt dT_noTup dT_cells dT_one bs_toList bs_size strV dW_cells dW_agg dW_noTup dSm_cells dSm_agg dSm_noTup dOp_cells dOp_agg dOp_noTup dWs_cells dWs_one dWs_agg dWs_noTup dWs_nt
set_option maxRecDepth 8000
set_option maxHeartbeats 4000000
theorem apart (s : Sm) (a b : Op) : PCall Tryd.prog 8 [dSm s, dOp a, dOp b] (.ret (dB true)) := by
  refine pcall_of_vc hLx c8 (by simp [a8]) fun hr => ?_
  simp [a8]
  refine vc_path [.ret (dB true)] ?_
  simp
  refine ⟨.of .sane, ?_⟩
  cases q1 : fewS s [a, b]
  · refine vc_path [.ret (dB false)] ?_
    simp
    exact .few' q1 (two (LeD.refl _) (leD_of_eq (by simp [dOps, dOp])))
  obtain ⟨l1, l2, l3⟩ := fewS_ok q1
  refine vc_path [.ret (dB true)] ?_
  simp
  refine ⟨.few' q1 (two (LeD.refl _) (leD_of_eq (by simp [dOps, dOp]))), fun k1 k2 g1 g2 g3 g4 g5 g6 => ?_⟩
  have ha := l3 a (by simp)
  have hb := l3 b (by simp)
  have w1 : IntKind.i64.wrap (a.a + a.c) = a.a + a.c := wrap64 (by omega)
  rw [w1] at g5
  have w2 : IntKind.i64.wrap ((a.w.length : Int) - a.c) = a.w.length - a.c := wrap64 (by omega)
  have w3 : IntKind.i64.wrap (b.a + ((a.w.length : Int) - a.c)) = b.a + (a.w.length - a.c) := wrap64 (by omega)
  refine vc_path [.ret (.tup [dSm (doX s a), dI (doE s a)])] ?_
  simp [w2, w3]
  refine ⟨.of (.do_ s a), vc_path [.ret (.tup [dSm (doX s b), dI (doE s b)])] ?_⟩
  simp
  refine ⟨.of (.do_ s b), vc_path [] ?_⟩
  simp
  intro e f
  obtain ⟨r1, r2⟩ := apart_law k1 k2 g1 g3 (by omega) e f
  refine vc_path [.ret (.tup [dSm (doX (doX s b) a), dI (doE (doX s b) a)])] ?_
  simp
  refine ⟨.do' r1 r2 (two (LeD.refl _) (leD_of_eq (by simp [dOp, k2]))), vc_path [.ret (.tup [dSm (doX (doX s b) a), dI (doE (doX s b) a)])] ?_⟩
  simp
  refine ⟨.of (.do_ (doX s b) a), vc_path [.ret (dB true)] ?_⟩
  simp
  exact .same' rfl (two (LeD.refl _) (LeD.refl _))
end Go.Proofs.YtabddhmejpknbaaDoor
end

section
namespace Go.Proofs.YtabddhmejpknbaaDoor
open Go Go.Proofs.YtabddhmejpknbaaDoor.AL Go.ChangeShapes Go.WideShapes Go.ChangeAt Go.RowKit Go.Lib Go.Shelf
theorem params8 : Tryd.f8.params.toList = [24, 31, 31] := by kernel_rfl
theorem results8 : Tryd.f8.resultTypes.toList = [4] := by kernel_rfl
set_option maxRecDepth 1000000 in
theorem streamApart_met (os : Os) (args : Array Value) : laidMet Tryd.prog Rows.streamApartRow.laid ((laidWorld os).forCall (fun _ _ => 0) ⟨#[], args, []⟩).memory :=
  (LaidIn.of_run [1, 0] 8 (by kernel_rfl) (by kernel_rfl) (by kernel_rfl) (by kernel_rfl)).met
theorem streamApart_witness (os : Os) {H : Type} (enc : TypeId × Value → H) :
    (OpenSpec.ofChange Rows.streamApartSpec).preRow enc Tryd.prog Tryd.f8 Rows.streamApartRow.domain false Rows.streamApartRow.laid ((laidWorld os).forCall (fun _ _ => 0) ⟨#[], #[.agg #[.slice none 0 0, .int .i64 0], .agg #[.int .i64 0, .int .i64 0, .int .i64 0, .slice none 0 0], .agg #[.int .i64 0, .int .i64 0, .int .i64 0, .slice none 0 0]], []⟩).memory #[.agg #[.slice none 0 0, .int .i64 0], .agg #[.int .i64 0, .int .i64 0, .int .i64 0, .slice none 0 0], .agg #[.int .i64 0, .int .i64 0, .int .i64 0, .slice none 0 0]] := by
  have hw : (DataW.whole enc Tryd.prog ((laidWorld os).forCall (fun _ _ => 0) ⟨#[], #[.agg #[.slice none 0 0, .int .i64 0], .agg #[.int .i64 0, .int .i64 0, .int .i64 0, .slice none 0 0], .agg #[.int .i64 0, .int .i64 0, .int .i64 0, .slice none 0 0]], []⟩).memory Tryd.f8.params.toList (OpenSpec.ofChange Rows.streamApartSpec).vars false (#[.agg #[.slice none 0 0, .int .i64 0], .agg #[.int .i64 0, .int .i64 0, .int .i64 0, .slice none 0 0], .agg #[.int .i64 0, .int .i64 0, .int .i64 0, .slice none 0 0]] : Array Value).toList 8).map (fun x => (x.1, x.2.1)) =
      some ([.agg [.nil, .lit (.int .i64 0)], .agg [.lit (.int .i64 0), .lit (.int .i64 0), .lit (.int .i64 0), .nil], .agg [.lit (.int .i64 0), .lit (.int .i64 0), .lit (.int .i64 0), .nil]], []) := by kernel_rfl
  obtain ⟨⟨x1, x2, x3⟩, hx, hx1⟩ := Option.map_eq_some_iff.1 hw
  simp only [Prod.mk.injEq] at hx1
  obtain ⟨rfl, rfl⟩ := hx1
  exact OpenSpec.preRow_of_cond 8 hx (by kernel_rfl) (fun k hk => by cases hk) (by kernel_rfl) (streamApart_met os _)
set_option maxRecDepth 100000 in
theorem streamApart_lifted (os : Os) (started : os.Started) (H : Type) (enc : TypeId × Value → H) (F : Stop.Interp) :
    ReturnsInHanded {} Tryd.checked os 8 .any ((OpenSpec.ofChange Rows.streamApartSpec).preRow enc Tryd.prog Tryd.f8 Rows.streamApartRow.domain false Rows.streamApartRow.laid) (((OpenSpec.ofChange Rows.streamApartSpec).at F).post enc Tryd.prog Tryd.f8 false true false false) := by
  refine returnsInHanded_of_row (C := Tryd.checked) (s := (OpenSpec.ofChange Rows.streamApartSpec)) (F := F) own started (by kernel_rfl) Tryd.func8
    (witness_row_atRef (enc := enc) (C := Tryd.checked) false (laidWorld os) #[.agg #[.slice none 0 0, .int .i64 0], .agg #[.int .i64 0, .int .i64 0, .int .i64 0, .slice none 0 0], .agg #[.int .i64 0, .int .i64 0, .int .i64 0, .slice none 0 0]] rfl (by kernel_rfl) (by kernel_rfl) (by kernel_rfl) (streamApart_witness os enc)) ?_
  intro W base args ds gs before hval hW _ _ _ hL _ _
  have hU : Lib.Utf8Tabs 0 1 W :=
    utf8Tabs_of_reads (ρ := Tryd.lays197_ren) { Tryd.lays197 with } ⟨by kernel_rfl, by kernel_rfl, by kernel_rfl, by kernel_rfl, by kernel_rfl, by kernel_rfl, by kernel_rfl⟩ (Lib.laidMet.reads hL (.tail _ (.head _))) (Lib.laidMet.reads hL (.head _))
  refine law_contract laidOut params8 results8 (by kernel_rfl) rfl (fun ds h => by match ds, h with | [_, _, _], _ => rfl) (by kernel_rfl) (.cons sSm (.cons sOp (.cons sOp .nil))) (fun ds hK => ?_) W base args ds gs before (glOk_of hU) hval hW
  cases hK
  rename_i h1 hK
  cases hK
  rename_i h2 hK
  cases hK
  rename_i h3 hK
  cases hK
  obtain ⟨n1, rfl⟩ := h1
  obtain ⟨n2, rfl⟩ := h2
  obtain ⟨n3, rfl⟩ := h3
  exact apart n1 n2 n3
theorem streamApart_holds : Rows.StreamApartSaid :=
  OpenClaim.holds_of_cond 8 Tryd.f8 rfl rfl rfl rfl rfl rfl rfl ⟨rfl, rfl, rfl, rfl, rfl⟩ rfl rfl rfl rfl rfl (by kernel_rfl) Tryd.func8 (by kernel_rfl)
    (of_decide_eq_true (by kernel_rfl)) (by unfold Func.isWrapper; rw [if_neg (of_decide_eq_false (by kernel_rfl))]; exact ⟨rfl, rfl⟩)
    (fun os started H enc _ F0 => by rw [OpenClaim.pre_eq_preRow]; exact streamApart_lifted os started H enc F0)
theorem streamApart_card : Rows.StreamApartCardSaid :=
  Claim7.holds_tied_plain_at .later [] [.data, .pinned] true _ true
    streamApart_holds (fun _ h => by cases h) (by kernel_rfl) (fun _ h => by cases h) streamApart_row_tie rfl ⟨rfl, rfl⟩ (by kernel_rfl) rfl
    (fun f fn hf hfn => by
      obtain rfl : f = 8 := Option.some.inj ((show Tryd.prog.funcNamed Rows.streamApartRow.func = some 8 by kernel_rfl).symm.trans hf) |>.symm
      obtain rfl : fn = Tryd.f8 := (Option.some.inj (Tryd.func8.symm.trans hfn)).symm
      exact ⟨by kernel_rfl, fun j t ht => by
        rw [← Array.getElem?_toList, params8] at ht
        match j with
        | 0 => simp at ht; subst ht; exact (show Tryd.prog.wantsStandIn 24 = false by kernel_rfl)
        | 1 => simp at ht; subst ht; exact (show Tryd.prog.wantsStandIn 31 = false by kernel_rfl)
        | 2 => simp at ht; subst ht; exact (show Tryd.prog.wantsStandIn 31 = false by kernel_rfl)
        | j + 3 => simp at ht⟩)
    (by kernel_rfl)

end Go.Proofs.YtabddhmejpknbaaDoor
end
