/- Part of the proof: S26, S36. -/
import Derived.Test.YtabddhmejpknbaaDoorG
set_option linter.unnecessarySimpa false
set_option linter.unusedVariables false
set_option linter.unusedSimpArgs false
section
namespace Go.Proofs.YtabddhmejpknbaaDoor
open Go Go.Proofs.YtabddhmejpknbaaDoor.AL
attribute [local simp] dT_agg dT_nt dT_noTup dT_cells dT_one bs_toList bs_size strV dW_cells dW_agg dW_noTup dSm_cells dSm_agg dSm_noTup dOp_cells dOp_agg dOp_noTup dWs_cells dWs_one dWs_agg dWs_noTup dWs_nt
set_option maxRecDepth 8000
set_option maxHeartbeats 4000000
theorem back (s : Sm) (o : Op) : PCall Tryd.prog 6 [dSm s, dOp o] (.ret (dB true)) := by
  refine pcall_of_vc hLx c6 (by simp [a6]) fun hr => ?_
  simp [a6]
  refine vc_path [.ret (dB true)] ?_
  simp
  refine ⟨.of .sane, ?_⟩
  cases q1 : fewS s [o]
  · refine vc_path [.ret (dB false)] ?_
    simp
    exact .few' q1 (two (LeD.refl _) (leD_of_eq (by simp [dOps, dOp])))
  obtain ⟨l1, l2, l3⟩ := fewS_ok q1
  refine vc_path [.ret (dB true)] ?_
  simp
  refine ⟨.few' q1 (two (LeD.refl _) (leD_of_eq (by simp [dOps, dOp]))), vc_path [.ret (.tup [dSm (doX s o), dI (doE s o)])] ?_⟩
  simp
  refine ⟨.of (.do_ s o), vc_path [] ?_⟩
  simp
  intro g hk hw
  have hw' : o.w ≠ [] := fun e => by simp [e] at hw
  obtain ⟨b1, b2, b3, b4, b5⟩ := back_law g hk hw'
  have w1 : IntKind.i64.wrap (o.a + o.c) = o.a + o.c := wrap64 (by omega)
  have n1 : ¬ o.a < 0 := by omega
  have n2 : ¬ o.c < 1 := by omega
  have n3 : ¬ (s.w.length : Int) < o.a + o.c := by omega
  refine vc_path [] ?_
  simp [w1, n1, n2, n3]
  refine vc_pathD [.ret (.tup [dSm s, dI 0])] ?_
  simp [w1, b1, b3, show o.a ≤ o.a + o.c by omega]
  refine ⟨.do' b4 b5 (two (LeD.refl _) (leD_of_eq (by simp [dOp]))), rfl, vc_path [.ret (dB true)] ?_⟩
  simp
  exact .same' rfl (two (LeD.refl _) (LeD.refl _))
end Go.Proofs.YtabddhmejpknbaaDoor
end

section
namespace Go.Proofs.YtabddhmejpknbaaDoor
open Go Go.Proofs.YtabddhmejpknbaaDoor.AL Go.ChangeShapes Go.WideShapes Go.ChangeAt Go.RowKit Go.Lib Go.Shelf
theorem params6 : Tryd.f6.params.toList = [24, 31] := by kernel_rfl
theorem results6 : Tryd.f6.resultTypes.toList = [4] := by kernel_rfl
set_option maxRecDepth 1000000 in
theorem streamBack_met (os : Os) (args : Array Value) : laidMet Tryd.prog Rows.streamBackRow.laid ((laidWorld os).forCall (fun _ _ => 0) ⟨#[], args, []⟩).memory :=
  (LaidIn.of_run [1, 0] 8 (by kernel_rfl) (by kernel_rfl) (by kernel_rfl) (by kernel_rfl)).met
theorem streamBack_witness (os : Os) {H : Type} (enc : TypeId × Value → H) :
    (OpenSpec.ofChange Rows.streamBackSpec).preRow enc Tryd.prog Tryd.f6 Rows.streamBackRow.domain false Rows.streamBackRow.laid ((laidWorld os).forCall (fun _ _ => 0) ⟨#[], #[.agg #[.slice none 0 0, .int .i64 0], .agg #[.int .i64 0, .int .i64 0, .int .i64 0, .slice none 0 0]], []⟩).memory #[.agg #[.slice none 0 0, .int .i64 0], .agg #[.int .i64 0, .int .i64 0, .int .i64 0, .slice none 0 0]] := by
  have hw : (DataW.whole enc Tryd.prog ((laidWorld os).forCall (fun _ _ => 0) ⟨#[], #[.agg #[.slice none 0 0, .int .i64 0], .agg #[.int .i64 0, .int .i64 0, .int .i64 0, .slice none 0 0]], []⟩).memory Tryd.f6.params.toList (OpenSpec.ofChange Rows.streamBackSpec).vars false (#[.agg #[.slice none 0 0, .int .i64 0], .agg #[.int .i64 0, .int .i64 0, .int .i64 0, .slice none 0 0]] : Array Value).toList 8).map (fun x => (x.1, x.2.1)) =
      some ([.agg [.nil, .lit (.int .i64 0)], .agg [.lit (.int .i64 0), .lit (.int .i64 0), .lit (.int .i64 0), .nil]], []) := by kernel_rfl
  obtain ⟨⟨x1, x2, x3⟩, hx, hx1⟩ := Option.map_eq_some_iff.1 hw
  simp only [Prod.mk.injEq] at hx1
  obtain ⟨rfl, rfl⟩ := hx1
  exact OpenSpec.preRow_of_cond 8 hx (by kernel_rfl) (fun k hk => by cases hk) (by kernel_rfl) (streamBack_met os _)
set_option maxRecDepth 100000 in
theorem streamBack_lifted (os : Os) (started : os.Started) (H : Type) (enc : TypeId × Value → H) (F : Stop.Interp) :
    ReturnsInHanded {} Tryd.checked os 6 .any ((OpenSpec.ofChange Rows.streamBackSpec).preRow enc Tryd.prog Tryd.f6 Rows.streamBackRow.domain false Rows.streamBackRow.laid) (((OpenSpec.ofChange Rows.streamBackSpec).at F).post enc Tryd.prog Tryd.f6 false true false false) := by
  refine returnsInHanded_of_row (C := Tryd.checked) (s := (OpenSpec.ofChange Rows.streamBackSpec)) (F := F) own started (by kernel_rfl) Tryd.func6
    (witness_row_atRef (enc := enc) (C := Tryd.checked) false (laidWorld os) #[.agg #[.slice none 0 0, .int .i64 0], .agg #[.int .i64 0, .int .i64 0, .int .i64 0, .slice none 0 0]] rfl (by kernel_rfl) (by kernel_rfl) (by kernel_rfl) (streamBack_witness os enc)) ?_
  intro W base args ds gs before hval hW _ _ _ hL _ _
  have hU : Lib.Utf8Tabs 0 1 W :=
    utf8Tabs_of_reads (ρ := Tryd.lays197_ren) { Tryd.lays197 with } ⟨by kernel_rfl, by kernel_rfl, by kernel_rfl, by kernel_rfl, by kernel_rfl, by kernel_rfl, by kernel_rfl⟩ (Lib.laidMet.reads hL (.tail _ (.head _))) (Lib.laidMet.reads hL (.head _))
  refine law_contract laidOut params6 results6 (by kernel_rfl) rfl (fun ds h => by match ds, h with | [_, _], _ => rfl) (by kernel_rfl) (.cons sSm (.cons sOp .nil)) (fun ds hK => ?_) W base args ds gs before (glOk_of hU) hval hW
  cases hK
  rename_i h1 hK
  cases hK
  rename_i h2 hK
  cases hK
  obtain ⟨n1, rfl⟩ := h1
  obtain ⟨n2, rfl⟩ := h2
  exact back n1 n2
theorem streamBack_holds : Rows.StreamBackSaid :=
  OpenClaim.holds_of_cond 6 Tryd.f6 rfl rfl rfl rfl rfl rfl rfl ⟨rfl, rfl, rfl, rfl, rfl⟩ rfl rfl rfl rfl rfl (by kernel_rfl) Tryd.func6 (by kernel_rfl)
    (of_decide_eq_true (by kernel_rfl)) (by unfold Func.isWrapper; rw [if_neg (of_decide_eq_false (by kernel_rfl))]; exact ⟨rfl, rfl⟩)
    (fun os started H enc _ F0 => by rw [OpenClaim.pre_eq_preRow]; exact streamBack_lifted os started H enc F0)
theorem streamBack_card : Rows.StreamBackCardSaid :=
  Claim7.holds_tied_plain_at .later [] [.data, .pinned] true _ true
    streamBack_holds (fun _ h => by cases h) (by kernel_rfl) (fun _ h => by cases h) streamBack_row_tie rfl ⟨rfl, rfl⟩ (by kernel_rfl) rfl
    (fun f fn hf hfn => by
      obtain rfl : f = 6 := Option.some.inj ((show Tryd.prog.funcNamed Rows.streamBackRow.func = some 6 by kernel_rfl).symm.trans hf) |>.symm
      obtain rfl : fn = Tryd.f6 := (Option.some.inj (Tryd.func6.symm.trans hfn)).symm
      exact ⟨by kernel_rfl, fun j t ht => by
        rw [← Array.getElem?_toList, params6] at ht
        match j with
        | 0 => simp at ht; subst ht; exact (show Tryd.prog.wantsStandIn 24 = false by kernel_rfl)
        | 1 => simp at ht; subst ht; exact (show Tryd.prog.wantsStandIn 31 = false by kernel_rfl)
        | j + 2 => simp at ht⟩)
    (by kernel_rfl)

end Go.Proofs.YtabddhmejpknbaaDoor
end
