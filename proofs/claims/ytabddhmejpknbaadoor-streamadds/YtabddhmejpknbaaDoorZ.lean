/- Part of the proof: S27, S37. -/
import Derived.Test.YtabddhmejpknbaaDoorG
set_option linter.unnecessarySimpa false
set_option linter.unusedVariables false
set_option linter.unusedSimpArgs false
section
namespace Go.Proofs.YtabddhmejpknbaaDoor
open Go Go.Proofs.YtabddhmejpknbaaDoor.AL
attribute [local simp] dT_agg dT_nt dT_noTup dT_cells dT_one bs_toList bs_size strV dW_cells dW_agg dW_noTup dSm_cells dSm_agg dSm_noTup dOp_cells dOp_agg dOp_noTup dWs_cells dWs_one dWs_agg dWs_noTup dWs_nt
set_option maxRecDepth 8000
set_option maxHeartbeats 4000000
theorem adds (s : Sm) (l : List Wd) (n : Int) (hn : 0 ≤ n ∧ n ≤ 255) : PCall Tryd.prog 7 [dSm s, dWs l, .lit (.int .u8 n)] (.ret (dB true)) := by
  refine pcall_of_vc hLx c7 (by simp [a7, dWs_eq]) fun hr => ?_
  simp [a7, dWs_eq]
  refine vc_path [.ret (dB true)] ?_
  simp
  refine ⟨.of .sane, ?_⟩
  cases q1 : fewS s [⟨0, 0, 0, l⟩]
  · refine vc_path [.ret (dB false)] ?_
    simp
    exact .few' q1 (two (LeD.refl _) (leD_of_eq (by simp [dOps, dOp, dWs])))
  obtain ⟨l1, l2, l3⟩ := fewS_ok q1
  by_cases q2 : (l.length : Int) < 2
  · refine vc_path [.ret (dB true)] ?_
    simp [q2]
    exact .few' q1 (two (LeD.refl _) (leD_of_eq (by simp [dOps, dOp, dWs])))
  by_cases q3 : 64 < (l.length : Int)
  · refine vc_path [.ret (dB true)] ?_
    simp [q2, q3]
    exact .few' q1 (two (LeD.refl _) (leD_of_eq (by simp [dOps, dOp, dWs])))
  obtain ⟨k, hk⟩ : ∃ k : Nat, 1 + n.tmod ((l.length : Int) - 1) = k := ⟨(1 + n.tmod ((l.length : Int) - 1)).toNat, by
    have := Int.tmod_nonneg ((l.length : Int) - 1) hn.1; omega⟩
  have hk1 : 1 ≤ k ∧ k < l.length := by
    have h1 := Int.tmod_nonneg ((l.length : Int) - 1) hn.1
    have h2 := Int.tmod_lt_of_pos n (show (0 : Int) < (l.length : Int) - 1 by omega)
    omega
  have w1 : IntKind.i64.wrap ((l.length : Int) - 1) = (l.length : Int) - 1 := wrap64 (by omega)
  have w2 : IntKind.i64.wrap n = n := wrap64 (by omega)
  have w3 : IntKind.i64.wrap (1 + n.tmod ((l.length : Int) - 1)) = k := by rw [hk]; exact wrap64 (by omega)
  have n0 : ¬ (l.length : Int) - 1 = 0 := by omega
  have p3 : (l.length : Int) ≤ 64 := by omega
  have p2 : 2 ≤ (l.length : Int) := by omega
  refine vc_path [.ret (dB true)] ?_
  simp [q2, q3, p2, p3, w1, w2, w3, n0]
  obtain ⟨a1, a2⟩ := adds_law (s := s) l1 hk1.1 hk1.2 (by omega)
  refine ⟨.few' q1 (two (LeD.refl _) (leD_of_eq (by simp [dOps, dOp]))), ?_⟩
  refine vc_path [.ret (.tup [dSm (doX s ⟨1, 0, 0, l⟩), dI (doE s ⟨1, 0, 0, l⟩)])] ?_
  simp
  refine ⟨.mk (.do_ s _) (two (LeD.refl _) (leD_of_eq (by simp [dOp]))), ?_⟩
  refine vc_pathD [.ret (.tup [dSm (doX s ⟨1, 0, 0, l.take k⟩), dI (doE s ⟨1, 0, 0, l.take k⟩)])] ?_
  have hk3 : k ≤ l.length := by omega
  simp [hk3]
  refine ⟨.mk (.do_ s _) (two (LeD.refl _) (leD_of_eq (by simp [dOp]))), rfl, ?_⟩
  by_cases g : doE s ⟨1, 0, 0, l.take k⟩ ≠ 0
  · simp [g, a1 g]
  have g : doE s ⟨1, 0, 0, l.take k⟩ = 0 := by omega
  obtain ⟨a3, a4⟩ := a2 g
  simp [g]
  refine vc_pathD [.ret (.tup [dSm (doX s ⟨1, 0, 0, l⟩), dI (doE s ⟨1, 0, 0, l⟩)])] ?_
  simp [hk3]
  have ht : List.take l.length (l.map dW) = l.map dW := by rw [← List.length_map (f := dW), List.take_length]
  refine ⟨.do' a3.symm a4.symm (two (LeD.refl _) (leD_of_eq (by simp [dOp, ht]))), rfl, vc_path [.ret (dB true)] ?_⟩
  simp
  exact .same' rfl (two (LeD.refl _) (LeD.refl _))
end Go.Proofs.YtabddhmejpknbaaDoor
end

section
namespace Go.Proofs.YtabddhmejpknbaaDoor
open Go Go.Proofs.YtabddhmejpknbaaDoor.AL Go.ChangeShapes Go.WideShapes Go.ChangeAt Go.RowKit Go.Lib Go.Shelf
theorem params7 : Tryd.f7.params.toList = [24, 22, 5] := by kernel_rfl
theorem results7 : Tryd.f7.resultTypes.toList = [4] := by kernel_rfl
set_option maxRecDepth 1000000 in
theorem streamAdds_met (os : Os) (args : Array Value) : laidMet Tryd.prog Rows.streamAddsRow.laid ((laidWorld os).forCall (fun _ _ => 0) ⟨#[], args, []⟩).memory :=
  (LaidIn.of_run [1, 0] 8 (by kernel_rfl) (by kernel_rfl) (by kernel_rfl) (by kernel_rfl)).met
theorem streamAdds_witness (os : Os) {H : Type} (enc : TypeId × Value → H) :
    (OpenSpec.ofChange Rows.streamAddsSpec).preRow enc Tryd.prog Tryd.f7 Rows.streamAddsRow.domain false Rows.streamAddsRow.laid ((laidWorld os).forCall (fun _ _ => 0) ⟨#[], #[.agg #[.slice none 0 0, .int .i64 0], .slice none 0 0, .int .u8 0], []⟩).memory #[.agg #[.slice none 0 0, .int .i64 0], .slice none 0 0, .int .u8 0] := by
  have hw : (DataW.whole enc Tryd.prog ((laidWorld os).forCall (fun _ _ => 0) ⟨#[], #[.agg #[.slice none 0 0, .int .i64 0], .slice none 0 0, .int .u8 0], []⟩).memory Tryd.f7.params.toList (OpenSpec.ofChange Rows.streamAddsSpec).vars false (#[.agg #[.slice none 0 0, .int .i64 0], .slice none 0 0, .int .u8 0] : Array Value).toList 8).map (fun x => (x.1, x.2.1)) =
      some ([.agg [.nil, .lit (.int .i64 0)], .nil, .lit (.int .u8 0)], []) := by kernel_rfl
  obtain ⟨⟨x1, x2, x3⟩, hx, hx1⟩ := Option.map_eq_some_iff.1 hw
  simp only [Prod.mk.injEq] at hx1
  obtain ⟨rfl, rfl⟩ := hx1
  exact OpenSpec.preRow_of_cond 8 hx (by kernel_rfl) (fun k hk => by cases hk) (by kernel_rfl) (streamAdds_met os _)
set_option maxRecDepth 100000 in
theorem streamAdds_lifted (os : Os) (started : os.Started) (H : Type) (enc : TypeId × Value → H) (F : Stop.Interp) :
    ReturnsInHanded {} Tryd.checked os 7 .any ((OpenSpec.ofChange Rows.streamAddsSpec).preRow enc Tryd.prog Tryd.f7 Rows.streamAddsRow.domain false Rows.streamAddsRow.laid) (((OpenSpec.ofChange Rows.streamAddsSpec).at F).post enc Tryd.prog Tryd.f7 false true false false) := by
  refine returnsInHanded_of_row (C := Tryd.checked) (s := (OpenSpec.ofChange Rows.streamAddsSpec)) (F := F) own started (by kernel_rfl) Tryd.func7
    (witness_row_atRef (enc := enc) (C := Tryd.checked) false (laidWorld os) #[.agg #[.slice none 0 0, .int .i64 0], .slice none 0 0, .int .u8 0] rfl (by kernel_rfl) (by kernel_rfl) (by kernel_rfl) (streamAdds_witness os enc)) ?_
  intro W base args ds gs before hval hW _ _ _ hL _ _
  have hU : Lib.Utf8Tabs 0 1 W :=
    utf8Tabs_of_reads (ρ := Tryd.lays197_ren) { Tryd.lays197 with } ⟨by kernel_rfl, by kernel_rfl, by kernel_rfl, by kernel_rfl, by kernel_rfl, by kernel_rfl, by kernel_rfl⟩ (Lib.laidMet.reads hL (.tail _ (.head _))) (Lib.laidMet.reads hL (.head _))
  refine law_contract laidOut params7 results7 (by kernel_rfl) rfl (fun ds h => by match ds, h with | [_, _, _], _ => rfl) (by kernel_rfl) (.cons sSm (.cons sWs (.cons sU8 .nil))) (fun ds hK => ?_) W base args ds gs before (glOk_of hU) hval hW
  cases hK
  rename_i h1 hK
  cases hK
  rename_i h2 hK
  cases hK
  rename_i h3 hK
  cases hK
  obtain ⟨n1, rfl⟩ := h1
  obtain ⟨n2, rfl⟩ := h2
  obtain ⟨n3, hb3, rfl⟩ := h3
  exact adds n1 n2 n3 (by simpa [IntKind.min, IntKind.max, IntKind.signed, IntKind.bits] using hb3)
theorem streamAdds_holds : Rows.StreamAddsSaid :=
  OpenClaim.holds_of_cond 7 Tryd.f7 rfl rfl rfl rfl rfl rfl rfl ⟨rfl, rfl, rfl, rfl, rfl⟩ rfl rfl rfl rfl rfl (by kernel_rfl) Tryd.func7 (by kernel_rfl)
    (of_decide_eq_true (by kernel_rfl)) (by unfold Func.isWrapper; rw [if_neg (of_decide_eq_false (by kernel_rfl))]; exact ⟨rfl, rfl⟩)
    (fun os started H enc _ F0 => by rw [OpenClaim.pre_eq_preRow]; exact streamAdds_lifted os started H enc F0)
theorem streamAdds_card : Rows.StreamAddsCardSaid :=
  Claim7.holds_tied_plain_at .later [] [.data, .pinned] true _ true
    streamAdds_holds (fun _ h => by cases h) (by kernel_rfl) (fun _ h => by cases h) streamAdds_row_tie rfl ⟨rfl, rfl⟩ (by kernel_rfl) rfl
    (fun f fn hf hfn => by
      obtain rfl : f = 7 := Option.some.inj ((show Tryd.prog.funcNamed Rows.streamAddsRow.func = some 7 by kernel_rfl).symm.trans hf) |>.symm
      obtain rfl : fn = Tryd.f7 := (Option.some.inj (Tryd.func7.symm.trans hfn)).symm
      exact ⟨by kernel_rfl, fun j t ht => by
        rw [← Array.getElem?_toList, params7] at ht
        match j with
        | 0 => simp at ht; subst ht; exact (show Tryd.prog.wantsStandIn 24 = false by kernel_rfl)
        | 1 => simp at ht; subst ht; exact (show Tryd.prog.wantsStandIn 22 = false by kernel_rfl)
        | 2 => simp at ht; subst ht; exact (show Tryd.prog.wantsStandIn 5 = false by kernel_rfl)
        | j + 3 => simp at ht⟩)
    (by kernel_rfl)

end Go.Proofs.YtabddhmejpknbaaDoor
end
