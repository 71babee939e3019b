/- Part of the proof: S29, S39. -/
import Derived.Test.YtabddhmejpknbaaDoorG
set_option linter.unnecessarySimpa false
set_option linter.unusedVariables false
set_option linter.unusedSimpArgs false
section
namespace Go.Proofs.YtabddhmejpknbaaDoor
open Go Go.Proofs.YtabddhmejpknbaaDoor.AL
attribute [local simp] dT_agg dT_nt dT_noTup dT_cells dT_one bs_toList bs_size strV dW_cells dW_agg dW_noTup dSm_cells dSm_agg dSm_noTup dOp_cells dOp_agg dOp_noTup dWs_cells dWs_one dWs_agg dWs_noTup dWs_nt
set_option maxRecDepth 8000
set_option maxHeartbeats 4000000
theorem fix (s : Sm) (k : Int) (o : Op) : PCall Tryd.prog 9 [dSm s, dI k, dOp o] (.ret (dB true)) := by
  refine pcall_of_vc hLx c9 (by simp [a9]) fun hr => ?_
  simp [a9]
  refine vc_path [.ret (dB true)] ?_
  simp
  refine ⟨.of .sane, ?_⟩
  cases q1 : fewS s [o]
  · refine vc_path [.ret (dB false)] ?_
    simp
    exact .few' q1 (two (LeD.refl _) (leD_of_eq (by simp [dOps, dOp])))
  obtain ⟨l1, l2, l3⟩ := fewS_ok q1
  refine vc_path [.ret (dB true)] ?_
  simp
  refine ⟨.few' q1 (two (LeD.refl _) (leD_of_eq (by simp [dOps, dOp]))), vc_path [.ret (.tup [dSm (doX s ⟨3, k, 0, []⟩), dI (doE s ⟨3, k, 0, []⟩)])] ?_⟩
  simp
  refine ⟨.mk (.do_ s _) (two (LeD.refl _) (nilOp _ _ _)), ?_⟩
  by_cases e : doE s ⟨3, k, 0, []⟩ ≠ 0
  · simp [e]
    refine vc_path [.ret (dB true)] ?_
    simp
    exact .same' (doX_bad e) (two (LeD.refl _) nilSm)
  have e : doE s ⟨3, k, 0, []⟩ = 0 := by omega
  obtain ⟨f1, f2, f3, f4, f5⟩ := fix_law e
  simp [e, f3]
  have n1 : ¬ k < s.x := by omega
  have n2 : ¬ (s.w.length : Int) < k := by omega
  refine vc_path [.ret (dB true)] ?_
  simp [f1, f2, n1, n2]
  refine ⟨.samew' rfl (two (LeD.refl _) (LeD.refl _)), fun g => ?_, fun g => ?_⟩
  · have w1 : IntKind.i64.wrap (k - 1) = k - 1 := wrap64 (by have := (hr (dI k) (by simp)).int; simp [IntKind.min, IntKind.max, IntKind.signed, IntKind.bits] at this; obtain ⟨_, g2, _, _⟩ := eSm_ok f4; omega)
    refine vc_path [.ret (.tup [dSm s0, dI 170])] ?_
    simp [w1]
    refine ⟨.do' (fix_less f5) (doX_bad (by rw [fix_less f5]; decide)) (two (LeD.refl _) (nilOp _ _ _)), ?_⟩
    refine vc_path [.ret (.tup [dSm (doX s o), dI (doE s o)])] ?_
    simp
    refine ⟨.of (.do_ s o), ?_⟩
    refine vc_path [.ret (.tup [dSm (doX ⟨s.w, k⟩ o), dI (doE ⟨s.w, k⟩ o)])] ?_
    simp
    refine ⟨.of (.do_ ⟨s.w, k⟩ o), ?_⟩
    have hlow : o.k ≠ 1 → o.a < k → doE ⟨s.w, k⟩ o = 170 := fun h1 h2 => fix_below f5 h1 h2
    have hup : (o.k = 1 ∨ k ≤ o.a) → _ := fun h => fix_above f4 f5 f1 h
    by_cases k1 : o.k = 1
    · obtain ⟨u1, u2⟩ := hup (.inl k1)
      refine vc_path [] ?_
      simp [k1]
      refine vc_path [.ret (dB true)] ?_
      simp [u1]
      exact .samew' u2 (two (leD_of_eq (by simp [dWs])) (leD_of_eq (by simp [dWs])))
    · by_cases k2 : o.a < k
      · have h1 := hlow k1 k2
        refine vc_path [] ?_
        simp [k1, k2]
        refine vc_path [.ret (dB true)] ?_
        simp [h1]
        exact .same' (doX_bad (by rw [h1]; decide)) (two (leD_of_eq (by simp [dSm])) nilSm)
      · obtain ⟨u1, u2⟩ := hup (.inr (by omega))
        refine vc_path [] ?_
        simp [k1, k2]
        refine vc_path [.ret (dB true)] ?_
        simp [u1]
        exact .samew' u2 (two (leD_of_eq (by simp [dWs])) (leD_of_eq (by simp [dWs])))
  · refine vc_path [.ret (.tup [dSm (doX s o), dI (doE s o)])] ?_
    simp
    refine ⟨.of (.do_ s o), ?_⟩
    refine vc_path [.ret (.tup [dSm (doX ⟨s.w, k⟩ o), dI (doE ⟨s.w, k⟩ o)])] ?_
    simp
    refine ⟨.of (.do_ ⟨s.w, k⟩ o), ?_⟩
    have hlow : o.k ≠ 1 → o.a < k → doE ⟨s.w, k⟩ o = 170 := fun h1 h2 => fix_below f5 h1 h2
    have hup : (o.k = 1 ∨ k ≤ o.a) → _ := fun h => fix_above f4 f5 f1 h
    by_cases k1 : o.k = 1
    · obtain ⟨u1, u2⟩ := hup (.inl k1)
      refine vc_path [] ?_
      simp [k1]
      refine vc_path [.ret (dB true)] ?_
      simp [u1]
      exact .samew' u2 (two (leD_of_eq (by simp [dWs])) (leD_of_eq (by simp [dWs])))
    · by_cases k2 : o.a < k
      · have h1 := hlow k1 k2
        refine vc_path [] ?_
        simp [k1, k2]
        refine vc_path [.ret (dB true)] ?_
        simp [h1]
        exact .same' (doX_bad (by rw [h1]; decide)) (two (leD_of_eq (by simp [dSm])) nilSm)
      · obtain ⟨u1, u2⟩ := hup (.inr (by omega))
        refine vc_path [] ?_
        simp [k1, k2]
        refine vc_path [.ret (dB true)] ?_
        simp [u1]
        exact .samew' u2 (two (leD_of_eq (by simp [dWs])) (leD_of_eq (by simp [dWs])))
end Go.Proofs.YtabddhmejpknbaaDoor
end

section
namespace Go.Proofs.YtabddhmejpknbaaDoor
open Go Go.Proofs.YtabddhmejpknbaaDoor.AL Go.ChangeShapes Go.WideShapes Go.ChangeAt Go.RowKit Go.Lib Go.Shelf
theorem params9 : Tryd.f9.params.toList = [24, 3, 31] := by kernel_rfl
theorem results9 : Tryd.f9.resultTypes.toList = [4] := by kernel_rfl
set_option maxRecDepth 1000000 in
theorem streamFix_met (os : Os) (args : Array Value) : laidMet Tryd.prog Rows.streamFixRow.laid ((laidWorld os).forCall (fun _ _ => 0) ⟨#[], args, []⟩).memory :=
  (LaidIn.of_run [1, 0] 8 (by kernel_rfl) (by kernel_rfl) (by kernel_rfl) (by kernel_rfl)).met
theorem streamFix_witness (os : Os) {H : Type} (enc : TypeId × Value → H) :
    (OpenSpec.ofChange Rows.streamFixSpec).preRow enc Tryd.prog Tryd.f9 Rows.streamFixRow.domain false Rows.streamFixRow.laid ((laidWorld os).forCall (fun _ _ => 0) ⟨#[], #[.agg #[.slice none 0 0, .int .i64 0], .int .i64 0, .agg #[.int .i64 0, .int .i64 0, .int .i64 0, .slice none 0 0]], []⟩).memory #[.agg #[.slice none 0 0, .int .i64 0], .int .i64 0, .agg #[.int .i64 0, .int .i64 0, .int .i64 0, .slice none 0 0]] := by
  have hw : (DataW.whole enc Tryd.prog ((laidWorld os).forCall (fun _ _ => 0) ⟨#[], #[.agg #[.slice none 0 0, .int .i64 0], .int .i64 0, .agg #[.int .i64 0, .int .i64 0, .int .i64 0, .slice none 0 0]], []⟩).memory Tryd.f9.params.toList (OpenSpec.ofChange Rows.streamFixSpec).vars false (#[.agg #[.slice none 0 0, .int .i64 0], .int .i64 0, .agg #[.int .i64 0, .int .i64 0, .int .i64 0, .slice none 0 0]] : Array Value).toList 8).map (fun x => (x.1, x.2.1)) =
      some ([.agg [.nil, .lit (.int .i64 0)], .lit (.int .i64 0), .agg [.lit (.int .i64 0), .lit (.int .i64 0), .lit (.int .i64 0), .nil]], []) := by kernel_rfl
  obtain ⟨⟨x1, x2, x3⟩, hx, hx1⟩ := Option.map_eq_some_iff.1 hw
  simp only [Prod.mk.injEq] at hx1
  obtain ⟨rfl, rfl⟩ := hx1
  exact OpenSpec.preRow_of_cond 8 hx (by kernel_rfl) (fun k hk => by cases hk) (by kernel_rfl) (streamFix_met os _)
set_option maxRecDepth 100000 in
theorem streamFix_lifted (os : Os) (started : os.Started) (H : Type) (enc : TypeId × Value → H) (F : Stop.Interp) :
    ReturnsInHanded {} Tryd.checked os 9 .any ((OpenSpec.ofChange Rows.streamFixSpec).preRow enc Tryd.prog Tryd.f9 Rows.streamFixRow.domain false Rows.streamFixRow.laid) (((OpenSpec.ofChange Rows.streamFixSpec).at F).post enc Tryd.prog Tryd.f9 false true false false) := by
  refine returnsInHanded_of_row (C := Tryd.checked) (s := (OpenSpec.ofChange Rows.streamFixSpec)) (F := F) own started (by kernel_rfl) Tryd.func9
    (witness_row_atRef (enc := enc) (C := Tryd.checked) false (laidWorld os) #[.agg #[.slice none 0 0, .int .i64 0], .int .i64 0, .agg #[.int .i64 0, .int .i64 0, .int .i64 0, .slice none 0 0]] rfl (by kernel_rfl) (by kernel_rfl) (by kernel_rfl) (streamFix_witness os enc)) ?_
  intro W base args ds gs before hval hW _ _ _ hL _ _
  have hU : Lib.Utf8Tabs 0 1 W :=
    utf8Tabs_of_reads (ρ := Tryd.lays197_ren) { Tryd.lays197 with } ⟨by kernel_rfl, by kernel_rfl, by kernel_rfl, by kernel_rfl, by kernel_rfl, by kernel_rfl, by kernel_rfl⟩ (Lib.laidMet.reads hL (.tail _ (.head _))) (Lib.laidMet.reads hL (.head _))
  refine law_contract laidOut params9 results9 (by kernel_rfl) rfl (fun ds h => by match ds, h with | [_, _, _], _ => rfl) (by kernel_rfl) (.cons sSm (.cons sI (.cons sOp .nil))) (fun ds hK => ?_) W base args ds gs before (glOk_of hU) hval hW
  cases hK
  rename_i h1 hK
  cases hK
  rename_i h2 hK
  cases hK
  rename_i h3 hK
  cases hK
  obtain ⟨n1, rfl⟩ := h1
  obtain ⟨n2, hb2, rfl⟩ := h2
  obtain ⟨n3, rfl⟩ := h3
  exact fix n1 n2 n3
theorem streamFix_holds : Rows.StreamFixSaid :=
  OpenClaim.holds_of_cond 9 Tryd.f9 rfl rfl rfl rfl rfl rfl rfl ⟨rfl, rfl, rfl, rfl, rfl⟩ rfl rfl rfl rfl rfl (by kernel_rfl) Tryd.func9 (by kernel_rfl)
    (of_decide_eq_true (by kernel_rfl)) (by unfold Func.isWrapper; rw [if_neg (of_decide_eq_false (by kernel_rfl))]; exact ⟨rfl, rfl⟩)
    (fun os started H enc _ F0 => by rw [OpenClaim.pre_eq_preRow]; exact streamFix_lifted os started H enc F0)
theorem streamFix_card : Rows.StreamFixCardSaid :=
  Claim7.holds_tied_plain_at .later [] [.data, .pinned] true _ true
    streamFix_holds (fun _ h => by cases h) (by kernel_rfl) (fun _ h => by cases h) streamFix_row_tie rfl ⟨rfl, rfl⟩ (by kernel_rfl) rfl
    (fun f fn hf hfn => by
      obtain rfl : f = 9 := Option.some.inj ((show Tryd.prog.funcNamed Rows.streamFixRow.func = some 9 by kernel_rfl).symm.trans hf) |>.symm
      obtain rfl : fn = Tryd.f9 := (Option.some.inj (Tryd.func9.symm.trans hfn)).symm
      exact ⟨by kernel_rfl, fun j t ht => by
        rw [← Array.getElem?_toList, params9] at ht
        match j with
        | 0 => simp at ht; subst ht; exact (show Tryd.prog.wantsStandIn 24 = false by kernel_rfl)
        | 1 => simp at ht; subst ht; exact (show Tryd.prog.wantsStandIn 3 = false by kernel_rfl)
        | 2 => simp at ht; subst ht; exact (show Tryd.prog.wantsStandIn 31 = false by kernel_rfl)
        | j + 3 => simp at ht⟩)
    (by kernel_rfl)

end Go.Proofs.YtabddhmejpknbaaDoor
end
