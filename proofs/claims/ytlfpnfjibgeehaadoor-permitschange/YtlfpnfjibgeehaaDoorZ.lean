/- Part of the proof: S54, S66. -/
import Derived.Test.YtlfpnfjibgeehaaDoorH
set_option linter.unnecessarySimpa false
set_option linter.unusedVariables false
set_option linter.unusedSimpArgs false
section
namespace Go.Proofs.YtlfpnfjibgeehaaDoor
open Go Go.Proofs.YtlfpnfjibgeehaaDoor.AL
attribute [local simp] dT_agg dT_nt dT_noTup dT_cells dT_one bs_toList bs_size strV dW_cells dW_agg dW_noTup dSm_cells dSm_agg dSm_noTup dOp_cells dOp_agg dOp_noTup dWs_cells dWs_one dWs_agg dWs_noTup dWs_nt
attribute [local simp] dW_nt dP_cells dP_agg dP_noTup dOld_cells dOld_agg dOld_noTup dOld_one
set_option maxRecDepth 8000
set_option maxHeartbeats 4000000
theorem changes (s : Sm) (p t : Int) : PCall Tryd.prog 6 [dSm s, dP p, dI t] (.ret (dB true)) := by
  refine pcall_of_vc hLq c6 (by simp [a6]) fun hr => ?_
  simp [a6]
  refine vc_path [.ret (dB true)] ?_
  simp
  refine ⟨.sane, ?_⟩
  cases hf : fewP s ⟨0, 0, 0, []⟩
  · refine vc_path [.ret (dB false)] ?_
    simp
    exact .lp (.few' hf (two (LeD.refl _) (nilOp _ _ _)))
  refine vc_path [.ret (dB true)] ?_
  simp
  refine ⟨.lp (.few' hf (two (LeD.refl _) (nilOp _ _ _))), ?_⟩
  have hs := CLq.lp (.of (.st s p t))
  by_cases q2 : errP s p t ≠ 0
  · have e1 : stN s p t = 0 := by simp [stN, q2]
    rw [e1] at hs
    generalize errP s p t = e at q2 hs
    refine vc_path [.ret (.tup [dI 0, dI e])] ?_
    simp [q2]
    exact hs
  have q2 : errP s p t = 0 := by omega
  obtain ⟨s1, s2, s3, s4⟩ := stN_ok q2
  have hp := (errP_ok q2).2.1
  obtain ⟨flen, f5, f6, f7⟩ := eSm_ok (errP_ok q2).1
  rw [q2] at hs
  have hch : ∀ i : Nat, (h : i < s.w.length) → chE s p t i = 0 ∧ ((i : Int) < stN s p t → chB s p t i = false ∧ chO s p t i = ⟨0, 0, 0, []⟩) ∧ (stN s p t ≤ (i : Int) → chB s p t i = true ∧ chO s p t i = ⟨2, i, 1, [chW s.w[i]]⟩) := fun i h => by
    refine ⟨by simp [chE, q2, h], fun hi => ⟨by simp [chB, q2]; omega, by simp [chO, q2, h, hi]⟩, fun hi => ⟨by simp [chB, q2, h, hi], ?_⟩⟩
    have hi' : ¬ (i : Int) < stN s p t := by omega
    simp [chO, q2, h, hi']
  have hlaw : ∀ i : Nat, (h : i < s.w.length) → stN s p t ≤ (i : Int) → doE s ⟨2, i, 1, [chW s.w[i]]⟩ = 0 ∧ doX s ⟨2, i, 1, [chW s.w[i]]⟩ = ⟨s.w.set i (chW s.w[i]), s.x⟩ ∧ alW s p t ⟨2, i, 1, [chW s.w[i]]⟩ = true := fun i h hi => by
    have := change_law q2 h hi
    rw [List.set_eq_take_append_cons_drop, if_pos h]
    exact this
  have hchc : ∀ i : Nat, CLq 20 [dSm s, dP p, dI t, dI i] (.ret (.tup [dOp (chO s p t i), dB (chB s p t i), dI (chE s p t i)])) := fun i => .lp (.of (.ch s p t i))
  generalize hn : stN s p t = n at *
  refine vc_path [.ret (.tup [dI n, dI 0])] ?_
  simp
  refine ⟨hs, ?_⟩
  refine vc_loopK [2, 3, 4, 7] Nat (fun i => [(9, true, .d (dI i))]) (fun i => []) (fun i => i ≤ s.w.length) (fun i => s.w.length - i) 0 (by simp) ⟨[], [], ?_⟩ (fun i hi => ?_)
  · simp
  simp
  intro hlt
  obtain ⟨c1, c2, c3⟩ := hch i hlt
  have hc := hchc i
  by_cases g : (i : Int) < n
  · obtain ⟨c4, c5⟩ := c2 g
    have g' : ¬ n ≤ (i : Int) := by omega
    rw [c1, c4, c5] at hc
    refine vc_path [.ret (.tup [dOp ⟨0, 0, 0, []⟩, dB false, dI 0])] ?_
    simp
    refine ⟨hc, ?_⟩
    refine vc_path [] ?_
    simp [g']
    refine ⟨i + 1, by omega, by omega, [], [], ?_⟩
    rw [wrap64 (by omega)]
    simp
  · have g' : n ≤ (i : Int) := by omega
    obtain ⟨c4, c5⟩ := c3 g'
    obtain ⟨d1, d2, d3⟩ := hlaw i hlt g'
    rw [c1, c4, c5] at hc
    have ha := CLq.lp (.of (.al s p t ⟨2, i, 1, [chW s.w[i]]⟩))
    rw [d3, q2] at ha
    have hd := CLq.lp (.of (.do_ s ⟨2, i, 1, [chW s.w[i]]⟩))
    rw [d1, d2] at hd
    generalize hy : s.w.set i (chW s.w[i]) = yw at hd
    refine vc_path [.ret (.tup [dOp ⟨2, i, 1, [chW s.w[i]]⟩, dB true, dI 0])] ?_
    simp
    refine ⟨hc, ?_⟩
    refine vc_path [] ?_
    simp [g']
    refine vc_path [.ret (.tup [dB true, dI 0])] ?_
    simp
    refine ⟨ha, ?_⟩
    refine vc_path [.ret (.tup [dSm ⟨yw, s.x⟩, dI 0])] ?_
    simp
    refine ⟨hd, ?_⟩
    have hyl : yw.length = s.w.length := by rw [← hy, List.length_set]
    have hyi : i < yw.length := by omega
    have hne : ¬ yw[i].t = s.w[i].t := by
      subst hy
      simp only [List.getElem_set_self, chW]
      split
      · rename_i e; rw [e]; decide
      · rename_i e; exact fun e2 => e e2.symm
    refine vc_pathD [] ?_
    simp (config := { maxSteps := 1000000 }) [hyl, hlt, dT_eq, dW, hne]
    refine ⟨rfl, ?_⟩
    refine vc_loopK [2, 3, 4, 7, 9, 15] Nat (fun k => [(17, true, .d (dI k))]) (fun k => []) (fun k => k ≤ s.w.length) (fun k => s.w.length - k) 0 (by simp) ⟨[], [], ?_⟩ (fun k hk => ?_)
    · simp
    simp
    refine ⟨fun hlt2 => ?_, fun hge2 => ?_⟩
    · have hyk : k < yw.length := by omega
      have hsl : (s.w.take (k + 1)).drop k = [s.w[k]] := by
        rw [List.take_add_one, List.drop_append, List.length_take, Nat.min_eq_left (by omega), Nat.sub_self]
        simp [hlt2]
      have hwk : IntKind.i64.wrap ((k : Int) + 1) = ((k + 1 : Nat) : Int) := wrap64 (by omega)
      have hsw := CLq.lp (.of (.sw [s.w[k]] ((s.w.take (k + 1)).drop k)))
      rw [decide_eq_true hsl.symm] at hsw
      simp [dWs] at hsw
      by_cases e : k = i
      · subst e
        have y1 : yw[k].f = s.w[k].f := by subst hy; simp [chW]
        have y2 : yw[k].u = s.w[k].u := by subst hy; simp [chW]
        have y3 : yw[k].s = s.w[k].s := by subst hy; simp [chW]
        simp [hlt2, hyl, y1, y2, y3, hwk]
        refine ⟨rfl, ?_⟩
        refine vc_pathD [.ret (dB true)] ?_
        simp [hlt2, hyl, hwk]
        refine ⟨⟨by omega, by omega⟩, hsw, rfl, k + 1, by omega, by omega, [], [], ?_⟩
        simp
      · have e' : ¬ (k : Int) = i := by omega
        have y1 : yw[k] = s.w[k] := by subst hy; rw [List.getElem_set_ne (fun h => e h.symm)]
        simp [hlt2, hyl, y1, hwk, e']
        refine vc_pathD [.ret (dB true)] ?_
        simp [hlt2, hyl, hwk]
        refine ⟨⟨by omega, by omega⟩, hsw, rfl, k + 1, by omega, by omega, [], [], ?_⟩
        simp
    · refine ⟨i + 1, by omega, by omega, [], [], ?_⟩
      rw [wrap64 (by omega)]
      simp
end Go.Proofs.YtlfpnfjibgeehaaDoor
end

section
namespace Go.Proofs.YtlfpnfjibgeehaaDoor
open Go Go.Proofs.YtlfpnfjibgeehaaDoor.AL Go.ChangeShapes Go.WideShapes Go.ChangeAt Go.RowKit Go.Lib Go.Shelf
theorem params6 : Tryd.f6.params.toList = [24, 26, 3] := by kernel_rfl
theorem results6 : Tryd.f6.resultTypes.toList = [4] := by kernel_rfl
set_option maxRecDepth 1000000 in
theorem permitsChange_met (os : Os) (args : Array Value) : laidMet Tryd.prog Rows.permitsChangeRow.laid ((laidWorld os).forCall (fun _ _ => 0) ⟨#[], args, []⟩).memory :=
  (LaidIn.of_run [1, 0] 8 (by kernel_rfl) (by kernel_rfl) (by kernel_rfl) (by kernel_rfl)).met
theorem permitsChange_witness (os : Os) {H : Type} (enc : TypeId × Value → H) :
    (OpenSpec.ofChange Rows.permitsChangeSpec).preRow enc Tryd.prog Tryd.f6 Rows.permitsChangeRow.domain false Rows.permitsChangeRow.laid ((laidWorld os).forCall (fun _ _ => 0) ⟨#[], #[.agg #[.slice none 0 0, .int .i64 0], .agg #[.int .i64 0], .int .i64 0], []⟩).memory #[.agg #[.slice none 0 0, .int .i64 0], .agg #[.int .i64 0], .int .i64 0] := by
  have hw : (DataW.whole enc Tryd.prog ((laidWorld os).forCall (fun _ _ => 0) ⟨#[], #[.agg #[.slice none 0 0, .int .i64 0], .agg #[.int .i64 0], .int .i64 0], []⟩).memory Tryd.f6.params.toList (OpenSpec.ofChange Rows.permitsChangeSpec).vars false (#[.agg #[.slice none 0 0, .int .i64 0], .agg #[.int .i64 0], .int .i64 0] : Array Value).toList 8).map (fun x => (x.1, x.2.1)) =
      some ([.agg [.nil, .lit (.int .i64 0)], .agg [.lit (.int .i64 0)], .lit (.int .i64 0)], []) := by kernel_rfl
  obtain ⟨⟨x1, x2, x3⟩, hx, hx1⟩ := Option.map_eq_some_iff.1 hw
  simp only [Prod.mk.injEq] at hx1
  obtain ⟨rfl, rfl⟩ := hx1
  exact OpenSpec.preRow_of_cond 8 hx (by kernel_rfl) (fun k hk => by cases hk) (by kernel_rfl) (permitsChange_met os _)
set_option maxRecDepth 100000 in
theorem permitsChange_lifted (os : Os) (started : os.Started) (H : Type) (enc : TypeId × Value → H) (F : Stop.Interp) :
    ReturnsInHanded {} Tryd.checked os 6 .any ((OpenSpec.ofChange Rows.permitsChangeSpec).preRow enc Tryd.prog Tryd.f6 Rows.permitsChangeRow.domain false Rows.permitsChangeRow.laid) (((OpenSpec.ofChange Rows.permitsChangeSpec).at F).post enc Tryd.prog Tryd.f6 false true false false) := by
  refine returnsInHanded_of_row (C := Tryd.checked) (s := (OpenSpec.ofChange Rows.permitsChangeSpec)) (F := F) own started (by kernel_rfl) Tryd.func6
    (witness_row_atRef (enc := enc) (C := Tryd.checked) false (laidWorld os) #[.agg #[.slice none 0 0, .int .i64 0], .agg #[.int .i64 0], .int .i64 0] rfl (by kernel_rfl) (by kernel_rfl) (by kernel_rfl) (permitsChange_witness os enc)) ?_
  intro W base args ds gs before hval hW _ _ _ hL _ _
  have hU : Lib.Utf8Tabs 0 1 W :=
    utf8Tabs_of_reads (ρ := Tryd.lays197_ren) { Tryd.lays197 with } ⟨by kernel_rfl, by kernel_rfl, by kernel_rfl, by kernel_rfl, by kernel_rfl, by kernel_rfl, by kernel_rfl⟩ (Lib.laidMet.reads hL (.tail _ (.head _))) (Lib.laidMet.reads hL (.head _))
  refine law_contract laidOut params6 results6 (by kernel_rfl) rfl (fun ds h => by match ds, h with | [_, _, _], _ => rfl) (by kernel_rfl) (.cons sSm (.cons sPm (.cons sI .nil))) (fun ds hK => ?_) W base args ds gs before (glOk_of hU) hval hW
  cases hK
  rename_i h1 hK
  cases hK
  rename_i h2 hK
  cases hK
  rename_i h3 hK
  cases hK
  obtain ⟨n1, rfl⟩ := h1
  obtain ⟨n2, rfl⟩ := h2
  obtain ⟨n3, hb3, rfl⟩ := h3
  exact changes n1 n2 n3
theorem permitsChange_holds : Rows.PermitsChangeSaid :=
  OpenClaim.holds_of_cond 6 Tryd.f6 rfl rfl rfl rfl rfl rfl rfl ⟨rfl, rfl, rfl, rfl, rfl⟩ rfl rfl rfl rfl rfl (by kernel_rfl) Tryd.func6 (by kernel_rfl)
    (of_decide_eq_true (by kernel_rfl)) (by unfold Func.isWrapper; rw [if_neg (of_decide_eq_false (by kernel_rfl))]; exact ⟨rfl, rfl⟩)
    (fun os started H enc _ F0 => by rw [OpenClaim.pre_eq_preRow]; exact permitsChange_lifted os started H enc F0)
theorem permitsChange_card : Rows.PermitsChangeCardSaid :=
  Claim7.holds_tied_plain_at .later [] [.data, .pinned] true _ true
    permitsChange_holds (fun _ h => by cases h) (by kernel_rfl) (fun _ h => by cases h) permitsChange_row_tie rfl ⟨rfl, rfl⟩ (by kernel_rfl) rfl
    (fun f fn hf hfn => by
      obtain rfl : f = 6 := Option.some.inj ((show Tryd.prog.funcNamed Rows.permitsChangeRow.func = some 6 by kernel_rfl).symm.trans hf) |>.symm
      obtain rfl : fn = Tryd.f6 := (Option.some.inj (Tryd.func6.symm.trans hfn)).symm
      exact ⟨by kernel_rfl, fun j t ht => by
        rw [← Array.getElem?_toList, params6] at ht
        match j with
        | 0 => simp at ht; subst ht; exact (show Tryd.prog.wantsStandIn 24 = false by kernel_rfl)
        | 1 => simp at ht; subst ht; exact (show Tryd.prog.wantsStandIn 26 = false by kernel_rfl)
        | 2 => simp at ht; subst ht; exact (show Tryd.prog.wantsStandIn 3 = false by kernel_rfl)
        | j + 3 => simp at ht⟩)
    (by kernel_rfl)

end Go.Proofs.YtlfpnfjibgeehaaDoor
end
