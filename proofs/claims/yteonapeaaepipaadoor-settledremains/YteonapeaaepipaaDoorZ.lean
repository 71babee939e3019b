/- Part of the proof: S89, S92. -/
import Derived.Test.YteonapeaaepipaaDoorI
set_option linter.unnecessarySimpa false
set_option linter.unusedVariables false
set_option linter.unusedSimpArgs false
section
namespace Go.Proofs.YteonapeaaepipaaDoor
open Go Go.Proofs.YteonapeaaepipaaDoor.AL
attribute [local simp] dT_agg dT_nt dT_noTup dT_cells dT_one bs_toList bs_size strV dW_cells dW_agg dW_noTup dSm_cells dSm_agg dSm_noTup dOp_cells dOp_agg dOp_noTup dWs_cells dWs_one dWs_agg dWs_noTup dWs_nt
attribute [local simp] dW_nt dP_cells dP_agg dP_noTup dOld_cells dOld_agg dOld_noTup dOld_one dEv3_cells dEv3_agg dEv3_noTup
set_option maxRecDepth 20000
set_option maxHeartbeats 8000000
inductive C89 : FuncId → List D → Out → Prop
  | of {f : FuncId} {ds : List D} {out : Out} (h : C80 f ds out) : C89 f ds out
  | kept (a b : List Wd) (d k : Int) (ha : eSm ⟨a, 0⟩ = 0) (hb : eSm ⟨b, 0⟩ = 0) (hd : chR d k = true) (h : Upto ((k + 1) * d) a b) (hk : k ≤ 8) : C89 26 [dWs a, dWs b, dI d, dI k] (.ret (dB true))
theorem h89 : ∀ f ds out, C89 f ds out → PCall Tryd.prog f ds out := by
  intro f ds out h
  cases h with
  | of h => exact h80 _ _ _ h
  | kept a b d k ha hb hd h hk => exact kept23 a b d k ha hb hd h hk
theorem C89.a {f : FuncId} {ds : List D} {out : Out} (h : C78a f ds out) : C89 f ds out := .of (.a h)
theorem settledRemains (l : List Sm) (hd : List Bool) (p t d k due : Int) (m : List Ev3) (hm : ∀ e ∈ m, (0 ≤ e.s ∧ e.s ≤ 65535) ∧ (0 ≤ e.a ∧ e.a ≤ 65535)) :
    PCall Tryd.prog 7 [.sl 2 (l.map dSm), .sl 1 (hd.map dB), dP p, dI t, dI d, dI k, dI due, .sl 6 (m.map dEv3)] (.ret (dB true)) := by
  refine pcall_of_vc h89 c7 (by simp [a7]) fun hr => ?_
  simp [a7]
  refine vc_path [.ret (dB true)] ?_
  simp
  refine ⟨.of .sane, ?_⟩
  have h1 := C78a.few l hd
  cases hf : few23B l hd
  · rw [hf] at h1
    refine vc_path [.ret (dB false)] ?_
    simp
    exact .a h1
  rw [hf] at h1
  by_cases q1 : 6 < m.length
  · refine vc_path [.ret (dB true)] ?_
    simp [show 6 < (m.length : Int) by omega]
    exact .a h1
  by_cases q2 : 8 < k
  · refine vc_path [.ret (dB true)] ?_
    simp [show ¬ 6 < (m.length : Int) by omega, q2]
    exact .a h1
  refine vc_path [.ret (dB true)] ?_
  simp [show ¬ 6 < (m.length : Int) by omega, q2]
  refine ⟨.a h1, ?_⟩
  have h2 := C78a.st l hd p t d k due
  by_cases q3 : ¬ stE l hd p t d k due = 0
  · have e2 : stV l hd p t d k due = 0 := by unfold stV; rw [if_neg q3]
    have e3 : stY l hd p t d k due = [] := by unfold stY; rw [if_neg q3]
    rw [e2, e3] at h2
    generalize stE l hd p t d k due = E at *
    refine vc_path [.ret (.tup [dI 0, .sl 1 [], dI E])] ?_
    simp [q3]
    refine ⟨.a h2, ?_⟩
    refine vc_path [] ?_
    simp
  have q3 : stE l hd p t d k due = 0 := by omega
  rw [q3] at h2
  by_cases q4 : ¬ stV l hd p t d k due = 2
  · generalize stV l hd p t d k due = V at *
    generalize stY l hd p t d k due = Y at *
    refine vc_path [.ret (.tup [dI V, .sl 1 (Y.map dI), dI 0])] ?_
    simp [q4]
    exact .a h2
  have q4 : stV l hd p t d k due = 2 := by omega
  rw [q4] at h2
  obtain ⟨r1, r2, r3, r4, r5, r6, r7⟩ := Rm.init ⟨q3, q4⟩
  obtain ⟨_, _, _, r8, r9, _⟩ := settled_iff.1 ⟨q3, q4⟩
  generalize stY l hd p t d k due = Y at *
  refine vc_path [.ret (.tup [dI 2, .sl 1 (Y.map dI), dI 0])] ?_
  simp
  refine ⟨.a h2, ?_⟩
  have hl0 : ¬ l = [] := by rintro rfl; simp at r3
  refine vc_path [] ?_
  simp [show (hd.length : Int) = l.length by omega, hl0]
  refine ⟨⟨by omega, by omega⟩, ?_⟩
  have hle : ∀ j, (h : j < l.length) → eSm l[j] = 0 := fun j h => r1.ok j h
  refine vc_loopK [0, 1, 4, 5, 6, 7, 10, 20] (Nat × List Sm × Int) (fun x => [(21, true, .d (dI x.2.2)), (22, true, .d (dI x.1))]) (fun x => [(1, .box true (wr (x.2.1.map dSm)))]) (fun x => x.1 ≤ m.length ∧ Rm l x.2.1 hd p d k x.2.2 ∧ t ≤ x.2.2 ∧ x.2.2 < 1099511627776) (fun x => m.length - x.1) (0, l, t) ⟨by simp, r1, by simp, r7.2⟩ ⟨[], [], ?_⟩ (fun x hx => ?_)
  · simp
    exact onesSm l
  obtain ⟨i, now, at_⟩ := x
  obtain ⟨i1, i2, i3, i4⟩ := hx
  simp only at i1 i2 i3 i4
  rcases Nat.lt_or_ge i m.length with hlt | hge
  · by_cases q5 : 5 < m[i].o.w.length
    · simp [hlt, show 5 < (m[i].o.w.length : Int) by omega]
    have hme := hm m[i] (List.getElem_mem hlt)
    have hwa : IntKind.i64.wrap m[i].a = m[i].a := wrap64 (by omega)
    have hws : IntKind.i64.wrap m[i].s = m[i].s := wrap64 (by omega)
    have hwsum : IntKind.i64.wrap (at_ + m[i].a) = at_ + m[i].a := wrap64 (by omega)
    simp [hlt, show ¬ 5 < (m[i].o.w.length : Int) by omega, hl0, hwa, hws, hwsum]
    obtain ⟨ν, hν, hνl⟩ : ∃ ν : Nat, m[i].s.tmod l.length = (ν : Int) ∧ ν < l.length := by
      have h1 := Int.tmod_nonneg (l.length : Int) hme.1.1
      have h2 := Int.tmod_lt_of_pos m[i].s (show (0 : Int) < l.length by omega)
      exact ⟨(m[i].s.tmod l.length).toNat, by omega, by omega⟩
    obtain ⟨at2, hat⟩ : ∃ at2 : Int, at2 = if 1099511627775 < at_ + m[i].a then 1099511627775 else at_ + m[i].a := ⟨_, rfl⟩
    have hat2 : at_ ≤ at2 ∧ at2 < 1099511627776 := by rw [hat]; split <;> omega
    rw [hν, ← hat]
    have j2 := i2.later r6 (by omega) hat2
    have hνn : ν < now.length := by rw [i2.len]; exact hνl
    have hfl := flatSm now
    have hat3 := (wrSm_at hνn).1
    have c1 := C78a.al now[ν] p at2 m[i].o
    have herr : errP now[ν] p at2 = 0 := errP_of (i2.ok ν hνn) r6 (by omega)
    rw [herr] at c1
    cases hb : alW now[ν] p at2 m[i].o
    case' false =>
      rw [hb] at c1
      refine vc_pathD [.ret (.tup [dB false, dI 0])] ?_
      simp [hνl, hlt, hfl, hat3]
      refine ⟨by omega, .a c1, rfl, ?_⟩
      have j3 := j2
      obtain ⟨now', hnow⟩ : ∃ n, n = now := ⟨_, rfl⟩
      subst hnow
      revert j3
    case' true =>
      rw [hb] at c1
      obtain ⟨_, hdo, _⟩ := alW_ok hb
      have c2 := C78a.do_ now[ν] m[i].o
      rw [hdo] at c2
      have j3 := j2.step hle hνn hb
      generalize doX now[ν] m[i].o = s' at *
      have hset := wrSm_set s' hνn
      refine vc_pathD [.ret (.tup [dB true, dI 0])] ?_
      simp [hνl, hlt, hfl, hat3]
      refine ⟨by omega, .a c1, rfl, ?_⟩
      refine vc_pathD [.ret (.tup [dSm s', dI 0])] ?_
      simp [hνl, hlt, hfl, hat3]
      refine ⟨by omega, .a c2, rfl, ?_⟩
      rw [show ((wr (now.map dSm)).set (ν * 2) (.d (.sl 5 (s'.w.map dW)))).set (ν * 2 + 1) (.d (.lit (.int .i64 s'.x))) = wr ((now.set ν s').map dSm) from hset]
      generalize now.set ν s' = now' at *
      refine ⟨by omega, ?_⟩
      revert j3
    all_goals
      intro j3
      have hfl' : (D.flat (now'.map dSm)).length = l.length * 2 := by rw [flatSm, j3.len]
      have hels : elsD 2 l.length (D.flat (now'.map dSm)) = now'.map dSm := by rw [← j3.len]; exact elsSm now'
      refine vc_loopK [0, 1, 4, 5, 6, 7, 10, 20, 21, 22] Nat (fun j => [(28, true, .d (dI j))]) (fun j => []) (fun j => j ≤ l.length) (fun j => l.length - j) 0 (by simp) ⟨[], [], ?_⟩ (fun j hj => ?_)
      · simp
        exact onesSm now'
      rcases Nat.lt_or_ge j l.length with glt | gge
      · have glt2 : j < hd.length := by omega
        have glt3 : j < now'.length := by rw [j3.len]; exact glt
        have hat4 : ∀ h, (wr (now'.map dSm))[j * 2]'h = .d (dWs now'[j].w) := fun h => (List.getElem?_eq_some_iff.1 (wrSm_at glt3).2.1).2
        simp [glt]
        cases hh : hd[j]
        · refine vc_pathD [] ?_
          simp [glt, glt2, hh]
          refine ⟨rfl, j + 1, by omega, by omega, [], [], ?_⟩
          rw [wrap64 (by omega)]
          simp
          exact onesSm now'
        · obtain ⟨u1, u2⟩ := j3.st j glt3 glt glt2 hh
          have c3 := C89.kept l[j].w now'[j].w d k (eSm_w (hle j glt)) (eSm_w (j3.ok j glt3)) r5 u1 (by omega)
          refine vc_pathD [.ret (dB true)] ?_
          simp [glt, glt2, hh, hfl', hat4]
          refine ⟨by omega, c3, rfl, j + 1, by omega, by omega, [], [], ?_⟩
          rw [wrap64 (by omega)]
          simp
          exact onesSm now'
      · have hjl : j = l.length := by omega
        subst hjl
        simp
        have c4 := C78a.stA now' hd p at2 d k due
        obtain ⟨v1, v2⟩ := j3.still hle r4 r2 r5 r6 (by omega) r8 r9
        rw [v1, v2] at c4
        refine vc_path [.ret (.tup [dI 2, .any, dI 0])] ?_
        simp [hfl', hels]
        refine ⟨.a c4, .tup (fun c hc => ?_), ?_⟩
        · simp at hc
          rcases hc with rfl | rfl | rfl
          · exact .lit _
          · exact .any
          · exact .lit _
        refine vc_path [] ?_
        simp
        refine ⟨i + 1, now', at2, ⟨by omega, j3, by omega, by omega⟩, by omega, [], [], ?_⟩
        rw [wrap64 (by omega)]
        simp
        exact onesSm now'
  · simp [show ¬ i < m.length by omega]
theorem settledRemains' (l : List Sm) (hd : List Bool) (p t d k due : Int) (m : List Ev3B) : PCall Tryd.prog 7 [.sl 2 (l.map dSm), .sl 1 (hd.map dB), dP p, dI t, dI d, dI k, dI due, .sl 6 (m.map fun z => dEv3 z.1)] (.ret (dB true)) := by
  have h := settledRemains l hd p t d k due (m.map fun z => z.1) (fun e he => by
    obtain ⟨z, _, rfl⟩ := List.mem_map.1 he
    exact z.2)
  rw [List.map_map] at h
  exact h
end Go.Proofs.YteonapeaaepipaaDoor
end

section
namespace Go.Proofs.YteonapeaaepipaaDoor
open Go Go.Proofs.YteonapeaaepipaaDoor.AL Go.ChangeShapes Go.WideShapes Go.ChangeAt Go.RowKit Go.Lib Go.Shelf
theorem params7 : Tryd.f7.params.toList = [35, 36, 26, 3, 3, 3, 3, 49] := by kernel_rfl
theorem results7 : Tryd.f7.resultTypes.toList = [4] := by kernel_rfl
set_option maxRecDepth 1000000 in
theorem settledRemains_met (os : Os) (args : Array Value) : laidMet Tryd.prog Rows.settledRemainsRow.laid ((laidWorld os).forCall (fun _ _ => 0) ⟨#[], args, []⟩).memory :=
  (LaidIn.of_run [1, 0] 8 (by kernel_rfl) (by kernel_rfl) (by kernel_rfl) (by kernel_rfl)).met
theorem settledRemains_witness (os : Os) {H : Type} (enc : TypeId × Value → H) :
    (OpenSpec.ofChange Rows.settledRemainsSpec).preRow enc Tryd.prog Tryd.f7 Rows.settledRemainsRow.domain false Rows.settledRemainsRow.laid ((laidWorld os).forCall (fun _ _ => 0) ⟨#[], #[.slice none 0 0, .slice none 0 0, .agg #[.int .i64 0], .int .i64 0, .int .i64 0, .int .i64 0, .int .i64 0, .slice none 0 0], []⟩).memory #[.slice none 0 0, .slice none 0 0, .agg #[.int .i64 0], .int .i64 0, .int .i64 0, .int .i64 0, .int .i64 0, .slice none 0 0] := by
  have hw : (DataW.whole enc Tryd.prog ((laidWorld os).forCall (fun _ _ => 0) ⟨#[], #[.slice none 0 0, .slice none 0 0, .agg #[.int .i64 0], .int .i64 0, .int .i64 0, .int .i64 0, .int .i64 0, .slice none 0 0], []⟩).memory Tryd.f7.params.toList (OpenSpec.ofChange Rows.settledRemainsSpec).vars false (#[.slice none 0 0, .slice none 0 0, .agg #[.int .i64 0], .int .i64 0, .int .i64 0, .int .i64 0, .int .i64 0, .slice none 0 0] : Array Value).toList 8).map (fun x => (x.1, x.2.1)) =
      some ([.nil, .nil, .agg [.lit (.int .i64 0)], .lit (.int .i64 0), .lit (.int .i64 0), .lit (.int .i64 0), .lit (.int .i64 0), .nil], []) := by kernel_rfl
  obtain ⟨⟨x1, x2, x3⟩, hx, hx1⟩ := Option.map_eq_some_iff.1 hw
  simp only [Prod.mk.injEq] at hx1
  obtain ⟨rfl, rfl⟩ := hx1
  exact OpenSpec.preRow_of_cond 8 hx (by kernel_rfl) (fun k hk => by cases hk) (by kernel_rfl) (settledRemains_met os _)
set_option maxRecDepth 100000 in
theorem settledRemains_lifted (os : Os) (started : os.Started) (H : Type) (enc : TypeId × Value → H) (F : Stop.Interp) :
    ReturnsInHanded {} Tryd.checked os 7 .any ((OpenSpec.ofChange Rows.settledRemainsSpec).preRow enc Tryd.prog Tryd.f7 Rows.settledRemainsRow.domain false Rows.settledRemainsRow.laid) (((OpenSpec.ofChange Rows.settledRemainsSpec).at F).post enc Tryd.prog Tryd.f7 false true false false) := by
  refine returnsInHanded_of_row (C := Tryd.checked) (s := (OpenSpec.ofChange Rows.settledRemainsSpec)) (F := F) own started (by kernel_rfl) Tryd.func7
    (witness_row_atRef (enc := enc) (C := Tryd.checked) false (laidWorld os) #[.slice none 0 0, .slice none 0 0, .agg #[.int .i64 0], .int .i64 0, .int .i64 0, .int .i64 0, .int .i64 0, .slice none 0 0] rfl (by kernel_rfl) (by kernel_rfl) (by kernel_rfl) (settledRemains_witness os enc)) ?_
  intro W base args ds gs before hval hW _ _ _ hL _ _
  have hU : Lib.Utf8Tabs 0 1 W :=
    utf8Tabs_of_reads (ρ := Tryd.lays197_ren) { Tryd.lays197 with } ⟨by kernel_rfl, by kernel_rfl, by kernel_rfl, by kernel_rfl, by kernel_rfl, by kernel_rfl, by kernel_rfl⟩ (Lib.laidMet.reads hL (.tail _ (.head _))) (Lib.laidMet.reads hL (.head _))
  refine law_contract laidOut params7 results7 (by kernel_rfl) rfl (fun ds h => by match ds, h with | [_, _, _, _, _, _, _, _], _ => rfl) (by kernel_rfl) (.cons sSms (.cons sBs (.cons sPm (.cons sI (.cons sI (.cons sI (.cons sI (.cons sEv3s .nil)))))))) (fun ds hK => ?_) W base args ds gs before (glOk_of hU) hval hW
  cases hK
  rename_i h1 hK
  cases hK
  rename_i h2 hK
  cases hK
  rename_i h3 hK
  cases hK
  rename_i h4 hK
  cases hK
  rename_i h5 hK
  cases hK
  rename_i h6 hK
  cases hK
  rename_i h7 hK
  cases hK
  rename_i h8 hK
  cases hK
  obtain ⟨n1, rfl⟩ := h1
  obtain ⟨n2, rfl⟩ := h2
  obtain ⟨n3, rfl⟩ := h3
  obtain ⟨n4, hb4, rfl⟩ := h4
  obtain ⟨n5, hb5, rfl⟩ := h5
  obtain ⟨n6, hb6, rfl⟩ := h6
  obtain ⟨n7, hb7, rfl⟩ := h7
  obtain ⟨n8, rfl⟩ := h8
  exact settledRemains' n1 n2 n3 n4 n5 n6 n7 n8
theorem settledRemains_holds : Rows.SettledRemainsSaid :=
  OpenClaim.holds_of_cond 7 Tryd.f7 rfl rfl rfl rfl rfl rfl rfl ⟨rfl, rfl, rfl, rfl, rfl⟩ rfl rfl rfl rfl rfl (by kernel_rfl) Tryd.func7 (by kernel_rfl)
    (of_decide_eq_true (by kernel_rfl)) (by unfold Func.isWrapper; rw [if_neg (of_decide_eq_false (by kernel_rfl))]; exact ⟨rfl, rfl⟩)
    (fun os started H enc _ F0 => by rw [OpenClaim.pre_eq_preRow]; exact settledRemains_lifted os started H enc F0)
theorem settledRemains_card : Rows.SettledRemainsCardSaid :=
  Claim7.holds_tied_plain_at .later [] [.data, .pinned] true _ true
    settledRemains_holds (fun _ h => by cases h) (by kernel_rfl) (fun _ h => by cases h) settledRemains_row_tie rfl ⟨rfl, rfl⟩ (by kernel_rfl) rfl
    (fun f fn hf hfn => by
      obtain rfl : f = 7 := Option.some.inj ((show Tryd.prog.funcNamed Rows.settledRemainsRow.func = some 7 by kernel_rfl).symm.trans hf) |>.symm
      obtain rfl : fn = Tryd.f7 := (Option.some.inj (Tryd.func7.symm.trans hfn)).symm
      exact ⟨by kernel_rfl, fun j t ht => by
        rw [← Array.getElem?_toList, params7] at ht
        match j with
        | 0 => simp at ht; subst ht; exact (show Tryd.prog.wantsStandIn 35 = false by kernel_rfl)
        | 1 => simp at ht; subst ht; exact (show Tryd.prog.wantsStandIn 36 = false by kernel_rfl)
        | 2 => simp at ht; subst ht; exact (show Tryd.prog.wantsStandIn 26 = false by kernel_rfl)
        | 3 => simp at ht; subst ht; exact (show Tryd.prog.wantsStandIn 3 = false by kernel_rfl)
        | 4 => simp at ht; subst ht; exact (show Tryd.prog.wantsStandIn 3 = false by kernel_rfl)
        | 5 => simp at ht; subst ht; exact (show Tryd.prog.wantsStandIn 3 = false by kernel_rfl)
        | 6 => simp at ht; subst ht; exact (show Tryd.prog.wantsStandIn 3 = false by kernel_rfl)
        | 7 => simp at ht; subst ht; exact (show Tryd.prog.wantsStandIn 49 = false by kernel_rfl)
        | j + 8 => simp at ht⟩)
    (by kernel_rfl)

end Go.Proofs.YteonapeaaepipaaDoor
end
