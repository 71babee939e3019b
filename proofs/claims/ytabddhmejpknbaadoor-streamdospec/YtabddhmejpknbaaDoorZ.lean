/- Part of the proof: S20, S34. -/
import Derived.Test.YtabddhmejpknbaaDoorG
set_option linter.unnecessarySimpa false
set_option linter.unusedVariables false
set_option linter.unusedSimpArgs false
section
namespace Go.Proofs.YtabddhmejpknbaaDoor
open Go Go.Proofs.YtabddhmejpknbaaDoor.AL
attribute [local simp] dT_agg dT_nt dT_noTup dT_cells dT_one bs_toList bs_size strV dW_cells dW_agg dW_noTup dSm_cells dSm_agg dSm_noTup dOp_cells dOp_agg dOp_noTup dWs_cells dWs_one dWs_agg dWs_noTup dWs_nt
set_option maxRecDepth 8000
inductive CLw : FuncId → List D → Out → Prop
  | lx {f : FuncId} {ds : List D} {out : Out} (h : CLx f ds out) : CLw f ds out
  | few (l : List Wd) : CLw 11 [dWs l] (.ret (dB (fewW l)))
  | rck (s : Sm) : CLw 13 [dSm s] (.ret (dI (eSm s)))
  | rdo (s : Sm) (o : Op) : CLw 16 [dSm s, dOp o] (.ret (.tup [dSm (doX s o), dI (doE s o)]))
theorem hLw : ∀ f ds out, CLw f ds out → PCall Tryd.prog f ds out := by
  intro f ds out h
  cases h with
  | lx h => exact hLx _ _ _ h
  | few l => exact few l
  | rck s => exact rcheck s
  | rdo s o => exact rDo s o
theorem spec (s : Sm) : PCall Tryd.prog 3 [dSm s] (.ret (dB true)) := by
  refine pcall_of_vc hLw c3 (by simp [a3]) fun hr => ?_
  simp [a3]
  refine vc_path [.ret (dB true)] ?_
  simp
  refine ⟨.lx (.of .sane), ?_⟩
  refine vc_path [.ret (dB (fewW s.w))] ?_
  simp
  refine ⟨.few s.w, fun q => ?_⟩
  refine vc_pathD [.ret (dI (eSm s)), .ret (dI (eSm s))] ?_
  simp
  exact ⟨.lx (.of (.ck s)), .rck s, rfl⟩
theorem few2 (s : Sm) (o : Op) : PCall Tryd.prog 14 [dSm s, dOp o] (.ret (dB (fewW s.w && fewW o.w))) := by
  refine pcall_of_vc hFw c14 (by simp [a14]) fun hr => ?_
  simp [a14]
  refine vc_path [.ret (dB (fewW s.w)), .ret (dB (fewW o.w))] ?_
  simp
  exact ⟨.few s.w, fun q => ⟨.few o.w, leD_of_eq (by simp [q])⟩, fun q => leD_of_eq (by simp [q])⟩
inductive CLd : FuncId → List D → Out → Prop
  | base {f : FuncId} {ds : List D} {out : Out} (h : CLw f ds out) : CLd f ds out
  | few2 (s : Sm) (o : Op) : CLd 14 [dSm s, dOp o] (.ret (dB (fewW s.w && fewW o.w)))
theorem hLd : ∀ f ds out, CLd f ds out → PCall Tryd.prog f ds out := by
  intro f ds out h
  cases h with
  | base h => exact hLw _ _ _ h
  | few2 s o => exact few2 s o
theorem doSpec (s : Sm) (o : Op) : PCall Tryd.prog 4 [dSm s, dOp o] (.ret (dB true)) := by
  refine pcall_of_vc hLd c4 (by simp [a4]) fun hr => ?_
  have h1 : CLd 15 [dSm s, dOp o] (.ret (.tup [dSm (doX s o), dI (doE s o)])) := .base (.lx (.of (.do_ s o)))
  have h2 : CLd 16 [dSm s, dOp o] (.ret (.tup [dSm (doX s o), dI (doE s o)])) := .base (.rdo s o)
  have h3 := CLd.few2 s o
  generalize doX s o = x at h1 h2
  generalize doE s o = e at h1 h2
  generalize (fewW s.w && fewW o.w) = b at h3
  simp [a4]
  refine vc_path [.ret (dB true)] ?_
  simp
  refine ⟨.base (.lx (.of .sane)), ?_⟩
  cases b
  · refine vc_path [.ret (dB false)] ?_
    simp
    exact h3
  refine vc_pathK 2 [.ret (dB true)] ?_
  simp
  rw [stop_cut 1]
  simp
  refine ⟨h3, ?_⟩
  rw [stop_cut 5]
  simp
  refine vc_path [.ret (.tup [dSm x, dI e])] ?_
  simp
  refine ⟨h1, ?_⟩
  refine vc_path [.ret (.tup [dSm x, dI e])] ?_
  simp
  refine ⟨h2, ?_⟩
  refine vc_path [.ret (dB true)] ?_
  simp
  exact .base (.lx (.same' rfl (two (LeD.refl _) (LeD.refl _))))
end Go.Proofs.YtabddhmejpknbaaDoor
end

section
namespace Go.Proofs.YtabddhmejpknbaaDoor
open Go Go.Proofs.YtabddhmejpknbaaDoor.AL Go.ChangeShapes Go.WideShapes Go.ChangeAt Go.RowKit Go.Lib Go.Shelf
theorem params4 : Tryd.f4.params.toList = [24, 31] := by kernel_rfl
theorem results4 : Tryd.f4.resultTypes.toList = [4] := by kernel_rfl
set_option maxRecDepth 1000000 in
theorem streamDoSpec_met (os : Os) (args : Array Value) : laidMet Tryd.prog Rows.streamDoSpecRow.laid ((laidWorld os).forCall (fun _ _ => 0) ⟨#[], args, []⟩).memory :=
  (LaidIn.of_run [1, 0] 8 (by kernel_rfl) (by kernel_rfl) (by kernel_rfl) (by kernel_rfl)).met
theorem streamDoSpec_witness (os : Os) {H : Type} (enc : TypeId × Value → H) :
    (OpenSpec.ofChange Rows.streamDoSpecSpec).preRow enc Tryd.prog Tryd.f4 Rows.streamDoSpecRow.domain false Rows.streamDoSpecRow.laid ((laidWorld os).forCall (fun _ _ => 0) ⟨#[], #[.agg #[.slice none 0 0, .int .i64 0], .agg #[.int .i64 0, .int .i64 0, .int .i64 0, .slice none 0 0]], []⟩).memory #[.agg #[.slice none 0 0, .int .i64 0], .agg #[.int .i64 0, .int .i64 0, .int .i64 0, .slice none 0 0]] := by
  have hw : (DataW.whole enc Tryd.prog ((laidWorld os).forCall (fun _ _ => 0) ⟨#[], #[.agg #[.slice none 0 0, .int .i64 0], .agg #[.int .i64 0, .int .i64 0, .int .i64 0, .slice none 0 0]], []⟩).memory Tryd.f4.params.toList (OpenSpec.ofChange Rows.streamDoSpecSpec).vars false (#[.agg #[.slice none 0 0, .int .i64 0], .agg #[.int .i64 0, .int .i64 0, .int .i64 0, .slice none 0 0]] : Array Value).toList 8).map (fun x => (x.1, x.2.1)) =
      some ([.agg [.nil, .lit (.int .i64 0)], .agg [.lit (.int .i64 0), .lit (.int .i64 0), .lit (.int .i64 0), .nil]], []) := by kernel_rfl
  obtain ⟨⟨x1, x2, x3⟩, hx, hx1⟩ := Option.map_eq_some_iff.1 hw
  simp only [Prod.mk.injEq] at hx1
  obtain ⟨rfl, rfl⟩ := hx1
  exact OpenSpec.preRow_of_cond 8 hx (by kernel_rfl) (fun k hk => by cases hk) (by kernel_rfl) (streamDoSpec_met os _)
set_option maxRecDepth 100000 in
theorem streamDoSpec_lifted (os : Os) (started : os.Started) (H : Type) (enc : TypeId × Value → H) (F : Stop.Interp) :
    ReturnsInHanded {} Tryd.checked os 4 .any ((OpenSpec.ofChange Rows.streamDoSpecSpec).preRow enc Tryd.prog Tryd.f4 Rows.streamDoSpecRow.domain false Rows.streamDoSpecRow.laid) (((OpenSpec.ofChange Rows.streamDoSpecSpec).at F).post enc Tryd.prog Tryd.f4 false true false false) := by
  refine returnsInHanded_of_row (C := Tryd.checked) (s := (OpenSpec.ofChange Rows.streamDoSpecSpec)) (F := F) own started (by kernel_rfl) Tryd.func4
    (witness_row_atRef (enc := enc) (C := Tryd.checked) false (laidWorld os) #[.agg #[.slice none 0 0, .int .i64 0], .agg #[.int .i64 0, .int .i64 0, .int .i64 0, .slice none 0 0]] rfl (by kernel_rfl) (by kernel_rfl) (by kernel_rfl) (streamDoSpec_witness os enc)) ?_
  intro W base args ds gs before hval hW _ _ _ hL _ _
  have hU : Lib.Utf8Tabs 0 1 W :=
    utf8Tabs_of_reads (ρ := Tryd.lays197_ren) { Tryd.lays197 with } ⟨by kernel_rfl, by kernel_rfl, by kernel_rfl, by kernel_rfl, by kernel_rfl, by kernel_rfl, by kernel_rfl⟩ (Lib.laidMet.reads hL (.tail _ (.head _))) (Lib.laidMet.reads hL (.head _))
  refine law_contract laidOut params4 results4 (by kernel_rfl) rfl (fun ds h => by match ds, h with | [_, _], _ => rfl) (by kernel_rfl) (.cons sSm (.cons sOp .nil)) (fun ds hK => ?_) W base args ds gs before (glOk_of hU) hval hW
  cases hK
  rename_i h1 hK
  cases hK
  rename_i h2 hK
  cases hK
  obtain ⟨n1, rfl⟩ := h1
  obtain ⟨n2, rfl⟩ := h2
  exact doSpec n1 n2
theorem streamDoSpec_holds : Rows.StreamDoSpecSaid :=
  OpenClaim.holds_of_cond 4 Tryd.f4 rfl rfl rfl rfl rfl rfl rfl ⟨rfl, rfl, rfl, rfl, rfl⟩ rfl rfl rfl rfl rfl (by kernel_rfl) Tryd.func4 (by kernel_rfl)
    (of_decide_eq_true (by kernel_rfl)) (by unfold Func.isWrapper; rw [if_neg (of_decide_eq_false (by kernel_rfl))]; exact ⟨rfl, rfl⟩)
    (fun os started H enc _ F0 => by rw [OpenClaim.pre_eq_preRow]; exact streamDoSpec_lifted os started H enc F0)
theorem streamDoSpec_card : Rows.StreamDoSpecCardSaid :=
  Claim7.holds_tied_plain_at .later [] [.data, .pinned] true _ true
    streamDoSpec_holds (fun _ h => by cases h) (by kernel_rfl) (fun _ h => by cases h) streamDoSpec_row_tie rfl ⟨rfl, rfl⟩ (by kernel_rfl) rfl
    (fun f fn hf hfn => by
      obtain rfl : f = 4 := Option.some.inj ((show Tryd.prog.funcNamed Rows.streamDoSpecRow.func = some 4 by kernel_rfl).symm.trans hf) |>.symm
      obtain rfl : fn = Tryd.f4 := (Option.some.inj (Tryd.func4.symm.trans hfn)).symm
      exact ⟨by kernel_rfl, fun j t ht => by
        rw [← Array.getElem?_toList, params4] at ht
        match j with
        | 0 => simp at ht; subst ht; exact (show Tryd.prog.wantsStandIn 24 = false by kernel_rfl)
        | 1 => simp at ht; subst ht; exact (show Tryd.prog.wantsStandIn 31 = false by kernel_rfl)
        | j + 2 => simp at ht⟩)
    (by kernel_rfl)

end Go.Proofs.YtabddhmejpknbaaDoor
end
