/- Part of the proof: S90, S91, S93. -/
import Derived.Test.YteonapeaaepipaaDoorI
set_option linter.unnecessarySimpa false
set_option linter.unusedVariables false
set_option linter.unusedSimpArgs false
section
namespace Go.Proofs.YteonapeaaepipaaDoor
open Go Go.Proofs.YteonapeaaepipaaDoor.AL
/-! Plain laws: earlier chunks; sources that are not heard. -/
theorem stE_ok {l : List Sm} {hd : List Bool} {p t d k due : Int} (h : stE l hd p t d k due = 0) : l.length ≤ 16 ∧ hd.length = l.length ∧ (l = [] → pE ⟨[], 0⟩ p t d k = 0) ∧ (∀ j, (h : j < l.length) → pE l[j] p t d k = 0) ∧ (0 ≤ due ∧ due < 1099511627776) ∧ chR d k = true := by
  unfold stE at h
  split at h; · omega
  split at h; · omega
  split at h; · omega
  split at h; · omega
  split at h
  · rename_i a1 a2 a3 a4 a5
    have h3 := (fE_all l).1 (show fE p t d k l = 0 by omega)
    have h4 : l = [] → pE ⟨[], 0⟩ p t d k = 0 := fun e => by
      rcases Int.lt_trichotomy (pE ⟨[], 0⟩ p t d k) 0 with h | h | h
      · exact absurd ⟨e, by omega⟩ a3
      · exact h
      · exact absurd ⟨e, by omega⟩ a3
    refine ⟨by omega, by omega, h4, h3, a5, ?_⟩
    cases l with
    | nil => exact (pE_ok (h4 rfl)).2
    | cons s r => exact (pE_ok (h3 0 (by simp))).2
  · omega
theorem stE_of {l : List Sm} {hd : List Bool} {p t d k due : Int} (h1 : l.length ≤ 16) (h2 : hd.length = l.length) (h3 : l = [] → pE ⟨[], 0⟩ p t d k = 0) (h4 : ∀ j, (h : j < l.length) → pE l[j] p t d k = 0) (h5 : 0 ≤ due ∧ due < 1099511627776) : stE l hd p t d k due = 0 := by
  unfold stE
  rw [if_neg (by omega), if_neg (by omega), if_neg (fun h => h.2 (h3 h.1)), if_neg (by have := (fE_all (p := p) (t := t) (d := d) (k := k) l).2 h4; omega), if_pos h5]
theorem chR_less {d k n : Int} (h : chR d k = true) (h0 : 0 ≤ n) (h1 : n ≤ k) : chR d n = true ∧ (n + 1) * d ≤ (k + 1) * d := by
  obtain ⟨g1, g2, g3, g4, g5, g6⟩ := chR_ok h
  have m1 : (n + 1) * d ≤ (k + 1) * d := Int.mul_le_mul_of_nonneg_right (by omega) (by omega)
  exact ⟨chR_of g1 g2 h0 (by omega), m1⟩
theorem pE_less {s : Sm} {p t d k n : Int} (h : pE s p t d k = 0) (h0 : 0 ≤ n) (h1 : n ≤ k) : pE s p t d n = 0 := by
  obtain ⟨g1, g2⟩ := pE_ok h
  unfold pE; rw [if_pos g1, if_pos (chR_less g2 h0 h1).1]
theorem stE_less {l : List Sm} {hd : List Bool} {p t d k n due : Int} (h : stE l hd p t d k due = 0) (h0 : 0 ≤ n) (h1 : n ≤ k) : stE l hd p t d n due = 0 := by
  obtain ⟨g1, g2, g3, g4, g5, g6⟩ := stE_ok h
  exact stE_of g1 g2 (fun e => pE_less (g3 e) h0 h1) (fun j hj => pE_less (g4 j hj) h0 h1) g5
theorem stV_less {l : List Sm} {hd : List Bool} {p t d k n due : Int} (h : stE l hd p t d k due = 0) (hv : stV l hd p t d k due = 2) (h0 : 0 ≤ n) (h1 : n ≤ k) : stV l hd p t d n due = 2 := by
  obtain ⟨g1, g2, g3, g4, g5, g6⟩ := settled_iff.1 ⟨h, hv⟩
  obtain ⟨_, _, _, _, _, hr⟩ := stE_ok h
  refine (settled_iff.2 ⟨g1, g2, fun j hj => pE_less (g3 j hj) h0 h1, g4, g5, fun j hj h' hh => ?_⟩).2
  have := g6 j hj h' hh
  simp only [pB, Bool.and_eq_true, decide_eq_true_eq] at this ⊢
  have hm := sin_mono (l := l[j].w) (chR_less hr h0 h1).2
  exact ⟨pE_less (g3 j hj) h0 h1, by omega⟩
theorem zip_set_map {β : Type} (f : Sm × Bool → β) {l : List Sm} {hd : List Bool} {i : Nat} {o : Sm} (hl : hd.length = l.length) (hi : i < l.length) (h2 : i < hd.length) (hf : f (o, hd[i]) = f (l[i], hd[i])) : ((l.set i o).zip hd).map f = (l.zip hd).map f := by
  refine List.ext_getElem (by simp) fun j h1 h2' => ?_
  simp only [List.length_map, List.length_zip, List.length_set] at h1
  simp only [List.getElem_map, List.getElem_zip, List.getElem_set]
  split
  · rename_i e; subst e; exact hf
  · rfl
theorem whyL_set {p t d k : Int} {l : List Sm} {hd : List Bool} {i : Nat} {o : Sm} (hl : hd.length = l.length) (hi : i < l.length) (h2 : i < hd.length) (hh : hd[i] = false) : whyL p t d k (l.set i o) hd = whyL p t d k l hd :=
  zip_set_map (whyOf p t d k) hl hi h2 (by simp [whyOf, hh])
theorem passedN_set {p t d k : Int} {l : List Sm} {hd : List Bool} {i : Nat} {o : Sm} (hl : hd.length = l.length) (hi : i < l.length) (h2 : i < hd.length) (hh : hd[i] = false) : passedN p t d k (l.set i o) hd = passedN p t d k l hd := by
  have h := zip_set_map (fun x : Sm × Bool => x.2 && pB x.1 p t d k) hl hi h2 (o := o) (by simp [hh])
  have e : ∀ L : List (Sm × Bool), L.countP (fun x => x.2 && pB x.1 p t d k) = (L.map fun x => x.2 && pB x.1 p t d k).countP id := fun L => by
    rw [List.countP_map]; rfl
  simp only [passedN]
  rw [e, e, h]
theorem st_set {l : List Sm} {hd : List Bool} {p t d k due : Int} {i : Nat} {o : Sm} (h : stE l hd p t d k due = 0) (hi : i < l.length) (h2 : i < hd.length) (hh : hd[i] = false) (ho : eSm o = 0) :
    stE (l.set i o) hd p t d k due = 0 ∧ stV (l.set i o) hd p t d k due = stV l hd p t d k due ∧ stY (l.set i o) hd p t d k due = stY l hd p t d k due := by
  obtain ⟨g1, g2, g3, g4, g5, g6⟩ := stE_ok h
  have h1 : stE (l.set i o) hd p t d k due = 0 := by
    refine stE_of (by simpa using g1) (by simpa using g2) (fun e => ?_) (fun j hj => ?_) g5
    · have := congrArg List.length e; simp at this; subst this; simp at hi
    · rw [List.getElem_set]
      split
      · obtain ⟨_, q2, q3⟩ := errP_ok (pE_ok (g4 i hi)).1
        unfold pE; rw [if_pos (errP_of ho q2 q3), if_pos g6]
      · exact g4 j (by simpa using hj)
  refine ⟨h1, ?_, ?_⟩
  · unfold stV; rw [h1, h, passedN_set g2 hi h2 hh]
  · unfold stY; rw [h1, h, whyL_set g2 hi h2 hh]
end Go.Proofs.YteonapeaaepipaaDoor
end

section
namespace Go.Proofs.YteonapeaaepipaaDoor
open Go Go.Proofs.YteonapeaaepipaaDoor.AL
attribute [local simp] dT_agg dT_nt dT_noTup dT_cells dT_one bs_toList bs_size strV dW_cells dW_agg dW_noTup dSm_cells dSm_agg dSm_noTup dOp_cells dOp_agg dOp_noTup dWs_cells dWs_one dWs_agg dWs_noTup dWs_nt
attribute [local simp] dW_nt dP_cells dP_agg dP_noTup dOld_cells dOld_agg dOld_noTup dOld_one
set_option maxRecDepth 20000
set_option maxHeartbeats 8000000
theorem few0 (s : Sm) : C80 19 [.sl 2 [dSm s], .nil 0] (.ret (dB (few23B [s] []))) :=
  .of (.mk (C78a.few [s] []) (.cons (LeD.refl _) (.cons (leD_nil0 _ _) .nil)))
theorem settledEarlier (l : List Sm) (hd : List Bool) (p t d k due er ix : Int) (o : Sm) (her : 0 ≤ er ∧ er ≤ 255) (hix : 0 ≤ ix ∧ ix ≤ 255) :
    PCall Tryd.prog 6 [.sl 2 (l.map dSm), .sl 1 (hd.map dB), dP p, dI t, dI d, dI k, dI due, .lit (.int .u8 er), .lit (.int .u8 ix), dSm o] (.ret (dB true)) := by
  refine pcall_of_vc h80 c6 (by simp [a6]) fun hr => ?_
  simp [a6]
  refine vc_path [.ret (dB true)] ?_
  simp
  refine ⟨.sane, ?_⟩
  have h1 := C78a.few l hd
  have h1' := few0 o
  generalize few23B l hd = b1 at *
  generalize few23B [o] [] = b2 at *
  cases b1
  · refine vc_path [.ret (dB false)] ?_
    simp
    exact .a h1
  cases b2
  · refine vc_path [.ret (dB true), .ret (dB false)] ?_
    simp
    exact ⟨.a h1, h1'⟩
  refine vc_path [.ret (dB true), .ret (dB true)] ?_
  simp
  refine ⟨.a h1, h1', ?_⟩
  have h2 := C78a.st l hd p t d k due
  by_cases q3 : ¬ stE l hd p t d k due = 0
  · generalize stE l hd p t d k due = E at *
    generalize stV l hd p t d k due = V at *
    generalize stY l hd p t d k due = Y at *
    refine vc_path [.ret (.tup [dI V, .sl 1 (Y.map dI), dI E])] ?_
    simp [q3]
    exact .a h2
  have q3 : stE l hd p t d k due = 0 := by omega
  obtain ⟨g1, g2, g3, g4, g5, g6⟩ := stE_ok q3
  obtain ⟨m1, m2, m3, m4, m5, m6⟩ := chR_ok g6
  have hkd : k ≤ 1099511627776 := mul_le_end m1 m3 m5 m6
  obtain ⟨n, hn, hn0, hnk⟩ : ∃ n : Int, er.tmod (k + 1) = n ∧ 0 ≤ n ∧ n ≤ k := by
    have x1 := Int.tmod_nonneg (k + 1) her.1
    have x2 := Int.tmod_lt_of_pos er (show 0 < k + 1 by omega)
    exact ⟨_, rfl, x1, by omega⟩
  have h3 := C78a.st l hd p t d n due
  rw [stE_less q3 hn0 hnk] at h3
  have hvl : stV l hd p t d k due = 2 → stV l hd p t d n due = 2 := fun h => stV_less q3 h hn0 hnk
  have hset := fun (i : Nat) (hi : i < l.length) (h2 : i < hd.length) (hh : hd[i] = false) (ho : eSm o = 0) => st_set q3 hi h2 hh ho
  have h4 := fun i => C78a.st (l.set i o) hd p t d k due
  rw [q3] at h2
  have h5 := C78a.same (stY l hd p t d k due) (stY l hd p t d k due)
  simp only [decide_true] at h5
  generalize stV l hd p t d n due = V2 at *
  generalize stY l hd p t d n due = Y2 at *
  generalize stV l hd p t d k due = V at *
  generalize stY l hd p t d k due = Y at *
  have hwe : IntKind.i64.wrap er = er := wrap64 (by omega)
  have hwx : IntKind.i64.wrap ix = ix := wrap64 (by omega)
  have hwk : IntKind.i64.wrap (k + 1) = k + 1 := wrap64 (by omega)
  refine vc_path [.ret (.tup [dI V, .sl 1 (Y.map dI), dI 0])] ?_
  simp
  refine ⟨.a h2, ?_⟩
  refine vc_path [] ?_
  simp [show ¬ k < 0 by omega, show (hd.length : Int) = l.length by omega]
  refine vc_pathD [.ret (.tup [dI V2, .sl 1 (Y2.map dI), dI 0])] ?_
  simp [hwe, hwk, hn, show ¬ k + 1 = 0 by omega]
  refine ⟨.a h3, rfl, ?_⟩
  refine vc_path [] ?_
  by_cases q5 : V = 2
  case' pos =>
    simp [q5, hvl q5]
  case' neg =>
    simp [q5]
  all_goals
    by_cases q6 : l = []
    · refine vc_path [] ?_
      simp [show l.length = 0 by rw [q6]; rfl]
    have hpos : 0 < l.length := List.length_pos_iff.2 q6
    have h6 := C78a.sck o
    by_cases q7 : ¬ eSm o = 0
    · generalize eSm o = eo at *
      refine vc_path [.ret (dI eo)] ?_
      simp [q6, q7]
      exact .a h6
    have q7 : eSm o = 0 := by omega
    rw [q7] at h6
    obtain ⟨ν, hν, hνl⟩ : ∃ ν : Nat, ix.tmod l.length = (ν : Int) ∧ ν < l.length := by
      have h1 := Int.tmod_nonneg (l.length : Int) hix.1
      have h2 := Int.tmod_lt_of_pos ix (show (0 : Int) < l.length by omega)
      exact ⟨(ix.tmod l.length).toNat, by omega, by omega⟩
    have hνh : ν < hd.length := by omega
    cases hh : hd[ν]
    case' true =>
      refine vc_path [.ret (dI 0)] ?_
      simp [q6, hwx, hν, hνl, hνh, hh]
      exact .a h6
    refine vc_path [.ret (dI 0)] ?_
    have hst := wrSm_set o hνl
    have hfl := flatSm l
    have hfl2 : (D.flat ((l.set ν o).map dSm)).length = l.length * 2 := by rw [flatSm, List.length_set]
    have hels : elsD 2 l.length (D.flat ((l.set ν o).map dSm)) = (l.set ν o).map dSm := by
      have := elsSm (l.set ν o)
      rw [List.length_set] at this; exact this
    simp [q6, hwx, hν, hνl, hνh, hh, hfl]
    refine ⟨.a h6, ⟨by omega, by omega⟩, by omega, ?_⟩
    have h7 := h4 ν
    obtain ⟨x1, x2, x3⟩ := hset ν hνl hνh hh q7
    rw [x1, x2, x3] at h7
    rw [show ((wr (l.map dSm)).set (ν * 2) (.d (.sl 5 (o.w.map dW)))).set (ν * 2 + 1) (.d (.lit (.int .i64 o.x))) = wr ((l.set ν o).map dSm) from hst]
    generalize l.set ν o = L at *
    refine vc_path [.ret (.tup [dI V, .sl 1 (Y.map dI), dI 0])] ?_
    simp [hfl2, hels]
    refine ⟨.a h7, ?_⟩
    refine vc_path [.ret (dB true)] ?_
    simp [q5]
    exact .a h5
end Go.Proofs.YteonapeaaepipaaDoor
end

section
namespace Go.Proofs.YteonapeaaepipaaDoor
open Go Go.Proofs.YteonapeaaepipaaDoor.AL Go.ChangeShapes Go.WideShapes Go.ChangeAt Go.RowKit Go.Lib Go.Shelf
theorem params6 : Tryd.f6.params.toList = [35, 36, 26, 3, 3, 3, 3, 5, 5, 24] := by kernel_rfl
theorem results6 : Tryd.f6.resultTypes.toList = [4] := by kernel_rfl
set_option maxRecDepth 1000000 in
theorem settledEarlier_met (os : Os) (args : Array Value) : laidMet Tryd.prog Rows.settledEarlierRow.laid ((laidWorld os).forCall (fun _ _ => 0) ⟨#[], args, []⟩).memory :=
  (LaidIn.of_run [1, 0] 8 (by kernel_rfl) (by kernel_rfl) (by kernel_rfl) (by kernel_rfl)).met
theorem settledEarlier_witness (os : Os) {H : Type} (enc : TypeId × Value → H) :
    (OpenSpec.ofChange Rows.settledEarlierSpec).preRow enc Tryd.prog Tryd.f6 Rows.settledEarlierRow.domain false Rows.settledEarlierRow.laid ((laidWorld os).forCall (fun _ _ => 0) ⟨#[], #[.slice none 0 0, .slice none 0 0, .agg #[.int .i64 0], .int .i64 0, .int .i64 0, .int .i64 0, .int .i64 0, .int .u8 0, .int .u8 0, .agg #[.slice none 0 0, .int .i64 0]], []⟩).memory #[.slice none 0 0, .slice none 0 0, .agg #[.int .i64 0], .int .i64 0, .int .i64 0, .int .i64 0, .int .i64 0, .int .u8 0, .int .u8 0, .agg #[.slice none 0 0, .int .i64 0]] := by
  have hw : (DataW.whole enc Tryd.prog ((laidWorld os).forCall (fun _ _ => 0) ⟨#[], #[.slice none 0 0, .slice none 0 0, .agg #[.int .i64 0], .int .i64 0, .int .i64 0, .int .i64 0, .int .i64 0, .int .u8 0, .int .u8 0, .agg #[.slice none 0 0, .int .i64 0]], []⟩).memory Tryd.f6.params.toList (OpenSpec.ofChange Rows.settledEarlierSpec).vars false (#[.slice none 0 0, .slice none 0 0, .agg #[.int .i64 0], .int .i64 0, .int .i64 0, .int .i64 0, .int .i64 0, .int .u8 0, .int .u8 0, .agg #[.slice none 0 0, .int .i64 0]] : Array Value).toList 8).map (fun x => (x.1, x.2.1)) =
      some ([.nil, .nil, .agg [.lit (.int .i64 0)], .lit (.int .i64 0), .lit (.int .i64 0), .lit (.int .i64 0), .lit (.int .i64 0), .lit (.int .u8 0), .lit (.int .u8 0), .agg [.nil, .lit (.int .i64 0)]], []) := by kernel_rfl
  obtain ⟨⟨x1, x2, x3⟩, hx, hx1⟩ := Option.map_eq_some_iff.1 hw
  simp only [Prod.mk.injEq] at hx1
  obtain ⟨rfl, rfl⟩ := hx1
  exact OpenSpec.preRow_of_cond 8 hx (by kernel_rfl) (fun k hk => by cases hk) (by kernel_rfl) (settledEarlier_met os _)
set_option maxRecDepth 100000 in
theorem settledEarlier_lifted (os : Os) (started : os.Started) (H : Type) (enc : TypeId × Value → H) (F : Stop.Interp) :
    ReturnsInHanded {} Tryd.checked os 6 .any ((OpenSpec.ofChange Rows.settledEarlierSpec).preRow enc Tryd.prog Tryd.f6 Rows.settledEarlierRow.domain false Rows.settledEarlierRow.laid) (((OpenSpec.ofChange Rows.settledEarlierSpec).at F).post enc Tryd.prog Tryd.f6 false true false false) := by
  refine returnsInHanded_of_row (C := Tryd.checked) (s := (OpenSpec.ofChange Rows.settledEarlierSpec)) (F := F) own started (by kernel_rfl) Tryd.func6
    (witness_row_atRef (enc := enc) (C := Tryd.checked) false (laidWorld os) #[.slice none 0 0, .slice none 0 0, .agg #[.int .i64 0], .int .i64 0, .int .i64 0, .int .i64 0, .int .i64 0, .int .u8 0, .int .u8 0, .agg #[.slice none 0 0, .int .i64 0]] rfl (by kernel_rfl) (by kernel_rfl) (by kernel_rfl) (settledEarlier_witness os enc)) ?_
  intro W base args ds gs before hval hW _ _ _ hL _ _
  have hU : Lib.Utf8Tabs 0 1 W :=
    utf8Tabs_of_reads (ρ := Tryd.lays197_ren) { Tryd.lays197 with } ⟨by kernel_rfl, by kernel_rfl, by kernel_rfl, by kernel_rfl, by kernel_rfl, by kernel_rfl, by kernel_rfl⟩ (Lib.laidMet.reads hL (.tail _ (.head _))) (Lib.laidMet.reads hL (.head _))
  refine law_contract laidOut params6 results6 (by kernel_rfl) rfl (fun ds h => by match ds, h with | [_, _, _, _, _, _, _, _, _, _], _ => rfl) (by kernel_rfl) (.cons sSms (.cons sBs (.cons sPm (.cons sI (.cons sI (.cons sI (.cons sI (.cons sU8 (.cons sU8 (.cons sSm .nil)))))))))) (fun ds hK => ?_) W base args ds gs before (glOk_of hU) hval hW
  cases hK
  rename_i h1 hK
  cases hK
  rename_i h2 hK
  cases hK
  rename_i h3 hK
  cases hK
  rename_i h4 hK
  cases hK
  rename_i h5 hK
  cases hK
  rename_i h6 hK
  cases hK
  rename_i h7 hK
  cases hK
  rename_i h8 hK
  cases hK
  rename_i h9 hK
  cases hK
  rename_i h10 hK
  cases hK
  obtain ⟨n1, rfl⟩ := h1
  obtain ⟨n2, rfl⟩ := h2
  obtain ⟨n3, rfl⟩ := h3
  obtain ⟨n4, hb4, rfl⟩ := h4
  obtain ⟨n5, hb5, rfl⟩ := h5
  obtain ⟨n6, hb6, rfl⟩ := h6
  obtain ⟨n7, hb7, rfl⟩ := h7
  obtain ⟨n8, hb8, rfl⟩ := h8
  obtain ⟨n9, hb9, rfl⟩ := h9
  obtain ⟨n10, rfl⟩ := h10
  exact settledEarlier n1 n2 n3 n4 n5 n6 n7 n8 n9 n10 (by simpa [IntKind.min, IntKind.max, IntKind.signed, IntKind.bits] using hb8) (by simpa [IntKind.min, IntKind.max, IntKind.signed, IntKind.bits] using hb9)
theorem settledEarlier_holds : Rows.SettledEarlierSaid :=
  OpenClaim.holds_of_cond 6 Tryd.f6 rfl rfl rfl rfl rfl rfl rfl ⟨rfl, rfl, rfl, rfl, rfl⟩ rfl rfl rfl rfl rfl (by kernel_rfl) Tryd.func6 (by kernel_rfl)
    (of_decide_eq_true (by kernel_rfl)) (by unfold Func.isWrapper; rw [if_neg (of_decide_eq_false (by kernel_rfl))]; exact ⟨rfl, rfl⟩)
    (fun os started H enc _ F0 => by rw [OpenClaim.pre_eq_preRow]; exact settledEarlier_lifted os started H enc F0)
theorem settledEarlier_card : Rows.SettledEarlierCardSaid :=
  Claim7.holds_tied_plain_at .later [] [.data, .pinned] true _ true
    settledEarlier_holds (fun _ h => by cases h) (by kernel_rfl) (fun _ h => by cases h) settledEarlier_row_tie rfl ⟨rfl, rfl⟩ (by kernel_rfl) rfl
    (fun f fn hf hfn => by
      obtain rfl : f = 6 := Option.some.inj ((show Tryd.prog.funcNamed Rows.settledEarlierRow.func = some 6 by kernel_rfl).symm.trans hf) |>.symm
      obtain rfl : fn = Tryd.f6 := (Option.some.inj (Tryd.func6.symm.trans hfn)).symm
      exact ⟨by kernel_rfl, fun j t ht => by
        rw [← Array.getElem?_toList, params6] at ht
        match j with
        | 0 => simp at ht; subst ht; exact (show Tryd.prog.wantsStandIn 35 = false by kernel_rfl)
        | 1 => simp at ht; subst ht; exact (show Tryd.prog.wantsStandIn 36 = false by kernel_rfl)
        | 2 => simp at ht; subst ht; exact (show Tryd.prog.wantsStandIn 26 = false by kernel_rfl)
        | 3 => simp at ht; subst ht; exact (show Tryd.prog.wantsStandIn 3 = false by kernel_rfl)
        | 4 => simp at ht; subst ht; exact (show Tryd.prog.wantsStandIn 3 = false by kernel_rfl)
        | 5 => simp at ht; subst ht; exact (show Tryd.prog.wantsStandIn 3 = false by kernel_rfl)
        | 6 => simp at ht; subst ht; exact (show Tryd.prog.wantsStandIn 3 = false by kernel_rfl)
        | 7 => simp at ht; subst ht; exact (show Tryd.prog.wantsStandIn 5 = false by kernel_rfl)
        | 8 => simp at ht; subst ht; exact (show Tryd.prog.wantsStandIn 5 = false by kernel_rfl)
        | 9 => simp at ht; subst ht; exact (show Tryd.prog.wantsStandIn 24 = false by kernel_rfl)
        | j + 10 => simp at ht⟩)
    (by kernel_rfl)

end Go.Proofs.YteonapeaaepipaaDoor
end
