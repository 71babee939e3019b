/- Part of the proof: S336, S337, S338, S330, S340, S341. -/
import Derived.Test.YtfegfnekphobmaaDoorCards
import Derived.Test.YtfegfnekphobmaaDoorTie
import Derived.Deep.DeepHandedRow
import Derived.Deep.DeepWitnessRowRef
import Derived.Lib.LaidIn
import Derived.Lib.LaidTab
import Derived.Stop.LaidErr
import Derived.Lib.LaidU8
import Derived.ProofKit
import Derived.SizedLaws
import Derived.PinnedBridge
import Derived.SevenTiedAt
import Derived.Test.YtfegfnekphobmaaDoorH
set_option linter.unnecessarySimpa false
set_option linter.unusedVariables false
set_option linter.unusedSimpArgs false
section
namespace Go.Proofs.YtfegfnekphobmaaDoor
open Go Go.Proofs.YtfegfnekphobmaaDoor.AL
attribute [local simp] dZ_agg dZ_nt dZ_noTup dZ_cells dZ_one bz_toList bz_size strV dV_cells dV_isAgg dV_noTup dV_nt dBy_cells dBy_one dBy_agg dBy_noTup dBy_nt
attribute [local simp] dLk_cells dLk_isAgg dLk_noTup dLk_nt
set_option maxRecDepth 8000
set_option maxHeartbeats 4000000
theorem chainEqual (a b : List Lk) : PCall Tryd.prog 5 [.sl 35 (a.map dLk), .sl 35 (b.map dLk)] (.ret (dB true)) := by
  refine pcall_of_vc h334 c5 (by simp [a5]) fun hr => ?_
  have c1 := C334.few a
  have c2 := C334.few b
  simp [a5]
  refine vc_path [.ret (dB true)] ?_
  simp
  refine ⟨.sane, ?_⟩
  by_cases ha : fewL a = true
  case neg =>
    have ha : fewL a = false := by simpa using ha
    rw [ha] at c1
    refine vc_path [.ret (dB false)] ?_
    simp
    exact c1
  by_cases hb : fewL b = true
  case neg =>
    have hb : fewL b = false := by simpa using hb
    rw [ha] at c1
    rw [hb] at c2
    refine vc_path [.ret (dB true), .ret (dB false)] ?_
    simp
    exact ⟨c1, c2⟩
  have a1 : ∀ x ∈ a, x.d.length ≤ 100000 := fun x hx => by have := (few_d ha).2 x hx; omega
  have b1 : ∀ x ∈ b, x.d.length ≤ 100000 := fun x hx => by have := (few_d hb).2 x hx; omega
  have hla := (few_d ha).1
  have hlb := (few_d hb).1
  rw [ha] at c1
  rw [hb] at c2
  have k1 := C334.check a a1
  have k2 := C334.check b b1
  by_cases h1 : ckE a = 0
  case neg =>
    generalize ckE a = x at *
    refine vc_path [.ret (dB true), .ret (dB true), .ret (dI x)] ?_
    simp [h1]
    exact ⟨c1, c2, k1⟩
  by_cases h2 : ckE b = 0
  case neg =>
    rw [h1] at k1
    generalize ckE b = x at *
    refine vc_path [.ret (dB true), .ret (dB true), .ret (dI 0), .ret (dI x)] ?_
    simp [h2]
    exact ⟨c1, c2, k1, k2⟩
  rw [h1] at k1
  rw [h2] at k2
  by_cases h3 : a.length = b.length
  case neg =>
    have h3' : ¬ (a.length : Int) = b.length := by omega
    refine vc_path [.ret (dB true), .ret (dB true), .ret (dI 0), .ret (dI 0)] ?_
    simp [h3, h3']
    exact ⟨c1, c2, k1, k2⟩
  have g1 := C334.head a a1
  have g2 := C334.head b b1
  have l1 := headL_len a
  have l2 := headL_len b
  have hlaw := equal_law a b h1 h2 h3
  have s1 := C334.same a b
  generalize headL a = A at *
  generalize headL b = B at *
  refine vc_path [.ret (dB true), .ret (dB true), .ret (dI 0), .ret (dI 0), .ret (.agg (A.map dU)), .ret (.agg (B.map dU))] ?_
  simp [h3, eqC_dU l1 l2, eqB_dU _ _ (l1.trans l2.symm)]
  refine ⟨c1, c2, k1, k2, g1, g2, fun hAB => ?_⟩
  by_cases hs : a = b
  · rw [decide_eq_true hs] at s1
    refine vc_path [.ret (dB true)] ?_
    simp
    exact s1
  rw [decide_eq_false hs] at s1
  refine vc_path [.ret (dB false)] ?_
  simp
  refine ⟨s1, ?_⟩
  refine vc_loopK [0, 1] Nat (fun i => [(5, true, .d (dI i))]) (fun _ => []) (fun i => 1 ≤ i ∧ i ≤ a.length + 1 ∧ ∀ j, 1 ≤ j → j < i → clashL (a.take j) (b.take j) = false) (fun i => a.length + 1 - i) 1 (by simp; intro j hj hj'; omega) ⟨[], [], ?_⟩ (fun i hi => ?_)
  · simp
  · obtain ⟨hi1, hi2, hno⟩ := hi
    simp
    refine ⟨fun hle => ?_, fun hgt => ?_⟩
    · have hle' : i ≤ b.length := by omega
      have kc := C334.clash (a.take i) (b.take i) (fun x hx => a1 x (List.mem_of_mem_take hx)) (fun x hx => b1 x (List.mem_of_mem_take hx))
      generalize hcl : clashL (a.take i) (b.take i) = c at *
      refine vc_pathD [.ret (dB c)] ?_
      simp [hle, hle']
      rw [List.map_take, List.map_take] at kc
      refine ⟨kc, rfl, fun hc => ⟨i + 1, ⟨by omega, by omega, fun j hj hj' => ?_⟩, by omega, [], [], ?_⟩⟩
      · rcases Nat.lt_or_ge j i with h | h
        · exact hno j hj h
        · have hji : j = i := by omega
          rw [hji, hcl]; exact hc
      · rw [wrap64 (by omega)]
        simp
    · exact absurd (hlaw hAB (fun j hj hj' => hno j hj (by omega))) hs
end Go.Proofs.YtfegfnekphobmaaDoor
end

section
namespace Go.Proofs.YtfegfnekphobmaaDoor
open Go Go.Proofs.YtfegfnekphobmaaDoor.AL
attribute [local simp] dZ_agg dZ_nt dZ_noTup dZ_cells dZ_one bz_toList bz_size strV dV_cells dV_isAgg dV_noTup dV_nt dBy_cells dBy_one dBy_agg dBy_noTup dBy_nt
attribute [local simp] dLk_cells dLk_isAgg dLk_noTup dLk_nt
set_option maxRecDepth 8000
set_option maxHeartbeats 4000000
theorem allD_lkD (p : List UInt8) (d : D) : allD (p.map (AV.d ∘ dU) ++ [AV.d d]) = some (p.map dU ++ [d]) := by
  induction p with
  | nil => rfl
  | cons a r ih => simp [allD, ih]
theorem dLk_raw (x : Lk) : D.agg (D.lit (Value.int IntKind.i64 x.n) :: D.lit (Value.int IntKind.i64 x.o) :: (x.p.map dU ++ [D.sl 1 (x.d.map dU)])) = dLk x := rfl
theorem setk (l : List Lk) (k : Nat) (x : Lk) (hk : k < l.length) : setAt (((wr (l.map dLk)).set (k * 35) (AV.d (D.lit (Value.int IntKind.i64 x.n)))).set (k * 35 + 1) (AV.d (D.lit (Value.int IntKind.i64 x.o)))) (k * 35 + 1 + 1) (x.p.map (AV.d ∘ dU) ++ [AV.d (dBy x.d)]) = wr ((l.set k x).map dLk) := by
  have e0 : setAt (((wr (l.map dLk)).set (k * 35) (AV.d (D.lit (Value.int IntKind.i64 x.n)))).set (k * 35 + 1) (AV.d (D.lit (Value.int IntKind.i64 x.o)))) (k * 35 + 1 + 1) (x.p.map (AV.d ∘ dU) ++ [AV.d (dBy x.d)]) = setAt (wr (l.map dLk)) (k * 35) ((dLk x).cells.map AV.d) := by
    have : (dLk x).cells.map AV.d = AV.d (D.lit (Value.int IntKind.i64 x.n)) :: AV.d (D.lit (Value.int IntKind.i64 x.o)) :: (x.p.map (AV.d ∘ dU) ++ [AV.d (dBy x.d)]) := by simp [dLk_cells]
    rw [this]; rfl
  have hf : ∀ l : List Lk, (D.flat (l.map dLk)).length = l.length * 35 := fun l => by
    have := flat_len (sz := 35) (es := l.map dLk) (fun e he => by
      obtain ⟨y, _, rfl⟩ := List.mem_map.1 he
      exact dLk_len y)
    simpa using this
  have hz : D.flat (l.map dLk) = D.flat ((l.take k).map dLk) ++ ((dLk l[k]).cells ++ D.flat ((l.drop (k + 1)).map dLk)) := by
    conv => lhs; rw [← List.take_append_drop k l, List.drop_eq_getElem_cons hk]
    rw [List.map_append, List.map_cons]
    unfold D.flat
    rw [List.flatMap_append, List.flatMap_cons]
  have ht := hf (l.take k)
  rw [List.length_take, Nat.min_eq_left (by omega)] at ht
  rw [e0]
  unfold wr
  rw [setAt_map _ _ _ (by rw [hf, dLk_len]; omega), List.set_eq_take_append_cons_drop, if_pos hk]
  congr 1
  unfold spl
  rw [dLk_len, hz, List.take_left' ht, ← List.append_assoc (D.flat _), List.drop_left' (by rw [List.length_append, ht, dLk_len])]
  simp [D.flat]
theorem chunkD_app {z : Nat} : ∀ (n : Nat) (ds r : List D), n * z ≤ ds.length → chunkD z n (ds ++ r) = chunkD z n ds
  | 0, _, _, _ => rfl
  | n + 1, ds, r, h => by
    rw [Nat.add_mul] at h
    simp only [chunkD]
    rw [List.take_append_of_le_length (by omega), List.drop_append_of_le_length (by omega), chunkD_app n _ r (by simp; omega)]
theorem elsD_lks (m : List Lk) (j : Nat) (h : j ≤ m.length) : elsD 35 j (D.flat (m.map dLk)) = (m.take j).map dLk := by
  have h1 : ∀ e ∈ (m.take j).map dLk, e.isAgg = true ∧ e.cells.length = 35 := fun e he => by
    obtain ⟨y, _, rfl⟩ := List.mem_map.1 he
    exact ⟨rfl, dLk_len y⟩
  have hl : ((m.take j).map dLk).length = j := by simp; omega
  have hf : (D.flat ((m.take j).map dLk)).length = j * 35 := by rw [flat_len (fun e he => (h1 e he).2), hl]
  unfold elsD
  rw [if_neg (by omega)]
  have e : D.flat (m.map dLk) = D.flat ((m.take j).map dLk) ++ D.flat ((m.drop j).map dLk) := by
    conv => lhs; rw [← List.take_append_drop j m, List.map_append]
    unfold D.flat
    rw [List.flatMap_append]
  rw [e, chunkD_app j _ _ (by omega)]
  have := chunkD_wr (z := 35) ((m.take j).map dLk) h1
  rw [hl] at this
  exact this
theorem chainChanged (l : List Lk) (at_ : UInt8) (x : Lk) : PCall Tryd.prog 6 [.sl 35 (l.map dLk), dU at_, dLk x] (.ret (dB true)) := by
  refine pcall_of_vc h334 c6 (by simp [a6]) fun hr => ?_
  have c1 := C334.few l
  have hxp := x.hp
  simp [a6]
  refine vc_path [.ret (dB true)] ?_
  simp
  refine ⟨.sane, ?_⟩
  by_cases ha : fewL l = true
  case neg =>
    have ha : fewL l = false := by simpa using ha
    rw [ha] at c1
    refine vc_path [.ret (dB false)] ?_
    simp
    exact c1
  have a1 : ∀ x ∈ l, x.d.length ≤ 100000 := fun x hx => by have := (few_d ha).2 x hx; omega
  have hla := (few_d ha).1
  rw [ha] at c1
  by_cases h0 : l = []
  · subst h0
    refine vc_path [.ret (dB true)] ?_
    simp
    exact c1
  have h0' : 0 < l.length := List.length_pos_iff.2 h0
  by_cases hd : 300 < x.d.length
  · have hd' : (300 : Int) < x.d.length := by omega
    refine vc_path [.ret (dB true)] ?_
    simp [h0, dBy, hd', hxp]
    exact c1
  have hd' : ¬ (300 : Int) < x.d.length := by omega
  have k1 := C334.check l a1
  by_cases h1 : ckE l = 0
  case neg =>
    generalize ckE l = y at *
    refine vc_path [.ret (dB true), .ret (dI y)] ?_
    simp [h0, dBy, hd', hxp, h1]
    exact ⟨c1, k1⟩
  rw [h1] at k1
  refine vc_path [.ret (dB true), .ret (dI 0)] ?_
  obtain ⟨k, hk⟩ : ∃ k, k = at_.toNat % l.length := ⟨_, rfl⟩
  have hkl : k < l.length := by rw [hk]; exact Nat.mod_lt _ h0'
  have hkw : (IntKind.i64.wrap (at_.toNat : Int)).tmod (l.length : Int) = (k : Nat) := by
    have := at_.toNat_lt
    rw [wrap64 (by omega), Int.tmod_eq_emod_of_nonneg (by omega), hk]
    rfl
  have s1 := C334.sl l[k] x
  have q1 := (l[k]).hp
  simp [h0, h0', dBy, hd', hxp, dU, hkw]
  refine ⟨c1, k1, ?_⟩
  by_cases hs : l[k] = x
  · rw [decide_eq_true hs] at s1
    refine vc_pathD [.ret (dB true)] ?_
    simp [hkl, q1, hxp, allD_lkD, take_lk, dLk_raw]
    exact ⟨s1, rfl⟩
  rw [decide_eq_false hs] at s1
  refine vc_pathD [.ret (dB false)] ?_
  simp [hkl, q1, hxp, allD_lkD, take_lk, dLk_raw]
  have hfl : (D.flat (l.map dLk)).length = l.length * 35 := by
    have := flat_len (sz := 35) (es := l.map dLk) (fun e he => by
      obtain ⟨y, _, rfl⟩ := List.mem_map.1 he
      exact dLk_len y)
    simpa using this
  have hk35 : k * 35 + 35 ≤ l.length * 35 := by omega
  refine ⟨s1, rfl, ⟨h0, by omega, by omega⟩, by rw [hfl]; exact hk35, ?_⟩
  rw [setk l k x hkl]
  obtain ⟨m, hm⟩ : ∃ m, m = l.set k x := ⟨_, rfl⟩
  rw [← hm]
  have hml : m.length = l.length := by rw [hm]; simp
  have hmd : ∀ y ∈ m, y.d.length ≤ 100000 := fun y hy => by
    rw [hm] at hy
    rcases List.mem_or_eq_of_mem_set hy with hy | rfl
    · exact a1 y hy
    · omega
  have c2 := C334.check m hmd
  have hfm : (D.flat (m.map dLk)).length = l.length * 35 := by
    have := flat_len (sz := 35) (es := m.map dLk) (fun e he => by
      obtain ⟨y, _, rfl⟩ := List.mem_map.1 he
      exact dLk_len y)
    rw [← hml]
    simpa using this
  have hall : allD1 (wr (m.map dLk)) = some (D.flat (m.map dLk)) := by
    unfold wr
    generalize D.flat (m.map dLk) = z
    induction z with
    | nil => rfl
    | cons a r ih => simp [allD1, ih, AV.toD1]
  have hels : elsD 35 l.length (D.flat (m.map dLk)) = m.map dLk := by
    unfold elsD
    rw [if_neg (by omega)]
    have := chunkD_wr (z := 35) (m.map dLk) (fun e he => by
      obtain ⟨y, _, rfl⟩ := List.mem_map.1 he
      exact ⟨rfl, dLk_len y⟩)
    rw [List.length_map, hml] at this
    exact this
  by_cases h2 : ckE m = 0
  case neg =>
    generalize ckE m = y at *
    refine vc_path [.ret (dI y)] ?_
    simp [h2, hall, hels, hfm]
    exact ⟨c2, .lit _⟩
  rw [h2] at c2
  refine vc_path [.ret (dI 0)] ?_
  simp [hall, hels, hfm]
  refine ⟨c2, .lit _, fun hk1 => ?_⟩
  have hw1 : IntKind.i64.wrap ((l.length : Int) - 1) = l.length - 1 := wrap64 (by omega)
  rw [hw1] at hk1
  have hk2 : k + 1 < l.length := by omega
  have hlaw := changed_law l k x hk2 hs h1 (by rw [← hm]; exact h2)
  rw [← hm] at hlaw
  have cc := C334.clash (l.take (k + 1)) (m.take (k + 1)) (fun y hy => a1 y (List.mem_of_mem_take hy)) (fun y hy => hmd y (List.mem_of_mem_take hy))
  rw [hlaw] at cc
  have hw2 : IntKind.i64.wrap ((k : Int) + 1) = (k + 1 : Nat) := by rw [wrap64 (by omega)]; omega
  refine vc_pathD [.ret (dB true)] ?_
  have hb : bslV 1 0 35 (k + 1) l.length = .bsl 1 0 35 (k + 1) l.length := if_neg (by omega)
  have he2 := elsD_lks m (k + 1) (by omega)
  have hk4 : (k + 1) * 35 ≤ l.length * 35 := by omega
  simp [hall, hels, hfm, hw2, hb, he2, hk4]
  rw [List.map_take, List.map_take] at cc
  exact ⟨⟨by omega, by omega⟩, cc, .lit _, rfl⟩
end Go.Proofs.YtfegfnekphobmaaDoor
end

section
namespace Go.Proofs.YtfegfnekphobmaaDoor
open Go Go.Proofs.YtfegfnekphobmaaDoor.AL
attribute [local simp] dZ_agg dZ_nt dZ_noTup dZ_cells dZ_one bz_toList bz_size strV dV_cells dV_isAgg dV_noTup dV_nt dBy_cells dBy_one dBy_agg dBy_noTup dBy_nt
attribute [local simp] dLk_cells dLk_isAgg dLk_noTup dLk_nt
set_option maxRecDepth 8000
set_option maxHeartbeats 4000000
def BtI (node : Int) (n : Nat) (x : List Lk) : Prop := x.length ≤ n ∧ ckE x = 0 ∧ (0 < x.length → node = n0 x) ∧ ∀ y ∈ x, y.d.length ≤ 300
theorem bt_step {node : Int} {n : Nat} {x : List Lk} (h : BtI node n x) (h1 : 0 ≤ node) (h2 : node < 24) (hn : n ≤ 12) (hx : x.length < n) (d : List UInt8) (hd : d.length ≤ 300) :
    ∃ (K : Lk) (ys : List Lk), addE x node d.length = 0 ∧ addL x node d = ys ∧ ys.length = x.length + 1 ∧ ys[x.length]? = some K ∧ ys.take x.length = x ∧ K.n = node ∧ K.o = x.length ∧ K.p = headL x ∧ K.d = d ∧ BtI node n ys := by
  obtain ⟨q1, q2, q3, q4⟩ := h
  have e := addE_iff (n := d.length) q2 h1 h2 q3 (by omega) (by omega)
  refine ⟨mkLk x node d h1 h2 (by omega), x ++ [mkLk x node d h1 h2 (by omega)], e, addL_ok e, by simp, by simp, by simp, rfl, rfl, rfl, rfl, by simp; omega, ckE_add e h1 h2 (by omega), fun _ => ?_, fun y hy => ?_⟩
  · cases x with
    | nil => simp [n0, mkLk]
    | cons z r => simpa [n0] using q3 (by simp)
  · rcases List.mem_append.1 hy with hy | hy
    · exact q4 y hy
    · rw [List.mem_singleton.1 hy]; exact hd
theorem chainBuilt (node : Int) (l : List (List UInt8)) : PCall Tryd.prog 4 [dI node, .sl 1 (l.map dBy)] (.ret (dB true)) := by
  refine pcall_of_vc h334 c4 (by simp [a4]) fun hr => ?_
  simp [a4]
  refine vc_path [.ret (dB true)] ?_
  simp
  refine ⟨.sane, vc_path [] ?_⟩
  simp
  refine fun hl => fun h1 => fun h2 => ?_
  refine vc_loopK [0, 1] (List Lk) (fun x => [(5, true, .d (.sl 35 (x.map dLk))), (6, true, .d (dI x.length))]) (fun _ => []) (fun x => BtI node l.length x) (fun x => l.length - x.length) [] ⟨by simp, ck_nil, by simp, by simp⟩ ⟨[], [], ?_⟩ (fun x hx => ?_)
  · simp
  · have hxl := hx.1
    simp
    refine ⟨fun hlt => ?_, fun hge => ?_⟩
    · simp [hlt, dBy]
      refine fun hle => ?_
      obtain ⟨K, ys, y1, y2, y3, y4, y5, y6, y7, y8, y9, y10⟩ := bt_step hx h1 h2 (by omega) hlt l[x.length] (by omega)
      have ca := C334.add x node l[x.length] (fun y hy => by have := hx.2.2.2 y hy; omega)
      rw [y1, y2] at ca
      have cs := C334.same x x
      rw [decide_eq_true rfl] at cs
      have ch := C334.head x (fun y hy => by have := hx.2.2.2 y hy; omega)
      have q1 := K.hp
      have q2 := headL_len x
      refine vc_path [.ret (.tup [.sl 35 (ys.map dLk), dI 0])] ?_
      simp [hlt]
      refine ⟨ca, ?_⟩
      have y0 : x.length < ys.length := by omega
      have y11 : ys[x.length] = K := by rw [List.getElem?_eq_getElem y0] at y4; exact Option.some.inj y4
      have w1 : IntKind.i64.wrap ((x.length : Int) + 1) = x.length + 1 := wrap64 (by omega)
      have t1 : List.take x.length (ys.map dLk) = x.map dLk := by rw [← List.map_take, y5]
      refine vc_pathD [.ret (dB true), .ret (.agg ((headL x).map dU))] ?_
      simp [w1, y3, y4, y11, t1, q1, q2, y6, y7, y8, y9, hlt, dBy, eqC_dU q2 q2, eqB_dU]
      refine ⟨by omega, cs, by omega, ch, by omega, fun _ _ => rfl, rfl, ys, y10, by omega, [], [], ?_⟩
      simp [y3]
    · refine vc_loopK [0, 1, 5] Nat (fun i => [(9, true, .d (dI i))]) (fun _ => []) (fun i => i ≤ x.length + 1) (fun i => x.length + 1 - i) 0 (by simp) ⟨[], [], ?_⟩ (fun i hi => ?_)
      · simp
      · simp
        refine fun hle => ?_
        · have cc := C334.check (x.take i) (fun y hy => by have := hx.2.2.2 y (List.mem_of_mem_take hy); omega)
          rw [ckE_take hx.2.1] at cc
          refine vc_path [.ret (dI 0)] ?_
          simp [hle]
          rw [List.map_take] at cc
          refine ⟨cc, i + 1, by omega, by omega, [], [], ?_⟩
          rw [wrap64 (by omega)]
          simp
end Go.Proofs.YtfegfnekphobmaaDoor
end

section
namespace Go.Proofs.YtfegfnekphobmaaDoor
open Go Go.Proofs.YtfegfnekphobmaaDoor.AL
/-! Arrays of bytes. -/
section
variable {H : Type} {enc : TypeId × Value → H} {P : Program} {w : World}
theorem shows_arrU8 {t e : TypeId} {n : Nat} (ht : P.underlying t = some (.array n e)) (he : P.underlying e = some (.int .u8)) (hc : P.cellsOf e = 1) (hct : P.cellsOf t = n) : Shows enc P w t (fun y : { l : List UInt8 // l.length = n } => .agg (y.1.map dU)) := by
  intro fuel cs x h
  obtain ⟨xs, m, _, _, hl, hx, k⟩ := DataW.trod_array ht h
  have hcs : cs.length = n := by rw [hl, hct]
  have hel : ∀ i : Fin n, ∃ y : UInt8, RepL (allI w) w [dU y] #[cs[i.val]'(by omega)] := fun i => by
    have k1 := k i.val (by omega)
    rw [hc, Nat.mul_one, List.getElem?_eq_getElem (by omega)] at k1
    obtain ⟨y, hy⟩ := shows_u8 he _ _ _ k1
    refine ⟨y, ?_⟩
    have e1 : (cs.drop i.val).take 1 = [cs[i.val]'(by omega)] := by
      rw [List.drop_eq_getElem_cons (by omega)]; rfl
    rw [e1] at hy
    exact hy
  let l : List UInt8 := List.ofFn fun i : Fin n => Classical.choose (hel i)
  have hll : l.length = n := by simp [l]
  refine ⟨⟨l, hll⟩, ⟨by simp [D.cells, hll, hcs], fun j c v hj hv => ?_⟩⟩
  simp only [D.cells, List.getElem?_map, Option.map_eq_some_iff] at hj
  obtain ⟨y, hy, rfl⟩ := hj
  have hjl : j < n := by
    have := (List.getElem?_eq_some_iff.1 hy).1; omega
  have h1 := Classical.choose_spec (hel ⟨j, hjl⟩)
  have h2 : l[j]? = some (Classical.choose (hel ⟨j, hjl⟩)) := by simp [l, hjl]
  rw [h2] at hy
  injection hy with hy
  rw [← hy]
  have hv' : cs[j]'(by omega) = v := by
    have hv : cs[j]? = some v := by simpa using hv
    rw [List.getElem?_eq_getElem (by omega)] at hv
    exact Option.some.inj hv
  rw [← hv']
  exact h1.2 0 _ _ rfl rfl
end
end Go.Proofs.YtfegfnekphobmaaDoor
end

section
namespace Go.Proofs.YtfegfnekphobmaaDoor
open Go Go.Proofs.YtfegfnekphobmaaDoor.AL
noncomputable def fsOf (t : TypeId) : Array Field := match Tryd.prog.underlying t with
  | some (.struct fs) => fs
  | _ => #[]
noncomputable def fld (t : TypeId) (i : Nat) : Field := (fsOf t).getD i ⟨ "", 0, 0, false, "", "", 0⟩
theorem uI : Tryd.prog.underlying 3 = some (.int .i64) := by kernel_rfl
theorem uB8 : Tryd.prog.underlying 5 = some (.int .u8) := by kernel_rfl
theorem uDg : Tryd.prog.underlying 35 = some (.array 32 5) := by kernel_rfl
theorem uBs8 : Tryd.prog.underlying 23 = some (.slice 5) := by kernel_rfl
theorem uBss8 : Tryd.prog.underlying 33 = some (.slice 23) := by kernel_rfl
theorem uLk : Tryd.prog.underlying 37 = some (.struct #[fld 37 0, fld 37 1, fld 37 2, fld 37 3]) := by kernel_rfl
theorem uLks : Tryd.prog.underlying 22 = some (.slice 37) := by kernel_rfl
theorem zI8 : Tryd.prog.cellsOf 3 = 1 := by kernel_rfl
theorem zB8 : Tryd.prog.cellsOf 5 = 1 := by kernel_rfl
theorem zDg : Tryd.prog.cellsOf 35 = 32 := by kernel_rfl
theorem zBs8 : Tryd.prog.cellsOf 23 = 1 := by kernel_rfl
theorem zLk : Tryd.prog.cellsOf 37 = 35 := by kernel_rfl
section
variable {H : Type} {enc : TypeId × Value → H} {w : World}
theorem shows_i64R {P : Program} {t : TypeId} (ht : P.underlying t = some (.int .i64)) : Shows enc P w t (fun y : { n : Int // -9223372036854775808 ≤ n ∧ n < 9223372036854775808 } => dI y.1) := by
  intro fuel cs x h
  obtain ⟨n, rfl, _, hw⟩ := DataW.trod_int ht h
  have hs : Sc (.int .i64 n) := by simpa [Sc, Lit.wf] using hw
  have hs' : -9223372036854775808 ≤ n ∧ n < 9223372036854775808 := by
    simp [Sc, IntKind.min, IntKind.max, IntKind.signed, IntKind.bits] at hs
    omega
  exact ⟨⟨n, hs'⟩, repL_one (.lit hs)⟩
theorem shBs8 : Shows enc Tryd.prog w 23 dBy := shows_slice uBs8 zB8 (fun _ => rfl) (fun y c hc => by simp [AL.dU, D.cells] at hc; subst hc; rfl) (shows_u8 uB8)
theorem shBss8 : Shows enc Tryd.prog w 33 (fun l : List (List UInt8) => .sl 1 (l.map dBy)) := shows_slice uBss8 zBs8 (fun _ => rfl) (fun y c hc => by simp [dBy, D.cells] at hc; subst hc; rfl) shBs8
theorem shDg : Shows enc Tryd.prog w 35 (fun y : { l : List UInt8 // l.length = 32 } => .agg (y.1.map dU)) := shows_arrU8 uDg uB8 zB8 zDg
theorem shLk : Shows enc Tryd.prog w 37 dLk := shows_map (shows_structN uLk (by rw [zLk]; kernel_rfl)
  (showsR_cons (t := 3) (off' := 1) (by kernel_rfl) (by kernel_rfl) (by rw [zI8]) (shows_i64R uI) (showsR_cons (t := 3) (off' := 2) (by kernel_rfl) (by kernel_rfl) (by rw [zI8]) (shows_i64R uI) (showsR_cons (t := 35) (off' := 34) (by kernel_rfl) (by kernel_rfl) (by rw [zDg]) shDg (showsR_cons (t := 23) (off' := 35) (by kernel_rfl) (by kernel_rfl) (by rw [zBs8]) shBs8 showsR_nil)))))
  (fun y => ⟨⟨y.1.1, y.2.1.1, y.2.2.1.1, y.2.2.2.1, y.2.2.1.2, y.1.2, y.2.1.2⟩, rfl⟩)
theorem shLks : Shows enc Tryd.prog w 22 (fun l : List Lk => .sl 35 (l.map dLk)) := shows_slice uLks zLk dLk_len (fun y c hc => by
  rw [dLk_cells] at hc
  simp at hc
  rcases hc with rfl | rfl | ⟨a, _, rfl⟩ | rfl <;> rfl) shLk
end
theorem lk_one (y : Lk) : ∀ c ∈ (dLk y).cells, c.one = true := fun c hc => by
  rw [dLk_cells] at hc
  simp at hc
  rcases hc with rfl | rfl | ⟨a, _, rfl⟩ | rfl <;> rfl
theorem sLk : Sees Tryd.prog 37 (fun x => ∃ n : Lk, x = dLk n) := sees_agg (by rw [uLk]) shLk (fun _ => rfl) lk_one
theorem sLks : Sees Tryd.prog 22 (fun x => ∃ l : List Lk, x = .sl 35 (l.map dLk)) := sees_slice uLks shLks
theorem sBss : Sees Tryd.prog 33 (fun x => ∃ l : List (List UInt8), x = .sl 1 (l.map dBy)) := sees_slice uBss8 shBss8
theorem sBs8 : Sees Tryd.prog 23 (fun x => ∃ l : List UInt8, x = dBy l) := sees_slice uBs8 shBs8
end Go.Proofs.YtfegfnekphobmaaDoor
end

section
namespace Go.Proofs.YtfegfnekphobmaaDoor
open Go Go.Proofs.YtfegfnekphobmaaDoor.AL Go.ChangeShapes Go.WideShapes Go.ChangeAt Go.RowKit Go.Lib Go.Shelf
theorem own : ownKnob Tryd.prog.godebug = none := by kernel_rfl
theorem laidOut : laidOutB Tryd.prog = true := by kernel_rfl
theorem ip_of {w : World} {cs : List D} {g : Nat} (h : ∀ (k : Nat) (c : D), cs[k]? = some c → ∃ v, w.cell? ⟨g, k, none⟩ = some v ∧ c = .lit v ∧ Sc v) : Rep (allI w) w (.ip (.agg cs)) (.pointer (some ⟨g, 0, none⟩)) := by
  have ha : ∀ k, (⟨g, 0, none⟩ : Addr).add k = ⟨g, k, none⟩ := fun k => by
    cases k <;> simp [Addr.add]
  refine .ip ⟨g, 0, none⟩ (fun k => (w.cell? ⟨g, k, none⟩).getD (.bool false)) ?_ ?_ ?_
  · intro c hc
    obtain ⟨k, hk⟩ := List.mem_iff_getElem?.1 hc
    obtain ⟨v, _, rfl, _⟩ := h k c hk
    rfl
  · intro k c hk
    obtain ⟨v, hv, _, _⟩ := h k c hk
    rw [ha]
    exact ⟨by simp [allI, hv], by simp [hv]⟩
  · intro k c hk
    obtain ⟨v, hv, rfl, hs⟩ := h k c hk
    simp only [hv, Option.getD_some]
    exact .lit hs
def zs8 : List Int := hNums.map fun x => (x.toNat : Int)
def zs64 : List Int := kNums.map fun x => (x.toNat : Int)
theorem laid8 : (Rows.laid_hansard_digest_start : DataW Unit) = tabData .u32 zs8 := rfl
theorem laid64 : (Rows.laid_hansard_digest_numbers : DataW Unit) = tabData .u32 zs64 := rfl
theorem sc_u32 (x : UInt32) : Sc (.int .u32 (x.toNat : Int)) := by
  have := x.toNat_lt
  simp only [Sc, IntKind.min, IntKind.max, IntKind.signed, IntKind.bits]
  refine ⟨?_, ?_⟩ <;> simp <;> omega
theorem tab_of {W : World} {g : Nat} {l : List UInt32} (h : ∀ i, i < l.length → W.cell? ⟨g, i, none⟩ = some (.int .u32 ((l.map fun x => (x.toNat : Int)).getD i 0))) : Rep (allI W) W (.ip (.agg (l.map dQ))) (.pointer (some ⟨g, 0, none⟩)) := by
  refine ip_of fun k c hk => ?_
  rw [List.getElem?_map] at hk
  obtain ⟨x, hx, rfl⟩ := Option.map_eq_some_iff.1 hk
  obtain ⟨hl, he⟩ := List.getElem?_eq_some_iff.1 hx
  refine ⟨_, h k hl, ?_, ?_⟩
  · simp [hl, he, dQ]
  · simp only [List.getD, List.getElem?_map, hx, Option.map_some, Option.getD_some]
    exact sc_u32 x
theorem gS : Tryd.prog.globalNamed "hansard/digest.start" = some 0 := by kernel_rfl
theorem gK : Tryd.prog.globalNamed "hansard/digest.numbers" = some 1 := by kernel_rfl
theorem uA8 : Tryd.prog.underlying 71 = some (.array 8 70) := by kernel_rfl
theorem uA64 : Tryd.prog.underlying 84 = some (.array 64 70) := by kernel_rfl
theorem uU32 : Tryd.prog.underlying 70 = some (.int .u32) := by kernel_rfl
theorem zU32 : Tryd.prog.cellsOf 70 = 1 := by kernel_rfl
theorem zA8 : Tryd.prog.cellsOf 71 = 8 := by kernel_rfl
theorem zA64 : Tryd.prog.cellsOf 84 = 64 := by kernel_rfl
/-- The variables' cells make the contract's premise. -/
theorem glOk_of {W : World} (h : laidMet Tryd.prog [("hansard/digest.start", Rows.laid_hansard_digest_start), ("hansard/digest.numbers", Rows.laid_hansard_digest_numbers)] W) : GlOk (allI W) W := by
  rw [laid8, laid64] at h
  have h8 := tabIs_of_head gS (t := 71) (by kernel_rfl) uA8 uU32 zU32 zA8 h
  have h64 := tabIs_of_head gK (t := 84) (by kernel_rfl) uA64 uU32 zU32 zA64 h.tail
  intro p hp
  simp only [glbTab, List.mem_cons, List.not_mem_nil, or_false] at hp
  rcases hp with rfl | rfl
  · exact tab_of fun i hi => h8.cell gS i (by simpa [zs8] using hi)
  · exact tab_of fun i hi => h64.cell gK i (by simpa [zs64] using hi)
noncomputable def laidWorld (os : Os) : World :=
  let w0 := World.holding Tryd.prog os ⟨#[], #[], []⟩
  let put (h : Array Obj) (g : Nat) (cs : Array Value) : Array Obj := h.modify g fun
    | .cells _ t frozen => .cells cs t frozen
    | o => o
  let h1 := put w0.heap 0 (zs8.map fun z => Value.int .u32 z).toArray
  let h2 := put h1 1 (zs64.map fun z => Value.int .u32 z).toArray
  { w0 with heap := h2 }
theorem sU8i : Sees Tryd.prog 5 (fun x => ∃ n : Int, (IntKind.u8.min ≤ n ∧ n ≤ IntKind.u8.max) ∧ x = .lit (.int .u8 n)) := sees_int uB8
theorem sI64 : Sees Tryd.prog 3 (fun x => ∃ n : Int, (IntKind.i64.min ≤ n ∧ n ≤ IntKind.i64.max) ∧ x = .lit (.int .i64 n)) := sees_int uI
theorem changed' (l : List Lk) (n : Int) (hb : IntKind.u8.min ≤ n ∧ n ≤ IntKind.u8.max) (x : Lk) : PCall Tryd.prog 6 [.sl 35 (l.map dLk), .lit (.int .u8 n), dLk x] (.ret (dB true)) := by
  have h := chainChanged l (UInt8.ofNat n.toNat) x
  have e : dU (UInt8.ofNat n.toNat) = .lit (.int .u8 n) := by
    simp [IntKind.min, IntKind.max, IntKind.signed, IntKind.bits] at hb
    simp [dU]
    omega
  rw [e] at h
  exact h
end Go.Proofs.YtfegfnekphobmaaDoor
end
