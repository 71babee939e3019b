/- Part of the proof: S201, S202, S203, S204, S205. -/
import Derived.Test.YteonapeaaepipaaDoorProg
import Derived.KernelRfl
import Derived.Shelf.Spec.SlicesInsertGrow
import Derived.Test.YteonapeaaepipaaDoorE
set_option linter.unnecessarySimpa false
set_option linter.unusedVariables false
set_option linter.unusedSimpArgs false
section
namespace Go.Proofs.YteonapeaaepipaaDoor
open Go Go.Proofs.YteonapeaaepipaaDoor.AL Go.Shelf Go.RowKit Go.Lib
theorem mixed0 : Tryd.prog.follows .mixedOrders = true := by kernel_rfl
theorem uP : Tryd.prog.underlying 61 = some (.slice 65) := by kernel_rfl
theorem uI : Tryd.prog.underlying 3 = some (.int .i64) := by kernel_rfl
theorem run_copy' {P : Program} (w : World) (dT sT ty elem : TypeId) (b o dLen dCap : Nat) (a : Addr) (sLen sCap : Nat) (cs : List Value) {i : TypeInfo}
    (hu : P.underlying dT = some (.slice elem)) (hi : P.info? elem = some i) (hn : cs.length = Nat.min sLen dLen * i.size)
    (hsrc : ∀ j v, cs[j]? = some v → w.cell? (a.add j) = some v) (hc : ∀ j, j < cs.length → (w.cell? ⟨b, o + j, none⟩).isSome = true) (hf : ∀ j, j < cs.length → w.frozen? ⟨b, o + j, none⟩ = false) (h1 : ∀ v ∈ cs, v.oneCell' = true) :
    (Builtin.copy_ #[dT, sT] ty #[.slice (some ⟨b, o, none⟩) dLen dCap, .slice (some a) sLen sCap]).run P w = .ok (goInt (Nat.min sLen dLen)) (w.setCells b o cs) := by
  have hl := run_loadCells_list (P := P) w a cs hsrc
  have hst := run_storeCells_cells (P := P) b o cs 0 w (by simpa using hc) (by simpa using hf) h1
  simp [Builtin.copy_, run_underlying hu, Builtin.lenOf, Builtin.firstCells, sizeOf, typeInfo, hi, ← hn, hl, hst]
set_option maxHeartbeats 4000000 in
set_option maxRecDepth 100000 in
theorem ins_end (n c m vc : Nat) (A B : Option Addr) (w w2 : World) (v2 : Value) (hm : 0 < m) (hnc : n ≤ c)
    (hrun : ∀ ty, (Builtin.append_ #[61, 61] ty #[.slice A n c, .slice B m vc]).run Tryd.prog w = .ok v2 w2) :
    Calls Tryd.prog 67 #[.slice A n c, .int .i64 n, .slice B m vc] w fun e w' => e = .returned v2 ∧ w' = w2 := by
  have mixed := mixed0
  have hz1 : ¬ ((m : Int) = 0) := by omega
  go_enter Tryd.func67, Tryd.ntmps67
  cases A with
  | none =>
    go_wp2_with (at_builtin; refine Lib.wpList_append_run _ rfl _ _ _ _ rfl _ _ rfl rfl _ _ (hrun _) ?_)
    go_ret
    exact ⟨rfl, rfl⟩
  | some a =>
    obtain ⟨ab, ao, asp⟩ := a
    go_wp2_with (at_builtin; refine Lib.wpList_append_run _ rfl _ _ _ _ rfl _ _ rfl rfl _ _ (hrun _) ?_)
    all_goals (go_ret; exact ⟨rfl, rfl⟩)
end Go.Proofs.YteonapeaaepipaaDoor
end

section
namespace Go.Proofs.YteonapeaaepipaaDoor
open Go Go.Proofs.YteonapeaaepipaaDoor.AL Go.Shelf Go.RowKit Go.Lib
theorem isSome_set (b : Nat) (vs : List Value) (o : Nat) (w : World) (h : ∀ j, j < vs.length → (w.cell? ⟨b, o + j, none⟩).isSome = true) (k : Nat) (hk : (w.cell? ⟨b, k, none⟩).isSome = true) : ((w.setCells b o vs).cell? ⟨b, k, none⟩).isSome = true := isSome_setCells b vs o w h k hk
set_option maxHeartbeats 4000000 in
set_option maxRecDepth 100000 in
theorem ins_shift (i0 : TypeInfo) (hi0 : Tryd.prog.info? 65 = some i0) (hz : i0.size = 6) (b off n c i vb voff m vc : Nat) (cs vs : List Value) (w : World) (hi : i < n) (hm : 0 < m) (hroom : n + m ≤ c) (hc63 : c ≤ 9223372036854775807) (hvb : vb ≠ b)
    (hcl : cs.length = n * 6) (hvl : vs.length = m * 6)
    (hcs : ∀ j v, cs[j]? = some v → w.cell? ⟨b, off + j, none⟩ = some v) (hsp : ∀ j, j < (n + m) * 6 → (w.cell? ⟨b, off + j, none⟩).isSome = true) (hfz : ∀ j, j < (n + m) * 6 → w.frozen? ⟨b, off + j, none⟩ = false)
    (hvs : ∀ j v, vs[j]? = some v → w.cell? ⟨vb, voff + j, none⟩ = some v) (h1c : ∀ v ∈ cs, v.oneCell' = true) (h1v : ∀ v ∈ vs, v.oneCell' = true)
    (tA tB : TypeId) (kA kB : Nat) (hsa : w.shape? vb = some (tA, kA)) (hsb : w.shape? b = some (tB, kB)) (hkB : kB ≠ 0) (hfa : w.frozen? ⟨vb, voff, none⟩ = false) (hfe : w.frozen? ⟨vb, kA, none⟩ = false) :
    Calls Tryd.prog 67 #[.slice (some ⟨b, off, none⟩) n c, .int .i64 i, .slice (some ⟨vb, voff, none⟩) m vc] w fun e w' =>
      e = .returned (.slice (some ⟨b, off, none⟩) (n + m) c) ∧ w' = (w.drew.setCells b (off + (i + m) * 6) (cs.drop (i * 6))).setCells b (off + i * 6) vs := by
  have mixed := mixed0
  have hz1 : ¬ ((m : Int) = 0) := by omega
  have hz2 : ¬ ((i : Int) = (n : Int)) := by omega
  have hov : ∀ lb cb, (callFunc 100 #[.slice (some ⟨vb, voff, none⟩) m vc, .slice (some ⟨b, off + (i + m) * 6, none⟩) lb cb]).run Tryd.prog w = .ok (.value (.bool false)) w := fun lb cb => by
    rw [run_callFunc_extern Tryd.func100 (by kernel_rfl) (by kernel_rfl) (by kernel_rfl) (e := Extern.SlicesOverlaps.overlaps #[61, 61] #[4]) (by kernel_rfl),
      Lib.run_overlaps_apart w 61 4 65 uP 6 (fun w => by simp [sizeOf, typeInfo, hi0, hz]) ⟨vb, voff, none⟩ ⟨b, off + (i + m) * 6, none⟩ m vc lb cb hvb tA tB kA kB hsa hsb hkB hfa hfe]
    rfl
  have hdl : (cs.drop (i * 6)).length = (n - i) * 6 := by rw [List.length_drop, hcl, Nat.sub_mul]
  have hmul : (n + m) * 6 = i * 6 + (n - i) * 6 + m * 6 := by rw [← Nat.add_mul, ← Nat.add_mul]; congr 1; omega
  have hmul2 : (i + m) * 6 = i * 6 + m * 6 := Nat.add_mul _ _ _
  have hw1 : IntKind.i64.wrap ((i : Int) + (m : Int)) = (i : Int) + (m : Int) := by rw [IntKind.wrap_i64]; omega
  have hb1 : (0 : Int) ≤ (i : Int) + (m : Int) := by omega
  have hin : i ≤ n := by omega
  have htn : ((i : Int) + (m : Int)).toNat = i + m := by omega
  have hb2 : ¬ (c = i + m) := by omega
  have hb3 : (i : Int) ≤ (n : Int) + (m : Int) := by omega
  have hb4 : ¬ (c = i) := by omega
  have hcp1 : ∀ ty dc sc, (Builtin.copy_ #[61, 61] ty #[.slice (some ⟨b, off + (i + m) * 6, none⟩) (n + m - (i + m)) dc, .slice (some ⟨b, off + i * 6, none⟩) (n + m - i) sc]).run Tryd.prog w.drew = .ok (goInt (Nat.min (n + m - i) (n + m - (i + m)))) (w.drew.setCells b (off + (i + m) * 6) (cs.drop (i * 6))) := fun ty dc sc =>
    run_copy' w.drew _ _ ty 65 b (off + (i + m) * 6) (n + m - (i + m)) dc ⟨b, off + i * 6, none⟩ (n + m - i) sc (cs.drop (i * 6)) uP hi0 (by rw [hdl, hz]; congr 1; simp only [Nat.min_def]; split <;> omega)
      (fun j v hj => by rw [Addr.add_lit, Nat.add_assoc]; exact hcs (i * 6 + j) v (by rwa [List.getElem?_drop] at hj))
      (fun j hj => by rw [Nat.add_assoc]; exact hsp _ (by rw [hdl] at hj; omega)) (fun j hj => by rw [Nat.add_assoc]; exact hfz _ (by rw [hdl] at hj; omega)) (fun v hv => h1c v (List.mem_of_mem_drop hv))
  obtain ⟨W1, hW1⟩ : ∃ W1, W1 = w.drew.setCells b (off + (i + m) * 6) (cs.drop (i * 6)) := ⟨_, rfl⟩
  have hsp1 : ∀ k, k < (n + m) * 6 → (W1.cell? ⟨b, off + k, none⟩).isSome = true := fun k hk => by
    rw [hW1]
    exact isSome_set b _ _ _ (fun j hj => by rw [Nat.add_assoc]; exact hsp _ (by rw [hdl] at hj; omega)) _ (hsp k hk)
  have hcp2 : ∀ (W : World), (∀ x, W.cell? x = W1.cell? x) → (∀ x, W.frozen? x = W1.frozen? x) → ∀ ty dc, (Builtin.copy_ #[61, 61] ty #[.slice (some ⟨b, off + i * 6, none⟩) (n + m - i) dc, .slice (some ⟨vb, voff, none⟩) m vc]).run Tryd.prog W = .ok (goInt (Nat.min m (n + m - i))) (W.setCells b (off + i * 6) vs) := fun W hWc hWf ty dc =>
    run_copy' W _ _ ty 65 b (off + i * 6) (n + m - i) dc ⟨vb, voff, none⟩ m vc vs uP hi0 (by rw [hvl, hz]; congr 1; simp only [Nat.min_def]; split <;> omega)
      (fun j v hj => by
        rw [Addr.add_lit, hWc, hW1, World.cell?_setCells_out b _ _ _ _ (fun h _ => absurd h hvb)]
        exact hvs j v hj)
      (fun j hj => by rw [hWc, Nat.add_assoc]; exact hsp1 _ (by rw [hvl] at hj; omega)) (fun j hj => by rw [hWf, hW1, World.frozen?_setCells, Nat.add_assoc]; exact hfz _ (by rw [hvl] at hj; omega)) h1v
  rw [← hW1] at hcp1
  have hsz6 : (sizeOf 65).run Tryd.prog w = .ok 6 w := by simp [sizeOf, typeInfo, hi0, hz]
  clear hmul hmul2 hdl hcl hvl
  go_enter Tryd.func67, Tryd.ntmps67
  go_wp2_with (simp only [hov])
  go_region_law_o (refine step_copy_runI rfl _ _ 61 61 rfl _ _ (by simp [Act.eval, Act.put]) (by simp [Act.eval, Act.put]) (hcp1 _ _ _) ?_)
  go_wp2_with (at_builtin; refine wpList_copy_runI _ rfl _ _ 61 61 rfl _ _ rfl rfl (hcp2 _ (fun _ => rfl) (fun _ => rfl) _ _) ?_)
  go_ret
  first | exact ⟨rfl, rfl⟩ | exact ⟨rfl, by rw [hW1]⟩
end Go.Proofs.YteonapeaaepipaaDoor
end

section
namespace Go.Proofs.YteonapeaaepipaaDoor
open Go Go.Proofs.YteonapeaaepipaaDoor.AL Go.Shelf Go.RowKit Go.Lib
theorem size_zc (z : Array Value) (n : Nat) : (Builtin.zeroCells z n).size = n * z.size := size_zeroCells z n
set_option maxHeartbeats 4000000 in
set_option maxRecDepth 100000 in
theorem ins_grow (i0 : TypeInfo) (hi0 : Tryd.prog.info? 65 = some i0) (hz : i0.size = 6) (zv : Value) (hz0 : i0.zero = some zv) (hzs : zv.cells.size = 6) (b off n c i vb voff m vc : Nat) (cs vs : List Value) (w : World) (hi : i < n) (hm : 0 < m) (hnc : n ≤ c) (hroom : c < n + m)
    (hbig : (n + m) * i0.bytes ≤ 140737488355328) (h63 : n + m ≤ 9223372036854775807)
    (hcl : cs.length = n * 6) (hvl : vs.length = m * 6)
    (hcs : ∀ j v, cs[j]? = some v → w.cell? ⟨b, off + j, none⟩ = some v)
    (hvs : ∀ j v, vs[j]? = some v → w.cell? ⟨vb, voff + j, none⟩ = some v) (h1c : ∀ v ∈ cs, v.oneCell' = true) (h1v : ∀ v ∈ vs, v.oneCell' = true) :
    Calls Tryd.prog 67 #[.slice (some ⟨b, off, none⟩) n c, .int .i64 i, .slice (some ⟨vb, voff, none⟩) m vc] w fun e w' =>
      ∃ G, n + m ≤ G ∧ G ≤ 9223372036854775807 ∧ e = .returned (.slice (some ⟨w.heap.size, 0, none⟩) (n + m) G) ∧
      w' = (((w.alloc (.cells ((cs.take (i * 6)).toArray ++ Builtin.zeroCells zv.cells (n + m - i) ++ Builtin.zeroCells zv.cells (G - (n + m))) 65)).drew.setCells w.heap.size (i * 6) vs).drew).setCells w.heap.size ((i + m) * 6) (cs.drop (i * 6)) := by
  have mixed := mixed0
  have hz1 : ¬ ((m : Int) = 0) := by omega
  have hz2 : ¬ ((i : Int) = (n : Int)) := by omega
  have hz3 : (c : Int) < (n : Int) + (m : Int) := by omega
  have hbw : b < w.heap.size := block_lt_of_cell (hcs 0 _ (List.getElem?_eq_getElem (by omega)))
  have hvw : vb < w.heap.size := block_lt_of_cell (hvs 0 _ (List.getElem?_eq_getElem (by omega)))
  have hkk : (n : Int) + (m : Int) - (i : Int) = ((n + m - i : Nat) : Int) := by omega
  have hik : i + (n + m - i) = n + m := by omega
  have hold : (Builtin.firstCells i0.size i (.slice (some ⟨b, off, none⟩) i c)).run Tryd.prog w.drew = .ok (cs.take (i * 6)).toArray w.drew := by
    rw [hz]
    exact run_firstCells_some w.drew 6 i ⟨b, off, none⟩ i c (cs.take (i * 6)) (by rw [List.length_take]; omega) (fun j v hj => by
      rw [Addr.add_lit]
      rw [List.getElem?_take] at hj
      split at hj
      · exact hcs j v hj
      · cases hj)
  have hb6 : (n + m - i) * i0.bytes ≤ (n + m) * i0.bytes := Nat.mul_le_mul_right _ (by omega)
  have hrz : ∀ ty, (Builtin.append_ #[61, 3] ty #[.slice (some ⟨b, off, none⟩) i c, .int .i64 ((n : Int) + (m : Int) - (i : Int))]).run Tryd.prog w =
      .ok (.slice (some ⟨w.heap.size, 0, none⟩) (n + m) (grownCap w (n + m) c 65)) (w.drew.alloc (.cells ((cs.take (i * 6)).toArray ++ Builtin.zeroCells zv.cells (n + m - i) ++ Builtin.zeroCells zv.cells (grownCap w (n + m) c 65 - (n + m))) 65)) := fun ty => by
    have h := Lib.run_append_grow_zeros w 61 3 ty 65 i0 _ .i64 .i64 uP uI hi0 hz0 (some ⟨b, off, none⟩) i c (cs.take (i * 6)) hold (n + m - i) (by omega) (by omega) (by omega) (by omega) (by omega) (by rw [hik]; exact growslice_fits hroom hbig)
    rw [hik] at h
    rw [hkk]
    exact h
  obtain ⟨G, hG⟩ : ∃ G, G = grownCap w (n + m) c 65 := ⟨_, rfl⟩
  obtain ⟨ROW, hROW⟩ : ∃ ROW : Array Value, ROW = (cs.take (i * 6)).toArray ++ Builtin.zeroCells zv.cells (n + m - i) ++ Builtin.zeroCells zv.cells (G - (n + m)) := ⟨_, rfl⟩
  rw [← hG] at hrz
  rw [← hROW] at hrz
  have hRl : (n + m) * 6 ≤ ROW.size := by
    rw [hROW]
    simp only [Array.size_append, List.size_toArray, List.length_take, size_zc, hzs]
    omega
  obtain ⟨W1, hW1⟩ : ∃ W1, W1 = w.drew.alloc (.cells ROW 65) := ⟨_, rfl⟩
  rw [← hW1] at hrz
  have hN : ∀ j, j < (n + m) * 6 → (W1.cell? ⟨w.heap.size, j, none⟩).isSome = true := fun j hj => by
    rw [hW1, World.cell?_alloc_at (w := w.drew) ROW _ w.heap.size j rfl, Array.getElem?_eq_getElem (by omega)]; rfl
  have hNf : ∀ j, W1.frozen? ⟨w.heap.size, j, none⟩ = false := fun j => by rw [hW1]; exact World.frozen?_alloc_at (w := w.drew) ROW _ w.heap.size j rfl
  have hOb : ∀ j v, w.cell? ⟨b, j, none⟩ = some v → W1.cell? ⟨b, j, none⟩ = some v := fun j v h => by rw [hW1, World.cell?_alloc_past (w := w.drew) _ b j hbw]; exact h
  have hOv : ∀ j v, w.cell? ⟨vb, j, none⟩ = some v → W1.cell? ⟨vb, j, none⟩ = some v := fun j v h => by rw [hW1, World.cell?_alloc_past (w := w.drew) _ vb j hvw]; exact h
  have hcpA : ∀ (W : World), (∀ x, W.cell? x = W1.cell? x) → (∀ x, W.frozen? x = W1.frozen? x) → ∀ ty dc, (Builtin.copy_ #[61, 61] ty #[.slice (some ⟨w.heap.size, i * 6, none⟩) (n + m - i) dc, .slice (some ⟨vb, voff, none⟩) m vc]).run Tryd.prog W = .ok (goInt (Nat.min m (n + m - i))) (W.setCells w.heap.size (i * 6) vs) := fun W hWc hWf ty dc =>
    run_copy' W _ _ ty 65 w.heap.size (i * 6) (n + m - i) dc ⟨vb, voff, none⟩ m vc vs uP hi0 (by rw [hvl, hz]; congr 1; simp only [Nat.min_def]; split <;> omega)
      (fun j v hj => by rw [Addr.add_lit, hWc]; exact hOv _ v (hvs j v hj))
      (fun j hj => by rw [hWc]; exact hN _ (by omega)) (fun j hj => by rw [hWf]; exact hNf _) h1v
  have hGn : n + m ≤ G := by rw [hG]; exact grownCap_ge w _ _ _
  have hG63 : G ≤ 9223372036854775807 := by
    have := grownCap_le_maxLen w (n + m) c 65 (by unfold maxLen; omega)
    rw [← hG] at this
    unfold maxLen at this
    omega
  have hGi : ¬ (G = i) := by omega
  have hGim : ¬ (G = i + m) := by omega
  have hci : ¬ (c = i) := by omega
  have hbN : b ≠ w.heap.size := by omega
  have hdl : (cs.drop (i * 6)).length = (n - i) * 6 := by rw [List.length_drop]; omega
  have hcpB : ∀ (W : World), (∀ x, W.cell? x = (W1.setCells w.heap.size (i * 6) vs).cell? x) → (∀ x, W.frozen? x = (W1.setCells w.heap.size (i * 6) vs).frozen? x) → ∀ ty dc sc, (Builtin.copy_ #[61, 61] ty #[.slice (some ⟨w.heap.size, (i + m) * 6, none⟩) (n + m - (i + m)) dc, .slice (some ⟨b, off + i * 6, none⟩) (n - i) sc]).run Tryd.prog W = .ok (goInt (Nat.min (n - i) (n + m - (i + m)))) (W.setCells w.heap.size ((i + m) * 6) (cs.drop (i * 6))) := fun W hWc hWf ty dc sc =>
    run_copy' W _ _ ty 65 w.heap.size ((i + m) * 6) (n + m - (i + m)) dc ⟨b, off + i * 6, none⟩ (n - i) sc (cs.drop (i * 6)) uP hi0 (by rw [hdl, hz]; congr 1; simp only [Nat.min_def]; split <;> omega)
      (fun j v hj => by
        rw [Addr.add_lit, hWc, World.cell?_setCells_out _ _ _ _ _ (fun h _ => absurd h hbN), Nat.add_assoc]
        exact hOb _ v (hcs (i * 6 + j) v (by rwa [List.getElem?_drop] at hj)))
      (fun j hj => by rw [hWc]; exact isSome_set _ _ _ _ (fun t ht => hN _ (by omega)) _ (hN _ (by rw [hdl] at hj; omega)))
      (fun j hj => by rw [hWf, World.frozen?_setCells]; exact hNf _) (fun v hv => h1c v (List.mem_of_mem_drop hv))
  subst hW1
  have hE1 : ∀ x, ((w.alloc (.cells ROW 65)).drew).cell? x = (w.drew.alloc (.cells ROW 65)).cell? x := fun x => rfl
  have hE2 : ∀ x, ((w.alloc (.cells ROW 65)).drew).frozen? x = (w.drew.alloc (.cells ROW 65)).frozen? x := fun x => rfl
  have hF1 : ∀ x, (((w.alloc (.cells ROW 65)).drew.setCells w.heap.size (i * 6) vs).drew).cell? x = ((w.drew.alloc (.cells ROW 65)).setCells w.heap.size (i * 6) vs).cell? x := fun x => rfl
  have hF2 : ∀ x, (((w.alloc (.cells ROW 65)).drew.setCells w.heap.size (i * 6) vs).drew).frozen? x = ((w.drew.alloc (.cells ROW 65)).setCells w.heap.size (i * 6) vs).frozen? x := fun x => rfl
  have hw1 : IntKind.i64.wrap ((i : Int) + (m : Int)) = (i : Int) + (m : Int) := by rw [IntKind.wrap_i64]; omega
  have hb1 : (0 : Int) ≤ (i : Int) + (m : Int) := by omega
  have hin : i ≤ n := by omega
  have htn : ((i : Int) + (m : Int)).toNat = i + m := by omega
  have hb3 : (i : Int) ≤ (n : Int) := by omega
  suffices hmain : Calls Tryd.prog 67 #[.slice (some ⟨b, off, none⟩) n c, .int .i64 i, .slice (some ⟨vb, voff, none⟩) m vc] w fun e w' =>
      e = .returned (.slice (some ⟨w.heap.size, 0, none⟩) (n + m) G) ∧ w' = (((w.alloc (.cells ROW 65)).drew.setCells w.heap.size (i * 6) vs).drew).setCells w.heap.size ((i + m) * 6) (cs.drop (i * 6)) by
    refine hmain.mono fun e w' ⟨h1, h2⟩ => ⟨G, hGn, hG63, h1, by rw [h2, hROW]⟩
  clear hkk hik hold hROW hG hRl hcl hvl hdl hb6 hbig hzs hz
  go_enter Tryd.func67, Tryd.ntmps67
  go_wp2_with (first
    | (at_builtin; refine Lib.wpList_append_run _ rfl _ _ _ _ rfl _ _ rfl rfl _ _ (hrz _) ?_)
    | (at_builtin; refine wpList_copy_runI _ rfl _ _ 61 61 rfl _ _ rfl rfl (hcpA _ hE1 hE2 _ _) ?_)
    | (at_builtin; refine wpList_copy_runI _ rfl _ _ 61 61 rfl _ _ rfl rfl (hcpB _ (fun _ => rfl) (fun _ => rfl) _ _ _) ?_))
  go_region_law_o (refine step_copy_runI rfl _ _ 61 61 rfl (.slice (some ⟨w.heap.size, (i + m) * 6, none⟩) (n + m - (i + m)) (G - (i + m))) (.slice (some ⟨b, off + i * 6, none⟩) (n - i) (c - i)) (by simp [Act.eval, Act.put]) (by simp [Act.eval, Act.put]) (hcpB _ hF1 hF2 3 (G - (i + m)) (c - i)) ?_)
  go_wp2
  go_ret
  exact ⟨rfl, rfl⟩
end Go.Proofs.YteonapeaaepipaaDoor
end

section
namespace Go.Proofs.YteonapeaaepipaaDoor
open Go Go.Proofs.YteonapeaaepipaaDoor.AL Go.Shelf Go.RowKit Go.Lib
theorem iP : ∃ i0 : TypeInfo, Tryd.prog.info? 65 = some i0 ∧ i0.size = 6 ∧ i0.bytes = 64 ∧ ∃ zv, i0.zero = some zv ∧ zv.cells.size = 6 := by
  have h : (match Tryd.prog.info? 65 with | some i => (i.size == 6) && ((i.bytes == 64) && (match i.zero with | some zv => zv.cells.size == 6 | none => false)) | none => false) = true := by kernel_rfl
  split at h
  · rename_i i hi
    simp only [Bool.and_eq_true, beq_iff_eq] at h
    obtain ⟨h1, h2, h3⟩ := h
    split at h3
    · rename_i zv hz
      exact ⟨i, hi, h1, h2, zv, hz, by simpa using h3⟩
    · cases h3
  · cases h
set_option maxHeartbeats 4000000 in
set_option maxRecDepth 100000 in
theorem clone_nil (c : Nat) (w : World) : Calls Tryd.prog 68 #[.slice none 0 c] w fun e w' => e = .returned (.slice none 0 0) ∧ w' = w := by
  have mixed := mixed0
  have q22 : ∀ (w : World) (a : Option Addr) (n c n' c' : Nat), (binOp .eql 61 (.slice a n c) (.slice none n' c')).run Tryd.prog w = .ok (.bool a.isNone) w := fun w a n c n' c' => Lib.run_eql_slice_nil w _ _ a n c n' c' uP
  go_enter Tryd.func68, Tryd.ntmps68
  go_wp2
  go_ret
  exact ⟨rfl, rfl⟩
set_option maxHeartbeats 4000000 in
set_option maxRecDepth 100000 in
theorem clone_some (ad : Addr) (n c : Nat) (w w2 : World) (v2 : Value) (hrun : ∀ ty, (Builtin.append_ #[61, 61] ty #[.slice (some ⟨w.heap.size, 0, none⟩) 0 0, .slice (some ad) n c]).run Tryd.prog (w.alloc (.cells #[] 65)) = .ok v2 w2) :
    Calls Tryd.prog 68 #[.slice (some ad) n c] w fun e w' => e = .returned v2 ∧ w' = w2 := by
  have mixed := mixed0
  have q22 : ∀ (w : World) (a : Option Addr) (n c n' c' : Nat), (binOp .eql 61 (.slice a n c) (.slice none n' c')).run Tryd.prog w = .ok (.bool a.isNone) w := fun w a n c n' c' => Lib.run_eql_slice_nil w _ _ a n c n' c' uP
  go_enter Tryd.func68, Tryd.ntmps68
  go_wp2_with (at_builtin; refine Lib.wpList_append_run _ rfl _ _ _ _ rfl _ _ rfl rfl _ _ (hrun _) ?_)
  go_ret
  exact ⟨rfl, rfl⟩
theorem call68 : Callable Tryd.prog 68 := ⟨_, Tryd.func68, by kernel_rfl, by kernel_rfl⟩
theorem call67 : Callable Tryd.prog 67 := ⟨_, Tryd.func67, by kernel_rfl, by kernel_rfl⟩
theorem clone68 : CloneOk Tryd.prog 68 6 64 := by
  obtain ⟨i0, hi0, hz, hby, zv, hz0, hzs⟩ := iP
  refine ⟨call68, by decide, fun w A n c cs hnc hc hl hA hcs h1 hb => ?_⟩
  cases A with
  | none =>
    have h0 := hA rfl
    subst h0
    exact (clone_nil c w).mono fun e w' ⟨he, hw⟩ => by subst hw; exact ⟨Grow.refl w', .inl ⟨rfl, none, he⟩⟩
  | some ad =>
    have g1 : Grow w (w.alloc (.cells #[] 65)) := Grow.alloc w _
    rcases Nat.eq_zero_or_pos n with h0 | h0
    · subst h0
      have hrun := fun ty => run_append_zero (P := Tryd.prog) (t := 61) (ty := ty) (w := w.alloc (.cells #[] 65)) (A := some ⟨w.heap.size, 0, none⟩) (A' := some ad) (n := 0) (cap := 0) (c := c) uP hi0 (Nat.le_refl 0)
      exact (clone_some ad 0 c w _ _ hrun).mono fun e w' ⟨he, hw⟩ => by subst hw; exact ⟨g1, .inl ⟨rfl, _, he⟩⟩
    · have hcell : ∀ j u, cs[j]? = some u → (w.alloc (.cells #[] 65)).cell? (ad.add j) = some u := fun j u hj => by
        have h := hcs ad rfl j u hj
        have hlt := World.block_lt_of_cell? w _ (by rw [h])
        rw [g1.cell hlt]; exact h
      have hb' : (0 + n) * i0.bytes ≤ 140737488355328 := by rw [hby, Nat.zero_add]; exact hb
      have hrun := fun ty => run_append_grow (P := Tryd.prog) (w.alloc (.cells #[] 65)) 61 ty 65 i0 zv uP hi0 hz0 ⟨w.heap.size, 0, none⟩ 0 0 [] (by simp) (by simp) ad n c cs (by rw [hl, hz]) hcell (by omega) (by omega) (growslice_fits (by omega) hb')
      refine (clone_some ad n c w _ _ hrun).mono fun e w' ⟨he, hw⟩ => ?_
      generalize hG : grownCap (w.alloc (.cells #[] 65)) (0 + n) 0 65 = ncap at he hw
      have hge : 0 + n ≤ ncap := by rw [← hG]; exact grownCap_ge _ _ _ _
      have hle : ncap ≤ 9223372036854775807 := by rw [← hG]; exact grownCap_le_maxLen _ _ _ _ (by simp only [maxLen]; omega)
      subst hw
      refine ⟨⟨rfl, rfl, rfl, by simp; omega, fun b hb => ?_⟩, .inr ⟨h0, (w.alloc (.cells #[] 65)).heap.size, ncap, _, 65, by simpa using he, by simp, heap_alloc_new (w.alloc (.cells #[] 65)).drew _, by omega, hle, ?_, fun j u hj => ?_⟩⟩
      · have e1 := g1.block b hb
        rw [← e1]
        have hlt : b < (w.alloc (.cells #[] 65)).drew.heap.size := by simp; omega
        first | exact heap_alloc_old (w.alloc (.cells #[] 65)).drew _ b hlt | exact heap_alloc_old (w.alloc (.cells #[] 65)).drew _ hlt
      · simp only [Array.size_append, List.size_toArray, size_zc, hzs, List.length_nil, hl]
        have : ncap * 6 = n * 6 + (ncap - (0 + n)) * 6 := by omega
        omega
      · have hlt := (List.getElem?_eq_some_iff.1 hj).1
        rw [Array.getElem?_append_left (by simp; exact hlt)]
        simpa using hj
end Go.Proofs.YteonapeaaepipaaDoor
end

section
namespace Go.Proofs.YteonapeaaepipaaDoor
open Go Go.Proofs.YteonapeaaepipaaDoor.AL Go.Shelf Go.RowKit Go.Lib
/-- Cells of a block are written: what is there then. -/
theorem set1 (b : Nat) : ∀ (vs : List Value) (o : Nat) (w : World) (arr : Array Value) (ty : TypeId), w.heap[b]? = some (.cells arr ty (0, 0)) → o + vs.length ≤ arr.size →
    ∃ arr' : Array Value, (w.setCells b o vs).heap[b]? = some (.cells arr' ty (0, 0)) ∧ arr'.size = arr.size ∧ (∀ k, (k < o ∨ o + vs.length ≤ k) → arr'[k]? = arr[k]?) ∧ (∀ (j : Nat) (u : Value), vs[j]? = some u → arr'[o + j]? = some u) ∧
      ((w.setCells b o vs).os = w.os ∧ (w.setCells b o vs).tape = w.tape ∧ (w.setCells b o vs).output = w.output ∧ (w.setCells b o vs).heap.size = w.heap.size) ∧ ∀ k, k ≠ b → (w.setCells b o vs).heap[k]? = w.heap[k]?
  | [], o, w, arr, ty, hh, _ => ⟨arr, hh, rfl, fun _ _ => rfl, fun j u hj => by simp at hj, ⟨rfl, rfl, rfl, rfl⟩, fun _ _ => rfl⟩
  | v :: r, o, w, arr, ty, hh, hl => by
    simp only [List.length_cons] at hl
    have hnew : (w.setCell ⟨b, o, none⟩ v).heap[b]? = some (.cells (arr.setIfInBounds o v) ty (0, 0)) := by
      simp [World.setCell, Array.getElem?_modify, hh]
    obtain ⟨arr', h1, h2, h3, h4, ⟨h5, h6, h7, h8⟩, h9⟩ := set1 b r (o + 1) (w.setCell ⟨b, o, none⟩ v) _ ty hnew (by simp; omega)
    refine ⟨arr', by rw [World.setCells]; exact h1, by rw [h2]; simp, fun k hk => ?_, fun j u hj => ?_, ⟨by rw [World.setCells]; exact h5, by rw [World.setCells]; exact h6, by rw [World.setCells]; exact h7, by rw [World.setCells, h8]; simp [World.setCell]⟩, fun k hk => ?_⟩
    · simp only [List.length_cons] at hk
      rw [h3 k (by omega), Array.getElem?_setIfInBounds]
      rw [if_neg (by omega)]
    · cases j with
      | zero =>
        simp at hj; subst hj
        rw [Nat.add_zero, h3 o (by omega), Array.getElem?_setIfInBounds, if_pos rfl, if_pos (by omega)]
      | succ j =>
        have := h4 j u (by simpa using hj)
        rw [show o + (j + 1) = o + 1 + j by omega]; exact this
    · rw [World.setCells, h9 k hk]
      simp only [World.setCell, Array.getElem?_modify]
      rw [if_neg (by omega)]
theorem list3 {α : Type} (a b c : List α) (j : Nat) (u : α) (h : (a ++ b ++ c)[j]? = some u) : (j < a.length ∧ a[j]? = some u) ∨ (∃ k, j = a.length + k ∧ b[k]? = some u) ∨ ∃ k, j = a.length + b.length + k ∧ c[k]? = some u := by
  by_cases h1 : j < a.length
  · left; refine ⟨h1, ?_⟩
    rw [List.append_assoc, List.getElem?_append_left h1] at h; exact h
  · rw [List.append_assoc, List.getElem?_append_right (by omega)] at h
    by_cases h2 : j - a.length < b.length
    · rw [List.getElem?_append_left h2] at h
      exact .inr (.inl ⟨j - a.length, by omega, h⟩)
    · rw [List.getElem?_append_right (by omega)] at h
      exact .inr (.inr ⟨j - a.length - b.length, by omega, h⟩)
set_option maxRecDepth 100000 in
theorem ins67 : InsOk Tryd.prog 67 6 64 := by
  obtain ⟨i0, hi0, hz, hby, zv, hz0, hzs⟩ := iP
  refine ⟨call67, by decide, fun w A n c i vb m vc cs vs hin hnc hroom hm hcl hvl hn0 hA hvs h1c h1v hb h63 => ?_, fun w b n c i vb m vc cs vs arr ty arrv tyv hin hn hroom hc63 hm hne hh hcap hhv hcl hvl hca hva h1c h1v => ?_⟩
  · have hb' : (n + m) * i0.bytes ≤ 140737488355328 := by rw [hby]; exact hb
    have hvs' : ∀ j u, vs[j]? = some u → w.cell? ((⟨vb, 0, none⟩ : Addr).add j) = some u := fun j u hj => by rw [Addr.add_lit, Nat.zero_add]; exact hvs j u hj
    by_cases hie : i = n
    · -- behind the last one
      subst hie
      have hrun : ∃ oldc, ∀ ty, (Builtin.append_ #[61, 61] ty #[.slice A i c, .slice (some ⟨vb, 0, none⟩) m vc]).run Tryd.prog w = .ok (.slice (some ⟨w.heap.size, 0, none⟩) (i + m) (grownCap w (i + m) oldc 65))
          (w.drew.alloc (.cells (cs.toArray ++ vs.toArray ++ Builtin.zeroCells zv.cells (grownCap w (i + m) oldc 65 - (i + m))) 65)) := by
        cases A with
        | none =>
          have hi0' : i = 0 := by
            rcases Nat.eq_zero_or_pos i with h | h
            · exact h
            · obtain ⟨b, hb, _⟩ := hA h; cases hb
          subst hi0'
          have hc0 := hn0 rfl
          subst hc0
          have hcs0 : cs = [] := List.eq_nil_of_length_eq_zero (by omega)
          subst hcs0
          refine ⟨0, fun ty => ?_⟩
          have := run_append_nil (P := Tryd.prog) w 61 ty 65 i0 zv uP hi0 hz0 ⟨vb, 0, none⟩ m vc vs (by rw [hvl, hz]) hvs' hm (by omega) (by rw [Nat.zero_add] at hb'; omega)
          simpa using this
        | some ad =>
          refine ⟨c, fun ty => ?_⟩
          have hcs' : ∀ j u, cs[j]? = some u → w.cell? (ad.add j) = some u := fun j u hj => by
            have hlt := (List.getElem?_eq_some_iff.1 hj).1
            obtain ⟨b, hb, hcell⟩ := hA (by omega)
            injection hb with hb; subst hb
            rw [Addr.add_lit, Nat.zero_add]; exact hcell j u hj
          exact run_append_grow (P := Tryd.prog) w 61 ty 65 i0 zv uP hi0 hz0 ad i c cs (by rw [hcl, hz]) hcs' ⟨vb, 0, none⟩ m vc vs (by rw [hvl, hz]) hvs' hroom (by omega) (growslice_fits hroom hb')
      obtain ⟨oldc, hrun⟩ := hrun
      refine (ins_end i c m vc A (some ⟨vb, 0, none⟩) w _ _ hm hnc hrun).mono fun e w' ⟨he, hw⟩ => ?_
      generalize hG : grownCap w (i + m) oldc 65 = ncap at he hw
      have hge : i + m ≤ ncap := by rw [← hG]; exact grownCap_ge _ _ _ _
      have hle : ncap ≤ 9223372036854775807 := by rw [← hG]; exact grownCap_le_maxLen _ _ _ _ (by simp only [maxLen]; omega)
      subst hw
      refine ⟨⟨rfl, rfl, rfl, by simp, fun b hb => by first | exact heap_alloc_old w.drew _ b hb | exact heap_alloc_old w.drew _ hb⟩, w.heap.size, ncap, _, 65, he, Nat.le_refl _, heap_alloc_new w.drew _, hge, hle, fun j u hj => ?_⟩
      have e1 : cs.take (i * 6) = cs := List.take_of_length_le (by omega)
      have e2 : cs.drop (i * 6) = [] := List.drop_eq_nil_of_le (by omega)
      rw [e1, e2, List.append_nil] at hj
      have hlt := (List.getElem?_eq_some_iff.1 hj).1
      rw [Array.getElem?_append_left (by simpa using hlt), ← hj]
      simp
    · have hlt : i < n := by omega
      obtain ⟨b, hAb, hcell⟩ := hA (by omega)
      subst hAb
      refine (ins_grow i0 hi0 hz zv hz0 hzs b 0 n c i vb 0 m vc cs vs w hlt hm hnc hroom hb' h63 hcl hvl (fun j v hj => by rw [Nat.zero_add]; exact hcell j v hj) (fun j v hj => by rw [Nat.zero_add]; exact hvs j v hj) h1c h1v).mono fun e w' ⟨G, hG1, hG2, he, hw⟩ => ?_
      generalize hR : (cs.take (i * 6)).toArray ++ Builtin.zeroCells zv.cells (n + m - i) ++ Builtin.zeroCells zv.cells (G - (n + m)) = ROW at hw
      have hRs : ROW.size = G * 6 - 0 := by
        rw [← hR]
        simp only [Array.size_append, List.size_toArray, List.length_take, size_zc, hzs]
        omega
      have hdl : (cs.drop (i * 6)).length = (n - i) * 6 := by rw [List.length_drop]; omega
      have g1 : Grow w (w.alloc (.cells ROW 65)).drew := ⟨rfl, rfl, rfl, by simp, fun b hb => by first | exact heap_alloc_old w _ b hb | exact heap_alloc_old w _ hb⟩
      have hh0 : (w.alloc (.cells ROW 65)).drew.heap[w.heap.size]? = some (.cells ROW 65 (0, 0)) := heap_alloc_new w _
      obtain ⟨a1, p1, p2, p3, p4, ⟨p5, p6, p7, p8⟩, p9⟩ := set1 w.heap.size vs (i * 6) _ ROW 65 hh0 (by rw [hvl]; omega)
      obtain ⟨a2, s1, s2, s3, s4, ⟨s5, s6, s7, s8⟩, s9⟩ := set1 w.heap.size (cs.drop (i * 6)) ((i + m) * 6) ((w.alloc (.cells ROW 65)).drew.setCells w.heap.size (i * 6) vs).drew a1 65 p1 (by rw [hdl, p2]; omega)
      rw [← hw] at s1 s5 s6 s7 s8 s9
      refine ⟨⟨by rw [s5]; exact p5.trans g1.os, by rw [s6]; exact p6.trans g1.tape, by rw [s7]; exact p7.trans g1.output, by rw [s8]; show w.heap.size ≤ ((w.alloc (.cells ROW 65)).drew.setCells w.heap.size (i * 6) vs).heap.size; rw [p8]; exact g1.size, fun b hb => ?_⟩, w.heap.size, G, a2, 65, he, Nat.le_refl _, s1, hG1, hG2, fun j u hj => ?_⟩
      · rw [s9 b (by omega)]
        show ((w.alloc (.cells ROW 65)).drew.setCells w.heap.size (i * 6) vs).heap[b]? = _
        rw [p9 b (by omega)]
        exact g1.block b hb
      · have htl : (cs.take (i * 6)).length = i * 6 := by rw [List.length_take]; omega
        rcases list3 _ _ _ j u hj with ⟨q1, q2⟩ | ⟨k, rfl, q2⟩ | ⟨k, rfl, q2⟩
        · rw [htl] at q1
          rw [s3 j (by omega), p3 j (by omega), ← hR, Array.append_assoc, Array.getElem?_append_left (by simp only [List.size_toArray, htl]; exact q1)]
          simpa using q2
        · have hk := (List.getElem?_eq_some_iff.1 q2).1
          rw [htl, s3 _ (by omega)]
          exact p4 k u q2
        · rw [htl, hvl, show i * 6 + m * 6 + k = (i + m) * 6 + k by omega]
          exact s4 k u q2
  · have hvs' : ∀ j u, vs[j]? = some u → w.cell? ⟨vb, 0 + j, none⟩ = some u := fun j u hj => by
      rw [Nat.zero_add, cell_of_row w vb j arrv tyv (0, 0) hhv]; exact hva j u hj
    have hcs' : ∀ j u, cs[j]? = some u → w.cell? ⟨b, 0 + j, none⟩ = some u := fun j u hj => by
      rw [Nat.zero_add, cell_of_row w b j arr ty (0, 0) hh]; exact hca j u hj
    have hfr : ∀ k, w.frozen? ⟨b, k, none⟩ = false := fun k => by simp [World.frozen?, hh]
    have hfrv : ∀ k, w.frozen? ⟨vb, k, none⟩ = false := fun k => by simp [World.frozen?, hhv]
    have hsome : ∀ k, k < arr.size → (w.cell? ⟨b, k, none⟩).isSome = true := fun k hk => by
      rw [cell_of_row w b k arr ty (0, 0) hh, Array.getElem?_eq_getElem hk]; rfl
    by_cases hie : i = n
    · subst hie
      have hrun := fun ty' => run_append_fit (P := Tryd.prog) (ty := ty') (w := w) (b := b) (off := 0) (n := i) (cap := c) (m := m) (c := vc) (a' := ⟨vb, 0, none⟩) (news := vs) uP hi0 (by rw [hvl, hz]) (fun j u hj => by rw [Addr.add_lit]; exact hvs' j u hj) h1v hroom
        (fun j hj => by rw [hz]; exact hsome _ (by rw [hvl] at hj; omega)) (fun j hj => hfr _)
      refine (ins_end i c m vc (some ⟨b, 0, none⟩) (some ⟨vb, 0, none⟩) w _ _ hm (by omega) hrun).mono fun e w' ⟨he, hw⟩ => ?_
      rw [hz, Nat.zero_add] at hw
      obtain ⟨a1, p1, p2, p3, p4, p5, p9⟩ := set1 b vs (i * 6) w arr ty hh (by rw [hvl]; omega)
      subst hw
      refine ⟨he, p5, p9, a1, p1, p2, fun j u hj => ?_⟩
      have e1 : cs.take (i * 6) = cs := List.take_of_length_le (by omega)
      have e2 : cs.drop (i * 6) = [] := List.drop_eq_nil_of_le (by omega)
      rw [e1, e2] at hj
      rcases list3 _ _ _ j u hj with ⟨q1, q2⟩ | ⟨k, rfl, q2⟩ | ⟨k, rfl, q2⟩
      · rw [p3 j (by omega)]; exact hca j u q2
      · rw [hcl]; exact p4 k u q2
      · simp at q2
    · have hlt : i < n := by omega
      have hdl : (cs.drop (i * 6)).length = (n - i) * 6 := by rw [List.length_drop]; omega
      refine (ins_shift i0 hi0 hz b 0 n c i vb 0 m vc cs vs w hlt hm hroom hc63 hne hcl hvl hcs' (fun j hj => by rw [Nat.zero_add]; exact hsome _ (by omega)) (fun j hj => hfr _) hvs' h1c h1v tyv ty arrv.size arr.size (by simp [World.shape?, hhv]) (by simp [World.shape?, hh]) (by omega) (hfrv _) (hfrv _)).mono fun e w' ⟨he, hw⟩ => ?_
      rw [Nat.zero_add, Nat.zero_add] at hw
      obtain ⟨a1, p1, p2, p3, p4, ⟨p5, p6, p7, p8⟩, p9⟩ := set1 b (cs.drop (i * 6)) ((i + m) * 6) w.drew arr ty hh (by rw [hdl]; omega)
      obtain ⟨a2, s1, s2, s3, s4, ⟨s5, s6, s7, s8⟩, s9⟩ := set1 b vs (i * 6) _ a1 ty p1 (by rw [hvl, p2]; omega)
      subst hw
      refine ⟨he, ⟨s5.trans p5, s6.trans p6, s7.trans p7, s8.trans p8⟩, fun k hk => (s9 k hk).trans (p9 k hk), a2, s1, s2.trans p2, fun j u hj => ?_⟩
      have htl : (cs.take (i * 6)).length = i * 6 := by rw [List.length_take]; omega
      rcases list3 _ _ _ j u hj with ⟨q1, q2⟩ | ⟨k, rfl, q2⟩ | ⟨k, rfl, q2⟩
      · rw [htl] at q1
        rw [List.getElem?_take, if_pos q1] at q2
        rw [s3 j (by omega), p3 j (by omega)]; exact hca j u q2
      · have hk := (List.getElem?_eq_some_iff.1 q2).1
        rw [htl]
        exact s4 k u q2
      · have hk := (List.getElem?_eq_some_iff.1 q2).1
        rw [htl, hvl, s3 _ (by rw [hvl]; omega), show i * 6 + m * 6 + k = (i + m) * 6 + k by omega]
        exact p4 k u q2
/-- The functions of the library that are known here. -/
def lib0 : LibT Tryd.prog where
  cl := [(68, 6, 64)]
  ins := [(67, 6, 64)]
  hcl := by simp; exact clone68
  hins := by simp; exact ins67
end Go.Proofs.YteonapeaaepipaaDoor
end
