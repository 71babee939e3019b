/- Part of the proof: S300, S301, S302, S303, S305, S306, S304, S310, S311, S312, S313, S314, S320, S322, S324, S323, S325, S326, S327, S328, S329, S331, S332, S333, S335. -/
import Derived.Test.YtfegfnekphobmaaDoorProg
import Derived.KernelRfl
import Derived.RowKit
import Derived.Laws.AppendOwn
import Derived.Lib.SliceRun
import Derived.Deep.RegionWith
import Derived.Below
import Derived.Test.YtfegfnekphobmaaDoorG
set_option linter.unnecessarySimpa false
set_option linter.unusedVariables false
set_option linter.unusedSimpArgs false
section
namespace Go.Proofs.YtfegfnekphobmaaDoor
open Go Go.Proofs.YtfegfnekphobmaaDoor.AL
/-! Bytes and values of the codec. -/
def bz (b : List UInt8) : ByteArray := ⟨b.toArray⟩
def dZ (b : List UInt8) : D := .lit (.string (bz b))
def dBy (b : List UInt8) : D := .sl 1 (b.map dU)
theorem bz_size (b : List UInt8) : (bz b).size = b.length := by simp [ByteArray.size, bz]
theorem bz_data (b : List UInt8) : (bz b).data.toList = b := by simp [bz]
theorem bz_toList (b : List UInt8) : (bz b).toList = b := by rw [ByteArray.toList_eq, bz_data]
theorem bz_inj {a b : List UInt8} : bz a = bz b ↔ a = b := ⟨fun h => by have := congrArg (fun x => x.data.toList) h; simpa [bz] using this, fun h => by rw [h]⟩
theorem dZ_cells (x : List UInt8) : (dZ x).cells = [dZ x] := rfl
theorem dZ_one (x : List UInt8) : (dZ x).one = true := rfl
theorem dZ_nt (b : List UInt8) (ds : List D) : (dZ b = .tup ds) = False := by simp [dZ]
theorem dZ_noTup (x : List UInt8) : (AV.d (dZ x)).noTup = true := rfl
theorem dZ_agg (x : List UInt8) : (dZ x).isAgg = false := rfl
theorem dZ_eq (b : List UInt8) : dZ b = .lit (.string (bz b)) := rfl
theorem strD_bz (b : List UInt8) : strD (bz b) = b.map dU := by simp [strD, bz, dU]
theorem dZ_nil : (D.lit (.string ⟨#[]⟩)) = dZ [] := rfl
theorem bytesOf_map (b : List UInt8) : bytesOf (b.map dU) = bz b := by
  unfold bytesOf strOfNums bz
  congr 1
  apply Array.ext'
  simp only [List.map_map]
  rw [List.map_congr_left (g := id)]
  · simp
  · intro x _
    simp [dU, D.num]
inductive Vl where
  | mk (k n : Int) (s : List UInt8) (l : List Vl)
  deriving Inhabited
def Vl.k : Vl → Int | .mk k _ _ _ => k
def Vl.n : Vl → Int | .mk _ n _ _ => n
def Vl.s : Vl → List UInt8 | .mk _ _ s _ => s
def Vl.l : Vl → List Vl | .mk _ _ _ l => l
mutual
def dV : Vl → D
  | .mk k n s l => .agg [dI k, dI n, dZ s, .sl 4 (dVs l)]
def dVs : List Vl → List D
  | [] => []
  | v :: r => dV v :: dVs r
end
theorem dVs_map : ∀ l : List Vl, dVs l = l.map dV
  | [] => by simp [dVs]
  | v :: r => by simp [dVs, dVs_map r]
theorem dV_eq (k n : Int) (s : List UInt8) (l : List Vl) : dV (.mk k n s l) = .agg [dI k, dI n, dZ s, .sl 4 (l.map dV)] := by rw [dV, dVs_map]
theorem dV_cells (v : Vl) : (dV v).cells = [dI v.k, dI v.n, dZ v.s, .sl 4 (v.l.map dV)] := by cases v; rw [dV_eq]; rfl
theorem dV_isAgg (v : Vl) : (dV v).isAgg = true := by cases v; rw [dV_eq]; rfl
theorem dV_noTup (v : Vl) : (AV.d (dV v)).noTup = true := by cases v; rw [dV_eq]; rfl
theorem dV_nt (v : Vl) (ds : List D) : (dV v = .tup ds) = False := by cases v; rw [dV_eq]; simp
theorem dV_agg (v : Vl) : dV v = .agg [dI v.k, dI v.n, dZ v.s, .sl 4 (v.l.map dV)] := by cases v; rw [dV_eq]; rfl
mutual
def okV : Vl → Bool
  | .mk k n s l => (k == 1 && s.isEmpty && l.isEmpty) || (k == 2 && n == 0 && l.isEmpty) || (k == 3 && n == 0 && s.isEmpty && okVs l)
def okVs : List Vl → Bool
  | [] => true
  | v :: r => okV v && okVs r
end
mutual
def dpV : Vl → Nat
  | .mk k _ _ l => if k = 3 then dpVs l + 1 else 0
def dpVs : List Vl → Nat
  | [] => 0
  | v :: r => max (dpV v) (dpVs r)
end
def numL (u : Nat) : List UInt8 := if u < 128 then [UInt8.ofNat u] else UInt8.ofNat (u % 128 + 128) :: numL (u / 128)
def zz (n : Int) : Nat := if 0 ≤ n then (2 * n).toNat else (-(2 * n) - 1).toNat
mutual
def encV : Vl → List UInt8
  | .mk k n s l => if k = 1 then 1 :: numL (zz n) else if k = 2 then 2 :: (numL s.length ++ s) else 3 :: (numL l.length ++ encVs l)
def encVs : List Vl → List UInt8
  | [] => []
  | v :: r => encV v ++ encVs r
end
/-- What Check answers. -/
def eV (v : Vl) : Int := if okV v = true then (if dpV v ≤ 16 then 0 else 2) else 1
theorem okVs_all : ∀ l : List Vl, okVs l = l.all okV
  | [] => by simp [okVs]
  | v :: r => by simp [okVs, okVs_all r]
theorem dpVs_le : ∀ (l : List Vl) (v : Vl), v ∈ l → dpV v ≤ dpVs l
  | x :: r, v, h => by
    rw [dpVs]
    rcases List.mem_cons.1 h with rfl | h
    · omega
    · have := dpVs_le r v h; omega
theorem numL_length : ∀ (k u : Nat), u < 128 ^ k → 0 < k → (numL u).length ≤ k
  | 0, _, _, h => by omega
  | k + 1, u, h, _ => by
    rw [numL]
    split
    · simp
    · rcases Nat.eq_zero_or_pos k with rfl | hk
      · simp at h; omega
      · have := numL_length k (u / 128) (by rw [Nat.pow_succ] at h; omega) hk
        simp; omega
theorem encVs_append : ∀ (a b : List Vl), encVs (a ++ b) = encVs a ++ encVs b
  | [], b => by simp [encVs]
  | v :: r, b => by simp [encVs, encVs_append r b]
theorem encVs_take (l : List Vl) (i : Nat) (h : i < l.length) : encVs (l.take (i + 1)) = encVs (l.take i) ++ encV l[i] := by
  rw [← List.take_append_getElem h, encVs_append]; simp [encVs]
theorem encVs_le (l : List Vl) (i : Nat) : (encVs (l.take i)).length ≤ (encVs l).length := by
  conv => rhs; rw [← List.take_append_drop i l, encVs_append, List.length_append]
  omega
end Go.Proofs.YtfegfnekphobmaaDoor
end

section
namespace Go.Proofs.YtfegfnekphobmaaDoor
open Go Go.Proofs.YtfegfnekphobmaaDoor.AL
attribute [local simp] dZ_agg dZ_nt dZ_noTup dZ_cells dZ_one bz_toList bz_size strV dV_cells dV_isAgg dV_noTup dV_nt
set_option maxRecDepth 8000
set_option maxHeartbeats 4000000
theorem empty_toList : (ByteArray.mk #[]).toList = [] := by rw [ByteArray.toList_eq]
attribute [local simp] empty_toList
/-- What formed says. -/
def fV (v : Vl) : D := .tup [dI (if okV v = true then dpV v else 0), dB (okV v)]
inductive C301 (l : List Vl) : FuncId → List D → Out → Prop
  | sub (v : Vl) (h : v ∈ l) : C301 l 45 [dV v] (.ret (fV v))
theorem okVs_take (l : List Vl) (i : Nat) (h : i < l.length) : okVs (l.take (i + 1)) = (okVs (l.take i) && okV l[i]) := by
  rw [okVs_all, okVs_all, ← List.take_append_getElem h, List.all_append]; simp
theorem dpVs_take : ∀ (l : List Vl) (i : Nat) (h : i < l.length), dpVs (l.take (i + 1)) = max (dpVs (l.take i)) (dpV l[i])
  | v :: r, 0, _ => by simp [dpVs]
  | v :: r, i + 1, h => by
    have := dpVs_take r i (by simpa using h)
    simp only [List.take_succ_cons, dpVs, this, List.getElem_cons_succ]
    omega
theorem okV3 (l : List Vl) : okV (.mk 3 0 [] l) = okVs l := by simp [okV]
theorem dpV3 (n : Int) (s : List UInt8) (l : List Vl) : dpV (.mk 3 n s l) = dpVs l + 1 := by simp [dpV]
theorem okVs_bad {l : List Vl} {i : Nat} (h : i < l.length) (hb : okV l[i] = false) : okVs l = false := by
  rw [okVs_all, List.all_eq_false]
  exact ⟨l[i], List.getElem_mem h, by simp [hb]⟩
theorem formed_step (k n : Int) (s : List UInt8) (l : List Vl) (hd : k = 3 → dpVs l < 4611686018427387904) {C : FuncId → List D → Out → Prop} (hC : ∀ f ds out, C f ds out → PCall Tryd.prog f ds out) (hS : k = 3 → ∀ v ∈ l, C 45 [dV v] (.ret (fV v))) : PCall Tryd.prog 45 [dV (.mk k n s l)] (.ret (fV (.mk k n s l))) := by
  refine pcall_of_vc hC c45 (by simp [a45]) fun hr => ?_
  have hlen := ((hr _ (List.mem_singleton.2 rfl)))
  rw [dV_eq] at hlen
  have hlen := (Real.sl (hlen.agg (.sl 4 (l.map dV)) (by simp)).2).1
  simp only [List.length_map] at hlen
  simp [a45, dV_eq, dZ_eq]
  refine vc_path [] ?_
  by_cases h3 : k = 3 ∧ n = 0 ∧ s = []
  · obtain ⟨rfl, rfl, rfl⟩ := h3
    have hd := hd rfl
    simp
    refine vc_path [] ?_
    simp
    refine vc_loopK [55, 56] Nat (fun i => [(57, true, .d (dI i)), (2, true, .d (dI (dpVs (l.take i))))]) (fun i => []) (fun i => i ≤ l.length ∧ okVs (l.take i) = true) (fun i => l.length - i) 0 (by simp [okVs]) ⟨[], [], ?_⟩ (fun i hi => ?_)
    · simp [dpVs]
    obtain ⟨h1, h2⟩ := hi
    simp
    refine ⟨fun hlt => ?_, fun hge => ?_⟩
    · simp [hlt]
      have hc := hS rfl l[i] (List.getElem_mem hlt)
      have ho := okVs_take l i hlt
      have hp := dpVs_take l i hlt
      rw [h2, Bool.true_and] at ho
      unfold fV at hc
      cases hv : okV l[i] with
      | false =>
        rw [hv] at hc
        refine vc_path [.ret (.tup [dI 0, dB false])] ?_
        simp
        refine ⟨by rw [dV_agg] at hc; simpa using hc, ?_⟩
        unfold fV
        rw [okV3, okVs_bad hlt hv]
        simp
      | true => 
        rw [hv] at hc
        simp only [if_true] at hc
        generalize hm : dpV l[i] = m at hc hp
        refine vc_path [.ret (.tup [dI m, dB true])] ?_
        have hm2 : m ≤ dpVs l := by rw [← hm]; exact dpVs_le l _ (List.getElem_mem hlt)
        have hw : IntKind.i64.wrap ((i : Int) + 1) = ((i + 1 : Nat) : Int) := by rw [wrap64 (by omega)]; omega
        have hmx : (if dpVs (l.take i) < m then (m : Int) else (dpVs (l.take i) : Int)) = ((dpVs (l.take (i + 1)) : Nat) : Int) := by
          rw [hp]; split <;> omega
        simp [hw, hmx]
        refine ⟨by rw [dV_agg] at hc; simpa using hc, i + 1, ⟨by omega, by rw [ho, hv]⟩, by omega, [], [], ?_⟩
        simp
    · have hi : i = l.length := by omega
      subst hi
      rw [List.take_length] at h2 ⊢
      unfold fV
      rw [okV3, h2, dpV3]
      have hw : IntKind.i64.wrap ((dpVs l : Int) + 1) = ((dpVs l + 1 : Nat) : Int) := by rw [wrap64 (by omega)]; omega
      simp [hw]
  have hk : k = 1 ∨ k = 2 ∨ k = 3 ∨ (k < 1 ∨ k > 3) := by omega
  have hbad : okV (.mk k n s l) = false → leA noRen noNew noOk 3 (AV.tup [AV.d (D.lit (Value.int IntKind.i64 0)), AV.d (D.lit (Value.bool false))]) (AV.d (fV (.mk k n s l))) := fun h => by unfold fV; rw [h]; simp
  have hgood : okV (.mk k n s l) = true → dpV (.mk k n s l) = 0 → leA noRen noNew noOk 3 (AV.tup [AV.d (D.lit (Value.int IntKind.i64 0)), AV.d (D.lit (Value.bool true))]) (AV.d (fV (.mk k n s l))) := fun h h' => by unfold fV; rw [h, h']; simp
  have hkb : (k < 1 ∨ k > 3) → okV (.mk k n s l) = false := fun h => by
    have e1 : k ≠ 1 := by omega
    have e2 : k ≠ 2 := by omega
    have e3 : k ≠ 3 := by omega
    simp [okV, e1, e2, e3]
  have hl0 : ∀ m : Nat, ((m : Int) + 1 == 0) = false := fun m => by simp; omega
  have hl1 : ∀ m : Nat, ((m : Int) + 1 = 0) = False := fun m => by simp; omega
  rcases hk with rfl | rfl | rfl | hk | hk
  · rcases Decidable.em (n = 0) with rfl | hn <;> rcases s with _ | ⟨c, s⟩ <;> rcases l with _ | ⟨v, l⟩
    all_goals first | exact absurd ⟨rfl, rfl, rfl⟩ h3 | skip
    all_goals first | simp [hn, hl0, hl1] | simp [hl0, hl1]
    all_goals refine vc_path [] ?_
    all_goals simp [hl0, hl1]
    all_goals first | (refine hbad ?_; simp [okV]; done) | (refine hbad ?_; simp [okV, hn]; done) | (refine hgood ?_ ?_ <;> simp [okV, dpV]; done)
  · rcases Decidable.em (n = 0) with rfl | hn <;> rcases s with _ | ⟨c, s⟩ <;> rcases l with _ | ⟨v, l⟩
    all_goals first | exact absurd ⟨rfl, rfl, rfl⟩ h3 | skip
    all_goals first | simp [hn, hl0, hl1] | simp [hl0, hl1]
    all_goals refine vc_path [] ?_
    all_goals simp [hl0, hl1]
    all_goals first | (refine hbad ?_; simp [okV]; done) | (refine hbad ?_; simp [okV, hn]; done) | (refine hgood ?_ ?_ <;> simp [okV, dpV]; done)
  · rcases Decidable.em (n = 0) with rfl | hn <;> rcases s with _ | ⟨c, s⟩ <;> rcases l with _ | ⟨v, l⟩
    all_goals first | exact absurd ⟨rfl, rfl, rfl⟩ h3 | skip
    all_goals first | simp [hn, hl0, hl1] | simp [hl0, hl1]
    all_goals refine vc_path [] ?_
    all_goals simp [hl0, hl1]
    all_goals first | (refine hbad ?_; simp [okV]; done) | (refine hbad ?_; simp [okV, hn]; done) | (refine hgood ?_ ?_ <;> simp [okV, dpV]; done)
  · rcases Decidable.em (n = 0) with rfl | hn <;> rcases s with _ | ⟨c, s⟩ <;> rcases l with _ | ⟨v, l⟩
    all_goals first | simp [hn, hl0, hl1] | simp [hl0, hl1]
    all_goals refine vc_path [] ?_
    all_goals simp [hl0, hl1, hk]
    all_goals exact hbad (hkb (.inl hk))
  · rcases Decidable.em (n = 0) with rfl | hn <;> rcases s with _ | ⟨c, s⟩ <;> rcases l with _ | ⟨v, l⟩
    all_goals first | simp [hn, hl0, hl1] | simp [hl0, hl1]
    all_goals refine vc_path [] ?_
    all_goals simp [hl0, hl1, hk, show ¬ k < 1 by omega]
    all_goals exact hbad (hkb (.inr hk))
/-- formed answers. -/
theorem formed_ok : ∀ (v : Vl), dpV v < 4611686018427387904 → PCall Tryd.prog 45 [dV v] (.ret (fV v))
  | .mk k n s l, h => by
    by_cases hk : k = 3
    · subst hk
      rw [dpV3] at h
      refine formed_step 3 n s l (fun _ => by omega) (C := C301 l) (fun f ds out hc => ?_) (fun _ v hv => .sub v hv)
      cases hc with
      | sub v hv => exact formed_ok v (by have := dpVs_le l v hv; omega)
    · exact formed_step k n s l (fun h => absurd h hk) noC (fun h => absurd h hk)
termination_by v => SizeOf.sizeOf v
decreasing_by
  have := List.sizeOf_lt_of_mem hv
  simp; omega
end Go.Proofs.YtfegfnekphobmaaDoor
end

section
namespace Go.Proofs.YtfegfnekphobmaaDoor
open Go Go.Proofs.YtfegfnekphobmaaDoor.AL
attribute [local simp] dZ_agg dZ_nt dZ_noTup dZ_cells dZ_one bz_toList bz_size strV dV_cells dV_isAgg dV_noTup dV_nt
set_option maxRecDepth 8000
set_option maxHeartbeats 4000000
inductive C302a : FuncId → List D → Out → Prop
  | formed (v : Vl) (h : dpV v < 4611686018427387904) : C302a 45 [dV v] (.ret (fV v))
theorem h302a : ∀ f ds out, C302a f ds out → PCall Tryd.prog f ds out := by
  intro f ds out h
  cases h with
  | formed v h => exact formed_ok v h
/-- Check answers. -/
theorem ccheck (v : Vl) (h : dpV v < 4611686018427387904) : PCall Tryd.prog 35 [dV v] (.ret (dI (eV v))) := by
  refine pcall_of_vc h302a c35 (by simp [a35]) fun hr => ?_
  have hc := C302a.formed v h
  unfold fV at hc
  simp [a35]
  cases hv : okV v with
  | false =>
    simp [hv] at hc
    refine vc_path [.ret (.tup [dI 0, dB false])] ?_
    simp [eV, hv]
    rw [dV_agg] at hc; simpa using hc
  | true =>
    simp [hv] at hc
    generalize hm : dpV v = m at hc
    refine vc_path [.ret (.tup [dI m, dB true])] ?_
    simp [eV, hv, hm]
    refine ⟨by rw [dV_agg] at hc; simpa using hc, fun h1 => ?_, fun h1 => ?_⟩
    · rw [if_neg (by omega)]; exact LeD.refl _
    · rw [if_pos (by omega)]; exact LeD.refl _
/-! Numbers. -/
theorem wrap_u64 {n : Int} (h : 0 ≤ n) (h2 : n < 18446744073709551616) : IntKind.u64.wrap n = n := by
  simp [IntKind.wrap, IntKind.bits, IntKind.signed]; omega
theorem wrap_u8 {n : Int} (h : 0 ≤ n) (h2 : n < 256) : IntKind.u8.wrap n = n := by
  simp [IntKind.wrap, IntKind.bits, IntKind.signed]; omega
theorem or128_nat : ∀ a : Nat, a < 256 → a ||| 128 = a % 128 + 128 := by
  intro a h
  have : ∀ b : Fin 256, b.val ||| 128 = b.val % 128 + 128 := by decide
  exact this ⟨a, h⟩
theorem xor_ones (a : Nat) (h : a < 18446744073709551616) : a ^^^ 18446744073709551615 = 18446744073709551615 - a := by
  have h1 := congrArg BitVec.toNat (BitVec.xor_allOnes (x := BitVec.ofNat 64 a))
  rw [BitVec.toNat_xor, BitVec.toNat_not, BitVec.toNat_ofNat, Nat.mod_eq_of_lt (by simpa using h)] at h1
  simpa using h1
theorem unsigned (n : Int) : PCall Tryd.prog 48 [dI n] (.ret (.lit (.int .u64 (zz n)))) := by
  refine pcall_of_vc noC c48 (by simp [a48]) fun hr => ?_
  have hn := (hr _ (List.mem_singleton.2 rfl)).int
  simp [IntKind.min, IntKind.max, IntKind.bits, IntKind.signed] at hn
  simp [a48, shiftV]
  refine leD_of_eq ?_
  congr 2
  have em : ∀ m : Nat, m < 18446744073709551616 → IntKind.u64.wrap (m : Int) = m := fun m h => wrap_u64 (by omega) (by omega)
  by_cases h : 0 ≤ n
  · have e1 : n.fdiv 9223372036854775808 = 0 := by
      rw [Int.fdiv_eq_ediv_of_nonneg _ (by omega)]; omega
    simp [IntKind.wrap, IntKind.bits, IntKind.signed, zz, h, e1]
    omega
  · have e1 : n.fdiv 9223372036854775808 = -1 := by
      rw [Int.fdiv_eq_ediv_of_nonneg _ (by omega)]; omega
    simp [IntKind.wrap, IntKind.bits, IntKind.signed, zz, h, e1]
    rw [xor_ones _ (by omega)]
    omega
theorem or_u8 (u : Nat) : IntKind.u8.wrap ((((IntKind.u8.wrap (u : Int)) % 2 ^ IntKind.u8.bits).toNat ||| 128 % 2 ^ IntKind.u8.bits : Nat) : Int) = ((UInt8.ofNat (u % 128 + 128)).toNat : Int) := by
  have e1 : ((IntKind.u8.wrap (u : Int)) % 2 ^ IntKind.u8.bits).toNat = u % 256 := by simp [IntKind.wrap, IntKind.bits, IntKind.signed]; omega
  have e2 : 128 % 2 ^ IntKind.u8.bits = 128 := by decide
  rw [e1, e2, or128_nat _ (by omega)]
  simp [IntKind.wrap, IntKind.bits, IntKind.signed]
theorem conv_u8 (u : Nat) : IntKind.u8.wrap (u : Int) = ((UInt8.ofNat u).toNat : Int) := by
  simp [IntKind.wrap, IntKind.bits, IntKind.signed]
theorem numL_lt {u : Nat} (h : u < 128) : numL u = [UInt8.ofNat u] := by rw [numL, if_pos h]
theorem numL_ge {u : Nat} (h : ¬ u < 128) : numL u = UInt8.ofNat (u % 128 + 128) :: numL (u / 128) := by rw [numL, if_neg h]
theorem numeral (es : List D) (u : Nat) (hu : u < 18446744073709551616) (hl : es.length + (numL u).length ≤ 140737488355328) : PCall Tryd.prog 47 [.sl 1 es, .lit (.int .u64 u)] (.app 1 (es ++ (numL u).map dU)) := by
  refine acall_of_vcX noC c47 (by simp [a47]) fun hr1 hr => ?_
  simp [a47]
  refine vc_loopK [] (List D × Nat) (fun x => [(0, true, .own 0 1 x.1), (1, true, .d (.lit (.int .u64 x.2)))]) (fun x => []) (fun x => x.2 < 18446744073709551616 ∧ x.1 ++ (numL x.2).map dU = es ++ (numL u).map dU) (fun x => x.2) (es, u) ⟨hu, rfl⟩ ⟨[], [], ?_⟩ (fun x hx => ?_)
  · simp
  obtain ⟨e, v⟩ := x
  obtain ⟨h1, h2⟩ := hx
  simp only at h1 h2
  have hlen := congrArg List.length h2
  simp only [List.length_append, List.length_map] at hlen
  simp
  refine ⟨fun hge => ?_, fun hlt => ?_⟩
  · rw [numL_ge (by omega)] at h2 hlen
    simp at hlen
    have hsh : shiftV false IntKind.u64 (v : Int) 7 = .int .u64 ((v / 128 : Nat) : Int) := by
      simp [shiftV, IntKind.bits]
      rw [Int.fdiv_eq_ediv_of_nonneg _ (by omega)]
    refine ⟨⟨by omega, by omega⟩, e ++ [dU (UInt8.ofNat (v % 128 + 128))], v / 128, ⟨by omega, by rw [← h2]; simp⟩, by omega, [(0, 2)], [], ?_⟩
    rw [hsh, or_u8]
    simp [dU]
  · rw [numL_lt (by omega)] at h2 hlen
    simp at hlen
    rw [← h2, conv_u8]
    exact ⟨⟨by omega, by omega⟩, by simp [dU]⟩
end Go.Proofs.YtfegfnekphobmaaDoor
end

section
namespace Go.Proofs.YtfegfnekphobmaaDoor
open Go Go.Proofs.YtfegfnekphobmaaDoor.AL
attribute [local simp] dZ_agg dZ_nt dZ_noTup dZ_cells dZ_one bz_toList bz_size strV dV_cells dV_isAgg dV_noTup dV_nt
set_option maxRecDepth 8000
set_option maxHeartbeats 4000000
/-- The writer: the array of functions, so many levels deep. -/
def dWr : Nat → D
  | 0 => .any
  | k + 1 => .ip (.agg [.lit .nilFunc, .fn (.func 46) [] [], .fn (.func 49) [] [], .fn (.func 50) [] [.ip (dWr k)]])
theorem dWr_one (k : Nat) : (dWr k).one = true := by cases k <;> rfl
theorem dWr_cells (k : Nat) : (dWr k).cells = [dWr k] := by cases k <;> rfl
theorem newWriter (k : Nat) : PCall Tryd.prog 36 [] (.ret (dWr k)) := by
  refine pcall_of_vcZ noC c36 (by simp) (3 * k + 4) fun hr => ?_
  simp [a36]
  clear hr
  induction k with
  | zero => simp [dWr]
  | succ k ih =>
    rw [show 3 * (k + 1) + 4 = (3 * k + 5 + 1) + 1 by omega, dWr]
    simp [dWr_cells, dWr_one]
    exact ih
inductive C303a : FuncId → List D → Out → Prop
  | uns (n : Int) : C303a 48 [dI n] (.ret (.lit (.int .u64 (zz n))))
  | num (es : List D) (u : Nat) (hu : u < 18446744073709551616) (hl : es.length + (numL u).length ≤ 140737488355328) : C303a 47 [.sl 1 es, .lit (.int .u64 u)] (.app 1 (es ++ (numL u).map dU))
theorem h303a : ∀ f ds out, C303a f ds out → PCall Tryd.prog f ds out := by
  intro f ds out h
  cases h with
  | uns n => exact unsigned n
  | num es u hu hl => exact numeral es u hu hl
theorem zz_lt {n : Int} (h : -9223372036854775808 ≤ n ∧ n ≤ 9223372036854775807) : zz n < 18446744073709551616 := by
  unfold zz; split <;> omega
theorem write1 (es : List D) (n : Int) (s : List UInt8) (l : List Vl) (hl : es.length + (1 + (numL (zz n)).length) ≤ 140737488355328) : PCall Tryd.prog 46 [.sl 1 es, dV (.mk 1 n s l)] (.app 1 (es ++ (1 :: numL (zz n)).map dU)) := by
  refine acall_of_vcX h303a c46 (by simp [a46]) fun hr1 hr => ?_
  have hn := (hr _ (List.mem_singleton.2 rfl))
  rw [dV_eq] at hn
  have hn := (hn.agg (dI n) (by simp)).2.int
  simp [IntKind.min, IntKind.max, IntKind.bits, IntKind.signed] at hn
  simp [a46, dV_eq]
  have h1 := C303a.uns n
  have h2 := C303a.num (es ++ [dU 1]) (zz n) (zz_lt hn) (by simp; omega)
  refine vc_pathD [.ret (.lit (.int .u64 (zz n))), .app 1 (es ++ [dU 1] ++ (numL (zz n)).map dU)] ?_
  simp
  simp [dU] at h1 h2 ⊢
  exact ⟨⟨by omega, by omega⟩, h1, h2, rfl⟩
theorem write2 (es : List D) (n : Int) (s : List UInt8) (l : List Vl) (hl : es.length + (1 + ((numL s.length).length + s.length)) ≤ 140737488355328) : PCall Tryd.prog 49 [.sl 1 es, dV (.mk 2 n s l)] (.app 1 (es ++ (2 :: (numL s.length ++ s)).map dU)) := by
  refine acall_of_vcX h303a c49 (by simp [a49]) fun hr1 hr => ?_
  have hs : s.length < 18446744073709551616 := by omega
  have hw : IntKind.u64.wrap (s.length : Int) = s.length := wrap_u64 (by omega) (by omega)
  simp [a49, dV_eq, dZ_eq]
  have h2 := C303a.num (es ++ [dU 2]) s.length hs (by simp; omega)
  refine vc_pathD [.app 1 (es ++ [dU 2] ++ (numL s.length).map dU)] ?_
  simp [hw, strD_bz]
  simp [dU] at h2 ⊢
  exact ⟨⟨by omega, by omega⟩, h2, ⟨by omega, by omega⟩, rfl⟩
theorem okV_kind : ∀ v : Vl, okV v = true → v.k = 1 ∨ v.k = 2 ∨ v.k = 3
  | .mk k n s l, h => by
    simp [okV] at h
    show k = 1 ∨ k = 2 ∨ k = 3
    omega
def wrOf (v : Vl) : FuncId := if v.k = 1 then 46 else if v.k = 2 then 49 else 50
def wrCap (k : Nat) (v : Vl) : List D := if v.k = 3 then [.ip (dWr k)] else []
/-- The writers of lists: their parts by others. -/
inductive C303b (l : List Vl) (k : Nat) : FuncId → List D → Out → Prop
  | uns (n : Int) : C303b l k 48 [dI n] (.ret (.lit (.int .u64 (zz n))))
  | num (es : List D) (u : Nat) (hu : u < 18446744073709551616) (hl : es.length + (numL u).length ≤ 140737488355328) : C303b l k 47 [.sl 1 es, .lit (.int .u64 u)] (.app 1 (es ++ (numL u).map dU))
  | wr (es : List D) (v : Vl) (hv : v ∈ l) (hl : es.length + (encV v).length ≤ 140737488355328) : C303b l k (wrOf v) (.sl 1 es :: dV v :: wrCap (k - 1) v) (.app 1 (es ++ (encV v).map dU))
theorem write3 (es : List D) (l : List Vl) (k : Nat) (hk : l ≠ [] → 0 < k) (hok : okVs l = true) (hC : ∀ f ds out, C303b l k f ds out → PCall Tryd.prog f ds out) (hl : es.length + (1 + ((numL l.length).length + (encVs l).length)) ≤ 140737488355328) (hll : l.length < 18446744073709551616) :
    PCall Tryd.prog 50 [.sl 1 es, dV (.mk 3 0 [] l), .ip (dWr k)] (.app 1 (es ++ (3 :: (numL l.length ++ encVs l)).map dU)) := by
  refine acall_of_vcX hC c50 (by simp [a50]) fun hr1 hr => ?_
  have hreal := (hr _ (List.mem_cons_self ..))
  rw [dV_eq] at hreal
  have hlen := (Real.sl (hreal.agg (.sl 4 (l.map dV)) (by simp)).2).1
  simp only [List.length_map] at hlen
  have hw : IntKind.u64.wrap (l.length : Int) = l.length := wrap_u64 (by omega) (by omega)
  simp [a50, dV_eq]
  have h2 := C303b.num (l := l) (k := k) (es ++ [dU 3]) l.length hll (by simp; omega)
  refine vc_pathD [.app 1 (es ++ [dU 3] ++ (numL l.length).map dU)] ?_
  simp [hw]
  refine ⟨⟨by omega, by omega⟩, by simpa [dU] using h2, rfl, ?_⟩
  refine vc_loopK [2, 17, 18] Nat (fun i => [(19, true, .d (dI i)), (0, true, .own 4 1 (es ++ (3 :: (numL l.length ++ encVs (l.take i))).map dU))]) (fun i => []) (fun i => i ≤ l.length) (fun i => l.length - i) 0 (by simp) ⟨[], [], ?_⟩ (fun i hi => ?_)
  · simp [encVs]
  simp
  refine ⟨fun hlt => ?_, fun hge => ?_⟩
  · obtain ⟨k, rfl⟩ : ∃ k', k = k' + 1 := ⟨k - 1, by have := hk (by rintro rfl; simp at hlt); omega⟩
    have hw1 : IntKind.i64.wrap ((i : Int) + 1) = ((i + 1 : Nat) : Int) := by rw [wrap64 (by omega)]; omega
    have he := encVs_take l i hlt
    have hle := encVs_le l (i + 1)
    rw [he, List.length_append] at hle
    have hv : okV l[i] = true := by rw [okVs_all, List.all_eq_true] at hok; exact hok _ (List.getElem_mem hlt)
    have hc := C303b.wr (k := k + 1) (es ++ (3 :: (numL l.length ++ encVs (l.take i))).map dU) l[i] (List.getElem_mem hlt) (by simp; omega)
    rw [dV_agg] at hc
    simp [hlt, dV_cells]
    refine vc_pathD [.app 1 (es ++ (3 :: (numL l.length ++ encVs (l.take i))).map dU ++ (encV l[i]).map dU)] ?_
    simp [dWr]
    rcases okV_kind _ hv with h | h | h
    all_goals
      simp [wrOf, wrCap, h] at hc
      simp [h]
      refine ⟨hc, rfl, i + 1, by omega, by omega, [(4, 6)], [], ?_⟩
      simp [hw1, he, dWr]
  · have hi : i = l.length := by omega
    subst hi
    simp
/-- All writers. -/
theorem writes : ∀ (v : Vl) (k : Nat) (es : List D), okV v = true → dpV v ≤ k → es.length + (encV v).length ≤ 140737488355328 → PCall Tryd.prog (wrOf v) (.sl 1 es :: dV v :: wrCap k v) (.app 1 (es ++ (encV v).map dU))
  | .mk kk n s l, k, es, hok, hd, hl => by
    rcases okV_kind _ hok with h | h | h
    · have h : kk = 1 := h
      subst h
      have e : encV (.mk 1 n s l) = 1 :: numL (zz n) := by simp [encV]
      rw [e] at hl ⊢
      exact write1 es n s l (by simp at hl; omega)
    · have h : kk = 2 := h
      subst h
      have e : encV (.mk 2 n s l) = 2 :: (numL s.length ++ s) := by simp [encV]
      rw [e] at hl ⊢
      exact write2 es n s l (by simp at hl; omega)
    · have h : kk = 3 := h
      subst h
      have e : encV (.mk 3 n s l) = 3 :: (numL l.length ++ encVs l) := by simp [encV]
      rw [e] at hl ⊢
      rw [dpV3] at hd
      have hns : n = 0 ∧ s = [] := by simp [okV] at hok; exact ⟨hok.1.1, hok.1.2⟩
      obtain ⟨rfl, rfl⟩ := hns
      rw [okV3] at hok
      have hel : ∀ m : List Vl, okVs m = true → m.length ≤ (encVs m).length := fun m hm => by
        induction m with
        | nil => simp
        | cons v r ih =>
          simp [okVs] at hm
          have h1 := ih hm.2
          have h2 : 1 ≤ (encV v).length := by
            cases v with
            | mk a b c d =>
              simp only [encV]
              split
              · simp
              · split <;> simp
          simp [encVs]; omega
      have hll := hel l hok
      simp at hl
      refine write3 es l k (fun hne => by omega) hok (fun f ds out hc => ?_) (by omega) (by omega)
      cases hc with
      | uns n => exact unsigned n
      | num es u hu hl => exact numeral es u hu hl
      | wr es v hv hl =>
        have h1 : okV v = true := by rw [okVs_all, List.all_eq_true] at hok; exact hok v hv
        have h2 := dpVs_le l v hv
        exact writes v (k - 1) es h1 (by omega) hl
termination_by v => SizeOf.sizeOf v
decreasing_by
  have := List.sizeOf_lt_of_mem hv
  simp; omega
end Go.Proofs.YtfegfnekphobmaaDoor
end

section
namespace Go.Proofs.YtfegfnekphobmaaDoor
open Go Go.Proofs.YtfegfnekphobmaaDoor.AL
attribute [local simp] dZ_agg dZ_nt dZ_noTup dZ_cells dZ_one bz_toList bz_size strV dV_cells dV_isAgg dV_noTup dV_nt empty_toList
set_option maxRecDepth 8000
set_option maxHeartbeats 4000000
/-! The reference's codec. -/
theorem rformed_step (k n : Int) (s : List UInt8) (l : List Vl) {C : FuncId → List D → Out → Prop} (hC : ∀ f ds out, C f ds out → PCall Tryd.prog f ds out) (hS : ∀ v ∈ l, C 58 [dV v] (.ret (dB (okV v)))) :
    PCall Tryd.prog 58 [dV (.mk k n s l)] (.ret (dB (okV (.mk k n s l)))) := by
  refine pcall_of_vc hC c58 (by simp [a58]) fun hr => ?_
  have hreal := (hr _ (List.mem_singleton.2 rfl))
  rw [dV_eq] at hreal
  have hlen := (Real.sl (hreal.agg (.sl 4 (l.map dV)) (by simp)).2).1
  simp only [List.length_map] at hlen
  have hl0 : ∀ m : Nat, ((m : Int) + 1 == 0) = false := fun m => by simp; omega
  have hl1 : ∀ m : Nat, ((m : Int) + 1 = 0) = False := fun m => by simp; omega
  simp [a58, dV_eq, dZ_eq]
  have hk : k = 1 ∨ k = 2 ∨ k = 3 ∨ (k ≠ 1 ∧ k ≠ 2 ∧ k ≠ 3) := by omega
  rcases hk with rfl | rfl | rfl | ⟨h1, h2, h3⟩
  · rcases s with _ | ⟨c, s⟩ <;> rcases l with _ | ⟨v, l⟩
    all_goals
      simp
      refine vc_path [] ?_
      simp [hl0, hl1, okV]
  · rcases Decidable.em (n = 0) with rfl | hn <;> rcases l with _ | ⟨v, l⟩
    all_goals
      simp
      refine vc_path [] ?_
      first | (have hb : (n == 0) = false := by simpa using hn
               simp [hl0, hl1, okV, hn, hb]; done) | simp [hl0, hl1, okV]
  · have hfin : okV (.mk 3 n s l) = ((n == 0 && s.isEmpty) && okVs l) := by simp [okV]
    simp
    refine vc_loopK [1] Nat (fun i => [(3, true, .d (dI i))]) (fun i => []) (fun i => i ≤ l.length ∧ okVs (l.take i) = true) (fun i => l.length - i) 0 (by simp [okVs]) ⟨[], [], ?_⟩ (fun i hi => ?_)
    · simp
    obtain ⟨h1, h2⟩ := hi
    simp
    refine ⟨fun hlt => ?_, fun hge => ?_⟩
    · have hc := hS l[i] (List.getElem_mem hlt)
      have ho := okVs_take l i hlt
      rw [h2, Bool.true_and] at ho
      rw [dV_agg] at hc
      have hw1 : IntKind.i64.wrap ((i : Int) + 1) = ((i + 1 : Nat) : Int) := by rw [wrap64 (by omega)]; omega
      cases hv : okV l[i] with
      | false =>
        rw [hv] at hc
        refine vc_path [.ret (dB false)] ?_
        rw [hfin, okVs_bad hlt hv]
        simp [hlt, dV_agg]
        simpa using hc
      | true =>
        rw [hv] at hc
        refine vc_path [.ret (dB true)] ?_
        simp [hlt, dV_agg, hw1]
        refine ⟨by simpa using hc, i + 1, ⟨by omega, by rw [ho, hv]⟩, by omega, [], [], ?_⟩
        simp
    · have hi : i = l.length := by omega
      subst hi
      rw [List.take_length] at h2
      rw [hfin, h2]
      rcases Decidable.em (n = 0) with rfl | hn <;> rcases s with _ | ⟨c, s⟩
      all_goals
        refine vc_path [] ?_
        first | (have hb : (n == 0) = false := by simpa using hn
                 simp [hn, hb]; done) | simp
  · have g1 : (k == 1) = false := by simpa using h1
    have g2 : (k == 2) = false := by simpa using h2
    have g3 : (k == 3) = false := by simpa using h3
    simp [h1, h2, h3, okV, g1, g2, g3]
inductive C305a (l : List Vl) : FuncId → List D → Out → Prop
  | sub (v : Vl) (h : v ∈ l) : C305a l 58 [dV v] (.ret (dB (okV v)))
theorem rformed : ∀ v : Vl, PCall Tryd.prog 58 [dV v] (.ret (dB (okV v)))
  | .mk k n s l => by
    refine rformed_step k n s l (C := C305a l) (fun f ds out hc => ?_) (fun v hv => .sub v hv)
    cases hc with
    | sub v hv => exact rformed v
termination_by v => SizeOf.sizeOf v
decreasing_by
  have := List.sizeOf_lt_of_mem hv
  simp; omega
inductive C305b (l : List Vl) : FuncId → List D → Out → Prop
  | sub (v : Vl) (h : v ∈ l) : C305b l 59 [dV v] (.ret (dI (dpV v)))
theorem rdepth : ∀ v : Vl, dpV v < 4611686018427387904 → PCall Tryd.prog 59 [dV v] (.ret (dI (dpV v)))
  | .mk k n s l, hd => by
    refine pcall_of_vc (C := C305b (if k = 3 then l else [])) (fun f ds out hc => ?_) c59 (by simp [a59]) fun hr => ?_
    · cases hc with
      | sub v hv =>
        have hk : k = 3 := by
          by_cases hk : k = 3
          · exact hk
          · rw [if_neg hk] at hv; cases hv
        have hv2 : v ∈ l := by rw [if_pos hk] at hv; exact hv
        subst hk
        rw [dpV3] at hd
        exact rdepth v (by have := dpVs_le l v hv2; omega)
    have hreal := (hr _ (List.mem_singleton.2 rfl))
    rw [dV_eq] at hreal
    have hlen := (Real.sl (hreal.agg (.sl 4 (l.map dV)) (by simp)).2).1
    simp only [List.length_map] at hlen
    by_cases hk : k = 3
    · subst hk
      rw [dpV3] at hd ⊢
      simp [a59, dV_eq]
      refine vc_loopK [1] Nat (fun i => [(4, true, .d (dI i)), (3, true, .d (dI (dpVs (l.take i))))]) (fun i => []) (fun i => i ≤ l.length) (fun i => l.length - i) 0 (by simp) ⟨[], [], ?_⟩ (fun i hi => ?_)
      · simp [dpVs]
      simp
      refine ⟨fun hlt => ?_, fun hge => ?_⟩
      · have hc := C305b.sub (l := l) l[i] (List.getElem_mem hlt)
        rw [dV_agg] at hc
        have hp := dpVs_take l i hlt
        generalize hm : dpV l[i] = m at hc hp
        have hw1 : IntKind.i64.wrap ((i : Int) + 1) = ((i + 1 : Nat) : Int) := by rw [wrap64 (by omega)]; omega
        have hmx : (if dpVs (l.take i) < m then (m : Int) else (dpVs (l.take i) : Int)) = ((dpVs (l.take (i + 1)) : Nat) : Int) := by
          rw [hp]; split <;> omega
        refine vc_path [.ret (dI m)] ?_
        simp [hlt, dV_agg, hw1, hmx]
        refine ⟨by simpa using hc, i + 1, by omega, by omega, [], [], ?_⟩
        simp
      · have hi : i = l.length := by omega
        subst hi
        have hw : IntKind.i64.wrap ((dpVs l : Int) + 1) = ((dpVs l + 1 : Nat) : Int) := by rw [wrap64 (by omega)]; omega
        simp [hw]
    · have e : dpV (.mk k n s l) = 0 := by simp [dpV, hk]
      rw [e]
      simp [a59, dV_eq, hk]
termination_by v => SizeOf.sizeOf v
decreasing_by
  have := List.sizeOf_lt_of_mem hv2
  simp; omega
inductive C305c : FuncId → List D → Out → Prop
  | formed (v : Vl) : C305c 58 [dV v] (.ret (dB (okV v)))
  | depth (v : Vl) (h : dpV v < 4611686018427387904) : C305c 59 [dV v] (.ret (dI (dpV v)))
theorem h305c : ∀ f ds out, C305c f ds out → PCall Tryd.prog f ds out := by
  intro f ds out h
  cases h with
  | formed v => exact rformed v
  | depth v h => exact rdepth v h
theorem rccheck (v : Vl) (h : dpV v < 4611686018427387904) : PCall Tryd.prog 51 [dV v] (.ret (dI (eV v))) := by
  refine pcall_of_vc h305c c51 (by simp [a51]) fun hr => ?_
  have hc := C305c.formed v
  have hd := C305c.depth v h
  rw [dV_agg] at hc hd
  simp [a51, dV_cells]
  cases hv : okV v with
  | false =>
    rw [hv] at hc
    refine vc_path [.ret (dB false)] ?_
    simp [eV, hv]
    simpa using hc
  | true =>
    rw [hv] at hc
    generalize hm : dpV v = m at hd
    refine vc_path [.ret (dB true)] ?_
    simp
    refine ⟨by simpa using hc, vc_path [.ret (dI m)] ?_⟩
    simp [eV, hv, hm]
    refine ⟨by simpa using hd, fun h1 => ?_, fun h1 => ?_⟩
    · rw [if_neg (by omega)]; exact LeD.refl _
    · rw [if_pos (by omega)]; exact LeD.refl _
end Go.Proofs.YtfegfnekphobmaaDoor
end

section
namespace Go.Proofs.YtfegfnekphobmaaDoor
open Go Go.Proofs.YtfegfnekphobmaaDoor.AL
attribute [local simp] dZ_agg dZ_nt dZ_noTup dZ_cells dZ_one bz_toList bz_size strV dV_cells dV_isAgg dV_noTup dV_nt empty_toList
set_option maxRecDepth 8000
set_option maxHeartbeats 4000000
theorem runsigned (n : Int) : PCall Tryd.prog 61 [dI n] (.ret (.lit (.int .u64 (zz n)))) := by
  refine pcall_of_vc noC c61 (by simp [a61]) fun hr => ?_
  have hn := (hr _ (List.mem_singleton.2 rfl)).int
  simp [IntKind.min, IntKind.max, IntKind.bits, IntKind.signed] at hn
  by_cases h : 0 ≤ n
  · simp [a61, h]
    refine leD_of_eq ?_
    congr 2
    simp [IntKind.wrap, IntKind.bits, IntKind.signed, zz, h]
    omega
  · simp [a61, h]
    refine leD_of_eq ?_
    congr 2
    simp [IntKind.wrap, IntKind.bits, IntKind.signed, zz, h]
    omega
inductive C306a (u : Nat) : FuncId → List D → Out → Prop
  | num (v : Nat) (h : v < u) (hu : v < 18446744073709551616) : C306a u 60 [.lit (.int .u64 v)] (.ret (dBy (numL v)))
theorem numL_len (u : Nat) (hu : u < 18446744073709551616) : (numL u).length ≤ 10 := numL_length 10 u (by omega) (by omega)
theorem rnumeral : ∀ (u : Nat), u < 18446744073709551616 → PCall Tryd.prog 60 [.lit (.int .u64 u)] (.ret (dBy (numL u))) := by
  intro u
  induction u using Nat.strongRecOn with
  | ind u ih =>
    intro hu
    refine pcall_of_vc (C := C306a u) (fun f ds out hc => ?_) c60 (by simp [a60]) fun hr => ?_
    · cases hc with
      | num v h hu => exact ih v h hu
    by_cases h : u < 128
    · rw [numL_lt h]
      have h' : (u : Int) < 128 := by omega
      simp [a60, h', conv_u8]
      exact leD_of_eq (by simp [dBy, dU])
    · rw [numL_ge h]
      have h' : ¬ (u : Int) < 128 := by omega
      have hc := C306a.num (u := u) (u / 128) (by omega) (by omega)
      have hl := numL_len (u / 128) (by omega)
      have e1 : (u : Int).tmod 128 = ((u % 128 : Nat) : Int) := by rw [Int.tmod_eq_emod_of_nonneg (by omega)]; omega
      have e2 : (u : Int).tdiv 128 = ((u / 128 : Nat) : Int) := by rw [Int.tdiv_eq_ediv_of_nonneg (by omega)]; omega
      have e3 : IntKind.u64.wrap ((u / 128 : Nat) : Int) = ((u / 128 : Nat) : Int) := wrap_u64 (by omega) (by omega)
      have e4 : IntKind.u64.wrap (((u % 128 : Nat) : Int) + 128) = ((u % 128 + 128 : Nat) : Int) := by rw [wrap_u64 (by omega) (by omega)]; omega
      have e5 := conv_u8 (u % 128 + 128)
      simp [a60, h']
      refine vc_path [.ret (dBy (numL (u / 128)))] ?_
      have e6 : IntKind.u64.wrap ((u : Int) / 128) = ((u / 128 : Nat) : Int) := by rw [show (u : Int) / 128 = ((u / 128 : Nat) : Int) by omega, e3]
      unfold dBy at hc ⊢
      simp [e6]
      refine ⟨by simpa using hc, ⟨by omega, by omega⟩, leD_of_eq ?_⟩
      rw [e1, e4, e5]
      simp [dU]
inductive C306b (l : List Vl) : FuncId → List D → Out → Prop
  | uns (n : Int) : C306b l 61 [dI n] (.ret (.lit (.int .u64 (zz n))))
  | num (u : Nat) (hu : u < 18446744073709551616) : C306b l 60 [.lit (.int .u64 u)] (.ret (dBy (numL u)))
  | enc (v : Vl) (h : v ∈ l) (hl : (encV v).length ≤ 140737488355328) : C306b l 52 [dV v] (.ret (dBy (encV v)))
theorem rencode_step (k n : Int) (s : List UInt8) (l : List Vl) (hC : ∀ f ds out, C306b l f ds out → PCall Tryd.prog f ds out) (hb : (encV (.mk k n s l)).length ≤ 140737488355328) :
    PCall Tryd.prog 52 [dV (.mk k n s l)] (.ret (dBy (encV (.mk k n s l)))) := by
  refine pcall_of_vc hC c52 (by simp [a52]) fun hr => ?_
  have hreal := (hr _ (List.mem_singleton.2 rfl))
  rw [dV_eq] at hreal
  have hlen := (Real.sl (hreal.agg (.sl 4 (l.map dV)) (by simp)).2).1
  simp only [List.length_map] at hlen
  have hn := (hreal.agg (dI n) (by simp)).2.int
  simp [IntKind.min, IntKind.max, IntKind.bits, IntKind.signed] at hn
  have hsl := Real.str (hreal.agg (dZ s) (by simp)).2
  rw [bz_size] at hsl
  simp [a52, dV_eq]
  by_cases hk1 : k = 1
  · subst hk1
    have e : encV (.mk 1 n s l) = 1 :: numL (zz n) := by simp [encV]
    rw [e] at hb ⊢
    have h1 := C306b.uns (l := l) n
    have h2 := C306b.num (l := l) (zz n) (by unfold zz; split <;> omega)
    simp
    refine vc_path [.ret (.lit (.int .u64 (zz n))), .ret (dBy (numL (zz n)))] ?_
    unfold dBy at h2 ⊢
    simp at hb
    simp
    exact ⟨by simpa using h1, h2, ⟨by omega, by omega⟩, leD_of_eq (by simp [dU])⟩
  by_cases hk2 : k = 2
  · subst hk2
    have e : encV (.mk 2 n s l) = 2 :: (numL s.length ++ s) := by simp [encV]
    rw [e] at hb ⊢
    have hw : IntKind.u64.wrap (s.length : Int) = s.length := wrap_u64 (by omega) (by omega)
    have h2 := C306b.num (l := l) s.length (by omega)
    simp
    refine vc_pathD [.ret (dBy (numL s.length))] ?_
    unfold dBy at h2 ⊢
    simp at hb
    simp [dZ_eq, hw, strD_bz]
    exact ⟨h2, ⟨by omega, by omega⟩, ⟨by omega, by omega⟩, rfl, leD_of_eq (by simp [dU])⟩
  · have e : encV (.mk k n s l) = 3 :: (numL l.length ++ encVs l) := by simp [encV, hk1, hk2]
    rw [e] at hb ⊢
    have hw : IntKind.u64.wrap (l.length : Int) = l.length := wrap_u64 (by omega) (by omega)
    have h2 := C306b.num (l := l) l.length (by omega)
    simp [hk1, hk2]
    simp at hb
    refine vc_path [.ret (dBy (numL l.length))] ?_
    unfold dBy at h2 ⊢
    simp [hw]
    refine ⟨h2, ⟨by omega, by omega⟩, ?_⟩
    refine vc_loopK [1] Nat (fun i => [(4, true, .d (dI i)), (3, true, .own 2 1 ((3 :: (numL l.length ++ encVs (l.take i))).map dU))]) (fun i => []) (fun i => i ≤ l.length) (fun i => l.length - i) 0 (by simp) ⟨[], [], ?_⟩ (fun i hi => ?_)
    · simp [encVs, dU]
    simp
    refine ⟨fun hlt => ?_, fun hge => ?_⟩
    · have hw1 : IntKind.i64.wrap ((i : Int) + 1) = ((i + 1 : Nat) : Int) := by rw [wrap64 (by omega)]; omega
      have he := encVs_take l i hlt
      have hle := encVs_le l (i + 1)
      rw [he, List.length_append] at hle
      have hc := C306b.enc (l := l) l[i] (List.getElem_mem hlt) (by omega)
      rw [dV_agg] at hc
      refine vc_path [.ret (dBy (encV l[i]))] ?_
      unfold dBy at hc ⊢
      simp [hlt, dV_agg, hw1]
      refine ⟨by simpa using hc, ⟨by omega, by omega⟩, i + 1, by omega, by omega, [(2, 3)], [], ?_⟩
      simp [he]
    · have hi : i = l.length := by omega
      subst hi
      simp
theorem rencode : ∀ v : Vl, (encV v).length ≤ 140737488355328 → PCall Tryd.prog 52 [dV v] (.ret (dBy (encV v)))
  | .mk k n s l, hb => by
    refine rencode_step k n s l (fun f ds out hc => ?_) hb
    cases hc with
    | uns n => exact runsigned n
    | num u hu => exact rnumeral u hu
    | enc v hv hl => exact rencode v hl
termination_by v => SizeOf.sizeOf v
decreasing_by
  have := List.sizeOf_lt_of_mem hv
  simp; omega
inductive C306c : FuncId → List D → Out → Prop
  | check (v : Vl) (h : dpV v < 4611686018427387904) : C306c 51 [dV v] (.ret (dI (eV v)))
  | enc (v : Vl) (hl : (encV v).length ≤ 140737488355328) : C306c 52 [dV v] (.ret (dBy (encV v)))
theorem h306c : ∀ f ds out, C306c f ds out → PCall Tryd.prog f ds out := by
  intro f ds out h
  cases h with
  | check v h => exact rccheck v h
  | enc v h => exact rencode v h
/-- What Encode answers. -/
def encR (v : Vl) : D := if eV v = 0 then .tup [dBy (encV v), dI 0] else .tup [.sl 1 [], dI (eV v)]
theorem rEncode (v : Vl) (h : dpV v < 4611686018427387904) (hl : (encV v).length ≤ 140737488355328) : PCall Tryd.prog 38 [dV v] (.ret (encR v)) := by
  refine pcall_of_vc h306c c38 (by simp [a38]) fun hr => ?_
  have hc := C306c.check v h
  have he := C306c.enc v hl
  rw [dV_agg] at hc he
  unfold encR
  simp [a38, dV_cells]
  refine vc_path [.ret (dI (eV v))] ?_
  by_cases h0 : eV v = 0
  · rw [if_pos h0]
    rw [h0] at hc ⊢
    simp
    refine ⟨by simpa using hc, vc_path [.ret (dBy (encV v))] ?_⟩
    unfold dBy at he ⊢
    simp
    simpa using he
  · rw [if_neg h0]
    simp [h0]
    simpa using hc
end Go.Proofs.YtfegfnekphobmaaDoor
end

section
namespace Go.Proofs.YtfegfnekphobmaaDoor
open Go Go.Proofs.YtfegfnekphobmaaDoor.AL
attribute [local simp] dZ_agg dZ_nt dZ_noTup dZ_cells dZ_one bz_toList bz_size strV dV_cells dV_isAgg dV_noTup dV_nt
set_option maxRecDepth 8000
set_option maxHeartbeats 4000000
inductive C304 : FuncId → List D → Out → Prop
  | check (v : Vl) (h : dpV v < 4611686018427387904) : C304 35 [dV v] (.ret (dI (eV v)))
  | new (k : Nat) : C304 36 [] (.ret (dWr k))
  | wr (es : List D) (v : Vl) (k : Nat) (ho : okV v = true) (hd : dpV v ≤ k) (hl : es.length + (encV v).length ≤ 140737488355328) : C304 (wrOf v) (.sl 1 es :: dV v :: wrCap k v) (.app 1 (es ++ (encV v).map dU))
theorem h304 : ∀ f ds out, C304 f ds out → PCall Tryd.prog f ds out := by
  intro f ds out h
  cases h with
  | check v h => exact ccheck v h
  | new k => exact newWriter k
  | wr es v k ho hd hl => exact writes v k es ho hd hl
theorem eV_zero {v : Vl} (h : eV v = 0) : okV v = true ∧ dpV v ≤ 16 := by
  unfold eV at h
  split at h
  · rename_i h1
    split at h
    · rename_i h2; exact ⟨h1, h2⟩
    · omega
  · omega
theorem encode (v : Vl) (h : dpV v < 4611686018427387904) (hl : (encV v).length ≤ 140737488355328) : PCall Tryd.prog 26 [dV v] (.ret (encR v)) := by
  refine pcall_of_vc h304 c26 (by simp [a26]) fun hr => ?_
  have hc := C304.check v h
  rw [dV_agg] at hc
  unfold encR
  simp [a26, dV_cells]
  by_cases he : eV v = 0
  · rw [if_pos he]
    rw [he] at hc
    obtain ⟨ho, hd⟩ := eV_zero he
    have hw := C304.wr [] v (dpV v) ho (Nat.le_refl _) (by simpa using hl)
    have hn := C304.new (dpV v + 1)
    rw [dV_agg] at hw
    refine vc_path [.ret (dI 0)] ?_
    simp
    refine ⟨by simpa using hc, vc_pathD [.ret (dWr (dpV v + 1)), .app 1 ((encV v).map dU)] ?_⟩
    rw [dWr] at hn ⊢
    rcases okV_kind _ ho with h | h | h
    all_goals
      simp [wrOf, wrCap, h] at hw
      simp [h]
      exact ⟨hn, hw, rfl, LeD.refl _⟩
  · rw [if_neg he]
    refine vc_path [.ret (dI (eV v))] ?_
    simp [he]
    simpa using hc
end Go.Proofs.YtfegfnekphobmaaDoor
end

section
namespace Go.Proofs.YtfegfnekphobmaaDoor
open Go Go.Proofs.YtfegfnekphobmaaDoor.AL
/-! The numbers of SHA-256. -/
def q (x : UInt32) : Int := (x.toNat : Int)
def dq (x : UInt32) : D := .lit (.int .u32 (q x))
theorem dQ_eq (x : UInt32) : dQ x = .lit (.int .u32 (q x)) := rfl
theorem q_lt (x : UInt32) : 0 ≤ q x ∧ q x < 4294967296 := by
  have := x.toNat_lt
  unfold q; omega
theorem q_inj {x y : UInt32} : q x = q y ↔ x = y := ⟨fun h => by unfold q at h; exact UInt32.toNat_inj.1 (by omega), fun h => by rw [h]⟩
theorem wrap_u32 {n : Int} (h : 0 ≤ n) (h2 : n < 4294967296) : IntKind.u32.wrap n = n := by
  simp [IntKind.wrap, IntKind.bits, IntKind.signed]; omega
theorem bv_q (x : UInt32) : (BitVec.ofInt IntKind.u32.bits (q x)).toNat = x.toNat := by
  have := x.toNat_lt
  simp [q, IntKind.bits]
theorem nq (x : UInt32) : (q x % 2 ^ IntKind.u32.bits).toNat = x.toNat := by
  have := x.toNat_lt
  simp [q, IntKind.bits]
  omega
theorem wq_add (x y : UInt32) : IntKind.u32.wrap (q x + q y) = q (x + y) := by
  have := x.toNat_lt
  have := y.toNat_lt
  simp [q, IntKind.wrap, IntKind.bits, IntKind.signed]
theorem wq_or (x y : UInt32) : IntKind.u32.wrap (((q x % 2 ^ IntKind.u32.bits).toNat ||| (q y % 2 ^ IntKind.u32.bits).toNat : Nat) : Int) = q (x ||| y) := by
  rw [nq, nq, ← UInt32.toNat_or]; exact wrap_u32 (q_lt _).1 (q_lt _).2
theorem wq_and (x y : UInt32) : IntKind.u32.wrap (((q x % 2 ^ IntKind.u32.bits).toNat &&& (q y % 2 ^ IntKind.u32.bits).toNat : Nat) : Int) = q (x &&& y) := by
  rw [nq, nq, ← UInt32.toNat_and]; exact wrap_u32 (q_lt _).1 (q_lt _).2
theorem wq_xor (x y : UInt32) : IntKind.u32.wrap (((q x % 2 ^ IntKind.u32.bits).toNat ^^^ (q y % 2 ^ IntKind.u32.bits).toNat : Nat) : Int) = q (x ^^^ y) := by
  rw [nq, nq, ← UInt32.toNat_xor]; exact wrap_u32 (q_lt _).1 (q_lt _).2
theorem shl_q (x : UInt32) (n : Nat) (h : n < 32) : shiftV true .u32 (q x) (n : Int) = .int .u32 (q (x <<< UInt32.ofNat n)) := by
  have hx := x.toNat_lt
  have e : min ((n : Int)).toNat IntKind.u32.bits = n := by simp [IntKind.bits]; omega
  unfold shiftV
  rw [e]
  simp only [if_true, Value.int.injEq, true_and]
  simp only [q, UInt32.toNat_shiftLeft, UInt32.toNat_ofNat']
  have e2 : n % 2 ^ 32 % 32 = n := by omega
  rw [e2]
  simp [IntKind.wrap, IntKind.bits, IntKind.signed, Nat.shiftLeft_eq]
theorem shr_q (x : UInt32) (n : Nat) (h : n < 32) : shiftV false .u32 (q x) (n : Int) = .int .u32 (q (x >>> UInt32.ofNat n)) := by
  have hx := x.toNat_lt
  have e : min ((n : Int)).toNat IntKind.u32.bits = n := by simp [IntKind.bits]; omega
  unfold shiftV
  rw [e]
  simp only [Bool.false_eq_true, if_false, Value.int.injEq, true_and]
  simp only [q, UInt32.toNat_shiftRight, UInt32.toNat_ofNat']
  have e2 : n % 2 ^ 32 % 32 = n := by omega
  rw [e2, Int.fdiv_eq_ediv_of_nonneg _ (Int.pow_nonneg (by omega)), Nat.shiftRight_eq_div_pow]
  simp
def ror (x : UInt32) (c : Nat) : UInt32 := x >>> UInt32.ofNat c ||| x <<< UInt32.ofNat (32 - c)
/-- Four bytes. -/
def wordQ (b : List UInt8) : UInt32 := (b.take 4).foldl (fun n c => n <<< 8 ||| c.toUInt32) 0
theorem conv_u32 (c : UInt8) : IntKind.u32.wrap (c.toNat : Int) = q c.toUInt32 := by
  have := c.toNat_lt
  rw [wrap_u32 (by omega) (by omega)]
  simp [q]
structure S8 where
  a : UInt32
  b : UInt32
  c : UInt32
  d : UInt32
  e : UInt32
  f : UInt32
  g : UInt32
  h : UInt32
def S8.l (s : S8) : List UInt32 := [s.a, s.b, s.c, s.d, s.e, s.f, s.g, s.h]
def S8.add (s t : S8) : S8 := ⟨s.a + t.a, s.b + t.b, s.c + t.c, s.d + t.d, s.e + t.e, s.f + t.f, s.g + t.g, s.h + t.h⟩
def wInit (b : List UInt8) (t : Nat) : List UInt32 := (List.range 64).map fun j => if j < t then wordQ (b.drop (4 * j)) else 0
def wat (w : List UInt32) (j : Nat) : UInt32 := w.getD j 0
def wNew (w : List UInt32) (t : Nat) : UInt32 := wat w (t - 16) + (ror (wat w (t - 15)) 7 ^^^ ror (wat w (t - 15)) 18 ^^^ wat w (t - 15) >>> 3) + wat w (t - 7) + (ror (wat w (t - 2)) 17 ^^^ ror (wat w (t - 2)) 19 ^^^ wat w (t - 2) >>> 10)
/-- The words up to t. -/
def wUp (b : List UInt8) : Nat → List UInt32
  | 0 => wInit b 16
  | k + 1 => (wUp b k).set (16 + k) (wNew (wUp b k) (16 + k))
def rot3 (x : UInt32) (a b c : Nat) : UInt32 := ror x a ^^^ ror x b ^^^ ror x c
def round (w : List UInt32) (s : S8) (t : Nat) : S8 :=
  let p := s.h + rot3 s.e 6 11 25 + (s.g ^^^ s.e &&& (s.f ^^^ s.g)) + wat kNums t + wat w t
  let u := rot3 s.a 2 13 22 + (s.a &&& s.b ||| s.c &&& (s.a ||| s.b))
  ⟨p + u, s.a, s.b, s.c, s.d + p, s.e, s.f, s.g⟩
def rounds (w : List UInt32) (s : S8) : Nat → S8
  | 0 => s
  | t + 1 => round w (rounds w s t) t
def compress (s : S8) (b : List UInt8) : S8 := s.add (rounds (wUp b 48) s 64)
theorem wInit_len (b : List UInt8) (t : Nat) : (wInit b t).length = 64 := by simp [wInit]
theorem wUp_len (b : List UInt8) : ∀ t, (wUp b t).length = 64
  | 0 => wInit_len b 16
  | t + 1 => by simp [wUp, wUp_len b t]
theorem wInit_set (b : List UInt8) (t : Nat) (h : t < 64) : (wInit b t).set t (wordQ (b.drop (4 * t))) = wInit b (t + 1) := by
  refine List.ext_getElem? fun k => ?_
  rw [List.getElem?_set]
  by_cases hk : t = k
  · subst hk
    rw [if_pos rfl, if_pos (by rw [wInit_len]; exact h)]
    simp [wInit, h]
  · rw [if_neg hk]
    simp only [wInit, List.getElem?_map]
    by_cases hk2 : k < 64
    · simp [List.getElem?_range hk2]
      by_cases h1 : k < t
      · rw [if_pos h1, if_pos (by omega)]
      · rw [if_neg h1, if_neg (by omega)]
    · simp [hk2]
end Go.Proofs.YtfegfnekphobmaaDoor
end

section
namespace Go.Proofs.YtfegfnekphobmaaDoor
open Go Go.Proofs.YtfegfnekphobmaaDoor.AL
set_option maxRecDepth 8000
set_option maxHeartbeats 4000000
attribute [local simp] wq_add wq_xor wq_and wq_or
theorem word (b : List UInt8) (h : 4 ≤ b.length) : PCall Tryd.prog 53 [dBy b] (.ret (dq (wordQ b))) := by
  refine pcall_of_vc noC c53 (by simp [a53]) fun hr => ?_
  unfold dBy dq
  simp [a53]
  obtain ⟨b0, b1, b2, b3, r, rfl⟩ : ∃ b0 b1 b2 b3 r, b = b0 :: b1 :: b2 :: b3 :: r := by
    match b, h with
    | b0 :: b1 :: b2 :: b3 :: r, _ => exact ⟨b0, b1, b2, b3, r, rfl⟩
  refine ⟨by simp; omega, ?_⟩
  simp
  refine vc_loopK [6, 7] Nat (fun i => [(8, true, .d (dI i)), (2, true, .d (.lit (.int .u32 (q (([b0, b1, b2, b3].take i).foldl (fun n c => n <<< 8 ||| c.toUInt32) 0)))))]) (fun i => []) (fun i => i ≤ 4) (fun i => 4 - i) 0 (by simp) ⟨[], [], ?_⟩ (fun i hi => ?_)
  · simp [q]
  have h8 : ∀ x : UInt32, shiftV true .u32 (q x) 8 = .int .u32 (q (x <<< 8)) := fun x => shl_q x 8 (by omega)
  have hi4 : i = 0 ∨ i = 1 ∨ i = 2 ∨ i = 3 ∨ i = 4 := by omega
  have hw : IntKind.i64.wrap ((i : Int) + 1) = ((i + 1 : Nat) : Int) := by rw [wrap64 (by omega)]; omega
  rcases hi4 with rfl | rfl | rfl | rfl | rfl
  · simp at hw
    simp [dU, conv_u32, h8, hw]
    exact ⟨1, by omega, by omega, [], [], by simp [dU]⟩
  · simp at hw
    simp [dU, conv_u32, h8, hw]
    exact ⟨2, by omega, by omega, [], [], by simp [dU]⟩
  · simp at hw
    simp [dU, conv_u32, h8, hw]
    exact ⟨3, by omega, by omega, [], [], by simp [dU]⟩
  · simp at hw
    simp [dU, conv_u32, h8, hw]
    exact ⟨4, by omega, by omega, [], [], by simp [dU]⟩
  · simp [wordQ]
theorem rotl (x : UInt32) (c : Nat) (h1 : 0 < c) (h2 : c < 32) : PCall Tryd.prog 54 [dq x, dI (-(c : Int))] (.ret (dq (ror x c))) := by
  refine pcall_of_vc noC c54 (by simp [a54]) fun hr => ?_
  have k1 : ∀ c : Fin 31, IntKind.u64.wrap (((IntKind.u64.wrap (-((c.val + 1 : Nat) : Int)) % 2 ^ IntKind.u64.bits).toNat &&& 31 % 2 ^ IntKind.u64.bits : Nat) : Int) = ((31 - c.val : Nat) : Int) := by decide +kernel
  have k2 := k1 ⟨c - 1, by omega⟩
  rw [show c - 1 + 1 = c by omega, show 31 - (c - 1) = 32 - c by omega] at k2
  have k3 : IntKind.u64.wrap (32 - ((32 - c : Nat) : Int)) = (c : Int) := by rw [wrap_u64 (by omega) (by omega)]; omega
  have h1' := shl_q x (32 - c) (by omega)
  have h2' := shr_q x c h2
  unfold dq
  simp [a54, k2, k3, h1', h2']
  refine leD_of_eq ?_
  congr 3
  unfold ror
  exact UInt32.or_comm _ _
inductive C311 : FuncId → List D → Out → Prop
  | rot (x : UInt32) (c : Nat) (h1 : 0 < c) (h2 : c < 32) : C311 54 [dq x, dI (-(c : Int))] (.ret (dq (ror x c)))
theorem h311 : ∀ f ds out, C311 f ds out → PCall Tryd.prog f ds out := by
  intro f ds out h
  cases h with
  | rot x c h1 h2 => exact rotl x c h1 h2
theorem rotated (x : UInt32) (a b c : Nat) (ha : 0 < a ∧ a < 32) (hb : 0 < b ∧ b < 32) (hc : 0 < c ∧ c < 32) : PCall Tryd.prog 55 [dq x, dI a, dI b, dI c] (.ret (dq (rot3 x a b c))) := by
  refine pcall_of_vc h311 c55 (by simp [a55]) fun hr => ?_
  have e : ∀ n : Nat, n < 32 → IntKind.i64.wrap (-(n : Int)) = -(n : Int) := fun n hn => wrap64 (by omega)
  have h1 := C311.rot x a ha.1 ha.2
  have h2 := C311.rot x b hb.1 hb.2
  have h3 := C311.rot x c hc.1 hc.2
  unfold dq at *
  simp [a55]
  refine vc_path [.ret (dq (ror x a)), .ret (dq (ror x b)), .ret (dq (ror x c))] ?_
  unfold dq
  simp [e a ha.2, e b hb.2, e c hc.2]
  exact ⟨h1, h2, h3, leD_of_eq rfl⟩
end Go.Proofs.YtfegfnekphobmaaDoor
end

section
namespace Go.Proofs.YtfegfnekphobmaaDoor
open Go Go.Proofs.YtfegfnekphobmaaDoor.AL
set_option maxRecDepth 8000
set_option maxHeartbeats 8000000
attribute [local simp] wq_add wq_xor wq_and wq_or
/-- The calls of absorb. -/
structure CAbs (C : FuncId → List D → Out → Prop) : Prop where
  word : ∀ b : List UInt8, 4 ≤ b.length → C 53 [dBy b] (.ret (dq (wordQ b)))
  rot : ∀ (x : UInt32) (c : Nat), 0 < c → c < 32 → C 54 [dq x, dI (-(c : Int))] (.ret (dq (ror x c)))
  rotd : ∀ (x : UInt32) (a b c : Nat), 0 < a ∧ a < 32 → 0 < b ∧ b < 32 → 0 < c ∧ c < 32 → C 55 [dq x, dI a, dI b, dI c] (.ret (dq (rot3 x a b c)))
def aq (l : List UInt32) : List AV := (l.map dq).map .d
theorem aq_len (l : List UInt32) : (aq l).length = l.length := by simp [aq]
theorem aq_get (l : List UInt32) (i : Nat) (h : i < l.length) : (aq l)[i]? = some (.d (dq (wat l i))) := by
  simp [aq, h, wat]
theorem aq_set (l : List UInt32) (i : Nat) (x : UInt32) : (aq l).set i (.d (dq x)) = aq (l.set i x) := by
  simp [aq, List.map_set]
theorem aq_one (l : List UInt32) : ∀ c ∈ aq l, c.one = true := fun c hc => by
  simp only [aq, List.mem_map] at hc
  obtain ⟨d, ⟨x, _, rfl⟩, rfl⟩ := hc
  rfl
theorem leL_aq (ρ : Nat → Nat) (N : Nat → Option Nat) (ok : Nat → Bool) (k : Nat) (l : List UInt32) : leA.leL ρ N ok k (aq l) (aq l) = True := eq_true (leL_map ρ N ok k _)
theorem aq0 (b : List UInt8) : aq (wInit b 0) = List.replicate 64 (AV.d (.lit (.int .u32 0))) := by
  have : wInit b 0 = List.replicate 64 0 := by
    unfold wInit
    simp [List.map_const', -List.reduceReplicate]
  rw [this]
  simp [aq, dq, q, -List.reduceReplicate]
theorem leL_md (ρ : Nat → Nat) (N : Nat → Option Nat) (ok : Nat → Bool) (k : Nat) (l : List D) : leA.leL ρ N ok k (l.map .d) (l.map .d) = True := eq_true (leL_map ρ N ok k _)
theorem lt3 : (∀ x : Nat, x < 3 → ¬x = 0 ∧ ¬x = 1 ∧ ¬x = 2 ∧ ¬x = 3 ∨ x = 0 ∨ x = 1 ∨ x = 2 ∨ x = 3) = True := eq_true fun x h => by omega
theorem dq_cells (x : UInt32) : (dq x).cells = [dq x] := rfl
theorem dq_noTup (x : UInt32) : (AV.d (dq x)).noTup = true := rfl
theorem dq_one (x : UInt32) : (dq x).one = true := rfl
theorem dq_free (x : UInt32) : Free (dq x) := .lit _
attribute [local simp] dq_free
theorem lt3' : (∀ x : Nat, x < 3 → ¬x = 0 ∧ ¬x = 1 ∧ ¬x = 2 ∧ ¬x = 3 ∧ ¬x = 4 ∨ x = 0 ∨ x = 1 ∨ x = 2 ∨ x = 3 ∨ x = 4) = True := eq_true fun x h => by omega
attribute [local simp] lt3' dQ_eq
attribute [local simp] aq_len leL_aq leL_md dBy lt3 bslV dq_cells dq_noTup dq_one
def s8v (s : S8) : List AV := [.d (.lit (.int .u32 (q s.a))), .d (.lit (.int .u32 (q s.b))), .d (.lit (.int .u32 (q s.c))), .d (.lit (.int .u32 (q s.d))), .d (.lit (.int .u32 (q s.e))), .d (.lit (.int .u32 (q s.f))), .d (.lit (.int .u32 (q s.g))), .d (.lit (.int .u32 (q s.h)))]
theorem aqS (s : S8) : aq s.l = s8v s := rfl
theorem aq_set' (l : List UInt32) (i : Nat) (x : UInt32) : (aq l).set i (.d (.lit (.int .u32 (q x)))) = aq (l.set i x) := aq_set l i x
theorem glb1 : glbD 1 = some (.agg (kNums.map dQ)) := rfl
theorem kNums_get (i : Nat) (h : i < 64) : kNums[i]? = some (wat kNums i) := by
  have : kNums.length = 64 := rfl
  unfold wat
  rw [List.getElem?_eq_getElem (by omega)]
  simp [List.getElem?_eq_getElem (show i < kNums.length by omega)]
theorem kNums_len : kNums.length = 64 := rfl
def mixS (s r : S8) (i : Nat) : S8 := ⟨if 0 < i then s.a + r.a else s.a, if 1 < i then s.b + r.b else s.b, if 2 < i then s.c + r.c else s.c, if 3 < i then s.d + r.d else s.d, if 4 < i then s.e + r.e else s.e, if 5 < i then s.f + r.f else s.f, if 6 < i then s.g + r.g else s.g, if 7 < i then s.h + r.h else s.h⟩
def restAC : AC → AC
  | .seq _ (.seq _ r) => r
  | c => c
theorem absorbR {cx : Cx} (hB : cx.B = 3) (htop : cx.top = true) (hC : CAbs cx.C) (s : S8) (b : List UInt8) (z0 : List D) (hz0 : ∀ d ∈ z0, d.one = true) (x2 : HO)
    (h2 : x2 = .dead ∨ ∃ z2, x2 = .box true (List.map AV.d z2) ∧ (∀ d ∈ z2, d.one = true)) (sl : List (Nat × Bool × AV)) (g0 : getS sl 0 = some (true, .ptr 1 0)) (g4 : getS sl 4 = some (true, .ptr 3 0))
    (K : HOut → List (Nat × HO) → Prop) (hK : ∀ x3 x4, K (.ret (.tup [])) [(0, .box true (z0.map .d)), (1, .box true (aq (compress s b).l)), (2, x2), (3, x3), (4, x4)]) :
    ∀ (rest : AC) (fn : AF), rest = restAC a41.body → fn = a41 → vcX Tryd.prog cx rest (endH Tryd.prog cx.C fn K) ⟨sl, [(0, .box true (z0.map .d)), (1, .box true (aq s.l)), (2, x2), (3, .box true (aq (wInit b 16)))], []⟩ := by
  rintro rest fn rfl rfl
  obtain ⟨B, top, l, Y, C⟩ := cx
  simp only at hB htop hC
  subst hB; subst htop
  rcases h2 with rfl | ⟨z2, rfl, hz2⟩
  all_goals
    simp [a41, restAC, -List.reduceReplicate]
    refine vc_loopK [0, 4] Nat (fun i => [(6, true, .d (dI (16 + i)))]) (fun i => [(3, .box true (aq (wUp b i)))]) (fun i => i ≤ 48) (fun i => 48 - i) 0 (by simp) ⟨[], [], ?_⟩ (fun i hi => ?_)
    · simp [wUp, g0, g4]
      (repeat' apply And.intro) <;> first | exact hz0 | exact aq_one _ | exact hz2
    simp [g0, g4]
    refine ⟨fun hlt => ?_, fun hge => ?_⟩
    · have hlt : i < 48 := by omega
      have e15 : IntKind.i64.wrap (16 + (i : Int) - 15) = ((i + 1 : Nat) : Int) := by rw [wrap64 (by omega)]; omega
      have e2 : IntKind.i64.wrap (16 + (i : Int) - 2) = ((i + 14 : Nat) : Int) := by rw [wrap64 (by omega)]; omega
      have e16 : IntKind.i64.wrap (16 + (i : Int) - 16) = ((i : Nat) : Int) := by rw [wrap64 (by omega)]; omega
      have e7 : IntKind.i64.wrap (16 + (i : Int) - 7) = ((i + 9 : Nat) : Int) := by rw [wrap64 (by omega)]; omega
      have e1 : IntKind.i64.wrap (16 + (i : Int) + 1) = ((16 + (i + 1) : Nat) : Int) := by rw [wrap64 (by omega)]; omega
      have hl := wUp_len b i
      have hg : ∀ j : Nat, j < 64 → (aq (wUp b i))[j]? = some (.d (dq (wat (wUp b i) j))) := fun j hj => aq_get _ _ (by omega)
      have t14 : ((i : Int) + 14).toNat = i + 14 := by omega
      have t9 : ((i : Int) + 9).toNat = i + 9 := by omega
      have t16 : (16 + (i : Int)).toNat = 16 + i := by omega
      simp only [e15, e2]
      simp [hl, t14, hg (i + 1) (by omega), hg (i + 14) (by omega)]
      refine ⟨⟨by omega, by omega⟩, by omega, ⟨by omega, by omega⟩, by omega, rfl, ?_⟩
      have r1 := hC.rot (wat (wUp b i) (i + 1)) 7 (by omega) (by omega)
      have r2 := hC.rot (wat (wUp b i) (i + 1)) 18 (by omega) (by omega)
      have r3 := hC.rot (wat (wUp b i) (i + 14)) 17 (by omega) (by omega)
      have r4 := hC.rot (wat (wUp b i) (i + 14)) 19 (by omega) (by omega)
      have hset : (wUp b i).set (16 + i) (wat (wUp b i) i + (ror (wat (wUp b i) (i + 1)) 7 ^^^ ror (wat (wUp b i) (i + 1)) 18 ^^^ wat (wUp b i) (i + 1) >>> 3) + wat (wUp b i) (i + 9) + (ror (wat (wUp b i) (i + 14)) 17 ^^^ ror (wat (wUp b i) (i + 14)) 19 ^^^ wat (wUp b i) (i + 14) >>> 10)) = wUp b (i + 1) := by
        rw [wUp, wNew]
        rw [show 16 + i - 16 = i by omega, show 16 + i - 15 = i + 1 by omega, show 16 + i - 7 = i + 9 by omega, show 16 + i - 2 = i + 14 by omega]
      have hgi := hg i (by omega)
      have hg9 := hg (i + 9) (by omega)
      generalize hx1 : wat (wUp b i) (i + 1) = x1 at *
      generalize hx14 : wat (wUp b i) (i + 14) = x14 at *
      refine vc_pathD [.ret (dq (ror x1 7)), .ret (dq (ror x1 18)), .ret (dq (ror x14 17)), .ret (dq (ror x14 19))] ?_
      have s3 : shiftV false .u32 (q x1) 3 = .int .u32 (q (x1 >>> 3)) := shr_q x1 3 (by omega)
      have s10 : shiftV false .u32 (q x14) 10 = .int .u32 (q (x14 >>> 10)) := shr_q x14 10 (by omega)
      unfold dq at *
      simp [e16, e7, hl, hgi, hg9, e1, t9, t16, s3, s10]
      refine ⟨by omega, by omega, by simpa using r1, by simpa using r2, ⟨by omega, by omega⟩, by omega, by simpa using r3, by simpa using r4, ⟨by omega, by omega⟩, by omega, rfl, i + 1, by omega, by omega, [], [], ?_⟩
      rw [aq_set', hset]
      simp
      (repeat' apply And.intro) <;> first | exact hz0 | exact aq_one _ | exact hz2
    · have hi48 : i = 48 := by omega
      subst hi48
      rw [aqS] at *
      have hone : ∀ r : S8, ∀ c ∈ s8v r, c.one = true := fun r c hc => by
        rw [← aqS] at hc; exact aq_one _ c hc
      have hlv : ∀ r : S8, (s8v r).length = 8 := fun r => rfl
      simp [s8v, S8.l]
      refine vc_loopK [0, 4, 9] Nat (fun i => [(69, true, .d (dI i))]) (fun i => [(4, .box true (s8v (rounds (wUp b 48) s i)))]) (fun i => i ≤ 64) (fun i => 64 - i) 0 (by simp) ⟨[], [], ?_⟩ (fun i hi => ?_)
      · simp [rounds, s8v]
        (repeat' apply And.intro) <;> first | exact hz0 | exact aq_one _ | exact hz2
      have hl := wUp_len b 48
      simp
      refine ⟨fun hlt => ?_, fun hge => ?_⟩
      · have hlt : i < 64 := by omega
        have hg : (aq (wUp b 48))[i]? = some (.d (dq (wat (wUp b 48) i))) := aq_get _ _ (by omega)
        generalize hr : rounds (wUp b 48) s i = r
        have c1 := hC.rotd r.e 6 11 25 (by omega) (by omega) (by omega)
        have c2 := hC.rotd r.a 2 13 22 (by omega) (by omega) (by omega)
        unfold dq at c1 c2 hg
        refine vc_pathD [.ret (dq (rot3 r.e 6 11 25))] ?_
        unfold dq
        simp [s8v, glb1, kNums_get i hlt, kNums_len, hg]
        refine ⟨by simpa using c1, ⟨by omega, by omega⟩, by omega, by rw [hl]; omega, rfl, vc_pathD [.ret (dq (rot3 r.a 2 13 22))] ?_⟩
        unfold dq
        simp [s8v]
        have hw1 : IntKind.i64.wrap ((i : Int) + 1) = ((i + 1 : Nat) : Int) := by rw [wrap64 (by omega)]; omega
        refine ⟨by simpa using c2, rfl, rfl, i + 1, by omega, by omega, [], [], ?_⟩
        rw [hw1, rounds, hr]
        simp [round, s8v]
        (repeat' apply And.intro) <;> first | exact hz0 | exact aq_one _ | exact hz2
      · have hi64 : i = 64 := by omega
        subst hi64
        have hcs : compress s b = s.add (rounds (wUp b 48) s 64) := rfl
        generalize hr : rounds (wUp b 48) s 64 = r at hcs
        simp [s8v]
        refine vc_loopK [0, 4, 9] Nat (fun i => [(129, true, .d (dI i))]) (fun i => [(1, .box true (s8v (mixS s r i)))]) (fun i => i ≤ 8) (fun i => 8 - i) 0 (by simp) ⟨[], [], ?_⟩ (fun i hi => ?_)
        · simp [mixS, s8v]
          (repeat' apply And.intro) <;> first | exact hz0 | exact aq_one _ | exact hz2
        have h8 : i = 0 ∨ i = 1 ∨ i = 2 ∨ i = 3 ∨ i = 4 ∨ i = 5 ∨ i = 6 ∨ i = 7 ∨ i = 8 := by omega
        rcases h8 with rfl | rfl | rfl | rfl | rfl | rfl | rfl | rfl | rfl
        · have hwk : IntKind.i64.wrap 1 = 1 := rfl
          simp [s8v, mixS, hwk]
          refine ⟨rfl, 1, by omega, by omega, [], [], ?_⟩
          simp
          (repeat' apply And.intro) <;> first | exact hz0 | exact aq_one _ | exact hz2
        · have hwk : IntKind.i64.wrap 2 = 2 := rfl
          simp [s8v, mixS, hwk]
          refine ⟨rfl, 2, by omega, by omega, [], [], ?_⟩
          simp
          (repeat' apply And.intro) <;> first | exact hz0 | exact aq_one _ | exact hz2
        · have hwk : IntKind.i64.wrap 3 = 3 := rfl
          simp [s8v, mixS, hwk]
          refine ⟨rfl, 3, by omega, by omega, [], [], ?_⟩
          simp
          (repeat' apply And.intro) <;> first | exact hz0 | exact aq_one _ | exact hz2
        · have hwk : IntKind.i64.wrap 4 = 4 := rfl
          simp [s8v, mixS, hwk]
          refine ⟨rfl, 4, by omega, by omega, [], [], ?_⟩
          simp
          (repeat' apply And.intro) <;> first | exact hz0 | exact aq_one _ | exact hz2
        · have hwk : IntKind.i64.wrap 5 = 5 := rfl
          simp [s8v, mixS, hwk]
          refine ⟨rfl, 5, by omega, by omega, [], [], ?_⟩
          simp
          (repeat' apply And.intro) <;> first | exact hz0 | exact aq_one _ | exact hz2
        · have hwk : IntKind.i64.wrap 6 = 6 := rfl
          simp [s8v, mixS, hwk]
          refine ⟨rfl, 6, by omega, by omega, [], [], ?_⟩
          simp
          (repeat' apply And.intro) <;> first | exact hz0 | exact aq_one _ | exact hz2
        · have hwk : IntKind.i64.wrap 7 = 7 := rfl
          simp [s8v, mixS, hwk]
          refine ⟨rfl, 7, by omega, by omega, [], [], ?_⟩
          simp
          (repeat' apply And.intro) <;> first | exact hz0 | exact aq_one _ | exact hz2
        · have hwk : IntKind.i64.wrap 8 = 8 := rfl
          simp [s8v, mixS, hwk]
          refine ⟨rfl, 8, by omega, by omega, [], [], ?_⟩
          simp
          (repeat' apply And.intro) <;> first | exact hz0 | exact aq_one _ | exact hz2
        · have hKK := hK (.box true (aq (wUp b 48))) (.box true (s8v r))
          rw [hcs] at hKK
          simp [s8v, mixS]
          simpa [s8v, S8.add] using hKK
def seq1 : AC → AC
  | .seq a _ => a
  | c => c
def seq2 : AC → AC
  | .seq _ a => a
  | c => c
theorem absorbF {cx : Cx} (hB : cx.B = 3) (htop : cx.top = true) (hC : CAbs cx.C) (s : S8) (b : List UInt8) (hb : b.length = 64) (z0 : List D) (hz0 : ∀ d ∈ z0, d.one = true) (x2 : HO) (arg : AV)
    (h2 : (x2 = .dead ∧ arg = .d (dBy b)) ∨ ∃ z2 o c, x2 = .box true (List.map AV.d z2) ∧ (∀ d ∈ z2, d.one = true) ∧ arg = .bsl 2 o 1 64 c ∧ (z2.drop o).take 64 = b.map dU ∧ 64 ≤ c)
    (R : AC) (Q : AE → St → Prop) (hR : ∀ sl, getS sl 0 = some (true, .ptr 1 0) → getS sl 4 = some (true, .ptr 3 0) → vcX Tryd.prog cx R Q ⟨sl, [(0, .box true (z0.map .d)), (1, .box true (aq s.l)), (2, x2), (3, .box true (aq (wInit b 16)))], []⟩) :
    vcX Tryd.prog cx (.seq (seq1 a41.body) (.seq (seq1 (seq2 a41.body)) R)) Q ⟨argA [.ptr 1 0, arg] 0, [(0, .box true (z0.map .d)), (1, .box true (aq s.l)), (2, x2)], []⟩ := by
  obtain ⟨B, top, l, Y, C⟩ := cx
  simp only at hB htop hC
  subst hB; subst htop
  have hw : ∀ i : Nat, i < 64 → IntKind.i64.wrap ((i : Int) + 1) = ((i + 1 : Nat) : Int) := fun i h => by rw [wrap64 (by omega)]; omega
  have hw4 : ∀ i : Nat, i < 64 → IntKind.i64.wrap (4 * (i : Int)) = 4 * (i : Int) := fun i h => wrap64 (by omega)
  have ht4 : ∀ i : Nat, (4 * (i : Int)).toNat = 4 * i := fun i => by omega
  rcases h2 with ⟨rfl, rfl⟩ | ⟨z2, o, c, rfl, hz2, rfl, hzz, hc⟩
  · simp [a41, seq1, seq2, -List.reduceReplicate]
    refine vc_loopK [0, 1, 4] Nat (fun i => [(14, true, .d (dI i))]) (fun i => [(3, .box true (aq (wInit b i)))]) (fun i => i ≤ 16) (fun i => 16 - i) 0 (by simp) ⟨[], [], ?_⟩ (fun i hi => ?_)
    · simp [aq0]
      exact ⟨hz0, aq_one _⟩
    simp
    refine ⟨fun hlt => ?_, fun hge => ?_⟩
    · have hlt : i < 16 := by omega
      have hcc := hC.word (b.drop (4 * i)) (by simp; omega)
      refine vc_path [.ret (dq (wordQ (b.drop (4 * i))))] ?_
      simp [hw i (by omega), hw4 i (by omega), ht4, hb]
      refine ⟨⟨by omega, by omega⟩, ?_, by omega, by rw [wInit_len]; omega, i + 1, by omega, by omega, [], [], ?_⟩
      · rw [List.take_of_length_le (by simp; omega)]
        simpa using hcc
      · simp [aq_set, wInit_set b i (by omega)]
        exact ⟨hz0, aq_one _, aq_one _⟩
    · have hi16 : i = 16 := by omega
      subst hi16
      exact hR _ rfl rfl
  · simp [a41, seq1, seq2, -List.reduceReplicate]
    refine vc_loopK [0, 1, 4] Nat (fun i => [(14, true, .d (dI i))]) (fun i => [(3, .box true (aq (wInit b i)))]) (fun i => i ≤ 16) (fun i => 16 - i) 0 (by simp) ⟨[], [], ?_⟩ (fun i hi => ?_)
    · simp [aq0]
      exact ⟨hz0, aq_one _, hz2⟩
    simp
    refine ⟨fun hlt => ?_, fun hge => ?_⟩
    · have hlt : i < 16 := by omega
      have hcc := hC.word (b.drop (4 * i)) (by simp; omega)
      have hne : ¬ 64 - 4 * i = 0 := by omega
      refine vc_path [.ret (dq (wordQ (b.drop (4 * i))))] ?_
      have hlz : o + 64 ≤ z2.length := by
        have := congrArg List.length hzz
        simp at this
        omega
      have hels : elsD 1 (64 - 4 * i) (z2.drop (o + 4 * i)) = (b.drop (4 * i)).map dU := by
        unfold elsD
        rw [if_pos rfl, List.map_drop, ← hzz, List.drop_take, List.drop_drop]
      simp [hw i (by omega), hw4 i (by omega), ht4, hb, hne, allD1_map, hels, show o + 4 * i + (64 - 4 * i) ≤ z2.length by omega]
      refine ⟨⟨by omega, by omega, by omega⟩, by simpa using hcc, by omega, by rw [wInit_len]; omega, i + 1, by omega, by omega, [], [], ?_⟩
      simp [aq_set, wInit_set b i (by omega)]
      (repeat' apply And.intro) <;> first | exact hz0 | exact aq_one _ | exact hz2
    · have hi16 : i = 16 := by omega
      subst hi16
      exact hR _ rfl rfl
theorem absorbH {cx : Cx} (hB : cx.B = 3) (htop : cx.top = true) (hC : CAbs cx.C) (s : S8) (b : List UInt8) (hb : b.length = 64) (z0 : List D) (hz0 : ∀ d ∈ z0, d.one = true) (x2 : HO) (arg : AV)
    (h2 : (x2 = .dead ∧ arg = .d (dBy b)) ∨ ∃ z2 o c, x2 = .box true (List.map AV.d z2) ∧ (∀ d ∈ z2, d.one = true) ∧ arg = .bsl 2 o 1 64 c ∧ (z2.drop o).take 64 = b.map dU ∧ 64 ≤ c)
    (K : HOut → List (Nat × HO) → Prop) (hK : ∀ x3 x4, K (.ret (.tup [])) [(0, .box true (z0.map .d)), (1, .box true (aq (compress s b).l)), (2, x2), (3, x3), (4, x4)]) :
    TF Tryd.prog a41 cx [.ptr 1 0, arg] [(0, .box true (z0.map .d)), (1, .box true (aq s.l)), (2, x2)] K := by
  rw [TF_eq]
  refine ⟨by simp [a41], ?_⟩
  have e : a41.body = .seq (seq1 a41.body) (.seq (seq1 (seq2 a41.body)) (restAC a41.body)) := rfl
  rw [e]
  refine absorbF hB htop hC s b hb z0 hz0 x2 arg h2 _ _ fun sl g0 g4 => ?_
  exact absorbR hB htop hC s b z0 hz0 x2 (h2.imp (fun h => h.1) (fun ⟨z2, o, c, h1, h2, _⟩ => ⟨z2, h1, h2⟩)) sl g0 g4 K hK _ _ rfl rfl
end Go.Proofs.YtfegfnekphobmaaDoor
end

section
namespace Go.Proofs.YtfegfnekphobmaaDoor
open Go Go.Proofs.YtfegfnekphobmaaDoor.AL
set_option maxRecDepth 8000
set_option maxHeartbeats 8000000
/-- A number's bytes, the greatest first, in a part of a box. -/
def putB (n : Nat) (u : Nat) : List UInt8 := (List.range n).map fun j => UInt8.ofNat (u / 256 ^ (n - 1 - j))
theorem putB_len (n u : Nat) : (putB n u).length = n := by simp [putB]
/-- What put has done after i steps. -/
def putW (z : List D) (o n u i : Nat) : List D := (List.range z.length).map fun j => if o + (n - i) ≤ j ∧ j < o + n then dU (UInt8.ofNat (u / 256 ^ (o + n - 1 - j))) else z.getD j default
theorem putW_len (z : List D) (o n u i : Nat) : (putW z o n u i).length = z.length := by simp [putW]
theorem putW_0 (z : List D) (o n u : Nat) : putW z o n u 0 = z := by
  refine List.ext_getElem? fun k => ?_
  by_cases hk : k < z.length
  · simp [putW, hk]
    intro h1 h2; omega
  · simp [putW, hk]
theorem putW_s (z : List D) (o n u i : Nat) (hi : i < n) (hz : o + n ≤ z.length) : (putW z o n u i).set (o + (n - 1 - i)) (dU (UInt8.ofNat (u / 256 ^ i))) = putW z o n u (i + 1) := by
  refine List.ext_getElem? fun k => ?_
  rw [List.getElem?_set, putW_len]
  by_cases hk : o + (n - 1 - i) = k
  · subst hk
    rw [if_pos rfl, if_pos (by omega)]
    simp only [putW, List.getElem?_map]
    rw [List.getElem?_range (by omega)]
    simp only [Option.map_some]
    rw [if_pos (by omega), show o + n - 1 - (o + (n - 1 - i)) = i by omega]
  · rw [if_neg hk]
    simp only [putW, List.getElem?_map]
    by_cases hk2 : k < z.length
    · rw [List.getElem?_range hk2]
      simp only [Option.map_some]
      congr 1
      by_cases h1 : o + (n - i) ≤ k ∧ k < o + n
      · rw [if_pos h1, if_pos (by omega)]
      · rw [if_neg h1, if_neg (by omega)]
    · simp [hk2]
theorem putW_n (z : List D) (o n u : Nat) (hz : o + n ≤ z.length) : putW z o n u n = z.take o ++ (putB n u).map dU ++ z.drop (o + n) := by
  refine List.ext_getElem? fun k => ?_
  by_cases h1 : k < o
  · rw [List.append_assoc, List.getElem?_append_left (by simp; omega), List.getElem?_take_of_lt h1]
    simp only [putW, List.getElem?_map]
    rw [List.getElem?_range (by omega)]
    simp only [Option.map_some]
    rw [if_neg (by omega), List.getElem?_eq_getElem (by omega)]
    simp [List.getD, List.getElem?_eq_getElem (show k < z.length by omega)]
  · by_cases h2 : k < o + n
    · rw [List.getElem?_append_left (by simp [putB_len]; omega), List.getElem?_append_right (by simp; omega)]
      simp only [putW, List.getElem?_map, putB]
      rw [List.getElem?_range (by omega)]
      simp only [Option.map_some, List.length_take]
      rw [List.getElem?_range (by omega)]
      simp only [Option.map_some]
      rw [if_pos (by omega)]
      congr 5
      omega
    · rw [List.getElem?_append_right (by simp [putB_len]; omega)]
      simp only [putW, List.getElem?_map, List.length_append, List.length_take, List.length_map, putB_len, List.getElem?_drop]
      by_cases h3 : k < z.length
      · rw [List.getElem?_range h3]
        simp only [Option.map_some]
        rw [if_neg (by omega), show o + n + (k - (min o z.length + n)) = k by omega, List.getElem?_eq_getElem h3]
        simp [List.getD, List.getElem?_eq_getElem h3]
      · rw [List.getElem?_eq_none (by simp; omega), List.getElem?_eq_none (by omega)]
        rfl
/-- A loop: the states are told whole. -/
theorem vc_loopG {P : Program} {cx : Cx} {Q : AE → St → Prop} {σ : St} {b : AC} (X : Type) (st : X → St) (I : X → Prop) (μ : X → Nat) (x0 : X) (h0 : I x0) (hs : Sub cx.B σ (st x0))
    (h : ∀ x, I x → vcX P cx b (seqQ (fun σ' => ∃ x', I x' ∧ μ x' < μ x ∧ Sub cx.B σ' (st x')) Q) (st x)) : vcX P cx (.loop b) Q σ := by
  rw [vcX_eq] at h ⊢
  exact ⟨X, st, I, μ, ⟨x0, h0, hs⟩, h⟩
/-- Things that stay under an identity. -/
inductive HOk : HO → Prop
  | dead : HOk .dead
  | box (ag : Bool) (ds : List D) (h : ∀ d ∈ ds, d.one = true) : HOk (.box ag (ds.map .d))
theorem setH_setH : ∀ (h : List (Nat × HO)) (n : Nat) (x y : HO), setH (setH h n x) n y = setH h n y
  | [], n, x, y => by simp
  | (m, z) :: r, n, x, y => by
    simp only [setH]
    by_cases e : n = m
    · subst e; simp [setH]
    · rw [if_neg e, if_neg e]; simp only [setH]; rw [if_neg e, setH_setH r n x y]
theorem setH_same : ∀ (h : List (Nat × HO)) (n : Nat) (x : HO), AL.look h n = some x → setH h n x = h
  | [], n, x, h => by simp at h
  | (m, z) :: r, n, x, h => by
    simp only [AL.look] at h
    simp only [setH]
    by_cases e : n = m
    · rw [if_pos e] at h ⊢; injection h with h; rw [h]
    · rw [if_neg e] at h ⊢; rw [setH_same r n x h]
theorem mem_setH : ∀ {h : List (Nat × HO)} {n : Nat} {x : HO} {p : Nat × HO}, (doms h).Nodup → p ∈ setH h n x → p = (n, x) ∨ (p ∈ h ∧ p.1 ≠ n)
  | [], n, x, p, _, hp => by simp [setH] at hp; exact .inl hp
  | (m, z) :: r, n, x, p, hd, hp => by
    simp only [setH] at hp
    simp only [doms, List.map_cons, List.nodup_cons] at hd
    by_cases e : n = m
    · rw [if_pos e] at hp
      rcases List.mem_cons.1 hp with h | h
      · exact .inl (by rw [h, e])
      · refine .inr ⟨List.mem_cons_of_mem _ h, fun e2 => hd.1 ?_⟩
        rw [← e, ← e2]
        exact List.mem_map_of_mem h
    · rw [if_neg e] at hp
      rcases List.mem_cons.1 hp with h | h
      · exact .inr ⟨by rw [h]; exact List.mem_cons_self .., by rw [h]; exact fun e2 => e e2.symm⟩
      · rcases mem_setH hd.2 h with h | h
        · exact .inl h
        · exact .inr ⟨List.mem_cons_of_mem _ h.1, h.2⟩
theorem mem_look : ∀ {h : List (Nat × HO)} {n : Nat} {x : HO}, AL.look h n = some x → (n, x) ∈ h
  | [], n, x, hl => by simp at hl
  | (m, z) :: r, n, x, hl => by
    simp only [AL.look] at hl
    by_cases e : n = m
    · rw [if_pos e] at hl; injection hl with hl; rw [hl, e]; exact List.mem_cons_self ..
    · rw [if_neg e] at hl; exact List.mem_cons_of_mem _ (mem_look hl)
theorem doms_setH : ∀ (h : List (Nat × HO)) (n : Nat) (x : HO), AL.look h n ≠ none → doms (setH h n x) = doms h
  | [], n, x, h => by simp at h
  | (m, z) :: r, n, x, h => by
    simp only [AL.look] at h
    simp only [setH]
    by_cases e : n = m
    · rw [if_pos e]; rfl
    · rw [if_neg e] at h ⊢
      have := doms_setH r n x h
      simp only [doms, List.map_cons] at this ⊢
      rw [this]
theorem subH_id {σ : St} {h0 : List (Nat × HO)} : ∀ {l : List (Nat × HO)}, (∀ p ∈ l, AL.look σ.h p.1 = some p.2 ∧ HOk p.2) → subH [] [] σ h0 l
  | [], _ => by simp
  | (n, o) :: r, hl => by
    have h1 := hl (n, o) (List.mem_cons_self ..)
    have h2 := subH_id (σ := σ) (h0 := h0) (l := r) (fun p hp => hl p (List.mem_cons_of_mem _ hp))
    obtain ⟨g1, g2⟩ := h1
    simp only at g1 g2
    cases g2 with
    | dead => simp [subH, h2]
    | box ag ds hd =>
      simp [subH, g1, h2, leL_map]
      exact hd
theorem sub_id {B : Nat} {s s' : List (Nat × Bool × AV)} {h : List (Nat × HO)} (hh : ∀ p ∈ h, AL.look h p.1 = some p.2 ∧ HOk p.2) (hs : subS [] [] ⟨s, h, []⟩ h s') : Sub B ⟨s, h, []⟩ ⟨s', h, []⟩ := by
  refine ⟨[], [], ?_, hs, subH_id hh, ?_, by simp⟩
  · simp [rho, assocN]
    intros; omega
  · simp [rho, assocN]
theorem u8_div (u i : Nat) (hi : i < 8) (hu : u < 18446744073709551616) : shiftV false .u64 (u : Int) (8 * (i : Int)) = .int .u64 ((u / 256 ^ i : Nat) : Int) := by
  have e : min (8 * (i : Int)).toNat IntKind.u64.bits = 8 * i := by simp [IntKind.bits]; omega
  unfold shiftV
  rw [e]
  simp only [Bool.false_eq_true, if_false, Value.int.injEq, true_and]
  rw [Int.fdiv_eq_ediv_of_nonneg _ (Int.pow_nonneg (by omega)), show (256 : Nat) = 2 ^ 8 from rfl, ← Nat.pow_mul]
  simp
theorem dU_conv (v : Nat) : D.lit (.int .u8 (IntKind.u8.wrap (v : Int))) = dU (UInt8.ofNat v) := by rw [conv_u8]; rfl
theorem putW_one (z : List D) (hz : ∀ d ∈ z, d.one = true) (o n u i : Nat) : ∀ d ∈ putW z o n u i, d.one = true := fun d hd => by
  simp only [putW, List.mem_map, List.mem_range] at hd
  obtain ⟨j, hj, rfl⟩ := hd
  split
  · rfl
  · simp only [List.getD, List.getElem?_eq_getElem hj]
    exact hz _ (List.getElem_mem hj)
theorem putH {cx : Cx} (u n o len c : Nat) (hu : u < 18446744073709551616) (z : List D) (hz : ∀ d ∈ z, d.one = true) (h : List (Nat × HO)) (hnd : (doms h).Nodup) (hh : ∀ p ∈ h, AL.look h p.1 = some p.2 ∧ HOk p.2) (hn : AL.look h n = some (.box true (z.map .d)))
    (hl : o + len ≤ z.length) (h8 : len ≤ 8) (K : HOut → List (Nat × HO) → Prop) (hK : K (.ret (.tup [])) (setH h n (.box true ((putW z o len u len).map .d)))) :
    TF Tryd.prog a42 cx [.bsl n o 1 len c, .d (.lit (.int .u64 u))] h K := by
  simp [a42]
  have hlk : ∀ X : HO, AL.look (setH h n X) n = some X := fun X => by rw [look_setH, if_pos rfl]
  have hhX : ∀ (i : Nat), ∀ p ∈ setH h n (.box true ((putW z o len u i).map .d)), AL.look (setH h n (.box true ((putW z o len u i).map .d))) p.1 = some p.2 ∧ HOk p.2 := fun i p hp => by
    rw [look_setH]
    rcases mem_setH hnd hp with rfl | ⟨hp, e⟩
    · exact ⟨by rw [if_pos rfl], .box _ _ (putW_one z hz _ _ _ _)⟩
    · rw [if_neg e]; exact hh p hp
  refine vc_loopG Nat (fun i => ⟨[(7, true, .d (dI i)), (0, true, .bsl n o 1 len c), (1, true, .d (.lit (.int .u64 u))), (6, true, .d (dI len))], setH h n (.box true ((putW z o len u i).map .d)), []⟩) (fun i => i ≤ len) (fun i => len - i) 0 (by omega) ?_ (fun i hi => ?_)
  · rw [putW_0, setH_same _ _ _ hn]
    refine sub_id hh ?_
    have := mem_look hn
    simp
    exact ⟨_, this⟩
  simp
  refine ⟨fun hlt => ?_, fun hge => ?_⟩
  · have e1 : IntKind.i64.wrap (8 * (i : Int)) = 8 * (i : Int) := wrap64 (by omega)
    have e2 : IntKind.i64.wrap (IntKind.i64.wrap ((len : Int) - 1) - (i : Int)) = ((len - 1 - i : Nat) : Int) := by rw [wrap64 (n := (len : Int) - 1) (by omega), wrap64 (by omega)]; omega
    have e3 : IntKind.i64.wrap ((i : Int) + 1) = ((i + 1 : Nat) : Int) := by rw [wrap64 (by omega)]; omega
    simp only [e1, e2, e3, u8_div u i (by omega) hu, hlk]
    simp [dU_conv, hlk, putW_len]
    refine ⟨by omega, by omega, by omega, i + 1, by omega, by omega, ?_⟩
    have e5 : D.lit (.int .u8 (IntKind.u8.wrap ((u : Int) / 256 ^ i))) = dU (UInt8.ofNat (u / 256 ^ i)) := by
      rw [show (u : Int) / 256 ^ i = ((u / 256 ^ i : Nat) : Int) by simp, dU_conv]
    rw [setH_setH, e5, ← List.map_set, show o + (len - 1 - i) = o + (len - 1 - i) from rfl, putW_s z o len u i hlt hl]
    refine sub_id (hhX (i + 1)) ?_
    simp
    exact ⟨_, mem_look (hlk _)⟩
  · have : i = len := by omega
    subst this
    exact hK
end Go.Proofs.YtfegfnekphobmaaDoor
end

section
namespace Go.Proofs.YtfegfnekphobmaaDoor
open Go Go.Proofs.YtfegfnekphobmaaDoor.AL
set_option maxRecDepth 8000
set_option maxHeartbeats 8000000
def s0 : S8 := ⟨0x6a09e667, 0xbb67ae85, 0x3c6ef372, 0xa54ff53a, 0x510e527f, 0x9b05688c, 0x1f83d9ab, 0x5be0cd19⟩
theorem glb0 : glbD 0 = some (.agg (s0.l.map dq)) := rfl
/-- The state after some blocks. -/
def bl (s : S8) (b : List UInt8) : Nat → S8
  | 0 => s
  | i + 1 => compress (bl s b i) ((b.drop (64 * i)).take 64)
/-- The end of a text: what is left, a bit, zeros, the number of bits. -/
def endL (r : List UInt8) (n : Nat) : List UInt8 := r ++ 128 :: List.replicate ((if r.length ≤ 55 then 55 else 119) - r.length) 0 ++ putB 8 (n * 8)
def shaS (b : List UInt8) : S8 := bl (bl s0 b (b.length / 64)) (endL (b.drop (64 * (b.length / 64))) b.length) (if (b.drop (64 * (b.length / 64))).length ≤ 55 then 1 else 2)
def outL (s : S8) : List UInt8 := s.l.flatMap fun x => putB 4 x.toNat
/-- SHA-256. -/
def shaL (b : List UInt8) : List UInt8 := outL (shaS b)
theorem outL_len (s : S8) : (outL s).length = 32 := by simp [outL, S8.l, putB_len]
theorem shaL_len (b : List UInt8) : (shaL b).length = 32 := outL_len _
inductive C314 : FuncId → List D → Out → Prop
  | word (b : List UInt8) (h : 4 ≤ b.length) : C314 53 [dBy b] (.ret (dq (wordQ b)))
  | rot (x : UInt32) (c : Nat) (h1 : 0 < c) (h2 : c < 32) : C314 54 [dq x, dI (-(c : Int))] (.ret (dq (ror x c)))
  | rotd (x : UInt32) (a b c : Nat) (ha : 0 < a ∧ a < 32) (hb : 0 < b ∧ b < 32) (hc : 0 < c ∧ c < 32) : C314 55 [dq x, dI a, dI b, dI c] (.ret (dq (rot3 x a b c)))
theorem h314 : ∀ f ds out, C314 f ds out → PCall Tryd.prog f ds out := by
  intro f ds out h
  cases h with
  | word b h => exact word b h
  | rot x c h1 h2 => exact rotl x c h1 h2
  | rotd x a b c ha hb hc => exact rotated x a b c ha hb hc
theorem a314 : CAbs C314 := ⟨.word, .rot, .rotd⟩
def z32 : List D := List.replicate 32 (.lit (.int .u8 0))
theorem z32_one : ∀ d ∈ z32, d.one = true := fun d hd => by simp [z32] at hd; rw [hd]; rfl
def zrs (n : Nat) : List D := List.replicate n (.lit (.int .u8 0))
theorem zrs_len (n : Nat) : (zrs n).length = n := by simp [zrs, -List.reduceReplicate]
theorem zrs_one (n : Nat) : ∀ d ∈ zrs n, d.one = true := fun d hd => by
  rw [List.eq_of_mem_replicate hd]; rfl
theorem zrs_eq (n : Nat) : List.replicate n (D.lit (.int .u8 0)) = zrs n := rfl
theorem dUs_one (b : List UInt8) : ∀ d ∈ b.map dU, d.one = true := fun d hd => by
  obtain ⟨x, _, rfl⟩ := List.mem_map.1 hd
  rfl
theorem wr_of {es : List D} (h : ∀ d ∈ es, d.one = true) : wr es = es.map .d := by unfold wr; rw [flat_onesD _ h]
def spl (z : List D) (o : Nat) (y : List D) : List D := z.take o ++ y ++ z.drop (o + y.length)
theorem setAt_map : ∀ (y z : List D) (o : Nat), o + y.length ≤ z.length → setAt (z.map AV.d) o (y.map AV.d) = (spl z o y).map AV.d
  | [], z, o, h => by simp [setAt, spl]
  | c :: r, z, o, h => by
    simp only [List.length_cons] at h
    simp only [List.map_cons, setAt, ← List.map_set]
    rw [setAt_map r (z.set o c) (o + 1) (by simp; omega)]
    congr 1
    unfold spl
    rw [List.set_eq_take_append_cons_drop, if_pos (by omega)]
    simp only [List.length_cons]
    rw [List.take_append, List.drop_append]
    simp only [List.length_take]
    rw [Nat.min_eq_left (by omega), show o + 1 - o = 1 by omega, show o + 1 + r.length - o = r.length + 1 by omega]
    simp [List.take_take, List.drop_take]
    rw [show o + (r.length + 1) = o + 1 + r.length by omega, show o - (o + 1 + r.length) = 0 by omega]
    simp
def outA (S : S8) (i : Nat) : List D := ((S.l.take i).flatMap fun x => putB 4 x.toNat).map dU ++ zrs (32 - 4 * i)
theorem outA_0 (S : S8) : outA S 0 = z32 := by simp [outA, zrs, z32]
theorem outA_one (S : S8) (i : Nat) : ∀ d ∈ outA S i, d.one = true := fun d hd => by
  rcases List.mem_append.1 hd with h | h
  · exact dUs_one _ _ h
  · exact zrs_one _ _ h
theorem flat4_len : ∀ l : List UInt32, (l.flatMap fun x => putB 4 x.toNat).length = 4 * l.length
  | [] => rfl
  | x :: r => by simp [List.flatMap_cons, putB_len, flat4_len r]; omega
theorem outA_len (S : S8) (i : Nat) (h : i ≤ 8) : (outA S i).length = 32 := by
  have h8 : S.l.length = 8 := rfl
  simp only [outA, List.length_append, List.length_map, flat4_len, zrs_len, List.length_take, h8]
  omega
theorem outA_s (S : S8) (i : Nat) (h : i < 8) : putW (outA S i) (4 * i) 4 (wat S.l i).toNat 4 = outA S (i + 1) := by
  have h8 : S.l.length = 8 := rfl
  rw [putW_n _ _ _ _ (by rw [outA_len _ _ (by omega)]; omega)]
  have hf : (((S.l.take i).flatMap fun x => putB 4 x.toNat).map dU).length = 4 * i := by
    simp only [List.length_map, flat4_len, List.length_take, h8]; omega
  have hg : S.l.take (i + 1) = S.l.take i ++ [wat S.l i] := by
    rw [List.take_add_one, List.getElem?_eq_getElem (by omega)]
    simp [wat, List.getElem?_eq_getElem (show i < S.l.length by omega)]
  unfold outA
  rw [List.take_append_of_le_length (by omega), List.take_of_length_le (by omega), List.drop_append, hf, List.drop_eq_nil_of_le (by omega), hg]
  simp only [List.flatMap_append, List.flatMap_cons, List.flatMap_nil, List.append_nil, List.map_append, List.nil_append]
  congr 1
  unfold zrs
  rw [List.drop_replicate]
  congr 1
  omega
theorem outA_8 (S : S8) : outA S 8 = (outL S).map dU := by
  have h8 : S.l.take 8 = S.l := rfl
  simp [outA, h8, outL, zrs]
theorem sum (b : List UInt8) (hb : b.length < 1152921504606846976) : PCall Tryd.prog 32 [dBy b] (.ret (.agg ((shaL b).map dU))) := by
  refine pcall_of_vc h314 c32 (by simp [a32]) fun hr => ?_
  simp [a32, glb0, -List.reduceReplicate]
  refine ⟨rfl, ?_⟩
  refine vc_loopG Nat (fun i => ⟨[(5, true, .d (dBy (b.drop (64 * i)))), (4, true, .fn (.func 41) [.ptr 1 0] []), (0, true, .d (dBy b)), (2, true, .ptr 0 0), (3, true, .ptr 1 0)], [(0, .box true (z32.map .d)), (1, .box true (aq (bl s0 b i).l)), (2, .dead)], []⟩) (fun i => 64 * i ≤ b.length) (fun i => b.length - 64 * i) 0 (by omega) ⟨[], [], ?_⟩ (fun i hi => ?_)
  · simp [dBy, bl, z32]
    exact ⟨of_eq_true (leL_aq _ _ _ _ s0.l), aq_one _⟩
  simp [dBy, zrs_eq, -List.reduceReplicate]
  refine ⟨fun hge => ?_, fun hlt => ?_⟩
  · refine regS_path [] ?_
    simp
    refine ⟨by omega, icall_T (TF Tryd.prog a41) (hcall_of_vc c41) ?_⟩
    refine absorbH rfl rfl a314 (bl s0 b i) ((b.drop (64 * i)).take 64) (by simp; omega) z32 z32_one .dead _ (.inl ⟨rfl, by simp [dBy]⟩) _ (fun x3 x4 => ?_)
    have e : List.drop 64 (List.take (b.length - 64 * i) (List.drop (64 * i) (List.map dU b))) = List.drop (64 * (i + 1)) (List.map dU b) := by
      rw [List.take_of_length_le (by simp), List.drop_drop]; rfl
    simp [e]
    refine ⟨by omega, i + 1, by omega, by omega, [], [], ?_⟩
    simp [bl, leL_aq, leL_md]
    exact ⟨z32_one, aq_one _⟩
  · have hlt : b.length - 64 * i < 64 := by omega
    have hq : i = b.length / 64 := by omega
    have hsh : shaS b = bl (bl s0 b i) (endL (b.drop (64 * i)) b.length) (if (b.drop (64 * i)).length ≤ 55 then 1 else 2) := by rw [hq]; rfl
    rw [← List.map_drop]
    generalize hrr : b.drop (64 * i) = r at *
    have hrl : r.length = b.length - 64 * i := by rw [← hrr]; simp
    have hwz : wr (zrs 128) = (zrs 128).map .d := wr_of (zrs_one _)
    have hwr : wr (List.take (min (b.length - 64 * i) 64) (r.map dU)) = (r.map dU).map .d := by
      rw [List.take_of_length_le (by simp; omega), wr_of (dUs_one r)]
    rw [hwz, hwr, setAt_map _ _ _ (by rw [zrs_len]; simp; omega), ← hrl, flat_onesD _ (zrs_one _)]
    simp only [zrs_len, List.length_map]
    generalize hza : (spl (zrs 128) 0 (r.map dU)).set r.length (dU 128) = za
    have hset : ((spl (zrs 128) 0 (r.map dU)).map AV.d).set r.length (.d (.lit (.int .u8 128))) = za.map .d := by
      rw [← hza, List.map_set]; rfl
    rw [← hrl] at hlt
    have hzl : (spl (zrs 128) 0 (r.map dU)).length = 128 := by simp [spl, zrs_len]; omega
    have hzal : za.length = 128 := by rw [← hza, List.length_set, hzl]
    have hza1 : ∀ d ∈ za, d.one = true := fun d hd => by
      rw [← hza] at hd
      rcases List.mem_or_eq_of_mem_set hd with h | h
      · unfold spl at h
        simp only [List.take_zero, List.nil_append, List.mem_append] at h
        rcases h with h | h
        · exact dUs_one _ _ h
        · exact zrs_one _ _ (List.mem_of_mem_drop h)
      · rw [h]; rfl
    have hw1 : IntKind.u64.wrap (b.length : Int) = b.length := wrap_u64 (by omega) (by omega)
    have hw2 : IntKind.u64.wrap ((b.length : Int) * 8) = ((b.length * 8 : Nat) : Int) := by rw [wrap_u64 (by omega) (by omega)]; omega
    have hend : ∀ N : Nat, (r.length ≤ 55 → N = 64) → (55 < r.length → N = 128) → (putW za (N - 8) 8 (b.length * 8) 8).take N = (endL r b.length).map dU := fun N h1 h2 => by
      have hN : N = (if r.length ≤ 55 then 64 else 128) := by split <;> omega
      rw [putW_n _ _ _ _ (by split at hN <;> omega)]
      have hN8 : N - 8 = (if r.length ≤ 55 then 55 else 119) + 1 := by split <;> split at hN <;> omega
      rw [List.take_append_of_le_length (by simp [putB_len, hzal]; split at hN <;> omega), List.take_of_length_le (by simp [putB_len, hzal]; split at hN <;> omega)]
      unfold endL
      rw [List.map_append]
      congr 1
      rw [← hza, hN8]
      generalize hM : (if r.length ≤ 55 then 55 else 119) = M
      have hMr : r.length ≤ M ∧ M + 1 ≤ 128 := by split at hM <;> omega
      refine List.ext_getElem? fun k => ?_
      rw [List.getElem?_take]
      split
      · rw [List.getElem?_set]
        by_cases e1 : r.length = k
        · subst e1
          rw [if_pos rfl, if_pos (by omega)]
          simp
        · rw [if_neg e1]
          unfold spl
          simp only [List.take_zero, List.nil_append]
          rcases Nat.lt_or_ge k r.length with h | h
          · rw [List.getElem?_append_left (by simpa using h), List.map_append, List.getElem?_append_left (by simpa using h)]
          · rw [List.getElem?_append_right (by simpa using h), List.map_append, List.getElem?_append_right (by simpa using h)]
            simp only [List.length_map, Nat.zero_add, List.map_cons]
            obtain ⟨j, hj⟩ : ∃ j, k - r.length = j + 1 := ⟨k - r.length - 1, by omega⟩
            rw [hj, List.getElem?_cons_succ, List.getElem?_drop]
            simp only [zrs, List.map_replicate]
            rw [List.getElem?_replicate, List.getElem?_replicate, if_pos (by omega), if_pos (by omega)]
            rfl
      · rw [List.getElem?_eq_none (by simp; omega)]
    have hpl : ∀ o : Nat, (putW za o 8 (b.length * 8) 8).length = 128 := fun o => by rw [putW_len, hzal]
    refine ⟨by omega, by omega, by rw [hzl]; omega, fun h55 => ?_, fun h55 => ?_⟩
    · have hsh2 : shaS b = bl (bl s0 b i) (endL r b.length) 2 := by rw [hsh]; congr 1; split <;> omega
      have hE := hend 128 (by omega) (by omega)
      have hpo := putW_one za hza1 120 8 (b.length * 8) 8
      have hplP := hpl 120
      refine regS_path [] ?_
      simp [hset, bslV, hw1, hw2, show IntKind.i64.wrap 120 = 120 from rfl]
      refine icall_T (TF Tryd.prog a42) (hcall_of_vc c42) ?_
      refine putH (b.length * 8) _ _ _ _ (by omega) za hza1 _ (by simp) ?_ (by simp) (by omega) (by omega) _ ?_
      · intro p hp
        simp at hp
        rcases hp with rfl | rfl | rfl | rfl
        · exact ⟨by simp, .box _ _ z32_one⟩
        · exact ⟨by simp, .box _ _ (fun d hd => by simp at hd; obtain ⟨x, _, rfl⟩ := hd; rfl)⟩
        · exact ⟨by simp, .dead⟩
        · exact ⟨by simp, .box _ _ hza1⟩
      generalize putW za 120 8 (b.length * 8) 8 = zE at *
      simp
      refine vc_loopG Nat (fun j => ⟨[(6, true, if j = 2 then .d (.sl 1 []) else .bsl 2 (64 * j) 1 (128 - 64 * j) (128 - 64 * j)), (4, true, .fn (.func 41) [.ptr 1 0] []), (2, true, .ptr 0 0), (3, true, .ptr 1 0)], [(0, .box true (z32.map .d)), (1, .box true (aq (bl (bl s0 b i) (endL r b.length) j).l)), (2, .box true (zE.map .d))], []⟩) (fun j => j ≤ 2) (fun j => 2 - j) 0 (by omega) ⟨[(2, 3)], [], ?_⟩ (fun j hj => ?_)
      · simp [bl, leL_aq, leL_md]
        exact ⟨z32_one, aq_one _, hpo⟩
      have hEl : (endL r b.length).length = 128 := by
        have := congrArg List.length hE
        simp [hplP] at this
        omega
      have hEd : ∀ j : Nat, 64 * j + 64 ≤ 128 → (zE.drop (64 * j)).take 64 = (((endL r b.length).drop (64 * j)).take 64).map dU := fun j h => by
        rw [List.map_take, List.map_drop, ← hE, List.drop_take, List.take_take, Nat.min_eq_left (by omega)]
      have hjj : j = 0 ∨ j = 1 ∨ j = 2 := by omega
      rcases hjj with rfl | rfl | rfl
      · simp
        refine regS_path [] ?_
        simp [bslV]
        refine icall_T (TF Tryd.prog a41) (hcall_of_vc c41) ?_
        refine absorbH rfl rfl a314 (bl (bl s0 b i) (endL r b.length) 0) (((endL r b.length).drop (64 * 0)).take 64) (by simp; omega) z32 z32_one _ _ (.inr ⟨zE, 64 * 0, _, rfl, hpo, rfl, hEd 0 (by omega), by omega⟩) _ (fun x3 x4 => ?_)
        simp [bslV]
        refine ⟨1, by omega, by omega, [], [], ?_⟩
        simp [bl, leL_aq, leL_md]
        exact ⟨z32_one, aq_one _, hpo⟩
      · simp
        refine regS_path [] ?_
        simp [bslV]
        refine icall_T (TF Tryd.prog a41) (hcall_of_vc c41) ?_
        refine absorbH rfl rfl a314 (bl (bl s0 b i) (endL r b.length) 1) (((endL r b.length).drop (64 * 1)).take 64) (by simp; omega) z32 z32_one _ _ (.inr ⟨zE, 64 * 1, _, rfl, hpo, rfl, hEd 1 (by omega), by omega⟩) _ (fun x3 x4 => ?_)
        simp [bslV]
        refine ⟨2, by omega, by omega, [], [], ?_⟩
        simp [bl, leL_aq, leL_md]
        exact ⟨z32_one, aq_one _, hpo⟩
      · generalize hS : bl (bl s0 b i) (endL r b.length) 2 = S at hsh2
        have hall : allD ((aq S.l).take 8) = some (S.l.map dq) := by
          rw [List.take_of_length_le (by rw [aq_len]; exact Nat.le_refl 8)]
          exact allD_map _
        simp [hall]
        refine ⟨Nat.le_refl 8, ?_⟩
        refine vc_loopG Nat (fun k => ⟨[(54, true, .d (dI k)), (53, true, .d (.agg (S.l.map dq))), (2, true, .ptr 0 0)], [(0, .box true ((outA S k).map .d)), (1, .box true (aq S.l)), (2, .box true (zE.map .d))], []⟩) (fun k => k ≤ 8) (fun k => 8 - k) 0 (by omega) ⟨[], [], ?_⟩ (fun k hk => ?_)
        · simp [outA_0, leL_aq, leL_md, hall]
          exact ⟨z32_one, aq_one _, hpo⟩
        simp
        refine ⟨fun hlt8 => ?_, fun hge8 => ?_⟩
        · have hlt8 : k < 8 := by omega
          have e1 : IntKind.i64.wrap (4 * (k : Int)) = 4 * (k : Int) := wrap64 (by omega)
          have e2 : IntKind.i64.wrap (4 * (k : Int) + 4) = 4 * (k : Int) + 4 := wrap64 (by omega)
          have e3 : IntKind.i64.wrap ((k : Int) + 1) = ((k + 1 : Nat) : Int) := by rw [wrap64 (by omega)]; omega
          have e4 : ∀ x : UInt32, IntKind.u64.wrap (q x) = (x.toNat : Int) := fun x => by
            have := x.toNat_lt
            exact wrap_u64 (by unfold q; omega) (by unfold q; omega)
          have t1 : (4 * (k : Int) + 4).toNat - 4 * k = 4 := by omega
          have t2 : (4 * (k : Int)).toNat = 4 * k := by omega
          have hg : (S.l)[k]? = some (wat S.l k) := by
            have : S.l.length = 8 := rfl
            unfold wat
            rw [List.getElem?_eq_getElem (by omega)]
            simp [List.getElem?_eq_getElem (show k < S.l.length by omega)]
          have hsl : S.l.length = 8 := rfl
          simp [hg, hsl]
          refine ⟨⟨by omega, by omega⟩, regS_path [] ?_⟩
          simp [e1, e2, e3, e4, t1, t2, bslV, dq]
          refine ⟨⟨by omega, by omega, by omega⟩, ?_⟩
          refine icall_T (TF Tryd.prog a42) (hcall_of_vc c42) ?_
          refine putH (wat S.l k).toNat 0 (4 * k) 4 (32 - 4 * k) (by have := (wat S.l k).toNat_lt; omega) (outA S k) (outA_one S k) _ (by simp) ?_ (by simp) (by rw [outA_len _ _ (by omega)]; omega) (by omega) _ ?_
          · intro p hp
            simp at hp
            rcases hp with rfl | rfl | rfl
            · exact ⟨by simp, .box _ _ (outA_one S k)⟩
            · exact ⟨by simp, .box _ _ (fun d hd => by simp at hd; obtain ⟨x, _, rfl⟩ := hd; rfl)⟩
            · exact ⟨by simp, .box _ _ hpo⟩
          rw [outA_s S k hlt8]
          simp [e3]
          refine ⟨k + 1, by omega, by omega, [], [], ?_⟩
          simp [leL_aq, leL_md]
          exact ⟨outA_one _ _, aq_one _, hpo⟩
        · have hk8 : k = 8 := by omega
          subst hk8
          have hl32 := outA_len S 8 (by omega)
          have hall2 : allD (((outA S 8).map AV.d).take 32) = some (outA S 8) := by
            rw [List.take_of_length_le (by simp [hl32])]
            exact allD_map _
          have hsa : setAt ((outA S 8).map AV.d) 0 ((outA S 8).map AV.d) = (outA S 8).map AV.d := by
            rw [setAt_map _ _ _ (by omega)]
            unfold spl
            rw [List.drop_eq_nil_of_le (by omega)]
            simp
          have hfin : shaL b = outL S := by unfold shaL; rw [hsh2]
          simp [hall2, hsa, hl32]
          rw [hfin, outA_8]
          exact LeD.refl _
    · have hsh2 : shaS b = bl (bl s0 b i) (endL r b.length) 1 := by rw [hsh]; congr 1; split <;> omega
      have hE := hend 64 (by omega) (by omega)
      have hpo := putW_one za hza1 56 8 (b.length * 8) 8
      have hplP := hpl 56
      refine regS_path [] ?_
      simp [hset, bslV, hw1, hw2, show IntKind.i64.wrap 56 = 56 from rfl]
      refine icall_T (TF Tryd.prog a42) (hcall_of_vc c42) ?_
      refine putH (b.length * 8) _ _ _ _ (by omega) za hza1 _ (by simp) ?_ (by simp) (by omega) (by omega) _ ?_
      · intro p hp
        simp at hp
        rcases hp with rfl | rfl | rfl | rfl
        · exact ⟨by simp, .box _ _ z32_one⟩
        · exact ⟨by simp, .box _ _ (fun d hd => by simp at hd; obtain ⟨x, _, rfl⟩ := hd; rfl)⟩
        · exact ⟨by simp, .dead⟩
        · exact ⟨by simp, .box _ _ hza1⟩
      generalize putW za 56 8 (b.length * 8) 8 = zE at *
      simp
      refine vc_loopG Nat (fun j => ⟨[(6, true, if j = 1 then .d (.sl 1 []) else .bsl 2 (64 * j) 1 (64 - 64 * j) (128 - 64 * j)), (4, true, .fn (.func 41) [.ptr 1 0] []), (2, true, .ptr 0 0), (3, true, .ptr 1 0)], [(0, .box true (z32.map .d)), (1, .box true (aq (bl (bl s0 b i) (endL r b.length) j).l)), (2, .box true (zE.map .d))], []⟩) (fun j => j ≤ 1) (fun j => 1 - j) 0 (by omega) ⟨[(2, 3)], [], ?_⟩ (fun j hj => ?_)
      · simp [bl, leL_aq, leL_md]
        exact ⟨z32_one, aq_one _, hpo⟩
      have hEl : (endL r b.length).length = 64 := by
        have := congrArg List.length hE
        simp [hplP] at this
        omega
      have hEd : ∀ j : Nat, 64 * j + 64 ≤ 64 → (zE.drop (64 * j)).take 64 = (((endL r b.length).drop (64 * j)).take 64).map dU := fun j h => by
        rw [List.map_take, List.map_drop, ← hE, List.drop_take, List.take_take, Nat.min_eq_left (by omega)]
      have hjj : j = 0 ∨ j = 1 := by omega
      rcases hjj with rfl | rfl
      · simp
        refine regS_path [] ?_
        simp [bslV]
        refine icall_T (TF Tryd.prog a41) (hcall_of_vc c41) ?_
        refine absorbH rfl rfl a314 (bl (bl s0 b i) (endL r b.length) 0) (((endL r b.length).drop (64 * 0)).take 64) (by simp; omega) z32 z32_one _ _ (.inr ⟨zE, 64 * 0, _, rfl, hpo, rfl, hEd 0 (by omega), by omega⟩) _ (fun x3 x4 => ?_)
        simp [bslV]
        refine ⟨1, by omega, by omega, [], [], ?_⟩
        simp [bl, leL_aq, leL_md]
        exact ⟨z32_one, aq_one _, hpo⟩
      · generalize hS : bl (bl s0 b i) (endL r b.length) 1 = S at hsh2
        have hall : allD ((aq S.l).take 8) = some (S.l.map dq) := by
          rw [List.take_of_length_le (by rw [aq_len]; exact Nat.le_refl 8)]
          exact allD_map _
        simp [hall]
        refine ⟨Nat.le_refl 8, ?_⟩
        refine vc_loopG Nat (fun k => ⟨[(54, true, .d (dI k)), (53, true, .d (.agg (S.l.map dq))), (2, true, .ptr 0 0)], [(0, .box true ((outA S k).map .d)), (1, .box true (aq S.l)), (2, .box true (zE.map .d))], []⟩) (fun k => k ≤ 8) (fun k => 8 - k) 0 (by omega) ⟨[], [], ?_⟩ (fun k hk => ?_)
        · simp [outA_0, leL_aq, leL_md, hall]
          exact ⟨z32_one, aq_one _, hpo⟩
        simp
        refine ⟨fun hlt8 => ?_, fun hge8 => ?_⟩
        · have hlt8 : k < 8 := by omega
          have e1 : IntKind.i64.wrap (4 * (k : Int)) = 4 * (k : Int) := wrap64 (by omega)
          have e2 : IntKind.i64.wrap (4 * (k : Int) + 4) = 4 * (k : Int) + 4 := wrap64 (by omega)
          have e3 : IntKind.i64.wrap ((k : Int) + 1) = ((k + 1 : Nat) : Int) := by rw [wrap64 (by omega)]; omega
          have e4 : ∀ x : UInt32, IntKind.u64.wrap (q x) = (x.toNat : Int) := fun x => by
            have := x.toNat_lt
            exact wrap_u64 (by unfold q; omega) (by unfold q; omega)
          have t1 : (4 * (k : Int) + 4).toNat - 4 * k = 4 := by omega
          have t2 : (4 * (k : Int)).toNat = 4 * k := by omega
          have hg : (S.l)[k]? = some (wat S.l k) := by
            have : S.l.length = 8 := rfl
            unfold wat
            rw [List.getElem?_eq_getElem (by omega)]
            simp [List.getElem?_eq_getElem (show k < S.l.length by omega)]
          have hsl : S.l.length = 8 := rfl
          simp [hg, hsl]
          refine ⟨⟨by omega, by omega⟩, regS_path [] ?_⟩
          simp [e1, e2, e3, e4, t1, t2, bslV, dq]
          refine ⟨⟨by omega, by omega, by omega⟩, ?_⟩
          refine icall_T (TF Tryd.prog a42) (hcall_of_vc c42) ?_
          refine putH (wat S.l k).toNat 0 (4 * k) 4 (32 - 4 * k) (by have := (wat S.l k).toNat_lt; omega) (outA S k) (outA_one S k) _ (by simp) ?_ (by simp) (by rw [outA_len _ _ (by omega)]; omega) (by omega) _ ?_
          · intro p hp
            simp at hp
            rcases hp with rfl | rfl | rfl
            · exact ⟨by simp, .box _ _ (outA_one S k)⟩
            · exact ⟨by simp, .box _ _ (fun d hd => by simp at hd; obtain ⟨x, _, rfl⟩ := hd; rfl)⟩
            · exact ⟨by simp, .box _ _ hpo⟩
          rw [outA_s S k hlt8]
          simp [e3]
          refine ⟨k + 1, by omega, by omega, [], [], ?_⟩
          simp [leL_aq, leL_md]
          exact ⟨outA_one _ _, aq_one _, hpo⟩
        · have hk8 : k = 8 := by omega
          subst hk8
          have hl32 := outA_len S 8 (by omega)
          have hall2 : allD (((outA S 8).map AV.d).take 32) = some (outA S 8) := by
            rw [List.take_of_length_le (by simp [hl32])]
            exact allD_map _
          have hsa : setAt ((outA S 8).map AV.d) 0 ((outA S 8).map AV.d) = (outA S 8).map AV.d := by
            rw [setAt_map _ _ _ (by omega)]
            unfold spl
            rw [List.drop_eq_nil_of_le (by omega)]
            simp
          have hfin : shaL b = outL S := by unfold shaL; rw [hsh2]
          simp [hall2, hsa, hl32]
          rw [hfin, outA_8]
          exact LeD.refl _
end Go.Proofs.YtfegfnekphobmaaDoor
end

section
namespace Go.Proofs.YtfegfnekphobmaaDoor
open Go Go.Proofs.YtfegfnekphobmaaDoor.AL
theorem dBy_cells (l : List UInt8) : (dBy l).cells = [dBy l] := rfl
theorem dBy_one (l : List UInt8) : (dBy l).one = true := rfl
theorem dBy_agg (l : List UInt8) : (dBy l).isAgg = false := rfl
theorem dBy_noTup (l : List UInt8) : (AV.d (dBy l)).noTup = true := rfl
theorem dBy_nt (l : List UInt8) (ds : List D) : (dBy l = .tup ds) = False := by simp [dBy]
attribute [local simp] dBy_cells dBy_one dBy_agg dBy_noTup dBy_nt
def catB (ls : List (List UInt8)) (k : Nat) : List UInt8 := (ls.take k).flatten
theorem catB_zero (ls : List (List UInt8)) : catB ls 0 = [] := by simp [catB]
theorem catB_succ {ls : List (List UInt8)} {k : Nat} (h : k < ls.length) : catB ls (k + 1) = catB ls k ++ ls[k] := by
  unfold catB
  have : ls.take (k + 1) = ls.take k ++ [ls[k]] := by rw [List.take_add_one, List.getElem?_eq_getElem h]; rfl
  rw [this, List.flatten_append]; simp
theorem catB_le (ls : List (List UInt8)) (k : Nat) : (catB ls k).length ≤ (catB ls ls.length).length := by
  unfold catB
  rw [List.take_length]
  conv => rhs; rw [← List.take_append_drop k ls]
  rw [List.flatten_append, List.length_append]; omega
theorem catB_all (ls : List (List UInt8)) : catB ls ls.length = ls.flatten := by unfold catB; rw [List.take_length]
set_option maxRecDepth 8000 in
theorem concatB (ls : List (List UInt8)) (hb : (catB ls ls.length).length ≤ 100000000000) : PCall Tryd.prog 33 [.sl 1 (ls.map dBy)] (.ret (dBy (catB ls ls.length))) := by
  refine pcall_of_vc noC c33 (by simp [a33]) fun hr => ?_
  have hlen := (hr (.sl 1 (ls.map dBy)) (by simp)).sl.1
  simp at hlen
  simp [a33]
  refine vc_loopK [0, 2, 9, 10] Nat (fun k => [(11, true, .d (dI k)), (3, true, .d (dI (((catB ls k).length : Nat) : Int)))]) (fun k => []) (fun k => k ≤ ls.length) (fun k => ls.length - k) 0 (by simp) ⟨[], [], ?_⟩ (fun k h1 => ?_)
  · simp [catB_zero]
  simp
  refine ⟨fun hlt => ?_, fun hge => ?_⟩
  · simp [hlt, dBy]
    have hs := catB_succ hlt
    have hl : (catB ls (k + 1)).length = (catB ls k).length + ls[k].length := by rw [hs, List.length_append]
    have hle := catB_le ls (k + 1)
    rw [wrap64 (n := ((catB ls k).length : Int) + ls[k].length) (by omega)]
    refine ⟨fun hneg => by omega, fun _ => ⟨k + 1, by omega, by omega, [], [], ?_⟩⟩
    rw [wrap64 (by omega), hl]
    simp
  · have hk : k = ls.length := by omega
    subst hk
    refine regS_path [] ?_
    simp
    refine icall_T (TF Tryd.prog a43) (hcall_of_vc c43) ?_
    simp [a43]
    refine ⟨fun hneg => absurd hneg (by omega), ?_⟩
    have w0 : IntKind.i64.wrap 0 = 0 := wrap64 (by omega)
    have w1 : IntKind.i64.wrap ((catB ls ls.length).length : Int) = (catB ls ls.length).length := wrap64 (by omega)
    simp [w0, w1]
    have hc0 : ∀ x : Nat, x < 0 → False := fun x h => by omega
    refine ⟨fun hp => ⟨by omega, ?_⟩, fun hz => ?_⟩
    all_goals
      refine vc_loopK [0, 25, 26] Nat (fun k => [(27, true, .d (dI k)), (6, true, .own 0 1 ((catB ls k).map dU))]) (fun k => [(0, .row)]) (fun k => k ≤ ls.length) (fun k => ls.length - k) 0 (by simp) (by first | (refine ⟨[], [], ?_⟩; simp [catB_zero]; done) | (refine ⟨[], [(0, 1)], ?_⟩; simp [catB_zero]; done)) (fun k h1 => ?_)
      simp
      refine ⟨fun hlt => ?_, fun hge => ?_⟩
      · simp [hlt, dBy]
        have hs := catB_succ hlt
        have hl : (catB ls (k + 1)).length = (catB ls k).length + ls[k].length := by rw [hs, List.length_append]
        have hle := catB_le ls (k + 1)
        refine ⟨⟨by omega, by omega⟩, k + 1, by omega, by omega, [(0, 1)], [], ?_⟩
        rw [wrap64 (by omega)]
        simp [hs]
      · have hk : k = ls.length := by omega
        subst hk
        simp [dBy]
        done
end Go.Proofs.YtfegfnekphobmaaDoor
end

section
namespace Go.Proofs.YtfegfnekphobmaaDoor
open Go Go.Proofs.YtfegfnekphobmaaDoor.AL Go.RowKit Go.Lib
theorem cl_uB : Tryd.prog.underlying 23 = some (.slice 5) := by kernel_rfl
theorem cl_i5 : (Tryd.prog.info? 5).map (fun i => (i.zero, i.size, i.bytes)) = some (some (.int .u8 0), 1, 1) := by kernel_rfl
theorem cl_mixed : Tryd.prog.follows .mixedOrders = true := by kernel_rfl
set_option maxHeartbeats 4000000 in
set_option maxRecDepth 100000 in
theorem clone_any (A : Addr) (n c : Nat) (bs : List Int) (w : World) (hn : bs.length = n) (hbytes : n ≤ 140737488355328) (hc : ∀ j, j < n → w.cell? (A.add j) = some (.int .u8 (bs.getD j 0))) :
    Calls Tryd.prog 20 #[.slice (some A) n c] w fun e w' => ∃ v, e = .returned v ∧ w'.ownsRow w.heap.size 5 1 v n (bs.map (Value.int .u8)) ∧ Below w.heap.size w w' ∧ v ≠ .slice none 0 0 := by
  have mixed := cl_mixed
  obtain ⟨i0, hi, hz0, hz1, hz2⟩ := info_parts cl_i5
  have hown0 : (w.alloc (.cells #[] 5)).ownsRow w.heap.size 5 1 (.slice (some ⟨w.heap.size, 0, none⟩) 0 0) 0 [] :=
    ⟨rfl, .inr ⟨w.heap.size, 0, #[], rfl, Nat.le_refl _, by show (w.heap.push _)[w.heap.size]? = _; simp, Nat.le_refl _, by unfold maxLen; omega, rfl, rfl⟩⟩
  have he : ∀ w : World, (binOp .eql 23 (.slice (some A) n c) (.slice none 0 0)).run Tryd.prog w = .ok (.bool false) w := fun _ => rfl
  go_enter Tryd.func20, Tryd.ntmps20
  go_wp2_with (first
    | (at_builtin; refine wpList_append_own _ rfl (.tmp 5) (.tmp 6) 23 rfl w.heap.size 5 i0 (.int .u8 0) 1 1 cl_uB hi hz0 hz1 hz2 rfl (by decide) _ _ _ rfl hown0 A n c (bs.map (Value.int .u8)) rfl (by simp [hn]) ?c1 (ints_oneCell .u8 bs) (by unfold maxLen; omega) (by omega) (by simp) ?_))
  case c1 =>
    intro j u hu
    have hj : j < n := by
      have := (List.getElem?_eq_some_iff.1 hu).1
      simpa [hn] using this
    have hb : (A.add j).block < w.heap.size := World.block_lt_of_cell? _ _ (hc j hj)
    rw [((Below.refl w.heap.size w).alloc (Nat.le_refl _) _).cell hb, hc j hj]
    have e : (bs.map (Value.int .u8))[j]? = some (.int .u8 (bs.getD j 0)) := by simp [List.getD, show j < bs.length by omega]
    rw [e] at hu
    exact hu
  intro v' w1 hown' hgrow hnil
  go_wp2
  go_ret
  exact ⟨_, rfl, by simpa using hown', ((Below.refl _ _).alloc (Nat.le_refl _) _).grown hgrow (by simp) (fun k hk => by simp [Value.ownBlock] at hk; omega), by simpa using hnil⟩
set_option maxHeartbeats 4000000 in
theorem clone_nil (n c : Nat) (w : World) : Calls Tryd.prog 20 #[.slice none n c] w fun e w' => e = .returned (.slice none 0 0) ∧ w' = w := by
  have mixed := cl_mixed
  have he : ∀ w : World, (binOp .eql 23 (.slice none n c) (.slice none 0 0)).run Tryd.prog w = .ok (.bool true) w := fun _ => rfl
  go_enter Tryd.func20, Tryd.ntmps20
  go_wp2
  go_ret
  exact ⟨rfl, rfl⟩
/-- bytes.Clone on data. -/
theorem bytesClone (b : List UInt8) (hb : b.length ≤ 140737488355328) : PCall Tryd.prog 20 [.sl 1 (b.map dU)] (.ret (.sl 1 (b.map dU))) := by
  refine ⟨⟨_, Tryd.func20, by decide, rfl⟩, fun I w vals hI hgl hr => ?_⟩
  obtain ⟨v, rfl⟩ : ∃ v, vals = #[v] := by
    have := hr.1
    match vals, this with
    | ⟨[v]⟩, _ => exact ⟨v, rfl⟩
  have hv := hr.2 0 _ v rfl rfl
  have hfl : D.flat (b.map dU) = b.map dU := flat_onesD _ (fun d hd => by obtain ⟨x, _, rfl⟩ := List.mem_map.1 hd; rfl)
  obtain ⟨n, A, cap, ad, vs, rfl, hn, hc, hm, hA, hz, h1, hcell, hrep⟩ := hv.sl_inv
  rw [hfl] at hcell hrep
  simp only [List.length_map] at hn
  subst hn
  cases A with
  | none =>
    have hb0 : b = [] := by
      rcases hA with h | h
      · cases h
      · simpa using h
    subst hb0
    refine (clone_nil _ _ w).mono fun e w' h => ?_
    obtain ⟨rfl, rfl⟩ := h
    exact ⟨I, _, fun _ h => h, fun _ h => .inl h, hI, Grow.refl _, rfl, LeD.nil 1 _ _ _ .nil⟩
  | some A =>
    have hAad : b ≠ [] → A = ad := fun hne => by
      rcases hA with h | h
      · injection h
      · exact absurd (by simpa using h) hne
    have hcl : ∀ j, j < b.length → w.cell? (A.add j) = some (.int .u8 ((b.map fun x => (x.toNat : Int)).getD j 0)) := fun j hj => by
      have hne : b ≠ [] := fun h => by rw [h] at hj; simp at hj
      rw [hAad hne]
      have hg : (b.map dU)[j]? = some (dU b[j]) := by simp [hj]
      rw [(hcell j _ hg).2]
      have h3 := hrep j _ hg
      generalize vs j = u at h3
      cases h3
      simp [List.getD, hj]
    refine (clone_any A b.length cap (b.map fun x => (x.toNat : Int)) w (by simp) hb hcl).mono fun e w' h => ?_
    obtain ⟨v, rfl, hown, hbel, hnn⟩ := h
    obtain ⟨_, hown⟩ := hown
    rcases hown with ⟨hvn, _⟩ | ⟨g, cap', cur, rfl, hg1, hg2, hg3, hg4, hg5, hg6⟩
    · exact absurd hvn hnn
    have hgrow : Grow w w' := ⟨hbel.os, hbel.tape, hbel.output, hbel.size, hbel.block⟩
    have hcw : ∀ k, w'.cell? ⟨g, k, none⟩ = cur[k]? := fun k => cell_of_row w' g k cur _ (0, 0) hg2
    have hcu : ∀ k (hk : k < b.length), cur[k]? = some (.int .u8 (b[k].toNat : Int)) := fun k hk => by
      have := congrArg (fun l => l[k]?) hg6
      simp only [List.getElem?_take] at this
      rw [if_pos (by omega)] at this
      simp [hk] at this
      simpa using this
    refine ⟨fun a => I a ∨ (a.block = g ∧ a.spot = none ∧ a.off < b.length), _, fun _ h => .inl h, fun a h => ?_, fun a h => ?_, hgrow, rfl, ?_⟩
    · rcases h with h | h
      · exact .inl h
      · exact .inr (by omega)
    · rcases h with h | ⟨h2, h3, h4⟩
      · obtain ⟨x, hx⟩ := Option.isSome_iff_exists.1 (hI a h)
        rw [hgrow.cell (World.block_lt_of_cell? w a hx)]; exact hI a h
      · have ea : a = ⟨g, a.off, none⟩ := by cases a; simp_all
        rw [ea, hcw, hcu _ h4]; rfl
    · refine .sl ⟨g, 0, none⟩ (fun k => (cur[k]?).getD undef) (by simp) hg3 (by unfold maxLen at hg4; exact hg4) (.inl rfl) hz h1 (fun k c hk => ?_) (fun k c hk => ?_)
      · rw [hfl] at hk
        have hkl : k < b.length := by have := (List.getElem?_eq_some_iff.1 hk).1; simpa using this
        rw [add_mk, Nat.zero_add]
        exact ⟨.inr ⟨rfl, rfl, hkl⟩, by rw [hcw, hcu k hkl]; rfl⟩
      · rw [hfl] at hk
        have hkl : k < b.length := by have := (List.getElem?_eq_some_iff.1 hk).1; simpa using this
        simp [hkl] at hk
        subst hk
        rw [hcu k hkl]
        exact .lit (by have := b[k].toNat_lt; simp [Sc, IntKind.min, IntKind.max, IntKind.bits, IntKind.signed]; omega)
end Go.Proofs.YtfegfnekphobmaaDoor
end

section
namespace Go.Proofs.YtfegfnekphobmaaDoor
open Go Go.Proofs.YtfegfnekphobmaaDoor.AL
/-- A whole write. -/
theorem setAt_all (cs news : List AV) (h : news.length = cs.length) : setAt cs 0 news = news := by
  apply List.ext_getElem?
  intro i
  rw [get_setAt]
  simp only [Nat.zero_le, true_and, Nat.zero_add, Nat.sub_zero]
  split
  · rfl
  · rw [List.getElem?_eq_none (by omega), List.getElem?_eq_none (by omega)]
theorem setAt_all2 (a b : AV) (cs news : List AV) (h : news.length = cs.length) : setAt (a :: b :: cs) 2 news = a :: b :: news := by
  have := setAt_all (a :: b :: cs) (a :: b :: news) (by simp [h])
  apply List.ext_getElem?
  intro i
  rw [get_setAt]
  rcases i with _ | _ | i
  · simp
  · simp
  · simp only [List.length_cons, List.getElem?_cons_succ]
    split
    · rfl
    · rw [List.getElem?_eq_none (by omega), List.getElem?_eq_none (by omega)]
theorem allD1_lk (p : List UInt8) (d : List UInt8) : allD1 (p.map (AV.d ∘ dU) ++ [AV.d (dBy d)]) = some (p.map dU ++ [dBy d]) := by
  induction p with
  | nil => rfl
  | cons a r ih => simp [allD1, ih, AV.toD1]
theorem setAt_mid (x y w : AV) (p : List AV) (h : p.length = 32) : setAt (x :: y :: (List.replicate 32 (AV.d (D.lit (Value.int IntKind.u8 0))) ++ [w])) 2 p = x :: y :: (p ++ [w]) := by
  apply List.ext_getElem?
  intro i
  rw [get_setAt]
  rcases i with _ | _ | i
  · simp
  · simp
  · simp only [List.length_cons, List.getElem?_cons_succ, List.length_append, List.length_replicate, List.length_nil]
    split
    · rw [List.getElem?_append_left (by omega)]; congr 1
    · rw [List.getElem?_append_right (by simp; omega), List.getElem?_append_right (by omega)]; simp [h]
theorem setAt_midL (x y w : AV) (p : List AV) (h : p.length = 32) : setAt [x, y, AV.d (D.lit (Value.int IntKind.u8 0)), AV.d (D.lit (Value.int IntKind.u8 0)), AV.d (D.lit (Value.int IntKind.u8 0)), AV.d (D.lit (Value.int IntKind.u8 0)), AV.d (D.lit (Value.int IntKind.u8 0)), AV.d (D.lit (Value.int IntKind.u8 0)), AV.d (D.lit (Value.int IntKind.u8 0)), AV.d (D.lit (Value.int IntKind.u8 0)), AV.d (D.lit (Value.int IntKind.u8 0)), AV.d (D.lit (Value.int IntKind.u8 0)), AV.d (D.lit (Value.int IntKind.u8 0)), AV.d (D.lit (Value.int IntKind.u8 0)), AV.d (D.lit (Value.int IntKind.u8 0)), AV.d (D.lit (Value.int IntKind.u8 0)), AV.d (D.lit (Value.int IntKind.u8 0)), AV.d (D.lit (Value.int IntKind.u8 0)), AV.d (D.lit (Value.int IntKind.u8 0)), AV.d (D.lit (Value.int IntKind.u8 0)), AV.d (D.lit (Value.int IntKind.u8 0)), AV.d (D.lit (Value.int IntKind.u8 0)), AV.d (D.lit (Value.int IntKind.u8 0)), AV.d (D.lit (Value.int IntKind.u8 0)), AV.d (D.lit (Value.int IntKind.u8 0)), AV.d (D.lit (Value.int IntKind.u8 0)), AV.d (D.lit (Value.int IntKind.u8 0)), AV.d (D.lit (Value.int IntKind.u8 0)), AV.d (D.lit (Value.int IntKind.u8 0)), AV.d (D.lit (Value.int IntKind.u8 0)), AV.d (D.lit (Value.int IntKind.u8 0)), AV.d (D.lit (Value.int IntKind.u8 0)), AV.d (D.lit (Value.int IntKind.u8 0)), AV.d (D.lit (Value.int IntKind.u8 0)), w] 2 p = x :: y :: (p ++ [w]) := setAt_mid x y w p h
theorem setAt_end (x y w v : AV) (p : List AV) (h : p.length = 32) : setAt (x :: y :: (p ++ [w])) 34 [v] = x :: y :: (p ++ [v]) := by
  apply List.ext_getElem?
  intro i
  rw [get_setAt]
  rcases i with _ | _ | i
  · simp
  · simp
  · simp only [List.length_cons, List.getElem?_cons_succ, List.length_append, List.length_nil]
    split
    · rw [List.getElem?_append_right (by omega)]; congr 1; omega
    · by_cases hi : i < 32
      · rw [List.getElem?_append_left (by omega), List.getElem?_append_left (by omega)]
      · rw [List.getElem?_append_right (by omega), List.getElem?_append_right (by omega), List.getElem?_eq_none (by simp; omega), List.getElem?_eq_none (by simp; omega)]
theorem allD_lk (p : List UInt8) (d : List UInt8) : allD (p.map (AV.d ∘ dU) ++ [AV.d (dBy d)]) = some (p.map dU ++ [dBy d]) := by
  induction p with
  | nil => rfl
  | cons a r ih => simp [allD, ih]
theorem take_lk (p : List UInt8) (d : AV) (h : p.length = 32) : List.take 33 (p.map (AV.d ∘ dU) ++ [d]) = p.map (AV.d ∘ dU) ++ [d] := List.take_of_length_le (by simp [h])
theorem elsD_lk (p : List UInt8) (d : D) (h : p.length = 32) : elsD 1 32 (p.map dU ++ [d]) = p.map dU := by
  unfold elsD
  rw [if_pos rfl, List.take_left' (by simp [h])]
theorem leL_lk (ρ : Nat → Nat) (N : Nat → Option Nat) (ok : Nat → Bool) (k : Nat) (p : List UInt8) (d : D) : leA.leL ρ N ok k (p.map (AV.d ∘ dU) ++ [AV.d d]) (p.map (AV.d ∘ dU) ++ [AV.d d]) = True := by
  have : p.map (AV.d ∘ dU) ++ [AV.d d] = (p.map dU ++ [d]).map AV.d := by simp
  rw [this]; exact eq_true (leL_map ρ N ok k _)
theorem lk_ones {p : List UInt8} {d : List UInt8} : (∀ a : AV, (∃ a1, a1 ∈ p ∧ AV.d (dU a1) = a) ∨ a = AV.d (dBy d) → a.one = true) = True := eq_true (by
  rintro a (⟨a1, _, rfl⟩ | rfl) <;> rfl)
theorem lk_at (a b : AV) (p : List UInt8) (d : AV) (k : Nat) (h : k < p.length) : (a :: b :: (p.map (AV.d ∘ dU) ++ [d]))[2 + k]?.getD default = AV.d (dU p[k]) := by
  rw [Nat.add_comm]
  simp [List.getElem?_append_left, h]
theorem eqC_dUn : ∀ (n : Nat) (a b : List UInt8), a.length = n → b.length = n → eqC (List.replicate n (SK.int IntKind.u8)) (a.map dU) (b.map dU) = True
  | 0, [], [], _, _ => rfl
  | n + 1, x :: a, y :: b, h1, h2 => by
    simp only [List.replicate_succ, List.map_cons, dU, eqC_int, true_and]
    exact eqC_dUn n a b (by simpa using h1) (by simpa using h2)
theorem eqC_dU {a b : List UInt8} (h1 : a.length = 32) (h2 : b.length = 32) : eqC [SK.int IntKind.u8, SK.int IntKind.u8, SK.int IntKind.u8, SK.int IntKind.u8, SK.int IntKind.u8, SK.int IntKind.u8, SK.int IntKind.u8, SK.int IntKind.u8, SK.int IntKind.u8, SK.int IntKind.u8, SK.int IntKind.u8, SK.int IntKind.u8, SK.int IntKind.u8, SK.int IntKind.u8, SK.int IntKind.u8, SK.int IntKind.u8, SK.int IntKind.u8, SK.int IntKind.u8, SK.int IntKind.u8, SK.int IntKind.u8, SK.int IntKind.u8, SK.int IntKind.u8, SK.int IntKind.u8, SK.int IntKind.u8, SK.int IntKind.u8, SK.int IntKind.u8, SK.int IntKind.u8, SK.int IntKind.u8, SK.int IntKind.u8, SK.int IntKind.u8, SK.int IntKind.u8, SK.int IntKind.u8] (a.map dU) (b.map dU) = True := eqC_dUn 32 a b h1 h2
theorem eqB_dU : ∀ (a b : List UInt8), a.length = b.length → eqB (a.map dU) (b.map dU) = decide (a = b)
  | [], [], _ => rfl
  | x :: a, y :: b, h => by
    simp only [List.map_cons, dU, eqB_int]
    have ih := eqB_dU a b (by simpa using h)
    rw [ih]
    have : ((x.toNat : Int) == (y.toNat : Int)) = decide (x = y) := by
      by_cases hx : x = y
      · simp [hx]
      · have : x.toNat ≠ y.toNat := fun q => hx (UInt8.toNat_inj.1 q)
        simp [hx]
        omega
    rw [this]
    simp [Bool.decide_and]
theorem allD_dU (A : List UInt8) : allD (A.map (AV.d ∘ dU)) = some (A.map dU) := by
  induction A with
  | nil => rfl
  | cons a r ih => simp [allD, ih]
/-- A link. -/
structure Lk where
  n : Int
  o : Int
  p : List UInt8
  d : List UInt8
  hp : p.length = 32
  hn : -9223372036854775808 ≤ n ∧ n < 9223372036854775808
  ho : -9223372036854775808 ≤ o ∧ o < 9223372036854775808
  deriving DecidableEq
theorem Lk.ext {x y : Lk} (h1 : x.n = y.n) (h2 : x.o = y.o) (h3 : x.p = y.p) (h4 : x.d = y.d) : x = y := by
  cases x; cases y; simp_all
def dLk (x : Lk) : D := .agg (dI x.n :: dI x.o :: (x.p.map dU ++ [dBy x.d]))
def tagL (t b : List UInt8) : List UInt8 := shaL (shaL t ++ b)
theorem tagL_len (t b : List UInt8) : (tagL t b).length = 32 := shaL_len _
def nV (n : Int) : Vl := .mk 1 n [] []
def tV (b : List UInt8) : Vl := .mk 2 0 b []
def lV (l : List Vl) : Vl := .mk 3 0 [] l
def linkV (x : Lk) : Vl := lV [nV x.n, nV x.o, tV x.p, tV x.d]
def headL (l : List Lk) : List UInt8 := match l.getLast? with
  | none => tagL [110, 111, 110, 101] []
  | some x => tagL [108, 105, 110, 107] (encV (linkV x))
theorem headL_len (l : List Lk) : (headL l).length = 32 := by unfold headL; split <;> exact tagL_len _ _
theorem zz_ltP (n : Int) (h : -9223372036854775808 ≤ n ∧ n < 9223372036854775808) : zz n < 128 ^ 10 := by
  unfold zz; split <;> omega
theorem zz_inj {a b : Int} (h : zz a = zz b) : a = b := by
  unfold zz at h; split at h <;> split at h <;> omega
theorem numL_le : ∀ u : Nat, (numL u).length ≤ u + 1 := by
  intro u
  induction u using Nat.strongRecOn with
  | _ u ih =>
    rw [numL]
    split
    · simp
    · have := ih (u / 128) (by omega)
      simp; omega
theorem numL_pre : ∀ (u v : Nat) (r s : List UInt8), numL u ++ r = numL v ++ s → u = v ∧ r = s := by
  intro u
  induction u using Nat.strongRecOn with
  | _ u ih =>
    intro v r s h
    rw [numL, numL.eq_1 v] at h
    by_cases hu : u < 128 <;> by_cases hv : v < 128
    · rw [if_pos hu, if_pos hv] at h
      simp only [List.singleton_append, List.cons.injEq] at h
      have := congrArg UInt8.toNat h.1
      simp [UInt8.toNat_ofNat'] at this
      exact ⟨by omega, h.2⟩
    · rw [if_pos hu, if_neg hv] at h
      simp only [List.singleton_append, List.cons_append, List.cons.injEq] at h
      have := congrArg UInt8.toNat h.1
      simp [UInt8.toNat_ofNat'] at this
      omega
    · rw [if_neg hu, if_pos hv] at h
      simp only [List.singleton_append, List.cons_append, List.cons.injEq] at h
      have := congrArg UInt8.toNat h.1
      simp [UInt8.toNat_ofNat'] at this
      omega
    · rw [if_neg hu, if_neg hv] at h
      simp only [List.cons_append, List.cons.injEq] at h
      have h1 := congrArg UInt8.toNat h.1
      simp [UInt8.toNat_ofNat'] at h1
      obtain ⟨h2, h3⟩ := ih (u / 128) (by omega) _ _ _ h.2
      exact ⟨by omega, h3⟩
theorem encV_linkV_eq (x : Lk) : encV (linkV x) = 3 :: (numL 4 ++ (1 :: (numL (zz x.n) ++ (1 :: (numL (zz x.o) ++ (2 :: (numL x.p.length ++ (x.p ++ (2 :: (numL x.d.length ++ x.d)))))))))) := by
  simp [linkV, lV, nV, tV, encV, encVs]
theorem encV_linkV (x : Lk) : (encV (linkV x)).length ≤ 2 * x.d.length + 200 := by
  have h1 := numL_length 10 (zz x.n) (zz_ltP _ x.hn) (by omega)
  have h2 := numL_length 10 (zz x.o) (zz_ltP _ x.ho) (by omega)
  have h3 := numL_le x.p.length
  have h4 := numL_length 1 4 (by omega) (by omega)
  have h5 : (numL x.d.length).length ≤ x.d.length + 1 := numL_le _
  have hp := x.hp
  rw [encV_linkV_eq]
  simp only [List.length_cons, List.length_append]
  omega
theorem encV_inj {x y : Lk} (h : encV (linkV x) = encV (linkV y)) : x = y := by
  rw [encV_linkV_eq, encV_linkV_eq] at h
  simp only [List.cons.injEq, true_and] at h
  obtain ⟨-, h⟩ := numL_pre _ _ _ _ h
  simp only [List.cons.injEq, true_and] at h
  obtain ⟨hn, h⟩ := numL_pre _ _ _ _ h
  simp only [List.cons.injEq, true_and] at h
  obtain ⟨ho, h⟩ := numL_pre _ _ _ _ h
  simp only [List.cons.injEq, true_and] at h
  obtain ⟨hp, h⟩ := numL_pre _ _ _ _ h
  obtain ⟨hp', h⟩ := List.append_inj h hp
  simp only [List.cons.injEq, true_and] at h
  obtain ⟨-, hd⟩ := numL_pre _ _ _ _ h
  exact Lk.ext (zz_inj hn) (zz_inj ho) hp' hd
theorem okV_linkV (x : Lk) : eV (linkV x) = 0 := by
  simp [eV, linkV, lV, nV, tV, okV, okVs, dpV, dpVs]
theorem dpV_linkV (x : Lk) : dpV (linkV x) = 1 := by
  simp [linkV, lV, nV, tV, dpV, dpVs]
theorem encR_linkV (x : Lk) : encR (linkV x) = .tup [dBy (encV (linkV x)), dI 0] := by
  unfold encR; rw [if_pos (okV_linkV x)]
/-! The checks of a list of links. -/
def n0 (l : List Lk) : Int := match l.head? with | none => 0 | some x => x.n
def okAt (l : List Lk) (i : Nat) : Bool := match l[i]? with
  | none => true
  | some x => decide (x.n = n0 l) && decide (0 ≤ x.n) && decide (x.n < 24) && decide (x.o = i) && decide (x.d.length ≤ 65536) && decide (x.p = headL (l.take i))
def allOk (l : List Lk) (k : Nat) : Bool := (List.range k).all (okAt l)
def ckE (l : List Lk) : Int := if 1024 < l.length then 2 else if allOk l l.length = true then 0 else 80
theorem allOk_zero (l : List Lk) : allOk l 0 = true := by simp [allOk]
theorem allOk_succ (l : List Lk) (k : Nat) : allOk l (k + 1) = (allOk l k && okAt l k) := by simp [allOk, List.range_succ]
theorem allOk_false {l : List Lk} {k : Nat} (h : okAt l k = false) (hk : k < l.length) : allOk l l.length = false := by
  unfold allOk
  rw [List.all_eq_false]
  exact ⟨k, by simp [hk], by simp [h]⟩
theorem ckE_ok {l : List Lk} (h : ckE l = 0) : l.length ≤ 1024 ∧ ∀ i, okAt l i = true := by
  unfold ckE at h
  split at h
  · omega
  · split at h
    · rename_i h1 h2
      refine ⟨by omega, fun i => ?_⟩
      rcases Nat.lt_or_ge i l.length with hi | hi
      · unfold allOk at h2
        rw [List.all_eq_true] at h2
        exact h2 i (by simp [hi])
      · unfold okAt; rw [List.getElem?_eq_none hi]
    · omega
theorem ckE_of {l : List Lk} (h1 : l.length ≤ 1024) (h2 : ∀ i, i < l.length → okAt l i = true) : ckE l = 0 := by
  unfold ckE
  rw [if_neg (by omega), if_pos]
  unfold allOk
  rw [List.all_eq_true]
  intro i hi
  exact h2 i (by simpa using hi)
theorem n0_take (l : List Lk) (k : Nat) (h : 0 < k) : n0 (l.take k) = n0 l := by
  cases l with
  | nil => simp
  | cons x r => cases k with
    | zero => omega
    | succ k => simp [n0]
theorem okAt_take {l : List Lk} {i k : Nat} (h : i < k) : okAt (l.take k) i = okAt l i := by
  unfold okAt
  rw [List.getElem?_take_of_lt h, n0_take _ _ (by omega), List.take_take, Nat.min_eq_left (by omega)]
theorem ckE_take {l : List Lk} (h : ckE l = 0) (k : Nat) : ckE (l.take k) = 0 := by
  obtain ⟨h1, h2⟩ := ckE_ok h
  refine ckE_of (by simp; omega) (fun i hi => ?_)
  simp at hi
  rw [okAt_take (by omega)]
  exact h2 i
theorem okAt_p {l : List Lk} (h : ckE l = 0) {i : Nat} (hi : i < l.length) : l[i].p = headL (l.take i) := by
  have h2 := (ckE_ok h).2 i
  unfold okAt at h2
  rw [List.getElem?_eq_getElem hi] at h2
  simp at h2
  exact h2.2
/-! Texts, clashes. -/
def textL (l : List Lk) : List UInt8 × List UInt8 := match l.getLast? with
  | none => ([110, 111, 110, 101], [])
  | some x => ([108, 105, 110, 107], encV (linkV x))
theorem headL_text (l : List Lk) : headL l = tagL (textL l).1 (textL l).2 := by
  unfold headL textL; split <;> rfl
def clashL (a b : List Lk) : Bool := decide (textL a ≠ textL b) && decide (headL a = headL b)
theorem textL_last {a b : List Lk} {i : Nat} (ha : i < a.length) (hb : i < b.length) (h : textL (a.take (i + 1)) = textL (b.take (i + 1))) : a[i] = b[i] := by
  have e : ∀ (c : List Lk) (hc : i < c.length), (c.take (i + 1)).getLast? = some c[i] := fun c hc => by
    rw [List.getLast?_eq_getElem?]
    simp
    rw [List.getElem?_take_of_lt (by omega), Nat.min_eq_left (by omega)]
    simp [hc]
  unfold textL at h
  rw [e a ha, e b hb] at h
  simp at h
  exact encV_inj h
theorem equal_law (a b : List Lk) (ha : ckE a = 0) (hb : ckE b = 0) (hl : a.length = b.length) (hh : headL a = headL b) (hc : ∀ i, 1 ≤ i → i ≤ a.length → clashL (a.take i) (b.take i) = false) : a = b := by
  have key : ∀ k, k ≤ a.length → headL (a.take k) = headL (b.take k) → a.take k = b.take k := by
    intro k
    induction k with
    | zero => simp
    | succ i ih =>
      intro hi hh
      have h1 := hc (i + 1) (by omega) hi
      have ht : textL (a.take (i + 1)) = textL (b.take (i + 1)) := by
        unfold clashL at h1
        rw [hh] at h1
        simpa using h1
      have hx := textL_last (by omega) (by omega) ht
      have hp : headL (a.take i) = headL (b.take i) := by
        rw [← okAt_p ha (by omega), ← okAt_p hb (by omega), hx]
      have := ih (by omega) hp
      rw [← List.take_append_getElem (by omega), ← List.take_append_getElem (by omega), this, hx]
  have := key a.length (Nat.le_refl _) (by rw [List.take_length, hl, List.take_length]; exact hh)
  rw [List.take_length, hl, List.take_length] at this
  exact this
theorem changed_law (l : List Lk) (k : Nat) (x : Lk) (hk : k + 1 < l.length) (hx : l[k] ≠ x) (h1 : ckE l = 0) (h2 : ckE (l.set k x) = 0) : clashL (l.take (k + 1)) ((l.set k x).take (k + 1)) = true := by
  unfold clashL
  simp only [Bool.and_eq_true, decide_eq_true_eq, ne_eq]
  refine ⟨fun h => hx ?_, ?_⟩
  · have := textL_last (a := l) (b := l.set k x) (i := k) (by omega) (by simp; omega) h
    simpa using this
  · have e1 := okAt_p h1 (i := k + 1) hk
    have e2 := okAt_p h2 (i := k + 1) (by simpa using hk)
    rw [List.getElem_set_ne (by omega)] at e2
    rw [← e1, ← e2]
/-! Where two lists part. -/
def difF : List Lk → List Lk → Option Nat
  | x :: a, y :: b => if x = y then (difF a b).map (· + 1) else some 0
  | _, _ => none
theorem difF_some : ∀ (a b : List Lk) (i : Nat) (ha : i < a.length) (hb : i < b.length), a.take i = b.take i → a[i] ≠ b[i] → difF a b = some i
  | [], _, _, ha, _, _, _ => by simp at ha
  | _ :: _, [], _, _, hb, _, _ => by simp at hb
  | x :: a, y :: b, 0, _, _, _, h => by
    simp at h
    simp [difF, h]
  | x :: a, y :: b, i + 1, ha, hb, ht, h => by
    simp at ht h ha hb
    simp [difF, ht.1, difF_some a b i ha hb ht.2 h]
theorem difF_none : ∀ (a b : List Lk), a.take (min a.length b.length) = b.take (min a.length b.length) → difF a b = none
  | [], _, _ => by simp [difF]
  | _ :: _, [], _ => by simp [difF]
  | x :: a, y :: b, h => by
    have e : min (x :: a).length (y :: b).length = min a.length b.length + 1 := by simp
    rw [e] at h
    simp at h
    simp [difF, h.1, difF_none a b (by simpa using h.2)]
theorem difF_get : ∀ (a b : List Lk) (i : Nat), difF a b = some i → ∃ (ha : i < a.length) (hb : i < b.length), a.take i = b.take i ∧ a[i] ≠ b[i]
  | [], _, _, h => by simp [difF] at h
  | _ :: _, [], _, h => by simp [difF] at h
  | x :: a, y :: b, i, h => by
    rw [difF] at h
    split at h
    · rename_i hx
      cases hd : difF a b with
      | none => simp [hd] at h
      | some j =>
        simp [hd] at h
        subst h
        obtain ⟨ha, hb, ht, hn⟩ := difF_get a b j hd
        exact ⟨by simpa using ha, by simpa using hb, by simp [hx, ht], by simpa using hn⟩
    · rename_i hx
      simp at h
      subst h
      exact ⟨by simp, by simp, by simp, by simpa using hx⟩
theorem difF_take : ∀ (a b : List Lk), difF a b = none → a.take (min a.length b.length) = b.take (min a.length b.length)
  | [], _, _ => by simp
  | _ :: _, [], _ => by simp
  | x :: a, y :: b, h => by
    rw [difF] at h
    split at h
    · rename_i hx
      have e : min (x :: a).length (y :: b).length = min a.length b.length + 1 := by simp
      rw [e]
      simp [hx]
      have := difF_take a b (by simpa using h)
      simpa using this
    · simp at h
theorem difF_comm : ∀ (a b : List Lk), difF a b = difF b a
  | [], [] => rfl
  | [], _ :: _ => by simp [difF]
  | _ :: _, [] => by simp [difF]
  | x :: a, y :: b => by
    simp only [difF]
    rw [difF_comm a b]
    by_cases h : x = y
    · rw [if_pos h, if_pos h.symm]
    · rw [if_neg h, if_neg (fun q => h q.symm)]
def difR (a b : List Lk) : Int × Bool := match difF a b with
  | none => (0, false)
  | some i => (i, true)
def prtE (a b : List Lk) : Int := if ckE a ≠ 0 then ckE a else if ckE b ≠ 0 then ckE b else if 0 < a.length ∧ 0 < b.length ∧ n0 a ≠ n0 b then 80 else 0
def prtR (a b : List Lk) : Int × Bool := if prtE a b = 0 then difR a b else (0, false)
/-! Adding. -/
def addE (a : List Lk) (node : Int) (n : Nat) : Int := if ckE a ≠ 0 then ckE a else if node < 0 ∨ 24 ≤ node ∨ (0 < a.length ∧ node ≠ n0 a) ∨ 65536 < n then 1 else if a.length = 1024 then 2 else 0
theorem addE_ok {a : List Lk} {node : Int} {n : Nat} (h : addE a node n = 0) : ckE a = 0 ∧ 0 ≤ node ∧ node < 24 ∧ (0 < a.length → node = n0 a) ∧ n ≤ 65536 ∧ a.length < 1024 := by
  unfold addE at h
  split at h
  · omega
  · split at h
    · omega
    · split at h
      · omega
      · rename_i h1 h2 h3
        have h1 : ckE a = 0 := by omega
        have := (ckE_ok h1).1
        exact ⟨h1, by omega, by omega, by omega, by omega, by omega⟩
theorem addE_iff {a : List Lk} {node : Int} {n : Nat} (h0 : ckE a = 0) (h1 : 0 ≤ node) (h2 : node < 24) (h3 : 0 < a.length → node = n0 a) (h4 : n ≤ 65536) (h5 : a.length < 1024) : addE a node n = 0 := by
  unfold addE
  rw [if_neg (by omega), if_neg (by omega), if_neg (by omega)]
def mkLk (a : List Lk) (node : Int) (data : List UInt8) (h1 : 0 ≤ node) (h2 : node < 24) (h3 : a.length < 1024) : Lk := ⟨node, a.length, headL a, data, headL_len a, by omega, by omega⟩
theorem ckE_add {a : List Lk} {node : Int} {data : List UInt8} (h : addE a node data.length = 0) (h1 : 0 ≤ node) (h2 : node < 24) (h3 : a.length < 1024) : ckE (a ++ [mkLk a node data h1 h2 h3]) = 0 := by
  obtain ⟨q1, q2, q3, q4, q5, q6⟩ := addE_ok h
  obtain ⟨_, q7⟩ := ckE_ok q1
  refine ckE_of (by simp; omega) (fun i hi => ?_)
  simp at hi
  rcases Nat.lt_or_ge i a.length with hlt | hge
  · have := okAt_take (l := a ++ [mkLk a node data h1 h2 h3]) hlt
    rw [List.take_left] at this
    rw [← this]
    exact q7 i
  · have hi : i = a.length := by omega
    subst hi
    unfold okAt
    simp [mkLk, q2, q3, q5]
    cases a with
    | nil => simp [n0]
    | cons x r =>
      have := q4 (by simp)
      simp [n0] at this ⊢
      exact decide_eq_true this
theorem parts_law (a b : List Lk) : (prtE a b ≠ 0 → prtE b a ≠ 0) := by
  unfold prtE
  intro h
  split at h
  · rename_i h1
    split
    · assumption
    · exact h1
  · split at h
    · rename_i h1 h2
      rw [if_pos h2]; exact h2
    · split at h
      · rename_i h1 h2 h3
        rw [if_neg h2, if_neg h1, if_pos ⟨h3.2.1, h3.1, fun q => h3.2.2 q.symm⟩]
        omega
      · omega
end Go.Proofs.YtfegfnekphobmaaDoor
end

section
namespace Go.Proofs.YtfegfnekphobmaaDoor
open Go Go.Proofs.YtfegfnekphobmaaDoor.AL
attribute [local simp] dZ_agg dZ_nt dZ_noTup dZ_cells dZ_one bz_toList bz_size strV dV_cells dV_isAgg dV_noTup dV_nt dBy_cells dBy_one dBy_agg dBy_noTup dBy_nt
set_option maxRecDepth 8000
set_option maxHeartbeats 4000000
theorem dLk_cells (x : Lk) : (dLk x).cells = dI x.n :: dI x.o :: (x.p.map dU ++ [dBy x.d]) := rfl
theorem dLk_len (x : Lk) : (dLk x).cells.length = 35 := by simp [dLk_cells, x.hp]
theorem dLk_isAgg (x : Lk) : (dLk x).isAgg = true := rfl
theorem dLk_noTup (x : Lk) : (AV.d (dLk x)).noTup = true := rfl
theorem dLk_nt (x : Lk) (ds : List D) : (dLk x = .tup ds) = False := by simp [dLk]
inductive C323a : FuncId → List D → Out → Prop
  | sum (b : List UInt8) (hb : b.length < 1152921504606846976) : C323a 32 [dBy b] (.ret (.agg ((shaL b).map dU)))
  | cat (ls : List (List UInt8)) (hb : (catB ls ls.length).length ≤ 100000000000) : C323a 33 [.sl 1 (ls.map dBy)] (.ret (dBy (catB ls ls.length)))
theorem h323a : ∀ f ds out, C323a f ds out → PCall Tryd.prog f ds out := by
  intro f ds out h
  cases h with
  | sum b hb => exact sum b hb
  | cat ls hb => exact concatB ls hb
theorem elsD_dU (b : List UInt8) (n : Nat) (h : b.length = n) : elsD 1 n (b.map dU) = b.map dU := by
  unfold elsD
  rw [if_pos rfl, List.take_of_length_le (by simp; omega)]
theorem dU_arr_one (b : List UInt8) : (∀ c ∈ b.map dU, c.one = true) := dUs_one b
theorem tagged (t b : List UInt8) (ht : t.length ≤ 1000) (hb : b.length ≤ 10000000000) : PCall Tryd.prog 19 [dZ t, dBy b] (.ret (.agg ((tagL t b).map dU))) := by
  refine pcall_of_vc h323a c19 (by simp [a19]) fun hr => ?_
  have h1 := C323a.sum t (by omega)
  have hcat : catB [shaL t, b] 2 = shaL t ++ b := by simp [catB]
  have hl := shaL_len t
  have h2 := C323a.cat [shaL t, b] (by simp only [List.length_cons, List.length_nil]; rw [hcat, List.length_append, hl]; omega)
  have h3 := C323a.sum (shaL t ++ b) (by rw [List.length_append, hl]; omega)
  simp only [List.length_cons, List.length_nil, hcat] at h2
  simp [a19, dZ_eq, -List.reduceReplicate]
  refine vc_path [.ret (.agg ((shaL t).map dU))] ?_
  simp [strD_bz]
  refine ⟨h1, hl, ?_⟩
  refine vc_path [.ret (dBy (shaL t ++ b)), .ret (.agg ((shaL (shaL t ++ b)).map dU))] ?_
  have hl2 := shaL_len (shaL t ++ b)
  have hB : tagL t b = shaL (shaL t ++ b) := rfl
  generalize shaL t = A at *
  generalize shaL (A ++ b) = B at *
  set_option maxHeartbeats 400000 in
  simp [setAt_all, allD_dU, hl, hl2]
  refine ⟨by rw [elsD_dU _ _ hl]; exact h2, h3, ?_⟩
  rw [List.take_of_length_le (by simp [hl2]), allD_dU, hB]
  simp
theorem leD_tail {k n s : D} (hk : k.one = true) (hn : n.one = true) (hs : s.one = true) : LeD (.agg [k, n, s, .nil 4]) (.agg [k, n, s, .sl 4 []]) :=
  LeD.agg (.cons (LeD.refl _) (.cons (LeD.refl _) (.cons (LeD.refl _) (.cons (LeD.nil' _ _) .nil)))) (by intro d hd; simp at hd; rcases hd with rfl | rfl | rfl | rfl <;> first | assumption | rfl)
theorem LeD_sl {sz : Nat} {es es' : List D} (hl : All2 LeD (D.flat es) (D.flat es')) (hlen : es.length = es'.length) (hz : ∀ e ∈ es', e.cells.length = sz) (h1 : ∀ c ∈ D.flat es', c.one = true) : LeD (.sl sz es) (.sl sz es') := fun I w v r => by
  cases r with
  | sl ad vs hn hc hm hA hz0 h10 hI hr =>
    refine .sl ad vs (hn.trans hlen) hc hm (hA.imp id fun e => ?_) hz h1 (fun k c hk => ?_) (fun k c hk => ?_)
    · subst e; exact List.eq_nil_of_length_eq_zero (by rw [← hlen]; rfl)
    · obtain ⟨x, hx, _⟩ := all2_get hl hk
      exact hI k x hx
    · obtain ⟨x, hx, hle⟩ := all2_get hl hk
      exact hle _ _ _ (hr k x hx)
def dP (p : Int) : D := .agg [dI p]
theorem cnumber (n : Int) : PCall Tryd.prog 28 [dI n] (.ret (dV (nV n))) := by
  refine pcall_of_vc noC c28 (by simp [a28]) fun hr => ?_
  simp [a28, nV, dV_eq, dZ]
  exact leD_tail rfl rfl rfl
theorem ctext (b : List UInt8) : PCall Tryd.prog 29 [dBy b] (.ret (dV (tV b))) := by
  refine pcall_of_vc noC c29 (by simp [a29]) fun hr => ?_
  simp [a29, tV, dV_eq, dZ, dBy, bytesOf_map]
  exact ⟨fun a _ => rfl, leD_tail rfl rfl rfl⟩
theorem ctext0 (b : List UInt8) : PCall Tryd.prog 29 [dBy b] (.ret (.agg [dI 2, dI 0, dZ b, .nil 4])) := by
  refine pcall_of_vc noC c29 (by simp [a29]) fun hr => ?_
  simp [a29, dZ, dBy, bytesOf_map]
  exact fun a _ => rfl
theorem clist (l : List Vl) : PCall Tryd.prog 27 [.sl 4 (l.map dV)] (.ret (dV (lV l))) := by
  refine pcall_of_vc noC c27 (by simp [a27]) fun hr => ?_
  simp [a27, lV, dV_eq, dZ]
  exact LeD.refl _
theorem rnumber (n : Int) : PCall Tryd.prog 39 [dI n] (.ret (dV (nV n))) := by
  refine pcall_of_vc noC c39 (by simp [a39]) fun hr => ?_
  simp [a39, nV, dV_eq, dZ]
  exact leD_tail rfl rfl rfl
theorem rtext (b : List UInt8) : PCall Tryd.prog 40 [dBy b] (.ret (dV (tV b))) := by
  refine pcall_of_vc noC c40 (by simp [a40]) fun hr => ?_
  simp [a40, tV, dV_eq, dZ, dBy, bytesOf_map]
  exact ⟨fun a _ => rfl, leD_tail rfl rfl rfl⟩
theorem clist4 (n o : Int) (p d : List UInt8) : PCall Tryd.prog 27 [.sl 4 [dV (nV n), dV (nV o), .agg [dI 2, dI 0, dZ p, .nil 4], dV (tV d)]] (.ret (dV (lV [nV n, nV o, tV p, tV d]))) := by
  refine (clist [nV n, nV o, tV p, tV d]).le (.cons (LeD_sl ?_ rfl ?_ ?_) .nil)
  · simp [D.flat, tV, dV_eq, D.cells]
    repeat' first | exact .nil | refine .cons (LeD.refl _) ?_ | refine .cons (LeD.nil' _ _) ?_
  · intro e he
    simp at he
    rcases he with rfl | rfl | rfl | rfl <;> simp
  · intro c hc
    simp [D.flat] at hc
    rcases hc with rfl | rfl | rfl | rfl | rfl | rfl | rfl | rfl | rfl | rfl | rfl | rfl | rfl | rfl | rfl | rfl <;> rfl
end Go.Proofs.YtfegfnekphobmaaDoor
end

section
namespace Go.Proofs.YtfegfnekphobmaaDoor
open Go Go.Proofs.YtfegfnekphobmaaDoor.AL
attribute [local simp] dZ_agg dZ_nt dZ_noTup dZ_cells dZ_one bz_toList bz_size strV dV_cells dV_isAgg dV_noTup dV_nt dBy_cells dBy_one dBy_agg dBy_noTup dBy_nt
attribute [local simp] dLk_cells dLk_isAgg dLk_noTup dLk_nt
set_option maxRecDepth 8000
set_option maxHeartbeats 4000000
inductive C325 : FuncId → List D → Out → Prop
  | num (n : Int) : C325 28 [dI n] (.ret (dV (nV n)))
  | txt (b : List UInt8) : C325 29 [dBy b] (.ret (dV (tV b)))
  | txt0 (b : List UInt8) : C325 29 [dBy b] (.ret (.agg [dI 2, dI 0, dZ b, .nil 4]))
  | lst (x : Lk) : C325 27 [.sl 4 [dV (nV x.n), dV (nV x.o), .agg [dI 2, dI 0, dZ x.p, .nil 4], dV (tV x.d)]] (.ret (dV (linkV x)))
  | enc (x : Lk) (h : x.d.length ≤ 100000) : C325 26 [dV (linkV x)] (.ret (.tup [dBy (encV (linkV x)), dI 0]))
  | tag (t b : List UInt8) (ht : t.length ≤ 1000) (hb : b.length ≤ 10000000000) : C325 19 [dZ t, dBy b] (.ret (.agg ((tagL t b).map dU)))
  | tag0 (t : List UInt8) (ht : t.length ≤ 1000) : C325 19 [dZ t, .nil 0] (.ret (.agg ((tagL t []).map dU)))
theorem h325 : ∀ f ds out, C325 f ds out → PCall Tryd.prog f ds out := by
  intro f ds out h
  cases h with
  | num n => exact cnumber n
  | txt b => exact ctext b
  | txt0 b => exact ctext0 b
  | lst x => exact clist4 _ _ _ _
  | enc x h =>
    have hb := encV_linkV x
    have := encode (linkV x) (by rw [dpV_linkV]; omega) (by omega)
    rw [encR_linkV] at this
    exact this
  | tag t b ht hb => exact tagged t b ht hb
  | tag0 t ht => exact (tagged t [] ht (by simp)).le (.cons (LeD.refl _) (.cons (LeD.nil' _ _) .nil))
theorem last_map (l : List Lk) (h : l ≠ []) : ((l.map dLk)[l.length - 1]?) = some (dLk (l.getLast h)) := by
  have : 0 < l.length := List.length_pos_iff.2 h
  rw [List.getElem?_map, ← List.getLast?_eq_getElem?, List.getLast?_eq_some_getLast h]; rfl
theorem head (l : List Lk) (hd : ∀ x ∈ l, x.d.length ≤ 100000) : PCall Tryd.prog 15 [.sl 35 (l.map dLk)] (.ret (.agg ((headL l).map dU))) := by
  refine pcall_of_vc h325 c15 (by simp [a15]) fun hr => ?_
  have hlen := (hr (.sl 35 (l.map dLk)) (by simp)).sl.1
  simp at hlen
  have hh := headL_len l
  simp [a15, -List.reduceReplicate]
  refine ⟨fun he => ?_, fun he => ?_⟩
  · subst he
    have ht := C325.tag0 [110, 111, 110, 101] (by simp)
    have e : headL [] = tagL [110, 111, 110, 101] [] := rfl
    rw [e] at hh ⊢
    generalize tagL [110, 111, 110, 101] [] = A at *
    refine vc_path [.ret (.agg (A.map dU))] ?_
    simp [setAt_all, allD_dU, hh]
    refine ⟨ht, ?_⟩
    rw [List.take_of_length_le (by simp [hh]), allD_dU]
    simp
  · have hp : 0 < l.length := List.length_pos_iff.2 he
    have hw : IntKind.i64.wrap ((l.length : Int) - 1) = (l.length - 1 : Nat) := by rw [wrap64 (by omega)]; omega
    have hx : l[l.length - 1]? = some (l.getLast he) := by rw [← List.getLast?_eq_getElem?, List.getLast?_eq_some_getLast he]
    have hm := hd _ (List.getLast_mem he)
    have e : headL l = tagL [108, 105, 110, 107] (encV (linkV (l.getLast he))) := by unfold headL; rw [List.getLast?_eq_some_getLast he]
    rw [e] at hh ⊢
    clear hlen
    generalize l.getLast he = x at *
    have hxp := x.hp
    have hb := encV_linkV x
    have ht := C325.tag [108, 105, 110, 107] (encV (linkV x)) (by simp) (by omega)
    have he := C325.enc x hm
    generalize tagL [108, 105, 110, 107] (encV (linkV x)) = A at *
    rw [hw]
    simp [hx, hxp, setAt_all2, -List.reduceReplicate]
    refine ⟨by omega, vc_pathD [.ret (dV (nV x.n)), .ret (dV (nV x.o)), .ret (.agg [dI 2, dI 0, dZ x.p, .nil 4]), .ret (dV (tV x.d)), .ret (dV (linkV x)), .ret (.tup [dBy (encV (linkV x)), dI 0])] ?_⟩
    set_option maxHeartbeats 400000 in
    simp [hxp, allD1_lk, elsD_lk]
    refine ⟨.num _, .num _, .txt0 _, .agg fun c hc => ?_, .txt _, .lst _, he, rfl, vc_path [.ret (.agg (A.map dU))] ?_⟩
    · simp at hc
      rcases hc with rfl | rfl | rfl | rfl
      · exact .lit _
      · exact .lit _
      · exact .lit _
      · exact .nil _
    simp [setAt_all, hh]
    refine ⟨ht, ?_⟩
    rw [List.take_of_length_le (by simp [hh]), allD_dU]
    simp
inductive C325b : FuncId → List D → Out → Prop
  | num (n : Int) : C325b 39 [dI n] (.ret (dV (nV n)))
  | txt (b : List UInt8) : C325b 40 [dBy b] (.ret (dV (tV b)))
  | enc (x : Lk) (h : x.d.length ≤ 100000) : C325b 38 [.agg [dI 3, dI 0, dZ [], .sl 4 [dV (nV x.n), dV (nV x.o), dV (tV x.p), dV (tV x.d)]]] (.ret (.tup [dBy (encV (linkV x)), dI 0]))
theorem h325b : ∀ f ds out, C325b f ds out → PCall Tryd.prog f ds out := by
  intro f ds out h
  cases h with
  | num n => exact rnumber n
  | txt b => exact rtext b
  | enc x h =>
    have hb := encV_linkV x
    have := rEncode (linkV x) (by rw [dpV_linkV]; omega) (by omega)
    rw [encR_linkV] at this
    exact this
theorem refText (l : List Lk) (hd : ∀ x ∈ l, x.d.length ≤ 100000) : PCall Tryd.prog 31 [.sl 35 (l.map dLk)] (.ret (.tup [dZ (textL l).1, dBy (textL l).2])) := by
  refine pcall_of_vc h325b c31 (by simp [a31]) fun hr => ?_
  have hlen := (hr (.sl 35 (l.map dLk)) (by simp)).sl.1
  simp at hlen
  simp [a31, -List.reduceReplicate]
  refine ⟨fun he => ?_, fun he => ?_⟩
  · subst he
    simp [textL, dZ, dBy]
    exact LeD.refl _
  · have hp : 0 < l.length := List.length_pos_iff.2 he
    have hw : IntKind.i64.wrap ((l.length : Int) - 1) = (l.length - 1 : Nat) := by rw [wrap64 (by omega)]; omega
    have hx : l[l.length - 1]? = some (l.getLast he) := by rw [← List.getLast?_eq_getElem?, List.getLast?_eq_some_getLast he]
    have hm := hd _ (List.getLast_mem he)
    have e : textL l = ([108, 105, 110, 107], encV (linkV (l.getLast he))) := by unfold textL; rw [List.getLast?_eq_some_getLast he]
    rw [e]
    clear hlen
    generalize l.getLast he = x at *
    have hxp := x.hp
    have he := C325b.enc x hm
    rw [hw]
    simp [hx, hxp, setAt_all2, -List.reduceReplicate]
    refine ⟨by omega, vc_loopK [4] Nat (fun k => [(5, true, .own 1 1 ((x.p.take k).map dU)), (6, true, .d (dI k))]) (fun k => [(1, .row)]) (fun k => k ≤ 32) (fun k => 32 - k) 0 (by simp) ⟨[], [(1, 1)], ?_⟩ (fun k hk => ?_)⟩
    · simp [leL_lk, lk_ones]
    · simp
      refine ⟨fun hlt => ?_, fun hge => ?_⟩
      · have hkp : k < x.p.length := by omega
        have e0 := lk_at (AV.d (D.lit (Value.int IntKind.i64 x.n))) (AV.d (D.lit (Value.int IntKind.i64 x.o))) x.p (AV.d (dBy x.d)) k hkp
        refine ⟨hlt, by omega, ?_⟩
        rw [e0]
        simp [leL_lk, lk_ones]
        have hs : (x.p.map dU).take (k + 1) = (x.p.map dU).take k ++ [dU x.p[k]] := by
          rw [List.take_add_one]; simp [hkp]
        refine ⟨⟨rfl, fun ds => by simp [dU]⟩, ⟨by omega, by omega⟩, k + 1, by omega, by omega, [(1, 3)], [], ?_⟩
        rw [wrap64 (by omega), hs]
        simp [leL_lk, lk_ones]
      · have hk : k = 32 := by omega
        subst hk
        refine vc_pathD [.ret (dV (nV x.n)), .ret (dV (nV x.o)), .ret (dV (tV x.p)), .ret (dV (tV x.d)), .ret (.tup [dBy (encV (linkV x)), dI 0])] ?_
        simp [hxp]
        have e32 : (x.p.map dU).take 32 = x.p.map dU := List.take_of_length_le (by simp [hxp])
        rw [e32]
        exact ⟨.num _, .num _, .txt _, .txt _, he, rfl, LeD.refl _⟩
end Go.Proofs.YtfegfnekphobmaaDoor
end

section
namespace Go.Proofs.YtfegfnekphobmaaDoor
open Go Go.Proofs.YtfegfnekphobmaaDoor.AL
attribute [local simp] dZ_agg dZ_nt dZ_noTup dZ_cells dZ_one bz_toList bz_size strV dV_cells dV_isAgg dV_noTup dV_nt dBy_cells dBy_one dBy_agg dBy_noTup dBy_nt
attribute [local simp] dLk_cells dLk_isAgg dLk_noTup dLk_nt
set_option maxRecDepth 8000
set_option maxHeartbeats 4000000
theorem bytesEqual (a b : List UInt8) : PCall Tryd.prog 25 [dBy a, dBy b] (.ret (dB (decide (a = b)))) := by
  refine pcall_of_vc noC c25 (by simp [a25]) fun hr => ?_
  simp [a25, dBy, bytesOf_map]
  refine ⟨fun _ _ => rfl, fun _ _ => rfl, leD_of_eq ?_⟩
  congr 2
  by_cases h : a = b <;> simp [h]
inductive C326 : FuncId → List D → Out → Prop
  | eq (a b : List UInt8) : C326 25 [dBy a, dBy b] (.ret (dB (decide (a = b))))
theorem h326 : ∀ f ds out, C326 f ds out → PCall Tryd.prog f ds out := by
  intro f ds out h
  cases h with
  | eq a b => exact bytesEqual a b
theorem sameLink (x y : Lk) : PCall Tryd.prog 18 [dLk x, dLk y] (.ret (dB (decide (x = y)))) := by
  refine pcall_of_vc noC c18 (by simp [a18]) fun hr => ?_
  have h1 := x.hp
  have h2 := y.hp
  simp [a18]
  refine vc_path [] ?_
  set_option maxHeartbeats 400000 in
  simp [dBy, h1, h2, bytesOf_map, allD_dU, eqC_dU h1 h2, eqB_dU _ _ (h1.trans h2.symm)]
  refine ⟨fun hn => ⟨fun ho => ⟨fun hp => ⟨fun _ _ => rfl, fun _ _ => rfl, leD_of_eq ?_⟩, fun hp => leD_of_eq ?_⟩, fun ho => leD_of_eq ?_⟩, fun hn => leD_of_eq ?_⟩
  · congr 2
    by_cases h : x.d = y.d
    · simp [h, Lk.ext hn ho hp h]
    · have : x ≠ y := fun q => h (by rw [q])
      simp [h, this]
  all_goals
    congr 2
    symm
    rw [decide_eq_false_iff_not]
    rintro rfl
    first | exact hp rfl | exact ho rfl | exact hn rfl
theorem part1 (x y : Lk) : PCall Tryd.prog 24 [dLk x, dLk y] (.ret (dB (decide (x = y)))) := by
  refine pcall_of_vc h326 c24 (by simp [a24]) fun hr => ?_
  have h1 := x.hp
  have h2 := y.hp
  have hc := C326.eq x.d y.d
  simp [a24]
  refine vc_path [.ret (dB (decide (x.d = y.d)))] ?_
  simp [h1, h2, allD_dU, eqC_dU h1 h2, eqB_dU _ _ (h1.trans h2.symm)]
  refine ⟨fun hn => ⟨fun ho => ⟨fun hp => ⟨hc, leD_of_eq ?_⟩, fun hp => leD_of_eq ?_⟩, fun ho => leD_of_eq ?_⟩, fun hn => leD_of_eq ?_⟩
  · congr 2
    by_cases h : x.d = y.d
    · simp [h, Lk.ext hn ho hp h]
    · have : x ≠ y := fun q => h (by rw [q])
      simp [h, this]
  all_goals
    congr 2
    symm
    rw [decide_eq_false_iff_not]
    rintro rfl
    first | exact hp rfl | exact ho rfl | exact hn rfl
end Go.Proofs.YtfegfnekphobmaaDoor
end

section
namespace Go.Proofs.YtfegfnekphobmaaDoor
open Go Go.Proofs.YtfegfnekphobmaaDoor.AL
attribute [local simp] dZ_agg dZ_nt dZ_noTup dZ_cells dZ_one bz_toList bz_size strV dV_cells dV_isAgg dV_noTup dV_nt dBy_cells dBy_one dBy_agg dBy_noTup dBy_nt
attribute [local simp] dLk_cells dLk_isAgg dLk_noTup dLk_nt
set_option maxRecDepth 8000
set_option maxHeartbeats 4000000
inductive C327 : FuncId → List D → Out → Prop
  | sl (x y : Lk) : C327 18 [dLk x, dLk y] (.ret (dB (decide (x = y))))
  | pt (x y : Lk) : C327 24 [dLk x, dLk y] (.ret (dB (decide (x = y))))
theorem h327 : ∀ f ds out, C327 f ds out → PCall Tryd.prog f ds out := by
  intro f ds out h
  cases h with
  | sl x y => exact sameLink x y
  | pt x y => exact part1 x y
theorem take_step {a b : List Lk} {i : Nat} (ha : i < a.length) (hb : i < b.length) (h : a.take i = b.take i) (he : a[i] = b[i]) : a.take (i + 1) = b.take (i + 1) := by
  rw [← List.take_append_getElem ha, ← List.take_append_getElem hb, h, he]
theorem same (a b : List Lk) : PCall Tryd.prog 14 [.sl 35 (a.map dLk), .sl 35 (b.map dLk)] (.ret (dB (decide (a = b)))) := by
  refine pcall_of_vc h327 c14 (by simp [a14]) fun hr => ?_
  have hla := (hr (.sl 35 (a.map dLk)) (by simp)).sl.1
  simp at hla
  simp [a14]
  refine ⟨fun hne => ?_, fun hl => ?_⟩
  · refine leD_of_eq ?_
    congr 2
    symm
    rw [decide_eq_false_iff_not]
    rintro rfl
    exact hne rfl
  · refine vc_loopK [0, 1] Nat (fun i => [(5, true, .d (dI i))]) (fun _ => []) (fun i => i ≤ a.length ∧ a.take i = b.take i) (fun i => a.length - i) 0 (by simp) ⟨[], [], ?_⟩ (fun i hi => ?_)
    · simp
    · obtain ⟨hi, ht⟩ := hi
      simp
      refine ⟨fun hlt => ?_, fun hge => ?_⟩
      · have hlb : i < b.length := by omega
        simp [hlt, hlb]
        have hc := C327.sl a[i] b[i]
        have q1 := (a[i]).hp
        have q2 := (b[i]).hp
        refine vc_pathD [.ret (dB (decide (a[i] = b[i])))] ?_
        simp [hlt, hlb, q1, q2]
        refine ⟨hc, rfl, fun hne => leD_of_eq ?_, fun he => ⟨i + 1, ⟨by omega, take_step hlt hlb ht he⟩, by omega, [], [], ?_⟩⟩
        · congr 2
          symm
          rw [decide_eq_false_iff_not]
          rintro rfl
          exact hne rfl
        · rw [wrap64 (by omega)]
          simp
      · have hi : i = a.length := by omega
        subst hi
        rw [List.take_length, List.take_of_length_le (by omega)] at ht
        simp [ht]
theorem differ (a b : List Lk) : PCall Tryd.prog 23 [.sl 35 (a.map dLk), .sl 35 (b.map dLk), .fn (.func 24) [] []] (.ret (.tup [dI (difR a b).1, dB (difR a b).2])) := by
  refine pcall_of_vc h327 c23 (by simp [a23]) fun hr => ?_
  have hla := (hr (.sl 35 (a.map dLk)) (by simp)).sl.1
  have hlb := (hr (.sl 35 (b.map dLk)) (by simp)).sl.1
  simp at hla hlb
  simp [a23]
  refine vc_loopK [0, 1, 2, 6, 7, 13] Nat (fun i => [(14, true, .d (dI i))]) (fun _ => []) (fun i => i ≤ min a.length b.length ∧ a.take i = b.take i) (fun i => a.length - i) 0 (by simp) ⟨[], [], ?_⟩ (fun i hi => ?_)
  · simp
  · obtain ⟨hi, ht⟩ := hi
    simp
    refine ⟨fun hlt => ?_, fun hge => ?_⟩
    · have q1 : i < a.length := by split at hlt <;> omega
      have q2 : i < b.length := by split at hlt <;> omega
      have q3 := (a[i]).hp
      have q4 := (b[i]).hp
      have hc := C327.pt a[i] b[i]
      refine vc_pathD [.ret (dB (decide (a[i] = b[i])))] ?_
      simp [q1, q2, q3, q4]
      refine ⟨hc, rfl, fun hne => ?_, fun he => ⟨i + 1, ⟨by omega, take_step q1 q2 ht he⟩, by omega, [], [], ?_⟩⟩
      · have := difF_some a b i q1 q2 ht hne
        have e : difR a b = ((i : Int), true) := by unfold difR; rw [this]
        rw [e]
        exact ⟨LeD.refl _, LeD.refl _⟩
      · rw [wrap64 (by omega)]
        simp
    · have hi : i = min a.length b.length := by split at hge <;> omega
      subst hi
      have := difF_none a b ht
      have e : difR a b = (0, false) := by unfold difR; rw [this]
      rw [e]
      exact ⟨LeD.refl _, LeD.refl _⟩
def fewL (l : List Lk) : Bool := decide (l.length ≤ 16) && l.all fun x => decide (x.d.length ≤ 300)
theorem few (l : List Lk) : PCall Tryd.prog 9 [.sl 35 (l.map dLk)] (.ret (dB (fewL l))) := by
  refine pcall_of_vc noC c9 (by simp [a9]) fun hr => ?_
  have hla := (hr (.sl 35 (l.map dLk)) (by simp)).sl.1
  simp at hla
  simp [a9]
  refine ⟨fun hgt => ?_, fun hle => ?_⟩
  · refine leD_of_eq ?_
    unfold fewL
    rw [decide_eq_false (by omega)]
    rfl
  · refine vc_loopK [0] Nat (fun i => [(3, true, .d (dI i))]) (fun _ => []) (fun i => i ≤ l.length ∧ (l.take i).all (fun x => decide (x.d.length ≤ 300)) = true) (fun i => l.length - i) 0 (by simp) ⟨[], [], ?_⟩ (fun i hi => ?_)
    · simp
    · obtain ⟨hi, ht⟩ := hi
      simp
      refine ⟨fun hlt => ?_, fun hge => ?_⟩
      · have q1 := (l[i]).hp
        simp [hlt, q1, dBy]
        refine ⟨fun hgt => ?_, fun hle => ⟨i + 1, ⟨by omega, fun x hx => ?_⟩, by omega, [], [], ?_⟩⟩
        · refine leD_of_eq ?_
          have : l.all (fun x => decide (x.d.length ≤ 300)) = false := by
            rw [List.all_eq_false]
            exact ⟨l[i], List.getElem_mem hlt, by simp; omega⟩
          unfold fewL
          rw [this, Bool.and_false]
        · rw [← List.take_append_getElem hlt] at hx
          simp at ht
          rcases List.mem_append.1 hx with hx | hx
          · exact ht x hx
          · rw [List.mem_singleton.1 hx]; omega
        · rw [wrap64 (by omega)]
          simp
      · have hi : i = l.length := by omega
        subst hi
        rw [List.take_length] at ht
        refine leD_of_eq ?_
        unfold fewL
        rw [ht, decide_eq_true (by omega)]
        rfl
end Go.Proofs.YtfegfnekphobmaaDoor
end

section
namespace Go.Proofs.YtfegfnekphobmaaDoor
open Go Go.Proofs.YtfegfnekphobmaaDoor.AL
attribute [local simp] dZ_agg dZ_nt dZ_noTup dZ_cells dZ_one bz_toList bz_size strV dV_cells dV_isAgg dV_noTup dV_nt dBy_cells dBy_one dBy_agg dBy_noTup dBy_nt
attribute [local simp] dLk_cells dLk_isAgg dLk_noTup dLk_nt
set_option maxRecDepth 8000
set_option maxHeartbeats 4000000
inductive C328 : FuncId → List D → Out → Prop
  | head (l : List Lk) (hd : ∀ x ∈ l, x.d.length ≤ 100000) : C328 15 [.sl 35 (l.map dLk)] (.ret (.agg ((headL l).map dU)))
  | beg (l : List Lk) : C328 30 [.sl 35 (l.map dLk)] (.ret (.fn (.func 37) [] [.ip (.sl 35 (l.map dLk))]))
theorem beginnings (l : List Lk) : PCall Tryd.prog 30 [.sl 35 (l.map dLk)] (.ret (.fn (.func 37) [] [.ip (.sl 35 (l.map dLk))])) := by
  refine pcall_of_vcZ noC c30 (by simp [a30]) 4 fun hr => ?_
  simp [a30]
theorem h328 : ∀ f ds out, C328 f ds out → PCall Tryd.prog f ds out := by
  intro f ds out h
  cases h with
  | head l hd => exact head l hd
  | beg l => exact beginnings l
theorem check (l : List Lk) (hd : ∀ x ∈ l, x.d.length ≤ 100000) : PCall Tryd.prog 16 [.sl 35 (l.map dLk)] (.ret (dI (ckE l))) := by
  refine pcall_of_vc h328 c16 (by simp [a16]) fun hr => ?_
  have hla := (hr (.sl 35 (l.map dLk)) (by simp)).sl.1
  simp at hla
  simp [a16]
  refine ⟨fun hgt => ?_, fun hle => ?_⟩
  · have e : ckE l = 2 := by unfold ckE; rw [if_pos (by omega)]
    rw [e]
    exact LeD.refl _
  · refine vc_path [.ret (.fn (.func 37) [] [.ip (.sl 35 (l.map dLk))])] ?_
    simp
    refine ⟨.beg l, ?_⟩
    refine vc_range (TF Tryd.prog a37) (hcall_of_vc c37) rfl (by rfl) (fun yl => by rfl) (fun yl => ?_)
    simp [a37]
    refine vc_loopK [0, 1, 5, 6] Nat (fun i => [(7, true, .d (dI i))]) (fun i => [(2, .box false [.d (dI i)])]) (fun i => i ≤ l.length ∧ allOk l i = true) (fun i => l.length - i) 0 (by simp [allOk_zero]) ⟨[], [], ?_⟩ (fun i hi => ?_)
    · simp
      intro x hx; omega
    · obtain ⟨hi, hok⟩ := hi
      simp
      refine ⟨fun hlt => ?_, fun hge => ?_⟩
      · have q1 := (l[i]).hp
        simp [hlt, q1, setAt_all2, -List.reduceReplicate]
        refine regK_path [.ret (.agg ((headL (l.take i)).map dU))] [] ?_
        have q2 := headL_len (l.take i)
        simp [q1, take_lk, allD_lk, q2, setAt_all, setAt_all2, -List.reduceReplicate]
        refine ⟨hi, ?_⟩
        rw [← List.map_take]
        refine ⟨.head _ fun x hx => hd x (List.mem_of_mem_take hx), rfl, ?_⟩
        obtain ⟨z, hz, hzn, hzp⟩ : ∃ z : Lk, l[0]? = some z ∧ n0 l = z.n ∧ z.p.length = 32 := by
          cases l with
          | nil => simp at hlt
          | cons z r => exact ⟨z, rfl, rfl, z.hp⟩
        have hz' : l.head? = some z := by rw [← hz]; cases l <;> rfl
        have h0 : 0 < l.length := by omega
        have h0' : l ≠ [] := by rintro rfl; simp at hlt
        have ht32 : List.take 32 ((headL (l.take i)).map (AV.d ∘ dU)) = (headL (l.take i)).map (AV.d ∘ dU) := List.take_of_length_le (by simp [q2])
        refine vc_pathD [] ?_
        simp (config := { maxSteps := 1000000 }) [ht32, hz, hz', h0, h0', hzp, q1, q2, dBy, allD_dU, eqC_dU q1 q2, eqB_dU _ _ (q1.trans q2.symm)]
        have ho : okAt l i = (decide (l[i].n = n0 l) && decide (0 ≤ l[i].n) && decide (l[i].n < 24) && decide (l[i].o = i) && decide (l[i].d.length ≤ 65536) && decide (l[i].p = headL (l.take i))) := by
          unfold okAt; rw [List.getElem?_eq_getElem hlt]
        have hn0 : n0 l = l[0].n := by
          rw [List.getElem?_eq_getElem h0] at hz
          rw [hzn, Option.some.inj hz]
        rw [hn0] at ho
        have hbad : okAt l i = false → LeD (.lit (.int .i64 80)) (.lit (.int .i64 (ckE l))) := fun hb => by
          refine leD_of_eq ?_
          congr 2
          unfold ckE
          rw [if_neg (by omega), allOk_false hb hlt]
          rfl
        refine ⟨fun c => ⟨rfl, hbad (by rw [ho]; simp [c])⟩, fun c1 => ⟨fun c => ⟨rfl, hbad (by rw [ho, decide_eq_false (p := 0 ≤ l[i].n) (by omega)]; simp)⟩, fun c2 => ⟨fun c => ⟨rfl, hbad (by rw [ho, decide_eq_false (p := l[i].n < 24) (by omega)]; simp)⟩, fun c3 => ⟨fun c => ⟨rfl, hbad (by rw [ho]; simp [c])⟩, fun c4 => ⟨fun c => ⟨rfl, hbad (by rw [ho, decide_eq_false (p := l[i].d.length ≤ 65536) (by omega)]; simp)⟩, fun c5 => ?_⟩⟩⟩⟩⟩
        refine ⟨rfl, fun c => hbad (by rw [ho]; simp [c]), fun c6 => ⟨i + 1, ⟨by omega, ?_⟩, by omega, [], [], ?_⟩⟩
        · rw [allOk_succ, hok, ho]
          simp [c1, c2, c3, c4, c6]
          refine ⟨?_, ?_⟩ <;> omega
        · rw [wrap64 (n := ((i : Int) + 1)) (by omega)]
          simp [leL_lk, lk_ones]
          intro x hx; omega
      · have hi : i = l.length := by omega
        subst hi
        refine leD_of_eq ?_
        congr 2
        unfold ckE
        rw [if_neg (by omega), if_pos hok]
end Go.Proofs.YtfegfnekphobmaaDoor
end

section
namespace Go.Proofs.YtfegfnekphobmaaDoor
open Go Go.Proofs.YtfegfnekphobmaaDoor.AL
attribute [local simp] dZ_agg dZ_nt dZ_noTup dZ_cells dZ_one bz_toList bz_size strV dV_cells dV_isAgg dV_noTup dV_nt dBy_cells dBy_one dBy_agg dBy_noTup dBy_nt
attribute [local simp] dLk_cells dLk_isAgg dLk_noTup dLk_nt
set_option maxRecDepth 8000
set_option maxHeartbeats 4000000
def addL (a : List Lk) (node : Int) (data : List UInt8) : List Lk := if h : addE a node data.length = 0 then a ++ [mkLk a node data (addE_ok h).2.1 (addE_ok h).2.2.1 (addE_ok h).2.2.2.2.2] else []
theorem addL_bad {a : List Lk} {node : Int} {data : List UInt8} (h : addE a node data.length ≠ 0) : addL a node data = [] := by unfold addL; rw [dif_neg h]
theorem addL_ok {a : List Lk} {node : Int} {data : List UInt8} (h : addE a node data.length = 0) : addL a node data = a ++ [mkLk a node data (addE_ok h).2.1 (addE_ok h).2.2.1 (addE_ok h).2.2.2.2.2] := by unfold addL; rw [dif_pos h]
inductive C329 : FuncId → List D → Out → Prop
  | head (l : List Lk) (hd : ∀ x ∈ l, x.d.length ≤ 100000) : C329 15 [.sl 35 (l.map dLk)] (.ret (.agg ((headL l).map dU)))
  | check (l : List Lk) (hd : ∀ x ∈ l, x.d.length ≤ 100000) : C329 16 [.sl 35 (l.map dLk)] (.ret (dI (ckE l)))
  | clone (b : List UInt8) (h : b.length ≤ 65536) : C329 20 [dBy b] (.ret (dBy b))
  | diff (a b : List Lk) : C329 23 [.sl 35 (a.map dLk), .sl 35 (b.map dLk), .fn (.func 24) [] []] (.ret (.tup [dI (difR a b).1, dB (difR a b).2]))
theorem h329 : ∀ f ds out, C329 f ds out → PCall Tryd.prog f ds out := by
  intro f ds out h
  cases h with
  | head l hd => exact head l hd
  | check l hd => exact check l hd
  | clone b h => exact bytesClone b (by omega)
  | diff a b => exact differ a b
theorem first_of {l : List Lk} (h : l ≠ []) : ∃ z : Lk, l[0]? = some z ∧ l.head? = some z ∧ n0 l = z.n ∧ z.p.length = 32 ∧ 0 < l.length := by
  cases l with
  | nil => exact absurd rfl h
  | cons z r => exact ⟨z, rfl, rfl, rfl, z.hp, by simp⟩
theorem part (a b : List Lk) (ha : ∀ x ∈ a, x.d.length ≤ 100000) (hb : ∀ x ∈ b, x.d.length ≤ 100000) : PCall Tryd.prog 12 [.sl 35 (a.map dLk), .sl 35 (b.map dLk)] (.ret (.tup [dI (prtR a b).1, dB (prtR a b).2, dI (prtE a b)])) := by
  refine pcall_of_vc h329 c12 (by simp [a12]) fun hr => ?_
  have c1 := C329.check a ha
  have c2 := C329.check b hb
  have c3 := C329.diff a b
  simp [a12]
  by_cases h1 : ckE a = 0
  · rw [h1] at c1
    refine vc_path [.ret (dI 0)] ?_
    simp
    refine ⟨c1, ?_⟩
    by_cases h2 : ckE b = 0
    · rw [h2] at c2
      refine vc_path [.ret (dI 0)] ?_
      simp
      refine ⟨c2, ?_⟩
      have fin : ∀ h : ¬ (0 < a.length ∧ 0 < b.length ∧ n0 a ≠ n0 b), prtE a b = 0 ∧ prtR a b = difR a b := fun h => by
        have : prtE a b = 0 := by unfold prtE; rw [if_neg (by omega), if_neg (by omega), if_neg h]
        refine ⟨this, ?_⟩
        unfold prtR; rw [if_pos this]
      by_cases h3 : a = []
      · have e3 := fin (by simp [h3])
        rw [e3.1, e3.2]
        refine vc_pathD [] ?_
        simp [h3]
        rw [h3] at c3
        refine ⟨rfl, vc_path [.ret (.tup [dI (difR [] b).1, dB (difR [] b).2])] ?_⟩
        simp
        exact c3
      · obtain ⟨z, z1, z2, z3, z4, z5⟩ := first_of h3
        by_cases h4 : b = []
        · have e3 := fin (by simp [h4])
          rw [e3.1, e3.2]
          refine vc_pathD [] ?_
          simp [h3, h4, z1, z2, z4, z5]
          rw [h4] at c3
          refine ⟨rfl, vc_path [.ret (.tup [dI (difR a []).1, dB (difR a []).2])] ?_⟩
          simp
          exact c3
        · obtain ⟨y, y1, y2, y3, y4, y5⟩ := first_of h4
          refine vc_pathD [] ?_
          simp [h3, h4, z1, z2, z4, z5, y1, y2, y4, y5]
          rw [List.getElem?_eq_getElem z5] at z1
          rw [List.getElem?_eq_getElem y5] at y1
          refine ⟨rfl, fun hne => ?_, fun he => ?_⟩
          · have e : prtE a b = 80 := by
              unfold prtE; rw [if_neg (by omega), if_neg (by omega), if_pos ⟨z5, y5, by rw [z3, y3, ← Option.some.inj z1, ← Option.some.inj y1]; exact hne⟩]
            have e2 : prtR a b = (0, false) := by unfold prtR; rw [if_neg (by omega)]
            rw [e, e2]
            exact ⟨LeD.refl _, LeD.refl _, LeD.refl _⟩
          · have e3 := fin (fun h => h.2.2 (by rw [z3, y3, ← Option.some.inj z1, ← Option.some.inj y1]; exact he))
            rw [e3.1, e3.2]
            refine vc_path [.ret (.tup [dI (difR a b).1, dB (difR a b).2])] ?_
            simp
            exact c3
    · have e : prtE a b = ckE b := by unfold prtE; rw [if_neg (by omega), if_pos h2]
      have e2 : prtR a b = (0, false) := by unfold prtR; rw [if_neg (by omega)]
      rw [e, e2]
      refine vc_path [.ret (dI (ckE b))] ?_
      simp [h2]
      exact c2
  · have e : prtE a b = ckE a := by unfold prtE; rw [if_pos h1]
    have e2 : prtR a b = (0, false) := by unfold prtR; rw [if_neg (by omega)]
    rw [e, e2]
    refine vc_path [.ret (dI (ckE a))] ?_
    simp [h1]
    exact c1
theorem add (a : List Lk) (node : Int) (data : List UInt8) (ha : ∀ x ∈ a, x.d.length ≤ 100000) : PCall Tryd.prog 10 [.sl 35 (a.map dLk), dI node, dBy data] (.ret (.tup [.sl 35 ((addL a node data).map dLk), dI (addE a node data.length)])) := by
  refine pcall_of_vc h329 c10 (by simp [a10]) fun hr => ?_
  have c1 := C329.check a ha
  have c2 := C329.head a ha
  have hh := headL_len a
  simp [a10]
  by_cases h1 : ckE a = 0
  · rw [h1] at c1
    refine vc_path [.ret (dI 0)] ?_
    simp
    refine ⟨c1, ?_⟩
    have la := (ckE_ok h1).1
    have fin : node < 0 ∨ 24 ≤ node ∨ (0 < a.length ∧ node ≠ n0 a) ∨ 65536 < data.length → addE a node data.length = 1 := fun h => by
      unfold addE; rw [if_neg (by omega), if_pos h]
    have fin2 : ¬ (node < 0 ∨ 24 ≤ node ∨ (0 < a.length ∧ node ≠ n0 a) ∨ 65536 < data.length) → a.length = 1024 → addE a node data.length = 2 := fun h h2 => by
      unfold addE; rw [if_neg (by omega), if_neg h, if_pos h2]
    have fin3 : ¬ (node < 0 ∨ 24 ≤ node ∨ (0 < a.length ∧ node ≠ n0 a) ∨ 65536 < data.length) → a.length ≠ 1024 → addE a node data.length = 0 := fun h h2 => by
      unfold addE; rw [if_neg (by omega), if_neg h, if_neg h2]
    have bad1 : addE a node data.length = 1 → LeD (.nil 35) (.sl 35 ((addL a node data).map dLk)) ∧ LeD (.lit (.int .i64 1)) (.lit (.int .i64 (addE a node data.length))) := fun h => by
      rw [addL_bad (by omega), h]; exact ⟨LeD.nil' _ _, LeD.refl _⟩
    have bad2 : addE a node data.length = 2 → LeD (.nil 35) (.sl 35 ((addL a node data).map dLk)) ∧ LeD (.lit (.int .i64 2)) (.lit (.int .i64 (addE a node data.length))) := fun h => by
      rw [addL_bad (by omega), h]; exact ⟨LeD.nil' _ _, LeD.refl _⟩
    by_cases h3 : a = []
    · subst h3
      refine vc_path [] ?_
      simp [dBy, -List.reduceReplicate]
      refine ⟨fun d1 => bad1 (fin (by omega)), fun d1 => ⟨fun d2 => bad1 (fin (by omega)), fun d2 => ⟨fun d3 => bad1 (fin (by omega)), fun d3 => ?_⟩⟩⟩
      have hn : ¬ (node < 0 ∨ 24 ≤ node ∨ (0 < ([] : List Lk).length ∧ node ≠ n0 []) ∨ 65536 < data.length) := by simp; omega
      have hz := fin3 hn (by simp)
      rw [addL_ok hz, hz]
      have c3 := C329.clone data (by omega)
      refine vc_path [.ret (.agg ((headL []).map dU)), .ret (dBy data)] ?_
      simp [setAt_all2, setAt_midL, setAt_end, hh, allD_lk, take_lk, -List.reduceReplicate]
      exact ⟨c2, c3, rfl, LeD.refl _⟩
    · obtain ⟨z, z1, z2, z3, z4, z5⟩ := first_of h3
      refine vc_path [] ?_
      simp [h3, dBy, z1, z2, z4, z5, -List.reduceReplicate]
      rw [List.getElem?_eq_getElem z5] at z1
      have hz0 : n0 a = a[0].n := by rw [z3, ← Option.some.inj z1]
      rw [hz0] at fin fin2 fin3
      refine ⟨fun d1 => bad1 (fin (by omega)), fun d1 => ⟨fun d2 => bad1 (fin (by omega)), fun d2 => ⟨fun d3 => bad1 (fin (by omega)), fun d3 => ⟨fun d4 => bad1 (fin (by omega)), fun d4 => ⟨fun d5 => bad2 (fin2 (by omega) (by omega)), fun d5 => ?_⟩⟩⟩⟩⟩
      have hz := fin3 (by omega) (by omega)
      rw [addL_ok hz, hz]
      have c3 := C329.clone data (by omega)
      refine vc_path [.ret (.agg ((headL a).map dU)), .ret (dBy data)] ?_
      simp [setAt_all2, setAt_midL, setAt_end, hh, allD_lk, take_lk, -List.reduceReplicate]
      refine ⟨c2, c3, ⟨by omega, by omega⟩, rfl, ?_⟩
      rw [List.take_of_length_le (by simp)]
      exact LeD.refl _
  · have e : addE a node data.length = ckE a := by unfold addE; rw [if_pos h1]
    have e2 : addL a node data = [] := addL_bad (by omega)
    rw [e, e2]
    refine vc_path [.ret (dI (ckE a))] ?_
    simp [h1]
    exact c1
end Go.Proofs.YtfegfnekphobmaaDoor
end

section
namespace Go.Proofs.YtfegfnekphobmaaDoor
open Go Go.Proofs.YtfegfnekphobmaaDoor.AL
attribute [local simp] dZ_agg dZ_nt dZ_noTup dZ_cells dZ_one bz_toList bz_size strV dV_cells dV_isAgg dV_noTup dV_nt dBy_cells dBy_one dBy_agg dBy_noTup dBy_nt
attribute [local simp] dLk_cells dLk_isAgg dLk_noTup dLk_nt
set_option maxRecDepth 8000
/-! The values of the examples. -/
def hN : List UInt8 := headL []
theorem hN_len : hN.length = 32 := headL_len _
def K1 : Lk := mkLk [] 3 [120] (by omega) (by omega) (by simp)
def hA : List UInt8 := headL [K1]
theorem hA_len : hA.length = 32 := headL_len _
def K2 : Lk := mkLk [K1] 3 [121] (by omega) (by omega) (by simp)
def K3 : Lk := mkLk [K1] 3 [122] (by omega) (by omega) (by simp)
def K4 : Lk := ⟨0, 1, List.replicate 32 0, [], by simp, by omega, by omega⟩
theorem K1_n : K1.n = 3 := rfl
theorem K1_p : K1.p = hN := rfl
theorem K2_o : K2.o = 1 := rfl
theorem K2_p : K2.p = hA := rfl
theorem K2_d : K2.d = [121] := rfl
theorem ck_nil : ckE [] = 0 := by simp [ckE, allOk]
theorem e1 : addE [] 3 1 = 0 := addE_iff ck_nil (by omega) (by omega) (by simp) (by omega) (by simp)
theorem l1 : addL [] 3 [120] = [K1] := by
  rw [addL_ok (by exact e1)]; rfl
theorem ck1 : ckE [K1] = 0 := ckE_add (a := []) (node := 3) (data := [120]) e1 (by omega) (by omega) (by simp)
theorem e2 : addE [K1] 3 1 = 0 := addE_iff ck1 (by omega) (by omega) (by intro _; rfl) (by omega) (by simp)
theorem l2 : addL [K1] 3 [121] = [K1, K2] := by
  rw [addL_ok (by exact e2)]; rfl
theorem l3 : addL [K1] 3 [122] = [K1, K3] := by
  rw [addL_ok (by exact e2)]; rfl
theorem ck2 : ckE [K1, K2] = 0 := ckE_add (a := [K1]) (node := 3) (data := [121]) e2 (by omega) (by omega) (by simp)
theorem ck3 : ckE [K1, K3] = 0 := ckE_add (a := [K1]) (node := 3) (data := [122]) e2 (by omega) (by omega) (by simp)
theorem e4 : addE [] 24 0 = 1 := by simp [addE, ck_nil]
theorem l4 : addL [] 24 [] = [] := addL_bad (by rw [List.length_nil, e4]; omega)
theorem e5 : addE [K1] 4 0 = 1 := by
  unfold addE; rw [if_neg (by rw [ck1]; omega), if_pos]
  right; right; left
  exact ⟨by simp, by show (4 : Int) ≠ 3; omega⟩
theorem l5 : addL [K1] 4 [] = [] := addL_bad (by rw [List.length_nil, e5]; omega)
theorem K23 : K2 ≠ K3 := fun h => by
  have := congrArg Lk.d h
  simp [K2, K3, mkLk] at this
theorem p23 : prtE [K1, K2] [K1, K3] = 0 := by
  unfold prtE; rw [if_neg (by rw [ck2]; omega), if_neg (by rw [ck3]; omega), if_neg]
  rintro ⟨_, _, h⟩; exact h rfl
theorem r23 : prtR [K1, K2] [K1, K3] = (1, true) := by
  unfold prtR; rw [if_pos p23]; simp [difR, difF, K23]
theorem p12 : prtE [K1] [K1, K2] = 0 := by
  unfold prtE; rw [if_neg (by rw [ck1]; omega), if_neg (by rw [ck2]; omega), if_neg]
  rintro ⟨_, _, h⟩; exact h rfl
theorem r12 : prtR [K1] [K1, K2] = (0, false) := by
  unfold prtR; rw [if_pos p12]; simp [difR, difF]
theorem p01 : prtE [] [K1] = 0 := by
  unfold prtE; rw [if_neg (by rw [ck_nil]; omega), if_neg (by rw [ck1]; omega), if_neg]
  rintro ⟨h, _⟩; simp at h
theorem r01 : prtR [] [K1] = (0, false) := by
  unfold prtR; rw [if_pos p01]; simp [difR, difF]
theorem ck_bad {x : Lk} (h : x.o ≠ 0) : ckE [x] = 80 := by
  unfold ckE
  rw [if_neg (by simp), allOk_false (k := 0) (by simp [okAt]; intro _ _ _ h'; exact absurd h' h) (by simp)]
  rfl
theorem text1 : encV (linkV K1) = [3, 4, 1, 6, 1, 0, 2, 32] ++ hN ++ [2, 1, 120] := by
  rw [encV_linkV_eq, K1.hp]
  have h1 : numL 4 = [4] := by rw [numL]; rfl
  have h2 : numL (zz K1.n) = [6] := by rw [show zz K1.n = 6 from rfl, numL]; rfl
  have h3 : numL (zz K1.o) = [0] := by rw [show zz K1.o = 0 from rfl, numL]; rfl
  have h4 : numL 32 = [32] := by rw [numL]; rfl
  have h5 : numL K1.d.length = [1] := by rw [show K1.d.length = 1 from rfl, numL]; rfl
  rw [h1, h2, h3, h4, h5, K1_p]
  simp [K1, mkLk]
theorem head1 : hA = tagL [108, 105, 110, 107] ([3, 4, 1, 6, 1, 0, 2, 32] ++ hN ++ [2, 1, 120]) := by
  rw [← text1]; rfl
end Go.Proofs.YtfegfnekphobmaaDoor
end

section
namespace Go.Proofs.YtfegfnekphobmaaDoor
open Go Go.Proofs.YtfegfnekphobmaaDoor.AL
attribute [local simp] dZ_agg dZ_nt dZ_noTup dZ_cells dZ_one bz_toList bz_size strV dV_cells dV_isAgg dV_noTup dV_nt dBy_cells dBy_one dBy_agg dBy_noTup dBy_nt
attribute [local simp] dLk_cells dLk_isAgg dLk_noTup dLk_nt
set_option maxRecDepth 8000
set_option maxHeartbeats 4000000
inductive C332 : FuncId → List D → Out → Prop
  | a1 : C332 10 [.nil 0, dI 3, dBy [120]] (.ret (.tup [.sl 35 [dLk K1], dI 0]))
  | a2 : C332 10 [.sl 35 [dLk K1], dI 3, dBy [121]] (.ret (.tup [.sl 35 [dLk K1, dLk K2], dI 0]))
  | a3 : C332 10 [.sl 35 [dLk K1], dI 3, dBy [122]] (.ret (.tup [.sl 35 [dLk K1, dLk K3], dI 0]))
  | a4 : C332 10 [.nil 0, dI 24, .nil 0] (.ret (.tup [.sl 35 [], dI 1]))
  | a5 : C332 10 [.sl 35 [dLk K1], dI 4, .nil 0] (.ret (.tup [.sl 35 [], dI 1]))
  | p1 : C332 12 [.sl 35 [dLk K1, dLk K2], .sl 35 [dLk K1, dLk K3]] (.ret (.tup [dI 1, dB true, dI 0]))
  | p2 : C332 12 [.sl 35 [dLk K1], .sl 35 [dLk K1, dLk K2]] (.ret (.tup [dI 0, dB false, dI 0]))
  | p3 : C332 12 [.nil 0, .sl 35 [dLk K1]] (.ret (.tup [dI 0, dB false, dI 0]))
  | c1 : C332 16 [.nil 0] (.ret (dI 0))
  | c2 : C332 16 [.sl 35 [dLk K1, dLk K2]] (.ret (dI 0))
  | c3 : C332 16 [.sl 35 [.agg (dI 0 :: dI 1 :: (List.replicate 32 (D.lit (.int .u8 0)) ++ [.nil 1]))]] (.ret (dI 80))
  | c4 : C332 16 [.sl 35 [dLk K2]] (.ret (dI 80))
  | t1 : C332 19 [dZ [110, 111, 110, 101], .nil 0] (.ret (.agg (hN.map dU)))
  | t2 : C332 19 [dZ [108, 105, 110, 107], dBy ([3, 4, 1, 6, 1, 0, 2, 32] ++ hN ++ [2, 1, 120])] (.ret (.agg (hA.map dU)))
  | h1 : C332 15 [.nil 0] (.ret (.agg (hN.map dU)))
  | h2 : C332 15 [.sl 35 [dLk K1]] (.ret (.agg (hA.map dU)))
theorem h332 : ∀ f ds out, C332 f ds out → PCall Tryd.prog f ds out := by
  intro f ds out h
  have n1 : K1.d.length = 1 := rfl
  have n2 : K2.d.length = 1 := rfl
  have n3 : K3.d.length = 1 := rfl
  have n4 : K4.d.length = 0 := rfl
  cases h with
  | a1 =>
    have := add [] 3 [120] (by simp)
    rw [l1, show addE [] 3 ([120] : List UInt8).length = 0 from e1] at this
    exact this.le (.cons (LeD.nil' _ _) (.cons (LeD.refl _) (.cons (LeD.refl _) .nil)))
  | a2 =>
    have := add [K1] 3 [121] (by simp [n1])
    rw [l2, show addE [K1] 3 ([121] : List UInt8).length = 0 from e2] at this
    exact this
  | a3 =>
    have := add [K1] 3 [122] (by simp [n1])
    rw [l3, show addE [K1] 3 ([122] : List UInt8).length = 0 from e2] at this
    exact this
  | a4 =>
    have := add [] 24 [] (by simp)
    rw [l4, show addE [] 24 ([] : List UInt8).length = 1 from e4] at this
    exact this.le (.cons (LeD.nil' _ _) (.cons (LeD.refl _) (.cons (LeD.nil' _ _) .nil)))
  | a5 =>
    have := add [K1] 4 [] (by simp [n1])
    rw [l5, show addE [K1] 4 ([] : List UInt8).length = 1 from e5] at this
    exact this.le (.cons (LeD.refl _) (.cons (LeD.refl _) (.cons (LeD.nil' _ _) .nil)))
  | p1 =>
    have := part [K1, K2] [K1, K3] (by simp [n1, n2]) (by simp [n1, n3])
    rw [p23, r23] at this
    exact this
  | p2 =>
    have := part [K1] [K1, K2] (by simp [n1]) (by simp [n1, n2])
    rw [p12, r12] at this
    exact this
  | p3 =>
    have := part [] [K1] (by simp) (by simp [n1])
    rw [p01, r01] at this
    exact this.le (.cons (LeD.nil' _ _) (.cons (LeD.refl _) .nil))
  | c1 =>
    have := check [] (by simp)
    rw [ck_nil] at this
    exact this.le (.cons (LeD.nil' _ _) .nil)
  | c2 =>
    have := check [K1, K2] (by simp [n1, n2])
    rw [ck2] at this
    exact this
  | c3 =>
    have := check [K4] (by simp [n4])
    rw [ck_bad (by show (1 : Int) ≠ 0; omega)] at this
    refine this.le (.cons (LeD_sl ?_ rfl ?_ ?_) .nil)
    · simp [D.flat, dLk, K4, dU, D.cells]
      repeat' first | exact .nil | refine .cons (LeD.refl _) ?_ | refine .cons (LeD.nil' _ _) ?_
    · intro e he
      simp at he
      subst he
      exact dLk_len _
    · intro c hc
      simp [D.flat, K4, dU] at hc
      rcases hc with rfl | rfl | rfl | rfl <;> rfl
  | c4 =>
    have := check [K2] (by simp [n2])
    rw [ck_bad (by show (1 : Int) ≠ 0; omega)] at this
    exact this
  | t1 => exact (tagged [110, 111, 110, 101] [] (by simp) (by simp)).le (.cons (LeD.refl _) (.cons (LeD.nil' _ _) .nil))
  | t2 =>
    have := tagged [108, 105, 110, 107] ([3, 4, 1, 6, 1, 0, 2, 32] ++ hN ++ [2, 1, 120]) (by simp) (by simp [hN_len])
    rw [← head1] at this
    exact this
  | h1 => exact (head [] (by simp)).le (.cons (LeD.nil' _ _) .nil)
  | h2 => exact head [K1] (by simp [n1])
theorem sane : PCall Tryd.prog 8 [] (.ret (dB true)) := by
  refine pcall_of_vc h332 c8 (by simp [a8]) fun hr => ?_
  simp [a8, -List.reduceReplicate]
  refine vc_path [.ret (.tup [.sl 35 [dLk K1], dI 0])] ?_
  simp [D.flat, elsD]
  refine ⟨.a1, vc_path [.ret (.tup [.sl 35 [dLk K1, dLk K2], dI 0])] ?_⟩
  simp [D.flat, elsD]
  refine ⟨.a2, vc_path [.ret (.tup [.sl 35 [dLk K1, dLk K3], dI 0])] ?_⟩
  simp [D.flat, elsD]
  refine ⟨.a3, vc_path [.ret (.tup [.sl 35 [], dI 1])] ?_⟩
  simp [D.flat, elsD]
  refine ⟨.a4, vc_path [.ret (.tup [.sl 35 [], dI 1])] ?_⟩
  simp [D.flat, elsD]
  refine ⟨.a5, vc_path [.ret (.tup [dI 1, dB true, dI 0])] ?_⟩
  simp [D.flat, elsD]
  refine ⟨.p1, vc_path [.ret (.tup [dI 0, dB false, dI 0])] ?_⟩
  simp [D.flat, elsD]
  refine ⟨.p2, vc_path [.ret (.tup [dI 0, dB false, dI 0])] ?_⟩
  simp [D.flat, elsD]
  refine ⟨.p3, vc_path [] ?_⟩
  simp
  refine vc_path [.ret (dI 0), .ret (dI 0), .ret (dI 80), .ret (dI 80)] ?_
  simp [-List.reduceReplicate]
  refine ⟨.c1, .c2, .c3, .c4, vc_path [.ret (.agg (hN.map dU))] ?_⟩
  simp [setAt_all, hN_len, allD_dU, elsD_dU _ _ hN_len, -List.reduceReplicate]
  refine ⟨.t1, ?_⟩
  have hT : List.take 32 (hN.map (AV.d ∘ dU)) = hN.map (AV.d ∘ dU) := List.take_of_length_le (by simp [hN_len])
  refine vc_pathD [.ret (.agg (hN.map dU)), .ret (.agg (hA.map dU)), .ret (.agg (hA.map dU)), .ret (.agg (hA.map dU))] ?_
  simp (config := { maxSteps := 600000 }) [hT, K1_p, K2_p, K2_o, K2_d, dBy, hN_len, hA_len, allD_dU, eqC_dU hN_len hN_len, eqC_dU hA_len hA_len, eqB_dU]
  refine ⟨.h1, .h2, ?_, .h2, rfl, rfl, ?_⟩
  · have t := C332.t2
    simp only [dBy, List.map_append, List.map_cons, List.map_nil, List.cons_append, List.nil_append, List.append_assoc] at t
    exact t
  · rw [show [dU 121] = [(121 : UInt8)].map dU from rfl, bytesOf_map, bz_toList]
    exact LeD.refl _
end Go.Proofs.YtfegfnekphobmaaDoor
end

section
namespace Go.Proofs.YtfegfnekphobmaaDoor
open Go Go.Proofs.YtfegfnekphobmaaDoor.AL
attribute [local simp] dZ_agg dZ_nt dZ_noTup dZ_cells dZ_one bz_toList bz_size strV dV_cells dV_isAgg dV_noTup dV_nt dBy_cells dBy_one dBy_agg dBy_noTup dBy_nt
attribute [local simp] dLk_cells dLk_isAgg dLk_noTup dLk_nt
set_option maxRecDepth 8000
set_option maxHeartbeats 4000000
inductive C333 : FuncId → List D → Out → Prop
  | head (l : List Lk) (hd : ∀ x ∈ l, x.d.length ≤ 100000) : C333 15 [.sl 35 (l.map dLk)] (.ret (.agg ((headL l).map dU)))
  | text (l : List Lk) (hd : ∀ x ∈ l, x.d.length ≤ 100000) : C333 31 [.sl 35 (l.map dLk)] (.ret (.tup [dZ (textL l).1, dBy (textL l).2]))
theorem h333 : ∀ f ds out, C333 f ds out → PCall Tryd.prog f ds out := by
  intro f ds out h
  cases h with
  | head l hd => exact head l hd
  | text l hd => exact refText l hd
theorem clash (a b : List Lk) (ha : ∀ x ∈ a, x.d.length ≤ 100000) (hb : ∀ x ∈ b, x.d.length ≤ 100000) : PCall Tryd.prog 17 [.sl 35 (a.map dLk), .sl 35 (b.map dLk)] (.ret (dB (clashL a b))) := by
  refine pcall_of_vc h333 c17 (by simp [a17]) fun hr => ?_
  have t1 := C333.text a ha
  have t2 := C333.text b hb
  have h1 := C333.head a ha
  have h2 := C333.head b hb
  have l1 := headL_len a
  have l2 := headL_len b
  unfold clashL
  generalize textL a = ta at *
  generalize textL b = tb at *
  generalize headL a = A at *
  generalize headL b = B at *
  obtain ⟨sa, xa⟩ := ta
  obtain ⟨sb, xb⟩ := tb
  simp [a17]
  refine vc_path [.ret (.tup [dZ sa, dBy xa])] ?_
  simp
  refine ⟨t1, vc_path [.ret (.tup [dZ sb, dBy xb])] ?_⟩
  simp
  refine ⟨t2, ?_⟩
  clear t1 t2
  refine vc_path [.ret (.agg (A.map dU)), .ret (.agg (B.map dU))] ?_
  simp [dZ, dBy, bytesOf_map, eqC_dU l1 l2, eqB_dU _ _ (l1.trans l2.symm)]
  refine ⟨fun hs => ⟨h1, h2, leD_of_eq (by simp [hs])⟩, fun hs => ⟨fun _ _ => rfl, fun _ _ => rfl, fun hx => ⟨h1, h2, leD_of_eq (by simp [hx])⟩, fun hx => leD_of_eq (by simp [hs, hx])⟩⟩
inductive C334 : FuncId → List D → Out → Prop
  | sane : C334 8 [] (.ret (dB true))
  | few (l : List Lk) : C334 9 [.sl 35 (l.map dLk)] (.ret (dB (fewL l)))
  | same (a b : List Lk) : C334 14 [.sl 35 (a.map dLk), .sl 35 (b.map dLk)] (.ret (dB (decide (a = b))))
  | sl (x y : Lk) : C334 18 [dLk x, dLk y] (.ret (dB (decide (x = y))))
  | head (l : List Lk) (hd : ∀ x ∈ l, x.d.length ≤ 100000) : C334 15 [.sl 35 (l.map dLk)] (.ret (.agg ((headL l).map dU)))
  | check (l : List Lk) (hd : ∀ x ∈ l, x.d.length ≤ 100000) : C334 16 [.sl 35 (l.map dLk)] (.ret (dI (ckE l)))
  | clash (a b : List Lk) (ha : ∀ x ∈ a, x.d.length ≤ 100000) (hb : ∀ x ∈ b, x.d.length ≤ 100000) : C334 17 [.sl 35 (a.map dLk), .sl 35 (b.map dLk)] (.ret (dB (clashL a b)))
  | part (a b : List Lk) (ha : ∀ x ∈ a, x.d.length ≤ 100000) (hb : ∀ x ∈ b, x.d.length ≤ 100000) : C334 12 [.sl 35 (a.map dLk), .sl 35 (b.map dLk)] (.ret (.tup [dI (prtR a b).1, dB (prtR a b).2, dI (prtE a b)]))
  | add (a : List Lk) (node : Int) (data : List UInt8) (ha : ∀ x ∈ a, x.d.length ≤ 100000) : C334 10 [.sl 35 (a.map dLk), dI node, dBy data] (.ret (.tup [.sl 35 ((addL a node data).map dLk), dI (addE a node data.length)]))
theorem h334 : ∀ f ds out, C334 f ds out → PCall Tryd.prog f ds out := by
  intro f ds out h
  cases h with
  | sane => exact sane
  | few l => exact few l
  | same a b => exact same a b
  | sl x y => exact sameLink x y
  | head l hd => exact head l hd
  | check l hd => exact check l hd
  | clash a b ha hb => exact clash a b ha hb
  | part a b ha hb => exact part a b ha hb
  | add a n d ha => exact add a n d ha
theorem few_d {l : List Lk} (h : fewL l = true) : l.length ≤ 16 ∧ ∀ x ∈ l, x.d.length ≤ 300 := by
  unfold fewL at h
  simp at h
  exact h
end Go.Proofs.YtfegfnekphobmaaDoor
end

section
namespace Go.Proofs.YtfegfnekphobmaaDoor
open Go Go.Proofs.YtfegfnekphobmaaDoor.AL
attribute [local simp] dZ_agg dZ_nt dZ_noTup dZ_cells dZ_one bz_toList bz_size strV dV_cells dV_isAgg dV_noTup dV_nt dBy_cells dBy_one dBy_agg dBy_noTup dBy_nt
attribute [local simp] dLk_cells dLk_isAgg dLk_noTup dLk_nt
set_option maxRecDepth 8000
set_option maxHeartbeats 4000000
theorem min_if (a b : Nat) : (if b < a then (b : Int) else (a : Int)) = ((min a b : Nat) : Int) := by
  split <;> omega
theorem chainParts (a b : List Lk) : PCall Tryd.prog 7 [.sl 35 (a.map dLk), .sl 35 (b.map dLk)] (.ret (dB true)) := by
  refine pcall_of_vc h334 c7 (by simp [a7]) fun hr => ?_
  have c1 := C334.few a
  have c2 := C334.few b
  simp [a7]
  refine vc_path [.ret (dB true)] ?_
  simp
  refine ⟨.sane, ?_⟩
  by_cases ha : fewL a = true
  case neg =>
    have ha : fewL a = false := by simpa using ha
    rw [ha] at c1
    refine vc_path [.ret (dB false)] ?_
    simp
    exact c1
  by_cases hb : fewL b = true
  case neg =>
    have hb : fewL b = false := by simpa using hb
    rw [ha] at c1
    rw [hb] at c2
    refine vc_path [.ret (dB true), .ret (dB false)] ?_
    simp
    exact ⟨c1, c2⟩
  have a1 : ∀ x ∈ a, x.d.length ≤ 100000 := fun x hx => by have := (few_d ha).2 x hx; omega
  have b1 : ∀ x ∈ b, x.d.length ≤ 100000 := fun x hx => by have := (few_d hb).2 x hx; omega
  have hla := (few_d ha).1
  have hlb := (few_d hb).1
  rw [ha] at c1
  rw [hb] at c2
  have p1 := C334.part a b a1 b1
  have p2 := C334.part b a b1 a1
  refine vc_path [.ret (dB true), .ret (dB true)] ?_
  simp
  refine ⟨c1, c2, ?_⟩
  by_cases he : prtE a b = 0
  case neg =>
    have hf := parts_law a b he
    have e1 : prtR a b = (0, false) := by unfold prtR; rw [if_neg he]
    have e2 : prtR b a = (0, false) := by unfold prtR; rw [if_neg hf]
    rw [e1] at p1
    rw [e2] at p2
    generalize prtE a b = x at *
    generalize prtE b a = y at *
    refine vc_path [.ret (.tup [dI 0, dB false, dI x])] ?_
    simp
    refine ⟨p1, vc_path [.ret (.tup [dI 0, dB false, dI y])] ?_⟩
    simp [he]
    refine ⟨p2, vc_path [] ?_⟩
    simp
    exact leD_of_eq (by have h : (y != 0) = true := by simpa using hf
                        rw [h])
  have hf : prtE b a = 0 := by
    by_cases h : prtE b a = 0
    · exact h
    · exact absurd he (parts_law b a h)
  have e1 : prtR a b = difR a b := by unfold prtR; rw [if_pos he]
  have e2 : prtR b a = difR a b := by unfold prtR; rw [if_pos hf]; unfold difR; rw [difF_comm]
  rw [e1, he] at p1
  rw [e2, hf] at p2
  cases hd : difF a b with
  | none =>
    have e3 : difR a b = (0, false) := by unfold difR; rw [hd]
    have e4 := difF_take a b hd
    rw [e3] at p1 p2
    have s1 := C334.same (a.take (min a.length b.length)) (b.take (min a.length b.length))
    rw [decide_eq_true e4] at s1
    refine vc_path [.ret (.tup [dI 0, dB false, dI 0])] ?_
    simp
    refine ⟨p1, vc_path [.ret (.tup [dI 0, dB false, dI 0])] ?_⟩
    simp
    refine ⟨p2, vc_path [] ?_⟩
    simp
    rw [min_if]
    refine vc_pathD [.ret (dB true)] ?_
    simp
    rw [List.map_take, List.map_take] at s1
    exact ⟨by omega, by omega, s1, rfl⟩
  | some i =>
    have e3 : difR a b = ((i : Int), true) := by unfold difR; rw [hd]
    obtain ⟨i1, i2, i3, i4⟩ := difF_get a b i hd
    rw [e3] at p1 p2
    have s1 := C334.same (a.take i) (b.take i)
    rw [decide_eq_true i3] at s1
    have s2 := C334.sl a[i] b[i]
    rw [decide_eq_false i4] at s2
    have q1 := (a[i]).hp
    have q2 := (b[i]).hp
    refine vc_path [.ret (.tup [dI i, dB true, dI 0])] ?_
    simp
    refine ⟨p1, vc_path [.ret (.tup [dI i, dB true, dI 0])] ?_⟩
    simp
    refine ⟨p2, vc_path [] ?_⟩
    simp
    rw [min_if]
    refine vc_pathD [.ret (dB true), .ret (dB false)] ?_
    simp [i1, i2, q1, q2]
    rw [List.map_take, List.map_take] at s1
    refine ⟨fun _ => ⟨by omega, by omega, s1, s2, rfl⟩, fun h => ?_⟩
    exact absurd h (by omega)
end Go.Proofs.YtfegfnekphobmaaDoor
end
