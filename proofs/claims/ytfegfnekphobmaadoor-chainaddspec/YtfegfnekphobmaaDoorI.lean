/- Part of the proof: S312, S313, S314, S320, S322, S324, S323, S325, S326, S327, S328, S329, S331, S332, S333, S335, S336, S337, S338, S350, S351, S352, S353, S354. -/
import Derived.Test.YtfegfnekphobmaaDoorProg
import Derived.KernelRfl
import Derived.RowKit
import Derived.Laws.AppendOwn
import Derived.Lib.SliceRun
import Derived.Deep.RegionWith
import Derived.Below
import Derived.Test.YtfegfnekphobmaaDoorH
set_option linter.unnecessarySimpa false
set_option linter.unusedVariables false
set_option linter.unusedSimpArgs false
section
namespace Go.Proofs.YtfegfnekphobmaaDoor
open Go Go.Proofs.YtfegfnekphobmaaDoor.AL
set_option maxRecDepth 8000
set_option maxHeartbeats 8000000
attribute [local simp] wq_add wq_xor wq_and wq_or
/-- The calls of absorb. -/
structure CAbs (C : FuncId → List D → Out → Prop) : Prop where
  word : ∀ b : List UInt8, 4 ≤ b.length → C 53 [dBy b] (.ret (dq (wordQ b)))
  rot : ∀ (x : UInt32) (c : Nat), 0 < c → c < 32 → C 54 [dq x, dI (-(c : Int))] (.ret (dq (ror x c)))
  rotd : ∀ (x : UInt32) (a b c : Nat), 0 < a ∧ a < 32 → 0 < b ∧ b < 32 → 0 < c ∧ c < 32 → C 55 [dq x, dI a, dI b, dI c] (.ret (dq (rot3 x a b c)))
def aq (l : List UInt32) : List AV := (l.map dq).map .d
theorem aq_len (l : List UInt32) : (aq l).length = l.length := by simp [aq]
theorem aq_get (l : List UInt32) (i : Nat) (h : i < l.length) : (aq l)[i]? = some (.d (dq (wat l i))) := by
  simp [aq, h, wat]
theorem aq_set (l : List UInt32) (i : Nat) (x : UInt32) : (aq l).set i (.d (dq x)) = aq (l.set i x) := by
  simp [aq, List.map_set]
theorem aq_one (l : List UInt32) : ∀ c ∈ aq l, c.one = true := fun c hc => by
  simp only [aq, List.mem_map] at hc
  obtain ⟨d, ⟨x, _, rfl⟩, rfl⟩ := hc
  rfl
theorem leL_aq (ρ : Nat → Nat) (N : Nat → Option Nat) (ok : Nat → Bool) (k : Nat) (l : List UInt32) : leA.leL ρ N ok k (aq l) (aq l) = True := eq_true (leL_map ρ N ok k _)
theorem aq0 (b : List UInt8) : aq (wInit b 0) = List.replicate 64 (AV.d (.lit (.int .u32 0))) := by
  have : wInit b 0 = List.replicate 64 0 := by
    unfold wInit
    simp [List.map_const', -List.reduceReplicate]
  rw [this]
  simp [aq, dq, q, -List.reduceReplicate]
theorem leL_md (ρ : Nat → Nat) (N : Nat → Option Nat) (ok : Nat → Bool) (k : Nat) (l : List D) : leA.leL ρ N ok k (l.map .d) (l.map .d) = True := eq_true (leL_map ρ N ok k _)
theorem lt3 : (∀ x : Nat, x < 3 → ¬x = 0 ∧ ¬x = 1 ∧ ¬x = 2 ∧ ¬x = 3 ∨ x = 0 ∨ x = 1 ∨ x = 2 ∨ x = 3) = True := eq_true fun x h => by omega
theorem dq_cells (x : UInt32) : (dq x).cells = [dq x] := rfl
theorem dq_noTup (x : UInt32) : (AV.d (dq x)).noTup = true := rfl
theorem dq_one (x : UInt32) : (dq x).one = true := rfl
theorem dq_free (x : UInt32) : Free (dq x) := .lit _
attribute [local simp] dq_free
theorem lt3' : (∀ x : Nat, x < 3 → ¬x = 0 ∧ ¬x = 1 ∧ ¬x = 2 ∧ ¬x = 3 ∧ ¬x = 4 ∨ x = 0 ∨ x = 1 ∨ x = 2 ∨ x = 3 ∨ x = 4) = True := eq_true fun x h => by omega
attribute [local simp] lt3' dQ_eq
attribute [local simp] aq_len leL_aq leL_md dBy lt3 bslV dq_cells dq_noTup dq_one
def s8v (s : S8) : List AV := [.d (.lit (.int .u32 (q s.a))), .d (.lit (.int .u32 (q s.b))), .d (.lit (.int .u32 (q s.c))), .d (.lit (.int .u32 (q s.d))), .d (.lit (.int .u32 (q s.e))), .d (.lit (.int .u32 (q s.f))), .d (.lit (.int .u32 (q s.g))), .d (.lit (.int .u32 (q s.h)))]
theorem aqS (s : S8) : aq s.l = s8v s := rfl
theorem aq_set' (l : List UInt32) (i : Nat) (x : UInt32) : (aq l).set i (.d (.lit (.int .u32 (q x)))) = aq (l.set i x) := aq_set l i x
theorem glb1 : glbD 1 = some (.agg (kNums.map dQ)) := rfl
theorem kNums_get (i : Nat) (h : i < 64) : kNums[i]? = some (wat kNums i) := by
  have : kNums.length = 64 := rfl
  unfold wat
  rw [List.getElem?_eq_getElem (by omega)]
  simp [List.getElem?_eq_getElem (show i < kNums.length by omega)]
theorem kNums_len : kNums.length = 64 := rfl
def mixS (s r : S8) (i : Nat) : S8 := ⟨if 0 < i then s.a + r.a else s.a, if 1 < i then s.b + r.b else s.b, if 2 < i then s.c + r.c else s.c, if 3 < i then s.d + r.d else s.d, if 4 < i then s.e + r.e else s.e, if 5 < i then s.f + r.f else s.f, if 6 < i then s.g + r.g else s.g, if 7 < i then s.h + r.h else s.h⟩
def restAC : AC → AC
  | .seq _ (.seq _ r) => r
  | c => c
theorem absorbR {cx : Cx} (hB : cx.B = 3) (htop : cx.top = true) (hC : CAbs cx.C) (s : S8) (b : List UInt8) (z0 : List D) (hz0 : ∀ d ∈ z0, d.one = true) (x2 : HO)
    (h2 : x2 = .dead ∨ ∃ z2, x2 = .box true (List.map AV.d z2) ∧ (∀ d ∈ z2, d.one = true)) (sl : List (Nat × Bool × AV)) (g0 : getS sl 0 = some (true, .ptr 1 0)) (g4 : getS sl 4 = some (true, .ptr 3 0))
    (K : HOut → List (Nat × HO) → Prop) (hK : ∀ x3 x4, K (.ret (.tup [])) [(0, .box true (z0.map .d)), (1, .box true (aq (compress s b).l)), (2, x2), (3, x3), (4, x4)]) :
    ∀ (rest : AC) (fn : AF), rest = restAC a41.body → fn = a41 → vcX Tryd.prog cx rest (endH Tryd.prog cx.C fn K) ⟨sl, [(0, .box true (z0.map .d)), (1, .box true (aq s.l)), (2, x2), (3, .box true (aq (wInit b 16)))], []⟩ := by
  rintro rest fn rfl rfl
  obtain ⟨B, top, l, Y, C⟩ := cx
  simp only at hB htop hC
  subst hB; subst htop
  rcases h2 with rfl | ⟨z2, rfl, hz2⟩
  all_goals
    simp [a41, restAC, -List.reduceReplicate]
    refine vc_loopK [0, 4] Nat (fun i => [(6, true, .d (dI (16 + i)))]) (fun i => [(3, .box true (aq (wUp b i)))]) (fun i => i ≤ 48) (fun i => 48 - i) 0 (by simp) ⟨[], [], ?_⟩ (fun i hi => ?_)
    · simp [wUp, g0, g4]
      (repeat' apply And.intro) <;> first | exact hz0 | exact aq_one _ | exact hz2
    simp [g0, g4]
    refine ⟨fun hlt => ?_, fun hge => ?_⟩
    · have hlt : i < 48 := by omega
      have e15 : IntKind.i64.wrap (16 + (i : Int) - 15) = ((i + 1 : Nat) : Int) := by rw [wrap64 (by omega)]; omega
      have e2 : IntKind.i64.wrap (16 + (i : Int) - 2) = ((i + 14 : Nat) : Int) := by rw [wrap64 (by omega)]; omega
      have e16 : IntKind.i64.wrap (16 + (i : Int) - 16) = ((i : Nat) : Int) := by rw [wrap64 (by omega)]; omega
      have e7 : IntKind.i64.wrap (16 + (i : Int) - 7) = ((i + 9 : Nat) : Int) := by rw [wrap64 (by omega)]; omega
      have e1 : IntKind.i64.wrap (16 + (i : Int) + 1) = ((16 + (i + 1) : Nat) : Int) := by rw [wrap64 (by omega)]; omega
      have hl := wUp_len b i
      have hg : ∀ j : Nat, j < 64 → (aq (wUp b i))[j]? = some (.d (dq (wat (wUp b i) j))) := fun j hj => aq_get _ _ (by omega)
      have t14 : ((i : Int) + 14).toNat = i + 14 := by omega
      have t9 : ((i : Int) + 9).toNat = i + 9 := by omega
      have t16 : (16 + (i : Int)).toNat = 16 + i := by omega
      simp only [e15, e2]
      simp [hl, t14, hg (i + 1) (by omega), hg (i + 14) (by omega)]
      refine ⟨⟨by omega, by omega⟩, by omega, ⟨by omega, by omega⟩, by omega, rfl, ?_⟩
      have r1 := hC.rot (wat (wUp b i) (i + 1)) 7 (by omega) (by omega)
      have r2 := hC.rot (wat (wUp b i) (i + 1)) 18 (by omega) (by omega)
      have r3 := hC.rot (wat (wUp b i) (i + 14)) 17 (by omega) (by omega)
      have r4 := hC.rot (wat (wUp b i) (i + 14)) 19 (by omega) (by omega)
      have hset : (wUp b i).set (16 + i) (wat (wUp b i) i + (ror (wat (wUp b i) (i + 1)) 7 ^^^ ror (wat (wUp b i) (i + 1)) 18 ^^^ wat (wUp b i) (i + 1) >>> 3) + wat (wUp b i) (i + 9) + (ror (wat (wUp b i) (i + 14)) 17 ^^^ ror (wat (wUp b i) (i + 14)) 19 ^^^ wat (wUp b i) (i + 14) >>> 10)) = wUp b (i + 1) := by
        rw [wUp, wNew]
        rw [show 16 + i - 16 = i by omega, show 16 + i - 15 = i + 1 by omega, show 16 + i - 7 = i + 9 by omega, show 16 + i - 2 = i + 14 by omega]
      have hgi := hg i (by omega)
      have hg9 := hg (i + 9) (by omega)
      generalize hx1 : wat (wUp b i) (i + 1) = x1 at *
      generalize hx14 : wat (wUp b i) (i + 14) = x14 at *
      refine vc_pathD [.ret (dq (ror x1 7)), .ret (dq (ror x1 18)), .ret (dq (ror x14 17)), .ret (dq (ror x14 19))] ?_
      have s3 : shiftV false .u32 (q x1) 3 = .int .u32 (q (x1 >>> 3)) := shr_q x1 3 (by omega)
      have s10 : shiftV false .u32 (q x14) 10 = .int .u32 (q (x14 >>> 10)) := shr_q x14 10 (by omega)
      unfold dq at *
      simp [e16, e7, hl, hgi, hg9, e1, t9, t16, s3, s10]
      refine ⟨by omega, by omega, by simpa using r1, by simpa using r2, ⟨by omega, by omega⟩, by omega, by simpa using r3, by simpa using r4, ⟨by omega, by omega⟩, by omega, rfl, i + 1, by omega, by omega, [], [], ?_⟩
      rw [aq_set', hset]
      simp
      (repeat' apply And.intro) <;> first | exact hz0 | exact aq_one _ | exact hz2
    · have hi48 : i = 48 := by omega
      subst hi48
      rw [aqS] at *
      have hone : ∀ r : S8, ∀ c ∈ s8v r, c.one = true := fun r c hc => by
        rw [← aqS] at hc; exact aq_one _ c hc
      have hlv : ∀ r : S8, (s8v r).length = 8 := fun r => rfl
      simp [s8v, S8.l]
      refine vc_loopK [0, 4, 9] Nat (fun i => [(69, true, .d (dI i))]) (fun i => [(4, .box true (s8v (rounds (wUp b 48) s i)))]) (fun i => i ≤ 64) (fun i => 64 - i) 0 (by simp) ⟨[], [], ?_⟩ (fun i hi => ?_)
      · simp [rounds, s8v]
        (repeat' apply And.intro) <;> first | exact hz0 | exact aq_one _ | exact hz2
      have hl := wUp_len b 48
      simp
      refine ⟨fun hlt => ?_, fun hge => ?_⟩
      · have hlt : i < 64 := by omega
        have hg : (aq (wUp b 48))[i]? = some (.d (dq (wat (wUp b 48) i))) := aq_get _ _ (by omega)
        generalize hr : rounds (wUp b 48) s i = r
        have c1 := hC.rotd r.e 6 11 25 (by omega) (by omega) (by omega)
        have c2 := hC.rotd r.a 2 13 22 (by omega) (by omega) (by omega)
        unfold dq at c1 c2 hg
        refine vc_pathD [.ret (dq (rot3 r.e 6 11 25))] ?_
        unfold dq
        simp [s8v, glb1, kNums_get i hlt, kNums_len, hg]
        refine ⟨by simpa using c1, ⟨by omega, by omega⟩, by omega, by rw [hl]; omega, rfl, vc_pathD [.ret (dq (rot3 r.a 2 13 22))] ?_⟩
        unfold dq
        simp [s8v]
        have hw1 : IntKind.i64.wrap ((i : Int) + 1) = ((i + 1 : Nat) : Int) := by rw [wrap64 (by omega)]; omega
        refine ⟨by simpa using c2, rfl, rfl, i + 1, by omega, by omega, [], [], ?_⟩
        rw [hw1, rounds, hr]
        simp [round, s8v]
        (repeat' apply And.intro) <;> first | exact hz0 | exact aq_one _ | exact hz2
      · have hi64 : i = 64 := by omega
        subst hi64
        have hcs : compress s b = s.add (rounds (wUp b 48) s 64) := rfl
        generalize hr : rounds (wUp b 48) s 64 = r at hcs
        simp [s8v]
        refine vc_loopK [0, 4, 9] Nat (fun i => [(129, true, .d (dI i))]) (fun i => [(1, .box true (s8v (mixS s r i)))]) (fun i => i ≤ 8) (fun i => 8 - i) 0 (by simp) ⟨[], [], ?_⟩ (fun i hi => ?_)
        · simp [mixS, s8v]
          (repeat' apply And.intro) <;> first | exact hz0 | exact aq_one _ | exact hz2
        have h8 : i = 0 ∨ i = 1 ∨ i = 2 ∨ i = 3 ∨ i = 4 ∨ i = 5 ∨ i = 6 ∨ i = 7 ∨ i = 8 := by omega
        rcases h8 with rfl | rfl | rfl | rfl | rfl | rfl | rfl | rfl | rfl
        · have hwk : IntKind.i64.wrap 1 = 1 := rfl
          simp [s8v, mixS, hwk]
          refine ⟨rfl, 1, by omega, by omega, [], [], ?_⟩
          simp
          (repeat' apply And.intro) <;> first | exact hz0 | exact aq_one _ | exact hz2
        · have hwk : IntKind.i64.wrap 2 = 2 := rfl
          simp [s8v, mixS, hwk]
          refine ⟨rfl, 2, by omega, by omega, [], [], ?_⟩
          simp
          (repeat' apply And.intro) <;> first | exact hz0 | exact aq_one _ | exact hz2
        · have hwk : IntKind.i64.wrap 3 = 3 := rfl
          simp [s8v, mixS, hwk]
          refine ⟨rfl, 3, by omega, by omega, [], [], ?_⟩
          simp
          (repeat' apply And.intro) <;> first | exact hz0 | exact aq_one _ | exact hz2
        · have hwk : IntKind.i64.wrap 4 = 4 := rfl
          simp [s8v, mixS, hwk]
          refine ⟨rfl, 4, by omega, by omega, [], [], ?_⟩
          simp
          (repeat' apply And.intro) <;> first | exact hz0 | exact aq_one _ | exact hz2
        · have hwk : IntKind.i64.wrap 5 = 5 := rfl
          simp [s8v, mixS, hwk]
          refine ⟨rfl, 5, by omega, by omega, [], [], ?_⟩
          simp
          (repeat' apply And.intro) <;> first | exact hz0 | exact aq_one _ | exact hz2
        · have hwk : IntKind.i64.wrap 6 = 6 := rfl
          simp [s8v, mixS, hwk]
          refine ⟨rfl, 6, by omega, by omega, [], [], ?_⟩
          simp
          (repeat' apply And.intro) <;> first | exact hz0 | exact aq_one _ | exact hz2
        · have hwk : IntKind.i64.wrap 7 = 7 := rfl
          simp [s8v, mixS, hwk]
          refine ⟨rfl, 7, by omega, by omega, [], [], ?_⟩
          simp
          (repeat' apply And.intro) <;> first | exact hz0 | exact aq_one _ | exact hz2
        · have hwk : IntKind.i64.wrap 8 = 8 := rfl
          simp [s8v, mixS, hwk]
          refine ⟨rfl, 8, by omega, by omega, [], [], ?_⟩
          simp
          (repeat' apply And.intro) <;> first | exact hz0 | exact aq_one _ | exact hz2
        · have hKK := hK (.box true (aq (wUp b 48))) (.box true (s8v r))
          rw [hcs] at hKK
          simp [s8v, mixS]
          simpa [s8v, S8.add] using hKK
def seq1 : AC → AC
  | .seq a _ => a
  | c => c
def seq2 : AC → AC
  | .seq _ a => a
  | c => c
theorem absorbF {cx : Cx} (hB : cx.B = 3) (htop : cx.top = true) (hC : CAbs cx.C) (s : S8) (b : List UInt8) (hb : b.length = 64) (z0 : List D) (hz0 : ∀ d ∈ z0, d.one = true) (x2 : HO) (arg : AV)
    (h2 : (x2 = .dead ∧ arg = .d (dBy b)) ∨ ∃ z2 o c, x2 = .box true (List.map AV.d z2) ∧ (∀ d ∈ z2, d.one = true) ∧ arg = .bsl 2 o 1 64 c ∧ (z2.drop o).take 64 = b.map dU ∧ 64 ≤ c)
    (R : AC) (Q : AE → St → Prop) (hR : ∀ sl, getS sl 0 = some (true, .ptr 1 0) → getS sl 4 = some (true, .ptr 3 0) → vcX Tryd.prog cx R Q ⟨sl, [(0, .box true (z0.map .d)), (1, .box true (aq s.l)), (2, x2), (3, .box true (aq (wInit b 16)))], []⟩) :
    vcX Tryd.prog cx (.seq (seq1 a41.body) (.seq (seq1 (seq2 a41.body)) R)) Q ⟨argA [.ptr 1 0, arg] 0, [(0, .box true (z0.map .d)), (1, .box true (aq s.l)), (2, x2)], []⟩ := by
  obtain ⟨B, top, l, Y, C⟩ := cx
  simp only at hB htop hC
  subst hB; subst htop
  have hw : ∀ i : Nat, i < 64 → IntKind.i64.wrap ((i : Int) + 1) = ((i + 1 : Nat) : Int) := fun i h => by rw [wrap64 (by omega)]; omega
  have hw4 : ∀ i : Nat, i < 64 → IntKind.i64.wrap (4 * (i : Int)) = 4 * (i : Int) := fun i h => wrap64 (by omega)
  have ht4 : ∀ i : Nat, (4 * (i : Int)).toNat = 4 * i := fun i => by omega
  rcases h2 with ⟨rfl, rfl⟩ | ⟨z2, o, c, rfl, hz2, rfl, hzz, hc⟩
  · simp [a41, seq1, seq2, -List.reduceReplicate]
    refine vc_loopK [0, 1, 4] Nat (fun i => [(14, true, .d (dI i))]) (fun i => [(3, .box true (aq (wInit b i)))]) (fun i => i ≤ 16) (fun i => 16 - i) 0 (by simp) ⟨[], [], ?_⟩ (fun i hi => ?_)
    · simp [aq0]
      exact ⟨hz0, aq_one _⟩
    simp
    refine ⟨fun hlt => ?_, fun hge => ?_⟩
    · have hlt : i < 16 := by omega
      have hcc := hC.word (b.drop (4 * i)) (by simp; omega)
      refine vc_path [.ret (dq (wordQ (b.drop (4 * i))))] ?_
      simp [hw i (by omega), hw4 i (by omega), ht4, hb]
      refine ⟨⟨by omega, by omega⟩, ?_, by omega, by rw [wInit_len]; omega, i + 1, by omega, by omega, [], [], ?_⟩
      · rw [List.take_of_length_le (by simp; omega)]
        simpa using hcc
      · simp [aq_set, wInit_set b i (by omega)]
        exact ⟨hz0, aq_one _, aq_one _⟩
    · have hi16 : i = 16 := by omega
      subst hi16
      exact hR _ rfl rfl
  · simp [a41, seq1, seq2, -List.reduceReplicate]
    refine vc_loopK [0, 1, 4] Nat (fun i => [(14, true, .d (dI i))]) (fun i => [(3, .box true (aq (wInit b i)))]) (fun i => i ≤ 16) (fun i => 16 - i) 0 (by simp) ⟨[], [], ?_⟩ (fun i hi => ?_)
    · simp [aq0]
      exact ⟨hz0, aq_one _, hz2⟩
    simp
    refine ⟨fun hlt => ?_, fun hge => ?_⟩
    · have hlt : i < 16 := by omega
      have hcc := hC.word (b.drop (4 * i)) (by simp; omega)
      have hne : ¬ 64 - 4 * i = 0 := by omega
      refine vc_path [.ret (dq (wordQ (b.drop (4 * i))))] ?_
      have hlz : o + 64 ≤ z2.length := by
        have := congrArg List.length hzz
        simp at this
        omega
      have hels : elsD 1 (64 - 4 * i) (z2.drop (o + 4 * i)) = (b.drop (4 * i)).map dU := by
        unfold elsD
        rw [if_pos rfl, List.map_drop, ← hzz, List.drop_take, List.drop_drop]
      simp [hw i (by omega), hw4 i (by omega), ht4, hb, hne, allD1_map, hels, show o + 4 * i + (64 - 4 * i) ≤ z2.length by omega]
      refine ⟨⟨by omega, by omega, by omega⟩, by simpa using hcc, by omega, by rw [wInit_len]; omega, i + 1, by omega, by omega, [], [], ?_⟩
      simp [aq_set, wInit_set b i (by omega)]
      (repeat' apply And.intro) <;> first | exact hz0 | exact aq_one _ | exact hz2
    · have hi16 : i = 16 := by omega
      subst hi16
      exact hR _ rfl rfl
theorem absorbH {cx : Cx} (hB : cx.B = 3) (htop : cx.top = true) (hC : CAbs cx.C) (s : S8) (b : List UInt8) (hb : b.length = 64) (z0 : List D) (hz0 : ∀ d ∈ z0, d.one = true) (x2 : HO) (arg : AV)
    (h2 : (x2 = .dead ∧ arg = .d (dBy b)) ∨ ∃ z2 o c, x2 = .box true (List.map AV.d z2) ∧ (∀ d ∈ z2, d.one = true) ∧ arg = .bsl 2 o 1 64 c ∧ (z2.drop o).take 64 = b.map dU ∧ 64 ≤ c)
    (K : HOut → List (Nat × HO) → Prop) (hK : ∀ x3 x4, K (.ret (.tup [])) [(0, .box true (z0.map .d)), (1, .box true (aq (compress s b).l)), (2, x2), (3, x3), (4, x4)]) :
    TF Tryd.prog a41 cx [.ptr 1 0, arg] [(0, .box true (z0.map .d)), (1, .box true (aq s.l)), (2, x2)] K := by
  rw [TF_eq]
  refine ⟨by simp [a41], ?_⟩
  have e : a41.body = .seq (seq1 a41.body) (.seq (seq1 (seq2 a41.body)) (restAC a41.body)) := rfl
  rw [e]
  refine absorbF hB htop hC s b hb z0 hz0 x2 arg h2 _ _ fun sl g0 g4 => ?_
  exact absorbR hB htop hC s b z0 hz0 x2 (h2.imp (fun h => h.1) (fun ⟨z2, o, c, h1, h2, _⟩ => ⟨z2, h1, h2⟩)) sl g0 g4 K hK _ _ rfl rfl
end Go.Proofs.YtfegfnekphobmaaDoor
end

section
namespace Go.Proofs.YtfegfnekphobmaaDoor
open Go Go.Proofs.YtfegfnekphobmaaDoor.AL
set_option maxRecDepth 8000
set_option maxHeartbeats 8000000
/-- A number's bytes, the greatest first, in a part of a box. -/
def putB (n : Nat) (u : Nat) : List UInt8 := (List.range n).map fun j => UInt8.ofNat (u / 256 ^ (n - 1 - j))
theorem putB_len (n u : Nat) : (putB n u).length = n := by simp [putB]
/-- What put has done after i steps. -/
def putW (z : List D) (o n u i : Nat) : List D := (List.range z.length).map fun j => if o + (n - i) ≤ j ∧ j < o + n then dU (UInt8.ofNat (u / 256 ^ (o + n - 1 - j))) else z.getD j default
theorem putW_len (z : List D) (o n u i : Nat) : (putW z o n u i).length = z.length := by simp [putW]
theorem putW_0 (z : List D) (o n u : Nat) : putW z o n u 0 = z := by
  refine List.ext_getElem? fun k => ?_
  by_cases hk : k < z.length
  · simp [putW, hk]
    intro h1 h2; omega
  · simp [putW, hk]
theorem putW_s (z : List D) (o n u i : Nat) (hi : i < n) (hz : o + n ≤ z.length) : (putW z o n u i).set (o + (n - 1 - i)) (dU (UInt8.ofNat (u / 256 ^ i))) = putW z o n u (i + 1) := by
  refine List.ext_getElem? fun k => ?_
  rw [List.getElem?_set, putW_len]
  by_cases hk : o + (n - 1 - i) = k
  · subst hk
    rw [if_pos rfl, if_pos (by omega)]
    simp only [putW, List.getElem?_map]
    rw [List.getElem?_range (by omega)]
    simp only [Option.map_some]
    rw [if_pos (by omega), show o + n - 1 - (o + (n - 1 - i)) = i by omega]
  · rw [if_neg hk]
    simp only [putW, List.getElem?_map]
    by_cases hk2 : k < z.length
    · rw [List.getElem?_range hk2]
      simp only [Option.map_some]
      congr 1
      by_cases h1 : o + (n - i) ≤ k ∧ k < o + n
      · rw [if_pos h1, if_pos (by omega)]
      · rw [if_neg h1, if_neg (by omega)]
    · simp [hk2]
theorem putW_n (z : List D) (o n u : Nat) (hz : o + n ≤ z.length) : putW z o n u n = z.take o ++ (putB n u).map dU ++ z.drop (o + n) := by
  refine List.ext_getElem? fun k => ?_
  by_cases h1 : k < o
  · rw [List.append_assoc, List.getElem?_append_left (by simp; omega), List.getElem?_take_of_lt h1]
    simp only [putW, List.getElem?_map]
    rw [List.getElem?_range (by omega)]
    simp only [Option.map_some]
    rw [if_neg (by omega), List.getElem?_eq_getElem (by omega)]
    simp [List.getD, List.getElem?_eq_getElem (show k < z.length by omega)]
  · by_cases h2 : k < o + n
    · rw [List.getElem?_append_left (by simp [putB_len]; omega), List.getElem?_append_right (by simp; omega)]
      simp only [putW, List.getElem?_map, putB]
      rw [List.getElem?_range (by omega)]
      simp only [Option.map_some, List.length_take]
      rw [List.getElem?_range (by omega)]
      simp only [Option.map_some]
      rw [if_pos (by omega)]
      congr 5
      omega
    · rw [List.getElem?_append_right (by simp [putB_len]; omega)]
      simp only [putW, List.getElem?_map, List.length_append, List.length_take, List.length_map, putB_len, List.getElem?_drop]
      by_cases h3 : k < z.length
      · rw [List.getElem?_range h3]
        simp only [Option.map_some]
        rw [if_neg (by omega), show o + n + (k - (min o z.length + n)) = k by omega, List.getElem?_eq_getElem h3]
        simp [List.getD, List.getElem?_eq_getElem h3]
      · rw [List.getElem?_eq_none (by simp; omega), List.getElem?_eq_none (by omega)]
        rfl
/-- A loop: the states are told whole. -/
theorem vc_loopG {P : Program} {cx : Cx} {Q : AE → St → Prop} {σ : St} {b : AC} (X : Type) (st : X → St) (I : X → Prop) (μ : X → Nat) (x0 : X) (h0 : I x0) (hs : Sub cx.B σ (st x0))
    (h : ∀ x, I x → vcX P cx b (seqQ (fun σ' => ∃ x', I x' ∧ μ x' < μ x ∧ Sub cx.B σ' (st x')) Q) (st x)) : vcX P cx (.loop b) Q σ := by
  rw [vcX_eq] at h ⊢
  exact ⟨X, st, I, μ, ⟨x0, h0, hs⟩, h⟩
/-- Things that stay under an identity. -/
inductive HOk : HO → Prop
  | dead : HOk .dead
  | box (ag : Bool) (ds : List D) (h : ∀ d ∈ ds, d.one = true) : HOk (.box ag (ds.map .d))
theorem setH_setH : ∀ (h : List (Nat × HO)) (n : Nat) (x y : HO), setH (setH h n x) n y = setH h n y
  | [], n, x, y => by simp
  | (m, z) :: r, n, x, y => by
    simp only [setH]
    by_cases e : n = m
    · subst e; simp [setH]
    · rw [if_neg e, if_neg e]; simp only [setH]; rw [if_neg e, setH_setH r n x y]
theorem setH_same : ∀ (h : List (Nat × HO)) (n : Nat) (x : HO), AL.look h n = some x → setH h n x = h
  | [], n, x, h => by simp at h
  | (m, z) :: r, n, x, h => by
    simp only [AL.look] at h
    simp only [setH]
    by_cases e : n = m
    · rw [if_pos e] at h ⊢; injection h with h; rw [h]
    · rw [if_neg e] at h ⊢; rw [setH_same r n x h]
theorem mem_setH : ∀ {h : List (Nat × HO)} {n : Nat} {x : HO} {p : Nat × HO}, (doms h).Nodup → p ∈ setH h n x → p = (n, x) ∨ (p ∈ h ∧ p.1 ≠ n)
  | [], n, x, p, _, hp => by simp [setH] at hp; exact .inl hp
  | (m, z) :: r, n, x, p, hd, hp => by
    simp only [setH] at hp
    simp only [doms, List.map_cons, List.nodup_cons] at hd
    by_cases e : n = m
    · rw [if_pos e] at hp
      rcases List.mem_cons.1 hp with h | h
      · exact .inl (by rw [h, e])
      · refine .inr ⟨List.mem_cons_of_mem _ h, fun e2 => hd.1 ?_⟩
        rw [← e, ← e2]
        exact List.mem_map_of_mem h
    · rw [if_neg e] at hp
      rcases List.mem_cons.1 hp with h | h
      · exact .inr ⟨by rw [h]; exact List.mem_cons_self .., by rw [h]; exact fun e2 => e e2.symm⟩
      · rcases mem_setH hd.2 h with h | h
        · exact .inl h
        · exact .inr ⟨List.mem_cons_of_mem _ h.1, h.2⟩
theorem mem_look : ∀ {h : List (Nat × HO)} {n : Nat} {x : HO}, AL.look h n = some x → (n, x) ∈ h
  | [], n, x, hl => by simp at hl
  | (m, z) :: r, n, x, hl => by
    simp only [AL.look] at hl
    by_cases e : n = m
    · rw [if_pos e] at hl; injection hl with hl; rw [hl, e]; exact List.mem_cons_self ..
    · rw [if_neg e] at hl; exact List.mem_cons_of_mem _ (mem_look hl)
theorem doms_setH : ∀ (h : List (Nat × HO)) (n : Nat) (x : HO), AL.look h n ≠ none → doms (setH h n x) = doms h
  | [], n, x, h => by simp at h
  | (m, z) :: r, n, x, h => by
    simp only [AL.look] at h
    simp only [setH]
    by_cases e : n = m
    · rw [if_pos e]; rfl
    · rw [if_neg e] at h ⊢
      have := doms_setH r n x h
      simp only [doms, List.map_cons] at this ⊢
      rw [this]
theorem subH_id {σ : St} {h0 : List (Nat × HO)} : ∀ {l : List (Nat × HO)}, (∀ p ∈ l, AL.look σ.h p.1 = some p.2 ∧ HOk p.2) → subH [] [] σ h0 l
  | [], _ => by simp
  | (n, o) :: r, hl => by
    have h1 := hl (n, o) (List.mem_cons_self ..)
    have h2 := subH_id (σ := σ) (h0 := h0) (l := r) (fun p hp => hl p (List.mem_cons_of_mem _ hp))
    obtain ⟨g1, g2⟩ := h1
    simp only at g1 g2
    cases g2 with
    | dead => simp [subH, h2]
    | box ag ds hd =>
      simp [subH, g1, h2, leL_map]
      exact hd
theorem sub_id {B : Nat} {s s' : List (Nat × Bool × AV)} {h : List (Nat × HO)} (hh : ∀ p ∈ h, AL.look h p.1 = some p.2 ∧ HOk p.2) (hs : subS [] [] ⟨s, h, []⟩ h s') : Sub B ⟨s, h, []⟩ ⟨s', h, []⟩ := by
  refine ⟨[], [], ?_, hs, subH_id hh, ?_, by simp⟩
  · simp [rho, assocN]
    intros; omega
  · simp [rho, assocN]
theorem u8_div (u i : Nat) (hi : i < 8) (hu : u < 18446744073709551616) : shiftV false .u64 (u : Int) (8 * (i : Int)) = .int .u64 ((u / 256 ^ i : Nat) : Int) := by
  have e : min (8 * (i : Int)).toNat IntKind.u64.bits = 8 * i := by simp [IntKind.bits]; omega
  unfold shiftV
  rw [e]
  simp only [Bool.false_eq_true, if_false, Value.int.injEq, true_and]
  rw [Int.fdiv_eq_ediv_of_nonneg _ (Int.pow_nonneg (by omega)), show (256 : Nat) = 2 ^ 8 from rfl, ← Nat.pow_mul]
  simp
theorem dU_conv (v : Nat) : D.lit (.int .u8 (IntKind.u8.wrap (v : Int))) = dU (UInt8.ofNat v) := by rw [conv_u8]; rfl
theorem putW_one (z : List D) (hz : ∀ d ∈ z, d.one = true) (o n u i : Nat) : ∀ d ∈ putW z o n u i, d.one = true := fun d hd => by
  simp only [putW, List.mem_map, List.mem_range] at hd
  obtain ⟨j, hj, rfl⟩ := hd
  split
  · rfl
  · simp only [List.getD, List.getElem?_eq_getElem hj]
    exact hz _ (List.getElem_mem hj)
theorem putH {cx : Cx} (u n o len c : Nat) (hu : u < 18446744073709551616) (z : List D) (hz : ∀ d ∈ z, d.one = true) (h : List (Nat × HO)) (hnd : (doms h).Nodup) (hh : ∀ p ∈ h, AL.look h p.1 = some p.2 ∧ HOk p.2) (hn : AL.look h n = some (.box true (z.map .d)))
    (hl : o + len ≤ z.length) (h8 : len ≤ 8) (K : HOut → List (Nat × HO) → Prop) (hK : K (.ret (.tup [])) (setH h n (.box true ((putW z o len u len).map .d)))) :
    TF Tryd.prog a42 cx [.bsl n o 1 len c, .d (.lit (.int .u64 u))] h K := by
  simp [a42]
  have hlk : ∀ X : HO, AL.look (setH h n X) n = some X := fun X => by rw [look_setH, if_pos rfl]
  have hhX : ∀ (i : Nat), ∀ p ∈ setH h n (.box true ((putW z o len u i).map .d)), AL.look (setH h n (.box true ((putW z o len u i).map .d))) p.1 = some p.2 ∧ HOk p.2 := fun i p hp => by
    rw [look_setH]
    rcases mem_setH hnd hp with rfl | ⟨hp, e⟩
    · exact ⟨by rw [if_pos rfl], .box _ _ (putW_one z hz _ _ _ _)⟩
    · rw [if_neg e]; exact hh p hp
  refine vc_loopG Nat (fun i => ⟨[(7, true, .d (dI i)), (0, true, .bsl n o 1 len c), (1, true, .d (.lit (.int .u64 u))), (6, true, .d (dI len))], setH h n (.box true ((putW z o len u i).map .d)), []⟩) (fun i => i ≤ len) (fun i => len - i) 0 (by omega) ?_ (fun i hi => ?_)
  · rw [putW_0, setH_same _ _ _ hn]
    refine sub_id hh ?_
    have := mem_look hn
    simp
    exact ⟨_, this⟩
  simp
  refine ⟨fun hlt => ?_, fun hge => ?_⟩
  · have e1 : IntKind.i64.wrap (8 * (i : Int)) = 8 * (i : Int) := wrap64 (by omega)
    have e2 : IntKind.i64.wrap (IntKind.i64.wrap ((len : Int) - 1) - (i : Int)) = ((len - 1 - i : Nat) : Int) := by rw [wrap64 (n := (len : Int) - 1) (by omega), wrap64 (by omega)]; omega
    have e3 : IntKind.i64.wrap ((i : Int) + 1) = ((i + 1 : Nat) : Int) := by rw [wrap64 (by omega)]; omega
    simp only [e1, e2, e3, u8_div u i (by omega) hu, hlk]
    simp [dU_conv, hlk, putW_len]
    refine ⟨by omega, by omega, by omega, i + 1, by omega, by omega, ?_⟩
    have e5 : D.lit (.int .u8 (IntKind.u8.wrap ((u : Int) / 256 ^ i))) = dU (UInt8.ofNat (u / 256 ^ i)) := by
      rw [show (u : Int) / 256 ^ i = ((u / 256 ^ i : Nat) : Int) by simp, dU_conv]
    rw [setH_setH, e5, ← List.map_set, show o + (len - 1 - i) = o + (len - 1 - i) from rfl, putW_s z o len u i hlt hl]
    refine sub_id (hhX (i + 1)) ?_
    simp
    exact ⟨_, mem_look (hlk _)⟩
  · have : i = len := by omega
    subst this
    exact hK
end Go.Proofs.YtfegfnekphobmaaDoor
end

section
namespace Go.Proofs.YtfegfnekphobmaaDoor
open Go Go.Proofs.YtfegfnekphobmaaDoor.AL
set_option maxRecDepth 8000
set_option maxHeartbeats 8000000
def s0 : S8 := ⟨0x6a09e667, 0xbb67ae85, 0x3c6ef372, 0xa54ff53a, 0x510e527f, 0x9b05688c, 0x1f83d9ab, 0x5be0cd19⟩
theorem glb0 : glbD 0 = some (.agg (s0.l.map dq)) := rfl
/-- The state after some blocks. -/
def bl (s : S8) (b : List UInt8) : Nat → S8
  | 0 => s
  | i + 1 => compress (bl s b i) ((b.drop (64 * i)).take 64)
/-- The end of a text: what is left, a bit, zeros, the number of bits. -/
def endL (r : List UInt8) (n : Nat) : List UInt8 := r ++ 128 :: List.replicate ((if r.length ≤ 55 then 55 else 119) - r.length) 0 ++ putB 8 (n * 8)
def shaS (b : List UInt8) : S8 := bl (bl s0 b (b.length / 64)) (endL (b.drop (64 * (b.length / 64))) b.length) (if (b.drop (64 * (b.length / 64))).length ≤ 55 then 1 else 2)
def outL (s : S8) : List UInt8 := s.l.flatMap fun x => putB 4 x.toNat
/-- SHA-256. -/
def shaL (b : List UInt8) : List UInt8 := outL (shaS b)
theorem outL_len (s : S8) : (outL s).length = 32 := by simp [outL, S8.l, putB_len]
theorem shaL_len (b : List UInt8) : (shaL b).length = 32 := outL_len _
inductive C314 : FuncId → List D → Out → Prop
  | word (b : List UInt8) (h : 4 ≤ b.length) : C314 53 [dBy b] (.ret (dq (wordQ b)))
  | rot (x : UInt32) (c : Nat) (h1 : 0 < c) (h2 : c < 32) : C314 54 [dq x, dI (-(c : Int))] (.ret (dq (ror x c)))
  | rotd (x : UInt32) (a b c : Nat) (ha : 0 < a ∧ a < 32) (hb : 0 < b ∧ b < 32) (hc : 0 < c ∧ c < 32) : C314 55 [dq x, dI a, dI b, dI c] (.ret (dq (rot3 x a b c)))
theorem h314 : ∀ f ds out, C314 f ds out → PCall Tryd.prog f ds out := by
  intro f ds out h
  cases h with
  | word b h => exact word b h
  | rot x c h1 h2 => exact rotl x c h1 h2
  | rotd x a b c ha hb hc => exact rotated x a b c ha hb hc
theorem a314 : CAbs C314 := ⟨.word, .rot, .rotd⟩
def z32 : List D := List.replicate 32 (.lit (.int .u8 0))
theorem z32_one : ∀ d ∈ z32, d.one = true := fun d hd => by simp [z32] at hd; rw [hd]; rfl
def zrs (n : Nat) : List D := List.replicate n (.lit (.int .u8 0))
theorem zrs_len (n : Nat) : (zrs n).length = n := by simp [zrs, -List.reduceReplicate]
theorem zrs_one (n : Nat) : ∀ d ∈ zrs n, d.one = true := fun d hd => by
  rw [List.eq_of_mem_replicate hd]; rfl
theorem zrs_eq (n : Nat) : List.replicate n (D.lit (.int .u8 0)) = zrs n := rfl
theorem dUs_one (b : List UInt8) : ∀ d ∈ b.map dU, d.one = true := fun d hd => by
  obtain ⟨x, _, rfl⟩ := List.mem_map.1 hd
  rfl
theorem wr_of {es : List D} (h : ∀ d ∈ es, d.one = true) : wr es = es.map .d := by unfold wr; rw [flat_onesD _ h]
def spl (z : List D) (o : Nat) (y : List D) : List D := z.take o ++ y ++ z.drop (o + y.length)
theorem setAt_map : ∀ (y z : List D) (o : Nat), o + y.length ≤ z.length → setAt (z.map AV.d) o (y.map AV.d) = (spl z o y).map AV.d
  | [], z, o, h => by simp [setAt, spl]
  | c :: r, z, o, h => by
    simp only [List.length_cons] at h
    simp only [List.map_cons, setAt, ← List.map_set]
    rw [setAt_map r (z.set o c) (o + 1) (by simp; omega)]
    congr 1
    unfold spl
    rw [List.set_eq_take_append_cons_drop, if_pos (by omega)]
    simp only [List.length_cons]
    rw [List.take_append, List.drop_append]
    simp only [List.length_take]
    rw [Nat.min_eq_left (by omega), show o + 1 - o = 1 by omega, show o + 1 + r.length - o = r.length + 1 by omega]
    simp [List.take_take, List.drop_take]
    rw [show o + (r.length + 1) = o + 1 + r.length by omega, show o - (o + 1 + r.length) = 0 by omega]
    simp
def outA (S : S8) (i : Nat) : List D := ((S.l.take i).flatMap fun x => putB 4 x.toNat).map dU ++ zrs (32 - 4 * i)
theorem outA_0 (S : S8) : outA S 0 = z32 := by simp [outA, zrs, z32]
theorem outA_one (S : S8) (i : Nat) : ∀ d ∈ outA S i, d.one = true := fun d hd => by
  rcases List.mem_append.1 hd with h | h
  · exact dUs_one _ _ h
  · exact zrs_one _ _ h
theorem flat4_len : ∀ l : List UInt32, (l.flatMap fun x => putB 4 x.toNat).length = 4 * l.length
  | [] => rfl
  | x :: r => by simp [List.flatMap_cons, putB_len, flat4_len r]; omega
theorem outA_len (S : S8) (i : Nat) (h : i ≤ 8) : (outA S i).length = 32 := by
  have h8 : S.l.length = 8 := rfl
  simp only [outA, List.length_append, List.length_map, flat4_len, zrs_len, List.length_take, h8]
  omega
theorem outA_s (S : S8) (i : Nat) (h : i < 8) : putW (outA S i) (4 * i) 4 (wat S.l i).toNat 4 = outA S (i + 1) := by
  have h8 : S.l.length = 8 := rfl
  rw [putW_n _ _ _ _ (by rw [outA_len _ _ (by omega)]; omega)]
  have hf : (((S.l.take i).flatMap fun x => putB 4 x.toNat).map dU).length = 4 * i := by
    simp only [List.length_map, flat4_len, List.length_take, h8]; omega
  have hg : S.l.take (i + 1) = S.l.take i ++ [wat S.l i] := by
    rw [List.take_add_one, List.getElem?_eq_getElem (by omega)]
    simp [wat, List.getElem?_eq_getElem (show i < S.l.length by omega)]
  unfold outA
  rw [List.take_append_of_le_length (by omega), List.take_of_length_le (by omega), List.drop_append, hf, List.drop_eq_nil_of_le (by omega), hg]
  simp only [List.flatMap_append, List.flatMap_cons, List.flatMap_nil, List.append_nil, List.map_append, List.nil_append]
  congr 1
  unfold zrs
  rw [List.drop_replicate]
  congr 1
  omega
theorem outA_8 (S : S8) : outA S 8 = (outL S).map dU := by
  have h8 : S.l.take 8 = S.l := rfl
  simp [outA, h8, outL, zrs]
theorem sum (b : List UInt8) (hb : b.length < 1152921504606846976) : PCall Tryd.prog 32 [dBy b] (.ret (.agg ((shaL b).map dU))) := by
  refine pcall_of_vc h314 c32 (by simp [a32]) fun hr => ?_
  simp [a32, glb0, -List.reduceReplicate]
  refine ⟨rfl, ?_⟩
  refine vc_loopG Nat (fun i => ⟨[(5, true, .d (dBy (b.drop (64 * i)))), (4, true, .fn (.func 41) [.ptr 1 0] []), (0, true, .d (dBy b)), (2, true, .ptr 0 0), (3, true, .ptr 1 0)], [(0, .box true (z32.map .d)), (1, .box true (aq (bl s0 b i).l)), (2, .dead)], []⟩) (fun i => 64 * i ≤ b.length) (fun i => b.length - 64 * i) 0 (by omega) ⟨[], [], ?_⟩ (fun i hi => ?_)
  · simp [dBy, bl, z32]
    exact ⟨of_eq_true (leL_aq _ _ _ _ s0.l), aq_one _⟩
  simp [dBy, zrs_eq, -List.reduceReplicate]
  refine ⟨fun hge => ?_, fun hlt => ?_⟩
  · refine regS_path [] ?_
    simp
    refine ⟨by omega, icall_T (TF Tryd.prog a41) (hcall_of_vc c41) ?_⟩
    refine absorbH rfl rfl a314 (bl s0 b i) ((b.drop (64 * i)).take 64) (by simp; omega) z32 z32_one .dead _ (.inl ⟨rfl, by simp [dBy]⟩) _ (fun x3 x4 => ?_)
    have e : List.drop 64 (List.take (b.length - 64 * i) (List.drop (64 * i) (List.map dU b))) = List.drop (64 * (i + 1)) (List.map dU b) := by
      rw [List.take_of_length_le (by simp), List.drop_drop]; rfl
    simp [e]
    refine ⟨by omega, i + 1, by omega, by omega, [], [], ?_⟩
    simp [bl, leL_aq, leL_md]
    exact ⟨z32_one, aq_one _⟩
  · have hlt : b.length - 64 * i < 64 := by omega
    have hq : i = b.length / 64 := by omega
    have hsh : shaS b = bl (bl s0 b i) (endL (b.drop (64 * i)) b.length) (if (b.drop (64 * i)).length ≤ 55 then 1 else 2) := by rw [hq]; rfl
    rw [← List.map_drop]
    generalize hrr : b.drop (64 * i) = r at *
    have hrl : r.length = b.length - 64 * i := by rw [← hrr]; simp
    have hwz : wr (zrs 128) = (zrs 128).map .d := wr_of (zrs_one _)
    have hwr : wr (List.take (min (b.length - 64 * i) 64) (r.map dU)) = (r.map dU).map .d := by
      rw [List.take_of_length_le (by simp; omega), wr_of (dUs_one r)]
    rw [hwz, hwr, setAt_map _ _ _ (by rw [zrs_len]; simp; omega), ← hrl, flat_onesD _ (zrs_one _)]
    simp only [zrs_len, List.length_map]
    generalize hza : (spl (zrs 128) 0 (r.map dU)).set r.length (dU 128) = za
    have hset : ((spl (zrs 128) 0 (r.map dU)).map AV.d).set r.length (.d (.lit (.int .u8 128))) = za.map .d := by
      rw [← hza, List.map_set]; rfl
    rw [← hrl] at hlt
    have hzl : (spl (zrs 128) 0 (r.map dU)).length = 128 := by simp [spl, zrs_len]; omega
    have hzal : za.length = 128 := by rw [← hza, List.length_set, hzl]
    have hza1 : ∀ d ∈ za, d.one = true := fun d hd => by
      rw [← hza] at hd
      rcases List.mem_or_eq_of_mem_set hd with h | h
      · unfold spl at h
        simp only [List.take_zero, List.nil_append, List.mem_append] at h
        rcases h with h | h
        · exact dUs_one _ _ h
        · exact zrs_one _ _ (List.mem_of_mem_drop h)
      · rw [h]; rfl
    have hw1 : IntKind.u64.wrap (b.length : Int) = b.length := wrap_u64 (by omega) (by omega)
    have hw2 : IntKind.u64.wrap ((b.length : Int) * 8) = ((b.length * 8 : Nat) : Int) := by rw [wrap_u64 (by omega) (by omega)]; omega
    have hend : ∀ N : Nat, (r.length ≤ 55 → N = 64) → (55 < r.length → N = 128) → (putW za (N - 8) 8 (b.length * 8) 8).take N = (endL r b.length).map dU := fun N h1 h2 => by
      have hN : N = (if r.length ≤ 55 then 64 else 128) := by split <;> omega
      rw [putW_n _ _ _ _ (by split at hN <;> omega)]
      have hN8 : N - 8 = (if r.length ≤ 55 then 55 else 119) + 1 := by split <;> split at hN <;> omega
      rw [List.take_append_of_le_length (by simp [putB_len, hzal]; split at hN <;> omega), List.take_of_length_le (by simp [putB_len, hzal]; split at hN <;> omega)]
      unfold endL
      rw [List.map_append]
      congr 1
      rw [← hza, hN8]
      generalize hM : (if r.length ≤ 55 then 55 else 119) = M
      have hMr : r.length ≤ M ∧ M + 1 ≤ 128 := by split at hM <;> omega
      refine List.ext_getElem? fun k => ?_
      rw [List.getElem?_take]
      split
      · rw [List.getElem?_set]
        by_cases e1 : r.length = k
        · subst e1
          rw [if_pos rfl, if_pos (by omega)]
          simp
        · rw [if_neg e1]
          unfold spl
          simp only [List.take_zero, List.nil_append]
          rcases Nat.lt_or_ge k r.length with h | h
          · rw [List.getElem?_append_left (by simpa using h), List.map_append, List.getElem?_append_left (by simpa using h)]
          · rw [List.getElem?_append_right (by simpa using h), List.map_append, List.getElem?_append_right (by simpa using h)]
            simp only [List.length_map, Nat.zero_add, List.map_cons]
            obtain ⟨j, hj⟩ : ∃ j, k - r.length = j + 1 := ⟨k - r.length - 1, by omega⟩
            rw [hj, List.getElem?_cons_succ, List.getElem?_drop]
            simp only [zrs, List.map_replicate]
            rw [List.getElem?_replicate, List.getElem?_replicate, if_pos (by omega), if_pos (by omega)]
            rfl
      · rw [List.getElem?_eq_none (by simp; omega)]
    have hpl : ∀ o : Nat, (putW za o 8 (b.length * 8) 8).length = 128 := fun o => by rw [putW_len, hzal]
    refine ⟨by omega, by omega, by rw [hzl]; omega, fun h55 => ?_, fun h55 => ?_⟩
    · have hsh2 : shaS b = bl (bl s0 b i) (endL r b.length) 2 := by rw [hsh]; congr 1; split <;> omega
      have hE := hend 128 (by omega) (by omega)
      have hpo := putW_one za hza1 120 8 (b.length * 8) 8
      have hplP := hpl 120
      refine regS_path [] ?_
      simp [hset, bslV, hw1, hw2, show IntKind.i64.wrap 120 = 120 from rfl]
      refine icall_T (TF Tryd.prog a42) (hcall_of_vc c42) ?_
      refine putH (b.length * 8) _ _ _ _ (by omega) za hza1 _ (by simp) ?_ (by simp) (by omega) (by omega) _ ?_
      · intro p hp
        simp at hp
        rcases hp with rfl | rfl | rfl | rfl
        · exact ⟨by simp, .box _ _ z32_one⟩
        · exact ⟨by simp, .box _ _ (fun d hd => by simp at hd; obtain ⟨x, _, rfl⟩ := hd; rfl)⟩
        · exact ⟨by simp, .dead⟩
        · exact ⟨by simp, .box _ _ hza1⟩
      generalize putW za 120 8 (b.length * 8) 8 = zE at *
      simp
      refine vc_loopG Nat (fun j => ⟨[(6, true, if j = 2 then .d (.sl 1 []) else .bsl 2 (64 * j) 1 (128 - 64 * j) (128 - 64 * j)), (4, true, .fn (.func 41) [.ptr 1 0] []), (2, true, .ptr 0 0), (3, true, .ptr 1 0)], [(0, .box true (z32.map .d)), (1, .box true (aq (bl (bl s0 b i) (endL r b.length) j).l)), (2, .box true (zE.map .d))], []⟩) (fun j => j ≤ 2) (fun j => 2 - j) 0 (by omega) ⟨[(2, 3)], [], ?_⟩ (fun j hj => ?_)
      · simp [bl, leL_aq, leL_md]
        exact ⟨z32_one, aq_one _, hpo⟩
      have hEl : (endL r b.length).length = 128 := by
        have := congrArg List.length hE
        simp [hplP] at this
        omega
      have hEd : ∀ j : Nat, 64 * j + 64 ≤ 128 → (zE.drop (64 * j)).take 64 = (((endL r b.length).drop (64 * j)).take 64).map dU := fun j h => by
        rw [List.map_take, List.map_drop, ← hE, List.drop_take, List.take_take, Nat.min_eq_left (by omega)]
      have hjj : j = 0 ∨ j = 1 ∨ j = 2 := by omega
      rcases hjj with rfl | rfl | rfl
      · simp
        refine regS_path [] ?_
        simp [bslV]
        refine icall_T (TF Tryd.prog a41) (hcall_of_vc c41) ?_
        refine absorbH rfl rfl a314 (bl (bl s0 b i) (endL r b.length) 0) (((endL r b.length).drop (64 * 0)).take 64) (by simp; omega) z32 z32_one _ _ (.inr ⟨zE, 64 * 0, _, rfl, hpo, rfl, hEd 0 (by omega), by omega⟩) _ (fun x3 x4 => ?_)
        simp [bslV]
        refine ⟨1, by omega, by omega, [], [], ?_⟩
        simp [bl, leL_aq, leL_md]
        exact ⟨z32_one, aq_one _, hpo⟩
      · simp
        refine regS_path [] ?_
        simp [bslV]
        refine icall_T (TF Tryd.prog a41) (hcall_of_vc c41) ?_
        refine absorbH rfl rfl a314 (bl (bl s0 b i) (endL r b.length) 1) (((endL r b.length).drop (64 * 1)).take 64) (by simp; omega) z32 z32_one _ _ (.inr ⟨zE, 64 * 1, _, rfl, hpo, rfl, hEd 1 (by omega), by omega⟩) _ (fun x3 x4 => ?_)
        simp [bslV]
        refine ⟨2, by omega, by omega, [], [], ?_⟩
        simp [bl, leL_aq, leL_md]
        exact ⟨z32_one, aq_one _, hpo⟩
      · generalize hS : bl (bl s0 b i) (endL r b.length) 2 = S at hsh2
        have hall : allD ((aq S.l).take 8) = some (S.l.map dq) := by
          rw [List.take_of_length_le (by rw [aq_len]; exact Nat.le_refl 8)]
          exact allD_map _
        simp [hall]
        refine ⟨Nat.le_refl 8, ?_⟩
        refine vc_loopG Nat (fun k => ⟨[(54, true, .d (dI k)), (53, true, .d (.agg (S.l.map dq))), (2, true, .ptr 0 0)], [(0, .box true ((outA S k).map .d)), (1, .box true (aq S.l)), (2, .box true (zE.map .d))], []⟩) (fun k => k ≤ 8) (fun k => 8 - k) 0 (by omega) ⟨[], [], ?_⟩ (fun k hk => ?_)
        · simp [outA_0, leL_aq, leL_md, hall]
          exact ⟨z32_one, aq_one _, hpo⟩
        simp
        refine ⟨fun hlt8 => ?_, fun hge8 => ?_⟩
        · have hlt8 : k < 8 := by omega
          have e1 : IntKind.i64.wrap (4 * (k : Int)) = 4 * (k : Int) := wrap64 (by omega)
          have e2 : IntKind.i64.wrap (4 * (k : Int) + 4) = 4 * (k : Int) + 4 := wrap64 (by omega)
          have e3 : IntKind.i64.wrap ((k : Int) + 1) = ((k + 1 : Nat) : Int) := by rw [wrap64 (by omega)]; omega
          have e4 : ∀ x : UInt32, IntKind.u64.wrap (q x) = (x.toNat : Int) := fun x => by
            have := x.toNat_lt
            exact wrap_u64 (by unfold q; omega) (by unfold q; omega)
          have t1 : (4 * (k : Int) + 4).toNat - 4 * k = 4 := by omega
          have t2 : (4 * (k : Int)).toNat = 4 * k := by omega
          have hg : (S.l)[k]? = some (wat S.l k) := by
            have : S.l.length = 8 := rfl
            unfold wat
            rw [List.getElem?_eq_getElem (by omega)]
            simp [List.getElem?_eq_getElem (show k < S.l.length by omega)]
          have hsl : S.l.length = 8 := rfl
          simp [hg, hsl]
          refine ⟨⟨by omega, by omega⟩, regS_path [] ?_⟩
          simp [e1, e2, e3, e4, t1, t2, bslV, dq]
          refine ⟨⟨by omega, by omega, by omega⟩, ?_⟩
          refine icall_T (TF Tryd.prog a42) (hcall_of_vc c42) ?_
          refine putH (wat S.l k).toNat 0 (4 * k) 4 (32 - 4 * k) (by have := (wat S.l k).toNat_lt; omega) (outA S k) (outA_one S k) _ (by simp) ?_ (by simp) (by rw [outA_len _ _ (by omega)]; omega) (by omega) _ ?_
          · intro p hp
            simp at hp
            rcases hp with rfl | rfl | rfl
            · exact ⟨by simp, .box _ _ (outA_one S k)⟩
            · exact ⟨by simp, .box _ _ (fun d hd => by simp at hd; obtain ⟨x, _, rfl⟩ := hd; rfl)⟩
            · exact ⟨by simp, .box _ _ hpo⟩
          rw [outA_s S k hlt8]
          simp [e3]
          refine ⟨k + 1, by omega, by omega, [], [], ?_⟩
          simp [leL_aq, leL_md]
          exact ⟨outA_one _ _, aq_one _, hpo⟩
        · have hk8 : k = 8 := by omega
          subst hk8
          have hl32 := outA_len S 8 (by omega)
          have hall2 : allD (((outA S 8).map AV.d).take 32) = some (outA S 8) := by
            rw [List.take_of_length_le (by simp [hl32])]
            exact allD_map _
          have hsa : setAt ((outA S 8).map AV.d) 0 ((outA S 8).map AV.d) = (outA S 8).map AV.d := by
            rw [setAt_map _ _ _ (by omega)]
            unfold spl
            rw [List.drop_eq_nil_of_le (by omega)]
            simp
          have hfin : shaL b = outL S := by unfold shaL; rw [hsh2]
          simp [hall2, hsa, hl32]
          rw [hfin, outA_8]
          exact LeD.refl _
    · have hsh2 : shaS b = bl (bl s0 b i) (endL r b.length) 1 := by rw [hsh]; congr 1; split <;> omega
      have hE := hend 64 (by omega) (by omega)
      have hpo := putW_one za hza1 56 8 (b.length * 8) 8
      have hplP := hpl 56
      refine regS_path [] ?_
      simp [hset, bslV, hw1, hw2, show IntKind.i64.wrap 56 = 56 from rfl]
      refine icall_T (TF Tryd.prog a42) (hcall_of_vc c42) ?_
      refine putH (b.length * 8) _ _ _ _ (by omega) za hza1 _ (by simp) ?_ (by simp) (by omega) (by omega) _ ?_
      · intro p hp
        simp at hp
        rcases hp with rfl | rfl | rfl | rfl
        · exact ⟨by simp, .box _ _ z32_one⟩
        · exact ⟨by simp, .box _ _ (fun d hd => by simp at hd; obtain ⟨x, _, rfl⟩ := hd; rfl)⟩
        · exact ⟨by simp, .dead⟩
        · exact ⟨by simp, .box _ _ hza1⟩
      generalize putW za 56 8 (b.length * 8) 8 = zE at *
      simp
      refine vc_loopG Nat (fun j => ⟨[(6, true, if j = 1 then .d (.sl 1 []) else .bsl 2 (64 * j) 1 (64 - 64 * j) (128 - 64 * j)), (4, true, .fn (.func 41) [.ptr 1 0] []), (2, true, .ptr 0 0), (3, true, .ptr 1 0)], [(0, .box true (z32.map .d)), (1, .box true (aq (bl (bl s0 b i) (endL r b.length) j).l)), (2, .box true (zE.map .d))], []⟩) (fun j => j ≤ 1) (fun j => 1 - j) 0 (by omega) ⟨[(2, 3)], [], ?_⟩ (fun j hj => ?_)
      · simp [bl, leL_aq, leL_md]
        exact ⟨z32_one, aq_one _, hpo⟩
      have hEl : (endL r b.length).length = 64 := by
        have := congrArg List.length hE
        simp [hplP] at this
        omega
      have hEd : ∀ j : Nat, 64 * j + 64 ≤ 64 → (zE.drop (64 * j)).take 64 = (((endL r b.length).drop (64 * j)).take 64).map dU := fun j h => by
        rw [List.map_take, List.map_drop, ← hE, List.drop_take, List.take_take, Nat.min_eq_left (by omega)]
      have hjj : j = 0 ∨ j = 1 := by omega
      rcases hjj with rfl | rfl
      · simp
        refine regS_path [] ?_
        simp [bslV]
        refine icall_T (TF Tryd.prog a41) (hcall_of_vc c41) ?_
        refine absorbH rfl rfl a314 (bl (bl s0 b i) (endL r b.length) 0) (((endL r b.length).drop (64 * 0)).take 64) (by simp; omega) z32 z32_one _ _ (.inr ⟨zE, 64 * 0, _, rfl, hpo, rfl, hEd 0 (by omega), by omega⟩) _ (fun x3 x4 => ?_)
        simp [bslV]
        refine ⟨1, by omega, by omega, [], [], ?_⟩
        simp [bl, leL_aq, leL_md]
        exact ⟨z32_one, aq_one _, hpo⟩
      · generalize hS : bl (bl s0 b i) (endL r b.length) 1 = S at hsh2
        have hall : allD ((aq S.l).take 8) = some (S.l.map dq) := by
          rw [List.take_of_length_le (by rw [aq_len]; exact Nat.le_refl 8)]
          exact allD_map _
        simp [hall]
        refine ⟨Nat.le_refl 8, ?_⟩
        refine vc_loopG Nat (fun k => ⟨[(54, true, .d (dI k)), (53, true, .d (.agg (S.l.map dq))), (2, true, .ptr 0 0)], [(0, .box true ((outA S k).map .d)), (1, .box true (aq S.l)), (2, .box true (zE.map .d))], []⟩) (fun k => k ≤ 8) (fun k => 8 - k) 0 (by omega) ⟨[], [], ?_⟩ (fun k hk => ?_)
        · simp [outA_0, leL_aq, leL_md, hall]
          exact ⟨z32_one, aq_one _, hpo⟩
        simp
        refine ⟨fun hlt8 => ?_, fun hge8 => ?_⟩
        · have hlt8 : k < 8 := by omega
          have e1 : IntKind.i64.wrap (4 * (k : Int)) = 4 * (k : Int) := wrap64 (by omega)
          have e2 : IntKind.i64.wrap (4 * (k : Int) + 4) = 4 * (k : Int) + 4 := wrap64 (by omega)
          have e3 : IntKind.i64.wrap ((k : Int) + 1) = ((k + 1 : Nat) : Int) := by rw [wrap64 (by omega)]; omega
          have e4 : ∀ x : UInt32, IntKind.u64.wrap (q x) = (x.toNat : Int) := fun x => by
            have := x.toNat_lt
            exact wrap_u64 (by unfold q; omega) (by unfold q; omega)
          have t1 : (4 * (k : Int) + 4).toNat - 4 * k = 4 := by omega
          have t2 : (4 * (k : Int)).toNat = 4 * k := by omega
          have hg : (S.l)[k]? = some (wat S.l k) := by
            have : S.l.length = 8 := rfl
            unfold wat
            rw [List.getElem?_eq_getElem (by omega)]
            simp [List.getElem?_eq_getElem (show k < S.l.length by omega)]
          have hsl : S.l.length = 8 := rfl
          simp [hg, hsl]
          refine ⟨⟨by omega, by omega⟩, regS_path [] ?_⟩
          simp [e1, e2, e3, e4, t1, t2, bslV, dq]
          refine ⟨⟨by omega, by omega, by omega⟩, ?_⟩
          refine icall_T (TF Tryd.prog a42) (hcall_of_vc c42) ?_
          refine putH (wat S.l k).toNat 0 (4 * k) 4 (32 - 4 * k) (by have := (wat S.l k).toNat_lt; omega) (outA S k) (outA_one S k) _ (by simp) ?_ (by simp) (by rw [outA_len _ _ (by omega)]; omega) (by omega) _ ?_
          · intro p hp
            simp at hp
            rcases hp with rfl | rfl | rfl
            · exact ⟨by simp, .box _ _ (outA_one S k)⟩
            · exact ⟨by simp, .box _ _ (fun d hd => by simp at hd; obtain ⟨x, _, rfl⟩ := hd; rfl)⟩
            · exact ⟨by simp, .box _ _ hpo⟩
          rw [outA_s S k hlt8]
          simp [e3]
          refine ⟨k + 1, by omega, by omega, [], [], ?_⟩
          simp [leL_aq, leL_md]
          exact ⟨outA_one _ _, aq_one _, hpo⟩
        · have hk8 : k = 8 := by omega
          subst hk8
          have hl32 := outA_len S 8 (by omega)
          have hall2 : allD (((outA S 8).map AV.d).take 32) = some (outA S 8) := by
            rw [List.take_of_length_le (by simp [hl32])]
            exact allD_map _
          have hsa : setAt ((outA S 8).map AV.d) 0 ((outA S 8).map AV.d) = (outA S 8).map AV.d := by
            rw [setAt_map _ _ _ (by omega)]
            unfold spl
            rw [List.drop_eq_nil_of_le (by omega)]
            simp
          have hfin : shaL b = outL S := by unfold shaL; rw [hsh2]
          simp [hall2, hsa, hl32]
          rw [hfin, outA_8]
          exact LeD.refl _
end Go.Proofs.YtfegfnekphobmaaDoor
end

section
namespace Go.Proofs.YtfegfnekphobmaaDoor
open Go Go.Proofs.YtfegfnekphobmaaDoor.AL
theorem dBy_cells (l : List UInt8) : (dBy l).cells = [dBy l] := rfl
theorem dBy_one (l : List UInt8) : (dBy l).one = true := rfl
theorem dBy_agg (l : List UInt8) : (dBy l).isAgg = false := rfl
theorem dBy_noTup (l : List UInt8) : (AV.d (dBy l)).noTup = true := rfl
theorem dBy_nt (l : List UInt8) (ds : List D) : (dBy l = .tup ds) = False := by simp [dBy]
attribute [local simp] dBy_cells dBy_one dBy_agg dBy_noTup dBy_nt
def catB (ls : List (List UInt8)) (k : Nat) : List UInt8 := (ls.take k).flatten
theorem catB_zero (ls : List (List UInt8)) : catB ls 0 = [] := by simp [catB]
theorem catB_succ {ls : List (List UInt8)} {k : Nat} (h : k < ls.length) : catB ls (k + 1) = catB ls k ++ ls[k] := by
  unfold catB
  have : ls.take (k + 1) = ls.take k ++ [ls[k]] := by rw [List.take_add_one, List.getElem?_eq_getElem h]; rfl
  rw [this, List.flatten_append]; simp
theorem catB_le (ls : List (List UInt8)) (k : Nat) : (catB ls k).length ≤ (catB ls ls.length).length := by
  unfold catB
  rw [List.take_length]
  conv => rhs; rw [← List.take_append_drop k ls]
  rw [List.flatten_append, List.length_append]; omega
theorem catB_all (ls : List (List UInt8)) : catB ls ls.length = ls.flatten := by unfold catB; rw [List.take_length]
set_option maxRecDepth 8000 in
theorem concatB (ls : List (List UInt8)) (hb : (catB ls ls.length).length ≤ 100000000000) : PCall Tryd.prog 33 [.sl 1 (ls.map dBy)] (.ret (dBy (catB ls ls.length))) := by
  refine pcall_of_vc noC c33 (by simp [a33]) fun hr => ?_
  have hlen := (hr (.sl 1 (ls.map dBy)) (by simp)).sl.1
  simp at hlen
  simp [a33]
  refine vc_loopK [0, 2, 9, 10] Nat (fun k => [(11, true, .d (dI k)), (3, true, .d (dI (((catB ls k).length : Nat) : Int)))]) (fun k => []) (fun k => k ≤ ls.length) (fun k => ls.length - k) 0 (by simp) ⟨[], [], ?_⟩ (fun k h1 => ?_)
  · simp [catB_zero]
  simp
  refine ⟨fun hlt => ?_, fun hge => ?_⟩
  · simp [hlt, dBy]
    have hs := catB_succ hlt
    have hl : (catB ls (k + 1)).length = (catB ls k).length + ls[k].length := by rw [hs, List.length_append]
    have hle := catB_le ls (k + 1)
    rw [wrap64 (n := ((catB ls k).length : Int) + ls[k].length) (by omega)]
    refine ⟨fun hneg => by omega, fun _ => ⟨k + 1, by omega, by omega, [], [], ?_⟩⟩
    rw [wrap64 (by omega), hl]
    simp
  · have hk : k = ls.length := by omega
    subst hk
    refine regS_path [] ?_
    simp
    refine icall_T (TF Tryd.prog a43) (hcall_of_vc c43) ?_
    simp [a43]
    refine ⟨fun hneg => absurd hneg (by omega), ?_⟩
    have w0 : IntKind.i64.wrap 0 = 0 := wrap64 (by omega)
    have w1 : IntKind.i64.wrap ((catB ls ls.length).length : Int) = (catB ls ls.length).length := wrap64 (by omega)
    simp [w0, w1]
    have hc0 : ∀ x : Nat, x < 0 → False := fun x h => by omega
    refine ⟨fun hp => ⟨by omega, ?_⟩, fun hz => ?_⟩
    all_goals
      refine vc_loopK [0, 25, 26] Nat (fun k => [(27, true, .d (dI k)), (6, true, .own 0 1 ((catB ls k).map dU))]) (fun k => [(0, .row)]) (fun k => k ≤ ls.length) (fun k => ls.length - k) 0 (by simp) (by first | (refine ⟨[], [], ?_⟩; simp [catB_zero]; done) | (refine ⟨[], [(0, 1)], ?_⟩; simp [catB_zero]; done)) (fun k h1 => ?_)
      simp
      refine ⟨fun hlt => ?_, fun hge => ?_⟩
      · simp [hlt, dBy]
        have hs := catB_succ hlt
        have hl : (catB ls (k + 1)).length = (catB ls k).length + ls[k].length := by rw [hs, List.length_append]
        have hle := catB_le ls (k + 1)
        refine ⟨⟨by omega, by omega⟩, k + 1, by omega, by omega, [(0, 1)], [], ?_⟩
        rw [wrap64 (by omega)]
        simp [hs]
      · have hk : k = ls.length := by omega
        subst hk
        simp [dBy]
        done
end Go.Proofs.YtfegfnekphobmaaDoor
end

section
namespace Go.Proofs.YtfegfnekphobmaaDoor
open Go Go.Proofs.YtfegfnekphobmaaDoor.AL Go.RowKit Go.Lib
theorem cl_uB : Tryd.prog.underlying 23 = some (.slice 5) := by kernel_rfl
theorem cl_i5 : (Tryd.prog.info? 5).map (fun i => (i.zero, i.size, i.bytes)) = some (some (.int .u8 0), 1, 1) := by kernel_rfl
theorem cl_mixed : Tryd.prog.follows .mixedOrders = true := by kernel_rfl
set_option maxHeartbeats 4000000 in
set_option maxRecDepth 100000 in
theorem clone_any (A : Addr) (n c : Nat) (bs : List Int) (w : World) (hn : bs.length = n) (hbytes : n ≤ 140737488355328) (hc : ∀ j, j < n → w.cell? (A.add j) = some (.int .u8 (bs.getD j 0))) :
    Calls Tryd.prog 20 #[.slice (some A) n c] w fun e w' => ∃ v, e = .returned v ∧ w'.ownsRow w.heap.size 5 1 v n (bs.map (Value.int .u8)) ∧ Below w.heap.size w w' ∧ v ≠ .slice none 0 0 := by
  have mixed := cl_mixed
  obtain ⟨i0, hi, hz0, hz1, hz2⟩ := info_parts cl_i5
  have hown0 : (w.alloc (.cells #[] 5)).ownsRow w.heap.size 5 1 (.slice (some ⟨w.heap.size, 0, none⟩) 0 0) 0 [] :=
    ⟨rfl, .inr ⟨w.heap.size, 0, #[], rfl, Nat.le_refl _, by show (w.heap.push _)[w.heap.size]? = _; simp, Nat.le_refl _, by unfold maxLen; omega, rfl, rfl⟩⟩
  have he : ∀ w : World, (binOp .eql 23 (.slice (some A) n c) (.slice none 0 0)).run Tryd.prog w = .ok (.bool false) w := fun _ => rfl
  go_enter Tryd.func20, Tryd.ntmps20
  go_wp2_with (first
    | (at_builtin; refine wpList_append_own _ rfl (.tmp 5) (.tmp 6) 23 rfl w.heap.size 5 i0 (.int .u8 0) 1 1 cl_uB hi hz0 hz1 hz2 rfl (by decide) _ _ _ rfl hown0 A n c (bs.map (Value.int .u8)) rfl (by simp [hn]) ?c1 (ints_oneCell .u8 bs) (by unfold maxLen; omega) (by omega) (by simp) ?_))
  case c1 =>
    intro j u hu
    have hj : j < n := by
      have := (List.getElem?_eq_some_iff.1 hu).1
      simpa [hn] using this
    have hb : (A.add j).block < w.heap.size := World.block_lt_of_cell? _ _ (hc j hj)
    rw [((Below.refl w.heap.size w).alloc (Nat.le_refl _) _).cell hb, hc j hj]
    have e : (bs.map (Value.int .u8))[j]? = some (.int .u8 (bs.getD j 0)) := by simp [List.getD, show j < bs.length by omega]
    rw [e] at hu
    exact hu
  intro v' w1 hown' hgrow hnil
  go_wp2
  go_ret
  exact ⟨_, rfl, by simpa using hown', ((Below.refl _ _).alloc (Nat.le_refl _) _).grown hgrow (by simp) (fun k hk => by simp [Value.ownBlock] at hk; omega), by simpa using hnil⟩
set_option maxHeartbeats 4000000 in
theorem clone_nil (n c : Nat) (w : World) : Calls Tryd.prog 20 #[.slice none n c] w fun e w' => e = .returned (.slice none 0 0) ∧ w' = w := by
  have mixed := cl_mixed
  have he : ∀ w : World, (binOp .eql 23 (.slice none n c) (.slice none 0 0)).run Tryd.prog w = .ok (.bool true) w := fun _ => rfl
  go_enter Tryd.func20, Tryd.ntmps20
  go_wp2
  go_ret
  exact ⟨rfl, rfl⟩
/-- bytes.Clone on data. -/
theorem bytesClone (b : List UInt8) (hb : b.length ≤ 140737488355328) : PCall Tryd.prog 20 [.sl 1 (b.map dU)] (.ret (.sl 1 (b.map dU))) := by
  refine ⟨⟨_, Tryd.func20, by decide, rfl⟩, fun I w vals hI hgl hr => ?_⟩
  obtain ⟨v, rfl⟩ : ∃ v, vals = #[v] := by
    have := hr.1
    match vals, this with
    | ⟨[v]⟩, _ => exact ⟨v, rfl⟩
  have hv := hr.2 0 _ v rfl rfl
  have hfl : D.flat (b.map dU) = b.map dU := flat_onesD _ (fun d hd => by obtain ⟨x, _, rfl⟩ := List.mem_map.1 hd; rfl)
  obtain ⟨n, A, cap, ad, vs, rfl, hn, hc, hm, hA, hz, h1, hcell, hrep⟩ := hv.sl_inv
  rw [hfl] at hcell hrep
  simp only [List.length_map] at hn
  subst hn
  cases A with
  | none =>
    have hb0 : b = [] := by
      rcases hA with h | h
      · cases h
      · simpa using h
    subst hb0
    refine (clone_nil _ _ w).mono fun e w' h => ?_
    obtain ⟨rfl, rfl⟩ := h
    exact ⟨I, _, fun _ h => h, fun _ h => .inl h, hI, Grow.refl _, rfl, LeD.nil 1 _ _ _ .nil⟩
  | some A =>
    have hAad : b ≠ [] → A = ad := fun hne => by
      rcases hA with h | h
      · injection h
      · exact absurd (by simpa using h) hne
    have hcl : ∀ j, j < b.length → w.cell? (A.add j) = some (.int .u8 ((b.map fun x => (x.toNat : Int)).getD j 0)) := fun j hj => by
      have hne : b ≠ [] := fun h => by rw [h] at hj; simp at hj
      rw [hAad hne]
      have hg : (b.map dU)[j]? = some (dU b[j]) := by simp [hj]
      rw [(hcell j _ hg).2]
      have h3 := hrep j _ hg
      generalize vs j = u at h3
      cases h3
      simp [List.getD, hj]
    refine (clone_any A b.length cap (b.map fun x => (x.toNat : Int)) w (by simp) hb hcl).mono fun e w' h => ?_
    obtain ⟨v, rfl, hown, hbel, hnn⟩ := h
    obtain ⟨_, hown⟩ := hown
    rcases hown with ⟨hvn, _⟩ | ⟨g, cap', cur, rfl, hg1, hg2, hg3, hg4, hg5, hg6⟩
    · exact absurd hvn hnn
    have hgrow : Grow w w' := ⟨hbel.os, hbel.tape, hbel.output, hbel.size, hbel.block⟩
    have hcw : ∀ k, w'.cell? ⟨g, k, none⟩ = cur[k]? := fun k => cell_of_row w' g k cur _ (0, 0) hg2
    have hcu : ∀ k (hk : k < b.length), cur[k]? = some (.int .u8 (b[k].toNat : Int)) := fun k hk => by
      have := congrArg (fun l => l[k]?) hg6
      simp only [List.getElem?_take] at this
      rw [if_pos (by omega)] at this
      simp [hk] at this
      simpa using this
    refine ⟨fun a => I a ∨ (a.block = g ∧ a.spot = none ∧ a.off < b.length), _, fun _ h => .inl h, fun a h => ?_, fun a h => ?_, hgrow, rfl, ?_⟩
    · rcases h with h | h
      · exact .inl h
      · exact .inr (by omega)
    · rcases h with h | ⟨h2, h3, h4⟩
      · obtain ⟨x, hx⟩ := Option.isSome_iff_exists.1 (hI a h)
        rw [hgrow.cell (World.block_lt_of_cell? w a hx)]; exact hI a h
      · have ea : a = ⟨g, a.off, none⟩ := by cases a; simp_all
        rw [ea, hcw, hcu _ h4]; rfl
    · refine .sl ⟨g, 0, none⟩ (fun k => (cur[k]?).getD undef) (by simp) hg3 (by unfold maxLen at hg4; exact hg4) (.inl rfl) hz h1 (fun k c hk => ?_) (fun k c hk => ?_)
      · rw [hfl] at hk
        have hkl : k < b.length := by have := (List.getElem?_eq_some_iff.1 hk).1; simpa using this
        rw [add_mk, Nat.zero_add]
        exact ⟨.inr ⟨rfl, rfl, hkl⟩, by rw [hcw, hcu k hkl]; rfl⟩
      · rw [hfl] at hk
        have hkl : k < b.length := by have := (List.getElem?_eq_some_iff.1 hk).1; simpa using this
        simp [hkl] at hk
        subst hk
        rw [hcu k hkl]
        exact .lit (by have := b[k].toNat_lt; simp [Sc, IntKind.min, IntKind.max, IntKind.bits, IntKind.signed]; omega)
end Go.Proofs.YtfegfnekphobmaaDoor
end

section
namespace Go.Proofs.YtfegfnekphobmaaDoor
open Go Go.Proofs.YtfegfnekphobmaaDoor.AL
/-- A whole write. -/
theorem setAt_all (cs news : List AV) (h : news.length = cs.length) : setAt cs 0 news = news := by
  apply List.ext_getElem?
  intro i
  rw [get_setAt]
  simp only [Nat.zero_le, true_and, Nat.zero_add, Nat.sub_zero]
  split
  · rfl
  · rw [List.getElem?_eq_none (by omega), List.getElem?_eq_none (by omega)]
theorem setAt_all2 (a b : AV) (cs news : List AV) (h : news.length = cs.length) : setAt (a :: b :: cs) 2 news = a :: b :: news := by
  have := setAt_all (a :: b :: cs) (a :: b :: news) (by simp [h])
  apply List.ext_getElem?
  intro i
  rw [get_setAt]
  rcases i with _ | _ | i
  · simp
  · simp
  · simp only [List.length_cons, List.getElem?_cons_succ]
    split
    · rfl
    · rw [List.getElem?_eq_none (by omega), List.getElem?_eq_none (by omega)]
theorem allD1_lk (p : List UInt8) (d : List UInt8) : allD1 (p.map (AV.d ∘ dU) ++ [AV.d (dBy d)]) = some (p.map dU ++ [dBy d]) := by
  induction p with
  | nil => rfl
  | cons a r ih => simp [allD1, ih, AV.toD1]
theorem setAt_mid (x y w : AV) (p : List AV) (h : p.length = 32) : setAt (x :: y :: (List.replicate 32 (AV.d (D.lit (Value.int IntKind.u8 0))) ++ [w])) 2 p = x :: y :: (p ++ [w]) := by
  apply List.ext_getElem?
  intro i
  rw [get_setAt]
  rcases i with _ | _ | i
  · simp
  · simp
  · simp only [List.length_cons, List.getElem?_cons_succ, List.length_append, List.length_replicate, List.length_nil]
    split
    · rw [List.getElem?_append_left (by omega)]; congr 1
    · rw [List.getElem?_append_right (by simp; omega), List.getElem?_append_right (by omega)]; simp [h]
theorem setAt_midL (x y w : AV) (p : List AV) (h : p.length = 32) : setAt [x, y, AV.d (D.lit (Value.int IntKind.u8 0)), AV.d (D.lit (Value.int IntKind.u8 0)), AV.d (D.lit (Value.int IntKind.u8 0)), AV.d (D.lit (Value.int IntKind.u8 0)), AV.d (D.lit (Value.int IntKind.u8 0)), AV.d (D.lit (Value.int IntKind.u8 0)), AV.d (D.lit (Value.int IntKind.u8 0)), AV.d (D.lit (Value.int IntKind.u8 0)), AV.d (D.lit (Value.int IntKind.u8 0)), AV.d (D.lit (Value.int IntKind.u8 0)), AV.d (D.lit (Value.int IntKind.u8 0)), AV.d (D.lit (Value.int IntKind.u8 0)), AV.d (D.lit (Value.int IntKind.u8 0)), AV.d (D.lit (Value.int IntKind.u8 0)), AV.d (D.lit (Value.int IntKind.u8 0)), AV.d (D.lit (Value.int IntKind.u8 0)), AV.d (D.lit (Value.int IntKind.u8 0)), AV.d (D.lit (Value.int IntKind.u8 0)), AV.d (D.lit (Value.int IntKind.u8 0)), AV.d (D.lit (Value.int IntKind.u8 0)), AV.d (D.lit (Value.int IntKind.u8 0)), AV.d (D.lit (Value.int IntKind.u8 0)), AV.d (D.lit (Value.int IntKind.u8 0)), AV.d (D.lit (Value.int IntKind.u8 0)), AV.d (D.lit (Value.int IntKind.u8 0)), AV.d (D.lit (Value.int IntKind.u8 0)), AV.d (D.lit (Value.int IntKind.u8 0)), AV.d (D.lit (Value.int IntKind.u8 0)), AV.d (D.lit (Value.int IntKind.u8 0)), AV.d (D.lit (Value.int IntKind.u8 0)), AV.d (D.lit (Value.int IntKind.u8 0)), AV.d (D.lit (Value.int IntKind.u8 0)), w] 2 p = x :: y :: (p ++ [w]) := setAt_mid x y w p h
theorem setAt_end (x y w v : AV) (p : List AV) (h : p.length = 32) : setAt (x :: y :: (p ++ [w])) 34 [v] = x :: y :: (p ++ [v]) := by
  apply List.ext_getElem?
  intro i
  rw [get_setAt]
  rcases i with _ | _ | i
  · simp
  · simp
  · simp only [List.length_cons, List.getElem?_cons_succ, List.length_append, List.length_nil]
    split
    · rw [List.getElem?_append_right (by omega)]; congr 1; omega
    · by_cases hi : i < 32
      · rw [List.getElem?_append_left (by omega), List.getElem?_append_left (by omega)]
      · rw [List.getElem?_append_right (by omega), List.getElem?_append_right (by omega), List.getElem?_eq_none (by simp; omega), List.getElem?_eq_none (by simp; omega)]
theorem allD_lk (p : List UInt8) (d : List UInt8) : allD (p.map (AV.d ∘ dU) ++ [AV.d (dBy d)]) = some (p.map dU ++ [dBy d]) := by
  induction p with
  | nil => rfl
  | cons a r ih => simp [allD, ih]
theorem take_lk (p : List UInt8) (d : AV) (h : p.length = 32) : List.take 33 (p.map (AV.d ∘ dU) ++ [d]) = p.map (AV.d ∘ dU) ++ [d] := List.take_of_length_le (by simp [h])
theorem elsD_lk (p : List UInt8) (d : D) (h : p.length = 32) : elsD 1 32 (p.map dU ++ [d]) = p.map dU := by
  unfold elsD
  rw [if_pos rfl, List.take_left' (by simp [h])]
theorem leL_lk (ρ : Nat → Nat) (N : Nat → Option Nat) (ok : Nat → Bool) (k : Nat) (p : List UInt8) (d : D) : leA.leL ρ N ok k (p.map (AV.d ∘ dU) ++ [AV.d d]) (p.map (AV.d ∘ dU) ++ [AV.d d]) = True := by
  have : p.map (AV.d ∘ dU) ++ [AV.d d] = (p.map dU ++ [d]).map AV.d := by simp
  rw [this]; exact eq_true (leL_map ρ N ok k _)
theorem lk_ones {p : List UInt8} {d : List UInt8} : (∀ a : AV, (∃ a1, a1 ∈ p ∧ AV.d (dU a1) = a) ∨ a = AV.d (dBy d) → a.one = true) = True := eq_true (by
  rintro a (⟨a1, _, rfl⟩ | rfl) <;> rfl)
theorem lk_at (a b : AV) (p : List UInt8) (d : AV) (k : Nat) (h : k < p.length) : (a :: b :: (p.map (AV.d ∘ dU) ++ [d]))[2 + k]?.getD default = AV.d (dU p[k]) := by
  rw [Nat.add_comm]
  simp [List.getElem?_append_left, h]
theorem eqC_dUn : ∀ (n : Nat) (a b : List UInt8), a.length = n → b.length = n → eqC (List.replicate n (SK.int IntKind.u8)) (a.map dU) (b.map dU) = True
  | 0, [], [], _, _ => rfl
  | n + 1, x :: a, y :: b, h1, h2 => by
    simp only [List.replicate_succ, List.map_cons, dU, eqC_int, true_and]
    exact eqC_dUn n a b (by simpa using h1) (by simpa using h2)
theorem eqC_dU {a b : List UInt8} (h1 : a.length = 32) (h2 : b.length = 32) : eqC [SK.int IntKind.u8, SK.int IntKind.u8, SK.int IntKind.u8, SK.int IntKind.u8, SK.int IntKind.u8, SK.int IntKind.u8, SK.int IntKind.u8, SK.int IntKind.u8, SK.int IntKind.u8, SK.int IntKind.u8, SK.int IntKind.u8, SK.int IntKind.u8, SK.int IntKind.u8, SK.int IntKind.u8, SK.int IntKind.u8, SK.int IntKind.u8, SK.int IntKind.u8, SK.int IntKind.u8, SK.int IntKind.u8, SK.int IntKind.u8, SK.int IntKind.u8, SK.int IntKind.u8, SK.int IntKind.u8, SK.int IntKind.u8, SK.int IntKind.u8, SK.int IntKind.u8, SK.int IntKind.u8, SK.int IntKind.u8, SK.int IntKind.u8, SK.int IntKind.u8, SK.int IntKind.u8, SK.int IntKind.u8] (a.map dU) (b.map dU) = True := eqC_dUn 32 a b h1 h2
theorem eqB_dU : ∀ (a b : List UInt8), a.length = b.length → eqB (a.map dU) (b.map dU) = decide (a = b)
  | [], [], _ => rfl
  | x :: a, y :: b, h => by
    simp only [List.map_cons, dU, eqB_int]
    have ih := eqB_dU a b (by simpa using h)
    rw [ih]
    have : ((x.toNat : Int) == (y.toNat : Int)) = decide (x = y) := by
      by_cases hx : x = y
      · simp [hx]
      · have : x.toNat ≠ y.toNat := fun q => hx (UInt8.toNat_inj.1 q)
        simp [hx]
        omega
    rw [this]
    simp [Bool.decide_and]
theorem allD_dU (A : List UInt8) : allD (A.map (AV.d ∘ dU)) = some (A.map dU) := by
  induction A with
  | nil => rfl
  | cons a r ih => simp [allD, ih]
/-- A link. -/
structure Lk where
  n : Int
  o : Int
  p : List UInt8
  d : List UInt8
  hp : p.length = 32
  hn : -9223372036854775808 ≤ n ∧ n < 9223372036854775808
  ho : -9223372036854775808 ≤ o ∧ o < 9223372036854775808
  deriving DecidableEq
theorem Lk.ext {x y : Lk} (h1 : x.n = y.n) (h2 : x.o = y.o) (h3 : x.p = y.p) (h4 : x.d = y.d) : x = y := by
  cases x; cases y; simp_all
def dLk (x : Lk) : D := .agg (dI x.n :: dI x.o :: (x.p.map dU ++ [dBy x.d]))
def tagL (t b : List UInt8) : List UInt8 := shaL (shaL t ++ b)
theorem tagL_len (t b : List UInt8) : (tagL t b).length = 32 := shaL_len _
def nV (n : Int) : Vl := .mk 1 n [] []
def tV (b : List UInt8) : Vl := .mk 2 0 b []
def lV (l : List Vl) : Vl := .mk 3 0 [] l
def linkV (x : Lk) : Vl := lV [nV x.n, nV x.o, tV x.p, tV x.d]
def headL (l : List Lk) : List UInt8 := match l.getLast? with
  | none => tagL [110, 111, 110, 101] []
  | some x => tagL [108, 105, 110, 107] (encV (linkV x))
theorem headL_len (l : List Lk) : (headL l).length = 32 := by unfold headL; split <;> exact tagL_len _ _
theorem zz_ltP (n : Int) (h : -9223372036854775808 ≤ n ∧ n < 9223372036854775808) : zz n < 128 ^ 10 := by
  unfold zz; split <;> omega
theorem zz_inj {a b : Int} (h : zz a = zz b) : a = b := by
  unfold zz at h; split at h <;> split at h <;> omega
theorem numL_le : ∀ u : Nat, (numL u).length ≤ u + 1 := by
  intro u
  induction u using Nat.strongRecOn with
  | _ u ih =>
    rw [numL]
    split
    · simp
    · have := ih (u / 128) (by omega)
      simp; omega
theorem numL_pre : ∀ (u v : Nat) (r s : List UInt8), numL u ++ r = numL v ++ s → u = v ∧ r = s := by
  intro u
  induction u using Nat.strongRecOn with
  | _ u ih =>
    intro v r s h
    rw [numL, numL.eq_1 v] at h
    by_cases hu : u < 128 <;> by_cases hv : v < 128
    · rw [if_pos hu, if_pos hv] at h
      simp only [List.singleton_append, List.cons.injEq] at h
      have := congrArg UInt8.toNat h.1
      simp [UInt8.toNat_ofNat'] at this
      exact ⟨by omega, h.2⟩
    · rw [if_pos hu, if_neg hv] at h
      simp only [List.singleton_append, List.cons_append, List.cons.injEq] at h
      have := congrArg UInt8.toNat h.1
      simp [UInt8.toNat_ofNat'] at this
      omega
    · rw [if_neg hu, if_pos hv] at h
      simp only [List.singleton_append, List.cons_append, List.cons.injEq] at h
      have := congrArg UInt8.toNat h.1
      simp [UInt8.toNat_ofNat'] at this
      omega
    · rw [if_neg hu, if_neg hv] at h
      simp only [List.cons_append, List.cons.injEq] at h
      have h1 := congrArg UInt8.toNat h.1
      simp [UInt8.toNat_ofNat'] at h1
      obtain ⟨h2, h3⟩ := ih (u / 128) (by omega) _ _ _ h.2
      exact ⟨by omega, h3⟩
theorem encV_linkV_eq (x : Lk) : encV (linkV x) = 3 :: (numL 4 ++ (1 :: (numL (zz x.n) ++ (1 :: (numL (zz x.o) ++ (2 :: (numL x.p.length ++ (x.p ++ (2 :: (numL x.d.length ++ x.d)))))))))) := by
  simp [linkV, lV, nV, tV, encV, encVs]
theorem encV_linkV (x : Lk) : (encV (linkV x)).length ≤ 2 * x.d.length + 200 := by
  have h1 := numL_length 10 (zz x.n) (zz_ltP _ x.hn) (by omega)
  have h2 := numL_length 10 (zz x.o) (zz_ltP _ x.ho) (by omega)
  have h3 := numL_le x.p.length
  have h4 := numL_length 1 4 (by omega) (by omega)
  have h5 : (numL x.d.length).length ≤ x.d.length + 1 := numL_le _
  have hp := x.hp
  rw [encV_linkV_eq]
  simp only [List.length_cons, List.length_append]
  omega
theorem encV_inj {x y : Lk} (h : encV (linkV x) = encV (linkV y)) : x = y := by
  rw [encV_linkV_eq, encV_linkV_eq] at h
  simp only [List.cons.injEq, true_and] at h
  obtain ⟨-, h⟩ := numL_pre _ _ _ _ h
  simp only [List.cons.injEq, true_and] at h
  obtain ⟨hn, h⟩ := numL_pre _ _ _ _ h
  simp only [List.cons.injEq, true_and] at h
  obtain ⟨ho, h⟩ := numL_pre _ _ _ _ h
  simp only [List.cons.injEq, true_and] at h
  obtain ⟨hp, h⟩ := numL_pre _ _ _ _ h
  obtain ⟨hp', h⟩ := List.append_inj h hp
  simp only [List.cons.injEq, true_and] at h
  obtain ⟨-, hd⟩ := numL_pre _ _ _ _ h
  exact Lk.ext (zz_inj hn) (zz_inj ho) hp' hd
theorem okV_linkV (x : Lk) : eV (linkV x) = 0 := by
  simp [eV, linkV, lV, nV, tV, okV, okVs, dpV, dpVs]
theorem dpV_linkV (x : Lk) : dpV (linkV x) = 1 := by
  simp [linkV, lV, nV, tV, dpV, dpVs]
theorem encR_linkV (x : Lk) : encR (linkV x) = .tup [dBy (encV (linkV x)), dI 0] := by
  unfold encR; rw [if_pos (okV_linkV x)]
/-! The checks of a list of links. -/
def n0 (l : List Lk) : Int := match l.head? with | none => 0 | some x => x.n
def okAt (l : List Lk) (i : Nat) : Bool := match l[i]? with
  | none => true
  | some x => decide (x.n = n0 l) && decide (0 ≤ x.n) && decide (x.n < 24) && decide (x.o = i) && decide (x.d.length ≤ 65536) && decide (x.p = headL (l.take i))
def allOk (l : List Lk) (k : Nat) : Bool := (List.range k).all (okAt l)
def ckE (l : List Lk) : Int := if 1024 < l.length then 2 else if allOk l l.length = true then 0 else 80
theorem allOk_zero (l : List Lk) : allOk l 0 = true := by simp [allOk]
theorem allOk_succ (l : List Lk) (k : Nat) : allOk l (k + 1) = (allOk l k && okAt l k) := by simp [allOk, List.range_succ]
theorem allOk_false {l : List Lk} {k : Nat} (h : okAt l k = false) (hk : k < l.length) : allOk l l.length = false := by
  unfold allOk
  rw [List.all_eq_false]
  exact ⟨k, by simp [hk], by simp [h]⟩
theorem ckE_ok {l : List Lk} (h : ckE l = 0) : l.length ≤ 1024 ∧ ∀ i, okAt l i = true := by
  unfold ckE at h
  split at h
  · omega
  · split at h
    · rename_i h1 h2
      refine ⟨by omega, fun i => ?_⟩
      rcases Nat.lt_or_ge i l.length with hi | hi
      · unfold allOk at h2
        rw [List.all_eq_true] at h2
        exact h2 i (by simp [hi])
      · unfold okAt; rw [List.getElem?_eq_none hi]
    · omega
theorem ckE_of {l : List Lk} (h1 : l.length ≤ 1024) (h2 : ∀ i, i < l.length → okAt l i = true) : ckE l = 0 := by
  unfold ckE
  rw [if_neg (by omega), if_pos]
  unfold allOk
  rw [List.all_eq_true]
  intro i hi
  exact h2 i (by simpa using hi)
theorem n0_take (l : List Lk) (k : Nat) (h : 0 < k) : n0 (l.take k) = n0 l := by
  cases l with
  | nil => simp
  | cons x r => cases k with
    | zero => omega
    | succ k => simp [n0]
theorem okAt_take {l : List Lk} {i k : Nat} (h : i < k) : okAt (l.take k) i = okAt l i := by
  unfold okAt
  rw [List.getElem?_take_of_lt h, n0_take _ _ (by omega), List.take_take, Nat.min_eq_left (by omega)]
theorem ckE_take {l : List Lk} (h : ckE l = 0) (k : Nat) : ckE (l.take k) = 0 := by
  obtain ⟨h1, h2⟩ := ckE_ok h
  refine ckE_of (by simp; omega) (fun i hi => ?_)
  simp at hi
  rw [okAt_take (by omega)]
  exact h2 i
theorem okAt_p {l : List Lk} (h : ckE l = 0) {i : Nat} (hi : i < l.length) : l[i].p = headL (l.take i) := by
  have h2 := (ckE_ok h).2 i
  unfold okAt at h2
  rw [List.getElem?_eq_getElem hi] at h2
  simp at h2
  exact h2.2
/-! Texts, clashes. -/
def textL (l : List Lk) : List UInt8 × List UInt8 := match l.getLast? with
  | none => ([110, 111, 110, 101], [])
  | some x => ([108, 105, 110, 107], encV (linkV x))
theorem headL_text (l : List Lk) : headL l = tagL (textL l).1 (textL l).2 := by
  unfold headL textL; split <;> rfl
def clashL (a b : List Lk) : Bool := decide (textL a ≠ textL b) && decide (headL a = headL b)
theorem textL_last {a b : List Lk} {i : Nat} (ha : i < a.length) (hb : i < b.length) (h : textL (a.take (i + 1)) = textL (b.take (i + 1))) : a[i] = b[i] := by
  have e : ∀ (c : List Lk) (hc : i < c.length), (c.take (i + 1)).getLast? = some c[i] := fun c hc => by
    rw [List.getLast?_eq_getElem?]
    simp
    rw [List.getElem?_take_of_lt (by omega), Nat.min_eq_left (by omega)]
    simp [hc]
  unfold textL at h
  rw [e a ha, e b hb] at h
  simp at h
  exact encV_inj h
theorem equal_law (a b : List Lk) (ha : ckE a = 0) (hb : ckE b = 0) (hl : a.length = b.length) (hh : headL a = headL b) (hc : ∀ i, 1 ≤ i → i ≤ a.length → clashL (a.take i) (b.take i) = false) : a = b := by
  have key : ∀ k, k ≤ a.length → headL (a.take k) = headL (b.take k) → a.take k = b.take k := by
    intro k
    induction k with
    | zero => simp
    | succ i ih =>
      intro hi hh
      have h1 := hc (i + 1) (by omega) hi
      have ht : textL (a.take (i + 1)) = textL (b.take (i + 1)) := by
        unfold clashL at h1
        rw [hh] at h1
        simpa using h1
      have hx := textL_last (by omega) (by omega) ht
      have hp : headL (a.take i) = headL (b.take i) := by
        rw [← okAt_p ha (by omega), ← okAt_p hb (by omega), hx]
      have := ih (by omega) hp
      rw [← List.take_append_getElem (by omega), ← List.take_append_getElem (by omega), this, hx]
  have := key a.length (Nat.le_refl _) (by rw [List.take_length, hl, List.take_length]; exact hh)
  rw [List.take_length, hl, List.take_length] at this
  exact this
theorem changed_law (l : List Lk) (k : Nat) (x : Lk) (hk : k + 1 < l.length) (hx : l[k] ≠ x) (h1 : ckE l = 0) (h2 : ckE (l.set k x) = 0) : clashL (l.take (k + 1)) ((l.set k x).take (k + 1)) = true := by
  unfold clashL
  simp only [Bool.and_eq_true, decide_eq_true_eq, ne_eq]
  refine ⟨fun h => hx ?_, ?_⟩
  · have := textL_last (a := l) (b := l.set k x) (i := k) (by omega) (by simp; omega) h
    simpa using this
  · have e1 := okAt_p h1 (i := k + 1) hk
    have e2 := okAt_p h2 (i := k + 1) (by simpa using hk)
    rw [List.getElem_set_ne (by omega)] at e2
    rw [← e1, ← e2]
/-! Where two lists part. -/
def difF : List Lk → List Lk → Option Nat
  | x :: a, y :: b => if x = y then (difF a b).map (· + 1) else some 0
  | _, _ => none
theorem difF_some : ∀ (a b : List Lk) (i : Nat) (ha : i < a.length) (hb : i < b.length), a.take i = b.take i → a[i] ≠ b[i] → difF a b = some i
  | [], _, _, ha, _, _, _ => by simp at ha
  | _ :: _, [], _, _, hb, _, _ => by simp at hb
  | x :: a, y :: b, 0, _, _, _, h => by
    simp at h
    simp [difF, h]
  | x :: a, y :: b, i + 1, ha, hb, ht, h => by
    simp at ht h ha hb
    simp [difF, ht.1, difF_some a b i ha hb ht.2 h]
theorem difF_none : ∀ (a b : List Lk), a.take (min a.length b.length) = b.take (min a.length b.length) → difF a b = none
  | [], _, _ => by simp [difF]
  | _ :: _, [], _ => by simp [difF]
  | x :: a, y :: b, h => by
    have e : min (x :: a).length (y :: b).length = min a.length b.length + 1 := by simp
    rw [e] at h
    simp at h
    simp [difF, h.1, difF_none a b (by simpa using h.2)]
theorem difF_get : ∀ (a b : List Lk) (i : Nat), difF a b = some i → ∃ (ha : i < a.length) (hb : i < b.length), a.take i = b.take i ∧ a[i] ≠ b[i]
  | [], _, _, h => by simp [difF] at h
  | _ :: _, [], _, h => by simp [difF] at h
  | x :: a, y :: b, i, h => by
    rw [difF] at h
    split at h
    · rename_i hx
      cases hd : difF a b with
      | none => simp [hd] at h
      | some j =>
        simp [hd] at h
        subst h
        obtain ⟨ha, hb, ht, hn⟩ := difF_get a b j hd
        exact ⟨by simpa using ha, by simpa using hb, by simp [hx, ht], by simpa using hn⟩
    · rename_i hx
      simp at h
      subst h
      exact ⟨by simp, by simp, by simp, by simpa using hx⟩
theorem difF_take : ∀ (a b : List Lk), difF a b = none → a.take (min a.length b.length) = b.take (min a.length b.length)
  | [], _, _ => by simp
  | _ :: _, [], _ => by simp
  | x :: a, y :: b, h => by
    rw [difF] at h
    split at h
    · rename_i hx
      have e : min (x :: a).length (y :: b).length = min a.length b.length + 1 := by simp
      rw [e]
      simp [hx]
      have := difF_take a b (by simpa using h)
      simpa using this
    · simp at h
theorem difF_comm : ∀ (a b : List Lk), difF a b = difF b a
  | [], [] => rfl
  | [], _ :: _ => by simp [difF]
  | _ :: _, [] => by simp [difF]
  | x :: a, y :: b => by
    simp only [difF]
    rw [difF_comm a b]
    by_cases h : x = y
    · rw [if_pos h, if_pos h.symm]
    · rw [if_neg h, if_neg (fun q => h q.symm)]
def difR (a b : List Lk) : Int × Bool := match difF a b with
  | none => (0, false)
  | some i => (i, true)
def prtE (a b : List Lk) : Int := if ckE a ≠ 0 then ckE a else if ckE b ≠ 0 then ckE b else if 0 < a.length ∧ 0 < b.length ∧ n0 a ≠ n0 b then 80 else 0
def prtR (a b : List Lk) : Int × Bool := if prtE a b = 0 then difR a b else (0, false)
/-! Adding. -/
def addE (a : List Lk) (node : Int) (n : Nat) : Int := if ckE a ≠ 0 then ckE a else if node < 0 ∨ 24 ≤ node ∨ (0 < a.length ∧ node ≠ n0 a) ∨ 65536 < n then 1 else if a.length = 1024 then 2 else 0
theorem addE_ok {a : List Lk} {node : Int} {n : Nat} (h : addE a node n = 0) : ckE a = 0 ∧ 0 ≤ node ∧ node < 24 ∧ (0 < a.length → node = n0 a) ∧ n ≤ 65536 ∧ a.length < 1024 := by
  unfold addE at h
  split at h
  · omega
  · split at h
    · omega
    · split at h
      · omega
      · rename_i h1 h2 h3
        have h1 : ckE a = 0 := by omega
        have := (ckE_ok h1).1
        exact ⟨h1, by omega, by omega, by omega, by omega, by omega⟩
theorem addE_iff {a : List Lk} {node : Int} {n : Nat} (h0 : ckE a = 0) (h1 : 0 ≤ node) (h2 : node < 24) (h3 : 0 < a.length → node = n0 a) (h4 : n ≤ 65536) (h5 : a.length < 1024) : addE a node n = 0 := by
  unfold addE
  rw [if_neg (by omega), if_neg (by omega), if_neg (by omega)]
def mkLk (a : List Lk) (node : Int) (data : List UInt8) (h1 : 0 ≤ node) (h2 : node < 24) (h3 : a.length < 1024) : Lk := ⟨node, a.length, headL a, data, headL_len a, by omega, by omega⟩
theorem ckE_add {a : List Lk} {node : Int} {data : List UInt8} (h : addE a node data.length = 0) (h1 : 0 ≤ node) (h2 : node < 24) (h3 : a.length < 1024) : ckE (a ++ [mkLk a node data h1 h2 h3]) = 0 := by
  obtain ⟨q1, q2, q3, q4, q5, q6⟩ := addE_ok h
  obtain ⟨_, q7⟩ := ckE_ok q1
  refine ckE_of (by simp; omega) (fun i hi => ?_)
  simp at hi
  rcases Nat.lt_or_ge i a.length with hlt | hge
  · have := okAt_take (l := a ++ [mkLk a node data h1 h2 h3]) hlt
    rw [List.take_left] at this
    rw [← this]
    exact q7 i
  · have hi : i = a.length := by omega
    subst hi
    unfold okAt
    simp [mkLk, q2, q3, q5]
    cases a with
    | nil => simp [n0]
    | cons x r =>
      have := q4 (by simp)
      simp [n0] at this ⊢
      exact decide_eq_true this
theorem parts_law (a b : List Lk) : (prtE a b ≠ 0 → prtE b a ≠ 0) := by
  unfold prtE
  intro h
  split at h
  · rename_i h1
    split
    · assumption
    · exact h1
  · split at h
    · rename_i h1 h2
      rw [if_pos h2]; exact h2
    · split at h
      · rename_i h1 h2 h3
        rw [if_neg h2, if_neg h1, if_pos ⟨h3.2.1, h3.1, fun q => h3.2.2 q.symm⟩]
        omega
      · omega
end Go.Proofs.YtfegfnekphobmaaDoor
end

section
namespace Go.Proofs.YtfegfnekphobmaaDoor
open Go Go.Proofs.YtfegfnekphobmaaDoor.AL
attribute [local simp] dZ_agg dZ_nt dZ_noTup dZ_cells dZ_one bz_toList bz_size strV dV_cells dV_isAgg dV_noTup dV_nt dBy_cells dBy_one dBy_agg dBy_noTup dBy_nt
set_option maxRecDepth 8000
set_option maxHeartbeats 4000000
theorem dLk_cells (x : Lk) : (dLk x).cells = dI x.n :: dI x.o :: (x.p.map dU ++ [dBy x.d]) := rfl
theorem dLk_len (x : Lk) : (dLk x).cells.length = 35 := by simp [dLk_cells, x.hp]
theorem dLk_isAgg (x : Lk) : (dLk x).isAgg = true := rfl
theorem dLk_noTup (x : Lk) : (AV.d (dLk x)).noTup = true := rfl
theorem dLk_nt (x : Lk) (ds : List D) : (dLk x = .tup ds) = False := by simp [dLk]
inductive C323a : FuncId → List D → Out → Prop
  | sum (b : List UInt8) (hb : b.length < 1152921504606846976) : C323a 32 [dBy b] (.ret (.agg ((shaL b).map dU)))
  | cat (ls : List (List UInt8)) (hb : (catB ls ls.length).length ≤ 100000000000) : C323a 33 [.sl 1 (ls.map dBy)] (.ret (dBy (catB ls ls.length)))
theorem h323a : ∀ f ds out, C323a f ds out → PCall Tryd.prog f ds out := by
  intro f ds out h
  cases h with
  | sum b hb => exact sum b hb
  | cat ls hb => exact concatB ls hb
theorem elsD_dU (b : List UInt8) (n : Nat) (h : b.length = n) : elsD 1 n (b.map dU) = b.map dU := by
  unfold elsD
  rw [if_pos rfl, List.take_of_length_le (by simp; omega)]
theorem dU_arr_one (b : List UInt8) : (∀ c ∈ b.map dU, c.one = true) := dUs_one b
theorem tagged (t b : List UInt8) (ht : t.length ≤ 1000) (hb : b.length ≤ 10000000000) : PCall Tryd.prog 19 [dZ t, dBy b] (.ret (.agg ((tagL t b).map dU))) := by
  refine pcall_of_vc h323a c19 (by simp [a19]) fun hr => ?_
  have h1 := C323a.sum t (by omega)
  have hcat : catB [shaL t, b] 2 = shaL t ++ b := by simp [catB]
  have hl := shaL_len t
  have h2 := C323a.cat [shaL t, b] (by simp only [List.length_cons, List.length_nil]; rw [hcat, List.length_append, hl]; omega)
  have h3 := C323a.sum (shaL t ++ b) (by rw [List.length_append, hl]; omega)
  simp only [List.length_cons, List.length_nil, hcat] at h2
  simp [a19, dZ_eq, -List.reduceReplicate]
  refine vc_path [.ret (.agg ((shaL t).map dU))] ?_
  simp [strD_bz]
  refine ⟨h1, hl, ?_⟩
  refine vc_path [.ret (dBy (shaL t ++ b)), .ret (.agg ((shaL (shaL t ++ b)).map dU))] ?_
  have hl2 := shaL_len (shaL t ++ b)
  have hB : tagL t b = shaL (shaL t ++ b) := rfl
  generalize shaL t = A at *
  generalize shaL (A ++ b) = B at *
  set_option maxHeartbeats 400000 in
  simp [setAt_all, allD_dU, hl, hl2]
  refine ⟨by rw [elsD_dU _ _ hl]; exact h2, h3, ?_⟩
  rw [List.take_of_length_le (by simp [hl2]), allD_dU, hB]
  simp
theorem leD_tail {k n s : D} (hk : k.one = true) (hn : n.one = true) (hs : s.one = true) : LeD (.agg [k, n, s, .nil 4]) (.agg [k, n, s, .sl 4 []]) :=
  LeD.agg (.cons (LeD.refl _) (.cons (LeD.refl _) (.cons (LeD.refl _) (.cons (LeD.nil' _ _) .nil)))) (by intro d hd; simp at hd; rcases hd with rfl | rfl | rfl | rfl <;> first | assumption | rfl)
theorem LeD_sl {sz : Nat} {es es' : List D} (hl : All2 LeD (D.flat es) (D.flat es')) (hlen : es.length = es'.length) (hz : ∀ e ∈ es', e.cells.length = sz) (h1 : ∀ c ∈ D.flat es', c.one = true) : LeD (.sl sz es) (.sl sz es') := fun I w v r => by
  cases r with
  | sl ad vs hn hc hm hA hz0 h10 hI hr =>
    refine .sl ad vs (hn.trans hlen) hc hm (hA.imp id fun e => ?_) hz h1 (fun k c hk => ?_) (fun k c hk => ?_)
    · subst e; exact List.eq_nil_of_length_eq_zero (by rw [← hlen]; rfl)
    · obtain ⟨x, hx, _⟩ := all2_get hl hk
      exact hI k x hx
    · obtain ⟨x, hx, hle⟩ := all2_get hl hk
      exact hle _ _ _ (hr k x hx)
def dP (p : Int) : D := .agg [dI p]
theorem cnumber (n : Int) : PCall Tryd.prog 28 [dI n] (.ret (dV (nV n))) := by
  refine pcall_of_vc noC c28 (by simp [a28]) fun hr => ?_
  simp [a28, nV, dV_eq, dZ]
  exact leD_tail rfl rfl rfl
theorem ctext (b : List UInt8) : PCall Tryd.prog 29 [dBy b] (.ret (dV (tV b))) := by
  refine pcall_of_vc noC c29 (by simp [a29]) fun hr => ?_
  simp [a29, tV, dV_eq, dZ, dBy, bytesOf_map]
  exact ⟨fun a _ => rfl, leD_tail rfl rfl rfl⟩
theorem ctext0 (b : List UInt8) : PCall Tryd.prog 29 [dBy b] (.ret (.agg [dI 2, dI 0, dZ b, .nil 4])) := by
  refine pcall_of_vc noC c29 (by simp [a29]) fun hr => ?_
  simp [a29, dZ, dBy, bytesOf_map]
  exact fun a _ => rfl
theorem clist (l : List Vl) : PCall Tryd.prog 27 [.sl 4 (l.map dV)] (.ret (dV (lV l))) := by
  refine pcall_of_vc noC c27 (by simp [a27]) fun hr => ?_
  simp [a27, lV, dV_eq, dZ]
  exact LeD.refl _
theorem rnumber (n : Int) : PCall Tryd.prog 39 [dI n] (.ret (dV (nV n))) := by
  refine pcall_of_vc noC c39 (by simp [a39]) fun hr => ?_
  simp [a39, nV, dV_eq, dZ]
  exact leD_tail rfl rfl rfl
theorem rtext (b : List UInt8) : PCall Tryd.prog 40 [dBy b] (.ret (dV (tV b))) := by
  refine pcall_of_vc noC c40 (by simp [a40]) fun hr => ?_
  simp [a40, tV, dV_eq, dZ, dBy, bytesOf_map]
  exact ⟨fun a _ => rfl, leD_tail rfl rfl rfl⟩
theorem clist4 (n o : Int) (p d : List UInt8) : PCall Tryd.prog 27 [.sl 4 [dV (nV n), dV (nV o), .agg [dI 2, dI 0, dZ p, .nil 4], dV (tV d)]] (.ret (dV (lV [nV n, nV o, tV p, tV d]))) := by
  refine (clist [nV n, nV o, tV p, tV d]).le (.cons (LeD_sl ?_ rfl ?_ ?_) .nil)
  · simp [D.flat, tV, dV_eq, D.cells]
    repeat' first | exact .nil | refine .cons (LeD.refl _) ?_ | refine .cons (LeD.nil' _ _) ?_
  · intro e he
    simp at he
    rcases he with rfl | rfl | rfl | rfl <;> simp
  · intro c hc
    simp [D.flat] at hc
    rcases hc with rfl | rfl | rfl | rfl | rfl | rfl | rfl | rfl | rfl | rfl | rfl | rfl | rfl | rfl | rfl | rfl <;> rfl
end Go.Proofs.YtfegfnekphobmaaDoor
end

section
namespace Go.Proofs.YtfegfnekphobmaaDoor
open Go Go.Proofs.YtfegfnekphobmaaDoor.AL
attribute [local simp] dZ_agg dZ_nt dZ_noTup dZ_cells dZ_one bz_toList bz_size strV dV_cells dV_isAgg dV_noTup dV_nt dBy_cells dBy_one dBy_agg dBy_noTup dBy_nt
attribute [local simp] dLk_cells dLk_isAgg dLk_noTup dLk_nt
set_option maxRecDepth 8000
set_option maxHeartbeats 4000000
inductive C325 : FuncId → List D → Out → Prop
  | num (n : Int) : C325 28 [dI n] (.ret (dV (nV n)))
  | txt (b : List UInt8) : C325 29 [dBy b] (.ret (dV (tV b)))
  | txt0 (b : List UInt8) : C325 29 [dBy b] (.ret (.agg [dI 2, dI 0, dZ b, .nil 4]))
  | lst (x : Lk) : C325 27 [.sl 4 [dV (nV x.n), dV (nV x.o), .agg [dI 2, dI 0, dZ x.p, .nil 4], dV (tV x.d)]] (.ret (dV (linkV x)))
  | enc (x : Lk) (h : x.d.length ≤ 100000) : C325 26 [dV (linkV x)] (.ret (.tup [dBy (encV (linkV x)), dI 0]))
  | tag (t b : List UInt8) (ht : t.length ≤ 1000) (hb : b.length ≤ 10000000000) : C325 19 [dZ t, dBy b] (.ret (.agg ((tagL t b).map dU)))
  | tag0 (t : List UInt8) (ht : t.length ≤ 1000) : C325 19 [dZ t, .nil 0] (.ret (.agg ((tagL t []).map dU)))
theorem h325 : ∀ f ds out, C325 f ds out → PCall Tryd.prog f ds out := by
  intro f ds out h
  cases h with
  | num n => exact cnumber n
  | txt b => exact ctext b
  | txt0 b => exact ctext0 b
  | lst x => exact clist4 _ _ _ _
  | enc x h =>
    have hb := encV_linkV x
    have := encode (linkV x) (by rw [dpV_linkV]; omega) (by omega)
    rw [encR_linkV] at this
    exact this
  | tag t b ht hb => exact tagged t b ht hb
  | tag0 t ht => exact (tagged t [] ht (by simp)).le (.cons (LeD.refl _) (.cons (LeD.nil' _ _) .nil))
theorem last_map (l : List Lk) (h : l ≠ []) : ((l.map dLk)[l.length - 1]?) = some (dLk (l.getLast h)) := by
  have : 0 < l.length := List.length_pos_iff.2 h
  rw [List.getElem?_map, ← List.getLast?_eq_getElem?, List.getLast?_eq_some_getLast h]; rfl
theorem head (l : List Lk) (hd : ∀ x ∈ l, x.d.length ≤ 100000) : PCall Tryd.prog 15 [.sl 35 (l.map dLk)] (.ret (.agg ((headL l).map dU))) := by
  refine pcall_of_vc h325 c15 (by simp [a15]) fun hr => ?_
  have hlen := (hr (.sl 35 (l.map dLk)) (by simp)).sl.1
  simp at hlen
  have hh := headL_len l
  simp [a15, -List.reduceReplicate]
  refine ⟨fun he => ?_, fun he => ?_⟩
  · subst he
    have ht := C325.tag0 [110, 111, 110, 101] (by simp)
    have e : headL [] = tagL [110, 111, 110, 101] [] := rfl
    rw [e] at hh ⊢
    generalize tagL [110, 111, 110, 101] [] = A at *
    refine vc_path [.ret (.agg (A.map dU))] ?_
    simp [setAt_all, allD_dU, hh]
    refine ⟨ht, ?_⟩
    rw [List.take_of_length_le (by simp [hh]), allD_dU]
    simp
  · have hp : 0 < l.length := List.length_pos_iff.2 he
    have hw : IntKind.i64.wrap ((l.length : Int) - 1) = (l.length - 1 : Nat) := by rw [wrap64 (by omega)]; omega
    have hx : l[l.length - 1]? = some (l.getLast he) := by rw [← List.getLast?_eq_getElem?, List.getLast?_eq_some_getLast he]
    have hm := hd _ (List.getLast_mem he)
    have e : headL l = tagL [108, 105, 110, 107] (encV (linkV (l.getLast he))) := by unfold headL; rw [List.getLast?_eq_some_getLast he]
    rw [e] at hh ⊢
    clear hlen
    generalize l.getLast he = x at *
    have hxp := x.hp
    have hb := encV_linkV x
    have ht := C325.tag [108, 105, 110, 107] (encV (linkV x)) (by simp) (by omega)
    have he := C325.enc x hm
    generalize tagL [108, 105, 110, 107] (encV (linkV x)) = A at *
    rw [hw]
    simp [hx, hxp, setAt_all2, -List.reduceReplicate]
    refine ⟨by omega, vc_pathD [.ret (dV (nV x.n)), .ret (dV (nV x.o)), .ret (.agg [dI 2, dI 0, dZ x.p, .nil 4]), .ret (dV (tV x.d)), .ret (dV (linkV x)), .ret (.tup [dBy (encV (linkV x)), dI 0])] ?_⟩
    set_option maxHeartbeats 400000 in
    simp [hxp, allD1_lk, elsD_lk]
    refine ⟨.num _, .num _, .txt0 _, .agg fun c hc => ?_, .txt _, .lst _, he, rfl, vc_path [.ret (.agg (A.map dU))] ?_⟩
    · simp at hc
      rcases hc with rfl | rfl | rfl | rfl
      · exact .lit _
      · exact .lit _
      · exact .lit _
      · exact .nil _
    simp [setAt_all, hh]
    refine ⟨ht, ?_⟩
    rw [List.take_of_length_le (by simp [hh]), allD_dU]
    simp
inductive C325b : FuncId → List D → Out → Prop
  | num (n : Int) : C325b 39 [dI n] (.ret (dV (nV n)))
  | txt (b : List UInt8) : C325b 40 [dBy b] (.ret (dV (tV b)))
  | enc (x : Lk) (h : x.d.length ≤ 100000) : C325b 38 [.agg [dI 3, dI 0, dZ [], .sl 4 [dV (nV x.n), dV (nV x.o), dV (tV x.p), dV (tV x.d)]]] (.ret (.tup [dBy (encV (linkV x)), dI 0]))
theorem h325b : ∀ f ds out, C325b f ds out → PCall Tryd.prog f ds out := by
  intro f ds out h
  cases h with
  | num n => exact rnumber n
  | txt b => exact rtext b
  | enc x h =>
    have hb := encV_linkV x
    have := rEncode (linkV x) (by rw [dpV_linkV]; omega) (by omega)
    rw [encR_linkV] at this
    exact this
theorem refText (l : List Lk) (hd : ∀ x ∈ l, x.d.length ≤ 100000) : PCall Tryd.prog 31 [.sl 35 (l.map dLk)] (.ret (.tup [dZ (textL l).1, dBy (textL l).2])) := by
  refine pcall_of_vc h325b c31 (by simp [a31]) fun hr => ?_
  have hlen := (hr (.sl 35 (l.map dLk)) (by simp)).sl.1
  simp at hlen
  simp [a31, -List.reduceReplicate]
  refine ⟨fun he => ?_, fun he => ?_⟩
  · subst he
    simp [textL, dZ, dBy]
    exact LeD.refl _
  · have hp : 0 < l.length := List.length_pos_iff.2 he
    have hw : IntKind.i64.wrap ((l.length : Int) - 1) = (l.length - 1 : Nat) := by rw [wrap64 (by omega)]; omega
    have hx : l[l.length - 1]? = some (l.getLast he) := by rw [← List.getLast?_eq_getElem?, List.getLast?_eq_some_getLast he]
    have hm := hd _ (List.getLast_mem he)
    have e : textL l = ([108, 105, 110, 107], encV (linkV (l.getLast he))) := by unfold textL; rw [List.getLast?_eq_some_getLast he]
    rw [e]
    clear hlen
    generalize l.getLast he = x at *
    have hxp := x.hp
    have he := C325b.enc x hm
    rw [hw]
    simp [hx, hxp, setAt_all2, -List.reduceReplicate]
    refine ⟨by omega, vc_loopK [4] Nat (fun k => [(5, true, .own 1 1 ((x.p.take k).map dU)), (6, true, .d (dI k))]) (fun k => [(1, .row)]) (fun k => k ≤ 32) (fun k => 32 - k) 0 (by simp) ⟨[], [(1, 1)], ?_⟩ (fun k hk => ?_)⟩
    · simp [leL_lk, lk_ones]
    · simp
      refine ⟨fun hlt => ?_, fun hge => ?_⟩
      · have hkp : k < x.p.length := by omega
        have e0 := lk_at (AV.d (D.lit (Value.int IntKind.i64 x.n))) (AV.d (D.lit (Value.int IntKind.i64 x.o))) x.p (AV.d (dBy x.d)) k hkp
        refine ⟨hlt, by omega, ?_⟩
        rw [e0]
        simp [leL_lk, lk_ones]
        have hs : (x.p.map dU).take (k + 1) = (x.p.map dU).take k ++ [dU x.p[k]] := by
          rw [List.take_add_one]; simp [hkp]
        refine ⟨⟨rfl, fun ds => by simp [dU]⟩, ⟨by omega, by omega⟩, k + 1, by omega, by omega, [(1, 3)], [], ?_⟩
        rw [wrap64 (by omega), hs]
        simp [leL_lk, lk_ones]
      · have hk : k = 32 := by omega
        subst hk
        refine vc_pathD [.ret (dV (nV x.n)), .ret (dV (nV x.o)), .ret (dV (tV x.p)), .ret (dV (tV x.d)), .ret (.tup [dBy (encV (linkV x)), dI 0])] ?_
        simp [hxp]
        have e32 : (x.p.map dU).take 32 = x.p.map dU := List.take_of_length_le (by simp [hxp])
        rw [e32]
        exact ⟨.num _, .num _, .txt _, .txt _, he, rfl, LeD.refl _⟩
end Go.Proofs.YtfegfnekphobmaaDoor
end

section
namespace Go.Proofs.YtfegfnekphobmaaDoor
open Go Go.Proofs.YtfegfnekphobmaaDoor.AL
attribute [local simp] dZ_agg dZ_nt dZ_noTup dZ_cells dZ_one bz_toList bz_size strV dV_cells dV_isAgg dV_noTup dV_nt dBy_cells dBy_one dBy_agg dBy_noTup dBy_nt
attribute [local simp] dLk_cells dLk_isAgg dLk_noTup dLk_nt
set_option maxRecDepth 8000
set_option maxHeartbeats 4000000
theorem bytesEqual (a b : List UInt8) : PCall Tryd.prog 25 [dBy a, dBy b] (.ret (dB (decide (a = b)))) := by
  refine pcall_of_vc noC c25 (by simp [a25]) fun hr => ?_
  simp [a25, dBy, bytesOf_map]
  refine ⟨fun _ _ => rfl, fun _ _ => rfl, leD_of_eq ?_⟩
  congr 2
  by_cases h : a = b <;> simp [h]
inductive C326 : FuncId → List D → Out → Prop
  | eq (a b : List UInt8) : C326 25 [dBy a, dBy b] (.ret (dB (decide (a = b))))
theorem h326 : ∀ f ds out, C326 f ds out → PCall Tryd.prog f ds out := by
  intro f ds out h
  cases h with
  | eq a b => exact bytesEqual a b
theorem sameLink (x y : Lk) : PCall Tryd.prog 18 [dLk x, dLk y] (.ret (dB (decide (x = y)))) := by
  refine pcall_of_vc noC c18 (by simp [a18]) fun hr => ?_
  have h1 := x.hp
  have h2 := y.hp
  simp [a18]
  refine vc_path [] ?_
  set_option maxHeartbeats 400000 in
  simp [dBy, h1, h2, bytesOf_map, allD_dU, eqC_dU h1 h2, eqB_dU _ _ (h1.trans h2.symm)]
  refine ⟨fun hn => ⟨fun ho => ⟨fun hp => ⟨fun _ _ => rfl, fun _ _ => rfl, leD_of_eq ?_⟩, fun hp => leD_of_eq ?_⟩, fun ho => leD_of_eq ?_⟩, fun hn => leD_of_eq ?_⟩
  · congr 2
    by_cases h : x.d = y.d
    · simp [h, Lk.ext hn ho hp h]
    · have : x ≠ y := fun q => h (by rw [q])
      simp [h, this]
  all_goals
    congr 2
    symm
    rw [decide_eq_false_iff_not]
    rintro rfl
    first | exact hp rfl | exact ho rfl | exact hn rfl
theorem part1 (x y : Lk) : PCall Tryd.prog 24 [dLk x, dLk y] (.ret (dB (decide (x = y)))) := by
  refine pcall_of_vc h326 c24 (by simp [a24]) fun hr => ?_
  have h1 := x.hp
  have h2 := y.hp
  have hc := C326.eq x.d y.d
  simp [a24]
  refine vc_path [.ret (dB (decide (x.d = y.d)))] ?_
  simp [h1, h2, allD_dU, eqC_dU h1 h2, eqB_dU _ _ (h1.trans h2.symm)]
  refine ⟨fun hn => ⟨fun ho => ⟨fun hp => ⟨hc, leD_of_eq ?_⟩, fun hp => leD_of_eq ?_⟩, fun ho => leD_of_eq ?_⟩, fun hn => leD_of_eq ?_⟩
  · congr 2
    by_cases h : x.d = y.d
    · simp [h, Lk.ext hn ho hp h]
    · have : x ≠ y := fun q => h (by rw [q])
      simp [h, this]
  all_goals
    congr 2
    symm
    rw [decide_eq_false_iff_not]
    rintro rfl
    first | exact hp rfl | exact ho rfl | exact hn rfl
end Go.Proofs.YtfegfnekphobmaaDoor
end

section
namespace Go.Proofs.YtfegfnekphobmaaDoor
open Go Go.Proofs.YtfegfnekphobmaaDoor.AL
attribute [local simp] dZ_agg dZ_nt dZ_noTup dZ_cells dZ_one bz_toList bz_size strV dV_cells dV_isAgg dV_noTup dV_nt dBy_cells dBy_one dBy_agg dBy_noTup dBy_nt
attribute [local simp] dLk_cells dLk_isAgg dLk_noTup dLk_nt
set_option maxRecDepth 8000
set_option maxHeartbeats 4000000
inductive C327 : FuncId → List D → Out → Prop
  | sl (x y : Lk) : C327 18 [dLk x, dLk y] (.ret (dB (decide (x = y))))
  | pt (x y : Lk) : C327 24 [dLk x, dLk y] (.ret (dB (decide (x = y))))
theorem h327 : ∀ f ds out, C327 f ds out → PCall Tryd.prog f ds out := by
  intro f ds out h
  cases h with
  | sl x y => exact sameLink x y
  | pt x y => exact part1 x y
theorem take_step {a b : List Lk} {i : Nat} (ha : i < a.length) (hb : i < b.length) (h : a.take i = b.take i) (he : a[i] = b[i]) : a.take (i + 1) = b.take (i + 1) := by
  rw [← List.take_append_getElem ha, ← List.take_append_getElem hb, h, he]
theorem same (a b : List Lk) : PCall Tryd.prog 14 [.sl 35 (a.map dLk), .sl 35 (b.map dLk)] (.ret (dB (decide (a = b)))) := by
  refine pcall_of_vc h327 c14 (by simp [a14]) fun hr => ?_
  have hla := (hr (.sl 35 (a.map dLk)) (by simp)).sl.1
  simp at hla
  simp [a14]
  refine ⟨fun hne => ?_, fun hl => ?_⟩
  · refine leD_of_eq ?_
    congr 2
    symm
    rw [decide_eq_false_iff_not]
    rintro rfl
    exact hne rfl
  · refine vc_loopK [0, 1] Nat (fun i => [(5, true, .d (dI i))]) (fun _ => []) (fun i => i ≤ a.length ∧ a.take i = b.take i) (fun i => a.length - i) 0 (by simp) ⟨[], [], ?_⟩ (fun i hi => ?_)
    · simp
    · obtain ⟨hi, ht⟩ := hi
      simp
      refine ⟨fun hlt => ?_, fun hge => ?_⟩
      · have hlb : i < b.length := by omega
        simp [hlt, hlb]
        have hc := C327.sl a[i] b[i]
        have q1 := (a[i]).hp
        have q2 := (b[i]).hp
        refine vc_pathD [.ret (dB (decide (a[i] = b[i])))] ?_
        simp [hlt, hlb, q1, q2]
        refine ⟨hc, rfl, fun hne => leD_of_eq ?_, fun he => ⟨i + 1, ⟨by omega, take_step hlt hlb ht he⟩, by omega, [], [], ?_⟩⟩
        · congr 2
          symm
          rw [decide_eq_false_iff_not]
          rintro rfl
          exact hne rfl
        · rw [wrap64 (by omega)]
          simp
      · have hi : i = a.length := by omega
        subst hi
        rw [List.take_length, List.take_of_length_le (by omega)] at ht
        simp [ht]
theorem differ (a b : List Lk) : PCall Tryd.prog 23 [.sl 35 (a.map dLk), .sl 35 (b.map dLk), .fn (.func 24) [] []] (.ret (.tup [dI (difR a b).1, dB (difR a b).2])) := by
  refine pcall_of_vc h327 c23 (by simp [a23]) fun hr => ?_
  have hla := (hr (.sl 35 (a.map dLk)) (by simp)).sl.1
  have hlb := (hr (.sl 35 (b.map dLk)) (by simp)).sl.1
  simp at hla hlb
  simp [a23]
  refine vc_loopK [0, 1, 2, 6, 7, 13] Nat (fun i => [(14, true, .d (dI i))]) (fun _ => []) (fun i => i ≤ min a.length b.length ∧ a.take i = b.take i) (fun i => a.length - i) 0 (by simp) ⟨[], [], ?_⟩ (fun i hi => ?_)
  · simp
  · obtain ⟨hi, ht⟩ := hi
    simp
    refine ⟨fun hlt => ?_, fun hge => ?_⟩
    · have q1 : i < a.length := by split at hlt <;> omega
      have q2 : i < b.length := by split at hlt <;> omega
      have q3 := (a[i]).hp
      have q4 := (b[i]).hp
      have hc := C327.pt a[i] b[i]
      refine vc_pathD [.ret (dB (decide (a[i] = b[i])))] ?_
      simp [q1, q2, q3, q4]
      refine ⟨hc, rfl, fun hne => ?_, fun he => ⟨i + 1, ⟨by omega, take_step q1 q2 ht he⟩, by omega, [], [], ?_⟩⟩
      · have := difF_some a b i q1 q2 ht hne
        have e : difR a b = ((i : Int), true) := by unfold difR; rw [this]
        rw [e]
        exact ⟨LeD.refl _, LeD.refl _⟩
      · rw [wrap64 (by omega)]
        simp
    · have hi : i = min a.length b.length := by split at hge <;> omega
      subst hi
      have := difF_none a b ht
      have e : difR a b = (0, false) := by unfold difR; rw [this]
      rw [e]
      exact ⟨LeD.refl _, LeD.refl _⟩
def fewL (l : List Lk) : Bool := decide (l.length ≤ 16) && l.all fun x => decide (x.d.length ≤ 300)
theorem few (l : List Lk) : PCall Tryd.prog 9 [.sl 35 (l.map dLk)] (.ret (dB (fewL l))) := by
  refine pcall_of_vc noC c9 (by simp [a9]) fun hr => ?_
  have hla := (hr (.sl 35 (l.map dLk)) (by simp)).sl.1
  simp at hla
  simp [a9]
  refine ⟨fun hgt => ?_, fun hle => ?_⟩
  · refine leD_of_eq ?_
    unfold fewL
    rw [decide_eq_false (by omega)]
    rfl
  · refine vc_loopK [0] Nat (fun i => [(3, true, .d (dI i))]) (fun _ => []) (fun i => i ≤ l.length ∧ (l.take i).all (fun x => decide (x.d.length ≤ 300)) = true) (fun i => l.length - i) 0 (by simp) ⟨[], [], ?_⟩ (fun i hi => ?_)
    · simp
    · obtain ⟨hi, ht⟩ := hi
      simp
      refine ⟨fun hlt => ?_, fun hge => ?_⟩
      · have q1 := (l[i]).hp
        simp [hlt, q1, dBy]
        refine ⟨fun hgt => ?_, fun hle => ⟨i + 1, ⟨by omega, fun x hx => ?_⟩, by omega, [], [], ?_⟩⟩
        · refine leD_of_eq ?_
          have : l.all (fun x => decide (x.d.length ≤ 300)) = false := by
            rw [List.all_eq_false]
            exact ⟨l[i], List.getElem_mem hlt, by simp; omega⟩
          unfold fewL
          rw [this, Bool.and_false]
        · rw [← List.take_append_getElem hlt] at hx
          simp at ht
          rcases List.mem_append.1 hx with hx | hx
          · exact ht x hx
          · rw [List.mem_singleton.1 hx]; omega
        · rw [wrap64 (by omega)]
          simp
      · have hi : i = l.length := by omega
        subst hi
        rw [List.take_length] at ht
        refine leD_of_eq ?_
        unfold fewL
        rw [ht, decide_eq_true (by omega)]
        rfl
end Go.Proofs.YtfegfnekphobmaaDoor
end

section
namespace Go.Proofs.YtfegfnekphobmaaDoor
open Go Go.Proofs.YtfegfnekphobmaaDoor.AL
attribute [local simp] dZ_agg dZ_nt dZ_noTup dZ_cells dZ_one bz_toList bz_size strV dV_cells dV_isAgg dV_noTup dV_nt dBy_cells dBy_one dBy_agg dBy_noTup dBy_nt
attribute [local simp] dLk_cells dLk_isAgg dLk_noTup dLk_nt
set_option maxRecDepth 8000
set_option maxHeartbeats 4000000
inductive C328 : FuncId → List D → Out → Prop
  | head (l : List Lk) (hd : ∀ x ∈ l, x.d.length ≤ 100000) : C328 15 [.sl 35 (l.map dLk)] (.ret (.agg ((headL l).map dU)))
  | beg (l : List Lk) : C328 30 [.sl 35 (l.map dLk)] (.ret (.fn (.func 37) [] [.ip (.sl 35 (l.map dLk))]))
theorem beginnings (l : List Lk) : PCall Tryd.prog 30 [.sl 35 (l.map dLk)] (.ret (.fn (.func 37) [] [.ip (.sl 35 (l.map dLk))])) := by
  refine pcall_of_vcZ noC c30 (by simp [a30]) 4 fun hr => ?_
  simp [a30]
theorem h328 : ∀ f ds out, C328 f ds out → PCall Tryd.prog f ds out := by
  intro f ds out h
  cases h with
  | head l hd => exact head l hd
  | beg l => exact beginnings l
theorem check (l : List Lk) (hd : ∀ x ∈ l, x.d.length ≤ 100000) : PCall Tryd.prog 16 [.sl 35 (l.map dLk)] (.ret (dI (ckE l))) := by
  refine pcall_of_vc h328 c16 (by simp [a16]) fun hr => ?_
  have hla := (hr (.sl 35 (l.map dLk)) (by simp)).sl.1
  simp at hla
  simp [a16]
  refine ⟨fun hgt => ?_, fun hle => ?_⟩
  · have e : ckE l = 2 := by unfold ckE; rw [if_pos (by omega)]
    rw [e]
    exact LeD.refl _
  · refine vc_path [.ret (.fn (.func 37) [] [.ip (.sl 35 (l.map dLk))])] ?_
    simp
    refine ⟨.beg l, ?_⟩
    refine vc_range (TF Tryd.prog a37) (hcall_of_vc c37) rfl (by rfl) (fun yl => by rfl) (fun yl => ?_)
    simp [a37]
    refine vc_loopK [0, 1, 5, 6] Nat (fun i => [(7, true, .d (dI i))]) (fun i => [(2, .box false [.d (dI i)])]) (fun i => i ≤ l.length ∧ allOk l i = true) (fun i => l.length - i) 0 (by simp [allOk_zero]) ⟨[], [], ?_⟩ (fun i hi => ?_)
    · simp
      intro x hx; omega
    · obtain ⟨hi, hok⟩ := hi
      simp
      refine ⟨fun hlt => ?_, fun hge => ?_⟩
      · have q1 := (l[i]).hp
        simp [hlt, q1, setAt_all2, -List.reduceReplicate]
        refine regK_path [.ret (.agg ((headL (l.take i)).map dU))] [] ?_
        have q2 := headL_len (l.take i)
        simp [q1, take_lk, allD_lk, q2, setAt_all, setAt_all2, -List.reduceReplicate]
        refine ⟨hi, ?_⟩
        rw [← List.map_take]
        refine ⟨.head _ fun x hx => hd x (List.mem_of_mem_take hx), rfl, ?_⟩
        obtain ⟨z, hz, hzn, hzp⟩ : ∃ z : Lk, l[0]? = some z ∧ n0 l = z.n ∧ z.p.length = 32 := by
          cases l with
          | nil => simp at hlt
          | cons z r => exact ⟨z, rfl, rfl, z.hp⟩
        have hz' : l.head? = some z := by rw [← hz]; cases l <;> rfl
        have h0 : 0 < l.length := by omega
        have h0' : l ≠ [] := by rintro rfl; simp at hlt
        have ht32 : List.take 32 ((headL (l.take i)).map (AV.d ∘ dU)) = (headL (l.take i)).map (AV.d ∘ dU) := List.take_of_length_le (by simp [q2])
        refine vc_pathD [] ?_
        simp (config := { maxSteps := 1000000 }) [ht32, hz, hz', h0, h0', hzp, q1, q2, dBy, allD_dU, eqC_dU q1 q2, eqB_dU _ _ (q1.trans q2.symm)]
        have ho : okAt l i = (decide (l[i].n = n0 l) && decide (0 ≤ l[i].n) && decide (l[i].n < 24) && decide (l[i].o = i) && decide (l[i].d.length ≤ 65536) && decide (l[i].p = headL (l.take i))) := by
          unfold okAt; rw [List.getElem?_eq_getElem hlt]
        have hn0 : n0 l = l[0].n := by
          rw [List.getElem?_eq_getElem h0] at hz
          rw [hzn, Option.some.inj hz]
        rw [hn0] at ho
        have hbad : okAt l i = false → LeD (.lit (.int .i64 80)) (.lit (.int .i64 (ckE l))) := fun hb => by
          refine leD_of_eq ?_
          congr 2
          unfold ckE
          rw [if_neg (by omega), allOk_false hb hlt]
          rfl
        refine ⟨fun c => ⟨rfl, hbad (by rw [ho]; simp [c])⟩, fun c1 => ⟨fun c => ⟨rfl, hbad (by rw [ho, decide_eq_false (p := 0 ≤ l[i].n) (by omega)]; simp)⟩, fun c2 => ⟨fun c => ⟨rfl, hbad (by rw [ho, decide_eq_false (p := l[i].n < 24) (by omega)]; simp)⟩, fun c3 => ⟨fun c => ⟨rfl, hbad (by rw [ho]; simp [c])⟩, fun c4 => ⟨fun c => ⟨rfl, hbad (by rw [ho, decide_eq_false (p := l[i].d.length ≤ 65536) (by omega)]; simp)⟩, fun c5 => ?_⟩⟩⟩⟩⟩
        refine ⟨rfl, fun c => hbad (by rw [ho]; simp [c]), fun c6 => ⟨i + 1, ⟨by omega, ?_⟩, by omega, [], [], ?_⟩⟩
        · rw [allOk_succ, hok, ho]
          simp [c1, c2, c3, c4, c6]
          refine ⟨?_, ?_⟩ <;> omega
        · rw [wrap64 (n := ((i : Int) + 1)) (by omega)]
          simp [leL_lk, lk_ones]
          intro x hx; omega
      · have hi : i = l.length := by omega
        subst hi
        refine leD_of_eq ?_
        congr 2
        unfold ckE
        rw [if_neg (by omega), if_pos hok]
end Go.Proofs.YtfegfnekphobmaaDoor
end

section
namespace Go.Proofs.YtfegfnekphobmaaDoor
open Go Go.Proofs.YtfegfnekphobmaaDoor.AL
attribute [local simp] dZ_agg dZ_nt dZ_noTup dZ_cells dZ_one bz_toList bz_size strV dV_cells dV_isAgg dV_noTup dV_nt dBy_cells dBy_one dBy_agg dBy_noTup dBy_nt
attribute [local simp] dLk_cells dLk_isAgg dLk_noTup dLk_nt
set_option maxRecDepth 8000
set_option maxHeartbeats 4000000
def addL (a : List Lk) (node : Int) (data : List UInt8) : List Lk := if h : addE a node data.length = 0 then a ++ [mkLk a node data (addE_ok h).2.1 (addE_ok h).2.2.1 (addE_ok h).2.2.2.2.2] else []
theorem addL_bad {a : List Lk} {node : Int} {data : List UInt8} (h : addE a node data.length ≠ 0) : addL a node data = [] := by unfold addL; rw [dif_neg h]
theorem addL_ok {a : List Lk} {node : Int} {data : List UInt8} (h : addE a node data.length = 0) : addL a node data = a ++ [mkLk a node data (addE_ok h).2.1 (addE_ok h).2.2.1 (addE_ok h).2.2.2.2.2] := by unfold addL; rw [dif_pos h]
inductive C329 : FuncId → List D → Out → Prop
  | head (l : List Lk) (hd : ∀ x ∈ l, x.d.length ≤ 100000) : C329 15 [.sl 35 (l.map dLk)] (.ret (.agg ((headL l).map dU)))
  | check (l : List Lk) (hd : ∀ x ∈ l, x.d.length ≤ 100000) : C329 16 [.sl 35 (l.map dLk)] (.ret (dI (ckE l)))
  | clone (b : List UInt8) (h : b.length ≤ 65536) : C329 20 [dBy b] (.ret (dBy b))
  | diff (a b : List Lk) : C329 23 [.sl 35 (a.map dLk), .sl 35 (b.map dLk), .fn (.func 24) [] []] (.ret (.tup [dI (difR a b).1, dB (difR a b).2]))
theorem h329 : ∀ f ds out, C329 f ds out → PCall Tryd.prog f ds out := by
  intro f ds out h
  cases h with
  | head l hd => exact head l hd
  | check l hd => exact check l hd
  | clone b h => exact bytesClone b (by omega)
  | diff a b => exact differ a b
theorem first_of {l : List Lk} (h : l ≠ []) : ∃ z : Lk, l[0]? = some z ∧ l.head? = some z ∧ n0 l = z.n ∧ z.p.length = 32 ∧ 0 < l.length := by
  cases l with
  | nil => exact absurd rfl h
  | cons z r => exact ⟨z, rfl, rfl, rfl, z.hp, by simp⟩
theorem part (a b : List Lk) (ha : ∀ x ∈ a, x.d.length ≤ 100000) (hb : ∀ x ∈ b, x.d.length ≤ 100000) : PCall Tryd.prog 12 [.sl 35 (a.map dLk), .sl 35 (b.map dLk)] (.ret (.tup [dI (prtR a b).1, dB (prtR a b).2, dI (prtE a b)])) := by
  refine pcall_of_vc h329 c12 (by simp [a12]) fun hr => ?_
  have c1 := C329.check a ha
  have c2 := C329.check b hb
  have c3 := C329.diff a b
  simp [a12]
  by_cases h1 : ckE a = 0
  · rw [h1] at c1
    refine vc_path [.ret (dI 0)] ?_
    simp
    refine ⟨c1, ?_⟩
    by_cases h2 : ckE b = 0
    · rw [h2] at c2
      refine vc_path [.ret (dI 0)] ?_
      simp
      refine ⟨c2, ?_⟩
      have fin : ∀ h : ¬ (0 < a.length ∧ 0 < b.length ∧ n0 a ≠ n0 b), prtE a b = 0 ∧ prtR a b = difR a b := fun h => by
        have : prtE a b = 0 := by unfold prtE; rw [if_neg (by omega), if_neg (by omega), if_neg h]
        refine ⟨this, ?_⟩
        unfold prtR; rw [if_pos this]
      by_cases h3 : a = []
      · have e3 := fin (by simp [h3])
        rw [e3.1, e3.2]
        refine vc_pathD [] ?_
        simp [h3]
        rw [h3] at c3
        refine ⟨rfl, vc_path [.ret (.tup [dI (difR [] b).1, dB (difR [] b).2])] ?_⟩
        simp
        exact c3
      · obtain ⟨z, z1, z2, z3, z4, z5⟩ := first_of h3
        by_cases h4 : b = []
        · have e3 := fin (by simp [h4])
          rw [e3.1, e3.2]
          refine vc_pathD [] ?_
          simp [h3, h4, z1, z2, z4, z5]
          rw [h4] at c3
          refine ⟨rfl, vc_path [.ret (.tup [dI (difR a []).1, dB (difR a []).2])] ?_⟩
          simp
          exact c3
        · obtain ⟨y, y1, y2, y3, y4, y5⟩ := first_of h4
          refine vc_pathD [] ?_
          simp [h3, h4, z1, z2, z4, z5, y1, y2, y4, y5]
          rw [List.getElem?_eq_getElem z5] at z1
          rw [List.getElem?_eq_getElem y5] at y1
          refine ⟨rfl, fun hne => ?_, fun he => ?_⟩
          · have e : prtE a b = 80 := by
              unfold prtE; rw [if_neg (by omega), if_neg (by omega), if_pos ⟨z5, y5, by rw [z3, y3, ← Option.some.inj z1, ← Option.some.inj y1]; exact hne⟩]
            have e2 : prtR a b = (0, false) := by unfold prtR; rw [if_neg (by omega)]
            rw [e, e2]
            exact ⟨LeD.refl _, LeD.refl _, LeD.refl _⟩
          · have e3 := fin (fun h => h.2.2 (by rw [z3, y3, ← Option.some.inj z1, ← Option.some.inj y1]; exact he))
            rw [e3.1, e3.2]
            refine vc_path [.ret (.tup [dI (difR a b).1, dB (difR a b).2])] ?_
            simp
            exact c3
    · have e : prtE a b = ckE b := by unfold prtE; rw [if_neg (by omega), if_pos h2]
      have e2 : prtR a b = (0, false) := by unfold prtR; rw [if_neg (by omega)]
      rw [e, e2]
      refine vc_path [.ret (dI (ckE b))] ?_
      simp [h2]
      exact c2
  · have e : prtE a b = ckE a := by unfold prtE; rw [if_pos h1]
    have e2 : prtR a b = (0, false) := by unfold prtR; rw [if_neg (by omega)]
    rw [e, e2]
    refine vc_path [.ret (dI (ckE a))] ?_
    simp [h1]
    exact c1
theorem add (a : List Lk) (node : Int) (data : List UInt8) (ha : ∀ x ∈ a, x.d.length ≤ 100000) : PCall Tryd.prog 10 [.sl 35 (a.map dLk), dI node, dBy data] (.ret (.tup [.sl 35 ((addL a node data).map dLk), dI (addE a node data.length)])) := by
  refine pcall_of_vc h329 c10 (by simp [a10]) fun hr => ?_
  have c1 := C329.check a ha
  have c2 := C329.head a ha
  have hh := headL_len a
  simp [a10]
  by_cases h1 : ckE a = 0
  · rw [h1] at c1
    refine vc_path [.ret (dI 0)] ?_
    simp
    refine ⟨c1, ?_⟩
    have la := (ckE_ok h1).1
    have fin : node < 0 ∨ 24 ≤ node ∨ (0 < a.length ∧ node ≠ n0 a) ∨ 65536 < data.length → addE a node data.length = 1 := fun h => by
      unfold addE; rw [if_neg (by omega), if_pos h]
    have fin2 : ¬ (node < 0 ∨ 24 ≤ node ∨ (0 < a.length ∧ node ≠ n0 a) ∨ 65536 < data.length) → a.length = 1024 → addE a node data.length = 2 := fun h h2 => by
      unfold addE; rw [if_neg (by omega), if_neg h, if_pos h2]
    have fin3 : ¬ (node < 0 ∨ 24 ≤ node ∨ (0 < a.length ∧ node ≠ n0 a) ∨ 65536 < data.length) → a.length ≠ 1024 → addE a node data.length = 0 := fun h h2 => by
      unfold addE; rw [if_neg (by omega), if_neg h, if_neg h2]
    have bad1 : addE a node data.length = 1 → LeD (.nil 35) (.sl 35 ((addL a node data).map dLk)) ∧ LeD (.lit (.int .i64 1)) (.lit (.int .i64 (addE a node data.length))) := fun h => by
      rw [addL_bad (by omega), h]; exact ⟨LeD.nil' _ _, LeD.refl _⟩
    have bad2 : addE a node data.length = 2 → LeD (.nil 35) (.sl 35 ((addL a node data).map dLk)) ∧ LeD (.lit (.int .i64 2)) (.lit (.int .i64 (addE a node data.length))) := fun h => by
      rw [addL_bad (by omega), h]; exact ⟨LeD.nil' _ _, LeD.refl _⟩
    by_cases h3 : a = []
    · subst h3
      refine vc_path [] ?_
      simp [dBy, -List.reduceReplicate]
      refine ⟨fun d1 => bad1 (fin (by omega)), fun d1 => ⟨fun d2 => bad1 (fin (by omega)), fun d2 => ⟨fun d3 => bad1 (fin (by omega)), fun d3 => ?_⟩⟩⟩
      have hn : ¬ (node < 0 ∨ 24 ≤ node ∨ (0 < ([] : List Lk).length ∧ node ≠ n0 []) ∨ 65536 < data.length) := by simp; omega
      have hz := fin3 hn (by simp)
      rw [addL_ok hz, hz]
      have c3 := C329.clone data (by omega)
      refine vc_path [.ret (.agg ((headL []).map dU)), .ret (dBy data)] ?_
      simp [setAt_all2, setAt_midL, setAt_end, hh, allD_lk, take_lk, -List.reduceReplicate]
      exact ⟨c2, c3, rfl, LeD.refl _⟩
    · obtain ⟨z, z1, z2, z3, z4, z5⟩ := first_of h3
      refine vc_path [] ?_
      simp [h3, dBy, z1, z2, z4, z5, -List.reduceReplicate]
      rw [List.getElem?_eq_getElem z5] at z1
      have hz0 : n0 a = a[0].n := by rw [z3, ← Option.some.inj z1]
      rw [hz0] at fin fin2 fin3
      refine ⟨fun d1 => bad1 (fin (by omega)), fun d1 => ⟨fun d2 => bad1 (fin (by omega)), fun d2 => ⟨fun d3 => bad1 (fin (by omega)), fun d3 => ⟨fun d4 => bad1 (fin (by omega)), fun d4 => ⟨fun d5 => bad2 (fin2 (by omega) (by omega)), fun d5 => ?_⟩⟩⟩⟩⟩
      have hz := fin3 (by omega) (by omega)
      rw [addL_ok hz, hz]
      have c3 := C329.clone data (by omega)
      refine vc_path [.ret (.agg ((headL a).map dU)), .ret (dBy data)] ?_
      simp [setAt_all2, setAt_midL, setAt_end, hh, allD_lk, take_lk, -List.reduceReplicate]
      refine ⟨c2, c3, ⟨by omega, by omega⟩, rfl, ?_⟩
      rw [List.take_of_length_le (by simp)]
      exact LeD.refl _
  · have e : addE a node data.length = ckE a := by unfold addE; rw [if_pos h1]
    have e2 : addL a node data = [] := addL_bad (by omega)
    rw [e, e2]
    refine vc_path [.ret (dI (ckE a))] ?_
    simp [h1]
    exact c1
end Go.Proofs.YtfegfnekphobmaaDoor
end

section
namespace Go.Proofs.YtfegfnekphobmaaDoor
open Go Go.Proofs.YtfegfnekphobmaaDoor.AL
attribute [local simp] dZ_agg dZ_nt dZ_noTup dZ_cells dZ_one bz_toList bz_size strV dV_cells dV_isAgg dV_noTup dV_nt dBy_cells dBy_one dBy_agg dBy_noTup dBy_nt
attribute [local simp] dLk_cells dLk_isAgg dLk_noTup dLk_nt
set_option maxRecDepth 8000
/-! The values of the examples. -/
def hN : List UInt8 := headL []
theorem hN_len : hN.length = 32 := headL_len _
def K1 : Lk := mkLk [] 3 [120] (by omega) (by omega) (by simp)
def hA : List UInt8 := headL [K1]
theorem hA_len : hA.length = 32 := headL_len _
def K2 : Lk := mkLk [K1] 3 [121] (by omega) (by omega) (by simp)
def K3 : Lk := mkLk [K1] 3 [122] (by omega) (by omega) (by simp)
def K4 : Lk := ⟨0, 1, List.replicate 32 0, [], by simp, by omega, by omega⟩
theorem K1_n : K1.n = 3 := rfl
theorem K1_p : K1.p = hN := rfl
theorem K2_o : K2.o = 1 := rfl
theorem K2_p : K2.p = hA := rfl
theorem K2_d : K2.d = [121] := rfl
theorem ck_nil : ckE [] = 0 := by simp [ckE, allOk]
theorem e1 : addE [] 3 1 = 0 := addE_iff ck_nil (by omega) (by omega) (by simp) (by omega) (by simp)
theorem l1 : addL [] 3 [120] = [K1] := by
  rw [addL_ok (by exact e1)]; rfl
theorem ck1 : ckE [K1] = 0 := ckE_add (a := []) (node := 3) (data := [120]) e1 (by omega) (by omega) (by simp)
theorem e2 : addE [K1] 3 1 = 0 := addE_iff ck1 (by omega) (by omega) (by intro _; rfl) (by omega) (by simp)
theorem l2 : addL [K1] 3 [121] = [K1, K2] := by
  rw [addL_ok (by exact e2)]; rfl
theorem l3 : addL [K1] 3 [122] = [K1, K3] := by
  rw [addL_ok (by exact e2)]; rfl
theorem ck2 : ckE [K1, K2] = 0 := ckE_add (a := [K1]) (node := 3) (data := [121]) e2 (by omega) (by omega) (by simp)
theorem ck3 : ckE [K1, K3] = 0 := ckE_add (a := [K1]) (node := 3) (data := [122]) e2 (by omega) (by omega) (by simp)
theorem e4 : addE [] 24 0 = 1 := by simp [addE, ck_nil]
theorem l4 : addL [] 24 [] = [] := addL_bad (by rw [List.length_nil, e4]; omega)
theorem e5 : addE [K1] 4 0 = 1 := by
  unfold addE; rw [if_neg (by rw [ck1]; omega), if_pos]
  right; right; left
  exact ⟨by simp, by show (4 : Int) ≠ 3; omega⟩
theorem l5 : addL [K1] 4 [] = [] := addL_bad (by rw [List.length_nil, e5]; omega)
theorem K23 : K2 ≠ K3 := fun h => by
  have := congrArg Lk.d h
  simp [K2, K3, mkLk] at this
theorem p23 : prtE [K1, K2] [K1, K3] = 0 := by
  unfold prtE; rw [if_neg (by rw [ck2]; omega), if_neg (by rw [ck3]; omega), if_neg]
  rintro ⟨_, _, h⟩; exact h rfl
theorem r23 : prtR [K1, K2] [K1, K3] = (1, true) := by
  unfold prtR; rw [if_pos p23]; simp [difR, difF, K23]
theorem p12 : prtE [K1] [K1, K2] = 0 := by
  unfold prtE; rw [if_neg (by rw [ck1]; omega), if_neg (by rw [ck2]; omega), if_neg]
  rintro ⟨_, _, h⟩; exact h rfl
theorem r12 : prtR [K1] [K1, K2] = (0, false) := by
  unfold prtR; rw [if_pos p12]; simp [difR, difF]
theorem p01 : prtE [] [K1] = 0 := by
  unfold prtE; rw [if_neg (by rw [ck_nil]; omega), if_neg (by rw [ck1]; omega), if_neg]
  rintro ⟨h, _⟩; simp at h
theorem r01 : prtR [] [K1] = (0, false) := by
  unfold prtR; rw [if_pos p01]; simp [difR, difF]
theorem ck_bad {x : Lk} (h : x.o ≠ 0) : ckE [x] = 80 := by
  unfold ckE
  rw [if_neg (by simp), allOk_false (k := 0) (by simp [okAt]; intro _ _ _ h'; exact absurd h' h) (by simp)]
  rfl
theorem text1 : encV (linkV K1) = [3, 4, 1, 6, 1, 0, 2, 32] ++ hN ++ [2, 1, 120] := by
  rw [encV_linkV_eq, K1.hp]
  have h1 : numL 4 = [4] := by rw [numL]; rfl
  have h2 : numL (zz K1.n) = [6] := by rw [show zz K1.n = 6 from rfl, numL]; rfl
  have h3 : numL (zz K1.o) = [0] := by rw [show zz K1.o = 0 from rfl, numL]; rfl
  have h4 : numL 32 = [32] := by rw [numL]; rfl
  have h5 : numL K1.d.length = [1] := by rw [show K1.d.length = 1 from rfl, numL]; rfl
  rw [h1, h2, h3, h4, h5, K1_p]
  simp [K1, mkLk]
theorem head1 : hA = tagL [108, 105, 110, 107] ([3, 4, 1, 6, 1, 0, 2, 32] ++ hN ++ [2, 1, 120]) := by
  rw [← text1]; rfl
end Go.Proofs.YtfegfnekphobmaaDoor
end

section
namespace Go.Proofs.YtfegfnekphobmaaDoor
open Go Go.Proofs.YtfegfnekphobmaaDoor.AL
attribute [local simp] dZ_agg dZ_nt dZ_noTup dZ_cells dZ_one bz_toList bz_size strV dV_cells dV_isAgg dV_noTup dV_nt dBy_cells dBy_one dBy_agg dBy_noTup dBy_nt
attribute [local simp] dLk_cells dLk_isAgg dLk_noTup dLk_nt
set_option maxRecDepth 8000
set_option maxHeartbeats 4000000
inductive C332 : FuncId → List D → Out → Prop
  | a1 : C332 10 [.nil 0, dI 3, dBy [120]] (.ret (.tup [.sl 35 [dLk K1], dI 0]))
  | a2 : C332 10 [.sl 35 [dLk K1], dI 3, dBy [121]] (.ret (.tup [.sl 35 [dLk K1, dLk K2], dI 0]))
  | a3 : C332 10 [.sl 35 [dLk K1], dI 3, dBy [122]] (.ret (.tup [.sl 35 [dLk K1, dLk K3], dI 0]))
  | a4 : C332 10 [.nil 0, dI 24, .nil 0] (.ret (.tup [.sl 35 [], dI 1]))
  | a5 : C332 10 [.sl 35 [dLk K1], dI 4, .nil 0] (.ret (.tup [.sl 35 [], dI 1]))
  | p1 : C332 12 [.sl 35 [dLk K1, dLk K2], .sl 35 [dLk K1, dLk K3]] (.ret (.tup [dI 1, dB true, dI 0]))
  | p2 : C332 12 [.sl 35 [dLk K1], .sl 35 [dLk K1, dLk K2]] (.ret (.tup [dI 0, dB false, dI 0]))
  | p3 : C332 12 [.nil 0, .sl 35 [dLk K1]] (.ret (.tup [dI 0, dB false, dI 0]))
  | c1 : C332 16 [.nil 0] (.ret (dI 0))
  | c2 : C332 16 [.sl 35 [dLk K1, dLk K2]] (.ret (dI 0))
  | c3 : C332 16 [.sl 35 [.agg (dI 0 :: dI 1 :: (List.replicate 32 (D.lit (.int .u8 0)) ++ [.nil 1]))]] (.ret (dI 80))
  | c4 : C332 16 [.sl 35 [dLk K2]] (.ret (dI 80))
  | t1 : C332 19 [dZ [110, 111, 110, 101], .nil 0] (.ret (.agg (hN.map dU)))
  | t2 : C332 19 [dZ [108, 105, 110, 107], dBy ([3, 4, 1, 6, 1, 0, 2, 32] ++ hN ++ [2, 1, 120])] (.ret (.agg (hA.map dU)))
  | h1 : C332 15 [.nil 0] (.ret (.agg (hN.map dU)))
  | h2 : C332 15 [.sl 35 [dLk K1]] (.ret (.agg (hA.map dU)))
theorem h332 : ∀ f ds out, C332 f ds out → PCall Tryd.prog f ds out := by
  intro f ds out h
  have n1 : K1.d.length = 1 := rfl
  have n2 : K2.d.length = 1 := rfl
  have n3 : K3.d.length = 1 := rfl
  have n4 : K4.d.length = 0 := rfl
  cases h with
  | a1 =>
    have := add [] 3 [120] (by simp)
    rw [l1, show addE [] 3 ([120] : List UInt8).length = 0 from e1] at this
    exact this.le (.cons (LeD.nil' _ _) (.cons (LeD.refl _) (.cons (LeD.refl _) .nil)))
  | a2 =>
    have := add [K1] 3 [121] (by simp [n1])
    rw [l2, show addE [K1] 3 ([121] : List UInt8).length = 0 from e2] at this
    exact this
  | a3 =>
    have := add [K1] 3 [122] (by simp [n1])
    rw [l3, show addE [K1] 3 ([122] : List UInt8).length = 0 from e2] at this
    exact this
  | a4 =>
    have := add [] 24 [] (by simp)
    rw [l4, show addE [] 24 ([] : List UInt8).length = 1 from e4] at this
    exact this.le (.cons (LeD.nil' _ _) (.cons (LeD.refl _) (.cons (LeD.nil' _ _) .nil)))
  | a5 =>
    have := add [K1] 4 [] (by simp [n1])
    rw [l5, show addE [K1] 4 ([] : List UInt8).length = 1 from e5] at this
    exact this.le (.cons (LeD.refl _) (.cons (LeD.refl _) (.cons (LeD.nil' _ _) .nil)))
  | p1 =>
    have := part [K1, K2] [K1, K3] (by simp [n1, n2]) (by simp [n1, n3])
    rw [p23, r23] at this
    exact this
  | p2 =>
    have := part [K1] [K1, K2] (by simp [n1]) (by simp [n1, n2])
    rw [p12, r12] at this
    exact this
  | p3 =>
    have := part [] [K1] (by simp) (by simp [n1])
    rw [p01, r01] at this
    exact this.le (.cons (LeD.nil' _ _) (.cons (LeD.refl _) .nil))
  | c1 =>
    have := check [] (by simp)
    rw [ck_nil] at this
    exact this.le (.cons (LeD.nil' _ _) .nil)
  | c2 =>
    have := check [K1, K2] (by simp [n1, n2])
    rw [ck2] at this
    exact this
  | c3 =>
    have := check [K4] (by simp [n4])
    rw [ck_bad (by show (1 : Int) ≠ 0; omega)] at this
    refine this.le (.cons (LeD_sl ?_ rfl ?_ ?_) .nil)
    · simp [D.flat, dLk, K4, dU, D.cells]
      repeat' first | exact .nil | refine .cons (LeD.refl _) ?_ | refine .cons (LeD.nil' _ _) ?_
    · intro e he
      simp at he
      subst he
      exact dLk_len _
    · intro c hc
      simp [D.flat, K4, dU] at hc
      rcases hc with rfl | rfl | rfl | rfl <;> rfl
  | c4 =>
    have := check [K2] (by simp [n2])
    rw [ck_bad (by show (1 : Int) ≠ 0; omega)] at this
    exact this
  | t1 => exact (tagged [110, 111, 110, 101] [] (by simp) (by simp)).le (.cons (LeD.refl _) (.cons (LeD.nil' _ _) .nil))
  | t2 =>
    have := tagged [108, 105, 110, 107] ([3, 4, 1, 6, 1, 0, 2, 32] ++ hN ++ [2, 1, 120]) (by simp) (by simp [hN_len])
    rw [← head1] at this
    exact this
  | h1 => exact (head [] (by simp)).le (.cons (LeD.nil' _ _) .nil)
  | h2 => exact head [K1] (by simp [n1])
theorem sane : PCall Tryd.prog 8 [] (.ret (dB true)) := by
  refine pcall_of_vc h332 c8 (by simp [a8]) fun hr => ?_
  simp [a8, -List.reduceReplicate]
  refine vc_path [.ret (.tup [.sl 35 [dLk K1], dI 0])] ?_
  simp [D.flat, elsD]
  refine ⟨.a1, vc_path [.ret (.tup [.sl 35 [dLk K1, dLk K2], dI 0])] ?_⟩
  simp [D.flat, elsD]
  refine ⟨.a2, vc_path [.ret (.tup [.sl 35 [dLk K1, dLk K3], dI 0])] ?_⟩
  simp [D.flat, elsD]
  refine ⟨.a3, vc_path [.ret (.tup [.sl 35 [], dI 1])] ?_⟩
  simp [D.flat, elsD]
  refine ⟨.a4, vc_path [.ret (.tup [.sl 35 [], dI 1])] ?_⟩
  simp [D.flat, elsD]
  refine ⟨.a5, vc_path [.ret (.tup [dI 1, dB true, dI 0])] ?_⟩
  simp [D.flat, elsD]
  refine ⟨.p1, vc_path [.ret (.tup [dI 0, dB false, dI 0])] ?_⟩
  simp [D.flat, elsD]
  refine ⟨.p2, vc_path [.ret (.tup [dI 0, dB false, dI 0])] ?_⟩
  simp [D.flat, elsD]
  refine ⟨.p3, vc_path [] ?_⟩
  simp
  refine vc_path [.ret (dI 0), .ret (dI 0), .ret (dI 80), .ret (dI 80)] ?_
  simp [-List.reduceReplicate]
  refine ⟨.c1, .c2, .c3, .c4, vc_path [.ret (.agg (hN.map dU))] ?_⟩
  simp [setAt_all, hN_len, allD_dU, elsD_dU _ _ hN_len, -List.reduceReplicate]
  refine ⟨.t1, ?_⟩
  have hT : List.take 32 (hN.map (AV.d ∘ dU)) = hN.map (AV.d ∘ dU) := List.take_of_length_le (by simp [hN_len])
  refine vc_pathD [.ret (.agg (hN.map dU)), .ret (.agg (hA.map dU)), .ret (.agg (hA.map dU)), .ret (.agg (hA.map dU))] ?_
  simp (config := { maxSteps := 600000 }) [hT, K1_p, K2_p, K2_o, K2_d, dBy, hN_len, hA_len, allD_dU, eqC_dU hN_len hN_len, eqC_dU hA_len hA_len, eqB_dU]
  refine ⟨.h1, .h2, ?_, .h2, rfl, rfl, ?_⟩
  · have t := C332.t2
    simp only [dBy, List.map_append, List.map_cons, List.map_nil, List.cons_append, List.nil_append, List.append_assoc] at t
    exact t
  · rw [show [dU 121] = [(121 : UInt8)].map dU from rfl, bytesOf_map, bz_toList]
    exact LeD.refl _
end Go.Proofs.YtfegfnekphobmaaDoor
end

section
namespace Go.Proofs.YtfegfnekphobmaaDoor
open Go Go.Proofs.YtfegfnekphobmaaDoor.AL
attribute [local simp] dZ_agg dZ_nt dZ_noTup dZ_cells dZ_one bz_toList bz_size strV dV_cells dV_isAgg dV_noTup dV_nt dBy_cells dBy_one dBy_agg dBy_noTup dBy_nt
attribute [local simp] dLk_cells dLk_isAgg dLk_noTup dLk_nt
set_option maxRecDepth 8000
set_option maxHeartbeats 4000000
inductive C333 : FuncId → List D → Out → Prop
  | head (l : List Lk) (hd : ∀ x ∈ l, x.d.length ≤ 100000) : C333 15 [.sl 35 (l.map dLk)] (.ret (.agg ((headL l).map dU)))
  | text (l : List Lk) (hd : ∀ x ∈ l, x.d.length ≤ 100000) : C333 31 [.sl 35 (l.map dLk)] (.ret (.tup [dZ (textL l).1, dBy (textL l).2]))
theorem h333 : ∀ f ds out, C333 f ds out → PCall Tryd.prog f ds out := by
  intro f ds out h
  cases h with
  | head l hd => exact head l hd
  | text l hd => exact refText l hd
theorem clash (a b : List Lk) (ha : ∀ x ∈ a, x.d.length ≤ 100000) (hb : ∀ x ∈ b, x.d.length ≤ 100000) : PCall Tryd.prog 17 [.sl 35 (a.map dLk), .sl 35 (b.map dLk)] (.ret (dB (clashL a b))) := by
  refine pcall_of_vc h333 c17 (by simp [a17]) fun hr => ?_
  have t1 := C333.text a ha
  have t2 := C333.text b hb
  have h1 := C333.head a ha
  have h2 := C333.head b hb
  have l1 := headL_len a
  have l2 := headL_len b
  unfold clashL
  generalize textL a = ta at *
  generalize textL b = tb at *
  generalize headL a = A at *
  generalize headL b = B at *
  obtain ⟨sa, xa⟩ := ta
  obtain ⟨sb, xb⟩ := tb
  simp [a17]
  refine vc_path [.ret (.tup [dZ sa, dBy xa])] ?_
  simp
  refine ⟨t1, vc_path [.ret (.tup [dZ sb, dBy xb])] ?_⟩
  simp
  refine ⟨t2, ?_⟩
  clear t1 t2
  refine vc_path [.ret (.agg (A.map dU)), .ret (.agg (B.map dU))] ?_
  simp [dZ, dBy, bytesOf_map, eqC_dU l1 l2, eqB_dU _ _ (l1.trans l2.symm)]
  refine ⟨fun hs => ⟨h1, h2, leD_of_eq (by simp [hs])⟩, fun hs => ⟨fun _ _ => rfl, fun _ _ => rfl, fun hx => ⟨h1, h2, leD_of_eq (by simp [hx])⟩, fun hx => leD_of_eq (by simp [hs, hx])⟩⟩
inductive C334 : FuncId → List D → Out → Prop
  | sane : C334 8 [] (.ret (dB true))
  | few (l : List Lk) : C334 9 [.sl 35 (l.map dLk)] (.ret (dB (fewL l)))
  | same (a b : List Lk) : C334 14 [.sl 35 (a.map dLk), .sl 35 (b.map dLk)] (.ret (dB (decide (a = b))))
  | sl (x y : Lk) : C334 18 [dLk x, dLk y] (.ret (dB (decide (x = y))))
  | head (l : List Lk) (hd : ∀ x ∈ l, x.d.length ≤ 100000) : C334 15 [.sl 35 (l.map dLk)] (.ret (.agg ((headL l).map dU)))
  | check (l : List Lk) (hd : ∀ x ∈ l, x.d.length ≤ 100000) : C334 16 [.sl 35 (l.map dLk)] (.ret (dI (ckE l)))
  | clash (a b : List Lk) (ha : ∀ x ∈ a, x.d.length ≤ 100000) (hb : ∀ x ∈ b, x.d.length ≤ 100000) : C334 17 [.sl 35 (a.map dLk), .sl 35 (b.map dLk)] (.ret (dB (clashL a b)))
  | part (a b : List Lk) (ha : ∀ x ∈ a, x.d.length ≤ 100000) (hb : ∀ x ∈ b, x.d.length ≤ 100000) : C334 12 [.sl 35 (a.map dLk), .sl 35 (b.map dLk)] (.ret (.tup [dI (prtR a b).1, dB (prtR a b).2, dI (prtE a b)]))
  | add (a : List Lk) (node : Int) (data : List UInt8) (ha : ∀ x ∈ a, x.d.length ≤ 100000) : C334 10 [.sl 35 (a.map dLk), dI node, dBy data] (.ret (.tup [.sl 35 ((addL a node data).map dLk), dI (addE a node data.length)]))
theorem h334 : ∀ f ds out, C334 f ds out → PCall Tryd.prog f ds out := by
  intro f ds out h
  cases h with
  | sane => exact sane
  | few l => exact few l
  | same a b => exact same a b
  | sl x y => exact sameLink x y
  | head l hd => exact head l hd
  | check l hd => exact check l hd
  | clash a b ha hb => exact clash a b ha hb
  | part a b ha hb => exact part a b ha hb
  | add a n d ha => exact add a n d ha
theorem few_d {l : List Lk} (h : fewL l = true) : l.length ≤ 16 ∧ ∀ x ∈ l, x.d.length ≤ 300 := by
  unfold fewL at h
  simp at h
  exact h
end Go.Proofs.YtfegfnekphobmaaDoor
end

section
namespace Go.Proofs.YtfegfnekphobmaaDoor
open Go Go.Proofs.YtfegfnekphobmaaDoor.AL
attribute [local simp] dZ_agg dZ_nt dZ_noTup dZ_cells dZ_one bz_toList bz_size strV dV_cells dV_isAgg dV_noTup dV_nt dBy_cells dBy_one dBy_agg dBy_noTup dBy_nt
attribute [local simp] dLk_cells dLk_isAgg dLk_noTup dLk_nt
set_option maxRecDepth 8000
set_option maxHeartbeats 4000000
theorem min_if (a b : Nat) : (if b < a then (b : Int) else (a : Int)) = ((min a b : Nat) : Int) := by
  split <;> omega
theorem chainParts (a b : List Lk) : PCall Tryd.prog 7 [.sl 35 (a.map dLk), .sl 35 (b.map dLk)] (.ret (dB true)) := by
  refine pcall_of_vc h334 c7 (by simp [a7]) fun hr => ?_
  have c1 := C334.few a
  have c2 := C334.few b
  simp [a7]
  refine vc_path [.ret (dB true)] ?_
  simp
  refine ⟨.sane, ?_⟩
  by_cases ha : fewL a = true
  case neg =>
    have ha : fewL a = false := by simpa using ha
    rw [ha] at c1
    refine vc_path [.ret (dB false)] ?_
    simp
    exact c1
  by_cases hb : fewL b = true
  case neg =>
    have hb : fewL b = false := by simpa using hb
    rw [ha] at c1
    rw [hb] at c2
    refine vc_path [.ret (dB true), .ret (dB false)] ?_
    simp
    exact ⟨c1, c2⟩
  have a1 : ∀ x ∈ a, x.d.length ≤ 100000 := fun x hx => by have := (few_d ha).2 x hx; omega
  have b1 : ∀ x ∈ b, x.d.length ≤ 100000 := fun x hx => by have := (few_d hb).2 x hx; omega
  have hla := (few_d ha).1
  have hlb := (few_d hb).1
  rw [ha] at c1
  rw [hb] at c2
  have p1 := C334.part a b a1 b1
  have p2 := C334.part b a b1 a1
  refine vc_path [.ret (dB true), .ret (dB true)] ?_
  simp
  refine ⟨c1, c2, ?_⟩
  by_cases he : prtE a b = 0
  case neg =>
    have hf := parts_law a b he
    have e1 : prtR a b = (0, false) := by unfold prtR; rw [if_neg he]
    have e2 : prtR b a = (0, false) := by unfold prtR; rw [if_neg hf]
    rw [e1] at p1
    rw [e2] at p2
    generalize prtE a b = x at *
    generalize prtE b a = y at *
    refine vc_path [.ret (.tup [dI 0, dB false, dI x])] ?_
    simp
    refine ⟨p1, vc_path [.ret (.tup [dI 0, dB false, dI y])] ?_⟩
    simp [he]
    refine ⟨p2, vc_path [] ?_⟩
    simp
    exact leD_of_eq (by have h : (y != 0) = true := by simpa using hf
                        rw [h])
  have hf : prtE b a = 0 := by
    by_cases h : prtE b a = 0
    · exact h
    · exact absurd he (parts_law b a h)
  have e1 : prtR a b = difR a b := by unfold prtR; rw [if_pos he]
  have e2 : prtR b a = difR a b := by unfold prtR; rw [if_pos hf]; unfold difR; rw [difF_comm]
  rw [e1, he] at p1
  rw [e2, hf] at p2
  cases hd : difF a b with
  | none =>
    have e3 : difR a b = (0, false) := by unfold difR; rw [hd]
    have e4 := difF_take a b hd
    rw [e3] at p1 p2
    have s1 := C334.same (a.take (min a.length b.length)) (b.take (min a.length b.length))
    rw [decide_eq_true e4] at s1
    refine vc_path [.ret (.tup [dI 0, dB false, dI 0])] ?_
    simp
    refine ⟨p1, vc_path [.ret (.tup [dI 0, dB false, dI 0])] ?_⟩
    simp
    refine ⟨p2, vc_path [] ?_⟩
    simp
    rw [min_if]
    refine vc_pathD [.ret (dB true)] ?_
    simp
    rw [List.map_take, List.map_take] at s1
    exact ⟨by omega, by omega, s1, rfl⟩
  | some i =>
    have e3 : difR a b = ((i : Int), true) := by unfold difR; rw [hd]
    obtain ⟨i1, i2, i3, i4⟩ := difF_get a b i hd
    rw [e3] at p1 p2
    have s1 := C334.same (a.take i) (b.take i)
    rw [decide_eq_true i3] at s1
    have s2 := C334.sl a[i] b[i]
    rw [decide_eq_false i4] at s2
    have q1 := (a[i]).hp
    have q2 := (b[i]).hp
    refine vc_path [.ret (.tup [dI i, dB true, dI 0])] ?_
    simp
    refine ⟨p1, vc_path [.ret (.tup [dI i, dB true, dI 0])] ?_⟩
    simp
    refine ⟨p2, vc_path [] ?_⟩
    simp
    rw [min_if]
    refine vc_pathD [.ret (dB true), .ret (dB false)] ?_
    simp [i1, i2, q1, q2]
    rw [List.map_take, List.map_take] at s1
    refine ⟨fun _ => ⟨by omega, by omega, s1, s2, rfl⟩, fun h => ?_⟩
    exact absurd h (by omega)
end Go.Proofs.YtfegfnekphobmaaDoor
end

section
namespace Go.Proofs.YtfegfnekphobmaaDoor
open Go Go.Proofs.YtfegfnekphobmaaDoor.AL
attribute [local simp] dZ_agg dZ_nt dZ_noTup dZ_cells dZ_one bz_toList bz_size strV dV_cells dV_isAgg dV_noTup dV_nt dBy_cells dBy_one dBy_agg dBy_noTup dBy_nt
attribute [local simp] dLk_cells dLk_isAgg dLk_noTup dLk_nt
set_option maxRecDepth 8000
set_option maxHeartbeats 4000000
theorem chainEqual (a b : List Lk) : PCall Tryd.prog 5 [.sl 35 (a.map dLk), .sl 35 (b.map dLk)] (.ret (dB true)) := by
  refine pcall_of_vc h334 c5 (by simp [a5]) fun hr => ?_
  have c1 := C334.few a
  have c2 := C334.few b
  simp [a5]
  refine vc_path [.ret (dB true)] ?_
  simp
  refine ⟨.sane, ?_⟩
  by_cases ha : fewL a = true
  case neg =>
    have ha : fewL a = false := by simpa using ha
    rw [ha] at c1
    refine vc_path [.ret (dB false)] ?_
    simp
    exact c1
  by_cases hb : fewL b = true
  case neg =>
    have hb : fewL b = false := by simpa using hb
    rw [ha] at c1
    rw [hb] at c2
    refine vc_path [.ret (dB true), .ret (dB false)] ?_
    simp
    exact ⟨c1, c2⟩
  have a1 : ∀ x ∈ a, x.d.length ≤ 100000 := fun x hx => by have := (few_d ha).2 x hx; omega
  have b1 : ∀ x ∈ b, x.d.length ≤ 100000 := fun x hx => by have := (few_d hb).2 x hx; omega
  have hla := (few_d ha).1
  have hlb := (few_d hb).1
  rw [ha] at c1
  rw [hb] at c2
  have k1 := C334.check a a1
  have k2 := C334.check b b1
  by_cases h1 : ckE a = 0
  case neg =>
    generalize ckE a = x at *
    refine vc_path [.ret (dB true), .ret (dB true), .ret (dI x)] ?_
    simp [h1]
    exact ⟨c1, c2, k1⟩
  by_cases h2 : ckE b = 0
  case neg =>
    rw [h1] at k1
    generalize ckE b = x at *
    refine vc_path [.ret (dB true), .ret (dB true), .ret (dI 0), .ret (dI x)] ?_
    simp [h2]
    exact ⟨c1, c2, k1, k2⟩
  rw [h1] at k1
  rw [h2] at k2
  by_cases h3 : a.length = b.length
  case neg =>
    have h3' : ¬ (a.length : Int) = b.length := by omega
    refine vc_path [.ret (dB true), .ret (dB true), .ret (dI 0), .ret (dI 0)] ?_
    simp [h3, h3']
    exact ⟨c1, c2, k1, k2⟩
  have g1 := C334.head a a1
  have g2 := C334.head b b1
  have l1 := headL_len a
  have l2 := headL_len b
  have hlaw := equal_law a b h1 h2 h3
  have s1 := C334.same a b
  generalize headL a = A at *
  generalize headL b = B at *
  refine vc_path [.ret (dB true), .ret (dB true), .ret (dI 0), .ret (dI 0), .ret (.agg (A.map dU)), .ret (.agg (B.map dU))] ?_
  simp [h3, eqC_dU l1 l2, eqB_dU _ _ (l1.trans l2.symm)]
  refine ⟨c1, c2, k1, k2, g1, g2, fun hAB => ?_⟩
  by_cases hs : a = b
  · rw [decide_eq_true hs] at s1
    refine vc_path [.ret (dB true)] ?_
    simp
    exact s1
  rw [decide_eq_false hs] at s1
  refine vc_path [.ret (dB false)] ?_
  simp
  refine ⟨s1, ?_⟩
  refine vc_loopK [0, 1] Nat (fun i => [(5, true, .d (dI i))]) (fun _ => []) (fun i => 1 ≤ i ∧ i ≤ a.length + 1 ∧ ∀ j, 1 ≤ j → j < i → clashL (a.take j) (b.take j) = false) (fun i => a.length + 1 - i) 1 (by simp; intro j hj hj'; omega) ⟨[], [], ?_⟩ (fun i hi => ?_)
  · simp
  · obtain ⟨hi1, hi2, hno⟩ := hi
    simp
    refine ⟨fun hle => ?_, fun hgt => ?_⟩
    · have hle' : i ≤ b.length := by omega
      have kc := C334.clash (a.take i) (b.take i) (fun x hx => a1 x (List.mem_of_mem_take hx)) (fun x hx => b1 x (List.mem_of_mem_take hx))
      generalize hcl : clashL (a.take i) (b.take i) = c at *
      refine vc_pathD [.ret (dB c)] ?_
      simp [hle, hle']
      rw [List.map_take, List.map_take] at kc
      refine ⟨kc, rfl, fun hc => ⟨i + 1, ⟨by omega, by omega, fun j hj hj' => ?_⟩, by omega, [], [], ?_⟩⟩
      · rcases Nat.lt_or_ge j i with h | h
        · exact hno j hj h
        · have hji : j = i := by omega
          rw [hji, hcl]; exact hc
      · rw [wrap64 (by omega)]
        simp
    · exact absurd (hlaw hAB (fun j hj hj' => hno j hj (by omega))) hs
end Go.Proofs.YtfegfnekphobmaaDoor
end

section
namespace Go.Proofs.YtfegfnekphobmaaDoor
open Go Go.Proofs.YtfegfnekphobmaaDoor.AL
attribute [local simp] dZ_agg dZ_nt dZ_noTup dZ_cells dZ_one bz_toList bz_size strV dV_cells dV_isAgg dV_noTup dV_nt dBy_cells dBy_one dBy_agg dBy_noTup dBy_nt
attribute [local simp] dLk_cells dLk_isAgg dLk_noTup dLk_nt
set_option maxRecDepth 8000
set_option maxHeartbeats 4000000
theorem allD_lkD (p : List UInt8) (d : D) : allD (p.map (AV.d ∘ dU) ++ [AV.d d]) = some (p.map dU ++ [d]) := by
  induction p with
  | nil => rfl
  | cons a r ih => simp [allD, ih]
theorem dLk_raw (x : Lk) : D.agg (D.lit (Value.int IntKind.i64 x.n) :: D.lit (Value.int IntKind.i64 x.o) :: (x.p.map dU ++ [D.sl 1 (x.d.map dU)])) = dLk x := rfl
theorem setk (l : List Lk) (k : Nat) (x : Lk) (hk : k < l.length) : setAt (((wr (l.map dLk)).set (k * 35) (AV.d (D.lit (Value.int IntKind.i64 x.n)))).set (k * 35 + 1) (AV.d (D.lit (Value.int IntKind.i64 x.o)))) (k * 35 + 1 + 1) (x.p.map (AV.d ∘ dU) ++ [AV.d (dBy x.d)]) = wr ((l.set k x).map dLk) := by
  have e0 : setAt (((wr (l.map dLk)).set (k * 35) (AV.d (D.lit (Value.int IntKind.i64 x.n)))).set (k * 35 + 1) (AV.d (D.lit (Value.int IntKind.i64 x.o)))) (k * 35 + 1 + 1) (x.p.map (AV.d ∘ dU) ++ [AV.d (dBy x.d)]) = setAt (wr (l.map dLk)) (k * 35) ((dLk x).cells.map AV.d) := by
    have : (dLk x).cells.map AV.d = AV.d (D.lit (Value.int IntKind.i64 x.n)) :: AV.d (D.lit (Value.int IntKind.i64 x.o)) :: (x.p.map (AV.d ∘ dU) ++ [AV.d (dBy x.d)]) := by simp [dLk_cells]
    rw [this]; rfl
  have hf : ∀ l : List Lk, (D.flat (l.map dLk)).length = l.length * 35 := fun l => by
    have := flat_len (sz := 35) (es := l.map dLk) (fun e he => by
      obtain ⟨y, _, rfl⟩ := List.mem_map.1 he
      exact dLk_len y)
    simpa using this
  have hz : D.flat (l.map dLk) = D.flat ((l.take k).map dLk) ++ ((dLk l[k]).cells ++ D.flat ((l.drop (k + 1)).map dLk)) := by
    conv => lhs; rw [← List.take_append_drop k l, List.drop_eq_getElem_cons hk]
    rw [List.map_append, List.map_cons]
    unfold D.flat
    rw [List.flatMap_append, List.flatMap_cons]
  have ht := hf (l.take k)
  rw [List.length_take, Nat.min_eq_left (by omega)] at ht
  rw [e0]
  unfold wr
  rw [setAt_map _ _ _ (by rw [hf, dLk_len]; omega), List.set_eq_take_append_cons_drop, if_pos hk]
  congr 1
  unfold spl
  rw [dLk_len, hz, List.take_left' ht, ← List.append_assoc (D.flat _), List.drop_left' (by rw [List.length_append, ht, dLk_len])]
  simp [D.flat]
theorem chunkD_app {z : Nat} : ∀ (n : Nat) (ds r : List D), n * z ≤ ds.length → chunkD z n (ds ++ r) = chunkD z n ds
  | 0, _, _, _ => rfl
  | n + 1, ds, r, h => by
    rw [Nat.add_mul] at h
    simp only [chunkD]
    rw [List.take_append_of_le_length (by omega), List.drop_append_of_le_length (by omega), chunkD_app n _ r (by simp; omega)]
theorem elsD_lks (m : List Lk) (j : Nat) (h : j ≤ m.length) : elsD 35 j (D.flat (m.map dLk)) = (m.take j).map dLk := by
  have h1 : ∀ e ∈ (m.take j).map dLk, e.isAgg = true ∧ e.cells.length = 35 := fun e he => by
    obtain ⟨y, _, rfl⟩ := List.mem_map.1 he
    exact ⟨rfl, dLk_len y⟩
  have hl : ((m.take j).map dLk).length = j := by simp; omega
  have hf : (D.flat ((m.take j).map dLk)).length = j * 35 := by rw [flat_len (fun e he => (h1 e he).2), hl]
  unfold elsD
  rw [if_neg (by omega)]
  have e : D.flat (m.map dLk) = D.flat ((m.take j).map dLk) ++ D.flat ((m.drop j).map dLk) := by
    conv => lhs; rw [← List.take_append_drop j m, List.map_append]
    unfold D.flat
    rw [List.flatMap_append]
  rw [e, chunkD_app j _ _ (by omega)]
  have := chunkD_wr (z := 35) ((m.take j).map dLk) h1
  rw [hl] at this
  exact this
theorem chainChanged (l : List Lk) (at_ : UInt8) (x : Lk) : PCall Tryd.prog 6 [.sl 35 (l.map dLk), dU at_, dLk x] (.ret (dB true)) := by
  refine pcall_of_vc h334 c6 (by simp [a6]) fun hr => ?_
  have c1 := C334.few l
  have hxp := x.hp
  simp [a6]
  refine vc_path [.ret (dB true)] ?_
  simp
  refine ⟨.sane, ?_⟩
  by_cases ha : fewL l = true
  case neg =>
    have ha : fewL l = false := by simpa using ha
    rw [ha] at c1
    refine vc_path [.ret (dB false)] ?_
    simp
    exact c1
  have a1 : ∀ x ∈ l, x.d.length ≤ 100000 := fun x hx => by have := (few_d ha).2 x hx; omega
  have hla := (few_d ha).1
  rw [ha] at c1
  by_cases h0 : l = []
  · subst h0
    refine vc_path [.ret (dB true)] ?_
    simp
    exact c1
  have h0' : 0 < l.length := List.length_pos_iff.2 h0
  by_cases hd : 300 < x.d.length
  · have hd' : (300 : Int) < x.d.length := by omega
    refine vc_path [.ret (dB true)] ?_
    simp [h0, dBy, hd', hxp]
    exact c1
  have hd' : ¬ (300 : Int) < x.d.length := by omega
  have k1 := C334.check l a1
  by_cases h1 : ckE l = 0
  case neg =>
    generalize ckE l = y at *
    refine vc_path [.ret (dB true), .ret (dI y)] ?_
    simp [h0, dBy, hd', hxp, h1]
    exact ⟨c1, k1⟩
  rw [h1] at k1
  refine vc_path [.ret (dB true), .ret (dI 0)] ?_
  obtain ⟨k, hk⟩ : ∃ k, k = at_.toNat % l.length := ⟨_, rfl⟩
  have hkl : k < l.length := by rw [hk]; exact Nat.mod_lt _ h0'
  have hkw : (IntKind.i64.wrap (at_.toNat : Int)).tmod (l.length : Int) = (k : Nat) := by
    have := at_.toNat_lt
    rw [wrap64 (by omega), Int.tmod_eq_emod_of_nonneg (by omega), hk]
    rfl
  have s1 := C334.sl l[k] x
  have q1 := (l[k]).hp
  simp [h0, h0', dBy, hd', hxp, dU, hkw]
  refine ⟨c1, k1, ?_⟩
  by_cases hs : l[k] = x
  · rw [decide_eq_true hs] at s1
    refine vc_pathD [.ret (dB true)] ?_
    simp [hkl, q1, hxp, allD_lkD, take_lk, dLk_raw]
    exact ⟨s1, rfl⟩
  rw [decide_eq_false hs] at s1
  refine vc_pathD [.ret (dB false)] ?_
  simp [hkl, q1, hxp, allD_lkD, take_lk, dLk_raw]
  have hfl : (D.flat (l.map dLk)).length = l.length * 35 := by
    have := flat_len (sz := 35) (es := l.map dLk) (fun e he => by
      obtain ⟨y, _, rfl⟩ := List.mem_map.1 he
      exact dLk_len y)
    simpa using this
  have hk35 : k * 35 + 35 ≤ l.length * 35 := by omega
  refine ⟨s1, rfl, ⟨h0, by omega, by omega⟩, by rw [hfl]; exact hk35, ?_⟩
  rw [setk l k x hkl]
  obtain ⟨m, hm⟩ : ∃ m, m = l.set k x := ⟨_, rfl⟩
  rw [← hm]
  have hml : m.length = l.length := by rw [hm]; simp
  have hmd : ∀ y ∈ m, y.d.length ≤ 100000 := fun y hy => by
    rw [hm] at hy
    rcases List.mem_or_eq_of_mem_set hy with hy | rfl
    · exact a1 y hy
    · omega
  have c2 := C334.check m hmd
  have hfm : (D.flat (m.map dLk)).length = l.length * 35 := by
    have := flat_len (sz := 35) (es := m.map dLk) (fun e he => by
      obtain ⟨y, _, rfl⟩ := List.mem_map.1 he
      exact dLk_len y)
    rw [← hml]
    simpa using this
  have hall : allD1 (wr (m.map dLk)) = some (D.flat (m.map dLk)) := by
    unfold wr
    generalize D.flat (m.map dLk) = z
    induction z with
    | nil => rfl
    | cons a r ih => simp [allD1, ih, AV.toD1]
  have hels : elsD 35 l.length (D.flat (m.map dLk)) = m.map dLk := by
    unfold elsD
    rw [if_neg (by omega)]
    have := chunkD_wr (z := 35) (m.map dLk) (fun e he => by
      obtain ⟨y, _, rfl⟩ := List.mem_map.1 he
      exact ⟨rfl, dLk_len y⟩)
    rw [List.length_map, hml] at this
    exact this
  by_cases h2 : ckE m = 0
  case neg =>
    generalize ckE m = y at *
    refine vc_path [.ret (dI y)] ?_
    simp [h2, hall, hels, hfm]
    exact ⟨c2, .lit _⟩
  rw [h2] at c2
  refine vc_path [.ret (dI 0)] ?_
  simp [hall, hels, hfm]
  refine ⟨c2, .lit _, fun hk1 => ?_⟩
  have hw1 : IntKind.i64.wrap ((l.length : Int) - 1) = l.length - 1 := wrap64 (by omega)
  rw [hw1] at hk1
  have hk2 : k + 1 < l.length := by omega
  have hlaw := changed_law l k x hk2 hs h1 (by rw [← hm]; exact h2)
  rw [← hm] at hlaw
  have cc := C334.clash (l.take (k + 1)) (m.take (k + 1)) (fun y hy => a1 y (List.mem_of_mem_take hy)) (fun y hy => hmd y (List.mem_of_mem_take hy))
  rw [hlaw] at cc
  have hw2 : IntKind.i64.wrap ((k : Int) + 1) = (k + 1 : Nat) := by rw [wrap64 (by omega)]; omega
  refine vc_pathD [.ret (dB true)] ?_
  have hb : bslV 1 0 35 (k + 1) l.length = .bsl 1 0 35 (k + 1) l.length := if_neg (by omega)
  have he2 := elsD_lks m (k + 1) (by omega)
  have hk4 : (k + 1) * 35 ≤ l.length * 35 := by omega
  simp [hall, hels, hfm, hw2, hb, he2, hk4]
  rw [List.map_take, List.map_take] at cc
  exact ⟨⟨by omega, by omega⟩, cc, .lit _, rfl⟩
end Go.Proofs.YtfegfnekphobmaaDoor
end

section
namespace Go.Proofs.YtfegfnekphobmaaDoor
open Go Go.Proofs.YtfegfnekphobmaaDoor.AL
attribute [local simp] dZ_agg dZ_nt dZ_noTup dZ_cells dZ_one bz_toList bz_size strV dV_cells dV_isAgg dV_noTup dV_nt dBy_cells dBy_one dBy_agg dBy_noTup dBy_nt
attribute [local simp] dLk_cells dLk_isAgg dLk_noTup dLk_nt
set_option maxRecDepth 8000
set_option maxHeartbeats 4000000
def BtI (node : Int) (n : Nat) (x : List Lk) : Prop := x.length ≤ n ∧ ckE x = 0 ∧ (0 < x.length → node = n0 x) ∧ ∀ y ∈ x, y.d.length ≤ 300
theorem bt_step {node : Int} {n : Nat} {x : List Lk} (h : BtI node n x) (h1 : 0 ≤ node) (h2 : node < 24) (hn : n ≤ 12) (hx : x.length < n) (d : List UInt8) (hd : d.length ≤ 300) :
    ∃ (K : Lk) (ys : List Lk), addE x node d.length = 0 ∧ addL x node d = ys ∧ ys.length = x.length + 1 ∧ ys[x.length]? = some K ∧ ys.take x.length = x ∧ K.n = node ∧ K.o = x.length ∧ K.p = headL x ∧ K.d = d ∧ BtI node n ys := by
  obtain ⟨q1, q2, q3, q4⟩ := h
  have e := addE_iff (n := d.length) q2 h1 h2 q3 (by omega) (by omega)
  refine ⟨mkLk x node d h1 h2 (by omega), x ++ [mkLk x node d h1 h2 (by omega)], e, addL_ok e, by simp, by simp, by simp, rfl, rfl, rfl, rfl, by simp; omega, ckE_add e h1 h2 (by omega), fun _ => ?_, fun y hy => ?_⟩
  · cases x with
    | nil => simp [n0, mkLk]
    | cons z r => simpa [n0] using q3 (by simp)
  · rcases List.mem_append.1 hy with hy | hy
    · exact q4 y hy
    · rw [List.mem_singleton.1 hy]; exact hd
theorem chainBuilt (node : Int) (l : List (List UInt8)) : PCall Tryd.prog 4 [dI node, .sl 1 (l.map dBy)] (.ret (dB true)) := by
  refine pcall_of_vc h334 c4 (by simp [a4]) fun hr => ?_
  simp [a4]
  refine vc_path [.ret (dB true)] ?_
  simp
  refine ⟨.sane, vc_path [] ?_⟩
  simp
  refine fun hl => fun h1 => fun h2 => ?_
  refine vc_loopK [0, 1] (List Lk) (fun x => [(5, true, .d (.sl 35 (x.map dLk))), (6, true, .d (dI x.length))]) (fun _ => []) (fun x => BtI node l.length x) (fun x => l.length - x.length) [] ⟨by simp, ck_nil, by simp, by simp⟩ ⟨[], [], ?_⟩ (fun x hx => ?_)
  · simp
  · have hxl := hx.1
    simp
    refine ⟨fun hlt => ?_, fun hge => ?_⟩
    · simp [hlt, dBy]
      refine fun hle => ?_
      obtain ⟨K, ys, y1, y2, y3, y4, y5, y6, y7, y8, y9, y10⟩ := bt_step hx h1 h2 (by omega) hlt l[x.length] (by omega)
      have ca := C334.add x node l[x.length] (fun y hy => by have := hx.2.2.2 y hy; omega)
      rw [y1, y2] at ca
      have cs := C334.same x x
      rw [decide_eq_true rfl] at cs
      have ch := C334.head x (fun y hy => by have := hx.2.2.2 y hy; omega)
      have q1 := K.hp
      have q2 := headL_len x
      refine vc_path [.ret (.tup [.sl 35 (ys.map dLk), dI 0])] ?_
      simp [hlt]
      refine ⟨ca, ?_⟩
      have y0 : x.length < ys.length := by omega
      have y11 : ys[x.length] = K := by rw [List.getElem?_eq_getElem y0] at y4; exact Option.some.inj y4
      have w1 : IntKind.i64.wrap ((x.length : Int) + 1) = x.length + 1 := wrap64 (by omega)
      have t1 : List.take x.length (ys.map dLk) = x.map dLk := by rw [← List.map_take, y5]
      refine vc_pathD [.ret (dB true), .ret (.agg ((headL x).map dU))] ?_
      simp [w1, y3, y4, y11, t1, q1, q2, y6, y7, y8, y9, hlt, dBy, eqC_dU q2 q2, eqB_dU]
      refine ⟨by omega, cs, by omega, ch, by omega, fun _ _ => rfl, rfl, ys, y10, by omega, [], [], ?_⟩
      simp [y3]
    · refine vc_loopK [0, 1, 5] Nat (fun i => [(9, true, .d (dI i))]) (fun _ => []) (fun i => i ≤ x.length + 1) (fun i => x.length + 1 - i) 0 (by simp) ⟨[], [], ?_⟩ (fun i hi => ?_)
      · simp
      · simp
        refine fun hle => ?_
        · have cc := C334.check (x.take i) (fun y hy => by have := hx.2.2.2 y (List.mem_of_mem_take hy); omega)
          rw [ckE_take hx.2.1] at cc
          refine vc_path [.ret (dI 0)] ?_
          simp [hle]
          rw [List.map_take] at cc
          refine ⟨cc, i + 1, by omega, by omega, [], [], ?_⟩
          rw [wrap64 (by omega)]
          simp
end Go.Proofs.YtfegfnekphobmaaDoor
end

section
namespace Go.Proofs.YtfegfnekphobmaaDoor
open Go Go.Proofs.YtfegfnekphobmaaDoor.AL
/-! The reference's SHA-256 in plain terms, and that it is the same. -/
theorem u32_ext {x y : UInt32} (h : x.toBitVec = y.toBitVec) : x = y := UInt32.toBitVec_inj.1 h
theorem ch_eq (e f g : UInt32) : (e &&& f) ^^^ (~~~e &&& g) = g ^^^ e &&& (f ^^^ g) := by
  apply u32_ext
  simp only [UInt32.toBitVec_xor, UInt32.toBitVec_and, UInt32.toBitVec_not]
  generalize e.toBitVec = e
  generalize f.toBitVec = f
  generalize g.toBitVec = g
  apply BitVec.eq_of_getLsbD_eq
  intro i hi
  simp only [BitVec.getLsbD_xor, BitVec.getLsbD_and, BitVec.getLsbD_not, hi, decide_true, Bool.true_and]
  cases e.getLsbD i <;> cases f.getLsbD i <;> cases g.getLsbD i <;> rfl
theorem maj_eq (a b c : UInt32) : (a &&& b) ^^^ (a &&& c) ^^^ (b &&& c) = a &&& b ||| c &&& (a ||| b) := by
  apply u32_ext
  simp only [UInt32.toBitVec_xor, UInt32.toBitVec_and, UInt32.toBitVec_or]
  generalize a.toBitVec = e
  generalize b.toBitVec = f
  generalize c.toBitVec = g
  apply BitVec.eq_of_getLsbD_eq
  intro i hi
  simp only [BitVec.getLsbD_xor, BitVec.getLsbD_and, BitVec.getLsbD_or]
  cases e.getLsbD i <;> cases f.getLsbD i <;> cases g.getLsbD i <;> rfl
theorem shl_or (x y : UInt32) (k : Nat) (h : k < 32) : (x ||| y) <<< UInt32.ofNat k = x <<< UInt32.ofNat k ||| y <<< UInt32.ofNat k := by
  apply UInt32.toNat_inj.1
  simp only [UInt32.toNat_shiftLeft, UInt32.toNat_or, UInt32.toNat_ofNat']
  rw [show k % 2 ^ 32 % 32 = k by omega, Nat.shiftLeft_or_distrib, Nat.or_mod_two_pow]
theorem shl_shl (x : UInt32) (j k : Nat) (h : j + k < 32) : (x <<< UInt32.ofNat j) <<< UInt32.ofNat k = x <<< UInt32.ofNat (j + k) := by
  apply UInt32.toNat_inj.1
  simp only [UInt32.toNat_shiftLeft, UInt32.toNat_ofNat']
  rw [show k % 2 ^ 32 % 32 = k by omega, show j % 2 ^ 32 % 32 = j by omega, show (j + k) % 2 ^ 32 % 32 = j + k by omega]
  simp only [Nat.shiftLeft_eq, Nat.mod_mul_mod, Nat.pow_add]
  rw [Nat.mul_assoc]
theorem word_eq (a b c d : UInt8) (r : List UInt8) : a.toUInt32 <<< 24 ||| b.toUInt32 <<< 16 ||| c.toUInt32 <<< 8 ||| d.toUInt32 = wordQ (a :: b :: c :: d :: r) := by
  have e8 : (8 : UInt32) = UInt32.ofNat 8 := rfl
  have e16 : (16 : UInt32) = UInt32.ofNat 16 := rfl
  have e24 : (24 : UInt32) = UInt32.ofNat 24 := rfl
  simp only [wordQ, List.take_succ_cons, List.take_zero, List.foldl_cons, List.foldl_nil, e8, e16, e24]
  have z8 : (0 : UInt32) <<< UInt32.ofNat 8 = 0 := rfl
  have o8 : ∀ x y : UInt32, (x ||| y) <<< UInt32.ofNat 8 = x <<< UInt32.ofNat 8 ||| y <<< UInt32.ofNat 8 := fun x y => shl_or x y 8 (by omega)
  have s88 : ∀ x : UInt32, (x <<< UInt32.ofNat 8) <<< UInt32.ofNat 8 = x <<< UInt32.ofNat 16 := fun x => shl_shl x 8 8 (by omega)
  have s168 : ∀ x : UInt32, (x <<< UInt32.ofNat 16) <<< UInt32.ofNat 8 = x <<< UInt32.ofNat 24 := fun x => shl_shl x 16 8 (by omega)
  simp only [o8, s88, s168, z8, UInt32.zero_or]
/-- How many zeros are put. -/
def padZ (n : Nat) : Nat := (if n % 64 ≤ 55 then 55 else 119) - n % 64
def padL (b : List UInt8) : List UInt8 := b ++ 128 :: List.replicate (padZ b.length) 0 ++ putB 8 (b.length * 8)
theorem padZ_le (n : Nat) : padZ n ≤ 63 := by unfold padZ; split <;> omega
theorem padZ_mod (n : Nat) : (n + 1 + padZ n) % 64 = 56 := by unfold padZ; split <;> omega
theorem padZ_ne (n i : Nat) (h : i < padZ n) : (n + 1 + i) % 64 ≠ 56 := by
  unfold padZ at h; split at h <;> omega
theorem padL_len (b : List UInt8) : (padL b).length = b.length + 9 + padZ b.length := by
  simp [padL, putB_len]; omega
theorem padL_mod (b : List UInt8) : (padL b).length % 64 = 0 := by
  have := padZ_mod b.length
  rw [padL_len]; omega
theorem padL_split (b : List UInt8) : padL b = b.take (64 * (b.length / 64)) ++ endL (b.drop (64 * (b.length / 64))) b.length := by
  have hl : (b.drop (64 * (b.length / 64))).length = b.length % 64 := by simp; omega
  unfold endL
  rw [hl, ← List.append_assoc, ← List.append_assoc, List.take_append_drop]
  rfl
theorem bl_take (s : S8) (x y : List UInt8) : ∀ i, 64 * i ≤ x.length → bl s (x ++ y) i = bl s x i
  | 0, _ => rfl
  | i + 1, h => by
    simp only [bl]
    rw [bl_take s x y i (by omega), List.drop_append_of_le_length (by omega), List.take_append_of_le_length (by simp; omega)]
theorem bl_add (s : S8) (x y : List UInt8) (i : Nat) (h : x.length = 64 * i) : ∀ j, bl s (x ++ y) (i + j) = bl (bl s x i) y j
  | 0 => bl_take s x y i (by omega)
  | j + 1 => by
    rw [← Nat.add_assoc]
    simp only [bl]
    rw [bl_add s x y i h j, List.drop_append, List.drop_eq_nil_of_le (by omega)]
    simp only [List.nil_append]
    rw [h, show 64 * (i + j) - 64 * i = 64 * j by omega]
theorem bl_whole (s : S8) (x : List UInt8) : ∀ i, 64 * i ≤ x.length → bl s (x.take (64 * i)) i = bl s x i := fun i h => by
  conv => rhs; rw [← List.take_append_drop (64 * i) x]
  rw [bl_take _ _ _ _ (by simp; omega)]
/-- The reference's way. -/
theorem refS_eq (b : List UInt8) : bl s0 (padL b) ((padL b).length / 64) = shaS b := by
  unfold shaS
  have hz : padZ b.length = (if b.length % 64 ≤ 55 then 55 else 119) - b.length % 64 := rfl
  have hl : (b.drop (64 * (b.length / 64))).length = b.length % 64 := by simp; omega
  rw [hl]
  have hn : (padL b).length / 64 = b.length / 64 + (if b.length % 64 ≤ 55 then 1 else 2) := by
    rw [padL_len, hz]
    split <;> omega
  rw [hn, padL_split, bl_add _ _ _ _ (by simp; omega), bl_whole _ _ _ (by omega)]
theorem outL_get (s : S8) (i : Nat) (h : i < 32) : (outL s)[i]? = some (UInt8.ofNat ((wat s.l (i / 4)).toNat / 256 ^ (3 - i % 4))) := by
  have : i = 0 ∨ i = 1 ∨ i = 2 ∨ i = 3 ∨ i = 4 ∨ i = 5 ∨ i = 6 ∨ i = 7 ∨ i = 8 ∨ i = 9 ∨ i = 10 ∨ i = 11 ∨ i = 12 ∨ i = 13 ∨ i = 14 ∨ i = 15 ∨ i = 16 ∨ i = 17 ∨ i = 18 ∨ i = 19 ∨ i = 20 ∨ i = 21 ∨ i = 22 ∨ i = 23 ∨ i = 24 ∨ i = 25 ∨ i = 26 ∨ i = 27 ∨ i = 28 ∨ i = 29 ∨ i = 30 ∨ i = 31 := by omega
  rcases this with rfl | rfl | rfl | rfl | rfl | rfl | rfl | rfl | rfl | rfl | rfl | rfl | rfl | rfl | rfl | rfl | rfl | rfl | rfl | rfl | rfl | rfl | rfl | rfl | rfl | rfl | rfl | rfl | rfl | rfl | rfl | rfl <;> rfl
theorem not_q (x : UInt32) : IntKind.u32.wrap (-(q x) - 1) = q (~~~x) := by
  have h := x.toNat_lt
  have e : (~~~x).toNat = 4294967295 - x.toNat := by
    rw [UInt32.toNat_not]; rfl
  unfold q
  rw [e]
  simp [IntKind.wrap, IntKind.bits, IntKind.signed]
  omega
end Go.Proofs.YtfegfnekphobmaaDoor
end

section
namespace Go.Proofs.YtfegfnekphobmaaDoor
open Go Go.Proofs.YtfegfnekphobmaaDoor.AL
set_option maxRecDepth 8000
set_option maxHeartbeats 4000000
attribute [local simp] wq_add wq_xor wq_and wq_or dQ_eq
theorem rword (b : List UInt8) (h : 4 ≤ b.length) : PCall Tryd.prog 62 [dBy b] (.ret (dq (wordQ b))) := by
  refine pcall_of_vc noC c62 (by simp [a62]) fun hr => ?_
  unfold dBy dq
  obtain ⟨b0, b1, b2, b3, r, rfl⟩ : ∃ b0 b1 b2 b3 r, b = b0 :: b1 :: b2 :: b3 :: r := by
    match b, h with
    | b0 :: b1 :: b2 :: b3 :: r, _ => exact ⟨b0, b1, b2, b3, r, rfl⟩
  have h8 : ∀ x : UInt32, shiftV true .u32 (q x) 8 = .int .u32 (q (x <<< 8)) := fun x => shl_q x 8 (by omega)
  have h16 : ∀ x : UInt32, shiftV true .u32 (q x) 16 = .int .u32 (q (x <<< 16)) := fun x => shl_q x 16 (by omega)
  have h24 : ∀ x : UInt32, shiftV true .u32 (q x) 24 = .int .u32 (q (x <<< 24)) := fun x => shl_q x 24 (by omega)
  simp [a62]
  simp [dU, conv_u32, h8, h16, h24]
  rw [word_eq]
  refine ⟨by omega, by omega, by omega, by omega, rfl, LeD.refl _⟩
theorem rror (x : UInt32) (c : Nat) (h1 : 0 < c) (h2 : c < 32) : PCall Tryd.prog 63 [dq x, dI c] (.ret (dq (ror x c))) := by
  refine pcall_of_vc noC c63 (by simp [a63]) fun hr => ?_
  have h1' := shl_q x (32 - c) (by omega)
  have h2' := shr_q x c h2
  have e : IntKind.i64.wrap (32 - (c : Int)) = ((32 - c : Nat) : Int) := by rw [wrap64 (by omega)]; omega
  unfold dq
  simp [a63]
  simp [e, h1', h2']
  refine ⟨rfl, leD_of_eq rfl⟩
theorem rnumbers : PCall Tryd.prog 64 [] (.ret (.agg (kNums.map dQ))) := by
  refine pcall_of_vc noC c64 (by simp [a64]) fun hr => ?_
  simp [a64]
  exact LeD.refl _
end Go.Proofs.YtfegfnekphobmaaDoor
end

section
namespace Go.Proofs.YtfegfnekphobmaaDoor
open Go Go.Proofs.YtfegfnekphobmaaDoor.AL
set_option maxRecDepth 8000
set_option maxHeartbeats 8000000
theorem compl_q (x : UInt32) : complV .u32 (q x) = q (~~~x) := by
  have h := x.toNat_lt
  have e : (~~~x) = x ^^^ 4294967295 := by
    apply u32_ext
    simp only [UInt32.toBitVec_not, UInt32.toBitVec_xor]
    rw [← BitVec.xor_allOnes]
    rfl
  rw [e]
  unfold complV
  have h2 : (BitVec.ofInt IntKind.u32.bits (if IntKind.u32.signed then -1 else IntKind.u32.max) ^^^ BitVec.ofInt IntKind.u32.bits (q x)).toNat = (x ^^^ 4294967295).toNat := by
    rw [BitVec.toNat_xor, bv_q, UInt32.toNat_xor, Nat.xor_comm]
    rfl
  rw [h2]
  exact wrap_u32 (q_lt _).1 (q_lt _).2
attribute [local simp] wq_add wq_xor wq_and wq_or compl_q
attribute [local simp] dq_free lt3' dQ_eq
attribute [local simp] aq_len leL_aq leL_md dBy lt3 bslV dq_cells dq_noTup dq_one
inductive C352 : FuncId → List D → Out → Prop
  | word (b : List UInt8) (h : 4 ≤ b.length) : C352 62 [dBy b] (.ret (dq (wordQ b)))
  | ror (x : UInt32) (c : Nat) (h1 : 0 < c) (h2 : c < 32) : C352 63 [dq x, dI c] (.ret (dq (ror x c)))
  | numbers : C352 64 [] (.ret (.agg (kNums.map dQ)))
theorem h352 : ∀ f ds out, C352 f ds out → PCall Tryd.prog f ds out := by
  intro f ds out h
  cases h with
  | word b h => exact rword b h
  | ror x c h1 h2 => exact rror x c h1 h2
  | numbers => exact rnumbers
def ksl (r : S8) : List (Nat × Bool × AV) := [(11, true, .d (.lit (.int .u32 (q r.a)))), (12, true, .d (.lit (.int .u32 (q r.b)))), (13, true, .d (.lit (.int .u32 (q r.c)))), (14, true, .d (.lit (.int .u32 (q r.d)))), (15, true, .d (.lit (.int .u32 (q r.e)))), (16, true, .d (.lit (.int .u32 (q r.f)))), (17, true, .d (.lit (.int .u32 (q r.g)))), (18, true, .d (.lit (.int .u32 (q r.h))))]
theorem rblock (s : S8) (b : List UInt8) (hb : b.length = 64) : PCall Tryd.prog 57 [.agg (s.l.map dq), dBy b] (.ret (.agg ((compress s b).l.map dq))) := by
  refine pcall_of_vc h352 c57 (by simp [a57]) fun hr => ?_
  simp [a57, S8.l, dq, -List.reduceReplicate]
  have hw : ∀ i : Nat, i < 64 → IntKind.i64.wrap ((i : Int) + 1) = ((i + 1 : Nat) : Int) := fun i h => by rw [wrap64 (by omega)]; omega
  have hw4 : ∀ i : Nat, i < 64 → IntKind.i64.wrap (4 * (i : Int)) = 4 * (i : Int) := fun i h => wrap64 (by omega)
  have ht4 : ∀ i : Nat, (4 * (i : Int)).toNat = 4 * i := fun i => by omega
  have hwt : ∀ x : List UInt8, wordQ (x.take 4) = wordQ x := fun x => by simp [wordQ, List.take_take]
  have hw44 : ∀ i : Nat, i < 16 → IntKind.i64.wrap (4 * (i : Int) + 4) = 4 * (i : Int) + 4 := fun i h => wrap64 (by omega)
  refine vc_loopK [0, 1, 2, 4, 5] Nat (fun i => [(6, true, .d (dI i))]) (fun i => [(2, .box true (aq (wInit b i)))]) (fun i => i ≤ 16) (fun i => 16 - i) 0 (by simp) ⟨[], [], ?_⟩ (fun i hi => ?_)
  · simp [aq0]
  simp
  refine ⟨fun hlt => ?_, fun hge => ?_⟩
  · have hlt : i < 16 := by omega
    have hcc := C352.word ((b.drop (4 * i)).take 4) (by simp; omega)
    rw [hwt] at hcc
    refine vc_path [.ret (dq (wordQ (b.drop (4 * i))))] ?_
    simp [hw i (by omega), hw4 i (by omega), hw44 i (by omega), ht4, hb]
    refine ⟨⟨by omega, by omega, by omega⟩, ?_, by omega, by rw [wInit_len]; omega, i + 1, by omega, by omega, [], [], ?_⟩
    · rw [show (4 * (i : Int) + 4).toNat = 4 * i + 4 by omega, List.drop_take, show 4 * i + 4 - 4 * i = 4 by omega]
      simpa using hcc
    · simp [aq_set, wInit_set b i (by omega)]
      exact fun a ha => aq_one _ _ ha
  · have hi16 : i = 16 := by omega
    subst hi16
    simp
    refine vc_loopK [0, 1, 2, 4, 5] Nat (fun i => [(7, true, .d (dI (16 + i)))]) (fun i => [(2, .box true (aq (wUp b i)))]) (fun i => i ≤ 48) (fun i => 48 - i) 0 (by simp) ⟨[], [], ?_⟩ (fun i hi => ?_)
    · simp [wUp]
      exact fun a ha => aq_one _ _ ha
    simp
    refine ⟨fun hlt => ?_, fun hge => ?_⟩
    · have hlt : i < 48 := by omega
      have e15 : IntKind.i64.wrap (16 + (i : Int) - 15) = ((i + 1 : Nat) : Int) := by rw [wrap64 (by omega)]; omega
      have e2 : IntKind.i64.wrap (16 + (i : Int) - 2) = ((i + 14 : Nat) : Int) := by rw [wrap64 (by omega)]; omega
      have e16 : IntKind.i64.wrap (16 + (i : Int) - 16) = ((i : Nat) : Int) := by rw [wrap64 (by omega)]; omega
      have e7 : IntKind.i64.wrap (16 + (i : Int) - 7) = ((i + 9 : Nat) : Int) := by rw [wrap64 (by omega)]; omega
      have e1 : IntKind.i64.wrap (16 + (i : Int) + 1) = ((16 + (i + 1) : Nat) : Int) := by rw [wrap64 (by omega)]; omega
      have hl := wUp_len b i
      have hg : ∀ j : Nat, j < 64 → (aq (wUp b i))[j]? = some (.d (dq (wat (wUp b i) j))) := fun j hj => aq_get _ _ (by omega)
      have t14 : ((i : Int) + 14).toNat = i + 14 := by omega
      have t9 : ((i : Int) + 9).toNat = i + 9 := by omega
      have t16 : (16 + (i : Int)).toNat = 16 + i := by omega
      simp only [e15, e2]
      simp [hl, t14, hg (i + 1) (by omega), hg (i + 14) (by omega)]
      refine ⟨⟨by omega, by omega⟩, by omega, ⟨by omega, by omega⟩, by omega, ?_⟩
      have r1 := C352.ror (wat (wUp b i) (i + 1)) 7 (by omega) (by omega)
      have r2 := C352.ror (wat (wUp b i) (i + 1)) 18 (by omega) (by omega)
      have r3 := C352.ror (wat (wUp b i) (i + 14)) 17 (by omega) (by omega)
      have r4 := C352.ror (wat (wUp b i) (i + 14)) 19 (by omega) (by omega)
      have hset : (wUp b i).set (16 + i) (wat (wUp b i) i + (ror (wat (wUp b i) (i + 1)) 7 ^^^ ror (wat (wUp b i) (i + 1)) 18 ^^^ wat (wUp b i) (i + 1) >>> 3) + wat (wUp b i) (i + 9) + (ror (wat (wUp b i) (i + 14)) 17 ^^^ ror (wat (wUp b i) (i + 14)) 19 ^^^ wat (wUp b i) (i + 14) >>> 10)) = wUp b (i + 1) := by
        rw [wUp, wNew]
        rw [show 16 + i - 16 = i by omega, show 16 + i - 15 = i + 1 by omega, show 16 + i - 7 = i + 9 by omega, show 16 + i - 2 = i + 14 by omega]
      have hgi := hg i (by omega)
      have hg9 := hg (i + 9) (by omega)
      generalize hx1 : wat (wUp b i) (i + 1) = x1 at *
      generalize hx14 : wat (wUp b i) (i + 14) = x14 at *
      refine vc_pathD [.ret (dq (ror x1 7)), .ret (dq (ror x1 18)), .ret (dq (ror x14 17)), .ret (dq (ror x14 19))] ?_
      have s3 : shiftV false .u32 (q x1) 3 = .int .u32 (q (x1 >>> 3)) := shr_q x1 3 (by omega)
      have s10 : shiftV false .u32 (q x14) 10 = .int .u32 (q (x14 >>> 10)) := shr_q x14 10 (by omega)
      unfold dq at *
      simp [e16, e7, hl, hgi, hg9, e1, t9, t16, s3, s10]
      refine ⟨by omega, by omega, by simpa using r1, by simpa using r2, ⟨by omega, by omega⟩, by omega, by simpa using r3, by simpa using r4, ⟨by omega, by omega⟩, by omega, rfl, i + 1, by omega, by omega, [], [], ?_⟩
      rw [aq_set', hset]
      simp
      exact fun a ha => aq_one _ _ ha
    · have hi48 : i = 48 := by omega
      subst hi48
      have hnum := C352.numbers
      simp
      refine vc_path [.ret (.agg (kNums.map dQ))] ?_
      have hkl : (kNums.map dQ).length = 64 := rfl
      have hkn : setAt (List.replicate 64 (AV.d (D.lit (.int .u32 0)))) 0 (kNums.map (AV.d ∘ dQ)) = aq kNums := by
        rw [setAt_all _ _ (by rfl)]
        simp only [aq, List.map_map]
        rfl
      simp only [List.reduceReplicate] at hkn
      simp [hkn, hkl, -List.reduceReplicate]
      refine ⟨hnum, rfl, rfl, ?_⟩
      refine vc_loopK [2, 4, 5, 10] Nat (fun i => [(19, true, .d (dI i)), (11, true, .d (.lit (.int .u32 (q (rounds (wUp b 48) s i).a)))), (12, true, .d (.lit (.int .u32 (q (rounds (wUp b 48) s i).b)))), (13, true, .d (.lit (.int .u32 (q (rounds (wUp b 48) s i).c)))), (14, true, .d (.lit (.int .u32 (q (rounds (wUp b 48) s i).d)))), (15, true, .d (.lit (.int .u32 (q (rounds (wUp b 48) s i).e)))), (16, true, .d (.lit (.int .u32 (q (rounds (wUp b 48) s i).f)))), (17, true, .d (.lit (.int .u32 (q (rounds (wUp b 48) s i).g)))), (18, true, .d (.lit (.int .u32 (q (rounds (wUp b 48) s i).h))))]) (fun i => []) (fun i => i ≤ 64) (fun i => 64 - i) 0 (by simp) ⟨[], [], ?_⟩ (fun i hi => ?_)
      · simp [rounds]
        (repeat' apply And.intro) <;> first | exact fun a ha => aq_one _ _ ha | exact LeD.refl _
      rcases Nat.lt_or_ge i 64 with hlt | hge
      · have hl := wUp_len b 48
        have hg : (aq (wUp b 48))[i]? = some (.d (dq (wat (wUp b 48) i))) := aq_get _ _ (by omega)
        have hk : (aq kNums)[i]? = some (.d (dq (wat kNums i))) := aq_get _ _ hlt
        have hw1 : IntKind.i64.wrap ((i : Int) + 1) = ((i + 1 : Nat) : Int) := by rw [wrap64 (by omega)]; omega
        have hrs : rounds (wUp b 48) s (i + 1) = round (wUp b 48) (rounds (wUp b 48) s i) i := rfl
        generalize rounds (wUp b 48) s i = r at *
        have c1 := C352.ror r.e 6 (by omega) (by omega)
        have c2 := C352.ror r.e 11 (by omega) (by omega)
        have c3 := C352.ror r.e 25 (by omega) (by omega)
        have c4 := C352.ror r.a 2 (by omega) (by omega)
        have c5 := C352.ror r.a 13 (by omega) (by omega)
        have c6 := C352.ror r.a 22 (by omega) (by omega)
        unfold dq at c1 c2 c3 c4 c5 c6 hg hk
        have hlt' : (i : Int) < 64 := by omega
        simp [hlt']
        refine vc_pathD [.ret (dq (ror r.e 6)), .ret (dq (ror r.e 11)), .ret (dq (ror r.e 25))] ?_
        unfold dq
        simp [hg, hk, hl, kNums_len]
        refine ⟨c1, c2, c3, by omega, by omega, by omega, by omega, rfl, vc_path [.ret (dq (ror r.a 2)), .ret (dq (ror r.a 13)), .ret (dq (ror r.a 22))] ?_⟩
        unfold dq
        simp [hw1]
        refine ⟨c4, c5, c6, i + 1, by omega, by omega, [], [], ?_⟩
        rw [hrs]
        simp [round, ch_eq, maj_eq, rot3]
        (repeat' apply And.intro) <;> first | exact fun a ha => aq_one _ _ ha | exact LeD.refl _
      · have hi64 : i = 64 := by omega
        have hcs : compress s b = s.add (rounds (wUp b 48) s i) := by rw [hi64]; rfl
        generalize hr : rounds (wUp b 48) s i = r at hcs
        have hge' : ¬ ((i : Int) < 64) := by omega
        clear hkn hr hi64
        rw [hcs]
        simp [hge', S8.l, S8.add]
end Go.Proofs.YtfegfnekphobmaaDoor
end

section
namespace Go.Proofs.YtfegfnekphobmaaDoor
open Go Go.Proofs.YtfegfnekphobmaaDoor.AL
set_option maxRecDepth 8000
set_option maxHeartbeats 8000000
attribute [local simp] dZ_agg dZ_nt dZ_noTup dZ_cells dZ_one bz_toList bz_size strV dV_cells dV_isAgg dV_noTup dV_nt dBy_cells dBy_one dBy_agg dBy_noTup dBy_nt
theorem tmod64 (n : Nat) : (n : Int).tmod 64 = ((n % 64 : Nat) : Int) := by
  rw [Int.tmod_eq_emod_of_nonneg (by omega)]; omega
theorem putB_take (u i : Nat) (h : i < 8) : (putB 8 u).take (i + 1) = (putB 8 u).take i ++ [UInt8.ofNat (u / 256 ^ (7 - i))] := by
  rw [List.take_add_one]
  simp [putB, h]
theorem rpadded (b : List UInt8) (hb : b.length ≤ 100000000000) : PCall Tryd.prog 56 [dBy b] (.ret (dBy (padL b))) := by
  refine pcall_of_vc noC c56 (by simp [a56]) fun hr => ?_
  have hz := padZ_le b.length
  have hzm := padZ_mod b.length
  have hzn := padZ_ne b.length
  simp [a56, dBy]
  refine ⟨⟨by omega, by omega⟩, ⟨by omega, by omega⟩, ?_⟩
  refine vc_loopK [0] Nat (fun i => [(3, true, .own 3 1 (b.map dU ++ .lit (.int .u8 128) :: List.replicate i (.lit (.int .u8 0))))]) (fun i => [(3, .row)]) (fun i => i ≤ padZ b.length) (fun i => padZ b.length - i) 0 (by simp) ⟨[], [], ?_⟩ (fun i hi => ?_)
  · simp
  have hm : ((b.length : Int) + ((i : Int) + 1)).tmod 64 = (((b.length + 1 + i) % 64 : Nat) : Int) := by
    rw [← tmod64]; congr 1; omega
  have hrep : List.replicate i (D.lit (.int .u8 0)) ++ [.lit (.int .u8 0)] = List.replicate (i + 1) (.lit (.int .u8 0)) := by
    rw [List.replicate_succ']
  simp [hm, hrep]
  refine ⟨fun hne => ⟨⟨by omega, by omega⟩, ?_⟩, fun he => ?_⟩
  · have hlt : i < padZ b.length := by
      rcases Nat.lt_or_ge i (padZ b.length) with h | h
      · exact h
      · have : i = padZ b.length := by omega
        subst this
        omega
    refine ⟨i + 1, by omega, by omega, [(3, 5)], [], ?_⟩
    simp
  · have hi2 : i = padZ b.length := by
      rcases Nat.lt_or_ge i (padZ b.length) with h | h
      · have := hzn i h; omega
      · omega
    subst hi2
    have hpre : b.map dU ++ D.lit (.int .u8 128) :: List.replicate (padZ b.length) (D.lit (.int .u8 0)) = (b ++ 128 :: List.replicate (padZ b.length) 0).map dU := by
      simp [dU]
    have hpl : (b ++ 128 :: List.replicate (padZ b.length) 0).length ≤ 100000000064 := by simp; omega
    have hfin : padL b = (b ++ 128 :: List.replicate (padZ b.length) 0) ++ putB 8 (b.length * 8) := by simp [padL]
    rw [hpre, hfin]
    obtain ⟨u, hue⟩ : ∃ u, u = b.length * 8 := ⟨_, rfl⟩
    have hu : IntKind.u64.wrap (IntKind.u64.wrap (b.length : Int) * 8) = (u : Int) := by
      rw [wrap_u64 (n := (b.length : Int)) (by omega) (by omega), wrap_u64 (by omega) (by omega)]; omega
    have hub : u < 18446744073709551616 := by omega
    rw [← hue]
    clear hpre hfin he hi hm hrep hzn hzm hue
    generalize b ++ 128 :: List.replicate (padZ b.length) 0 = p at *
    simp [hu]
    have hpl8 := putB_len 8 u
    refine vc_loopK [0, 4] Nat (fun j => [(5, true, .d (dI (7 - j))), (3, true, .own 3 1 ((p ++ (putB 8 u).take j).map dU))]) (fun i => [(3, .row)]) (fun j => j ≤ 8) (fun j => 8 - j) 0 (by simp) ⟨[], [], ?_⟩ (fun j hj => ?_)
    · simp
    have hw1 : IntKind.i64.wrap (7 - (j : Int) - 1) = 7 - ((j : Int) + 1) := by rw [wrap64 (by omega)]; omega
    have h8 : IntKind.i64.wrap (8 * (7 - (j : Int))) = 8 * (7 - (j : Int)) := wrap64 (by omega)
    rcases Nat.lt_or_ge j 8 with hlt | hge
    · have hlt' : (j : Int) ≤ 7 := by omega
      have hs := u8_div u (7 - j) (by omega) hub
      rw [show (((7 - j : Nat)) : Int) = 7 - (j : Int) by omega] at hs
      have hpt := putB_take u j hlt
      generalize u / 256 ^ (7 - j) = w at *
      have hcu : D.lit (.int .u8 (IntKind.u8.wrap (w : Int))) = dU (UInt8.ofNat w) := dU_conv w
      simp [hlt', hw1, h8, hs, hcu, hpl8]
      refine ⟨by omega, ?_, ⟨by omega, by omega⟩, j + 1, by omega, by omega, [(3, 5)], [], ?_⟩
      · simp [dU]
      · have hptm : ((putB 8 u).map dU).take (j + 1) = ((putB 8 u).map dU).take j ++ [dU (UInt8.ofNat w)] := by
          rw [← List.map_take, hpt]; simp
        simp [hptm]
    · have hge' : ¬ ((j : Int) ≤ 7) := by omega
      have ht : (putB 8 u).take j = putB 8 u := List.take_of_length_le (by omega)
      simp [hge', ht]
inductive C353 : FuncId → List D → Out → Prop
  | padded (b : List UInt8) (hb : b.length ≤ 100000000000) : C353 56 [dBy b] (.ret (dBy (padL b)))
  | block (s : S8) (b : List UInt8) (hb : b.length = 64) : C353 57 [.agg (s.l.map dq), dBy b] (.ret (.agg ((compress s b).l.map dq)))
theorem h353 : ∀ f ds out, C353 f ds out → PCall Tryd.prog f ds out := by
  intro f ds out h
  cases h with
  | padded b hb => exact rpadded b hb
  | block s b hb => exact rblock s b hb
def outP (l : List UInt8) (i : Nat) : List D := (l.take i).map dU ++ zrs (32 - i)
theorem outP_len (l : List UInt8) (i : Nat) (h : i ≤ 32) (hl : l.length = 32) : (outP l i).length = 32 := by
  simp only [outP, List.length_append, List.length_map, List.length_take, zrs_len]; omega
theorem outP_set (l : List UInt8) (i : Nat) (x : UInt8) (h : i < 32) (hl : l.length = 32) (hx : l[i]? = some x) : (outP l i).set i (dU x) = outP l (i + 1) := by
  unfold outP
  have e : zrs (32 - i) = .lit (.int .u8 0) :: zrs (32 - (i + 1)) := by
    unfold zrs
    rw [show 32 - i = (32 - (i + 1)) + 1 by omega, List.replicate_succ]
  have hlen : ((l.take i).map dU).length = i := by simp; omega
  rw [e, List.set_append_right _ _ (by omega), hlen, Nat.sub_self, List.set_cons_zero, List.take_add_one, hx]
  simp
theorem len8 (S : S8) : S.l.length = 8 := rfl
theorem bl_succ (s : S8) (p : List UInt8) (i : Nat) : bl s p (i + 1) = compress (bl s p i) ((p.drop (64 * i)).take 64) := rfl
theorem rsum (b : List UInt8) (hb : b.length ≤ 100000000000) : PCall Tryd.prog 44 [dBy b] (.ret (.agg ((shaL b).map dU))) := by
  refine pcall_of_vc h353 c44 (by simp [a44]) fun hr => ?_
  have c1 := C353.padded b hb
  have hpm := padL_mod b
  have hpl := padL_len b
  have hpz := padZ_le b.length
  have hsha : shaL b = outL (bl s0 (padL b) ((padL b).length / 64)) := by rw [refS_eq]; rfl
  rw [hsha]
  simp [a44, -List.reduceReplicate]
  refine vc_path [.ret (dBy (padL b))] ?_
  generalize padL b = p at *
  simp [-List.reduceReplicate]
  refine ⟨c1, ?_⟩
  have hs0 : [AV.d (D.lit (.int .u32 1779033703)), AV.d (D.lit (.int .u32 3144134277)), AV.d (D.lit (.int .u32 1013904242)), AV.d (D.lit (.int .u32 2773480762)), AV.d (D.lit (.int .u32 1359893119)), AV.d (D.lit (.int .u32 2600822924)), AV.d (D.lit (.int .u32 528734635)), AV.d (D.lit (.int .u32 1541459225))] = aq s0.l := rfl
  have hall : ∀ S : S8, allD ((aq S.l).take 8) = some (S.l.map dq) := fun S => by
    rw [List.take_of_length_le (by rw [aq_len, len8]; exact Nat.le_refl 8)]
    exact allD_map _
  rw [hs0]
  refine vc_loopK [2, 3, 4] Nat (fun i => [(5, true, .d (dI (64 * i)))]) (fun i => [(1, .box true (aq (bl s0 p i).l))]) (fun i => i ≤ p.length / 64) (fun i => p.length / 64 - i) 0 (by simp) ⟨[], [], ?_⟩ (fun i hi => ?_)
  · simp [bl, leL_aq]
    exact fun a ha => aq_one _ _ ha
  have hw1 : IntKind.i64.wrap (64 * (i : Int) + 64) = 64 * (i : Int) + 64 := wrap64 (by omega)
  rcases Nat.lt_or_ge i (p.length / 64) with hlt | hge
  · have hlt' : (64 * (i : Int)) < p.length := by omega
    have c2 := C353.block (bl s0 p i) ((p.drop (64 * i)).take 64) (by simp; omega)
    have hbl := bl_succ s0 p i
    have ha2 := hall (bl s0 p i)
    rw [← hbl] at c2
    obtain ⟨B, hB⟩ : ∃ B, bl s0 p (i + 1) = B := ⟨_, rfl⟩
    rw [hB] at c2
    have hsl := len8 B
    clear hbl
    have ht1 : (64 * (i : Int) + 64).toNat = 64 * i + 64 := by omega
    have ht2 : (64 * (i : Int)).toNat = 64 * i := by omega
    unfold dBy at *
    simp [hlt']
    refine vc_pathD [.ret (.agg (B.l.map dq))] ?_
    simp [hw1, ha2, ht1, ht2, hsl]
    have hset : setAt (aq (bl s0 p i).l) 0 (B.l.map (AV.d ∘ dq)) = aq B.l := by
      rw [setAt_all _ _ (by rw [aq_len, List.length_map, len8, len8])]
      simp [aq]
    refine ⟨by rw [aq_len, len8]; exact Nat.le_refl 8, ⟨by omega, by omega, by omega⟩, ?_, by rw [aq_len, len8]; exact Nat.le_refl 8, rfl, i + 1, by omega, by omega, [], [], ?_⟩
    · rw [List.drop_take, show 64 * i + 64 - 64 * i = 64 by omega]
      simpa using c2
    · rw [hB, hset]
      have he : 64 * ((i : Int) + 1) = 64 * (i : Int) + 64 := by omega
      simp [leL_aq, he]
      exact fun a ha => aq_one _ _ ha
  · have hge' : ¬ ((64 * (i : Int)) < p.length) := by omega
    have hi2 : i = p.length / 64 := by omega
    rw [← hi2]
    unfold dBy at *
    clear hi2
    generalize bl s0 p i = S at *
    simp [hge', zrs_eq, -List.reduceReplicate]
    have hol := outL_len S
    have hog := outL_get S
    refine vc_loopK [2, 3, 6] Nat (fun k => [(7, true, .d (dI k))]) (fun k => [(2, .box true ((outP (outL S) k).map .d))]) (fun k => k ≤ 32) (fun k => 32 - k) 0 (by simp) ⟨[], [], ?_⟩ (fun k hk => ?_)
    · have h0 : outP (outL S) 0 = zrs 32 := by simp [outP]
      rw [h0]
      simp [leL_aq, leL_md, -List.reduceReplicate]
      exact ⟨aq_one _, leL_map _ _ _ _ (zrs 32), zrs_one 32⟩
    have hw1 : IntKind.i64.wrap ((k : Int) + 1) = ((k + 1 : Nat) : Int) := by rw [wrap64 (by omega)]; omega
    rcases Nat.lt_or_ge k 32 with hlt | hge
    · have hlt' : (k : Int) < 32 := by omega
      have hop := outP_len (outL S) k (by omega) hol
      have hg := hog k hlt
      have hos := outP_set _ k _ hlt hol hg
      have hq : (k : Int).tdiv 4 = ((k / 4 : Nat) : Int) := by rw [Int.tdiv_eq_ediv_of_nonneg (by omega)]; omega
      have hm : (k : Int).tmod 4 = ((k % 4 : Nat) : Int) := by rw [Int.tmod_eq_emod_of_nonneg (by omega)]; omega
      have hag := aq_get S.l (k / 4) (by rw [show S.l.length = 8 from rfl]; omega)
      generalize wat S.l (k / 4) = v at *
      have hsh : shiftV false .u32 (q v) (24 - 8 * ((k % 4 : Nat) : Int)) = .int .u32 ((v.toNat / 256 ^ (3 - k % 4) : Nat) : Int) := by
        have := shr_q v (24 - 8 * (k % 4)) (by omega)
        rw [show ((24 - 8 * (k % 4) : Nat) : Int) = 24 - 8 * ((k % 4 : Nat) : Int) by omega] at this
        rw [this]
        have e : (v >>> UInt32.ofNat (24 - 8 * (k % 4))).toNat = v.toNat / 256 ^ (3 - k % 4) := by
          rw [UInt32.toNat_shiftRight, UInt32.toNat_ofNat', show (24 - 8 * (k % 4)) % 2 ^ 32 % 32 = 24 - 8 * (k % 4) by omega, Nat.shiftRight_eq_div_pow, show (256 : Nat) = 2 ^ 8 from rfl, ← Nat.pow_mul, show 8 * (3 - k % 4) = 24 - 8 * (k % 4) by omega]
        unfold q
        rw [e]
      generalize v.toNat / 256 ^ (3 - k % 4) = w at *
      have hcu : D.lit (.int .u8 (IntKind.u8.wrap (w : Int))) = dU (UInt8.ofNat w) := dU_conv w
      have hq2 : IntKind.i64.wrap (((k / 4 : Nat)) : Int) = ((k / 4 : Nat) : Int) := wrap64 (by omega)
      have hm2 : IntKind.i64.wrap (((k % 4 : Nat)) : Int) = ((k % 4 : Nat) : Int) := wrap64 (by omega)
      have hm3 : IntKind.i64.wrap (8 * ((k % 4 : Nat) : Int)) = 8 * ((k % 4 : Nat) : Int) := wrap64 (by omega)
      have hm4 : IntKind.i64.wrap (24 - 8 * ((k % 4 : Nat) : Int)) = 24 - 8 * ((k % 4 : Nat) : Int) := wrap64 (by omega)
      have hk4 : k / 4 < 8 := by omega
      have hkm : k % 4 < 4 := by omega
      clear hog hg
      generalize k / 4 = k4 at *
      generalize k % 4 = km at *
      unfold dq at hag
      simp [hlt', hw1, hq, hm, hq2, hm2, hm3, hm4, hag, hsh, hcu]
      have hl8 := len8 S
      refine ⟨by omega, by rw [aq_len]; omega, by omega, ⟨rfl, rfl, by omega⟩, k + 1, by omega, by omega, [], [], ?_⟩
      have hsm : setAt ((outP (outL S) k).map AV.d) k ((dU (UInt8.ofNat w)).cells.map AV.d) = (outP (outL S) (k + 1)).map AV.d := by
        rw [← hos]; simp [setAt, dU, D.cells]
      rw [hsm]
      simp [leL_aq, leL_md]
      exact ⟨aq_one _, fun d hd => by
        rcases List.mem_append.1 hd with h | h
        · exact dUs_one _ _ h
        · exact zrs_one _ _ h⟩
    · have hge' : ¬ ((k : Int) < 32) := by omega
      have e32 : outP (outL S) k = (outL S).map dU := by
        unfold outP
        rw [show k = 32 by omega, List.take_of_length_le (by omega)]
        simp [zrs]
      rw [e32]
      generalize outL S = A at *
      have htk : (A.map (AV.d ∘ dU)).take 32 = A.map (AV.d ∘ dU) := List.take_of_length_le (by simp [hol])
      simp [hge', hol, htk, allD_dU, setAt_all]
end Go.Proofs.YtfegfnekphobmaaDoor
end

section
namespace Go.Proofs.YtfegfnekphobmaaDoor
open Go Go.Proofs.YtfegfnekphobmaaDoor.AL
set_option maxRecDepth 8000
set_option maxHeartbeats 8000000
attribute [local simp] dZ_agg dZ_nt dZ_noTup dZ_cells dZ_one bz_toList bz_size strV dV_cells dV_isAgg dV_noTup dV_nt dBy_cells dBy_one dBy_agg dBy_noTup dBy_nt
inductive C354 : FuncId → List D → Out → Prop
  | sum (b : List UInt8) (hb : b.length ≤ 100000000000) : C354 44 [dBy b] (.ret (.agg ((shaL b).map dU)))
theorem h354 : ∀ f ds out, C354 f ds out → PCall Tryd.prog f ds out := by
  intro f ds out h
  cases h with
  | sum b hb => exact rsum b hb
theorem rtagged (t b : List UInt8) (ht : t.length ≤ 1000) (hb : b.length ≤ 10000000000) : PCall Tryd.prog 34 [dZ t, dBy b] (.ret (.agg ((tagL t b).map dU))) := by
  refine pcall_of_vc h354 c34 (by simp [a34]) fun hr => ?_
  have h1 := C354.sum t (by omega)
  have hl := shaL_len t
  have h3 := C354.sum (shaL t ++ b) (by rw [List.length_append, hl]; omega)
  simp [a34, dZ_eq, -List.reduceReplicate]
  refine vc_path [.ret (.agg ((shaL t).map dU))] ?_
  simp [strD_bz, -List.reduceReplicate]
  refine ⟨h1, hl, ?_⟩
  refine vc_path [.ret (.agg ((shaL (shaL t ++ b)).map dU))] ?_
  have hl2 := shaL_len (shaL t ++ b)
  have hB : tagL t b = shaL (shaL t ++ b) := rfl
  generalize shaL t = A at *
  generalize shaL (A ++ b) = B at *
  unfold dBy at *
  simp [setAt_all, allD_dU, hl, hl2, -List.reduceReplicate]
  rw [elsD_dU _ _ hl]
  have htk : (B.map (AV.d ∘ dU)).take 32 = B.map (AV.d ∘ dU) := List.take_of_length_le (by simp [hl2])
  refine ⟨by simp [hl]; omega, by simpa using h3, ?_⟩
  rw [htk, allD_dU, hB]
  simp
end Go.Proofs.YtfegfnekphobmaaDoor
end
