/- Part of the proof. -/
import Derived.Test.YtbfjmachkbhfnaaRows
import Derived.ProofKit
import Derived.Test.YtbfjmachkbhfnaaE
set_option linter.unnecessarySimpa false
section
namespace Go.Proofs.Ytbfjmachkbhfnaa
open Go Go.Proofs.Ytbfjmachkbhfnaa.AL
theorem site (n : Int) : PCall Try.prog 34 [dI n] (.ret (dB (decide (0 ≤ n) && decide (n < 24)))) := by
  refine pcall_of_vc noC c34 (by simp [a34]) fun hr => ?_
  simp [a34]
  refine vc_calls [] ?_
  simp
def cBetween (x y : Int) : D := .agg [dI (if y < x then y else x), dI (if y > x then y else x)]
theorem between (x y : Int) : PCall Try.prog 37 [dI x, dI y] (.ret (cBetween x y)) := by
  refine pcall_of_vc noC c37 (by simp [a37]) fun hr => ?_
  simp [a37, cBetween]
def cValid (x y : Int) : Bool := decide (0 ≤ x) && decide (x < y) && decide (y < 24)
theorem valid (x y : Int) : PCall Try.prog 32 [.agg [dI x, dI y]] (.ret (dB (cValid x y))) := by
  refine pcall_of_vc noC c32 (by simp [a32]) fun hr => ?_
  simp [a32]
  refine vc_calls [] ?_
  simp [cValid]
/-- The contracts at hand. -/
def T1 : FuncId → List D → Option Out
  | 34, [.lit (.int .i64 n)] => some (.ret (dB (decide (0 ≤ n) && decide (n < 24))))
  | 37, [.lit (.int .i64 x), .lit (.int .i64 y)] => some (.ret (cBetween x y))
  | 32, [.agg [.lit (.int .i64 x), .lit (.int .i64 y)]] => some (.ret (dB (cValid x y)))
  | _, _ => none
theorem hT1 : ∀ f ds out, T1 f ds = some out → PCall Try.prog f ds out := by
  intro f ds out h
  unfold T1 at h
  split at h
  · injection h with h; subst h; exact site _
  · injection h with h; subst h; exact between _ _
  · injection h with h; subst h; exact valid _ _
  · cases h
/-- A packet; links. -/
structure Pk where
  a : Int
  b : Int
  p : List UInt8
  deriving DecidableEq
structure Nt where
  q : List Pk
  c : List (Int × Int)
  deriving DecidableEq
def dP (x : Pk) : D := .agg [dI x.a, dI x.b, .sl 1 (x.p.map dU)]
def dL (x : Int × Int) : D := .agg [dI x.1, dI x.2]
def dN (n : Nt) : D := .agg [.sl 3 (n.q.map dP), .sl 2 (n.c.map dL)]
def okP (x : Pk) : Bool := cValid (if x.b < x.a then x.b else x.a) (if x.b > x.a then x.b else x.a) && decide ((x.p.length : Int) ≤ 1048576)

theorem packet (x : Pk) : PCall Try.prog 28 [dP x] (.ret (dB (okP x))) := by
  refine pcall_of_vc hT1 c28 (by simp [a28]) fun hr => ?_
  simp [a28, dP]
  refine vc_calls [.ret (cBetween x.a x.b), .ret (dB (cValid (if x.b < x.a then x.b else x.a) (if x.b > x.a then x.b else x.a)))] ?_
  simp [T1, cBetween, okP]

theorem dP_cells (x : Pk) : (dP x).cells = [dI x.a, dI x.b, .sl 1 (x.p.map dU)] := rfl
theorem dP_agg (x : Pk) : (dP x).isAgg = true := rfl
theorem dP_noTup (x : Pk) : (AV.d (dP x)).noTup = true := rfl
attribute [local simp] dP_cells dP_agg dP_noTup
theorem packet1 (x : Pk) : PCall Try.prog 31 [dP x] (.ret (dB (!okP x))) := by
  refine pcall_of_vc (C := fun f ds out => ∃ x, f = 28 ∧ ds = [dP x] ∧ out = .ret (dB (okP x))) (by rintro _ _ _ ⟨x, rfl, rfl, rfl⟩; exact packet x) c31 (by simp [a31]) fun hr => ?_
  simp [a31, dP]
  refine vc_calls [.ret (dB (okP x))] ?_
  simp
  exact ⟨x, ⟨rfl, rfl, rfl⟩, rfl⟩

theorem getD_map' {α β : Type} (f : α → β) (l : List α) (i : Nat) (d : β) (h : i < l.length) : (l.map f).getD i d = f l[i] := by simp [List.getD, h]

/-- The place of the first packet that is not valid. -/
theorem indexBad (l : List Pk) : PCall Try.prog 43 [.sl 3 (l.map dP), .fn (.func 31) [] []] (.ret (dI (match l.findIdx? (fun x => !okP x) with | some i => i | none => -1))) := by
  refine pcall_of_vc (C := fun f ds out => ∃ x, f = 31 ∧ ds = [dP x] ∧ out = .ret (dB (!okP x))) (by rintro _ _ _ ⟨x, rfl, rfl, rfl⟩; exact packet1 x) c43 (by simp [a43]) fun hr => ?_
  have hlen := (hr (.sl 3 (l.map dP)) (by simp)).sl.1
  simp at hlen
  simp [a43]
  refine vc_loop Nat (fun i => ⟨[(0, true, .d (.sl 3 (l.map dP))), (1, true, .d (.fn (.func 31) [] [])), (7, true, .d (dI l.length)), (8, true, .d (dI i))], [], []⟩) (fun i => i ≤ l.length ∧ ∀ j, (h : j < i) → (h2 : j < l.length) → okP l[j] = true) (fun i => l.length - i) 0 (by simp) ⟨[], [], ?_⟩ (fun i hi => ?_)
  · simp [doms, subS, subH, subDs]
  · obtain ⟨h1, h2⟩ := hi
    simp
    refine ⟨fun hlt => ?_, fun hge => ?_⟩
    · refine vc_calls [.ret (dB (!okP l[i]))] ?_
      simp [hlt]
      refine ⟨⟨l[i], rfl, rfl⟩, ?_⟩
      refine ⟨fun hb => ?_, fun hb => ?_⟩
      · rw [findIdx_some hlt (by simpa using hb) (fun j hj => by simp [h2 j hj (by omega)])]
        exact LeD.refl _
      · refine ⟨i + 1, ⟨by omega, fun j hj hj2 => ?_⟩, by omega, [], [], ?_⟩
        · by_cases e : j = i
          · subst e; exact hb
          · exact h2 j (by omega) hj2
        · rw [wrap64 (by omega)]
          simp [doms, subS, subH, subDs]
    · rw [findIdx_none (fun j hj => by simp [h2 j (by omega) hj])]
      exact LeD.refl _
end Go.Proofs.Ytbfjmachkbhfnaa
end

section
namespace Go.Proofs.Ytbfjmachkbhfnaa
open Go Go.Proofs.Ytbfjmachkbhfnaa.AL
attribute [local simp] dP_cells dP_agg dP_noTup
def firstBad (l : List Pk) : Int := match l.findIdx? (fun x => !okP x) with | some i => i | none => -1
theorem containsBad (l : List Pk) : PCall Try.prog 30 [.sl 3 (l.map dP), .fn (.func 31) [] []] (.ret (dB (!l.all okP))) := by
  refine pcall_of_vc (C := fun f ds out => ∃ l, f = 43 ∧ ds = [.sl 3 (l.map dP), .fn (.func 31) [] []] ∧ out = .ret (dI (firstBad l))) (by rintro _ _ _ ⟨l, rfl, rfl, rfl⟩; exact indexBad l) c30 (by simp [a30]) fun hr => ?_
  simp [a30]
  refine vc_calls [.ret (dI (firstBad l))] ?_
  simp
  refine ⟨⟨l, rfl, rfl⟩, ?_⟩
  apply leD_of_eq
  congr 2
  unfold firstBad
  split
  · rename_i i h
    rw [List.findIdx?_eq_some_iff_getElem] at h
    obtain ⟨h1, h2, _⟩ := h
    have : l.all okP = false := by
      rw [List.all_eq_false]
      exact ⟨l[i], List.getElem_mem h1, by simpa using h2⟩
    simp [this]
  · rename_i h
    rw [List.findIdx?_eq_none_iff] at h
    have : l.all okP = true := by
      rw [List.all_eq_true]
      intro x hx
      simpa using h x hx
    simp [this]
theorem isNaN (x : Int) : PCall Try.prog 47 [dI x] (.ret (dB false)) := by
  refine pcall_of_vc noC c47 (by simp [a47]) fun hr => ?_
  simp [a47]
theorem cmpInt (x y : Int) : PCall Try.prog 44 [dI x, dI y] (.ret (dI (if x < y then -1 else if x > y then 1 else 0))) := by
  refine pcall_of_vc (C := fun f ds out => ∃ x, f = 47 ∧ ds = [dI x] ∧ out = .ret (dB false)) (by rintro _ _ _ ⟨l, rfl, rfl, rfl⟩; exact isNaN l) c44 (by simp [a44]) fun hr => ?_
  simp [a44]
  refine vc_calls [.ret (dB false)] ?_
  simp
  refine vc_calls [.ret (dB false)] ?_
  simp
  refine ⟨fun h => leD_of_eq (by simp [h]), fun h => ⟨fun h2 => leD_of_eq (by simp [h2]; omega), fun h2 => leD_of_eq (by simp; omega)⟩⟩
end Go.Proofs.Ytbfjmachkbhfnaa
end

section
namespace Go.Proofs.Ytbfjmachkbhfnaa
open Go Go.Proofs.Ytbfjmachkbhfnaa.AL
attribute [local simp] dP_cells dP_agg dP_noTup
def cmpL : List Int → List Int → Int
  | [], [] => 0
  | [], _ :: _ => -1
  | _ :: _, [] => 1
  | x :: xs, y :: ys => if x < y then -1 else if x > y then 1 else cmpL xs ys
theorem cmpL_drop {s t : List Int} {i : Nat} (h1 : i < s.length) (h2 : i < t.length) : cmpL (s.drop i) (t.drop i) = if s[i] < t[i] then -1 else if s[i] > t[i] then 1 else cmpL (s.drop (i + 1)) (t.drop (i + 1)) := by
  rw [List.drop_eq_getElem_cons h1, List.drop_eq_getElem_cons h2]
  rfl
set_option maxRecDepth 4000 in
theorem compare (s t : List Int) : PCall Try.prog 33 [.sl 1 (s.map dI), .sl 1 (t.map dI)] (.ret (dI (cmpL s t))) := by
  refine pcall_of_vc (C := fun f ds out => ∃ x y, f = 44 ∧ ds = [dI x, dI y] ∧ out = .ret (dI (if x < y then -1 else if x > y then 1 else 0))) (by rintro _ _ _ ⟨x, y, rfl, rfl, rfl⟩; exact cmpInt x y) c33 (by simp [a33]) fun hr => ?_
  have hlen := (hr (.sl 1 (s.map dI)) (by simp)).sl.1
  have hlen2 := (hr (.sl 1 (t.map dI)) (by simp)).sl.1
  simp at hlen hlen2
  simp [a33, -dI]
  refine vc_loop Nat (fun i => ⟨[(0, true, .d (.sl 1 (s.map dI))), (1, true, .d (.sl 1 (t.map dI))), (9, true, .d (.sl 1 (s.map dI))), (10, true, .d (.lit (.int .i64 s.length))), (11, true, .d (.lit (.int .i64 i)))], [], []⟩) (fun i => i ≤ s.length ∧ i ≤ t.length ∧ cmpL (s.drop i) (t.drop i) = cmpL s t) (fun i => s.length - i) 0 (by simp) ⟨[], [], ?_⟩ (fun i hi => ?_)
  · simp [doms, subS, subH, subDs]
  · obtain ⟨h1, h2, h3⟩ := hi
    simp [-dI]
    refine ⟨fun hlt => ?_, fun hge => ?_⟩
    · simp [hlt]
      refine ⟨fun hle => ?_, fun hlt2 => ?_⟩
      · apply leD_of_eq
        have : i = t.length := by omega
        subst this
        rw [← h3, List.drop_length, List.drop_eq_getElem_cons hlt]; rfl
      · simp [hlt2]
        refine vc_calls [.ret (dI (if s[i] < t[i] then -1 else if s[i] > t[i] then 1 else 0))] ?_
        simp
        refine ⟨⟨s[i], t[i], ⟨rfl, rfl⟩, rfl⟩, ?_⟩
        have hd := cmpL_drop hlt hlt2
        rw [h3] at hd
        refine ⟨fun hne => ?_, fun he => ?_⟩
        · apply leD_of_eq
          rw [hd]
          split at hne
          · rename_i h; simp [h]
          · split at hne
            · rename_i h h'; simp [h, h']
            · simp at hne
        · have e1 : ¬ s[i] < t[i] := fun h => by simp [h] at he
          have e2 : ¬ t[i] < s[i] := fun h => by simp [e1, h] at he
          refine ⟨i + 1, ⟨by omega, by omega, ?_⟩, by omega, [], [], ?_⟩
          · rw [hd]; simp [e1, e2]
          · rw [wrap64 (by omega)]
            simp [doms, subS, subH, subDs]
    · have : i = s.length := by omega
      subst this
      rw [List.drop_length] at h3
      refine ⟨fun hlt2 => leD_of_eq ?_, fun hle => leD_of_eq ?_⟩
      · rw [← h3, List.drop_eq_getElem_cons hlt2]; rfl
      · rw [← h3, List.drop_eq_nil_of_le hle]; rfl
end Go.Proofs.Ytbfjmachkbhfnaa
end

section
namespace Go.Proofs.Ytbfjmachkbhfnaa
open Go Go.Proofs.Ytbfjmachkbhfnaa.AL
attribute [local simp] dP_cells dP_agg dP_noTup
theorem dL_cells (x : Int × Int) : (dL x).cells = [dI x.1, dI x.2] := rfl
theorem dL_agg (x : Int × Int) : (dL x).isAgg = true := rfl
theorem dL_noTup (x : Int × Int) : (AV.d (dL x)).noTup = true := rfl
attribute [local simp] dL_cells dL_agg dL_noTup
def cAt (c : List (Int × Int)) (i : Nat) : Bool :=
  cValid (c.getD i default).1 (c.getD i default).2 && (i == 0 || decide (cmpL [(c.getD (i - 1) default).1, (c.getD (i - 1) default).2] [(c.getD i default).1, (c.getD i default).2] < 0))
def okC (c : List (Int × Int)) : Bool := (List.range c.length).all (cAt c)
def okNt (n : Nt) : Bool := decide ((n.q.length : Int) ≤ 4096) && (n.q.all okP && okC n.c)
def eNet (n : Nt) : Int := if okNt n then 0 else 60
inductive CCheck : FuncId → List D → Out → Prop
  | bad (l : List Pk) : CCheck 30 [.sl 3 (l.map dP), .fn (.func 31) [] []] (.ret (dB (!l.all okP)))
  | valid (x : Int × Int) : CCheck 32 [dL x] (.ret (dB (cValid x.1 x.2)))
  | cmp (x y : Int × Int) : CCheck 33 [.sl 1 (dL x).cells, .sl 1 (dL y).cells] (.ret (dI (cmpL [x.1, x.2] [y.1, y.2])))
theorem hCheck : ∀ f ds out, CCheck f ds out → PCall Try.prog f ds out := by
  intro f ds out h
  cases h with
  | bad l => exact containsBad l
  | valid x => exact valid x.1 x.2
  | cmp x y => exact compare [x.1, x.2] [y.1, y.2]
set_option maxRecDepth 4000 in
theorem check (n : Nt) : PCall Try.prog 13 [dN n] (.ret (dI (eNet n))) := by
  refine pcall_of_vc hCheck c13 (by simp [a13]) fun hr => ?_
  have hl1 := (hr (dN n) (by simp)).agg (.sl 2 (n.c.map dL)) (by simp [dN])
  have hlen := hl1.2.sl.1
  simp at hlen
  simp [a13, dN, -dI, -dB]
  refine vc_calls [.ret (dB (!n.q.all okP))] ?_
  simp [-dI]
  refine ⟨fun h => ⟨h, .bad n.q⟩, fun hb => ?_, fun h1 h2 => ?_⟩
  · apply leD_of_eq
    have : okNt n = false := by
      unfold okNt
      rcases hb with h | h
      · simp [show ¬ ((n.q.length : Int) ≤ 4096) by omega]
      · have : n.q.all okP = false := by simpa using h
        simp [this]
    simp [eNet, this]
  · refine vc_loop Nat (fun i => ⟨[(1, true, .ptr 0 0), (15, true, .d (.sl 2 (n.c.map dL))), (16, true, .d (.lit (.int .i64 n.c.length))), (17, true, .d (.lit (.int .i64 i)))], [(0, .box true [.d (.sl 3 (n.q.map dP)), .d (.sl 2 (n.c.map dL))])], []⟩) (fun i => i ≤ n.c.length ∧ ∀ j, j < i → cAt n.c j = true) (fun i => n.c.length - i) 0 (by simp) ⟨[], [], ?_⟩ (fun i hi => ?_)
    · simp [doms, subS, subH, subDs, rho, assocN, newN, okN]
    · obtain ⟨h3, h4⟩ := hi
      simp [-dI, -dB]
      refine ⟨fun hlt => ?_, fun hge => ?_⟩
      · simp [hlt, -dI, -dB]
        cases i with
        | zero =>
          refine vc_callsD [.ret (dB (cValid n.c[0].1 n.c[0].2)), .ret (dI 0)] ?_
          simp
          refine ⟨.valid n.c[0], .lit _, rfl, ?_⟩
          refine ⟨fun hb => leD_of_eq ?_, fun hb => ⟨1, ⟨by omega, fun j hj => ?_⟩, by omega, [], [], ?_⟩⟩
          · have : okNt n = false := by
              have : okC n.c = false := by
                rw [okC, List.all_eq_false]
                exact ⟨0, by simpa using hlt, by simp [cAt, hlt, hb]⟩
              simp [okNt, this]
            simp [eNet, this]
          · have : j = 0 := by omega
            subst this
            simp [cAt, hlt, hb]
          · rw [wrap64 (by omega)]
            simp [doms, subS, subH, subDs, rho, assocN, newN, okN]
        | succ i =>
          have hi : i < n.c.length := by omega
          have hw : IntKind.i64.wrap (i : Int) = i := wrap64 (by omega)
          refine vc_callsD [.ret (dB (cValid n.c[i + 1].1 n.c[i + 1].2)), .ret (dI (cmpL [n.c[i].1, n.c[i].2] [n.c[i + 1].1, n.c[i + 1].2]))] ?_
          simp [hw, hi, hlt]
          refine ⟨.valid n.c[i + 1], fun hv => ⟨hv, .cmp n.c[i] n.c[i + 1]⟩, .lit _, rfl, ?_⟩
          have hc : cAt n.c (i + 1) = (cValid n.c[i + 1].1 n.c[i + 1].2 && decide (cmpL [n.c[i].1, n.c[i].2] [n.c[i + 1].1, n.c[i + 1].2] < 0)) := by
            simp [cAt, hlt, hi]
          refine ⟨fun hb => leD_of_eq ?_, fun hb hb2 => ⟨i + 2, ⟨by omega, fun j hj => ?_⟩, by omega, [], [], ?_⟩⟩
          · have : okNt n = false := by
              have : okC n.c = false := by
                rw [okC, List.all_eq_false]
                refine ⟨i + 1, by simpa using hlt, ?_⟩
                rw [hc]
                rcases hb with h | h
                · simp [h]
                · simp [show ¬ cmpL [n.c[i].1, n.c[i].2] [n.c[i + 1].1, n.c[i + 1].2] < 0 by omega]
              simp [okNt, this]
            simp [eNet, this]
          · by_cases e : j = i + 1
            · subst e
              rw [hc]; simp [hb, hb2]
            · exact h4 j (by omega)
          · rw [wrap64 (by omega)]
            simp [doms, subS, subH, subDs, rho, assocN, newN, okN]
            exact leD_of_eq (by congr 2)
      · apply leD_of_eq
        have : okNt n = true := by
          have : okC n.c = true := by
            rw [okC, List.all_eq_true]
            intro x hx
            exact h4 x (by simp at hx; omega)
          simp [okNt, this, h1]
          exact h2
        simp [eNet, this]
end Go.Proofs.Ytbfjmachkbhfnaa
end

section
namespace Go.Proofs.Ytbfjmachkbhfnaa
open Go Go.Proofs.Ytbfjmachkbhfnaa.AL
attribute [local simp] dP_cells dP_agg dP_noTup dL_cells dL_agg dL_noTup
theorem few (n : Nt) : PCall Try.prog 10 [dN n] (.ret (dB (decide ((n.q.length : Int) ≤ 40) && decide ((n.c.length : Int) ≤ 40)))) := by
  refine pcall_of_vc noC c10 (by simp [a10]) fun hr => ?_
  simp [a10, dN]
  refine vc_calls [] ?_
  simp
theorem new1 : PCall Try.prog 16 [] (.ret (dN ⟨[], []⟩)) := by
  refine pcall_of_vc noC c16 (by simp [a16]) fun hr => ?_
  simp [a16, dN]
  exact LeD.agg (.cons (LeD.nil' 3 3) (.cons (LeD.nil' 2 2) .nil)) (by simp)
theorem new2 : PCall Try.prog 17 [] (.ret (dN ⟨[], []⟩)) := by
  refine pcall_of_vc noC c17 (by simp [a17]) fun hr => ?_
  simp [a17, dN]
  exact LeD.agg (.cons (LeD.nil' 3 3) (.cons (LeD.nil' 2 2) .nil)) (by simp)
theorem u8_all (l : List UInt8) : ∀ e ∈ l.map dU, e.u8.isSome = true := by
  intro e he
  obtain ⟨b, _, rfl⟩ := List.mem_map.1 he
  rfl
theorem bytesOf_list (l : List UInt8) : (bytesOf (l.map dU)).toList = l := by
  rw [ByteArray.toList_eq, bytesOf, strOfNums_data, List.map_map, List.map_map]
  conv => rhs; rw [← List.map_id l]
  apply List.map_congr_left
  intro b _
  simp [dU, D.num]
theorem samePacket (x y : Pk) : PCall Try.prog 19 [dP x, dP y] (.ret (dB (decide (x = y)))) := by
  refine pcall_of_vc noC c19 (by simp [a19]) fun hr => ?_
  simp [a19, dP]
  refine vc_calls [] ?_
  simp [strV]
  refine ⟨fun h1 h2 => ⟨⟨h1, h2⟩, fun b _ => rfl⟩, fun h1 h2 => ⟨⟨h1, h2⟩, fun b _ => rfl⟩, ?_⟩
  apply leD_of_eq
  congr 2
  rw [bytesOf_list, bytesOf_list, Bool.eq_iff_iff]
  simp only [Bool.and_eq_true, beq_iff_eq, decide_eq_true_eq]
  obtain ⟨xa, xb, xp⟩ := x
  obtain ⟨ya, yb, yp⟩ := y
  simp [and_assoc]
end Go.Proofs.Ytbfjmachkbhfnaa
end

section
namespace Go.Proofs.Ytbfjmachkbhfnaa
open Go Go.Proofs.Ytbfjmachkbhfnaa.AL
attribute [local simp] dP_cells dP_agg dP_noTup dL_cells dL_agg dL_noTup
theorem rpacket (x : Pk) : PCall Try.prog 29 [dP x] (.ret (dB (okP x))) := by
  refine pcall_of_vc (C := fun f ds out => ∃ n, f = 34 ∧ ds = [dI n] ∧ out = .ret (dB (decide (0 ≤ n) && decide (n < 24)))) (by rintro _ _ _ ⟨n, rfl, rfl, rfl⟩; exact site n) c29 (by simp [a29]) fun hr => ?_
  simp [a29, dP]
  refine vc_calls [.ret (dB (decide (0 ≤ x.a) && decide (x.a < 24))), .ret (dB (decide (0 ≤ x.b) && decide (x.b < 24)))] ?_
  simp
  apply leD_of_eq
  congr 2
  unfold okP cValid
  rw [Bool.eq_iff_iff]
  simp only [Bool.and_eq_true, decide_eq_true_eq, bne_iff_ne, ne_eq]
  split <;> split <;> omega
end Go.Proofs.Ytbfjmachkbhfnaa
end

section
namespace Go.Proofs.Ytbfjmachkbhfnaa
open Go Go.Proofs.Ytbfjmachkbhfnaa.AL
attribute [local simp] dP_cells dP_agg dP_noTup dL_cells dL_agg dL_noTup
inductive CRC : FuncId → List D → Out → Prop
  | packet (x : Pk) : CRC 29 [dP x] (.ret (dB (okP x)))
  | site (n : Int) : CRC 34 [dI n] (.ret (dB (decide (0 ≤ n) && decide (n < 24))))
theorem hCRC : ∀ f ds out, CRC f ds out → PCall Try.prog f ds out := by
  intro f ds out h
  cases h with
  | packet x => exact rpacket x
  | site n => exact site n
set_option maxRecDepth 4000 in
set_option maxHeartbeats 4000000 in
theorem rcheck (n : Nt) : PCall Try.prog 14 [dN n] (.ret (dI (eNet n))) := by
  refine pcall_of_vc hCRC c14 (by simp [a14]) fun hr => ?_
  have hl1 := (hr (dN n) (by simp)).agg (.sl 2 (n.c.map dL)) (by simp [dN])
  have hl2 := (hr (dN n) (by simp)).agg (.sl 3 (n.q.map dP)) (by simp [dN])
  have hlen := hl1.2.sl.1
  have hlen2 := hl2.2.sl.1
  simp at hlen hlen2
  simp [a14, dN, -dI, -dB]
  refine ⟨fun hb => leD_of_eq ?_, fun h1 => ?_⟩
  · have : okNt n = false := by
      simp [okNt, show ¬ ((n.q.length : Int) ≤ 4096) by omega]
    simp [eNet, this]
  · refine vc_loop Nat (fun i => ⟨[(1, true, .ptr 0 0), (3, true, .d (.lit (.int .i64 i)))], [(0, .box true [.d (.sl 3 (n.q.map dP)), .d (.sl 2 (n.c.map dL))])], []⟩) (fun i => i ≤ n.q.length ∧ ∀ j, (_ : j < i) → (h : j < n.q.length) → okP n.q[j] = true) (fun i => n.q.length - i) 0 (by simp) ⟨[], [], ?_⟩ (fun i hi => ?_)
    · simp [doms, subS, subH, subDs, rho, assocN, newN, okN]
    · obtain ⟨h3, h4⟩ := hi
      simp [-dI, -dB]
      refine ⟨fun hlt => ?_, fun hge => ?_⟩
      · refine vc_calls [.ret (dB (okP n.q[i]))] ?_
        simp [hlt]
        refine ⟨.packet n.q[i], ?_⟩
        refine ⟨fun hb => leD_of_eq ?_, fun hb => ⟨i + 1, ⟨by omega, fun j hj hj2 => ?_⟩, by omega, [], [], ?_⟩⟩
        · have : okNt n = false := by
            have : n.q.all okP = false := by
              rw [List.all_eq_false]
              exact ⟨n.q[i], List.getElem_mem hlt, by simp [hb]⟩
            simp only [okNt, this, Bool.false_and, Bool.and_false]
          simp [eNet, this]
        · by_cases e : j = i
          · subst e; exact hb
          · exact h4 j (by omega) hj2
        · rw [wrap64 (by omega)]
          simp [doms, subS, subH, subDs, rho, assocN, newN, okN]
      · refine vc_loop Nat (fun i => ⟨[(1, true, .ptr 0 0), (4, true, .d (.lit (.int .i64 i)))], [(0, .box true [.d (.sl 3 (n.q.map dP)), .d (.sl 2 (n.c.map dL))])], []⟩) (fun i => i ≤ n.c.length ∧ ∀ j, j < i → cAt n.c j = true) (fun i => n.c.length - i) 0 (by simp) ⟨[], [], ?_⟩ (fun i hi => ?_)
        · simp [doms, subS, subH, subDs, rho, assocN, newN, okN]
        · obtain ⟨h5, h6⟩ := hi
          simp [-dI, -dB]
          refine ⟨fun hlt => ?_, fun hge => ?_⟩
          · simp [hlt]
            refine vc_path [.ret (dB (decide (0 ≤ n.c[i].1) && decide (n.c[i].1 < 24))), .ret (dB (decide (0 ≤ n.c[i].2) && decide (n.c[i].2 < 24)))] ?_
            simp [hlt]
            have hbad : cAt n.c i = false → LeD (.lit (.int .i64 60)) (.lit (.int .i64 (eNet n))) := fun h => by
              have h7 : okC n.c = false := by
                rw [okC, List.all_eq_false]
                exact ⟨i, by simpa using hlt, by simp [h]⟩
              apply leD_of_eq
              simp [eNet, okNt, h7]
            have hv : cAt n.c i = (cValid n.c[i].1 n.c[i].2 && (i == 0 || decide (cmpL [(n.c.getD (i - 1) default).1, (n.c.getD (i - 1) default).2] [n.c[i].1, n.c[i].2] < 0))) := by rw [cAt, show n.c.getD i default = n.c[i] by simp [hlt]]
            have hbad2 : cValid n.c[i].1 n.c[i].2 = false → LeD (.lit (.int .i64 60)) (.lit (.int .i64 (eNet n))) := fun h => hbad (by rw [hv, h]; rfl)
            refine ⟨.site _, fun h => hbad2 ?_, fun g1 g2 => ⟨.site _, fun h => hbad2 ?_, fun g3 g4 => ⟨fun h => hbad2 ?_, fun g5 => ?_⟩⟩⟩
            · rw [← Bool.not_eq_true]; simp only [cValid, Bool.and_eq_true, decide_eq_true_eq]; omega
            · rw [← Bool.not_eq_true]; simp only [cValid, Bool.and_eq_true, decide_eq_true_eq]; omega
            · rw [← Bool.not_eq_true]; simp only [cValid, Bool.and_eq_true, decide_eq_true_eq]; omega
            refine vc_pathD [] ?_
            cases i with
            | zero =>
              simp [hlt]
              refine ⟨rfl, 1, ⟨by omega, fun j hj => ?_⟩, by omega, [], [], ?_⟩
              · have : j = 0 := by omega
                subst this
                rw [hv]; simp only [cValid, Bool.and_eq_true, decide_eq_true_eq]; exact ⟨⟨⟨g1, g5⟩, g4⟩, rfl⟩
              · rw [wrap64 (by omega)]; simp
            | succ i =>
              have hw : IntKind.i64.wrap (i : Int) = i := wrap64 (by omega)
              have hi : i < n.c.length := by omega
              have hc : cmpL [(n.c.getD (i + 1 - 1) default).1, (n.c.getD (i + 1 - 1) default).2] [n.c[i + 1].1, n.c[i + 1].2] = if n.c[i].1 < n.c[i + 1].1 then -1 else if n.c[i].1 > n.c[i + 1].1 then 1 else if n.c[i].2 < n.c[i + 1].2 then -1 else if n.c[i].2 > n.c[i + 1].2 then 1 else 0 := by
                rw [show n.c.getD (i + 1 - 1) default = n.c[i] by simp [hi]]; rfl
              simp only [hc] at hv
              simp [hlt, hi, hw]
              have hgo : cAt n.c (i + 1) = true → ∃ x', (x' ≤ n.c.length ∧ ∀ (j : Nat), j < x' → cAt n.c j = true) ∧ n.c.length - x' < n.c.length - (i + 1) ∧ x' = i + 2 := fun h => ⟨i + 2, ⟨by omega, fun j hj => by
                by_cases e : j = i + 1
                · subst e; exact h
                · exact h6 j (by omega)⟩, by omega, rfl⟩
              refine ⟨fun h => ⟨rfl, hbad ?_⟩, fun k1 => ⟨fun k2 => ⟨rfl, fun k3 => hbad ?_, fun k3 => ?_⟩, fun k2 => ⟨rfl, ?_⟩⟩⟩
              · rw [hv, if_neg (by omega), if_pos (by omega)]; simp
              · rw [hv, if_neg (by omega), if_neg (by omega), if_neg (by omega)]
                split <;> simp
              · obtain ⟨x', q1, q2, rfl⟩ := hgo (by
                  rw [hv, if_neg (by omega), if_neg (by omega), if_pos (by omega)]
                  simp only [cValid, Bool.and_eq_true, decide_eq_true_eq]; exact ⟨⟨⟨g1, g5⟩, g4⟩, by simp⟩)
                refine ⟨_, q1, q2, [], [], ?_⟩
                rw [wrap64 (by omega)]; simp
                exact leD_of_eq (by congr 2)
              · obtain ⟨x', q1, q2, rfl⟩ := hgo (by
                  rw [hv, if_pos (by omega)]
                  simp only [cValid, Bool.and_eq_true, decide_eq_true_eq]; exact ⟨⟨⟨g1, g5⟩, g4⟩, by simp⟩)
                refine ⟨_, q1, q2, [], [], ?_⟩
                rw [wrap64 (by omega)]; simp
                exact leD_of_eq (by congr 2)
          · apply leD_of_eq
            have : okNt n = true := by
              have h7 : okC n.c = true := by
                rw [okC, List.all_eq_true]
                intro x hx
                exact h6 x (by simp at hx; omega)
              have h8 : n.q.all okP = true := by
                rw [List.all_eq_true]
                intro x hx
                obtain ⟨j, hj, rfl⟩ := List.getElem_of_mem hx
                exact h4 j (by omega) hj
              simp [okNt, h7, h8, h1]
            simp [eNet, this]
end Go.Proofs.Ytbfjmachkbhfnaa
end

section
namespace Go.Proofs.Ytbfjmachkbhfnaa
open Go Go.Proofs.Ytbfjmachkbhfnaa.AL
attribute [local simp] dP_cells dP_agg dP_noTup dL_cells dL_agg dL_noTup
def sndN (n : Nt) (p : Pk) : Nt := if okNt n = true ∧ okP p = true ∧ n.q.length ≠ 4096 then ⟨n.q ++ [p], n.c⟩ else ⟨[], []⟩
def sndE (n : Nt) (p : Pk) : Int := if okNt n = true ∧ okP p = true then (if n.q.length = 4096 then 2 else 0) else 60
theorem okNt_len {n : Nt} (h : okNt n = true) : n.q.length ≤ 4096 := by
  simp only [okNt, Bool.and_eq_true, decide_eq_true_eq] at h; omega
theorem eNet_ne {n : Nt} : eNet n = 0 ↔ okNt n = true := by
  unfold eNet; split <;> simp_all
theorem leD_two {a b x y : D} (h1 : LeD a x) (h2 : LeD b y) : LeD (.tup [a, b]) (.tup [x, y]) := LeD.tup (.cons h1 (.cons h2 .nil))
theorem nilN : LeD (.agg [.nil 3, .nil 2]) (dN ⟨[], []⟩) := LeD.agg (.cons (LeD.nil' 3 3) (.cons (LeD.nil' 2 2) .nil)) (by simp)
theorem nilN2 {m : Nt} (h : m = ⟨[], []⟩) : LeD (.agg [.nil 3, .nil 2]) (.agg [.sl 3 (m.q.map dP), .sl 2 (m.c.map dL)]) := by subst h; exact nilN
inductive CSend : FuncId → List D → Out → Prop
  | check (n : Nt) : CSend 13 [dN n] (.ret (dI (eNet n)))
  | packet (x : Pk) : CSend 28 [dP x] (.ret (dB (okP x)))
theorem hSend : ∀ f ds out, CSend f ds out → PCall Try.prog f ds out := by
  intro f ds out h
  cases h with
  | check n => exact check n
  | packet x => exact packet x
theorem dN_eq (n : Nt) : dN n = .agg [.sl 3 (n.q.map dP), .sl 2 (n.c.map dL)] := rfl
theorem dN_cells (x : Nt) : (dN x).cells = [.sl 3 (x.q.map dP), .sl 2 (x.c.map dL)] := rfl
theorem dN_agg (x : Nt) : (dN x).isAgg = true := rfl
theorem dN_noTup (x : Nt) : (AV.d (dN x)).noTup = true := rfl
set_option maxRecDepth 4000 in
theorem send (n : Nt) (p : Pk) : PCall Try.prog 11 [dN n, dP p] (.ret (.tup [dN (sndN n p), dI (sndE n p)])) := by
  refine pcall_of_vc hSend c11 (by simp [a11]) fun hr => ?_
  simp [a11, dN_cells, dN_noTup]
  refine vc_path [.ret (dI (eNet n)), .ret (dB (okP p))] ?_
  simp [dN_eq]
  have hlen : n.q.length ≤ 9223372036854775807 := by
    have := ((hr (dN n) (by simp)).agg (.sl 3 (n.q.map dP)) (by simp [dN])).2.sl.1
    simpa using this
  refine ⟨.check n, fun h => ?_, fun h => ⟨.packet p, fun h2 => ?_, fun h2 => ⟨fun h3 => ?_, fun h3 => ?_⟩⟩⟩
  · have h0 : ¬ okNt n = true := fun e => h (eNet_ne.2 e)
    exact ⟨nilN2 (by simp [sndN, h0]), leD_of_eq (by simp [sndE, h0])⟩
  · exact ⟨nilN2 (by simp [sndN, h2]), leD_of_eq (by simp [sndE, h2])⟩
  · have h0 := eNet_ne.1 h
    have h4 : n.q.length = 4096 := by omega
    exact ⟨nilN2 (by simp [sndN, h4]), leD_of_eq (by simp [sndE, h0, h2, h4])⟩
  · have h0 := eNet_ne.1 h
    have h4 : ¬ n.q.length = 4096 := by omega
    have h5 := okNt_len h0
    refine ⟨⟨by omega, by omega⟩, rfl, ⟨?_, ?_⟩, ?_⟩ <;> refine leD_of_eq ?_
    · rw [show List.take n.q.length (List.map dP n.q) = List.map dP n.q from List.take_of_length_le (by simp)]
      simp [sndN, h0, h2, h4, dP]
    · simp [sndN, h0, h2, h4]
    · simp [sndE, h0, h2, h4]
inductive CRSend : FuncId → List D → Out → Prop
  | check (n : Nt) : CRSend 14 [dN n] (.ret (dI (eNet n)))
  | packet (x : Pk) : CRSend 29 [dP x] (.ret (dB (okP x)))
theorem hRSend : ∀ f ds out, CRSend f ds out → PCall Try.prog f ds out := by
  intro f ds out h
  cases h with
  | check n => exact rcheck n
  | packet x => exact rpacket x
set_option maxRecDepth 4000 in
theorem rsend (n : Nt) (p : Pk) : PCall Try.prog 12 [dN n, dP p] (.ret (.tup [dN (sndN n p), dI (sndE n p)])) := by
  refine pcall_of_vc hRSend c12 (by simp [a12]) fun hr => ?_
  simp [a12, dN_cells, dN_noTup]
  refine vc_path [.ret (dI (eNet n)), .ret (dB (okP p))] ?_
  simp [dN_eq]
  have hlen : n.q.length ≤ 9223372036854775807 := by
    have := ((hr (dN n) (by simp)).agg (.sl 3 (n.q.map dP)) (by simp [dN])).2.sl.1
    simpa using this
  refine ⟨.check n, fun h => ?_, fun h => ⟨.packet p, fun h2 => ?_, fun h2 => ⟨fun h3 => ?_, fun h3 => ?_⟩⟩⟩
  · have h0 : ¬ okNt n = true := fun e => h (eNet_ne.2 e)
    exact ⟨nilN2 (by simp [sndN, h0]), leD_of_eq (by simp [sndE, h0])⟩
  · exact ⟨nilN2 (by simp [sndN, h2]), leD_of_eq (by simp [sndE, h2])⟩
  · have h0 := eNet_ne.1 h
    have h4 : n.q.length = 4096 := by omega
    exact ⟨nilN2 (by simp [sndN, h4]), leD_of_eq (by simp [sndE, h0, h2, h4])⟩
  · have h0 := eNet_ne.1 h
    have h4 : ¬ n.q.length = 4096 := by omega
    have h5 := okNt_len h0
    refine ⟨⟨by omega, by omega⟩, ⟨by omega, by omega⟩, rfl, ⟨?_, ?_⟩, ?_⟩ <;> refine leD_of_eq ?_
    · simp [sndN, h0, h2, h4, dP]
    · simp [sndN, h0, h2, h4]
    · simp [sndE, h0, h2, h4]
end Go.Proofs.Ytbfjmachkbhfnaa
end

section
namespace Go.Proofs.Ytbfjmachkbhfnaa
open Go Go.Proofs.Ytbfjmachkbhfnaa.AL
attribute [local simp] dP_cells dP_agg dP_noTup dL_cells dL_agg dL_noTup dN_cells dN_agg dN_noTup
def zP : Pk := ⟨0, 0, []⟩
def zN : Nt := ⟨[], []⟩
def inQ (n : Nt) (i : Int) : Bool := decide (0 ≤ i) && decide (i < n.q.length)
def atE (n : Nt) (i : Int) : Int := if okNt n = true then (if inQ n i = true then 0 else 1) else 60
def atP (n : Nt) (i : Int) : Pk := if atE n i = 0 then n.q.getD i.toNat zP else zP
def wo (n : Nt) (i : Int) : Nt := ⟨n.q.take i.toNat ++ n.q.drop (i.toNat + 1), n.c⟩
theorem nilP {m : Pk} (h : m = zP) : LeD (.agg [.lit (.int .i64 0), .lit (.int .i64 0), .nil 1]) (dP m) := by
  subst h
  exact LeD.agg (.cons (LeD.refl _) (.cons (LeD.refl _) (.cons (LeD.nil' 1 1) .nil))) (by simp)
theorem inQ_iff {n : Nt} {i : Int} : inQ n i = true ↔ 0 ≤ i ∧ i < n.q.length := by simp [inQ]
theorem atPk (n : Nt) (i : Int) : PCall Try.prog 35 [dN n, dI i] (.ret (.tup [dP (atP n i), dI (atE n i)])) := by
  refine pcall_of_vc (C := fun f ds out => ∃ n, f = 13 ∧ ds = [dN n] ∧ out = .ret (dI (eNet n))) (by rintro _ _ _ ⟨x, rfl, rfl, rfl⟩; exact check x) c35 (by simp [a35]) fun hr => ?_
  simp [a35]
  refine vc_path [.ret (dI (eNet n))] ?_
  simp
  refine ⟨⟨n, rfl, rfl⟩, fun h => ?_, fun h => vc_path [] ?_⟩
  · have h0 : ¬ okNt n = true := fun e => h (eNet_ne.2 e)
    have h1 : atE n i = 60 := by simp [atE, h0]
    exact ⟨nilP (by simp [atP, h1]), leD_of_eq (by rw [h1])⟩
  have h0 := eNet_ne.1 h
  have hout : ¬ inQ n i = true → LeD (D.agg [D.lit (Value.int IntKind.i64 0), D.lit (Value.int IntKind.i64 0), D.nil 1]) (dP (atP n i)) ∧ LeD (D.lit (Value.int IntKind.i64 1)) (D.lit (Value.int IntKind.i64 (atE n i))) := fun h2 => by
    have h1 : atE n i = 1 := by rw [atE, if_pos h0, if_neg h2]
    exact ⟨nilP (by simp [atP, h1]), leD_of_eq (by rw [h1])⟩
  by_cases hin : inQ n i = true
  · obtain ⟨k1, k2⟩ := inQ_iff.1 hin
    obtain ⟨k, rfl⟩ := Int.eq_ofNat_of_zero_le k1
    have hk : k < n.q.length := by omega
    have h1 : atE n k = 0 := by simp [atE, h0, hin]
    have h3 : atP n k = n.q[k] := by simp [atP, h1, hk]
    simp [hk, h1, h3]
    exact ⟨fun h => by omega, fun h => by omega, leD_of_eq rfl⟩
  · have k1 := mt inQ_iff.2 hin
    by_cases hi : i < 0
    · simp [hi, hout hin]
      try (intro h; omega)
    · have h5 : (n.q.length : Int) ≤ i := by omega
      simp [h5, hout hin]
      try (intro h h'; omega)
theorem asked (n : Nt) (i : Int) : PCall Try.prog 41 [dN n, dI i] (.ret (dI (atE n i))) := by
  refine pcall_of_vc (C := fun f ds out => ∃ n, f = 14 ∧ ds = [dN n] ∧ out = .ret (dI (eNet n))) (by rintro _ _ _ ⟨x, rfl, rfl, rfl⟩; exact rcheck x) c41 (by simp [a41]) fun hr => ?_
  simp [a41]
  refine vc_path [.ret (dI (eNet n))] ?_
  simp
  refine ⟨⟨n, rfl, rfl⟩, fun h => ?_, fun h => vc_path [] ?_⟩
  · have h0 : ¬ okNt n = true := fun e => h (eNet_ne.2 e)
    have h1 : atE n i = 60 := by simp [atE, h0]
    exact leD_of_eq (by rw [h1])
  have h0 := eNet_ne.1 h
  simp
  have hout : ¬ inQ n i = true → LeD (D.lit (Value.int IntKind.i64 1)) (D.lit (Value.int IntKind.i64 (atE n i))) := fun h2 => by
    have h1 : atE n i = 1 := by rw [atE, if_pos h0, if_neg h2]
    exact leD_of_eq (by rw [h1])
  refine ⟨fun h => hout fun h2 => by have := inQ_iff.1 h2; omega, fun h => ⟨fun h' => hout fun h2 => by have := inQ_iff.1 h2; omega, fun h' => ?_⟩⟩
  have h2 : inQ n i = true := inQ_iff.2 ⟨h, h'⟩
  exact leD_of_eq (by simp [atE, h0, h2])
theorem wo_leD {n : Nt} {k : Nat} : LeD (.sl 3 (List.take k (List.map dP n.q) ++ List.drop (k + 1) (List.take n.q.length (List.map dP n.q)))) (.sl 3 (List.map dP (wo n k).q)) := by
  apply leD_of_eq
  rw [show List.take n.q.length (List.map dP n.q) = List.map dP n.q from List.take_of_length_le (by simp)]
  simp [wo]
theorem without (n : Nt) (i : Int) (h : inQ n i = true) (hl : n.q.length ≤ 4096) : PCall Try.prog 38 [dN n, dI i] (.ret (dN (wo n i))) := by
  refine pcall_of_vc noC c38 (by simp [a38]) fun hr => ?_
  obtain ⟨k1, k2⟩ := inQ_iff.1 h
  obtain ⟨k, rfl⟩ := Int.eq_ofNat_of_zero_le k1
  have hk : k < n.q.length := by omega
  have hw : IntKind.i64.wrap ((k : Int) + 1) = ((k + 1 : Nat) : Int) := by rw [wrap64 (by omega)]; simp
  simp [a38, dN_eq, hw]
  exact ⟨by omega, by omega, ⟨by omega, by omega⟩, rfl, wo_leD, leD_of_eq (by simp [wo])⟩
theorem rwithout (n : Nt) (i : Int) (h : inQ n i = true) (hl : n.q.length ≤ 4096) : PCall Try.prog 42 [dN n, dI i] (.ret (dN (wo n i))) := by
  refine pcall_of_vc noC c42 (by simp [a42]) fun hr => ?_
  obtain ⟨k1, k2⟩ := inQ_iff.1 h
  obtain ⟨k, rfl⟩ := Int.eq_ofNat_of_zero_le k1
  have hk : k < n.q.length := by omega
  have hw : IntKind.i64.wrap ((k : Int) + 1) = ((k + 1 : Nat) : Int) := by rw [wrap64 (by omega)]; simp
  simp [a42, dN_eq, hw]
  exact ⟨by omega, ⟨by omega, by omega⟩, by omega, ⟨by omega, by omega⟩, rfl, wo_leD, leD_of_eq (by simp [wo])⟩
end Go.Proofs.Ytbfjmachkbhfnaa
end

section
namespace Go.Proofs.Ytbfjmachkbhfnaa
open Go Go.Proofs.Ytbfjmachkbhfnaa.AL
attribute [local simp] dP_cells dP_agg dP_noTup dL_cells dL_agg dL_noTup dN_cells dN_agg dN_noTup
def lseN (n : Nt) (i : Int) : Nt := if atE n i = 0 then wo n i else zN
def repN (n : Nt) (i : Int) : Nt := if atE n i = 0 then sndN n (atP n i) else zN
def repE (n : Nt) (i : Int) : Int := if atE n i = 0 then sndE n (atP n i) else atE n i
theorem atE_zero {n : Nt} {i : Int} : atE n i = 0 ↔ okNt n = true ∧ inQ n i = true := by
  unfold atE; split <;> (try split) <;> simp_all
inductive CA : FuncId → List D → Out → Prop
  | at' (n : Nt) (i : Int) : CA 35 [dN n, dI i] (.ret (.tup [dP (atP n i), dI (atE n i)]))
  | asked (n : Nt) (i : Int) : CA 41 [dN n, dI i] (.ret (dI (atE n i)))
  | without (n : Nt) (i : Int) (h : inQ n i = true) (hl : n.q.length ≤ 4096) : CA 38 [dN n, dI i] (.ret (dN (wo n i)))
  | rwithout (n : Nt) (i : Int) (h : inQ n i = true) (hl : n.q.length ≤ 4096) : CA 42 [dN n, dI i] (.ret (dN (wo n i)))
  | send (n : Nt) (p : Pk) : CA 11 [dN n, dP p] (.ret (.tup [dN (sndN n p), dI (sndE n p)]))
  | rsend (n : Nt) (p : Pk) : CA 12 [dN n, dP p] (.ret (.tup [dN (sndN n p), dI (sndE n p)]))
theorem hCA : ∀ f ds out, CA f ds out → PCall Try.prog f ds out := by
  intro f ds out h
  cases h with
  | at' n i => exact atPk n i
  | asked n i => exact asked n i
  | without n i h hl => exact without n i h hl
  | rwithout n i h hl => exact rwithout n i h hl
  | send n p => exact send n p
  | rsend n p => exact rsend n p
theorem nilN3 {m : Nt} (h : m = zN) : LeD (.agg [.nil 3, .nil 2]) (dN m) := by subst h; exact nilN
theorem lose (n : Nt) (i : Int) : PCall Try.prog 23 [dN n, dI i] (.ret (.tup [dN (lseN n i), dI (atE n i)])) := by
  refine pcall_of_vc hCA c23 (by simp [a23]) fun hr => ?_
  simp [a23]
  refine vc_path [.ret (.tup [dP (atP n i), dI (atE n i)])] ?_
  simp
  refine ⟨.at' n i, fun h => nilN3 (by simp [lseN, h]), fun h => vc_path [.ret (dN (wo n i))] ?_⟩
  obtain ⟨k1, k2⟩ := atE_zero.1 h
  simp [dN_eq]
  exact ⟨.without n i k2 (okNt_len k1), leD_of_eq (by simp [lseN, h]), leD_of_eq (by rw [h])⟩
theorem rlose (n : Nt) (i : Int) : PCall Try.prog 24 [dN n, dI i] (.ret (.tup [dN (lseN n i), dI (atE n i)])) := by
  refine pcall_of_vc hCA c24 (by simp [a24]) fun hr => ?_
  simp [a24]
  refine vc_path [.ret (dI (atE n i))] ?_
  simp
  refine ⟨.asked n i, fun h => nilN3 (by simp [lseN, h]), fun h => vc_path [.ret (dN (wo n i))] ?_⟩
  obtain ⟨k1, k2⟩ := atE_zero.1 h
  simp [dN_eq]
  exact ⟨.rwithout n i k2 (okNt_len k1), leD_of_eq (by simp [lseN, h]), leD_of_eq (by rw [h])⟩
theorem repeat' (n : Nt) (i : Int) : PCall Try.prog 25 [dN n, dI i] (.ret (.tup [dN (repN n i), dI (repE n i)])) := by
  refine pcall_of_vc hCA c25 (by simp [a25]) fun hr => ?_
  simp [a25]
  refine vc_path [.ret (.tup [dP (atP n i), dI (atE n i)])] ?_
  simp
  refine ⟨.at' n i, fun h => ⟨nilN3 (by simp [repN, h]), leD_of_eq (by simp [repE, h])⟩, fun h => vc_path [.ret (.tup [dN (sndN n (atP n i)), dI (sndE n (atP n i))])] ?_⟩
  simp [dN_eq]
  exact ⟨.send n (atP n i), leD_of_eq (by simp [repN, h]), leD_of_eq (by simp [repE, h])⟩
theorem rrepeat (n : Nt) (i : Int) : PCall Try.prog 26 [dN n, dI i] (.ret (.tup [dN (repN n i), dI (repE n i)])) := by
  refine pcall_of_vc hCA c26 (by simp [a26]) fun hr => ?_
  simp [a26]
  refine vc_path [.ret (dI (atE n i))] ?_
  simp
  refine ⟨.asked n i, fun h => ⟨nilN3 (by simp [repN, h]), leD_of_eq (by simp [repE, h])⟩, fun h => vc_pathD [.ret (.tup [dN (sndN n (atP n i)), dI (sndE n (atP n i))])] ?_⟩
  obtain ⟨k1, k2⟩ := atE_zero.1 h
  obtain ⟨k3, k4⟩ := inQ_iff.1 k2
  obtain ⟨k, rfl⟩ := Int.eq_ofNat_of_zero_le k3
  have hk : k < n.q.length := by omega
  have h3 : atP n k = n.q[k] := by simp [atP, h, hk]
  simp [dN_eq, hk, h3]
  exact ⟨.rsend n n.q[k], rfl, leD_of_eq (by simp [repN, h, h3]), leD_of_eq (by simp [repE, h, h3])⟩
theorem index (l : List (Int × Int)) (x : Int × Int) : PCall Try.prog 45 [.sl 2 (l.map dL), dL x] (.ret (dI (match l.findIdx? (fun y => decide (x = y)) with | some i => i | none => -1))) := by
  refine pcall_of_vc noC c45 (by simp [a45]) fun hr => ?_
  have hlen := (hr (.sl 2 (l.map dL)) (by simp)).sl.1
  simp at hlen
  simp [a45]
  refine vc_loopK [0, 3, 7] Nat (fun i => [(8, true, .d (dI i))]) (fun _ => []) (fun i => i ≤ l.length ∧ ∀ j, (h : j < i) → (h2 : j < l.length) → ¬ x = l[j]) (fun i => l.length - i) 0 (by simp) ⟨[], [], ?_⟩ (fun i hi => ?_)
  · simp
  · obtain ⟨h1, h2⟩ := hi
    simp
    refine ⟨fun hlt => ?_, fun hge => ?_⟩
    · simp [hlt, dL]
      refine ⟨rfl, fun ha hb => leD_of_eq ?_, fun hne => ⟨i + 1, ⟨by omega, fun j hj hj2 => ?_⟩, by omega, [], [], ?_⟩⟩
      · have : l.findIdx? (fun y => decide (x = y)) = some i := findIdx_some hlt (by simp [Prod.ext_iff, ha, hb]) (fun j hj => by simpa using h2 j hj (by omega))
        rw [this]
      · by_cases e : j = i
        · subst e; intro e; exact hne (by rw [e]) (by rw [e])
        · exact h2 j (by omega) hj2
      · rw [wrap64 (by omega)]
        simp
    · have : l.findIdx? (fun y => decide (x = y)) = none := findIdx_none (fun j hj => by simpa using h2 j (by omega) hj)
      rw [this]
      exact leD_of_eq rfl
def idx (l : List (Int × Int)) (x : Int × Int) : Int := match l.findIdx? (fun y => decide (x = y)) with | some i => i | none => -1
inductive CIdx : FuncId → List D → Out → Prop
  | mk (l : List (Int × Int)) (x : Int × Int) : CIdx 45 [.sl 2 (l.map dL), dL x] (.ret (dI (idx l x)))
theorem hIdx : ∀ f ds out, CIdx f ds out → PCall Try.prog f ds out := by
  intro f ds out h
  cases h with
  | mk l x => exact index l x
theorem contains (l : List (Int × Int)) (x : Int × Int) : PCall Try.prog 36 [.sl 2 (l.map dL), dL x] (.ret (dB (decide (x ∈ l)))) := by
  refine pcall_of_vc hIdx c36 (by simp [a36]) fun hr => ?_
  simp [a36]
  refine vc_path [.ret (dI (idx l x))] ?_
  simp
  refine ⟨.mk l x, leD_of_eq ?_⟩
  congr 2
  unfold idx
  split
  · rename_i i h
    rw [List.findIdx?_eq_some_iff_getElem] at h
    obtain ⟨h1, h2, _⟩ := h
    have : x ∈ l := by
      have := of_decide_eq_true h2
      rw [this]; exact List.getElem_mem h1
    simp [this]
  · rename_i h
    rw [List.findIdx?_eq_none_iff] at h
    have : x ∉ l := fun hx => by simpa using h x hx
    simp [this]
def lk (a b : Int) : Int × Int := (if b < a then b else a, if a < b then b else a)
theorem isCut (n : Nt) (a b : Int) : PCall Try.prog 40 [dN n, dI a, dI b] (.ret (dB (decide (lk a b ∈ n.c)))) := by
  refine pcall_of_vc noC c40 (by simp [a40]) fun hr => ?_
  have hlen := ((hr (dN n) (by simp)).agg (.sl 2 (n.c.map dL)) (by simp [dN])).2.sl.1
  simp at hlen
  simp [a40]
  refine vc_loopK [3, 1, 2] Nat (fun i => [(7, true, .d (dI i))]) (fun _ => []) (fun i => i ≤ n.c.length ∧ ∀ j, (h : j < i) → (h2 : j < n.c.length) → ¬ lk a b = n.c[j]) (fun i => n.c.length - i) 0 (by simp) ⟨[], [], ?_⟩ (fun i hi => ?_)
  · simp
  · obtain ⟨h1, h2⟩ := hi
    simp
    refine ⟨fun hlt => ?_, fun hge => ?_⟩
    · refine vc_path [] ?_
      simp [hlt, dL]
      have hno : ¬ lk a b = n.c[i] → ∃ x', (x' ≤ n.c.length ∧ ∀ (j : Nat), j < x' → ∀ (h2 : j < n.c.length), ¬lk a b = n.c[j]) ∧ n.c.length - x' < n.c.length - i ∧ x' = i + 1 := fun hne => ⟨i + 1, ⟨by omega, fun j hj hj2 => by
        by_cases e : j = i
        · subst e; exact hne
        · exact h2 j (by omega) hj2⟩, by omega, rfl⟩
      refine ⟨fun g1 => ⟨fun g2 => leD_of_eq ?_, fun g2 => ?_⟩, fun g1 => ?_⟩
      · have : lk a b ∈ n.c := by
          rw [show lk a b = n.c[i] from by rw [lk, ← g1, ← g2]]; exact List.getElem_mem hlt
        simp [this]
      · obtain ⟨x', q1, q2, rfl⟩ := hno (fun e => g2 (by rw [← e]; rfl))
        refine ⟨_, q1, q2, [], [], ?_⟩
        rw [wrap64 (by omega)]; simp
      · obtain ⟨x', q1, q2, rfl⟩ := hno (fun e => g1 (by rw [← e]; rfl))
        refine ⟨_, q1, q2, [], [], ?_⟩
        rw [wrap64 (by omega)]; simp
    · have : lk a b ∉ n.c := fun h => by
        obtain ⟨j, hj, e⟩ := List.getElem_of_mem h
        exact h2 j (by omega) hj e.symm
      exact leD_of_eq (by simp [this])
def dlvP (n : Nt) (i : Int) : Pk := if lk (atP n i).a (atP n i).b ∈ n.c then zP else atP n i
inductive CDlv : FuncId → List D → Out → Prop
  | at' (n : Nt) (i : Int) : CDlv 35 [dN n, dI i] (.ret (.tup [dP (atP n i), dI (atE n i)]))
  | asked (n : Nt) (i : Int) : CDlv 41 [dN n, dI i] (.ret (dI (atE n i)))
  | without (n : Nt) (i : Int) (h : inQ n i = true) (hl : n.q.length ≤ 4096) : CDlv 38 [dN n, dI i] (.ret (dN (wo n i)))
  | rwithout (n : Nt) (i : Int) (h : inQ n i = true) (hl : n.q.length ≤ 4096) : CDlv 42 [dN n, dI i] (.ret (dN (wo n i)))
  | between (x y : Int) : CDlv 37 [dI x, dI y] (.ret (dL (lk x y)))
  | contains (l : List (Int × Int)) (x : Int × Int) : CDlv 36 [.sl 2 (l.map dL), dL x] (.ret (dB (decide (x ∈ l))))
  | isCut (n : Nt) (a b : Int) : CDlv 40 [dN n, dI a, dI b] (.ret (dB (decide (lk a b ∈ n.c))))
theorem hDlv : ∀ f ds out, CDlv f ds out → PCall Try.prog f ds out := by
  intro f ds out h
  cases h with
  | at' n i => exact atPk n i
  | asked n i => exact asked n i
  | without n i h hl => exact without n i h hl
  | rwithout n i h hl => exact rwithout n i h hl
  | between x y => exact between x y
  | contains l x => exact contains l x
  | isCut n a b => exact isCut n a b
theorem dlvP_z {n : Nt} {i : Int} (h : ¬ atE n i = 0) : dlvP n i = zP := by
  have : atP n i = zP := by simp [atP, h]
  rw [dlvP, this]; split <;> rfl
set_option maxRecDepth 4000 in
theorem deliver (n : Nt) (i : Int) : PCall Try.prog 18 [dN n, dI i] (.ret (.tup [dP (dlvP n i), dN (lseN n i), dI (atE n i)])) := by
  refine pcall_of_vc hDlv c18 (by simp [a18]) fun hr => ?_
  simp [a18]
  refine vc_path [.ret (.tup [dP (atP n i), dI (atE n i)])] ?_
  simp
  refine ⟨.at' n i, fun h => ?_, fun h => vc_pathD [.ret (dL (lk (atP n i).a (atP n i).b)), .ret (dB (decide (lk (atP n i).a (atP n i).b ∈ n.c)))] ?_⟩
  · exact ⟨rfl, leD_of_eq (by rw [dlvP_z h, show atP n i = zP by simp [atP, h]]; rfl), nilN3 (by simp [lseN, h])⟩
  obtain ⟨k1, k2⟩ := atE_zero.1 h
  simp
  refine ⟨.between _ _, .contains _ _, rfl, fun h4 => vc_pathD [.ret (dN (wo n i))] ?_, fun h4 => vc_pathD [.ret (dN (wo n i))] ?_⟩
  · simp [dN_eq]
    exact ⟨.without n i k2 (okNt_len k1), rfl, nilP (by simp [dlvP, h4]), leD_of_eq (by simp [lseN, h]), leD_of_eq (by rw [h])⟩
  · simp [dN_eq]
    exact ⟨.without n i k2 (okNt_len k1), rfl, leD_of_eq (by simp [dlvP, h4, dP]), leD_of_eq (by simp [lseN, h]), leD_of_eq (by rw [h])⟩
set_option maxRecDepth 4000 in
theorem rdeliver (n : Nt) (i : Int) : PCall Try.prog 22 [dN n, dI i] (.ret (.tup [dP (dlvP n i), dN (lseN n i), dI (atE n i)])) := by
  refine pcall_of_vc hDlv c22 (by simp [a22]) fun hr => ?_
  simp [a22]
  refine vc_path [.ret (dI (atE n i))] ?_
  simp
  refine ⟨.asked n i, fun h => ?_, fun h => ?_⟩
  · exact ⟨nilP (dlvP_z h), nilN3 (by simp [lseN, h])⟩
  obtain ⟨k1, k2⟩ := atE_zero.1 h
  obtain ⟨k3, k4⟩ := inQ_iff.1 k2
  obtain ⟨k, rfl⟩ := Int.eq_ofNat_of_zero_le k3
  have hk : k < n.q.length := by omega
  have h3 : atP n k = n.q[k] := by simp [atP, h, hk]
  simp [hk]
  refine vc_path [.ret (dB (decide (lk n.q[k].a n.q[k].b ∈ n.c)))] ?_
  simp
  refine ⟨.isCut _ _ _, fun h4 => vc_pathD [.ret (dN (wo n k))] ?_, fun h4 => vc_pathD [.ret (dN (wo n k))] ?_⟩
  · simp [dN_eq]
    exact ⟨.rwithout n k k2 (okNt_len k1), rfl, nilP (by simp [dlvP, h3, h4]), leD_of_eq (by simp [lseN, h]), leD_of_eq (by rw [h])⟩
  · simp [dN_eq]
    exact ⟨.rwithout n k k2 (okNt_len k1), rfl, leD_of_eq (by simp [dlvP, h3, h4, dP]), leD_of_eq (by simp [lseN, h]), leD_of_eq (by rw [h])⟩
end Go.Proofs.Ytbfjmachkbhfnaa
end

section
namespace Go.Proofs.Ytbfjmachkbhfnaa
open Go Go.Proofs.Ytbfjmachkbhfnaa.AL
attribute [local simp] dP_cells dP_agg dP_noTup dL_cells dL_agg dL_noTup dN_cells dN_agg dN_noTup
inductive CSame : FuncId → List D → Out → Prop
  | mk (x y : Pk) : CSame 19 [dP x, dP y] (.ret (dB (decide (x = y))))
theorem hSame : ∀ f ds out, CSame f ds out → PCall Try.prog f ds out := by
  intro f ds out h
  cases h with
  | mk x y => exact samePacket x y
set_option maxRecDepth 4000 in
theorem same (x y : Nt) : PCall Try.prog 15 [dN x, dN y] (.ret (dB (decide (x = y)))) := by
  refine pcall_of_vc hSame c15 (by simp [a15]) fun hr => ?_
  have hlen1 := ((hr (dN x) (by simp)).agg (.sl 3 (x.q.map dP)) (by simp [dN])).2.sl.1
  have hlen2 := ((hr (dN x) (by simp)).agg (.sl 2 (x.c.map dL)) (by simp [dN])).2.sl.1
  simp at hlen1 hlen2
  simp [a15]
  refine vc_path [] ?_
  simp
  have hno : ¬ x = y → LeD (dB false) (dB (decide (x = y))) := fun h => leD_of_eq (by simp [h])
  refine ⟨fun h => ?_, fun h1 => ⟨fun h => ?_, fun h2 => ?_⟩⟩
  · exact hno (fun e => h (by rw [e]))
  · exact hno (fun e => h (by rw [e]))
  refine vc_loopK [2, 3] Nat (fun i => [(5, true, .d (dI i))]) (fun _ => []) (fun i => i ≤ x.q.length ∧ ∀ j, (h : j < i) → (h2 : j < x.q.length) → (h3 : j < y.q.length) → x.q[j] = y.q[j]) (fun i => x.q.length - i) 0 (by simp) ⟨[], [], ?_⟩ (fun i hi => ?_)
  · simp
  obtain ⟨g1, g2⟩ := hi
  simp
  refine ⟨fun hlt => ?_, fun hge1 => ?_⟩
  · have hlt2 : i < y.q.length := by omega
    refine vc_pathD [.ret (dB (decide (x.q[i] = y.q[i])))] ?_
    simp [hlt, hlt2]
    refine ⟨.mk _ _, rfl, fun h => hno (fun e => h (by subst e; rfl)), fun h => ⟨i + 1, ⟨by omega, fun j hj q1 q2 => ?_⟩, by omega, [], [], ?_⟩⟩
    · by_cases e : j = i
      · subst e; exact h
      · exact g2 j (by omega) q1 q2
    · rw [wrap64 (by omega)]; simp
  refine vc_loopK [2, 3] Nat (fun i => [(6, true, .d (dI i))]) (fun _ => []) (fun i => i ≤ x.c.length ∧ ∀ j, (h : j < i) → (h2 : j < x.c.length) → (h3 : j < y.c.length) → x.c[j] = y.c[j]) (fun i => x.c.length - i) 0 (by simp) ⟨[], [], ?_⟩ (fun i hi => ?_)
  · simp
  obtain ⟨g3, g4⟩ := hi
  simp
  refine ⟨fun hlt => ?_, fun hge => ?_⟩
  · have hlt2 : i < y.c.length := by omega
    simp [hlt, hlt2, dL]
    refine ⟨rfl, fun h => hno (fun e => by subst e; simp at h), fun h h' => ⟨i + 1, ⟨by omega, fun j hj q1 q2 => ?_⟩, by omega, [], [], ?_⟩⟩
    · by_cases e : j = i
      · subst e; exact Prod.ext h h'
      · exact g4 j (by omega) q1 q2
    · rw [wrap64 (by omega)]; simp
  · have : x = y := by
      obtain ⟨xq, xc⟩ := x
      obtain ⟨yq, yc⟩ := y
      simp at h1 h2 g2 g4 hge hge1
      have e1 : xq = yq := List.ext_getElem (by omega) (fun j q1 q2 => g2 j (by omega) q1 q2)
      have e2 : xc = yc := List.ext_getElem (by omega) (fun j q1 q2 => g4 j (by omega) q1 q2)
      rw [e1, e2]
    exact leD_of_eq (by simp [this])
end Go.Proofs.Ytbfjmachkbhfnaa
end

section
namespace Go.Proofs.Ytbfjmachkbhfnaa
open Go Go.Proofs.Ytbfjmachkbhfnaa.AL
attribute [local simp] dP_cells dP_agg dP_noTup dL_cells dL_agg dL_noTup dN_cells dN_agg dN_noTup
def ctP (n : Nt) (a b : Int) (on : Bool) (l : Int × Int) : Bool := if l = lk a b then on else decide (l ∈ n.c)
def row (p : Int × Int → Bool) (a k : Nat) : List (Int × Int) := ((List.range' (a + 1) k).map fun (b : Nat) => ((a : Int), (b : Int))).filter p
def tot (p : Int × Int → Bool) (a : Nat) : List (Int × Int) := (List.range a).flatMap fun a => row p a (23 - a)
theorem row_succ (p : Int × Int → Bool) (a k : Nat) : row p a (k + 1) = row p a k ++ (if p ((a : Int), ((a + 1 + k : Nat) : Int)) = true then [((a : Int), ((a + 1 + k : Nat) : Int))] else []) := by
  unfold row
  rw [List.range'_1_concat, List.map_append, List.filter_append]
  simp only [List.map_cons, List.map_nil, List.filter_cons, List.filter_nil]
theorem row_succ' (p : Int × Int → Bool) (a k : Nat) : row p a (k + 1) = row p a k ++ (if p ((a : Int), (a : Int) + 1 + k) = true then [((a : Int), (a : Int) + 1 + k)] else []) := by
  rw [row_succ, show (((a + 1 + k : Nat) : Int)) = (a : Int) + 1 + k by omega]
theorem tot_succ (p : Int × Int → Bool) (a : Nat) : tot p (a + 1) = tot p a ++ row p a (23 - a) := by
  unfold tot
  rw [List.range_succ, List.flatMap_append]
  simp
theorem row_len (p : Int × Int → Bool) (a k : Nat) : (row p a k).length ≤ k := by
  unfold row
  exact Nat.le_trans (List.length_filter_le _ _) (by simp)
theorem tot_len (p : Int × Int → Bool) : ∀ a, (tot p a).length ≤ a * 23
  | 0 => by simp [tot]
  | a + 1 => by
    rw [tot_succ, List.length_append]
    have := row_len p a (23 - a)
    have := tot_len p a
    omega
def okL (a b : Int) : Bool := cValid (lk a b).1 (lk a b).2
def cutE (n : Nt) (a b : Int) : Int := if okNt n = true then (if okL a b = true then 0 else 1) else 60
def cutN (n : Nt) (a b : Int) (on : Bool) : Nt := if okNt n = true ∧ okL a b = true then ⟨n.q, tot (ctP n a b on) 24⟩ else zN
inductive CCut : FuncId → List D → Out → Prop
  | check (n : Nt) : CCut 13 [dN n] (.ret (dI (eNet n)))
  | rcheck (n : Nt) : CCut 14 [dN n] (.ret (dI (eNet n)))
  | between (x y : Int) : CCut 37 [dI x, dI y] (.ret (dL (lk x y)))
  | valid (x : Int × Int) : CCut 32 [dL x] (.ret (dB (cValid x.1 x.2)))
  | site (n : Int) : CCut 34 [dI n] (.ret (dB (decide (0 ≤ n) && decide (n < 24))))
  | contains (l : List (Int × Int)) (x : Int × Int) : CCut 36 [.sl 2 (l.map dL), dL x] (.ret (dB (decide (x ∈ l))))
  | isCut (n : Nt) (a b : Int) : CCut 40 [dN n, dI a, dI b] (.ret (dB (decide (lk a b ∈ n.c))))
theorem hCut : ∀ f ds out, CCut f ds out → PCall Try.prog f ds out := by
  intro f ds out h
  cases h with
  | check n => exact check n
  | rcheck n => exact rcheck n
  | between x y => exact between x y
  | valid x => exact valid x.1 x.2
  | site n => exact site n
  | contains l x => exact contains l x
  | isCut n a b => exact isCut n a b
set_option maxRecDepth 4000 in
theorem rcut (n : Nt) (a b : Int) (on : Bool) : PCall Try.prog 21 [dN n, dI a, dI b, dB on] (.ret (.tup [dN (cutN n a b on), dI (cutE n a b)])) := by
  refine pcall_of_vc hCut c21 (by simp [a21]) fun hr => ?_
  simp [a21]
  refine vc_path [.ret (dI (eNet n))] ?_
  simp
  refine ⟨.rcheck n, fun h => ?_, fun h => vc_path [.ret (dB (decide (0 ≤ a) && decide (a < 24))), .ret (dB (decide (0 ≤ b) && decide (b < 24)))] ?_⟩
  · have h0 : ¬ okNt n = true := fun e => h (eNet_ne.2 e)
    exact ⟨nilN3 (by simp [cutN, h0]), leD_of_eq (by simp [cutE, h0])⟩
  have h0 := eNet_ne.1 h
  have hbad : ¬ okL a b = true → LeD (D.agg [D.nil 3, D.nil 2]) (dN (cutN n a b on)) ∧ LeD (D.lit (Value.int IntKind.i64 1)) (D.lit (Value.int IntKind.i64 (cutE n a b))) := fun h2 => ⟨nilN3 (by simp [cutN, h2]), leD_of_eq (by simp [cutE, h0, h2])⟩
  simp
  have hL : okL a b = true ↔ 0 ≤ a ∧ a < 24 ∧ 0 ≤ b ∧ b < 24 ∧ a ≠ b := by
    unfold okL lk cValid
    by_cases g1 : b < a <;> by_cases g2 : a < b <;> simp [g1, g2] <;> omega
  refine ⟨.site a, fun h => hbad fun h2 => by have := hL.1 h2; omega, fun q1 q2 => ⟨.site b, fun h => hbad fun h2 => by have := hL.1 h2; omega, fun q3 q4 => ⟨fun h => hbad fun h2 => by have := hL.1 h2; omega, fun q5 => ?_⟩⟩⟩
  have h2 := hL.2 ⟨q1, q2, q3, q4, q5⟩
  refine vc_loopK [4, 8, 1, 2, 3] Nat (fun x => [(11, true, .d (dI x)), (10, true, .own 2 2 ((tot (ctP n a b on) x).map dL))]) (fun _ => [(2, .row)]) (fun x => x ≤ 24) (fun x => 24 - x) 0 (by simp) ⟨[], [(2, 2)], ?_⟩ (fun x hx => ?_)
  · simp
    rfl
  simp
  refine ⟨fun hlt => ?_, fun hge => ?_⟩
  · refine vc_loopK [4, 8, 1, 2, 3, 11] Nat (fun k => [(12, true, .d (dI ((x + 1 + k : Nat) : Int))), (10, true, .own 2 2 ((tot (ctP n a b on) x ++ row (ctP n a b on) x k).map dL))]) (fun _ => [(2, .row)]) (fun k => x + 1 + k ≤ 24) (fun k => 24 - k) 0 (by omega) ⟨[], [], ?_⟩ (fun k hk => ?_)
    · simp
      exact ⟨leD_of_eq (by rw [wrap64 (by omega)]), rfl⟩
    simp
    refine ⟨fun hlt2 => ?_, fun hge2 => ?_⟩
    · refine vc_path [.ret (dB (decide (lk x (x + 1 + k : Nat) ∈ n.c)))] ?_
      simp
      refine ⟨?_, vc_path [] ?_⟩
      · have := CCut.isCut n x (x + 1 + k)
        exact this
      have hlen : ((tot (ctP n a b on) x).length + (row (ctP n a b on) x k).length + 1) * 16 ≤ 140737488355328 := by
        have := tot_len (ctP n a b on) x
        have := row_len (ctP n a b on) x k
        omega
      have hlk : lk (x : Int) ((x : Int) + 1 + k) = ((x : Int), (x : Int) + 1 + k) := by
        unfold lk
        rw [if_neg (by omega), if_pos (by omega)]
      have hp : ctP n a b on ((x : Int), (x : Int) + 1 + k) = if (x : Int) = (if b < a then b else a) ∧ (x : Int) + 1 + k = (if a < b then b else a) then on else decide (((x : Int), (x : Int) + 1 + k) ∈ n.c) := by
        unfold ctP lk
        simp only [Prod.mk.injEq]
      have e1 : LeD (.lit (.int .i64 (IntKind.i64.wrap ((x : Int) + 1 + k + 1)))) (.lit (.int .i64 ((x : Int) + 1 + ((k : Int) + 1)))) := leD_of_eq (by rw [wrap64 (by omega)]; congr 2)
      simp [hlk]
      refine ⟨fun g1 => ⟨fun g2 => ⟨fun g3 => ⟨⟨by omega, by omega⟩, k + 1, by omega, by omega, [(2, 4)], [], ?_⟩, fun g3 => ⟨k + 1, by omega, by omega, [], [], ?_⟩⟩, fun g2 => ⟨fun g3 => ⟨⟨by omega, by omega⟩, k + 1, by omega, by omega, [(2, 4)], [], ?_⟩, fun g3 => ⟨k + 1, by omega, by omega, [], [], ?_⟩⟩⟩, fun g1 => ⟨fun g3 => ⟨⟨by omega, by omega⟩, k + 1, by omega, by omega, [(2, 4)], [], ?_⟩, fun g3 => ⟨k + 1, by omega, by omega, [], [], ?_⟩⟩⟩
      · have h3 : ctP n a b on ((x : Int), (x : Int) + 1 + k) = true := by rw [hp, if_pos ⟨g1, g2⟩]; exact g3
        simp [row_succ', h3, dL]
        exact e1
      · have h3 : ctP n a b on ((x : Int), (x : Int) + 1 + k) = false := by rw [hp, if_pos ⟨g1, g2⟩]; exact g3
        simp [row_succ', h3]
        exact e1
      · have h3 : ctP n a b on ((x : Int), (x : Int) + 1 + k) = true := by rw [hp, if_neg (fun e => g2 e.2)]; simpa using g3
        simp [row_succ', h3, dL]
        exact e1
      · have h3 : ctP n a b on ((x : Int), (x : Int) + 1 + k) = false := by rw [hp, if_neg (fun e => g2 e.2)]; simpa using g3
        simp [row_succ', h3]
        exact e1
      · have h3 : ctP n a b on ((x : Int), (x : Int) + 1 + k) = true := by rw [hp, if_neg (fun e => g1 e.1)]; simpa using g3
        simp [row_succ', h3, dL]
        exact e1
      · have h3 : ctP n a b on ((x : Int), (x : Int) + 1 + k) = false := by rw [hp, if_neg (fun e => g1 e.1)]; simpa using g3
        simp [row_succ', h3]
        exact e1
    · obtain ⟨e⟩ : k = 23 - x := by omega
      refine ⟨x + 1, by omega, by omega, [], [], ?_⟩
      rw [wrap64 (by omega)]
      simp [tot_succ]
  · have e : x = 24 := by omega
    subst e
    simp [dN_eq]
    exact ⟨⟨leD_of_eq (by simp [cutN, h0, h2]), leD_of_eq (by simp [cutN, h0, h2])⟩, leD_of_eq (by simp [cutE, h0, h2])⟩
end Go.Proofs.Ytbfjmachkbhfnaa
end

section
namespace Go.Proofs.Ytbfjmachkbhfnaa
open Go Go.Proofs.Ytbfjmachkbhfnaa.AL
attribute [local simp] dP_cells dP_agg dP_noTup dL_cells dL_agg dL_noTup dN_cells dN_agg dN_noTup
set_option maxRecDepth 8000 in
theorem cut (n : Nt) (a b : Int) (on : Bool) : PCall Try.prog 20 [dN n, dI a, dI b, dB on] (.ret (.tup [dN (cutN n a b on), dI (cutE n a b)])) := by
  refine pcall_of_vc hCut c20 (by simp [a20]) fun hr => ?_
  simp [a20]
  refine vc_path [.ret (dI (eNet n))] ?_
  simp
  refine ⟨.check n, fun h => ?_, fun h => vc_path [.ret (dL (lk a b))] ?_⟩
  · have h0 : ¬ okNt n = true := fun e => h (eNet_ne.2 e)
    exact ⟨nilN3 (by simp [cutN, h0]), leD_of_eq (by simp [cutE, h0])⟩
  have h0 := eNet_ne.1 h
  simp
  refine ⟨.between a b, vc_path [.ret (dB (okL a b))] ?_⟩
  simp
  refine ⟨.valid (lk a b), fun h2 => ⟨nilN3 (by simp [cutN, h2]), leD_of_eq (by simp [cutE, h0, h2])⟩, fun h2 => ?_⟩
  refine stepS_icall (TF Try.prog a39) (hcall_of_vc c39) (by rfl) ?_ (by rfl) ?_
  · simp
  simp [a39]
  refine vc_range (TF Try.prog a46) (hcall_of_vc c46) rfl (by rfl) (fun l => by rfl) (fun l => ?_)
  simp [a46]
  refine vc_loopK [0, 1, 2, 3] Nat (fun x => [(8, true, .d (dI x))]) (fun x => [(1, .box true [.d (.sl 3 (n.q.map dP)), .own 8 2 ((tot (ctP n a b on) x).map dL)]), (8, .row)]) (fun x => x ≤ 24) (fun x => 24 - x) 0 (by simp) ⟨[], [(8, 2)], ?_⟩ (fun x hx => ?_)
  · simp
    exact ⟨rfl, fun x hx => by omega⟩
  simp
  refine ⟨fun hlt => ?_, fun hge => ?_⟩
  · refine vc_loopK [0, 1, 2, 3, 8, 5] Nat (fun k => [(6, true, .d (dI ((x + 1 + k : Nat) : Int)))]) (fun k => [(1, .box true [.d (.sl 3 (n.q.map dP)), .own 8 2 ((tot (ctP n a b on) x ++ row (ctP n a b on) x k).map dL)]), (8, .row)]) (fun k => x + 1 + k ≤ 24) (fun k => 24 - k) 0 (by omega) ⟨[], [], ?_⟩ (fun k hk => ?_)
    · simp
      exact ⟨leD_of_eq (by rw [wrap64 (by omega)]), rfl, fun x hx => by omega⟩
    simp
    refine ⟨fun hlt2 => ?_, fun hge2 => ?_⟩
    · refine vc_path [.ret (dB (decide (((x : Int), (x : Int) + 1 + k) ∈ n.c)))] ?_
      simp
      have hlen : ((tot (ctP n a b on) x).length + (row (ctP n a b on) x k).length + 1) * 16 ≤ 140737488355328 := by
        have := tot_len (ctP n a b on) x
        have := row_len (ctP n a b on) x k
        omega
      have e1 : LeD (.lit (.int .i64 (IntKind.i64.wrap ((x : Int) + 1 + k + 1)))) (.lit (.int .i64 ((x : Int) + 1 + ((k : Int) + 1)))) := leD_of_eq (by rw [wrap64 (by omega)]; congr 2)
      have hp : ctP n a b on ((x : Int), (x : Int) + 1 + k) = if (x : Int) = (lk a b).1 ∧ (x : Int) + 1 + k = (lk a b).2 then on else decide (((x : Int), (x : Int) + 1 + k) ∈ n.c) := by
        simp only [ctP, Prod.ext_iff]
      have hno : ¬ ((x : Int) = (lk a b).1 ∧ (x : Int) + 1 + k = (lk a b).2) → ctP n a b on ((x : Int), (x : Int) + 1 + k) = decide (((x : Int), (x : Int) + 1 + k) ∈ n.c) := fun h => by rw [hp, if_neg h]
      refine ⟨fun g1 g2 => ⟨fun g3 => ⟨k + 1, by omega, by omega, [], [], ?_⟩, fun g3 => ⟨fun g4 => (g4.elim (absurd g1) (absurd g2)), fun _ _ => stepS_ycall (by rfl) ?_ rfl ?_⟩⟩, fun g4 => ⟨fun _ => ⟨.contains n.c ((x : Int), (x : Int) + 1 + k), fun g5 => ⟨k + 1, by omega, by omega, [], [], ?_⟩, fun g5 => stepS_ycall (by rfl) ?_ rfl ?_⟩, fun g1 g2 => absurd g2 (g4 g1)⟩⟩
      · have h3 : ctP n a b on ((x : Int), (x : Int) + 1 + k) = false := by rw [hp, if_pos ⟨g1, g2⟩]; exact g3
        simp [row_succ', h3]
        exact ⟨e1, fun x hx => by omega⟩
      · simp
      · have h3 : ctP n a b on ((x : Int), (x : Int) + 1 + k) = true := by rw [hp, if_pos ⟨g1, g2⟩]; exact g3
        simp
        refine ⟨⟨by omega, by omega⟩, k + 1, by omega, by omega, [(8, 12)], [], ?_⟩
        simp [row_succ', h3, dL]
        exact ⟨e1, fun x hx => .inr ⟨by rw [if_neg (by omega)]; rfl, by omega⟩⟩
      · have h3 : ctP n a b on ((x : Int), (x : Int) + 1 + k) = false := by rw [hno (fun e => g4 e.1 e.2)]; simpa using g5
        simp [row_succ', h3]
        exact ⟨e1, fun x hx => by omega⟩
      · simp
      · have h3 : ctP n a b on ((x : Int), (x : Int) + 1 + k) = true := by rw [hno (fun e => g4 e.1 e.2)]; simpa using g5
        simp
        refine ⟨⟨by omega, by omega⟩, k + 1, by omega, by omega, [(8, 12)], [], ?_⟩
        simp [row_succ', h3, dL]
        exact ⟨e1, fun x hx => .inr ⟨by rw [if_neg (by omega)]; rfl, by omega⟩⟩
    · have e : k = 23 - x := by omega
      subst e
      refine ⟨x + 1, by omega, by omega, [], [], ?_⟩
      rw [wrap64 (by omega)]
      simp [tot_succ]
      intro x hx; omega
  · have e : x = 24 := by omega
    subst e
    simp [dN_eq]
    exact ⟨⟨leD_of_eq (by simp [cutN, h0, h2]), leD_of_eq (by simp [cutN, h0, h2])⟩, leD_of_eq (by simp [cutE, h0, h2])⟩
end Go.Proofs.Ytbfjmachkbhfnaa
end

section
namespace Go.Proofs.Ytbfjmachkbhfnaa
open Go Go.Proofs.Ytbfjmachkbhfnaa.AL
inductive CS : FuncId → List D → Out → Prop
  | new1 : CS 16 [] (.ret (dN ⟨[], []⟩))
  | new2 : CS 17 [] (.ret (dN ⟨[], []⟩))
  | check (n : Nt) : CS 13 [dN n] (.ret (dI (eNet n)))
  | rcheck (n : Nt) : CS 14 [dN n] (.ret (dI (eNet n)))
  | few (n : Nt) : CS 10 [dN n] (.ret (dB (decide ((n.q.length : Int) ≤ 40) && decide ((n.c.length : Int) ≤ 40))))
  | samePacket (x y : Pk) : CS 19 [dP x, dP y] (.ret (dB (decide (x = y))))
  | same (x y : Nt) : CS 15 [dN x, dN y] (.ret (dB (decide (x = y))))
  | send (n : Nt) (p : Pk) : CS 11 [dN n, dP p] (.ret (.tup [dN (sndN n p), dI (sndE n p)]))
  | rsend (n : Nt) (p : Pk) : CS 12 [dN n, dP p] (.ret (.tup [dN (sndN n p), dI (sndE n p)]))
  | deliver (n : Nt) (i : Int) : CS 18 [dN n, dI i] (.ret (.tup [dP (dlvP n i), dN (lseN n i), dI (atE n i)]))
  | rdeliver (n : Nt) (i : Int) : CS 22 [dN n, dI i] (.ret (.tup [dP (dlvP n i), dN (lseN n i), dI (atE n i)]))
  | lose (n : Nt) (i : Int) : CS 23 [dN n, dI i] (.ret (.tup [dN (lseN n i), dI (atE n i)]))
  | rlose (n : Nt) (i : Int) : CS 24 [dN n, dI i] (.ret (.tup [dN (lseN n i), dI (atE n i)]))
  | repeat' (n : Nt) (i : Int) : CS 25 [dN n, dI i] (.ret (.tup [dN (repN n i), dI (repE n i)]))
  | rrepeat (n : Nt) (i : Int) : CS 26 [dN n, dI i] (.ret (.tup [dN (repN n i), dI (repE n i)]))
  | cut (n : Nt) (a b : Int) (on : Bool) : CS 20 [dN n, dI a, dI b, dB on] (.ret (.tup [dN (cutN n a b on), dI (cutE n a b)]))
  | rcut (n : Nt) (a b : Int) (on : Bool) : CS 21 [dN n, dI a, dI b, dB on] (.ret (.tup [dN (cutN n a b on), dI (cutE n a b)]))
  | weak {f : FuncId} {ds ds' : List D} {out : Out} (h : CS f ds out) (hle : All2 LeD ds' ds) : CS f ds' out
theorem pweak {P : Program} {f : FuncId} {ds ds' : List D} {out : Out} (h : PCall P f ds out) (hle : All2 LeD ds' ds) : PCall P f ds' out := by
  refine ⟨h.1, fun I w vals hI hr => h.2 I w vals hI ⟨by rw [hr.1]; exact all2_len hle, fun k c v hk hv => ?_⟩⟩
  obtain ⟨x, hx, hle⟩ := all2_get hle hk
  exact hle I w v (hr.2 k x v hx hv)
theorem hCS : ∀ f ds out, CS f ds out → PCall Try.prog f ds out := by
  intro f ds out h
  induction h with
  | weak h hle ih => exact pweak ih hle
  | new1 => exact new1
  | new2 => exact new2
  | check n => exact check n
  | rcheck n => exact rcheck n
  | few n => exact few n
  | samePacket x y => exact samePacket x y
  | same x y => exact same x y
  | send n p => exact send n p
  | rsend n p => exact rsend n p
  | deliver n i => exact deliver n i
  | rdeliver n i => exact rdeliver n i
  | lose n i => exact lose n i
  | rlose n i => exact rlose n i
  | repeat' n i => exact repeat' n i
  | rrepeat n i => exact rrepeat n i
  | cut n a b on => exact cut n a b on
  | rcut n a b on => exact rcut n a b on
theorem nilP2 (a b : Int) : LeD (.agg [.lit (.int .i64 a), .lit (.int .i64 b), .nil 1]) (dP ⟨a, b, []⟩) := LeD.agg (.cons (LeD.refl _) (.cons (LeD.refl _) (.cons (LeD.nil' 1 1) .nil))) (by simp)
def p7 : Pk := ⟨1, 3, [7]⟩
theorem s1 : CS 18 [dN ⟨[], []⟩, dI 0] (.ret (.tup [dP zP, dN zN, dI 1])) := by
  have := CS.deliver ⟨[], []⟩ 0
  rwa [show dlvP ⟨[], []⟩ 0 = zP by decide, show lseN ⟨[], []⟩ 0 = zN by decide, show atE ⟨[], []⟩ 0 = 1 by decide] at this
theorem s2 : CS 11 [dN ⟨[], []⟩, dP ⟨3, 3, []⟩] (.ret (.tup [dN zN, dI 60])) := by
  have := CS.send ⟨[], []⟩ ⟨3, 3, []⟩
  rwa [show sndN ⟨[], []⟩ ⟨3, 3, []⟩ = zN by decide, show sndE ⟨[], []⟩ ⟨3, 3, []⟩ = 60 by decide] at this
theorem s3 : CS 20 [dN ⟨[], []⟩, dI 2, dI 2, dB true] (.ret (.tup [dN zN, dI 1])) := by
  have := CS.cut ⟨[], []⟩ 2 2 true
  rwa [show cutN ⟨[], []⟩ 2 2 true = zN by decide, show cutE ⟨[], []⟩ 2 2 = 1 by decide] at this
theorem s4 : CS 11 [dN ⟨[], []⟩, dP p7] (.ret (.tup [dN ⟨[p7], []⟩, dI 0])) := by
  have := CS.send ⟨[], []⟩ p7
  rwa [show sndN ⟨[], []⟩ p7 = ⟨[p7], []⟩ by decide, show sndE ⟨[], []⟩ p7 = 0 by decide] at this
theorem s5 : CS 25 [dN ⟨[p7], []⟩, dI 0] (.ret (.tup [dN ⟨[p7, p7], []⟩, dI 0])) := by
  have := CS.repeat' ⟨[p7], []⟩ 0
  rwa [show repN ⟨[p7], []⟩ 0 = ⟨[p7, p7], []⟩ by decide, show repE ⟨[p7], []⟩ 0 = 0 by decide] at this
set_option maxRecDepth 20000 in
theorem s6 : CS 20 [dN ⟨[p7, p7], []⟩, dI 3, dI 1, dB true] (.ret (.tup [dN ⟨[p7, p7], [(1, 3)]⟩, dI 0])) := by
  have := CS.cut ⟨[p7, p7], []⟩ 3 1 true
  rwa [show cutN ⟨[p7, p7], []⟩ 3 1 true = ⟨[p7, p7], [(1, 3)]⟩ by decide, show cutE ⟨[p7, p7], []⟩ 3 1 = 0 by decide] at this
theorem s7 : CS 18 [dN ⟨[p7, p7], []⟩, dI 0] (.ret (.tup [dP p7, dN ⟨[p7], []⟩, dI 0])) := by
  have := CS.deliver ⟨[p7, p7], []⟩ 0
  rwa [show dlvP ⟨[p7, p7], []⟩ 0 = p7 by decide, show lseN ⟨[p7, p7], []⟩ 0 = ⟨[p7], []⟩ by decide, show atE ⟨[p7, p7], []⟩ 0 = 0 by decide] at this
theorem s8 : CS 18 [dN ⟨[p7, p7], [(1, 3)]⟩, dI 1] (.ret (.tup [dP zP, dN ⟨[p7], [(1, 3)]⟩, dI 0])) := by
  have := CS.deliver ⟨[p7, p7], [(1, 3)]⟩ 1
  rwa [show dlvP ⟨[p7, p7], [(1, 3)]⟩ 1 = zP by decide, show lseN ⟨[p7, p7], [(1, 3)]⟩ 1 = ⟨[p7], [(1, 3)]⟩ by decide, show atE ⟨[p7, p7], [(1, 3)]⟩ 1 = 0 by decide] at this
theorem s9 : CS 13 [dN ⟨[], []⟩] (.ret (dI 0)) := by
  have := CS.check ⟨[], []⟩
  rwa [show eNet ⟨[], []⟩ = 0 by decide] at this
theorem s10 : CS 19 [dP p7, dP p7] (.ret (dB true)) := by
  have := CS.samePacket p7 p7
  simpa using this
theorem s11 : CS 19 [dP zP, dP zP] (.ret (dB true)) := by
  have := CS.samePacket zP zP
  simpa using this
theorem s12 : CS 15 [dN ⟨[p7], []⟩, dN ⟨[p7], []⟩] (.ret (dB true)) := by
  have := CS.same ⟨[p7], []⟩ ⟨[p7], []⟩
  simpa using this
attribute [local simp] dN dP dL dU p7 zP zN
set_option maxRecDepth 8000 in
set_option maxHeartbeats 4000000 in
theorem sane : PCall Try.prog 9 [] (.ret (dB true)) := by
  refine pcall_of_vc hCS c9 (by simp [a9]) fun hr => ?_
  simp [a9]
  refine vc_path [.ret (dN ⟨[], []⟩)] ?_
  simp
  refine ⟨.new1, vc_path [.ret (.tup [dP zP, dN zN, dI 1])] ?_⟩
  simp
  refine ⟨s1, vc_path [.ret (.tup [dN zN, dI 60])] ?_⟩
  simp
  refine ⟨.weak s2 (.cons (LeD.refl _) (.cons (nilP2 3 3) .nil)), vc_path [.ret (.tup [dN zN, dI 1])] ?_⟩
  simp
  refine ⟨s3, vc_path [.ret (.tup [dN ⟨[p7], []⟩, dI 0])] ?_⟩
  simp
  refine ⟨s4, vc_path [.ret (.tup [dN ⟨[p7, p7], []⟩, dI 0])] ?_⟩
  simp
  refine ⟨s5, vc_path [.ret (.tup [dN ⟨[p7, p7], [(1, 3)]⟩, dI 0])] ?_⟩
  simp
  refine ⟨s6, vc_path [.ret (.tup [dP p7, dN ⟨[p7], []⟩, dI 0])] ?_⟩
  simp
  refine ⟨s7, vc_path [.ret (.tup [dP zP, dN ⟨[p7], [(1, 3)]⟩, dI 0])] ?_⟩
  simp
  refine ⟨s8, vc_calls [.ret (dI 0), .ret (dB true), .ret (dB true), .ret (dB true)] ?_⟩
  simp
  exact ⟨s9, s10, .weak s11 (.cons (LeD.refl _) (.cons (nilP2 0 0) .nil)), s12⟩
end Go.Proofs.Ytbfjmachkbhfnaa
end

section
namespace Go.Proofs.Ytbfjmachkbhfnaa
open Go Go.Proofs.Ytbfjmachkbhfnaa.AL
attribute [local simp] dP_cells dP_agg dP_noTup dL_cells dL_agg dL_noTup dN_cells dN_agg dN_noTup
inductive CLaw : FuncId → List D → Out → Prop
  | cs {f : FuncId} {ds : List D} {out : Out} (h : CS f ds out) : CLaw f ds out
  | sane : CLaw 9 [] (.ret (dB true))
theorem hLaw : ∀ f ds out, CLaw f ds out → PCall Try.prog f ds out := by
  intro f ds out h
  cases h with
  | cs h => exact hCS _ _ _ h
  | sane => exact sane
theorem same_t (x : Nt) : CS 15 [dN x, dN x] (.ret (dB true)) := by
  have := CS.same x x
  simpa using this
set_option maxRecDepth 8000 in
set_option maxHeartbeats 4000000 in
theorem spec (n : Nt) (p : Pk) : PCall Try.prog 3 [dN n, dP p] (.ret (dB true)) := by
  refine pcall_of_vc hLaw c3 (by simp [a3]) fun hr => ?_
  simp -implicitDefEqProofs [a3]
  refine vc_path [.ret (dB true)] ?_
  simp -implicitDefEqProofs
  refine ⟨.sane, vc_path [.ret (dB (decide ((n.q.length : Int) ≤ 40) && decide ((n.c.length : Int) ≤ 40)))] ?_⟩
  simp -implicitDefEqProofs
  refine ⟨.cs (.few n), fun h1 h2 => vc_path [.ret (.tup [dN (sndN n p), dI (sndE n p)])] ?_⟩
  simp -implicitDefEqProofs
  refine ⟨.cs (.send n p), vc_path [.ret (.tup [dN (sndN n p), dI (sndE n p)])] ?_⟩
  simp -implicitDefEqProofs
  refine ⟨.cs (.rsend n p), vc_pathD [.ret (dI (eNet n)), .ret (dI (eNet n)), .ret (dB true), .ret (dN ⟨[], []⟩), .ret (dN ⟨[], []⟩), .ret (dB true)] ?_⟩
  simp -implicitDefEqProofs
  exact ⟨.cs (.check n), .cs (.rcheck n), .cs (same_t (sndN n p)), .cs .new1, .cs .new2, .cs (same_t ⟨[], []⟩), rfl⟩
end Go.Proofs.Ytbfjmachkbhfnaa
end

section
namespace Go.Proofs.Ytbfjmachkbhfnaa
open Go Go.Proofs.Ytbfjmachkbhfnaa.AL
/-! Plain laws. -/
theorem okNt_iff {n : Nt} : okNt n = true ↔ n.q.length ≤ 4096 ∧ (∀ x ∈ n.q, okP x = true) ∧ okC n.c = true := by
  simp only [okNt, Bool.and_eq_true, decide_eq_true_eq, List.all_eq_true]
  constructor
  · rintro ⟨h1, h2, h3⟩; exact ⟨by omega, h2, h3⟩
  · rintro ⟨h1, h2, h3⟩; exact ⟨by omega, h2, h3⟩
theorem atE_in {n : Nt} {i : Nat} (h : okNt n = true) (hi : i < n.q.length) : atE n i = 0 := by
  have : inQ n i = true := inQ_iff.2 ⟨by omega, by omega⟩
  simp [atE, h, this]
theorem atP_in {n : Nt} {i : Nat} (h : okNt n = true) (hi : i < n.q.length) : atP n i = n.q[i] := by
  simp [atP, atE_in h hi, hi]
theorem ok_wo {n : Nt} {i : Nat} (h : okNt n = true) : okNt (wo n i) = true := by
  obtain ⟨h1, h2, h3⟩ := okNt_iff.1 h
  refine okNt_iff.2 ⟨?_, fun x hx => ?_, h3⟩
  · simp [wo]; omega
  · simp [wo] at hx
    rcases hx with hx | hx
    · exact h2 x (List.mem_of_mem_take hx)
    · exact h2 x (List.mem_of_mem_drop hx)
theorem ok_snd {n : Nt} {p : Pk} (h : okNt n = true) (hp : okP p = true) (hl : n.q.length < 4096) : sndN n p = ⟨n.q ++ [p], n.c⟩ ∧ sndE n p = 0 ∧ okNt ⟨n.q ++ [p], n.c⟩ = true := by
  refine ⟨?_, ?_, ?_⟩
  · rw [sndN, if_pos ⟨h, hp, by omega⟩]
  · rw [sndE, if_pos ⟨h, hp⟩, if_neg (by omega)]
  · obtain ⟨h1, h2, h3⟩ := okNt_iff.1 h
    refine okNt_iff.2 ⟨by simp; omega, fun x hx => ?_, h3⟩
    simp at hx
    rcases hx with hx | rfl
    · exact h2 x hx
    · exact hp
theorem wo_app {n : Nt} {i : Nat} {p : Pk} (hi : i < n.q.length) : wo ⟨n.q ++ [p], n.c⟩ i = ⟨(wo n i).q ++ [p], n.c⟩ := by
  simp [wo, List.take_append_of_le_length (Nat.le_of_lt hi), List.drop_append_of_le_length (show i + 1 ≤ n.q.length by omega)]
/-- Sent, repeated, lost. -/
theorem lost_law {n : Nt} {i : Nat} (h : okNt n = true) (hi : i < n.q.length) (hl : n.q.length ≤ 40) :
    atE n i = 0 ∧ lseN n i = wo n i ∧ repE n i = 0 ∧ repN n i = ⟨n.q ++ [n.q[i]], n.c⟩ ∧ atE ⟨n.q ++ [n.q[i]], n.c⟩ i = 0 ∧
    lseN ⟨n.q ++ [n.q[i]], n.c⟩ i = ⟨(wo n i).q ++ [n.q[i]], n.c⟩ ∧ sndE (wo n i) n.q[i] = 0 ∧ sndN (wo n i) n.q[i] = ⟨(wo n i).q ++ [n.q[i]], n.c⟩ := by
  have e1 := atE_in h hi
  have hp : okP n.q[i] = true := (okNt_iff.1 h).2.1 _ (List.getElem_mem hi)
  obtain ⟨s1, s2, s3⟩ := ok_snd h hp (by omega)
  have e2 : atE ⟨n.q ++ [n.q[i]], n.c⟩ i = 0 := atE_in s3 (by simp; omega)
  obtain ⟨t1, t2, t3⟩ := ok_snd (ok_wo (i := i) h) hp (by simp [wo]; omega)
  refine ⟨e1, by simp [lseN, e1], by simp [repE, e1, atP_in h hi, s2], by simp [repN, e1, atP_in h hi, s1], e2, by simp [lseN, e2, wo_app hi], t2, t1⟩
end Go.Proofs.Ytbfjmachkbhfnaa
end

section
namespace Go.Proofs.Ytbfjmachkbhfnaa
open Go Go.Proofs.Ytbfjmachkbhfnaa.AL
attribute [local simp] dP_cells dP_agg dP_noTup dL_cells dL_agg dL_noTup dN_cells dN_agg dN_noTup
theorem wrapu {n : Int} (h : 0 ≤ n ∧ n ≤ 18446744073709551615) : IntKind.u64.wrap n = n := by
  simp [IntKind.wrap, IntKind.bits, IntKind.signed]; omega
set_option maxRecDepth 8000 in
set_option maxHeartbeats 4000000 in
theorem lost (n : Nt) (k : Nat) : PCall Try.prog 8 [dN n, .lit (.int .u64 (k : Int))] (.ret (dB true)) := by
  refine pcall_of_vc hLaw c8 (by simp [a8]) fun hr => ?_
  simp -implicitDefEqProofs [a8]
  refine vc_path [.ret (dB true)] ?_
  simp -implicitDefEqProofs
  refine ⟨.sane, vc_path [.ret (dB (decide ((n.q.length : Int) ≤ 40) && decide ((n.c.length : Int) ≤ 40))), .ret (dI (eNet n))] ?_⟩
  simp -implicitDefEqProofs
  refine ⟨.cs (.few n), fun h1 h2 => ⟨.cs (.check n), fun h3 hq => ?_⟩⟩
  have h0 := eNet_ne.1 h3
  have hpos : 0 < n.q.length := List.length_pos_iff.2 hq
  have hw : IntKind.u64.wrap (n.q.length : Int) = n.q.length := wrapu (by omega)
  obtain ⟨i, hi, he⟩ : ∃ i : Nat, i < n.q.length ∧ IntKind.i64.wrap (Int.tmod (k : Int) (n.q.length : Int)) = (i : Int) := by
    have hlt := Nat.mod_lt k hpos
    refine ⟨k % n.q.length, hlt, ?_⟩
    rw [← Int.ofNat_tmod, wrap64 (by omega)]
  obtain ⟨l1, l2, l3, l4, l5, l6, l7, l8⟩ := lost_law h0 hi (by omega)
  simp only [hw, he]
  refine ⟨by omega, vc_path [.ret (.tup [dP (dlvP n i), dN (wo n i), dI 0])] ?_⟩
  simp -implicitDefEqProofs
  refine ⟨.cs (by have := CS.deliver n i; rwa [l2, l1] at this), vc_path [.ret (.tup [dN (wo n i), dI 0])] ?_⟩
  simp -implicitDefEqProofs
  refine ⟨.cs (by have := CS.lose n i; rwa [l2, l1] at this), vc_path [.ret (.tup [dN ⟨n.q ++ [n.q[i]], n.c⟩, dI 0])] ?_⟩
  simp -implicitDefEqProofs
  refine ⟨.cs (by have := CS.repeat' n i; rwa [l3, l4] at this), vc_path [.ret (.tup [dN ⟨(wo n i).q ++ [n.q[i]], n.c⟩, dI 0])] ?_⟩
  simp -implicitDefEqProofs
  refine ⟨.cs (by have c := CS.lose ⟨n.q ++ [n.q[i]], n.c⟩ i; rw [l6, l5] at c; simpa only [dI, dN_eq, List.map_append, List.map_cons, List.map_nil] using c), vc_pathD [.ret (.tup [dN ⟨(wo n i).q ++ [n.q[i]], n.c⟩, dI 0])] ?_⟩
  simp -implicitDefEqProofs [hi]
  refine ⟨.cs (by have c := CS.send (wo n i) n.q[i]; rw [l7, l8] at c; exact c), rfl, vc_path [.ret (dB true), .ret (dB true)] ?_⟩
  simp -implicitDefEqProofs
  refine ⟨.cs (same_t (wo n i)), .cs (by have c := same_t ⟨(wo n i).q ++ [n.q[i]], n.c⟩; simpa only [dB, dN_eq, List.map_append, List.map_cons, List.map_nil] using c), leD_of_eq ?_⟩
  rw [wrap64 (by omega)]
  simp
end Go.Proofs.Ytbfjmachkbhfnaa
end

section
namespace Go.Proofs.Ytbfjmachkbhfnaa
open Go Go.Proofs.Ytbfjmachkbhfnaa.AL
noncomputable def fsOf (t : TypeId) : Array Field := match Try.prog.underlying t with
  | some (.struct fs) => fs
  | _ => #[]
noncomputable def fld (t : TypeId) (i : Nat) : Field := (fsOf t).getD i ⟨"", 0, 0, false, "", "", 0⟩
theorem u25 : Try.prog.underlying 25 = some (.struct #[fld 25 0, fld 25 1]) := by kernel_rfl
theorem u28 : Try.prog.underlying 28 = some (.struct #[fld 28 0, fld 28 1, fld 28 2]) := by kernel_rfl
section
variable {H : Type} {enc : TypeId × Value → H} {w : World}
theorem u3 : Try.prog.underlying 3 = some (.int .i64) := by kernel_rfl
theorem u5 : Try.prog.underlying 5 = some (.int .u8) := by kernel_rfl
theorem u26 : Try.prog.underlying 26 = some (.slice 5) := by kernel_rfl
theorem u22 : Try.prog.underlying 22 = some (.slice 28) := by kernel_rfl
theorem u23 : Try.prog.underlying 23 = some (.slice 55) := by kernel_rfl
theorem u55 : Try.prog.underlying 55 = some (.array 2 3) := by kernel_rfl
theorem c3' : Try.prog.cellsOf 3 = 1 := by kernel_rfl
theorem c5' : Try.prog.cellsOf 5 = 1 := by kernel_rfl
theorem c55' : Try.prog.cellsOf 55 = 2 := by kernel_rfl
theorem c28' : Try.prog.cellsOf 28 = 3 := by kernel_rfl
theorem sh3 : Shows enc Try.prog w 3 dI := shows_int u3
theorem sh26 : Shows enc Try.prog w 26 (fun l : List UInt8 => .sl 1 (l.map dU)) := shows_slice u26 c5' (fun _ => rfl) (fun y c hc => by simp [dU, D.cells] at hc; subst hc; rfl) (shows_u8 u5)
theorem sh55 : Shows enc Try.prog w 55 dL := shows_map (shows_array2 u55 (by rw [c55', c3']) sh3) (fun y => ⟨(y.1, y.2), rfl⟩)
theorem sh23 : Shows enc Try.prog w 23 (fun l : List (Int × Int) => .sl 2 (l.map dL)) := shows_slice u23 c55' (fun _ => rfl) (fun y c hc => by simp [dL, D.cells] at hc; rcases hc with rfl | rfl <;> rfl) sh55
theorem c22' : Try.prog.cellsOf 22 = 1 := by kernel_rfl
theorem c23' : Try.prog.cellsOf 23 = 1 := by kernel_rfl
theorem c25' : Try.prog.cellsOf 25 = 2 := by kernel_rfl
theorem c26' : Try.prog.cellsOf 26 = 1 := by kernel_rfl
theorem sh28 : Shows enc Try.prog w 28 dP := shows_map (shows_struct3 u28 (t0 := 3) (t1 := 3) (t2 := 26) (by kernel_rfl) (by kernel_rfl) (by kernel_rfl) (by kernel_rfl) (by rw [c3']; kernel_rfl) (by rw [c3']; kernel_rfl) (by rw [c28', c3', c26']) sh3 sh3 sh26) (fun y => ⟨⟨y.1, y.2.1, y.2.2⟩, rfl⟩)
theorem sh22 : Shows enc Try.prog w 22 (fun l : List Pk => .sl 3 (l.map dP)) := shows_slice u22 c28' (fun _ => rfl) (fun y c hc => by simp [dP, D.cells] at hc; rcases hc with rfl | rfl | rfl <;> rfl) sh28
theorem sh25 : Shows enc Try.prog w 25 dN := shows_map (shows_struct2 u25 (t0 := 22) (t1 := 23) (by kernel_rfl) (by kernel_rfl) (by kernel_rfl) (by rw [c22']; kernel_rfl) (by rw [c25', c22', c23']) sh22 sh23) (fun y => ⟨⟨y.1, y.2⟩, rfl⟩)
end
end Go.Proofs.Ytbfjmachkbhfnaa
end

section
namespace Go.Proofs.Ytbfjmachkbhfnaa
open Go Go.Proofs.Ytbfjmachkbhfnaa.AL Go.ChangeShapes Go.WideShapes Go.RowKit
theorem own : ownKnob Try.prog.godebug = none := by kernel_rfl
theorem laidOut : laidOutB Try.prog = true := by kernel_rfl
theorem below_of_grow {w w' : World} (h : Grow w w') : Below w.heap.size w w' := ⟨h.os, h.tape, h.output, h.size, h.block⟩
theorem params3 : Try.f3.params.toList = [25, 28] := by kernel_rfl
theorem results3 : Try.f3.resultTypes.toList = [4] := by kernel_rfl
theorem u4 : Try.prog.underlying 4 = some .bool := by kernel_rfl
/-- A value that is read as a struct is a struct of cells. -/
theorem agg_of {W : World} {base : Nat} {t : TypeId} {fs : Array Field} {v : Value} (ht : Try.prog.underlying t = some (.struct fs)) (h : Value.okWide Try.prog W .any base t v) : ∃ cs, v = .agg cs := by
  unfold Value.okWide at h
  rw [ht] at h
  obtain ⟨cs, e, _⟩ := h
  exact ⟨cs, e⟩
theorem rep_of_cells {I : Addr → Prop} {w : World} {ds : List D} {cs : Array Value} (h1 : ∀ c ∈ ds, c.one = true) (h : RepL I w ds (Value.agg cs).cells.toList.toArray) : Rep I w (.agg ds) (.agg cs) := by
  have h' : RepL I w ds cs := by simpa [Value.cells] using h
  exact .agg h'.1 h1 h'.2
theorem one_N (n : Nt) : ∀ c ∈ (dN n).cells, c.one = true := by
  intro c hc
  simp [dN, D.cells] at hc
  rcases hc with rfl | rfl <;> rfl
theorem one_P (n : Pk) : ∀ c ∈ (dP n).cells, c.one = true := by
  intro c hc
  simp [dP, D.cells] at hc
  rcases hc with rfl | rfl | rfl <;> rfl
set_option maxRecDepth 100000 in
theorem spec_lifted (os : Os) (started : os.Started) (H : Type) (enc : TypeId × Value → H) :
    ReturnsInHanded {} Try.checked os 3 .any (Rows.networkSpecSpec.pre6 enc Try.prog Try.f3 Rows.networkSpecRow.domain false) (Rows.networkSpecSpec.post enc Try.prog Try.f3 false true false false) := by
  refine returnsInHanded_of_change (C := Try.checked) own started (by kernel_rfl) Try.func3
    (ChangeSpec.witness6 (enc := enc) (C := Try.checked) false ⟨#[], #[.agg #[.slice none 0 0, .slice none 0 0], .agg #[.int .i64 0, .int .i64 0, .slice none 0 0]], []⟩ 8 (by kernel_rfl) (by kernel_rfl) (by kernel_rfl) (by kernel_rfl)) ?_
  intro W base args ds gs before hval0 hW _ _
  have hW' := hW
  obtain ⟨p, q, hA0, hV, rfl, _, _⟩ := hW
  have hA : DataW.TrodAll enc Try.prog W 0 (fun _ => true) true [25, 28] args.toList ds p := by rw [← params3]; exact hA0
  obtain ⟨v0, v1, d0, d1, p0, p1, rfl, rfl, rfl, h0, h1⟩ := trodAll_two hA
  obtain ⟨rfl, rfl⟩ := trodVars_none hV
  simp only [List.append_nil] at hW'
  have hlt : ∀ x ∈ p0 ++ p1, x.block < W.heap.size := fun x hx => hW'.lt x hx
  obtain ⟨c0, rfl⟩ := agg_of u25 (hval0 0 25 v0 (by kernel_rfl) rfl)
  obtain ⟨c1, rfl⟩ := agg_of u28 (hval0 1 28 v1 (by kernel_rfl) rfl)
  obtain ⟨k0, t0⟩ := h0
  obtain ⟨k1, t1⟩ := h1
  obtain ⟨n, hn⟩ := sh25 _ _ _ t0
  obtain ⟨x, hx⟩ := sh28 _ _ _ t1
  refine ((spec n x).2 (allI W) W #[.agg c0, .agg c1] (fun a h => h) ⟨rfl, fun k c v hk hv => ?_⟩).mono fun e W' hR => ?_
  · match k with
    | 0 => simp at hk hv; subst hk; subst hv; exact rep_of_cells (one_N n) hn
    | 1 => simp at hk hv; subst hk; subst hv; exact rep_of_cells (one_P x) hx
    | k + 2 => simp at hk
  · obtain ⟨I', v, _, _, _, hg, he, hv⟩ := hR
    have hb := below_of_grow hg
    have hvb : v = .bool true := by
      cases hv; rfl
    subst hvb
    refine ⟨_, he, ⟨_, _, _, [], p0 ++ p1, [], hW', ?_, ?_, rfl, hb.frame _, fun h => by cases h⟩⟩
    · exact trodAll_mk1 (shut_bool u4 true)
    · exact trodAll_mk2 (Below.trod laidOut (by kernel_rfl) (of_decide_eq_true (by kernel_rfl)) ⟨k0, t0⟩ hb (fun y hy => hlt y (by simp [hy]))) (Below.trod laidOut (by kernel_rfl) (of_decide_eq_true (by kernel_rfl)) ⟨k1, t1⟩ hb (fun y hy => hlt y (by simp [hy])))
theorem network_spec_holds : Rows.NetworkSpecSaid :=
  OpenClaim.holds_of_wide 3 Try.f3 rfl rfl rfl rfl rfl rfl rfl ⟨rfl, rfl, rfl, rfl, rfl⟩ rfl rfl rfl rfl rfl (by kernel_rfl) Try.func3 (by kernel_rfl)
    (of_decide_eq_true (by kernel_rfl)) (by unfold Func.isWrapper; rw [if_neg (by decide +kernel)]; exact ⟨rfl, rfl⟩)
    (fun os started H enc _ => spec_lifted os started H enc)
end Go.Proofs.Ytbfjmachkbhfnaa
end

section
namespace Go.Proofs.Ytbfjmachkbhfnaa
open Go Go.Proofs.Ytbfjmachkbhfnaa.AL Go.ChangeShapes Go.WideShapes Go.RowKit
theorem params8 : Try.f8.params.toList = [25, 42] := by kernel_rfl
theorem u42 : Try.prog.underlying 42 = some (.int .u64) := by kernel_rfl
set_option maxRecDepth 100000 in
theorem lost_lifted (os : Os) (started : os.Started) (H : Type) (enc : TypeId × Value → H) :
    ReturnsInHanded {} Try.checked os 8 .any (Rows.networkLostSpec.pre6 enc Try.prog Try.f8 Rows.networkLostRow.domain false) (Rows.networkLostSpec.post enc Try.prog Try.f8 false true false false) := by
  refine returnsInHanded_of_change (C := Try.checked) own started (by kernel_rfl) Try.func8
    (ChangeSpec.witness6 (enc := enc) (C := Try.checked) false ⟨#[], #[.agg #[.slice none 0 0, .slice none 0 0], .int .u64 0], []⟩ 8 (by kernel_rfl) (by kernel_rfl) (by kernel_rfl) (by kernel_rfl)) ?_
  intro W base args ds gs before hval0 hW _ _
  have hW' := hW
  obtain ⟨p, q, hA0, hV, rfl, _, _⟩ := hW
  have hA : DataW.TrodAll enc Try.prog W 0 (fun _ => true) true [25, 42] args.toList ds p := by rw [← params8]; exact hA0
  obtain ⟨v0, v1, d0, d1, p0, p1, rfl, rfl, rfl, h0, h1⟩ := trodAll_two hA
  obtain ⟨rfl, rfl⟩ := trodVars_none hV
  simp only [List.append_nil] at hW'
  have hlt : ∀ x ∈ p0 ++ p1, x.block < W.heap.size := fun x hx => hW'.lt x hx
  obtain ⟨c0, rfl⟩ := agg_of u25 (hval0 0 25 v0 (by kernel_rfl) rfl)
  obtain ⟨k0, t0⟩ := h0
  obtain ⟨k1, t1⟩ := h1
  obtain ⟨n, hn⟩ := sh25 _ _ _ t0
  obtain ⟨z, rfl, _, _, hwf⟩ := open_int u42 (hval0 1 42 v1 (by kernel_rfl) rfl) ⟨k1, t1⟩
  have hw : 0 ≤ z ∧ z ≤ 18446744073709551615 := by simpa [Lit.wf, IntKind.min, IntKind.max, IntKind.signed, IntKind.bits] using hwf
  obtain ⟨x, rfl⟩ := Int.eq_ofNat_of_zero_le hw.1
  refine ((lost n x).2 (allI W) W #[.agg c0, .int .u64 (x : Int)] (fun a h => h) ⟨rfl, fun k c v hk hv => ?_⟩).mono fun e W' hR => ?_
  · match k with
    | 0 => simp at hk hv; subst hk; subst hv; exact rep_of_cells (one_N n) hn
    | 1 => simp at hk hv; subst hk; subst hv; exact .lit (by simpa [Sc, Lit.wf] using hwf)
    | k + 2 => simp at hk
  · obtain ⟨I', v, _, _, _, hg, he, hv⟩ := hR
    have hb := below_of_grow hg
    have hvb : v = .bool true := by
      cases hv; rfl
    subst hvb
    refine ⟨_, he, ⟨_, _, _, [], p0 ++ p1, [], hW', ?_, ?_, rfl, hb.frame _, fun h => by cases h⟩⟩
    · exact trodAll_mk1 (shut_bool u4 true)
    · exact trodAll_mk2 (Below.trod laidOut (by kernel_rfl) (of_decide_eq_true (by kernel_rfl)) ⟨k0, t0⟩ hb (fun y hy => hlt y (by simp [hy]))) (Below.trod laidOut (by kernel_rfl) (of_decide_eq_true (by kernel_rfl)) ⟨k1, t1⟩ hb (fun y hy => hlt y (by simp [hy])))
theorem network_lost_holds : Rows.NetworkLostSaid :=
  OpenClaim.holds_of_wide 8 Try.f8 rfl rfl rfl rfl rfl rfl rfl ⟨rfl, rfl, rfl, rfl, rfl⟩ rfl rfl rfl rfl rfl (by kernel_rfl) Try.func8 (by kernel_rfl)
    (of_decide_eq_true (by kernel_rfl)) (by unfold Func.isWrapper; rw [if_neg (by decide +kernel)]; exact ⟨rfl, rfl⟩)
    (fun os started H enc _ => lost_lifted os started H enc)
end Go.Proofs.Ytbfjmachkbhfnaa
end
