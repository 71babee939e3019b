/- Part of the proof: S355, S356, S330, S340, S341. -/
import Derived.Test.YtfegfnekphobmaaDoorCards
import Derived.Test.YtfegfnekphobmaaDoorTie
import Derived.Deep.DeepHandedRow
import Derived.Deep.DeepWitnessRowRef
import Derived.Lib.LaidIn
import Derived.Lib.LaidTab
import Derived.Stop.LaidErr
import Derived.Lib.LaidU8
import Derived.ProofKit
import Derived.SizedLaws
import Derived.PinnedBridge
import Derived.SevenTiedAt
import Derived.Test.YtfegfnekphobmaaDoorI
set_option linter.unnecessarySimpa false
set_option linter.unusedVariables false
set_option linter.unusedSimpArgs false
section
namespace Go.Proofs.YtfegfnekphobmaaDoor
open Go Go.Proofs.YtfegfnekphobmaaDoor.AL
attribute [local simp] dZ_agg dZ_nt dZ_noTup dZ_cells dZ_one bz_toList bz_size strV dV_cells dV_isAgg dV_noTup dV_nt dBy_cells dBy_one dBy_agg dBy_noTup dBy_nt
attribute [local simp] dLk_cells dLk_isAgg dLk_noTup dLk_nt
set_option maxRecDepth 8000
set_option maxHeartbeats 4000000
inductive C355a : FuncId → List D → Out → Prop
  | text (l : List Lk) (hd : ∀ x ∈ l, x.d.length ≤ 100000) : C355a 31 [.sl 35 (l.map dLk)] (.ret (.tup [dZ (textL l).1, dBy (textL l).2]))
  | tag (t b : List UInt8) (ht : t.length ≤ 1000) (hb : b.length ≤ 10000000000) : C355a 34 [dZ t, dBy b] (.ret (.agg ((tagL t b).map dU)))
theorem h355a : ∀ f ds out, C355a f ds out → PCall Tryd.prog f ds out := by
  intro f ds out h
  cases h with
  | text l hd => exact refText l hd
  | tag t b ht hb => exact rtagged t b ht hb
theorem textL_head (l : List Lk) : tagL (textL l).1 (textL l).2 = headL l := by
  unfold textL headL
  cases l.getLast? <;> rfl
theorem textL_small (l : List Lk) (hd : ∀ x ∈ l, x.d.length ≤ 100000) : (textL l).1.length ≤ 1000 ∧ (textL l).2.length ≤ 10000000000 := by
  unfold textL
  cases h : l.getLast? with
  | none => simp
  | some x =>
    have hm := hd x (List.mem_of_getLast? h)
    have hb := encV_linkV x
    simp; omega
theorem refHead (l : List Lk) (hd : ∀ x ∈ l, x.d.length ≤ 100000) : PCall Tryd.prog 22 [.sl 35 (l.map dLk)] (.ret (.agg ((headL l).map dU))) := by
  refine pcall_of_vc h355a c22 (by simp [a22]) fun hr => ?_
  have h1 := C355a.text l hd
  have hs := textL_small l hd
  have h2 := C355a.tag _ _ hs.1 hs.2
  have hh := headL_len l
  rw [textL_head] at h2
  generalize textL l = T at *
  generalize headL l = A at *
  simp [a22, -List.reduceReplicate]
  refine vc_path [.ret (.tup [dZ T.1, dBy T.2])] ?_
  simp [-List.reduceReplicate]
  refine ⟨h1, vc_path [.ret (.agg (A.map dU))] ?_⟩
  simp [setAt_all, hh, -List.reduceReplicate]
  refine ⟨h2, ?_⟩
  rw [List.take_of_length_le (by simp [hh]), allD_dU]
  simp
inductive C355b : FuncId → List D → Out → Prop
  | head (l : List Lk) (hd : ∀ x ∈ l, x.d.length ≤ 100000) : C355b 22 [.sl 35 (l.map dLk)] (.ret (.agg ((headL l).map dU)))
theorem h355b : ∀ f ds out, C355b f ds out → PCall Tryd.prog f ds out := by
  intro f ds out h
  cases h with
  | head l hd => exact refHead l hd
theorem refCheck (l : List Lk) (hd : ∀ x ∈ l, x.d.length ≤ 100000) : PCall Tryd.prog 21 [.sl 35 (l.map dLk)] (.ret (dI (ckE l))) := by
  refine pcall_of_vc h355b c21 (by simp [a21]) fun hr => ?_
  have hla := (hr (.sl 35 (l.map dLk)) (by simp)).sl.1
  simp at hla
  simp [a21, -List.reduceReplicate]
  refine ⟨fun hgt => ?_, fun hle => ?_⟩
  · have e : ckE l = 2 := by unfold ckE; rw [if_pos (by omega)]
    rw [e]
    exact LeD.refl _
  · refine vc_loopK [0] Nat (fun i => [(3, true, .d (dI i))]) (fun i => []) (fun i => i ≤ l.length ∧ allOk l i = true) (fun i => l.length - i) 0 (by simp [allOk_zero]) ⟨[], [], ?_⟩ (fun i hi => ?_)
    · simp
    · obtain ⟨hi, hok⟩ := hi
      simp [-List.reduceReplicate]
      refine ⟨fun hlt => ?_, fun hge => ?_⟩
      · have q1 := (l[i]).hp
        simp [hlt, q1, setAt_all2, -List.reduceReplicate]
        have q2 := headL_len (l.take i)
        obtain ⟨z, hz, hzn, hzp⟩ : ∃ z : Lk, l[0]? = some z ∧ n0 l = z.n ∧ z.p.length = 32 := by
          cases l with
          | nil => simp at hlt
          | cons z r => exact ⟨z, rfl, rfl, z.hp⟩
        have hz' : l.head? = some z := by rw [← hz]; cases l <;> rfl
        have h0 : 0 < l.length := by omega
        have h0' : l ≠ [] := by rintro rfl; simp at hlt
        have ht32 : List.take 32 ((headL (l.take i)).map (AV.d ∘ dU)) = (headL (l.take i)).map (AV.d ∘ dU) := List.take_of_length_le (by simp [q2])
        have hwi : IntKind.i64.wrap ((i : Int) + 1) = (i : Int) + 1 := wrap64 (by omega)
        refine vc_pathD [.ret (.agg ((headL (l.take i)).map dU))] ?_
        simp (config := { maxSteps := 1000000 }) [ht32, hz, hz', h0, h0', hzp, q1, q2, dBy, take_lk, allD_lk, allD_dU, elsD_lk, eqC_dU q1 q2, eqB_dU _ _ (q1.trans q2.symm), -List.reduceReplicate]
        have ho : okAt l i = (decide (l[i].n = n0 l) && decide (0 ≤ l[i].n) && decide (l[i].n < 24) && decide (l[i].o = i) && decide (l[i].d.length ≤ 65536) && decide (l[i].p = headL (l.take i))) := by
          unfold okAt; rw [List.getElem?_eq_getElem hlt]
        have hn0 : n0 l = l[0].n := by
          rw [List.getElem?_eq_getElem h0] at hz
          rw [hzn, Option.some.inj hz]
        rw [hn0] at ho
        have hbad : okAt l i = false → LeD (.lit (.int .i64 80)) (.lit (.int .i64 (ckE l))) := fun hb => by
          refine leD_of_eq ?_
          congr 2
          unfold ckE
          rw [if_neg (by omega), allOk_false hb hlt]
          rfl
        refine ⟨fun c => ⟨rfl, hbad (by rw [ho, decide_eq_false (p := 0 ≤ l[i].n) (by omega)]; simp)⟩, fun c1 => ⟨fun c => ⟨rfl, hbad (by rw [ho, decide_eq_false (p := l[i].n < 24) (by omega)]; simp)⟩, fun c2 => ⟨fun c => ⟨rfl, hbad (by rw [ho]; simp [c])⟩, fun c3 => ⟨fun c => ⟨rfl, hbad (by rw [ho]; simp [c])⟩, fun c4 => ⟨fun c => ⟨rfl, hbad (by rw [ho, decide_eq_false (p := l[i].d.length ≤ 65536) (by omega)]; simp)⟩, fun c5 => ?_⟩⟩⟩⟩⟩
        rw [← List.map_take]
        refine ⟨by omega, .head _ fun x hx => hd x (List.mem_of_mem_take hx), ?_⟩
        refine ⟨rfl, fun c => hbad (by rw [ho]; simp [c]), fun c6 => ⟨i + 1, ⟨by omega, ?_⟩, by omega, [], [], ?_⟩⟩
        · rw [allOk_succ, hok, ho]
          simp [c3, c4, c6]
          refine ⟨?_, ?_⟩ <;> omega
        · rw [hwi]
          simp
      · have hi : i = l.length := by omega
        subst hi
        refine leD_of_eq ?_
        congr 2
        unfold ckE
        rw [if_neg (by omega), if_pos hok]
inductive C355 : FuncId → List D → Out → Prop
  | head (l : List Lk) (hd : ∀ x ∈ l, x.d.length ≤ 100000) : C355 22 [.sl 35 (l.map dLk)] (.ret (.agg ((headL l).map dU)))
  | check (l : List Lk) (hd : ∀ x ∈ l, x.d.length ≤ 100000) : C355 21 [.sl 35 (l.map dLk)] (.ret (dI (ckE l)))
  | sl (x y : Lk) : C355 18 [dLk x, dLk y] (.ret (dB (decide (x = y))))
theorem h355 : ∀ f ds out, C355 f ds out → PCall Tryd.prog f ds out := by
  intro f ds out h
  cases h with
  | head l hd => exact refHead l hd
  | check l hd => exact refCheck l hd
  | sl x y => exact sameLink x y
theorem refPart (a b : List Lk) (ha : ∀ x ∈ a, x.d.length ≤ 100000) (hb : ∀ x ∈ b, x.d.length ≤ 100000) : PCall Tryd.prog 13 [.sl 35 (a.map dLk), .sl 35 (b.map dLk)] (.ret (.tup [dI (prtR a b).1, dB (prtR a b).2, dI (prtE a b)])) := by
  refine pcall_of_vc h355 c13 (by simp [a13]) fun hr => ?_
  have hla := (hr (.sl 35 (a.map dLk)) (by simp)).sl.1
  simp at hla
  have c1 := C355.check a ha
  have c2 := C355.check b hb
  simp [a13]
  by_cases h1 : ckE a = 0
  case neg =>
    have e : prtE a b = ckE a := by unfold prtE; rw [if_pos h1]
    have e2 : prtR a b = (0, false) := by unfold prtR; rw [if_neg (by omega)]
    rw [e, e2]
    refine vc_path [.ret (dI (ckE a))] ?_
    simp [h1]
    exact c1
  rw [h1] at c1
  refine vc_path [.ret (dI 0)] ?_
  simp
  refine ⟨c1, ?_⟩
  by_cases h2 : ckE b = 0
  case neg =>
    have e : prtE a b = ckE b := by unfold prtE; rw [if_neg (by omega), if_pos h2]
    have e2 : prtR a b = (0, false) := by unfold prtR; rw [if_neg (by omega)]
    rw [e, e2]
    refine vc_path [.ret (dI (ckE b))] ?_
    simp [h2]
    exact c2
  rw [h2] at c2
  refine vc_path [.ret (dI 0)] ?_
  simp
  refine ⟨c2, ?_⟩
  have fin : ∀ h : ¬ (0 < a.length ∧ 0 < b.length ∧ n0 a ≠ n0 b), prtE a b = 0 ∧ prtR a b = difR a b := fun h => by
    have : prtE a b = 0 := by unfold prtE; rw [if_neg (by omega), if_neg (by omega), if_neg h]
    refine ⟨this, ?_⟩
    unfold prtR; rw [if_pos this]
  by_cases h3 : a = []
  · have e3 := fin (by simp [h3])
    rw [e3.1, e3.2]
    have ed : difR a b = (0, false) := by rw [h3]; rfl
    rw [ed]
    refine vc_pathD [] ?_
    simp [h3]
    refine ⟨rfl, vc_loopK [0, 1] Unit (fun _ => [(9, true, .d (dI 0))]) (fun _ => []) (fun _ => True) (fun _ => 0) () trivial ⟨[], [], ?_⟩ (fun _ _ => ?_)⟩
    · simp
    · simp
      refine vc_path [] ?_
      simp
  · obtain ⟨z, z1, z2, z3, z4, z5⟩ := first_of h3
    by_cases h4 : b = []
    · have e3 := fin (by simp [h4])
      rw [e3.1, e3.2]
      have ed : difR a b = (0, false) := by
        have : difF a b = none := difF_none a b (by simp [h4])
        unfold difR; rw [this]
      rw [ed]
      refine vc_pathD [] ?_
      simp [h3, h4, z5]
      refine ⟨rfl, vc_loopK [0, 1] Unit (fun _ => [(9, true, .d (dI 0))]) (fun _ => []) (fun _ => True) (fun _ => 0) () trivial ⟨[], [], ?_⟩ (fun _ _ => ?_)⟩
      · simp
      · simp
        refine vc_path [] ?_
        simp [h4, z5]
    · obtain ⟨y, y1, y2, y3, y4, y5⟩ := first_of h4
      refine vc_pathD [] ?_
      simp [h3, h4, z1, z2, z4, z5, y1, y2, y4, y5]
      rw [List.getElem?_eq_getElem z5] at z1
      rw [List.getElem?_eq_getElem y5] at y1
      refine ⟨rfl, fun hne => ?_, fun he => ?_⟩
      · have e : prtE a b = 80 := by
          unfold prtE; rw [if_neg (by omega), if_neg (by omega), if_pos ⟨z5, y5, by rw [z3, y3, ← Option.some.inj z1, ← Option.some.inj y1]; exact hne⟩]
        have e2 : prtR a b = (0, false) := by unfold prtR; rw [if_neg (by omega)]
        rw [e, e2]
        exact ⟨LeD.refl _, LeD.refl _, LeD.refl _⟩
      · have e3 := fin (fun h => h.2.2 (by rw [z3, y3, ← Option.some.inj z1, ← Option.some.inj y1]; exact he))
        rw [e3.1, e3.2]
        clear fin e3 he z1 y1
        refine vc_loopK [0, 1] Nat (fun i => [(9, true, .d (dI i))]) (fun _ => []) (fun i => i ≤ a.length ∧ i ≤ b.length ∧ a.take i = b.take i) (fun i => a.length - i) 0 (by simp) ⟨[], [], ?_⟩ (fun i hi => ?_)
        · simp
        obtain ⟨hia, hib, ht⟩ := hi
        rcases Nat.lt_or_ge i a.length with hlt | hge
        · rcases Nat.lt_or_ge i b.length with hlb | hgb
          · have q1 := (a[i]).hp
            have q2 := (b[i]).hp
            have kc := C355.sl a[i] b[i]
            have hw1 : IntKind.i64.wrap ((i : Int) + 1) = (i : Int) + 1 := wrap64 (by omega)
            by_cases hab : a[i] = b[i]
            · rw [decide_eq_true hab] at kc
              simp
              refine vc_path [] ?_
              simp [hlt, hlb]
              refine vc_pathD [.ret (dB true)] ?_
              simp [hlt, hlb, q1, q2, hw1]
              refine ⟨kc, rfl, i + 1, ⟨by omega, by omega, take_step hlt hlb ht hab⟩, by omega, [], [], ?_⟩
              simp
            · rw [decide_eq_false hab] at kc
              have ed : difR a b = ((i : Int), true) := by
                have := difF_some a b i hlt hlb ht hab
                unfold difR; rw [this]
              rw [ed]
              simp
              refine vc_path [] ?_
              simp [hlt, hlb]
              refine vc_pathD [.ret (dB false)] ?_
              simp [hlt, hlb, q1, q2]
              exact ⟨kc, rfl⟩
          · have hgb' : ¬ (i : Int) < b.length := by omega
            have ed : difR a b = (0, false) := by
              have : difF a b = none := difF_none a b (by rw [show min a.length b.length = i by omega]; exact ht)
              unfold difR; rw [this]
            rw [ed]
            simp
            refine vc_path [] ?_
            simp [hlt, hgb, hgb']
        · have hge' : ¬ (i : Int) < a.length := by omega
          have ed : difR a b = (0, false) := by
            have : difF a b = none := difF_none a b (by rw [show min a.length b.length = i by omega]; exact ht)
            unfold difR; rw [this]
          rw [ed]
          simp
          refine vc_path [] ?_
          simp [hge, hge']
theorem refAdd (a : List Lk) (node : Int) (data : List UInt8) (ha : ∀ x ∈ a, x.d.length ≤ 100000) : PCall Tryd.prog 11 [.sl 35 (a.map dLk), dI node, dBy data] (.ret (.tup [.sl 35 ((addL a node data).map dLk), dI (addE a node data.length)])) := by
  refine pcall_of_vc h355 c11 (by simp [a11]) fun hr => ?_
  have c1 := C355.check a ha
  have c2 := C355.head a ha
  have hh := headL_len a
  simp [a11]
  by_cases h1 : ckE a = 0
  case neg =>
    have e : addE a node data.length = ckE a := by unfold addE; rw [if_pos h1]
    have e2 : addL a node data = [] := addL_bad (by omega)
    rw [e, e2]
    refine vc_path [.ret (dI (ckE a))] ?_
    simp [h1]
    exact c1
  rw [h1] at c1
  refine vc_path [.ret (dI 0)] ?_
  simp
  refine ⟨c1, ?_⟩
  have la := (ckE_ok h1).1
  have fin : node < 0 ∨ 24 ≤ node ∨ (0 < a.length ∧ node ≠ n0 a) ∨ 65536 < data.length → addE a node data.length = 1 := fun h => by
    unfold addE; rw [if_neg (by omega), if_pos h]
  have fin2 : ¬ (node < 0 ∨ 24 ≤ node ∨ (0 < a.length ∧ node ≠ n0 a) ∨ 65536 < data.length) → a.length = 1024 → addE a node data.length = 2 := fun h h2 => by
    unfold addE; rw [if_neg (by omega), if_neg h, if_pos h2]
  have fin3 : ¬ (node < 0 ∨ 24 ≤ node ∨ (0 < a.length ∧ node ≠ n0 a) ∨ 65536 < data.length) → a.length ≠ 1024 → addE a node data.length = 0 := fun h h2 => by
    unfold addE; rw [if_neg (by omega), if_neg h, if_neg h2]
  have bad1 : addE a node data.length = 1 → LeD (.nil 35) (.sl 35 ((addL a node data).map dLk)) ∧ LeD (.lit (.int .i64 1)) (.lit (.int .i64 (addE a node data.length))) := fun h => by
    rw [addL_bad (by omega), h]; exact ⟨LeD.nil' _ _, LeD.refl _⟩
  have bad2 : addE a node data.length = 2 → LeD (.nil 35) (.sl 35 ((addL a node data).map dLk)) ∧ LeD (.lit (.int .i64 2)) (.lit (.int .i64 (addE a node data.length))) := fun h => by
    rw [addL_bad (by omega), h]; exact ⟨LeD.nil' _ _, LeD.refl _⟩
  by_cases h3 : a = []
  · subst h3
    refine vc_path [] ?_
    simp [dBy, -List.reduceReplicate]
    refine ⟨fun d1 => bad1 (fin (by omega)), fun d1 => ⟨fun d2 => bad1 (fin (by omega)), fun d2 => ⟨fun d3 => bad1 (fin (by omega)), fun d3 => ?_⟩⟩⟩
    have hn : ¬ (node < 0 ∨ 24 ≤ node ∨ (0 < ([] : List Lk).length ∧ node ≠ n0 []) ∨ 65536 < data.length) := by simp; omega
    have hz := fin3 hn (by simp)
    rw [addL_ok hz, hz]
    have al : allD ((headL []).map (AV.d ∘ dU) ++ [AV.d (D.sl 1 (data.map dU))]) = some ((headL []).map dU ++ [D.sl 1 (data.map dU)]) := allD_lk _ _
    refine vc_path [.ret (.agg ((headL []).map dU))] ?_
    simp [setAt_all2, setAt_midL, setAt_end, hh, al, take_lk, -List.reduceReplicate]
    exact ⟨c2, LeD.refl _⟩
  · obtain ⟨z, z1, z2, z3, z4, z5⟩ := first_of h3
    refine vc_path [] ?_
    simp [h3, dBy, z1, z2, z4, z5, -List.reduceReplicate]
    rw [List.getElem?_eq_getElem z5] at z1
    have hz0 : n0 a = a[0].n := by rw [z3, ← Option.some.inj z1]
    rw [hz0] at fin fin2 fin3
    refine ⟨fun d1 => bad1 (fin (by omega)), fun d1 => ⟨fun d2 => bad1 (fin (by omega)), fun d2 => ⟨fun d3 => bad1 (fin (by omega)), fun d3 => ⟨fun d4 => bad1 (fin (by omega)), fun d4 => ⟨fun d5 => bad2 (fin2 (by omega) (by omega)), fun d5 => ?_⟩⟩⟩⟩⟩
    have hz := fin3 (by omega) (by omega)
    rw [addL_ok hz, hz]
    have al : allD ((headL a).map (AV.d ∘ dU) ++ [AV.d (D.sl 1 (data.map dU))]) = some ((headL a).map dU ++ [D.sl 1 (data.map dU)]) := allD_lk _ _
    refine ⟨by omega, vc_path [.ret (.agg ((headL a).map dU))] ?_⟩
    simp [setAt_all2, setAt_midL, setAt_end, hh, al, take_lk, -List.reduceReplicate]
    refine ⟨c2, ⟨by omega, by omega⟩, LeD.refl _⟩
end Go.Proofs.YtfegfnekphobmaaDoor
end

section
namespace Go.Proofs.YtfegfnekphobmaaDoor
open Go Go.Proofs.YtfegfnekphobmaaDoor.AL
attribute [local simp] dZ_agg dZ_nt dZ_noTup dZ_cells dZ_one bz_toList bz_size strV dV_cells dV_isAgg dV_noTup dV_nt dBy_cells dBy_one dBy_agg dBy_noTup dBy_nt
attribute [local simp] dLk_cells dLk_isAgg dLk_noTup dLk_nt
set_option maxRecDepth 8000
set_option maxHeartbeats 4000000
inductive C356 : FuncId → List D → Out → Prop
  | old (f : FuncId) (ds : List D) (o : Out) (h : C334 f ds o) : C356 f ds o
  | rpart (a b : List Lk) (ha : ∀ x ∈ a, x.d.length ≤ 100000) (hb : ∀ x ∈ b, x.d.length ≤ 100000) : C356 13 [.sl 35 (a.map dLk), .sl 35 (b.map dLk)] (.ret (.tup [dI (prtR a b).1, dB (prtR a b).2, dI (prtE a b)]))
  | radd (a : List Lk) (node : Int) (data : List UInt8) (ha : ∀ x ∈ a, x.d.length ≤ 100000) : C356 11 [.sl 35 (a.map dLk), dI node, dBy data] (.ret (.tup [.sl 35 ((addL a node data).map dLk), dI (addE a node data.length)]))
theorem h356 : ∀ f ds out, C356 f ds out → PCall Tryd.prog f ds out := by
  intro f ds out h
  cases h with
  | old f ds o h => exact h334 _ _ _ h
  | rpart a b ha hb => exact refPart a b ha hb
  | radd a n d ha => exact refAdd a n d ha
theorem chainAddSpec (a b : List Lk) (node : Int) (data : List UInt8) : PCall Tryd.prog 3 [.sl 35 (a.map dLk), .sl 35 (b.map dLk), dI node, dBy data] (.ret (dB true)) := by
  refine pcall_of_vc h356 c3 (by simp [a3]) fun hr => ?_
  have c0 := C356.old _ _ _ .sane
  have c1 := C356.old _ _ _ (.few a)
  have c2 := C356.old _ _ _ (.few b)
  simp [a3]
  refine vc_path [.ret (dB true)] ?_
  simp
  refine ⟨c0, ?_⟩
  by_cases ha : fewL a = true
  case neg =>
    have ha : fewL a = false := by simpa using ha
    rw [ha] at c1
    refine vc_path [.ret (dB false)] ?_
    simp
    exact c1
  by_cases hb : fewL b = true
  case neg =>
    have hb : fewL b = false := by simpa using hb
    rw [ha] at c1
    rw [hb] at c2
    refine vc_path [.ret (dB true), .ret (dB false)] ?_
    simp
    exact ⟨c1, c2⟩
  have a1 : ∀ x ∈ a, x.d.length ≤ 100000 := fun x hx => by have := (few_d ha).2 x hx; omega
  have b1 : ∀ x ∈ b, x.d.length ≤ 100000 := fun x hx => by have := (few_d hb).2 x hx; omega
  rw [ha] at c1
  rw [hb] at c2
  have k1 := C356.old _ _ _ (.add a node data a1)
  have k2 := C356.radd a node data a1
  have k3 := C356.old _ _ _ (.part a b a1 b1)
  have k4 := C356.rpart a b a1 b1
  have k5 := C356.old _ _ _ (.same (addL a node data) (addL a node data))
  rw [decide_eq_true rfl] at k5
  generalize addL a node data = X at *
  generalize addE a node data.length = e at *
  generalize prtR a b = r at *
  generalize prtE a b = g at *
  unfold dBy at *
  refine vc_path [.ret (dB true), .ret (dB true)] ?_
  simp
  refine ⟨c1, c2, fun _ _ => ?_, fun _ => ?_⟩
  all_goals
    refine vc_path [.ret (.tup [.sl 35 (X.map dLk), dI e])] ?_
    simp
    refine ⟨k1, vc_path [.ret (.tup [.sl 35 (X.map dLk), dI e])] ?_⟩
    simp
    refine ⟨k2, vc_path [.ret (.tup [dI r.1, dB r.2, dI g])] ?_⟩
    simp
    refine ⟨k3, vc_path [.ret (.tup [dI r.1, dB r.2, dI g])] ?_⟩
    simp
    refine ⟨k4, vc_path [.ret (dB true)] ?_⟩
    simp
    exact k5
end Go.Proofs.YtfegfnekphobmaaDoor
end

section
namespace Go.Proofs.YtfegfnekphobmaaDoor
open Go Go.Proofs.YtfegfnekphobmaaDoor.AL
/-! Arrays of bytes. -/
section
variable {H : Type} {enc : TypeId × Value → H} {P : Program} {w : World}
theorem shows_arrU8 {t e : TypeId} {n : Nat} (ht : P.underlying t = some (.array n e)) (he : P.underlying e = some (.int .u8)) (hc : P.cellsOf e = 1) (hct : P.cellsOf t = n) : Shows enc P w t (fun y : { l : List UInt8 // l.length = n } => .agg (y.1.map dU)) := by
  intro fuel cs x h
  obtain ⟨xs, m, _, _, hl, hx, k⟩ := DataW.trod_array ht h
  have hcs : cs.length = n := by rw [hl, hct]
  have hel : ∀ i : Fin n, ∃ y : UInt8, RepL (allI w) w [dU y] #[cs[i.val]'(by omega)] := fun i => by
    have k1 := k i.val (by omega)
    rw [hc, Nat.mul_one, List.getElem?_eq_getElem (by omega)] at k1
    obtain ⟨y, hy⟩ := shows_u8 he _ _ _ k1
    refine ⟨y, ?_⟩
    have e1 : (cs.drop i.val).take 1 = [cs[i.val]'(by omega)] := by
      rw [List.drop_eq_getElem_cons (by omega)]; rfl
    rw [e1] at hy
    exact hy
  let l : List UInt8 := List.ofFn fun i : Fin n => Classical.choose (hel i)
  have hll : l.length = n := by simp [l]
  refine ⟨⟨l, hll⟩, ⟨by simp [D.cells, hll, hcs], fun j c v hj hv => ?_⟩⟩
  simp only [D.cells, List.getElem?_map, Option.map_eq_some_iff] at hj
  obtain ⟨y, hy, rfl⟩ := hj
  have hjl : j < n := by
    have := (List.getElem?_eq_some_iff.1 hy).1; omega
  have h1 := Classical.choose_spec (hel ⟨j, hjl⟩)
  have h2 : l[j]? = some (Classical.choose (hel ⟨j, hjl⟩)) := by simp [l, hjl]
  rw [h2] at hy
  injection hy with hy
  rw [← hy]
  have hv' : cs[j]'(by omega) = v := by
    have hv : cs[j]? = some v := by simpa using hv
    rw [List.getElem?_eq_getElem (by omega)] at hv
    exact Option.some.inj hv
  rw [← hv']
  exact h1.2 0 _ _ rfl rfl
end
end Go.Proofs.YtfegfnekphobmaaDoor
end

section
namespace Go.Proofs.YtfegfnekphobmaaDoor
open Go Go.Proofs.YtfegfnekphobmaaDoor.AL
noncomputable def fsOf (t : TypeId) : Array Field := match Tryd.prog.underlying t with
  | some (.struct fs) => fs
  | _ => #[]
noncomputable def fld (t : TypeId) (i : Nat) : Field := (fsOf t).getD i ⟨ "", 0, 0, false, "", "", 0⟩
theorem uI : Tryd.prog.underlying 3 = some (.int .i64) := by kernel_rfl
theorem uB8 : Tryd.prog.underlying 5 = some (.int .u8) := by kernel_rfl
theorem uDg : Tryd.prog.underlying 35 = some (.array 32 5) := by kernel_rfl
theorem uBs8 : Tryd.prog.underlying 23 = some (.slice 5) := by kernel_rfl
theorem uBss8 : Tryd.prog.underlying 33 = some (.slice 23) := by kernel_rfl
theorem uLk : Tryd.prog.underlying 37 = some (.struct #[fld 37 0, fld 37 1, fld 37 2, fld 37 3]) := by kernel_rfl
theorem uLks : Tryd.prog.underlying 22 = some (.slice 37) := by kernel_rfl
theorem zI8 : Tryd.prog.cellsOf 3 = 1 := by kernel_rfl
theorem zB8 : Tryd.prog.cellsOf 5 = 1 := by kernel_rfl
theorem zDg : Tryd.prog.cellsOf 35 = 32 := by kernel_rfl
theorem zBs8 : Tryd.prog.cellsOf 23 = 1 := by kernel_rfl
theorem zLk : Tryd.prog.cellsOf 37 = 35 := by kernel_rfl
section
variable {H : Type} {enc : TypeId × Value → H} {w : World}
theorem shows_i64R {P : Program} {t : TypeId} (ht : P.underlying t = some (.int .i64)) : Shows enc P w t (fun y : { n : Int // -9223372036854775808 ≤ n ∧ n < 9223372036854775808 } => dI y.1) := by
  intro fuel cs x h
  obtain ⟨n, rfl, _, hw⟩ := DataW.trod_int ht h
  have hs : Sc (.int .i64 n) := by simpa [Sc, Lit.wf] using hw
  have hs' : -9223372036854775808 ≤ n ∧ n < 9223372036854775808 := by
    simp [Sc, IntKind.min, IntKind.max, IntKind.signed, IntKind.bits] at hs
    omega
  exact ⟨⟨n, hs'⟩, repL_one (.lit hs)⟩
theorem shBs8 : Shows enc Tryd.prog w 23 dBy := shows_slice uBs8 zB8 (fun _ => rfl) (fun y c hc => by simp [AL.dU, D.cells] at hc; subst hc; rfl) (shows_u8 uB8)
theorem shBss8 : Shows enc Tryd.prog w 33 (fun l : List (List UInt8) => .sl 1 (l.map dBy)) := shows_slice uBss8 zBs8 (fun _ => rfl) (fun y c hc => by simp [dBy, D.cells] at hc; subst hc; rfl) shBs8
theorem shDg : Shows enc Tryd.prog w 35 (fun y : { l : List UInt8 // l.length = 32 } => .agg (y.1.map dU)) := shows_arrU8 uDg uB8 zB8 zDg
theorem shLk : Shows enc Tryd.prog w 37 dLk := shows_map (shows_structN uLk (by rw [zLk]; kernel_rfl)
  (showsR_cons (t := 3) (off' := 1) (by kernel_rfl) (by kernel_rfl) (by rw [zI8]) (shows_i64R uI) (showsR_cons (t := 3) (off' := 2) (by kernel_rfl) (by kernel_rfl) (by rw [zI8]) (shows_i64R uI) (showsR_cons (t := 35) (off' := 34) (by kernel_rfl) (by kernel_rfl) (by rw [zDg]) shDg (showsR_cons (t := 23) (off' := 35) (by kernel_rfl) (by kernel_rfl) (by rw [zBs8]) shBs8 showsR_nil)))))
  (fun y => ⟨⟨y.1.1, y.2.1.1, y.2.2.1.1, y.2.2.2.1, y.2.2.1.2, y.1.2, y.2.1.2⟩, rfl⟩)
theorem shLks : Shows enc Tryd.prog w 22 (fun l : List Lk => .sl 35 (l.map dLk)) := shows_slice uLks zLk dLk_len (fun y c hc => by
  rw [dLk_cells] at hc
  simp at hc
  rcases hc with rfl | rfl | ⟨a, _, rfl⟩ | rfl <;> rfl) shLk
end
theorem lk_one (y : Lk) : ∀ c ∈ (dLk y).cells, c.one = true := fun c hc => by
  rw [dLk_cells] at hc
  simp at hc
  rcases hc with rfl | rfl | ⟨a, _, rfl⟩ | rfl <;> rfl
theorem sLk : Sees Tryd.prog 37 (fun x => ∃ n : Lk, x = dLk n) := sees_agg (by rw [uLk]) shLk (fun _ => rfl) lk_one
theorem sLks : Sees Tryd.prog 22 (fun x => ∃ l : List Lk, x = .sl 35 (l.map dLk)) := sees_slice uLks shLks
theorem sBss : Sees Tryd.prog 33 (fun x => ∃ l : List (List UInt8), x = .sl 1 (l.map dBy)) := sees_slice uBss8 shBss8
theorem sBs8 : Sees Tryd.prog 23 (fun x => ∃ l : List UInt8, x = dBy l) := sees_slice uBs8 shBs8
end Go.Proofs.YtfegfnekphobmaaDoor
end

section
namespace Go.Proofs.YtfegfnekphobmaaDoor
open Go Go.Proofs.YtfegfnekphobmaaDoor.AL Go.ChangeShapes Go.WideShapes Go.ChangeAt Go.RowKit Go.Lib Go.Shelf
theorem own : ownKnob Tryd.prog.godebug = none := by kernel_rfl
theorem laidOut : laidOutB Tryd.prog = true := by kernel_rfl
theorem ip_of {w : World} {cs : List D} {g : Nat} (h : ∀ (k : Nat) (c : D), cs[k]? = some c → ∃ v, w.cell? ⟨g, k, none⟩ = some v ∧ c = .lit v ∧ Sc v) : Rep (allI w) w (.ip (.agg cs)) (.pointer (some ⟨g, 0, none⟩)) := by
  have ha : ∀ k, (⟨g, 0, none⟩ : Addr).add k = ⟨g, k, none⟩ := fun k => by
    cases k <;> simp [Addr.add]
  refine .ip ⟨g, 0, none⟩ (fun k => (w.cell? ⟨g, k, none⟩).getD (.bool false)) ?_ ?_ ?_
  · intro c hc
    obtain ⟨k, hk⟩ := List.mem_iff_getElem?.1 hc
    obtain ⟨v, _, rfl, _⟩ := h k c hk
    rfl
  · intro k c hk
    obtain ⟨v, hv, _, _⟩ := h k c hk
    rw [ha]
    exact ⟨by simp [allI, hv], by simp [hv]⟩
  · intro k c hk
    obtain ⟨v, hv, rfl, hs⟩ := h k c hk
    simp only [hv, Option.getD_some]
    exact .lit hs
def zs8 : List Int := hNums.map fun x => (x.toNat : Int)
def zs64 : List Int := kNums.map fun x => (x.toNat : Int)
theorem laid8 : (Rows.laid_hansard_digest_start : DataW Unit) = tabData .u32 zs8 := rfl
theorem laid64 : (Rows.laid_hansard_digest_numbers : DataW Unit) = tabData .u32 zs64 := rfl
theorem sc_u32 (x : UInt32) : Sc (.int .u32 (x.toNat : Int)) := by
  have := x.toNat_lt
  simp only [Sc, IntKind.min, IntKind.max, IntKind.signed, IntKind.bits]
  refine ⟨?_, ?_⟩ <;> simp <;> omega
theorem tab_of {W : World} {g : Nat} {l : List UInt32} (h : ∀ i, i < l.length → W.cell? ⟨g, i, none⟩ = some (.int .u32 ((l.map fun x => (x.toNat : Int)).getD i 0))) : Rep (allI W) W (.ip (.agg (l.map dQ))) (.pointer (some ⟨g, 0, none⟩)) := by
  refine ip_of fun k c hk => ?_
  rw [List.getElem?_map] at hk
  obtain ⟨x, hx, rfl⟩ := Option.map_eq_some_iff.1 hk
  obtain ⟨hl, he⟩ := List.getElem?_eq_some_iff.1 hx
  refine ⟨_, h k hl, ?_, ?_⟩
  · simp [hl, he, dQ]
  · simp only [List.getD, List.getElem?_map, hx, Option.map_some, Option.getD_some]
    exact sc_u32 x
theorem gS : Tryd.prog.globalNamed "hansard/digest.start" = some 0 := by kernel_rfl
theorem gK : Tryd.prog.globalNamed "hansard/digest.numbers" = some 1 := by kernel_rfl
theorem uA8 : Tryd.prog.underlying 71 = some (.array 8 70) := by kernel_rfl
theorem uA64 : Tryd.prog.underlying 84 = some (.array 64 70) := by kernel_rfl
theorem uU32 : Tryd.prog.underlying 70 = some (.int .u32) := by kernel_rfl
theorem zU32 : Tryd.prog.cellsOf 70 = 1 := by kernel_rfl
theorem zA8 : Tryd.prog.cellsOf 71 = 8 := by kernel_rfl
theorem zA64 : Tryd.prog.cellsOf 84 = 64 := by kernel_rfl
/-- The variables' cells make the contract's premise. -/
theorem glOk_of {W : World} (h : laidMet Tryd.prog [("hansard/digest.start", Rows.laid_hansard_digest_start), ("hansard/digest.numbers", Rows.laid_hansard_digest_numbers)] W) : GlOk (allI W) W := by
  rw [laid8, laid64] at h
  have h8 := tabIs_of_head gS (t := 71) (by kernel_rfl) uA8 uU32 zU32 zA8 h
  have h64 := tabIs_of_head gK (t := 84) (by kernel_rfl) uA64 uU32 zU32 zA64 h.tail
  intro p hp
  simp only [glbTab, List.mem_cons, List.not_mem_nil, or_false] at hp
  rcases hp with rfl | rfl
  · exact tab_of fun i hi => h8.cell gS i (by simpa [zs8] using hi)
  · exact tab_of fun i hi => h64.cell gK i (by simpa [zs64] using hi)
noncomputable def laidWorld (os : Os) : World :=
  let w0 := World.holding Tryd.prog os ⟨#[], #[], []⟩
  let put (h : Array Obj) (g : Nat) (cs : Array Value) : Array Obj := h.modify g fun
    | .cells _ t frozen => .cells cs t frozen
    | o => o
  let h1 := put w0.heap 0 (zs8.map fun z => Value.int .u32 z).toArray
  let h2 := put h1 1 (zs64.map fun z => Value.int .u32 z).toArray
  { w0 with heap := h2 }
theorem sU8i : Sees Tryd.prog 5 (fun x => ∃ n : Int, (IntKind.u8.min ≤ n ∧ n ≤ IntKind.u8.max) ∧ x = .lit (.int .u8 n)) := sees_int uB8
theorem sI64 : Sees Tryd.prog 3 (fun x => ∃ n : Int, (IntKind.i64.min ≤ n ∧ n ≤ IntKind.i64.max) ∧ x = .lit (.int .i64 n)) := sees_int uI
theorem changed' (l : List Lk) (n : Int) (hb : IntKind.u8.min ≤ n ∧ n ≤ IntKind.u8.max) (x : Lk) : PCall Tryd.prog 6 [.sl 35 (l.map dLk), .lit (.int .u8 n), dLk x] (.ret (dB true)) := by
  have h := chainChanged l (UInt8.ofNat n.toNat) x
  have e : dU (UInt8.ofNat n.toNat) = .lit (.int .u8 n) := by
    simp [IntKind.min, IntKind.max, IntKind.signed, IntKind.bits] at hb
    simp [dU]
    omega
  rw [e] at h
  exact h
end Go.Proofs.YtfegfnekphobmaaDoor
end
