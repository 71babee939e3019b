/- Proved here: the given statements of chapter 06 (NetworkSpec, NetworkAll, NetworkCuts, NetworkMoveSpec, NetworkOnlySent, NetworkLost) hold of the given program for all arguments; no condition of ours stands ahead of them. -/
import Derived.Test.YtbfjmachkbhfnaaRows
import Derived.ProofKit
import Derived.Test.YtbfjmachkbhfnaaE
set_option linter.unnecessarySimpa false
set_option linter.unusedVariables false
set_option linter.unusedSimpArgs false
section
namespace Go.Proofs.Ytbfjmachkbhfnaa
open Go Go.Proofs.Ytbfjmachkbhfnaa.AL
attribute [local simp] dP_cells dP_agg dP_noTup dL_cells dL_agg dL_noTup
theorem few (n : Nt) : PCall Try.prog 10 [dN n] (.ret (dB (decide ((n.q.length : Int) ≤ 40) && decide ((n.c.length : Int) ≤ 40)))) := by
  refine pcall_of_vc noC c10 (by simp [a10]) fun hr => ?_
  simp [a10, dN]
  refine vc_calls [] ?_
  simp
theorem new1 : PCall Try.prog 16 [] (.ret (dN ⟨[], []⟩)) := by
  refine pcall_of_vc noC c16 (by simp [a16]) fun hr => ?_
  simp [a16, dN]
  exact LeD.agg (.cons (LeD.nil' 3 3) (.cons (LeD.nil' 2 2) .nil)) (by simp)
theorem new2 : PCall Try.prog 17 [] (.ret (dN ⟨[], []⟩)) := by
  refine pcall_of_vc noC c17 (by simp [a17]) fun hr => ?_
  simp [a17, dN]
  exact LeD.agg (.cons (LeD.nil' 3 3) (.cons (LeD.nil' 2 2) .nil)) (by simp)
theorem u8_all (l : List UInt8) : ∀ e ∈ l.map dU, e.u8.isSome = true := by
  intro e he
  obtain ⟨b, _, rfl⟩ := List.mem_map.1 he
  rfl
theorem bytesOf_list (l : List UInt8) : (bytesOf (l.map dU)).toList = l := by
  rw [ByteArray.toList_eq, bytesOf, strOfNums_data, List.map_map, List.map_map]
  conv => rhs; rw [← List.map_id l]
  apply List.map_congr_left
  intro b _
  simp [dU, D.num]
theorem samePacket (x y : Pk) : PCall Try.prog 19 [dP x, dP y] (.ret (dB (decide (x = y)))) := by
  refine pcall_of_vc noC c19 (by simp [a19]) fun hr => ?_
  simp [a19, dP]
  refine vc_calls [] ?_
  simp [strV]
  refine ⟨fun h1 h2 => ⟨⟨h1, h2⟩, fun b _ => rfl⟩, fun h1 h2 => ⟨⟨h1, h2⟩, fun b _ => rfl⟩, ?_⟩
  apply leD_of_eq
  congr 2
  rw [bytesOf_list, bytesOf_list, Bool.eq_iff_iff]
  simp only [Bool.and_eq_true, beq_iff_eq, decide_eq_true_eq]
  obtain ⟨xa, xb, xp⟩ := x
  obtain ⟨ya, yb, yp⟩ := y
  simp [and_assoc]
end Go.Proofs.Ytbfjmachkbhfnaa
end

section
namespace Go.Proofs.Ytbfjmachkbhfnaa
open Go Go.Proofs.Ytbfjmachkbhfnaa.AL
attribute [local simp] dP_cells dP_agg dP_noTup dL_cells dL_agg dL_noTup
theorem rpacket (x : Pk) : PCall Try.prog 29 [dP x] (.ret (dB (okP x))) := by
  refine pcall_of_vc (C := fun f ds out => ∃ n, f = 34 ∧ ds = [dI n] ∧ out = .ret (dB (decide (0 ≤ n) && decide (n < 24)))) (by rintro _ _ _ ⟨n, rfl, rfl, rfl⟩; exact site n) c29 (by simp [a29]) fun hr => ?_
  simp [a29, dP]
  refine vc_calls [.ret (dB (decide (0 ≤ x.a) && decide (x.a < 24))), .ret (dB (decide (0 ≤ x.b) && decide (x.b < 24)))] ?_
  simp
  apply leD_of_eq
  congr 2
  unfold okP cValid
  rw [Bool.eq_iff_iff]
  simp only [Bool.and_eq_true, decide_eq_true_eq, bne_iff_ne, ne_eq]
  split <;> split <;> omega
end Go.Proofs.Ytbfjmachkbhfnaa
end

section
namespace Go.Proofs.Ytbfjmachkbhfnaa
open Go Go.Proofs.Ytbfjmachkbhfnaa.AL
attribute [local simp] dP_cells dP_agg dP_noTup dL_cells dL_agg dL_noTup
inductive CRC : FuncId → List D → Out → Prop
  | packet (x : Pk) : CRC 29 [dP x] (.ret (dB (okP x)))
  | site (n : Int) : CRC 34 [dI n] (.ret (dB (decide (0 ≤ n) && decide (n < 24))))
theorem hCRC : ∀ f ds out, CRC f ds out → PCall Try.prog f ds out := by
  intro f ds out h
  cases h with
  | packet x => exact rpacket x
  | site n => exact site n
set_option maxRecDepth 4000 in
set_option maxHeartbeats 4000000 in
theorem rcheck (n : Nt) : PCall Try.prog 14 [dN n] (.ret (dI (eNet n))) := by
  refine pcall_of_vc hCRC c14 (by simp [a14]) fun hr => ?_
  have hl1 := (hr (dN n) (by simp)).agg (.sl 2 (n.c.map dL)) (by simp [dN])
  have hl2 := (hr (dN n) (by simp)).agg (.sl 3 (n.q.map dP)) (by simp [dN])
  have hlen := hl1.2.sl.1
  have hlen2 := hl2.2.sl.1
  simp at hlen hlen2
  simp [a14, dN, -dI, -dB]
  refine ⟨fun hb => leD_of_eq ?_, fun h1 => ?_⟩
  · have : okNt n = false := by
      simp [okNt, show ¬ ((n.q.length : Int) ≤ 4096) by omega]
    simp [eNet, this]
  · refine vc_loopX Nat (fun i => ⟨[(1, true, .ptr 0 0), (3, true, .d (.lit (.int .i64 i)))], [(0, .box true [.d (.sl 3 (n.q.map dP)), .d (.sl 2 (n.c.map dL))])], []⟩) (fun i => i ≤ n.q.length ∧ ∀ j, (_ : j < i) → (h : j < n.q.length) → okP n.q[j] = true) (fun i => n.q.length - i) 0 (by simp) ⟨[], [], ?_⟩ (fun i hi => ?_)
    · simp [doms, subS, subH, subDs, rho, assocN, newN, okN]
    · obtain ⟨h3, h4⟩ := hi
      simp [-dI, -dB]
      refine ⟨fun hlt => ?_, fun hge => ?_⟩
      · refine vc_calls [.ret (dB (okP n.q[i]))] ?_
        simp [hlt]
        refine ⟨.packet n.q[i], ?_⟩
        refine ⟨fun hb => leD_of_eq ?_, fun hb => ⟨i + 1, ⟨by omega, fun j hj hj2 => ?_⟩, by omega, [], [], ?_⟩⟩
        · have : okNt n = false := by
            have : n.q.all okP = false := by
              rw [List.all_eq_false]
              exact ⟨n.q[i], List.getElem_mem hlt, by simp [hb]⟩
            simp only [okNt, this, Bool.false_and, Bool.and_false]
          simp [eNet, this]
        · by_cases e : j = i
          · subst e; exact hb
          · exact h4 j (by omega) hj2
        · rw [wrap64 (by omega)]
          simp [doms, subS, subH, subDs, rho, assocN, newN, okN]
      · refine vc_loopX Nat (fun i => ⟨[(1, true, .ptr 0 0), (4, true, .d (.lit (.int .i64 i)))], [(0, .box true [.d (.sl 3 (n.q.map dP)), .d (.sl 2 (n.c.map dL))])], []⟩) (fun i => i ≤ n.c.length ∧ ∀ j, j < i → cAt n.c j = true) (fun i => n.c.length - i) 0 (by simp) ⟨[], [], ?_⟩ (fun i hi => ?_)
        · simp [doms, subS, subH, subDs, rho, assocN, newN, okN]
        · obtain ⟨h5, h6⟩ := hi
          simp [-dI, -dB]
          refine ⟨fun hlt => ?_, fun hge => ?_⟩
          · simp [hlt]
            refine vc_path [.ret (dB (decide (0 ≤ n.c[i].1) && decide (n.c[i].1 < 24))), .ret (dB (decide (0 ≤ n.c[i].2) && decide (n.c[i].2 < 24)))] ?_
            simp [hlt]
            have hbad : cAt n.c i = false → LeD (.lit (.int .i64 60)) (.lit (.int .i64 (eNet n))) := fun h => by
              have h7 : okC n.c = false := by
                rw [okC, List.all_eq_false]
                exact ⟨i, by simpa using hlt, by simp [h]⟩
              apply leD_of_eq
              simp [eNet, okNt, h7]
            have hv : cAt n.c i = (cValid n.c[i].1 n.c[i].2 && (i == 0 || decide (cmpL [(n.c.getD (i - 1) default).1, (n.c.getD (i - 1) default).2] [n.c[i].1, n.c[i].2] < 0))) := by rw [cAt, show n.c.getD i default = n.c[i] by simp [hlt]]
            have hbad2 : cValid n.c[i].1 n.c[i].2 = false → LeD (.lit (.int .i64 60)) (.lit (.int .i64 (eNet n))) := fun h => hbad (by rw [hv, h]; rfl)
            refine ⟨.site _, fun h => hbad2 ?_, fun g1 g2 => ⟨.site _, fun h => hbad2 ?_, fun g3 g4 => ⟨fun h => hbad2 ?_, fun g5 => ?_⟩⟩⟩
            · rw [← Bool.not_eq_true]; simp only [cValid, Bool.and_eq_true, decide_eq_true_eq]; omega
            · rw [← Bool.not_eq_true]; simp only [cValid, Bool.and_eq_true, decide_eq_true_eq]; omega
            · rw [← Bool.not_eq_true]; simp only [cValid, Bool.and_eq_true, decide_eq_true_eq]; omega
            refine vc_pathD [] ?_
            cases i with
            | zero =>
              simp [hlt]
              refine ⟨rfl, 1, ⟨by omega, fun j hj => ?_⟩, by omega, [], [], ?_⟩
              · have : j = 0 := by omega
                subst this
                rw [hv]; simp only [cValid, Bool.and_eq_true, decide_eq_true_eq]; exact ⟨⟨⟨g1, g5⟩, g4⟩, rfl⟩
              · rw [wrap64 (by omega)]; simp
            | succ i =>
              have hw : IntKind.i64.wrap (i : Int) = i := wrap64 (by omega)
              have hi : i < n.c.length := by omega
              have hc : cmpL [(n.c.getD (i + 1 - 1) default).1, (n.c.getD (i + 1 - 1) default).2] [n.c[i + 1].1, n.c[i + 1].2] = if n.c[i].1 < n.c[i + 1].1 then -1 else if n.c[i].1 > n.c[i + 1].1 then 1 else if n.c[i].2 < n.c[i + 1].2 then -1 else if n.c[i].2 > n.c[i + 1].2 then 1 else 0 := by
                rw [show n.c.getD (i + 1 - 1) default = n.c[i] by simp [hi]]; rfl
              simp only [hc] at hv
              simp [hlt, hi, hw]
              have hgo : cAt n.c (i + 1) = true → ∃ x', (x' ≤ n.c.length ∧ ∀ (j : Nat), j < x' → cAt n.c j = true) ∧ n.c.length - x' < n.c.length - (i + 1) ∧ x' = i + 2 := fun h => ⟨i + 2, ⟨by omega, fun j hj => by
                by_cases e : j = i + 1
                · subst e; exact h
                · exact h6 j (by omega)⟩, by omega, rfl⟩
              refine ⟨fun h => ⟨rfl, hbad ?_⟩, fun k1 => ⟨fun k2 => ⟨rfl, fun k3 => hbad ?_, fun k3 => ?_⟩, fun k2 => ⟨rfl, ?_⟩⟩⟩
              · rw [hv, if_neg (by omega), if_pos (by omega)]; simp
              · rw [hv, if_neg (by omega), if_neg (by omega), if_neg (by omega)]
                split <;> simp
              · obtain ⟨x', q1, q2, rfl⟩ := hgo (by
                  rw [hv, if_neg (by omega), if_neg (by omega), if_pos (by omega)]
                  simp only [cValid, Bool.and_eq_true, decide_eq_true_eq]; exact ⟨⟨⟨g1, g5⟩, g4⟩, by simp⟩)
                refine ⟨_, q1, q2, [], [], ?_⟩
                rw [wrap64 (by omega)]; simp
                exact leD_of_eq (by congr 2)
              · obtain ⟨x', q1, q2, rfl⟩ := hgo (by
                  rw [hv, if_pos (by omega)]
                  simp only [cValid, Bool.and_eq_true, decide_eq_true_eq]; exact ⟨⟨⟨g1, g5⟩, g4⟩, by simp⟩)
                refine ⟨_, q1, q2, [], [], ?_⟩
                rw [wrap64 (by omega)]; simp
                exact leD_of_eq (by congr 2)
          · apply leD_of_eq
            have : okNt n = true := by
              have h7 : okC n.c = true := by
                rw [okC, List.all_eq_true]
                intro x hx
                exact h6 x (by simp at hx; omega)
              have h8 : n.q.all okP = true := by
                rw [List.all_eq_true]
                intro x hx
                obtain ⟨j, hj, rfl⟩ := List.getElem_of_mem hx
                exact h4 j (by omega) hj
              simp [okNt, h7, h8, h1]
            simp [eNet, this]
end Go.Proofs.Ytbfjmachkbhfnaa
end

section
namespace Go.Proofs.Ytbfjmachkbhfnaa
open Go Go.Proofs.Ytbfjmachkbhfnaa.AL
attribute [local simp] dP_cells dP_agg dP_noTup dL_cells dL_agg dL_noTup
def sndN (n : Nt) (p : Pk) : Nt := if okNt n = true ∧ okP p = true ∧ n.q.length ≠ 4096 then ⟨n.q ++ [p], n.c⟩ else ⟨[], []⟩
def sndE (n : Nt) (p : Pk) : Int := if okNt n = true ∧ okP p = true then (if n.q.length = 4096 then 2 else 0) else 60
theorem okNt_len {n : Nt} (h : okNt n = true) : n.q.length ≤ 4096 := by
  simp only [okNt, Bool.and_eq_true, decide_eq_true_eq] at h; omega
theorem eNet_ne {n : Nt} : eNet n = 0 ↔ okNt n = true := by
  unfold eNet; split <;> simp_all
theorem leD_two {a b x y : D} (h1 : LeD a x) (h2 : LeD b y) : LeD (.tup [a, b]) (.tup [x, y]) := LeD.tup (.cons h1 (.cons h2 .nil))
theorem nilN : LeD (.agg [.nil 3, .nil 2]) (dN ⟨[], []⟩) := LeD.agg (.cons (LeD.nil' 3 3) (.cons (LeD.nil' 2 2) .nil)) (by simp)
theorem nilN2 {m : Nt} (h : m = ⟨[], []⟩) : LeD (.agg [.nil 3, .nil 2]) (.agg [.sl 3 (m.q.map dP), .sl 2 (m.c.map dL)]) := by subst h; exact nilN
inductive CSend : FuncId → List D → Out → Prop
  | check (n : Nt) : CSend 13 [dN n] (.ret (dI (eNet n)))
  | packet (x : Pk) : CSend 28 [dP x] (.ret (dB (okP x)))
theorem hSend : ∀ f ds out, CSend f ds out → PCall Try.prog f ds out := by
  intro f ds out h
  cases h with
  | check n => exact check n
  | packet x => exact packet x
theorem dN_eq (n : Nt) : dN n = .agg [.sl 3 (n.q.map dP), .sl 2 (n.c.map dL)] := rfl
theorem dN_cells (x : Nt) : (dN x).cells = [.sl 3 (x.q.map dP), .sl 2 (x.c.map dL)] := rfl
theorem dN_agg (x : Nt) : (dN x).isAgg = true := rfl
theorem dN_noTup (x : Nt) : (AV.d (dN x)).noTup = true := rfl
set_option maxRecDepth 4000 in
theorem send (n : Nt) (p : Pk) : PCall Try.prog 11 [dN n, dP p] (.ret (.tup [dN (sndN n p), dI (sndE n p)])) := by
  refine pcall_of_vc hSend c11 (by simp [a11]) fun hr => ?_
  simp [a11, dN_cells, dN_noTup]
  refine vc_path [.ret (dI (eNet n)), .ret (dB (okP p))] ?_
  simp [dN_eq]
  have hlen : n.q.length ≤ 9223372036854775807 := by
    have := ((hr (dN n) (by simp)).agg (.sl 3 (n.q.map dP)) (by simp [dN])).2.sl.1
    simpa using this
  refine ⟨.check n, fun h => ?_, fun h => ⟨.packet p, fun h2 => ?_, fun h2 => ⟨fun h3 => ?_, fun h3 => ?_⟩⟩⟩
  · have h0 : ¬ okNt n = true := fun e => h (eNet_ne.2 e)
    exact ⟨nilN2 (by simp [sndN, h0]), leD_of_eq (by simp [sndE, h0])⟩
  · exact ⟨nilN2 (by simp [sndN, h2]), leD_of_eq (by simp [sndE, h2])⟩
  · have h0 := eNet_ne.1 h
    have h4 : n.q.length = 4096 := by omega
    exact ⟨nilN2 (by simp [sndN, h4]), leD_of_eq (by simp [sndE, h0, h2, h4])⟩
  · have h0 := eNet_ne.1 h
    have h4 : ¬ n.q.length = 4096 := by omega
    have h5 := okNt_len h0
    refine ⟨⟨by omega, by omega⟩, rfl, ⟨?_, ?_⟩, ?_⟩ <;> refine leD_of_eq ?_
    · rw [show List.take n.q.length (List.map dP n.q) = List.map dP n.q from List.take_of_length_le (by simp)]
      simp [sndN, h0, h2, h4, dP]
    · simp [sndN, h0, h2, h4]
    · simp [sndE, h0, h2, h4]
inductive CRSend : FuncId → List D → Out → Prop
  | check (n : Nt) : CRSend 14 [dN n] (.ret (dI (eNet n)))
  | packet (x : Pk) : CRSend 29 [dP x] (.ret (dB (okP x)))
theorem hRSend : ∀ f ds out, CRSend f ds out → PCall Try.prog f ds out := by
  intro f ds out h
  cases h with
  | check n => exact rcheck n
  | packet x => exact rpacket x
set_option maxRecDepth 4000 in
theorem rsend (n : Nt) (p : Pk) : PCall Try.prog 12 [dN n, dP p] (.ret (.tup [dN (sndN n p), dI (sndE n p)])) := by
  refine pcall_of_vc hRSend c12 (by simp [a12]) fun hr => ?_
  simp [a12, dN_cells, dN_noTup]
  refine vc_path [.ret (dI (eNet n)), .ret (dB (okP p))] ?_
  simp [dN_eq]
  have hlen : n.q.length ≤ 9223372036854775807 := by
    have := ((hr (dN n) (by simp)).agg (.sl 3 (n.q.map dP)) (by simp [dN])).2.sl.1
    simpa using this
  refine ⟨.check n, fun h => ?_, fun h => ⟨.packet p, fun h2 => ?_, fun h2 => ⟨fun h3 => ?_, fun h3 => ?_⟩⟩⟩
  · have h0 : ¬ okNt n = true := fun e => h (eNet_ne.2 e)
    exact ⟨nilN2 (by simp [sndN, h0]), leD_of_eq (by simp [sndE, h0])⟩
  · exact ⟨nilN2 (by simp [sndN, h2]), leD_of_eq (by simp [sndE, h2])⟩
  · have h0 := eNet_ne.1 h
    have h4 : n.q.length = 4096 := by omega
    exact ⟨nilN2 (by simp [sndN, h4]), leD_of_eq (by simp [sndE, h0, h2, h4])⟩
  · have h0 := eNet_ne.1 h
    have h4 : ¬ n.q.length = 4096 := by omega
    have h5 := okNt_len h0
    refine ⟨⟨by omega, by omega⟩, ⟨by omega, by omega⟩, rfl, ⟨?_, ?_⟩, ?_⟩ <;> refine leD_of_eq ?_
    · simp [sndN, h0, h2, h4, dP]
    · simp [sndN, h0, h2, h4]
    · simp [sndE, h0, h2, h4]
end Go.Proofs.Ytbfjmachkbhfnaa
end

section
namespace Go.Proofs.Ytbfjmachkbhfnaa
open Go Go.Proofs.Ytbfjmachkbhfnaa.AL
attribute [local simp] dP_cells dP_agg dP_noTup dL_cells dL_agg dL_noTup dN_cells dN_agg dN_noTup
def zP : Pk := ⟨0, 0, []⟩
def zN : Nt := ⟨[], []⟩
def inQ (n : Nt) (i : Int) : Bool := decide (0 ≤ i) && decide (i < n.q.length)
def atE (n : Nt) (i : Int) : Int := if okNt n = true then (if inQ n i = true then 0 else 1) else 60
def atP (n : Nt) (i : Int) : Pk := if atE n i = 0 then n.q.getD i.toNat zP else zP
def wo (n : Nt) (i : Int) : Nt := ⟨n.q.take i.toNat ++ n.q.drop (i.toNat + 1), n.c⟩
theorem nilP {m : Pk} (h : m = zP) : LeD (.agg [.lit (.int .i64 0), .lit (.int .i64 0), .nil 1]) (dP m) := by
  subst h
  exact LeD.agg (.cons (LeD.refl _) (.cons (LeD.refl _) (.cons (LeD.nil' 1 1) .nil))) (by simp)
theorem inQ_iff {n : Nt} {i : Int} : inQ n i = true ↔ 0 ≤ i ∧ i < n.q.length := by simp [inQ]
theorem atPk (n : Nt) (i : Int) : PCall Try.prog 35 [dN n, dI i] (.ret (.tup [dP (atP n i), dI (atE n i)])) := by
  refine pcall_of_vc (C := fun f ds out => ∃ n, f = 13 ∧ ds = [dN n] ∧ out = .ret (dI (eNet n))) (by rintro _ _ _ ⟨x, rfl, rfl, rfl⟩; exact check x) c35 (by simp [a35]) fun hr => ?_
  simp [a35]
  refine vc_path [.ret (dI (eNet n))] ?_
  simp
  refine ⟨⟨n, rfl, rfl⟩, fun h => ?_, fun h => vc_path [] ?_⟩
  · have h0 : ¬ okNt n = true := fun e => h (eNet_ne.2 e)
    have h1 : atE n i = 60 := by simp [atE, h0]
    exact ⟨nilP (by simp [atP, h1]), leD_of_eq (by rw [h1])⟩
  have h0 := eNet_ne.1 h
  have hout : ¬ inQ n i = true → LeD (D.agg [D.lit (Value.int IntKind.i64 0), D.lit (Value.int IntKind.i64 0), D.nil 1]) (dP (atP n i)) ∧ LeD (D.lit (Value.int IntKind.i64 1)) (D.lit (Value.int IntKind.i64 (atE n i))) := fun h2 => by
    have h1 : atE n i = 1 := by rw [atE, if_pos h0, if_neg h2]
    exact ⟨nilP (by simp [atP, h1]), leD_of_eq (by rw [h1])⟩
  by_cases hin : inQ n i = true
  · obtain ⟨k1, k2⟩ := inQ_iff.1 hin
    obtain ⟨k, rfl⟩ := Int.eq_ofNat_of_zero_le k1
    have hk : k < n.q.length := by omega
    have h1 : atE n k = 0 := by simp [atE, h0, hin]
    have h3 : atP n k = n.q[k] := by simp [atP, h1, hk]
    simp [hk, h1, h3]
    exact ⟨fun h => by omega, fun h => by omega, leD_of_eq rfl⟩
  · have k1 := mt inQ_iff.2 hin
    by_cases hi : i < 0
    · simp [hi, hout hin]
      try (intro h; omega)
    · have h5 : (n.q.length : Int) ≤ i := by omega
      simp [h5, hout hin]
      try (intro h h'; omega)
theorem asked (n : Nt) (i : Int) : PCall Try.prog 41 [dN n, dI i] (.ret (dI (atE n i))) := by
  refine pcall_of_vc (C := fun f ds out => ∃ n, f = 14 ∧ ds = [dN n] ∧ out = .ret (dI (eNet n))) (by rintro _ _ _ ⟨x, rfl, rfl, rfl⟩; exact rcheck x) c41 (by simp [a41]) fun hr => ?_
  simp [a41]
  refine vc_path [.ret (dI (eNet n))] ?_
  simp
  refine ⟨⟨n, rfl, rfl⟩, fun h => ?_, fun h => vc_path [] ?_⟩
  · have h0 : ¬ okNt n = true := fun e => h (eNet_ne.2 e)
    have h1 : atE n i = 60 := by simp [atE, h0]
    exact leD_of_eq (by rw [h1])
  have h0 := eNet_ne.1 h
  simp
  have hout : ¬ inQ n i = true → LeD (D.lit (Value.int IntKind.i64 1)) (D.lit (Value.int IntKind.i64 (atE n i))) := fun h2 => by
    have h1 : atE n i = 1 := by rw [atE, if_pos h0, if_neg h2]
    exact leD_of_eq (by rw [h1])
  refine ⟨fun h => hout fun h2 => by have := inQ_iff.1 h2; omega, fun h => ⟨fun h' => hout fun h2 => by have := inQ_iff.1 h2; omega, fun h' => ?_⟩⟩
  have h2 : inQ n i = true := inQ_iff.2 ⟨h, h'⟩
  exact leD_of_eq (by simp [atE, h0, h2])
theorem wo_leD {n : Nt} {k : Nat} : LeD (.sl 3 (List.take k (List.map dP n.q) ++ List.drop (k + 1) (List.take n.q.length (List.map dP n.q)))) (.sl 3 (List.map dP (wo n k).q)) := by
  apply leD_of_eq
  rw [show List.take n.q.length (List.map dP n.q) = List.map dP n.q from List.take_of_length_le (by simp)]
  simp [wo]
theorem without (n : Nt) (i : Int) (h : inQ n i = true) (hl : n.q.length ≤ 4096) : PCall Try.prog 38 [dN n, dI i] (.ret (dN (wo n i))) := by
  refine pcall_of_vc noC c38 (by simp [a38]) fun hr => ?_
  obtain ⟨k1, k2⟩ := inQ_iff.1 h
  obtain ⟨k, rfl⟩ := Int.eq_ofNat_of_zero_le k1
  have hk : k < n.q.length := by omega
  have hw : IntKind.i64.wrap ((k : Int) + 1) = ((k + 1 : Nat) : Int) := by rw [wrap64 (by omega)]; simp
  simp [a38, dN_eq, hw]
  exact ⟨by omega, by omega, ⟨by omega, by omega⟩, rfl, wo_leD, leD_of_eq (by simp [wo])⟩
theorem rwithout (n : Nt) (i : Int) (h : inQ n i = true) (hl : n.q.length ≤ 4096) : PCall Try.prog 42 [dN n, dI i] (.ret (dN (wo n i))) := by
  refine pcall_of_vc noC c42 (by simp [a42]) fun hr => ?_
  obtain ⟨k1, k2⟩ := inQ_iff.1 h
  obtain ⟨k, rfl⟩ := Int.eq_ofNat_of_zero_le k1
  have hk : k < n.q.length := by omega
  have hw : IntKind.i64.wrap ((k : Int) + 1) = ((k + 1 : Nat) : Int) := by rw [wrap64 (by omega)]; simp
  simp [a42, dN_eq, hw]
  exact ⟨by omega, ⟨by omega, by omega⟩, by omega, ⟨by omega, by omega⟩, rfl, wo_leD, leD_of_eq (by simp [wo])⟩
end Go.Proofs.Ytbfjmachkbhfnaa
end

section
namespace Go.Proofs.Ytbfjmachkbhfnaa
open Go Go.Proofs.Ytbfjmachkbhfnaa.AL
attribute [local simp] dP_cells dP_agg dP_noTup dL_cells dL_agg dL_noTup dN_cells dN_agg dN_noTup
def lseN (n : Nt) (i : Int) : Nt := if atE n i = 0 then wo n i else zN
def repN (n : Nt) (i : Int) : Nt := if atE n i = 0 then sndN n (atP n i) else zN
def repE (n : Nt) (i : Int) : Int := if atE n i = 0 then sndE n (atP n i) else atE n i
theorem atE_zero {n : Nt} {i : Int} : atE n i = 0 ↔ okNt n = true ∧ inQ n i = true := by
  unfold atE; split <;> (try split) <;> simp_all
inductive CA : FuncId → List D → Out → Prop
  | at' (n : Nt) (i : Int) : CA 35 [dN n, dI i] (.ret (.tup [dP (atP n i), dI (atE n i)]))
  | asked (n : Nt) (i : Int) : CA 41 [dN n, dI i] (.ret (dI (atE n i)))
  | without (n : Nt) (i : Int) (h : inQ n i = true) (hl : n.q.length ≤ 4096) : CA 38 [dN n, dI i] (.ret (dN (wo n i)))
  | rwithout (n : Nt) (i : Int) (h : inQ n i = true) (hl : n.q.length ≤ 4096) : CA 42 [dN n, dI i] (.ret (dN (wo n i)))
  | send (n : Nt) (p : Pk) : CA 11 [dN n, dP p] (.ret (.tup [dN (sndN n p), dI (sndE n p)]))
  | rsend (n : Nt) (p : Pk) : CA 12 [dN n, dP p] (.ret (.tup [dN (sndN n p), dI (sndE n p)]))
theorem hCA : ∀ f ds out, CA f ds out → PCall Try.prog f ds out := by
  intro f ds out h
  cases h with
  | at' n i => exact atPk n i
  | asked n i => exact asked n i
  | without n i h hl => exact without n i h hl
  | rwithout n i h hl => exact rwithout n i h hl
  | send n p => exact send n p
  | rsend n p => exact rsend n p
theorem nilN3 {m : Nt} (h : m = zN) : LeD (.agg [.nil 3, .nil 2]) (dN m) := by subst h; exact nilN
theorem lose (n : Nt) (i : Int) : PCall Try.prog 23 [dN n, dI i] (.ret (.tup [dN (lseN n i), dI (atE n i)])) := by
  refine pcall_of_vc hCA c23 (by simp [a23]) fun hr => ?_
  simp [a23]
  refine vc_path [.ret (.tup [dP (atP n i), dI (atE n i)])] ?_
  simp
  refine ⟨.at' n i, fun h => nilN3 (by simp [lseN, h]), fun h => vc_path [.ret (dN (wo n i))] ?_⟩
  obtain ⟨k1, k2⟩ := atE_zero.1 h
  simp [dN_eq]
  exact ⟨.without n i k2 (okNt_len k1), leD_of_eq (by simp [lseN, h]), leD_of_eq (by rw [h])⟩
theorem rlose (n : Nt) (i : Int) : PCall Try.prog 24 [dN n, dI i] (.ret (.tup [dN (lseN n i), dI (atE n i)])) := by
  refine pcall_of_vc hCA c24 (by simp [a24]) fun hr => ?_
  simp [a24]
  refine vc_path [.ret (dI (atE n i))] ?_
  simp
  refine ⟨.asked n i, fun h => nilN3 (by simp [lseN, h]), fun h => vc_path [.ret (dN (wo n i))] ?_⟩
  obtain ⟨k1, k2⟩ := atE_zero.1 h
  simp [dN_eq]
  exact ⟨.rwithout n i k2 (okNt_len k1), leD_of_eq (by simp [lseN, h]), leD_of_eq (by rw [h])⟩
theorem repeat' (n : Nt) (i : Int) : PCall Try.prog 25 [dN n, dI i] (.ret (.tup [dN (repN n i), dI (repE n i)])) := by
  refine pcall_of_vc hCA c25 (by simp [a25]) fun hr => ?_
  simp [a25]
  refine vc_path [.ret (.tup [dP (atP n i), dI (atE n i)])] ?_
  simp
  refine ⟨.at' n i, fun h => ⟨nilN3 (by simp [repN, h]), leD_of_eq (by simp [repE, h])⟩, fun h => vc_path [.ret (.tup [dN (sndN n (atP n i)), dI (sndE n (atP n i))])] ?_⟩
  simp [dN_eq]
  exact ⟨.send n (atP n i), leD_of_eq (by simp [repN, h]), leD_of_eq (by simp [repE, h])⟩
theorem rrepeat (n : Nt) (i : Int) : PCall Try.prog 26 [dN n, dI i] (.ret (.tup [dN (repN n i), dI (repE n i)])) := by
  refine pcall_of_vc hCA c26 (by simp [a26]) fun hr => ?_
  simp [a26]
  refine vc_path [.ret (dI (atE n i))] ?_
  simp
  refine ⟨.asked n i, fun h => ⟨nilN3 (by simp [repN, h]), leD_of_eq (by simp [repE, h])⟩, fun h => vc_pathD [.ret (.tup [dN (sndN n (atP n i)), dI (sndE n (atP n i))])] ?_⟩
  obtain ⟨k1, k2⟩ := atE_zero.1 h
  obtain ⟨k3, k4⟩ := inQ_iff.1 k2
  obtain ⟨k, rfl⟩ := Int.eq_ofNat_of_zero_le k3
  have hk : k < n.q.length := by omega
  have h3 : atP n k = n.q[k] := by simp [atP, h, hk]
  simp [dN_eq, hk, h3]
  exact ⟨.rsend n n.q[k], rfl, leD_of_eq (by simp [repN, h, h3]), leD_of_eq (by simp [repE, h, h3])⟩
theorem index (l : List (Int × Int)) (x : Int × Int) : PCall Try.prog 45 [.sl 2 (l.map dL), dL x] (.ret (dI (match l.findIdx? (fun y => decide (x = y)) with | some i => i | none => -1))) := by
  refine pcall_of_vc noC c45 (by simp [a45]) fun hr => ?_
  have hlen := (hr (.sl 2 (l.map dL)) (by simp)).sl.1
  simp at hlen
  simp [a45]
  refine vc_loopK [0, 3, 7] Nat (fun i => [(8, true, .d (dI i))]) (fun _ => []) (fun i => i ≤ l.length ∧ ∀ j, (h : j < i) → (h2 : j < l.length) → ¬ x = l[j]) (fun i => l.length - i) 0 (by simp) ⟨[], [], ?_⟩ (fun i hi => ?_)
  · simp
  · obtain ⟨h1, h2⟩ := hi
    simp
    refine ⟨fun hlt => ?_, fun hge => ?_⟩
    · simp [hlt, dL]
      refine ⟨rfl, fun ha hb => leD_of_eq ?_, fun hne => ⟨i + 1, ⟨by omega, fun j hj hj2 => ?_⟩, by omega, [], [], ?_⟩⟩
      · have : l.findIdx? (fun y => decide (x = y)) = some i := findIdx_some hlt (by simp [Prod.ext_iff, ha, hb]) (fun j hj => by simpa using h2 j hj (by omega))
        rw [this]
      · by_cases e : j = i
        · subst e; intro e; exact hne (by rw [e]) (by rw [e])
        · exact h2 j (by omega) hj2
      · rw [wrap64 (by omega)]
        simp
    · have : l.findIdx? (fun y => decide (x = y)) = none := findIdx_none (fun j hj => by simpa using h2 j (by omega) hj)
      rw [this]
      exact leD_of_eq rfl
def idx (l : List (Int × Int)) (x : Int × Int) : Int := match l.findIdx? (fun y => decide (x = y)) with | some i => i | none => -1
inductive CIdx : FuncId → List D → Out → Prop
  | mk (l : List (Int × Int)) (x : Int × Int) : CIdx 45 [.sl 2 (l.map dL), dL x] (.ret (dI (idx l x)))
theorem hIdx : ∀ f ds out, CIdx f ds out → PCall Try.prog f ds out := by
  intro f ds out h
  cases h with
  | mk l x => exact index l x
theorem contains (l : List (Int × Int)) (x : Int × Int) : PCall Try.prog 36 [.sl 2 (l.map dL), dL x] (.ret (dB (decide (x ∈ l)))) := by
  refine pcall_of_vc hIdx c36 (by simp [a36]) fun hr => ?_
  simp [a36]
  refine vc_path [.ret (dI (idx l x))] ?_
  simp
  refine ⟨.mk l x, leD_of_eq ?_⟩
  congr 2
  unfold idx
  split
  · rename_i i h
    rw [List.findIdx?_eq_some_iff_getElem] at h
    obtain ⟨h1, h2, _⟩ := h
    have : x ∈ l := by
      have := of_decide_eq_true h2
      rw [this]; exact List.getElem_mem h1
    simp [this]
  · rename_i h
    rw [List.findIdx?_eq_none_iff] at h
    have : x ∉ l := fun hx => by simpa using h x hx
    simp [this]
def lk (a b : Int) : Int × Int := (if b < a then b else a, if a < b then b else a)
theorem isCut (n : Nt) (a b : Int) : PCall Try.prog 40 [dN n, dI a, dI b] (.ret (dB (decide (lk a b ∈ n.c)))) := by
  refine pcall_of_vc noC c40 (by simp [a40]) fun hr => ?_
  have hlen := ((hr (dN n) (by simp)).agg (.sl 2 (n.c.map dL)) (by simp [dN])).2.sl.1
  simp at hlen
  simp [a40]
  refine vc_loopK [3, 1, 2] Nat (fun i => [(7, true, .d (dI i))]) (fun _ => []) (fun i => i ≤ n.c.length ∧ ∀ j, (h : j < i) → (h2 : j < n.c.length) → ¬ lk a b = n.c[j]) (fun i => n.c.length - i) 0 (by simp) ⟨[], [], ?_⟩ (fun i hi => ?_)
  · simp
  · obtain ⟨h1, h2⟩ := hi
    simp
    refine ⟨fun hlt => ?_, fun hge => ?_⟩
    · refine vc_path [] ?_
      simp [hlt, dL]
      have hno : ¬ lk a b = n.c[i] → ∃ x', (x' ≤ n.c.length ∧ ∀ (j : Nat), j < x' → ∀ (h2 : j < n.c.length), ¬lk a b = n.c[j]) ∧ n.c.length - x' < n.c.length - i ∧ x' = i + 1 := fun hne => ⟨i + 1, ⟨by omega, fun j hj hj2 => by
        by_cases e : j = i
        · subst e; exact hne
        · exact h2 j (by omega) hj2⟩, by omega, rfl⟩
      refine ⟨fun g1 => ⟨fun g2 => leD_of_eq ?_, fun g2 => ?_⟩, fun g1 => ?_⟩
      · have : lk a b ∈ n.c := by
          rw [show lk a b = n.c[i] from by rw [lk, ← g1, ← g2]]; exact List.getElem_mem hlt
        simp [this]
      · obtain ⟨x', q1, q2, rfl⟩ := hno (fun e => g2 (by rw [← e]; rfl))
        refine ⟨_, q1, q2, [], [], ?_⟩
        rw [wrap64 (by omega)]; simp
      · obtain ⟨x', q1, q2, rfl⟩ := hno (fun e => g1 (by rw [← e]; rfl))
        refine ⟨_, q1, q2, [], [], ?_⟩
        rw [wrap64 (by omega)]; simp
    · have : lk a b ∉ n.c := fun h => by
        obtain ⟨j, hj, e⟩ := List.getElem_of_mem h
        exact h2 j (by omega) hj e.symm
      exact leD_of_eq (by simp [this])
def dlvP (n : Nt) (i : Int) : Pk := if lk (atP n i).a (atP n i).b ∈ n.c then zP else atP n i
inductive CDlv : FuncId → List D → Out → Prop
  | at' (n : Nt) (i : Int) : CDlv 35 [dN n, dI i] (.ret (.tup [dP (atP n i), dI (atE n i)]))
  | asked (n : Nt) (i : Int) : CDlv 41 [dN n, dI i] (.ret (dI (atE n i)))
  | without (n : Nt) (i : Int) (h : inQ n i = true) (hl : n.q.length ≤ 4096) : CDlv 38 [dN n, dI i] (.ret (dN (wo n i)))
  | rwithout (n : Nt) (i : Int) (h : inQ n i = true) (hl : n.q.length ≤ 4096) : CDlv 42 [dN n, dI i] (.ret (dN (wo n i)))
  | between (x y : Int) : CDlv 37 [dI x, dI y] (.ret (dL (lk x y)))
  | contains (l : List (Int × Int)) (x : Int × Int) : CDlv 36 [.sl 2 (l.map dL), dL x] (.ret (dB (decide (x ∈ l))))
  | isCut (n : Nt) (a b : Int) : CDlv 40 [dN n, dI a, dI b] (.ret (dB (decide (lk a b ∈ n.c))))
theorem hDlv : ∀ f ds out, CDlv f ds out → PCall Try.prog f ds out := by
  intro f ds out h
  cases h with
  | at' n i => exact atPk n i
  | asked n i => exact asked n i
  | without n i h hl => exact without n i h hl
  | rwithout n i h hl => exact rwithout n i h hl
  | between x y => exact between x y
  | contains l x => exact contains l x
  | isCut n a b => exact isCut n a b
theorem dlvP_z {n : Nt} {i : Int} (h : ¬ atE n i = 0) : dlvP n i = zP := by
  have : atP n i = zP := by simp [atP, h]
  rw [dlvP, this]; split <;> rfl
set_option maxRecDepth 4000 in
theorem deliver (n : Nt) (i : Int) : PCall Try.prog 18 [dN n, dI i] (.ret (.tup [dP (dlvP n i), dN (lseN n i), dI (atE n i)])) := by
  refine pcall_of_vc hDlv c18 (by simp [a18]) fun hr => ?_
  simp [a18]
  refine vc_path [.ret (.tup [dP (atP n i), dI (atE n i)])] ?_
  simp
  refine ⟨.at' n i, fun h => ?_, fun h => vc_pathD [.ret (dL (lk (atP n i).a (atP n i).b)), .ret (dB (decide (lk (atP n i).a (atP n i).b ∈ n.c)))] ?_⟩
  · exact ⟨rfl, leD_of_eq (by rw [dlvP_z h, show atP n i = zP by simp [atP, h]]; rfl), nilN3 (by simp [lseN, h])⟩
  obtain ⟨k1, k2⟩ := atE_zero.1 h
  simp
  refine ⟨.between _ _, .contains _ _, rfl, fun h4 => vc_pathD [.ret (dN (wo n i))] ?_, fun h4 => vc_pathD [.ret (dN (wo n i))] ?_⟩
  · simp [dN_eq]
    exact ⟨.without n i k2 (okNt_len k1), rfl, nilP (by simp [dlvP, h4]), leD_of_eq (by simp [lseN, h]), leD_of_eq (by rw [h])⟩
  · simp [dN_eq]
    exact ⟨.without n i k2 (okNt_len k1), rfl, leD_of_eq (by simp [dlvP, h4, dP]), leD_of_eq (by simp [lseN, h]), leD_of_eq (by rw [h])⟩
set_option maxRecDepth 4000 in
theorem rdeliver (n : Nt) (i : Int) : PCall Try.prog 22 [dN n, dI i] (.ret (.tup [dP (dlvP n i), dN (lseN n i), dI (atE n i)])) := by
  refine pcall_of_vc hDlv c22 (by simp [a22]) fun hr => ?_
  simp [a22]
  refine vc_path [.ret (dI (atE n i))] ?_
  simp
  refine ⟨.asked n i, fun h => ?_, fun h => ?_⟩
  · exact ⟨nilP (dlvP_z h), nilN3 (by simp [lseN, h])⟩
  obtain ⟨k1, k2⟩ := atE_zero.1 h
  obtain ⟨k3, k4⟩ := inQ_iff.1 k2
  obtain ⟨k, rfl⟩ := Int.eq_ofNat_of_zero_le k3
  have hk : k < n.q.length := by omega
  have h3 : atP n k = n.q[k] := by simp [atP, h, hk]
  simp [hk]
  refine vc_path [.ret (dB (decide (lk n.q[k].a n.q[k].b ∈ n.c)))] ?_
  simp
  refine ⟨.isCut _ _ _, fun h4 => vc_pathD [.ret (dN (wo n k))] ?_, fun h4 => vc_pathD [.ret (dN (wo n k))] ?_⟩
  · simp [dN_eq]
    exact ⟨.rwithout n k k2 (okNt_len k1), rfl, nilP (by simp [dlvP, h3, h4]), leD_of_eq (by simp [lseN, h]), leD_of_eq (by rw [h])⟩
  · simp [dN_eq]
    exact ⟨.rwithout n k k2 (okNt_len k1), rfl, leD_of_eq (by simp [dlvP, h3, h4, dP]), leD_of_eq (by simp [lseN, h]), leD_of_eq (by rw [h])⟩
end Go.Proofs.Ytbfjmachkbhfnaa
end

section
namespace Go.Proofs.Ytbfjmachkbhfnaa
open Go Go.Proofs.Ytbfjmachkbhfnaa.AL
attribute [local simp] dP_cells dP_agg dP_noTup dL_cells dL_agg dL_noTup dN_cells dN_agg dN_noTup
inductive CSame : FuncId → List D → Out → Prop
  | mk (x y : Pk) : CSame 19 [dP x, dP y] (.ret (dB (decide (x = y))))
theorem hSame : ∀ f ds out, CSame f ds out → PCall Try.prog f ds out := by
  intro f ds out h
  cases h with
  | mk x y => exact samePacket x y
set_option maxRecDepth 4000 in
theorem same (x y : Nt) : PCall Try.prog 15 [dN x, dN y] (.ret (dB (decide (x = y)))) := by
  refine pcall_of_vc hSame c15 (by simp [a15]) fun hr => ?_
  have hlen1 := ((hr (dN x) (by simp)).agg (.sl 3 (x.q.map dP)) (by simp [dN])).2.sl.1
  have hlen2 := ((hr (dN x) (by simp)).agg (.sl 2 (x.c.map dL)) (by simp [dN])).2.sl.1
  simp at hlen1 hlen2
  simp [a15]
  refine vc_path [] ?_
  simp
  have hno : ¬ x = y → LeD (dB false) (dB (decide (x = y))) := fun h => leD_of_eq (by simp [h])
  refine ⟨fun h => ?_, fun h1 => ⟨fun h => ?_, fun h2 => ?_⟩⟩
  · exact hno (fun e => h (by rw [e]))
  · exact hno (fun e => h (by rw [e]))
  refine vc_loopK [2, 3] Nat (fun i => [(5, true, .d (dI i))]) (fun _ => []) (fun i => i ≤ x.q.length ∧ ∀ j, (h : j < i) → (h2 : j < x.q.length) → (h3 : j < y.q.length) → x.q[j] = y.q[j]) (fun i => x.q.length - i) 0 (by simp) ⟨[], [], ?_⟩ (fun i hi => ?_)
  · simp
  obtain ⟨g1, g2⟩ := hi
  simp
  refine ⟨fun hlt => ?_, fun hge1 => ?_⟩
  · have hlt2 : i < y.q.length := by omega
    refine vc_pathD [.ret (dB (decide (x.q[i] = y.q[i])))] ?_
    simp [hlt, hlt2]
    refine ⟨.mk _ _, rfl, fun h => hno (fun e => h (by subst e; rfl)), fun h => ⟨i + 1, ⟨by omega, fun j hj q1 q2 => ?_⟩, by omega, [], [], ?_⟩⟩
    · by_cases e : j = i
      · subst e; exact h
      · exact g2 j (by omega) q1 q2
    · rw [wrap64 (by omega)]; simp
  refine vc_loopK [2, 3] Nat (fun i => [(6, true, .d (dI i))]) (fun _ => []) (fun i => i ≤ x.c.length ∧ ∀ j, (h : j < i) → (h2 : j < x.c.length) → (h3 : j < y.c.length) → x.c[j] = y.c[j]) (fun i => x.c.length - i) 0 (by simp) ⟨[], [], ?_⟩ (fun i hi => ?_)
  · simp
  obtain ⟨g3, g4⟩ := hi
  simp
  refine ⟨fun hlt => ?_, fun hge => ?_⟩
  · have hlt2 : i < y.c.length := by omega
    simp [hlt, hlt2, dL]
    refine ⟨rfl, fun h => hno (fun e => by subst e; simp at h), fun h h' => ⟨i + 1, ⟨by omega, fun j hj q1 q2 => ?_⟩, by omega, [], [], ?_⟩⟩
    · by_cases e : j = i
      · subst e; exact Prod.ext h h'
      · exact g4 j (by omega) q1 q2
    · rw [wrap64 (by omega)]; simp
  · have : x = y := by
      obtain ⟨xq, xc⟩ := x
      obtain ⟨yq, yc⟩ := y
      simp at h1 h2 g2 g4 hge hge1
      have e1 : xq = yq := List.ext_getElem (by omega) (fun j q1 q2 => g2 j (by omega) q1 q2)
      have e2 : xc = yc := List.ext_getElem (by omega) (fun j q1 q2 => g4 j (by omega) q1 q2)
      rw [e1, e2]
    exact leD_of_eq (by simp [this])
end Go.Proofs.Ytbfjmachkbhfnaa
end

section
namespace Go.Proofs.Ytbfjmachkbhfnaa
open Go Go.Proofs.Ytbfjmachkbhfnaa.AL
attribute [local simp] dP_cells dP_agg dP_noTup dL_cells dL_agg dL_noTup dN_cells dN_agg dN_noTup
def ctP (n : Nt) (a b : Int) (on : Bool) (l : Int × Int) : Bool := if l = lk a b then on else decide (l ∈ n.c)
def row (p : Int × Int → Bool) (a k : Nat) : List (Int × Int) := ((List.range' (a + 1) k).map fun (b : Nat) => ((a : Int), (b : Int))).filter p
def tot (p : Int × Int → Bool) (a : Nat) : List (Int × Int) := (List.range a).flatMap fun a => row p a (23 - a)
theorem row_succ (p : Int × Int → Bool) (a k : Nat) : row p a (k + 1) = row p a k ++ (if p ((a : Int), ((a + 1 + k : Nat) : Int)) = true then [((a : Int), ((a + 1 + k : Nat) : Int))] else []) := by
  unfold row
  rw [List.range'_1_concat, List.map_append, List.filter_append]
  simp only [List.map_cons, List.map_nil, List.filter_cons, List.filter_nil]
theorem row_succ' (p : Int × Int → Bool) (a k : Nat) : row p a (k + 1) = row p a k ++ (if p ((a : Int), (a : Int) + 1 + k) = true then [((a : Int), (a : Int) + 1 + k)] else []) := by
  rw [row_succ, show (((a + 1 + k : Nat) : Int)) = (a : Int) + 1 + k by omega]
theorem tot_succ (p : Int × Int → Bool) (a : Nat) : tot p (a + 1) = tot p a ++ row p a (23 - a) := by
  unfold tot
  rw [List.range_succ, List.flatMap_append]
  simp
theorem row_len (p : Int × Int → Bool) (a k : Nat) : (row p a k).length ≤ k := by
  unfold row
  exact Nat.le_trans (List.length_filter_le _ _) (by simp)
theorem tot_len (p : Int × Int → Bool) : ∀ a, (tot p a).length ≤ a * 23
  | 0 => by simp [tot]
  | a + 1 => by
    rw [tot_succ, List.length_append]
    have := row_len p a (23 - a)
    have := tot_len p a
    omega
def okL (a b : Int) : Bool := cValid (lk a b).1 (lk a b).2
def cutE (n : Nt) (a b : Int) : Int := if okNt n = true then (if okL a b = true then 0 else 1) else 60
def cutN (n : Nt) (a b : Int) (on : Bool) : Nt := if okNt n = true ∧ okL a b = true then ⟨n.q, tot (ctP n a b on) 24⟩ else zN
inductive CCut : FuncId → List D → Out → Prop
  | check (n : Nt) : CCut 13 [dN n] (.ret (dI (eNet n)))
  | rcheck (n : Nt) : CCut 14 [dN n] (.ret (dI (eNet n)))
  | between (x y : Int) : CCut 37 [dI x, dI y] (.ret (dL (lk x y)))
  | valid (x : Int × Int) : CCut 32 [dL x] (.ret (dB (cValid x.1 x.2)))
  | site (n : Int) : CCut 34 [dI n] (.ret (dB (decide (0 ≤ n) && decide (n < 24))))
  | contains (l : List (Int × Int)) (x : Int × Int) : CCut 36 [.sl 2 (l.map dL), dL x] (.ret (dB (decide (x ∈ l))))
  | isCut (n : Nt) (a b : Int) : CCut 40 [dN n, dI a, dI b] (.ret (dB (decide (lk a b ∈ n.c))))
theorem hCut : ∀ f ds out, CCut f ds out → PCall Try.prog f ds out := by
  intro f ds out h
  cases h with
  | check n => exact check n
  | rcheck n => exact rcheck n
  | between x y => exact between x y
  | valid x => exact valid x.1 x.2
  | site n => exact site n
  | contains l x => exact contains l x
  | isCut n a b => exact isCut n a b
set_option maxRecDepth 4000 in
theorem rcut (n : Nt) (a b : Int) (on : Bool) : PCall Try.prog 21 [dN n, dI a, dI b, dB on] (.ret (.tup [dN (cutN n a b on), dI (cutE n a b)])) := by
  refine pcall_of_vc hCut c21 (by simp [a21]) fun hr => ?_
  simp [a21]
  refine vc_path [.ret (dI (eNet n))] ?_
  simp
  refine ⟨.rcheck n, fun h => ?_, fun h => vc_path [.ret (dB (decide (0 ≤ a) && decide (a < 24))), .ret (dB (decide (0 ≤ b) && decide (b < 24)))] ?_⟩
  · have h0 : ¬ okNt n = true := fun e => h (eNet_ne.2 e)
    exact ⟨nilN3 (by simp [cutN, h0]), leD_of_eq (by simp [cutE, h0])⟩
  have h0 := eNet_ne.1 h
  have hbad : ¬ okL a b = true → LeD (D.agg [D.nil 3, D.nil 2]) (dN (cutN n a b on)) ∧ LeD (D.lit (Value.int IntKind.i64 1)) (D.lit (Value.int IntKind.i64 (cutE n a b))) := fun h2 => ⟨nilN3 (by simp [cutN, h2]), leD_of_eq (by simp [cutE, h0, h2])⟩
  simp
  have hL : okL a b = true ↔ 0 ≤ a ∧ a < 24 ∧ 0 ≤ b ∧ b < 24 ∧ a ≠ b := by
    unfold okL lk cValid
    by_cases g1 : b < a <;> by_cases g2 : a < b <;> simp [g1, g2] <;> omega
  refine ⟨.site a, fun h => hbad fun h2 => by have := hL.1 h2; omega, fun q1 q2 => ⟨.site b, fun h => hbad fun h2 => by have := hL.1 h2; omega, fun q3 q4 => ⟨fun h => hbad fun h2 => by have := hL.1 h2; omega, fun q5 => ?_⟩⟩⟩
  have h2 := hL.2 ⟨q1, q2, q3, q4, q5⟩
  refine vc_loopK [4, 8, 1, 2, 3] Nat (fun x => [(11, true, .d (dI x)), (10, true, .own 2 2 ((tot (ctP n a b on) x).map dL))]) (fun _ => [(2, .row)]) (fun x => x ≤ 24) (fun x => 24 - x) 0 (by simp) ⟨[], [(2, 2)], ?_⟩ (fun x hx => ?_)
  · simp
    rfl
  simp
  refine ⟨fun hlt => ?_, fun hge => ?_⟩
  · refine vc_loopK [4, 8, 1, 2, 3, 11] Nat (fun k => [(12, true, .d (dI ((x + 1 + k : Nat) : Int))), (10, true, .own 2 2 ((tot (ctP n a b on) x ++ row (ctP n a b on) x k).map dL))]) (fun _ => [(2, .row)]) (fun k => x + 1 + k ≤ 24) (fun k => 24 - k) 0 (by omega) ⟨[], [], ?_⟩ (fun k hk => ?_)
    · simp
      exact ⟨leD_of_eq (by rw [wrap64 (by omega)]), rfl⟩
    simp
    refine ⟨fun hlt2 => ?_, fun hge2 => ?_⟩
    · refine vc_path [.ret (dB (decide (lk x (x + 1 + k : Nat) ∈ n.c)))] ?_
      simp
      refine ⟨?_, vc_path [] ?_⟩
      · have := CCut.isCut n x (x + 1 + k)
        exact this
      have hlen : ((tot (ctP n a b on) x).length + (row (ctP n a b on) x k).length + 1) * 16 ≤ 140737488355328 := by
        have := tot_len (ctP n a b on) x
        have := row_len (ctP n a b on) x k
        omega
      have hlk : lk (x : Int) ((x : Int) + 1 + k) = ((x : Int), (x : Int) + 1 + k) := by
        unfold lk
        rw [if_neg (by omega), if_pos (by omega)]
      have hp : ctP n a b on ((x : Int), (x : Int) + 1 + k) = if (x : Int) = (if b < a then b else a) ∧ (x : Int) + 1 + k = (if a < b then b else a) then on else decide (((x : Int), (x : Int) + 1 + k) ∈ n.c) := by
        unfold ctP lk
        simp only [Prod.mk.injEq]
      have e1 : LeD (.lit (.int .i64 (IntKind.i64.wrap ((x : Int) + 1 + k + 1)))) (.lit (.int .i64 ((x : Int) + 1 + ((k : Int) + 1)))) := leD_of_eq (by rw [wrap64 (by omega)]; congr 2)
      simp [hlk]
      refine ⟨fun g1 => ⟨fun g2 => ⟨fun g3 => ⟨⟨by omega, by omega⟩, k + 1, by omega, by omega, [(2, 4)], [], ?_⟩, fun g3 => ⟨k + 1, by omega, by omega, [], [], ?_⟩⟩, fun g2 => ⟨fun g3 => ⟨⟨by omega, by omega⟩, k + 1, by omega, by omega, [(2, 4)], [], ?_⟩, fun g3 => ⟨k + 1, by omega, by omega, [], [], ?_⟩⟩⟩, fun g1 => ⟨fun g3 => ⟨⟨by omega, by omega⟩, k + 1, by omega, by omega, [(2, 4)], [], ?_⟩, fun g3 => ⟨k + 1, by omega, by omega, [], [], ?_⟩⟩⟩
      · have h3 : ctP n a b on ((x : Int), (x : Int) + 1 + k) = true := by rw [hp, if_pos ⟨g1, g2⟩]; exact g3
        simp [row_succ', h3, dL]
        exact e1
      · have h3 : ctP n a b on ((x : Int), (x : Int) + 1 + k) = false := by rw [hp, if_pos ⟨g1, g2⟩]; exact g3
        simp [row_succ', h3]
        exact e1
      · have h3 : ctP n a b on ((x : Int), (x : Int) + 1 + k) = true := by rw [hp, if_neg (fun e => g2 e.2)]; simpa using g3
        simp [row_succ', h3, dL]
        exact e1
      · have h3 : ctP n a b on ((x : Int), (x : Int) + 1 + k) = false := by rw [hp, if_neg (fun e => g2 e.2)]; simpa using g3
        simp [row_succ', h3]
        exact e1
      · have h3 : ctP n a b on ((x : Int), (x : Int) + 1 + k) = true := by rw [hp, if_neg (fun e => g1 e.1)]; simpa using g3
        simp [row_succ', h3, dL]
        exact e1
      · have h3 : ctP n a b on ((x : Int), (x : Int) + 1 + k) = false := by rw [hp, if_neg (fun e => g1 e.1)]; simpa using g3
        simp [row_succ', h3]
        exact e1
    · obtain ⟨e⟩ : k = 23 - x := by omega
      refine ⟨x + 1, by omega, by omega, [], [], ?_⟩
      rw [wrap64 (by omega)]
      simp [tot_succ]
  · have e : x = 24 := by omega
    subst e
    simp [dN_eq]
    exact ⟨⟨leD_of_eq (by simp [cutN, h0, h2]), leD_of_eq (by simp [cutN, h0, h2])⟩, leD_of_eq (by simp [cutE, h0, h2])⟩
end Go.Proofs.Ytbfjmachkbhfnaa
end

section
namespace Go.Proofs.Ytbfjmachkbhfnaa
open Go Go.Proofs.Ytbfjmachkbhfnaa.AL
attribute [local simp] dP_cells dP_agg dP_noTup dL_cells dL_agg dL_noTup dN_cells dN_agg dN_noTup
set_option maxRecDepth 8000 in
theorem cut (n : Nt) (a b : Int) (on : Bool) : PCall Try.prog 20 [dN n, dI a, dI b, dB on] (.ret (.tup [dN (cutN n a b on), dI (cutE n a b)])) := by
  refine pcall_of_vc hCut c20 (by simp [a20]) fun hr => ?_
  simp [a20]
  refine vc_path [.ret (dI (eNet n))] ?_
  simp
  refine ⟨.check n, fun h => ?_, fun h => vc_path [.ret (dL (lk a b))] ?_⟩
  · have h0 : ¬ okNt n = true := fun e => h (eNet_ne.2 e)
    exact ⟨nilN3 (by simp [cutN, h0]), leD_of_eq (by simp [cutE, h0])⟩
  have h0 := eNet_ne.1 h
  simp
  refine ⟨.between a b, vc_path [.ret (dB (okL a b))] ?_⟩
  simp
  refine ⟨.valid (lk a b), fun h2 => ⟨nilN3 (by simp [cutN, h2]), leD_of_eq (by simp [cutE, h0, h2])⟩, fun h2 => ?_⟩
  refine regS_path [] ?_
  simp
  refine icall_T (TF Try.prog a39) (hcall_of_vc c39) ?_
  simp [a39]
  refine vc_range (TF Try.prog a46) (hcall_of_vc c46) rfl (by rfl) (fun l => by rfl) (fun l => ?_)
  simp [a46]
  refine vc_loopK [0, 1, 2, 3] Nat (fun x => [(8, true, .d (dI x))]) (fun x => [(1, .box true [.d (.sl 3 (n.q.map dP)), .own 8 2 ((tot (ctP n a b on) x).map dL)]), (8, .row)]) (fun x => x ≤ 24) (fun x => 24 - x) 0 (by simp) ⟨[], [(8, 2)], ?_⟩ (fun x hx => ?_)
  · simp
    exact ⟨rfl, fun x hx => by omega⟩
  simp
  refine ⟨fun hlt => ?_, fun hge => ?_⟩
  · refine vc_loopK [0, 1, 2, 3, 8, 5] Nat (fun k => [(6, true, .d (dI ((x + 1 + k : Nat) : Int)))]) (fun k => [(1, .box true [.d (.sl 3 (n.q.map dP)), .own 8 2 ((tot (ctP n a b on) x ++ row (ctP n a b on) x k).map dL)]), (8, .row)]) (fun k => x + 1 + k ≤ 24) (fun k => 24 - k) 0 (by omega) ⟨[], [], ?_⟩ (fun k hk => ?_)
    · simp
      exact ⟨leD_of_eq (by rw [wrap64 (by omega)]), rfl, fun x hx => by omega⟩
    simp
    refine ⟨fun hlt2 => ?_, fun hge2 => ?_⟩
    · refine vc_path [.ret (dB (decide (((x : Int), (x : Int) + 1 + k) ∈ n.c)))] ?_
      simp
      have hlen : ((tot (ctP n a b on) x).length + (row (ctP n a b on) x k).length + 1) * 16 ≤ 140737488355328 := by
        have := tot_len (ctP n a b on) x
        have := row_len (ctP n a b on) x k
        omega
      have e1 : LeD (.lit (.int .i64 (IntKind.i64.wrap ((x : Int) + 1 + k + 1)))) (.lit (.int .i64 ((x : Int) + 1 + ((k : Int) + 1)))) := leD_of_eq (by rw [wrap64 (by omega)]; congr 2)
      have hp : ctP n a b on ((x : Int), (x : Int) + 1 + k) = if (x : Int) = (lk a b).1 ∧ (x : Int) + 1 + k = (lk a b).2 then on else decide (((x : Int), (x : Int) + 1 + k) ∈ n.c) := by
        simp only [ctP, Prod.ext_iff]
      have hno : ¬ ((x : Int) = (lk a b).1 ∧ (x : Int) + 1 + k = (lk a b).2) → ctP n a b on ((x : Int), (x : Int) + 1 + k) = decide (((x : Int), (x : Int) + 1 + k) ∈ n.c) := fun h => by rw [hp, if_neg h]
      refine ⟨fun g1 g2 => ⟨fun g3 => ⟨k + 1, by omega, by omega, [], [], ?_⟩, fun g3 => ⟨fun g4 => (g4.elim (absurd g1) (absurd g2)), fun _ _ => regS_path [] ?_⟩⟩, fun g4 => ⟨fun _ => ⟨.contains n.c ((x : Int), (x : Int) + 1 + k), fun g5 => ⟨k + 1, by omega, by omega, [], [], ?_⟩, fun g5 => regS_path [] ?_⟩, fun g1 g2 => absurd g2 (g4 g1)⟩⟩
      · have h3 : ctP n a b on ((x : Int), (x : Int) + 1 + k) = false := by rw [hp, if_pos ⟨g1, g2⟩]; exact g3
        simp [row_succ', h3]
        exact ⟨e1, fun x hx => by omega⟩
      · have h3 : ctP n a b on ((x : Int), (x : Int) + 1 + k) = true := by rw [hp, if_pos ⟨g1, g2⟩]; exact g3
        simp
        refine ⟨⟨by omega, by omega⟩, k + 1, by omega, by omega, [(8, 12)], [], ?_⟩
        simp [row_succ', h3, dL]
        exact ⟨e1, fun x hx => .inr ⟨by rw [if_neg (by omega)]; rfl, by omega⟩⟩
      · have h3 : ctP n a b on ((x : Int), (x : Int) + 1 + k) = false := by rw [hno (fun e => g4 e.1 e.2)]; simpa using g5
        simp [row_succ', h3]
        exact ⟨e1, fun x hx => by omega⟩
      · have h3 : ctP n a b on ((x : Int), (x : Int) + 1 + k) = true := by rw [hno (fun e => g4 e.1 e.2)]; simpa using g5
        simp
        refine ⟨⟨by omega, by omega⟩, k + 1, by omega, by omega, [(8, 12)], [], ?_⟩
        simp [row_succ', h3, dL]
        exact ⟨e1, fun x hx => .inr ⟨by rw [if_neg (by omega)]; rfl, by omega⟩⟩
    · have e : k = 23 - x := by omega
      subst e
      refine ⟨x + 1, by omega, by omega, [], [], ?_⟩
      rw [wrap64 (by omega)]
      simp [tot_succ]
      intro x hx; omega
  · have e : x = 24 := by omega
    subst e
    simp [dN_eq]
    exact ⟨⟨leD_of_eq (by simp [cutN, h0, h2]), leD_of_eq (by simp [cutN, h0, h2])⟩, leD_of_eq (by simp [cutE, h0, h2])⟩
end Go.Proofs.Ytbfjmachkbhfnaa
end

section
namespace Go.Proofs.Ytbfjmachkbhfnaa
open Go Go.Proofs.Ytbfjmachkbhfnaa.AL
inductive CS : FuncId → List D → Out → Prop
  | new1 : CS 16 [] (.ret (dN ⟨[], []⟩))
  | new2 : CS 17 [] (.ret (dN ⟨[], []⟩))
  | check (n : Nt) : CS 13 [dN n] (.ret (dI (eNet n)))
  | rcheck (n : Nt) : CS 14 [dN n] (.ret (dI (eNet n)))
  | few (n : Nt) : CS 10 [dN n] (.ret (dB (decide ((n.q.length : Int) ≤ 40) && decide ((n.c.length : Int) ≤ 40))))
  | samePacket (x y : Pk) : CS 19 [dP x, dP y] (.ret (dB (decide (x = y))))
  | same (x y : Nt) : CS 15 [dN x, dN y] (.ret (dB (decide (x = y))))
  | send (n : Nt) (p : Pk) : CS 11 [dN n, dP p] (.ret (.tup [dN (sndN n p), dI (sndE n p)]))
  | rsend (n : Nt) (p : Pk) : CS 12 [dN n, dP p] (.ret (.tup [dN (sndN n p), dI (sndE n p)]))
  | deliver (n : Nt) (i : Int) : CS 18 [dN n, dI i] (.ret (.tup [dP (dlvP n i), dN (lseN n i), dI (atE n i)]))
  | rdeliver (n : Nt) (i : Int) : CS 22 [dN n, dI i] (.ret (.tup [dP (dlvP n i), dN (lseN n i), dI (atE n i)]))
  | lose (n : Nt) (i : Int) : CS 23 [dN n, dI i] (.ret (.tup [dN (lseN n i), dI (atE n i)]))
  | rlose (n : Nt) (i : Int) : CS 24 [dN n, dI i] (.ret (.tup [dN (lseN n i), dI (atE n i)]))
  | repeat' (n : Nt) (i : Int) : CS 25 [dN n, dI i] (.ret (.tup [dN (repN n i), dI (repE n i)]))
  | rrepeat (n : Nt) (i : Int) : CS 26 [dN n, dI i] (.ret (.tup [dN (repN n i), dI (repE n i)]))
  | cut (n : Nt) (a b : Int) (on : Bool) : CS 20 [dN n, dI a, dI b, dB on] (.ret (.tup [dN (cutN n a b on), dI (cutE n a b)]))
  | rcut (n : Nt) (a b : Int) (on : Bool) : CS 21 [dN n, dI a, dI b, dB on] (.ret (.tup [dN (cutN n a b on), dI (cutE n a b)]))
  | weak {f : FuncId} {ds ds' : List D} {out : Out} (h : CS f ds out) (hle : All2 LeD ds' ds) : CS f ds' out
theorem pweak {P : Program} {f : FuncId} {ds ds' : List D} {out : Out} (h : PCall P f ds out) (hle : All2 LeD ds' ds) : PCall P f ds' out := by
  refine ⟨h.1, fun I w vals hI hr => h.2 I w vals hI ⟨by rw [hr.1]; exact all2_len hle, fun k c v hk hv => ?_⟩⟩
  obtain ⟨x, hx, hle⟩ := all2_get hle hk
  exact hle I w v (hr.2 k x v hx hv)
theorem hCS : ∀ f ds out, CS f ds out → PCall Try.prog f ds out := by
  intro f ds out h
  induction h with
  | weak h hle ih => exact pweak ih hle
  | new1 => exact new1
  | new2 => exact new2
  | check n => exact check n
  | rcheck n => exact rcheck n
  | few n => exact few n
  | samePacket x y => exact samePacket x y
  | same x y => exact same x y
  | send n p => exact send n p
  | rsend n p => exact rsend n p
  | deliver n i => exact deliver n i
  | rdeliver n i => exact rdeliver n i
  | lose n i => exact lose n i
  | rlose n i => exact rlose n i
  | repeat' n i => exact repeat' n i
  | rrepeat n i => exact rrepeat n i
  | cut n a b on => exact cut n a b on
  | rcut n a b on => exact rcut n a b on
theorem nilP2 (a b : Int) : LeD (.agg [.lit (.int .i64 a), .lit (.int .i64 b), .nil 1]) (dP ⟨a, b, []⟩) := LeD.agg (.cons (LeD.refl _) (.cons (LeD.refl _) (.cons (LeD.nil' 1 1) .nil))) (by simp)
def p7 : Pk := ⟨1, 3, [7]⟩
theorem s1 : CS 18 [dN ⟨[], []⟩, dI 0] (.ret (.tup [dP zP, dN zN, dI 1])) := by
  have := CS.deliver ⟨[], []⟩ 0
  rwa [show dlvP ⟨[], []⟩ 0 = zP by decide, show lseN ⟨[], []⟩ 0 = zN by decide, show atE ⟨[], []⟩ 0 = 1 by decide] at this
theorem s2 : CS 11 [dN ⟨[], []⟩, dP ⟨3, 3, []⟩] (.ret (.tup [dN zN, dI 60])) := by
  have := CS.send ⟨[], []⟩ ⟨3, 3, []⟩
  rwa [show sndN ⟨[], []⟩ ⟨3, 3, []⟩ = zN by decide, show sndE ⟨[], []⟩ ⟨3, 3, []⟩ = 60 by decide] at this
theorem s3 : CS 20 [dN ⟨[], []⟩, dI 2, dI 2, dB true] (.ret (.tup [dN zN, dI 1])) := by
  have := CS.cut ⟨[], []⟩ 2 2 true
  rwa [show cutN ⟨[], []⟩ 2 2 true = zN by decide, show cutE ⟨[], []⟩ 2 2 = 1 by decide] at this
theorem s4 : CS 11 [dN ⟨[], []⟩, dP p7] (.ret (.tup [dN ⟨[p7], []⟩, dI 0])) := by
  have := CS.send ⟨[], []⟩ p7
  rwa [show sndN ⟨[], []⟩ p7 = ⟨[p7], []⟩ by decide, show sndE ⟨[], []⟩ p7 = 0 by decide] at this
theorem s5 : CS 25 [dN ⟨[p7], []⟩, dI 0] (.ret (.tup [dN ⟨[p7, p7], []⟩, dI 0])) := by
  have := CS.repeat' ⟨[p7], []⟩ 0
  rwa [show repN ⟨[p7], []⟩ 0 = ⟨[p7, p7], []⟩ by decide, show repE ⟨[p7], []⟩ 0 = 0 by decide] at this
set_option maxRecDepth 20000 in
theorem s6 : CS 20 [dN ⟨[p7, p7], []⟩, dI 3, dI 1, dB true] (.ret (.tup [dN ⟨[p7, p7], [(1, 3)]⟩, dI 0])) := by
  have := CS.cut ⟨[p7, p7], []⟩ 3 1 true
  rwa [show cutN ⟨[p7, p7], []⟩ 3 1 true = ⟨[p7, p7], [(1, 3)]⟩ by decide, show cutE ⟨[p7, p7], []⟩ 3 1 = 0 by decide] at this
theorem s7 : CS 18 [dN ⟨[p7, p7], []⟩, dI 0] (.ret (.tup [dP p7, dN ⟨[p7], []⟩, dI 0])) := by
  have := CS.deliver ⟨[p7, p7], []⟩ 0
  rwa [show dlvP ⟨[p7, p7], []⟩ 0 = p7 by decide, show lseN ⟨[p7, p7], []⟩ 0 = ⟨[p7], []⟩ by decide, show atE ⟨[p7, p7], []⟩ 0 = 0 by decide] at this
theorem s8 : CS 18 [dN ⟨[p7, p7], [(1, 3)]⟩, dI 1] (.ret (.tup [dP zP, dN ⟨[p7], [(1, 3)]⟩, dI 0])) := by
  have := CS.deliver ⟨[p7, p7], [(1, 3)]⟩ 1
  rwa [show dlvP ⟨[p7, p7], [(1, 3)]⟩ 1 = zP by decide, show lseN ⟨[p7, p7], [(1, 3)]⟩ 1 = ⟨[p7], [(1, 3)]⟩ by decide, show atE ⟨[p7, p7], [(1, 3)]⟩ 1 = 0 by decide] at this
theorem s9 : CS 13 [dN ⟨[], []⟩] (.ret (dI 0)) := by
  have := CS.check ⟨[], []⟩
  rwa [show eNet ⟨[], []⟩ = 0 by decide] at this
theorem s10 : CS 19 [dP p7, dP p7] (.ret (dB true)) := by
  have := CS.samePacket p7 p7
  simpa using this
theorem s11 : CS 19 [dP zP, dP zP] (.ret (dB true)) := by
  have := CS.samePacket zP zP
  simpa using this
theorem s12 : CS 15 [dN ⟨[p7], []⟩, dN ⟨[p7], []⟩] (.ret (dB true)) := by
  have := CS.same ⟨[p7], []⟩ ⟨[p7], []⟩
  simpa using this
attribute [local simp] dN dP dL dU p7 zP zN
set_option maxRecDepth 8000 in
set_option maxHeartbeats 4000000 in
theorem sane : PCall Try.prog 9 [] (.ret (dB true)) := by
  refine pcall_of_vc hCS c9 (by simp [a9]) fun hr => ?_
  simp [a9]
  refine vc_path [.ret (dN ⟨[], []⟩)] ?_
  simp
  refine ⟨.new1, vc_path [.ret (.tup [dP zP, dN zN, dI 1])] ?_⟩
  simp
  refine ⟨s1, vc_path [.ret (.tup [dN zN, dI 60])] ?_⟩
  simp
  refine ⟨.weak s2 (.cons (LeD.refl _) (.cons (nilP2 3 3) .nil)), vc_path [.ret (.tup [dN zN, dI 1])] ?_⟩
  simp
  refine ⟨s3, vc_path [.ret (.tup [dN ⟨[p7], []⟩, dI 0])] ?_⟩
  simp
  refine ⟨s4, vc_path [.ret (.tup [dN ⟨[p7, p7], []⟩, dI 0])] ?_⟩
  simp
  refine ⟨s5, vc_path [.ret (.tup [dN ⟨[p7, p7], [(1, 3)]⟩, dI 0])] ?_⟩
  simp
  refine ⟨s6, vc_path [.ret (.tup [dP p7, dN ⟨[p7], []⟩, dI 0])] ?_⟩
  simp
  refine ⟨s7, vc_path [.ret (.tup [dP zP, dN ⟨[p7], [(1, 3)]⟩, dI 0])] ?_⟩
  simp
  refine ⟨s8, vc_calls [.ret (dI 0), .ret (dB true), .ret (dB true), .ret (dB true)] ?_⟩
  simp
  exact ⟨s9, s10, .weak s11 (.cons (LeD.refl _) (.cons (nilP2 0 0) .nil)), s12⟩
end Go.Proofs.Ytbfjmachkbhfnaa
end

section
namespace Go.Proofs.Ytbfjmachkbhfnaa
open Go Go.Proofs.Ytbfjmachkbhfnaa.AL
attribute [local simp] dP_cells dP_agg dP_noTup dL_cells dL_agg dL_noTup dN_cells dN_agg dN_noTup
inductive CLaw : FuncId → List D → Out → Prop
  | cs {f : FuncId} {ds : List D} {out : Out} (h : CS f ds out) : CLaw f ds out
  | sane : CLaw 9 [] (.ret (dB true))
theorem hLaw : ∀ f ds out, CLaw f ds out → PCall Try.prog f ds out := by
  intro f ds out h
  cases h with
  | cs h => exact hCS _ _ _ h
  | sane => exact sane
theorem same_t (x : Nt) : CS 15 [dN x, dN x] (.ret (dB true)) := by
  have := CS.same x x
  simpa using this
set_option maxRecDepth 8000 in
set_option maxHeartbeats 4000000 in
theorem spec (n : Nt) (p : Pk) : PCall Try.prog 3 [dN n, dP p] (.ret (dB true)) := by
  refine pcall_of_vc hLaw c3 (by simp [a3]) fun hr => ?_
  simp [a3]
  refine vc_path [.ret (dB true)] ?_
  simp
  refine ⟨.sane, vc_path [.ret (dB (decide ((n.q.length : Int) ≤ 40) && decide ((n.c.length : Int) ≤ 40)))] ?_⟩
  simp
  refine ⟨.cs (.few n), fun h1 h2 => vc_path [.ret (.tup [dN (sndN n p), dI (sndE n p)])] ?_⟩
  simp
  refine ⟨.cs (.send n p), vc_path [.ret (.tup [dN (sndN n p), dI (sndE n p)])] ?_⟩
  simp
  refine ⟨.cs (.rsend n p), vc_pathD [.ret (dI (eNet n)), .ret (dI (eNet n)), .ret (dB true), .ret (dN ⟨[], []⟩), .ret (dN ⟨[], []⟩), .ret (dB true)] ?_⟩
  simp
  exact ⟨.cs (.check n), .cs (.rcheck n), .cs (same_t (sndN n p)), .cs .new1, .cs .new2, .cs (same_t ⟨[], []⟩), rfl⟩
end Go.Proofs.Ytbfjmachkbhfnaa
end

section
namespace Go.Proofs.Ytbfjmachkbhfnaa
open Go Go.Proofs.Ytbfjmachkbhfnaa.AL
/-! Plain laws. -/
theorem okNt_iff {n : Nt} : okNt n = true ↔ n.q.length ≤ 4096 ∧ (∀ x ∈ n.q, okP x = true) ∧ okC n.c = true := by
  simp only [okNt, Bool.and_eq_true, decide_eq_true_eq, List.all_eq_true]
  constructor
  · rintro ⟨h1, h2, h3⟩; exact ⟨by omega, h2, h3⟩
  · rintro ⟨h1, h2, h3⟩; exact ⟨by omega, h2, h3⟩
theorem atE_in {n : Nt} {i : Nat} (h : okNt n = true) (hi : i < n.q.length) : atE n i = 0 := by
  have : inQ n i = true := inQ_iff.2 ⟨by omega, by omega⟩
  simp [atE, h, this]
theorem atP_in {n : Nt} {i : Nat} (h : okNt n = true) (hi : i < n.q.length) : atP n i = n.q[i] := by
  simp [atP, atE_in h hi, hi]
theorem ok_wo {n : Nt} {i : Nat} (h : okNt n = true) : okNt (wo n i) = true := by
  obtain ⟨h1, h2, h3⟩ := okNt_iff.1 h
  refine okNt_iff.2 ⟨?_, fun x hx => ?_, h3⟩
  · simp [wo]; omega
  · simp [wo] at hx
    rcases hx with hx | hx
    · exact h2 x (List.mem_of_mem_take hx)
    · exact h2 x (List.mem_of_mem_drop hx)
theorem ok_snd {n : Nt} {p : Pk} (h : okNt n = true) (hp : okP p = true) (hl : n.q.length < 4096) : sndN n p = ⟨n.q ++ [p], n.c⟩ ∧ sndE n p = 0 ∧ okNt ⟨n.q ++ [p], n.c⟩ = true := by
  refine ⟨?_, ?_, ?_⟩
  · rw [sndN, if_pos ⟨h, hp, by omega⟩]
  · rw [sndE, if_pos ⟨h, hp⟩, if_neg (by omega)]
  · obtain ⟨h1, h2, h3⟩ := okNt_iff.1 h
    refine okNt_iff.2 ⟨by simp; omega, fun x hx => ?_, h3⟩
    simp at hx
    rcases hx with hx | rfl
    · exact h2 x hx
    · exact hp
theorem wo_app {n : Nt} {i : Nat} {p : Pk} (hi : i < n.q.length) : wo ⟨n.q ++ [p], n.c⟩ i = ⟨(wo n i).q ++ [p], n.c⟩ := by
  simp [wo, List.take_append_of_le_length (Nat.le_of_lt hi), List.drop_append_of_le_length (show i + 1 ≤ n.q.length by omega)]
/-- Sent, repeated, lost. -/
theorem lost_law {n : Nt} {i : Nat} (h : okNt n = true) (hi : i < n.q.length) (hl : n.q.length ≤ 40) :
    atE n i = 0 ∧ lseN n i = wo n i ∧ repE n i = 0 ∧ repN n i = ⟨n.q ++ [n.q[i]], n.c⟩ ∧ atE ⟨n.q ++ [n.q[i]], n.c⟩ i = 0 ∧
    lseN ⟨n.q ++ [n.q[i]], n.c⟩ i = ⟨(wo n i).q ++ [n.q[i]], n.c⟩ ∧ sndE (wo n i) n.q[i] = 0 ∧ sndN (wo n i) n.q[i] = ⟨(wo n i).q ++ [n.q[i]], n.c⟩ := by
  have e1 := atE_in h hi
  have hp : okP n.q[i] = true := (okNt_iff.1 h).2.1 _ (List.getElem_mem hi)
  obtain ⟨s1, s2, s3⟩ := ok_snd h hp (by omega)
  have e2 : atE ⟨n.q ++ [n.q[i]], n.c⟩ i = 0 := atE_in s3 (by simp; omega)
  obtain ⟨t1, t2, t3⟩ := ok_snd (ok_wo (i := i) h) hp (by simp [wo]; omega)
  refine ⟨e1, by simp [lseN, e1], by simp [repE, e1, atP_in h hi, s2], by simp [repN, e1, atP_in h hi, s1], e2, by simp [lseN, e2, wo_app hi], t2, t1⟩
end Go.Proofs.Ytbfjmachkbhfnaa
end

section
namespace Go.Proofs.Ytbfjmachkbhfnaa
open Go Go.Proofs.Ytbfjmachkbhfnaa.AL
attribute [local simp] dP_cells dP_agg dP_noTup dL_cells dL_agg dL_noTup dN_cells dN_agg dN_noTup
theorem wrapu {n : Int} (h : 0 ≤ n ∧ n ≤ 18446744073709551615) : IntKind.u64.wrap n = n := by
  simp [IntKind.wrap, IntKind.bits, IntKind.signed]; omega
set_option maxRecDepth 8000 in
set_option maxHeartbeats 4000000 in
theorem lost (n : Nt) (k : Nat) : PCall Try.prog 8 [dN n, .lit (.int .u64 (k : Int))] (.ret (dB true)) := by
  refine pcall_of_vc hLaw c8 (by simp [a8]) fun hr => ?_
  simp [a8]
  refine vc_path [.ret (dB true)] ?_
  simp
  refine ⟨.sane, vc_path [.ret (dB (decide ((n.q.length : Int) ≤ 40) && decide ((n.c.length : Int) ≤ 40))), .ret (dI (eNet n))] ?_⟩
  simp
  refine ⟨.cs (.few n), fun h1 h2 => ⟨.cs (.check n), fun h3 hq => ?_⟩⟩
  have h0 := eNet_ne.1 h3
  have hpos : 0 < n.q.length := List.length_pos_iff.2 hq
  have hw : IntKind.u64.wrap (n.q.length : Int) = n.q.length := wrapu (by omega)
  obtain ⟨i, hi, he⟩ : ∃ i : Nat, i < n.q.length ∧ IntKind.i64.wrap (Int.tmod (k : Int) (n.q.length : Int)) = (i : Int) := by
    have hlt := Nat.mod_lt k hpos
    refine ⟨k % n.q.length, hlt, ?_⟩
    rw [← Int.ofNat_tmod, wrap64 (by omega)]
  obtain ⟨l1, l2, l3, l4, l5, l6, l7, l8⟩ := lost_law h0 hi (by omega)
  simp only [hw, he]
  refine ⟨by omega, vc_path [.ret (.tup [dP (dlvP n i), dN (wo n i), dI 0])] ?_⟩
  simp
  refine ⟨.cs (by have := CS.deliver n i; rwa [l2, l1] at this), vc_path [.ret (.tup [dN (wo n i), dI 0])] ?_⟩
  simp
  refine ⟨.cs (by have := CS.lose n i; rwa [l2, l1] at this), vc_path [.ret (.tup [dN ⟨n.q ++ [n.q[i]], n.c⟩, dI 0])] ?_⟩
  simp
  refine ⟨.cs (by have := CS.repeat' n i; rwa [l3, l4] at this), vc_path [.ret (.tup [dN ⟨(wo n i).q ++ [n.q[i]], n.c⟩, dI 0])] ?_⟩
  simp
  refine ⟨.cs (by have c := CS.lose ⟨n.q ++ [n.q[i]], n.c⟩ i; rw [l6, l5] at c; simpa only [dI, dN_eq, List.map_append, List.map_cons, List.map_nil] using c), vc_pathD [.ret (.tup [dN ⟨(wo n i).q ++ [n.q[i]], n.c⟩, dI 0])] ?_⟩
  simp [hi]
  refine ⟨.cs (by have c := CS.send (wo n i) n.q[i]; rw [l7, l8] at c; exact c), rfl, vc_path [.ret (dB true), .ret (dB true)] ?_⟩
  simp
  refine ⟨.cs (same_t (wo n i)), .cs (by have c := same_t ⟨(wo n i).q ++ [n.q[i]], n.c⟩; simpa only [dB, dN_eq, List.map_append, List.map_cons, List.map_nil] using c), leD_of_eq ?_⟩
  rw [wrap64 (by omega)]
  simp
end Go.Proofs.Ytbfjmachkbhfnaa
end

section
namespace Go.Proofs.Ytbfjmachkbhfnaa
open Go Go.Proofs.Ytbfjmachkbhfnaa.AL
noncomputable def fsOf (t : TypeId) : Array Field := match Try.prog.underlying t with
  | some (.struct fs) => fs
  | _ => #[]
noncomputable def fld (t : TypeId) (i : Nat) : Field := (fsOf t).getD i ⟨ "", 0, 0, false, "", "", 0⟩
theorem u25 : Try.prog.underlying 25 = some (.struct #[fld 25 0, fld 25 1]) := by kernel_rfl
theorem u28 : Try.prog.underlying 28 = some (.struct #[fld 28 0, fld 28 1, fld 28 2]) := by kernel_rfl
section
variable {H : Type} {enc : TypeId × Value → H} {w : World}
theorem u3 : Try.prog.underlying 3 = some (.int .i64) := by kernel_rfl
theorem u5 : Try.prog.underlying 5 = some (.int .u8) := by kernel_rfl
theorem u26 : Try.prog.underlying 26 = some (.slice 5) := by kernel_rfl
theorem u22 : Try.prog.underlying 22 = some (.slice 28) := by kernel_rfl
theorem u23 : Try.prog.underlying 23 = some (.slice 55) := by kernel_rfl
theorem u55 : Try.prog.underlying 55 = some (.array 2 3) := by kernel_rfl
theorem c3' : Try.prog.cellsOf 3 = 1 := by kernel_rfl
theorem c5' : Try.prog.cellsOf 5 = 1 := by kernel_rfl
theorem c55' : Try.prog.cellsOf 55 = 2 := by kernel_rfl
theorem c28' : Try.prog.cellsOf 28 = 3 := by kernel_rfl
theorem sh3 : Shows enc Try.prog w 3 dI := shows_int u3
theorem sh26 : Shows enc Try.prog w 26 (fun l : List UInt8 => .sl 1 (l.map dU)) := shows_slice u26 c5' (fun _ => rfl) (fun y c hc => by simp [dU, D.cells] at hc; subst hc; rfl) (shows_u8 u5)
theorem sh55 : Shows enc Try.prog w 55 dL := shows_map (shows_array2 u55 (by rw [c55', c3']) sh3) (fun y => ⟨(y.1, y.2), rfl⟩)
theorem sh23 : Shows enc Try.prog w 23 (fun l : List (Int × Int) => .sl 2 (l.map dL)) := shows_slice u23 c55' (fun _ => rfl) (fun y c hc => by simp [dL, D.cells] at hc; rcases hc with rfl | rfl <;> rfl) sh55
theorem c22' : Try.prog.cellsOf 22 = 1 := by kernel_rfl
theorem c23' : Try.prog.cellsOf 23 = 1 := by kernel_rfl
theorem c25' : Try.prog.cellsOf 25 = 2 := by kernel_rfl
theorem c26' : Try.prog.cellsOf 26 = 1 := by kernel_rfl
theorem sh28 : Shows enc Try.prog w 28 dP := shows_map (shows_struct3 u28 (t0 := 3) (t1 := 3) (t2 := 26) (by kernel_rfl) (by kernel_rfl) (by kernel_rfl) (by kernel_rfl) (by rw [c3']; kernel_rfl) (by rw [c3']; kernel_rfl) (by rw [c28', c3', c26']) sh3 sh3 sh26) (fun y => ⟨⟨y.1, y.2.1, y.2.2⟩, rfl⟩)
theorem sh22 : Shows enc Try.prog w 22 (fun l : List Pk => .sl 3 (l.map dP)) := shows_slice u22 c28' (fun _ => rfl) (fun y c hc => by simp [dP, D.cells] at hc; rcases hc with rfl | rfl | rfl <;> rfl) sh28
theorem sh25 : Shows enc Try.prog w 25 dN := shows_map (shows_struct2 u25 (t0 := 22) (t1 := 23) (by kernel_rfl) (by kernel_rfl) (by kernel_rfl) (by rw [c22']; kernel_rfl) (by rw [c25', c22', c23']) sh22 sh23) (fun y => ⟨⟨y.1, y.2⟩, rfl⟩)
end
end Go.Proofs.Ytbfjmachkbhfnaa
end

section
namespace Go.Proofs.Ytbfjmachkbhfnaa
open Go Go.Proofs.Ytbfjmachkbhfnaa.AL Go.ChangeShapes Go.WideShapes Go.RowKit
theorem own : ownKnob Try.prog.godebug = none := by kernel_rfl
theorem laidOut : laidOutB Try.prog = true := by kernel_rfl
theorem below_of_grow {w w' : World} (h : Grow w w') : Below w.heap.size w w' := ⟨h.os, h.tape, h.output, h.size, h.block⟩
theorem params3 : Try.f3.params.toList = [25, 28] := by kernel_rfl
theorem results3 : Try.f3.resultTypes.toList = [4] := by kernel_rfl
theorem u4 : Try.prog.underlying 4 = some .bool := by kernel_rfl
/-- A value that is read as a struct is a struct of cells. -/
theorem agg_of {W : World} {base : Nat} {t : TypeId} {fs : Array Field} {v : Value} (ht : Try.prog.underlying t = some (.struct fs)) (h : Value.okWide Try.prog W .any base t v) : ∃ cs, v = .agg cs := by
  unfold Value.okWide at h
  rw [ht] at h
  obtain ⟨cs, e, _⟩ := h
  exact ⟨cs, e⟩
theorem rep_of_cells {I : Addr → Prop} {w : World} {ds : List D} {cs : Array Value} (h1 : ∀ c ∈ ds, c.one = true) (h : RepL I w ds (Value.agg cs).cells.toList.toArray) : Rep I w (.agg ds) (.agg cs) := by
  have h' : RepL I w ds cs := by simpa [Value.cells] using h
  exact .agg h'.1 h1 h'.2
theorem one_N (n : Nt) : ∀ c ∈ (dN n).cells, c.one = true := by
  intro c hc
  simp [dN, D.cells] at hc
  rcases hc with rfl | rfl <;> rfl
theorem one_P (n : Pk) : ∀ c ∈ (dP n).cells, c.one = true := by
  intro c hc
  simp [dP, D.cells] at hc
  rcases hc with rfl | rfl | rfl <;> rfl
set_option maxRecDepth 100000 in
theorem spec_lifted (os : Os) (started : os.Started) (H : Type) (enc : TypeId × Value → H) :
    ReturnsInHanded {} Try.checked os 3 .any (Rows.networkSpecSpec.pre6 enc Try.prog Try.f3 Rows.networkSpecRow.domain false) (Rows.networkSpecSpec.post enc Try.prog Try.f3 false true false false) := by
  refine returnsInHanded_of_change (C := Try.checked) own started (by kernel_rfl) Try.func3
    (ChangeSpec.witness6 (enc := enc) (C := Try.checked) false ⟨#[], #[.agg #[.slice none 0 0, .slice none 0 0], .agg #[.int .i64 0, .int .i64 0, .slice none 0 0]], []⟩ 8 (by kernel_rfl) (by kernel_rfl) (by kernel_rfl) (by kernel_rfl)) ?_
  intro W base args ds gs before hval0 hW _ _
  have hW' := hW
  obtain ⟨p, q, hA0, hV, rfl, _, _⟩ := hW
  have hA : DataW.TrodAll enc Try.prog W 0 (fun _ => true) true [25, 28] args.toList ds p := by rw [← params3]; exact hA0
  obtain ⟨v0, v1, d0, d1, p0, p1, rfl, rfl, rfl, h0, h1⟩ := trodAll_two hA
  obtain ⟨rfl, rfl⟩ := trodVars_none hV
  simp only [List.append_nil] at hW'
  have hlt : ∀ x ∈ p0 ++ p1, x.block < W.heap.size := fun x hx => hW'.lt x hx
  obtain ⟨c0, rfl⟩ := agg_of u25 (hval0 0 25 v0 (by kernel_rfl) rfl)
  obtain ⟨c1, rfl⟩ := agg_of u28 (hval0 1 28 v1 (by kernel_rfl) rfl)
  obtain ⟨k0, t0⟩ := h0
  obtain ⟨k1, t1⟩ := h1
  obtain ⟨n, hn⟩ := sh25 _ _ _ t0
  obtain ⟨x, hx⟩ := sh28 _ _ _ t1
  refine ((spec n x).2 (allI W) W #[.agg c0, .agg c1] (fun a h => h) ⟨rfl, fun k c v hk hv => ?_⟩).mono fun e W' hR => ?_
  · match k with
    | 0 => simp at hk hv; subst hk; subst hv; exact rep_of_cells (one_N n) hn
    | 1 => simp at hk hv; subst hk; subst hv; exact rep_of_cells (one_P x) hx
    | k + 2 => simp at hk
  · obtain ⟨I', v, _, _, _, hg, he, hv⟩ := hR
    have hb := below_of_grow hg
    have hvb : v = .bool true := by
      cases hv; rfl
    subst hvb
    refine ⟨_, he, ⟨_, _, _, [], p0 ++ p1, [], hW', ?_, ?_, rfl, hb.frame _, fun h => by cases h⟩⟩
    · exact trodAll_mk1 (shut_bool u4 true)
    · exact trodAll_mk2 (Below.trod laidOut (by kernel_rfl) (of_decide_eq_true (by kernel_rfl)) ⟨k0, t0⟩ hb (fun y hy => hlt y (by simp [hy]))) (Below.trod laidOut (by kernel_rfl) (of_decide_eq_true (by kernel_rfl)) ⟨k1, t1⟩ hb (fun y hy => hlt y (by simp [hy])))
theorem network_spec_holds : Rows.NetworkSpecSaid :=
  OpenClaim.holds_of_wide 3 Try.f3 rfl rfl rfl rfl rfl rfl rfl ⟨rfl, rfl, rfl, rfl, rfl⟩ rfl rfl rfl rfl rfl (by kernel_rfl) Try.func3 (by kernel_rfl)
    (of_decide_eq_true (by kernel_rfl)) (by unfold Func.isWrapper; rw [if_neg (by decide +kernel)]; exact ⟨rfl, rfl⟩)
    (fun os started H enc _ => spec_lifted os started H enc)
end Go.Proofs.Ytbfjmachkbhfnaa
end

section
namespace Go.Proofs.Ytbfjmachkbhfnaa
open Go Go.Proofs.Ytbfjmachkbhfnaa.AL Go.ChangeShapes Go.WideShapes Go.RowKit
theorem params8 : Try.f8.params.toList = [25, 42] := by kernel_rfl
theorem u42 : Try.prog.underlying 42 = some (.int .u64) := by kernel_rfl
set_option maxRecDepth 100000 in
theorem lost_lifted (os : Os) (started : os.Started) (H : Type) (enc : TypeId × Value → H) :
    ReturnsInHanded {} Try.checked os 8 .any (Rows.networkLostSpec.pre6 enc Try.prog Try.f8 Rows.networkLostRow.domain false) (Rows.networkLostSpec.post enc Try.prog Try.f8 false true false false) := by
  refine returnsInHanded_of_change (C := Try.checked) own started (by kernel_rfl) Try.func8
    (ChangeSpec.witness6 (enc := enc) (C := Try.checked) false ⟨#[], #[.agg #[.slice none 0 0, .slice none 0 0], .int .u64 0], []⟩ 8 (by kernel_rfl) (by kernel_rfl) (by kernel_rfl) (by kernel_rfl)) ?_
  intro W base args ds gs before hval0 hW _ _
  have hW' := hW
  obtain ⟨p, q, hA0, hV, rfl, _, _⟩ := hW
  have hA : DataW.TrodAll enc Try.prog W 0 (fun _ => true) true [25, 42] args.toList ds p := by rw [← params8]; exact hA0
  obtain ⟨v0, v1, d0, d1, p0, p1, rfl, rfl, rfl, h0, h1⟩ := trodAll_two hA
  obtain ⟨rfl, rfl⟩ := trodVars_none hV
  simp only [List.append_nil] at hW'
  have hlt : ∀ x ∈ p0 ++ p1, x.block < W.heap.size := fun x hx => hW'.lt x hx
  obtain ⟨c0, rfl⟩ := agg_of u25 (hval0 0 25 v0 (by kernel_rfl) rfl)
  obtain ⟨k0, t0⟩ := h0
  obtain ⟨k1, t1⟩ := h1
  obtain ⟨n, hn⟩ := sh25 _ _ _ t0
  obtain ⟨z, rfl, _, _, hwf⟩ := open_int u42 (hval0 1 42 v1 (by kernel_rfl) rfl) ⟨k1, t1⟩
  have hw : 0 ≤ z ∧ z ≤ 18446744073709551615 := by simpa [Lit.wf, IntKind.min, IntKind.max, IntKind.signed, IntKind.bits] using hwf
  obtain ⟨x, rfl⟩ := Int.eq_ofNat_of_zero_le hw.1
  refine ((lost n x).2 (allI W) W #[.agg c0, .int .u64 (x : Int)] (fun a h => h) ⟨rfl, fun k c v hk hv => ?_⟩).mono fun e W' hR => ?_
  · match k with
    | 0 => simp at hk hv; subst hk; subst hv; exact rep_of_cells (one_N n) hn
    | 1 => simp at hk hv; subst hk; subst hv; exact .lit (by simpa [Sc, Lit.wf] using hwf)
    | k + 2 => simp at hk
  · obtain ⟨I', v, _, _, _, hg, he, hv⟩ := hR
    have hb := below_of_grow hg
    have hvb : v = .bool true := by
      cases hv; rfl
    subst hvb
    refine ⟨_, he, ⟨_, _, _, [], p0 ++ p1, [], hW', ?_, ?_, rfl, hb.frame _, fun h => by cases h⟩⟩
    · exact trodAll_mk1 (shut_bool u4 true)
    · exact trodAll_mk2 (Below.trod laidOut (by kernel_rfl) (of_decide_eq_true (by kernel_rfl)) ⟨k0, t0⟩ hb (fun y hy => hlt y (by simp [hy]))) (Below.trod laidOut (by kernel_rfl) (of_decide_eq_true (by kernel_rfl)) ⟨k1, t1⟩ hb (fun y hy => hlt y (by simp [hy])))
theorem network_lost_holds : Rows.NetworkLostSaid :=
  OpenClaim.holds_of_wide 8 Try.f8 rfl rfl rfl rfl rfl rfl rfl ⟨rfl, rfl, rfl, rfl, rfl⟩ rfl rfl rfl rfl rfl (by kernel_rfl) Try.func8 (by kernel_rfl)
    (of_decide_eq_true (by kernel_rfl)) (by unfold Func.isWrapper; rw [if_neg (by decide +kernel)]; exact ⟨rfl, rfl⟩)
    (fun os started H enc _ => lost_lifted os started H enc)
end Go.Proofs.Ytbfjmachkbhfnaa
end

section
namespace Go.Proofs.Ytbfjmachkbhfnaa
open Go Go.Proofs.Ytbfjmachkbhfnaa.AL
/-! Plain laws of cuts. -/
def ltL (x y : Int × Int) : Prop := x.1 < y.1 ∨ x.1 = y.1 ∧ x.2 < y.2
instance (x y : Int × Int) : Decidable (ltL x y) := inferInstanceAs (Decidable (_ ∨ _))
def allL : List (Int × Int) := tot (fun _ => true) 24
set_option maxRecDepth 100000 in
theorem allL_sorted : allL.Pairwise ltL := by decide +kernel
theorem row_filter (p : Int × Int → Bool) (a k : Nat) : row p a k = (row (fun _ => true) a k).filter p := by
  unfold row
  simp
theorem tot_filter (p : Int × Int → Bool) : ∀ a, tot p a = (tot (fun _ => true) a).filter p
  | 0 => rfl
  | a + 1 => by rw [tot_succ, tot_succ, List.filter_append, ← tot_filter p a, ← row_filter]
theorem tot24 (p : Int × Int → Bool) : tot p 24 = allL.filter p := tot_filter p 24
theorem mem_allL {x : Int × Int} : x ∈ allL ↔ cValid x.1 x.2 = true := by
  unfold allL tot row
  simp only [List.mem_flatMap, List.mem_filter, List.mem_map, List.mem_range, List.mem_range', cValid, Bool.and_eq_true, decide_eq_true_eq]
  constructor
  · rintro ⟨a, ha, ⟨b, ⟨i, hi, rfl⟩, rfl⟩, _⟩
    simp; omega
  · rintro ⟨⟨h1, h2⟩, h3⟩
    obtain ⟨a, ha⟩ := Int.eq_ofNat_of_zero_le h1
    obtain ⟨b, hb⟩ := Int.eq_ofNat_of_zero_le (show 0 ≤ x.2 by omega)
    refine ⟨a, by omega, ⟨b, ⟨b - (a + 1), by omega, by omega⟩, ?_⟩, trivial⟩
    rw [← ha, ← hb]
theorem mem_tot {p : Int × Int → Bool} {x : Int × Int} : x ∈ tot p 24 ↔ cValid x.1 x.2 = true ∧ p x = true := by
  rw [tot24, List.mem_filter, mem_allL]
theorem tot_ext {p q : Int × Int → Bool} (h : ∀ x, cValid x.1 x.2 = true → p x = q x) : tot p 24 = tot q 24 := by
  rw [tot24, tot24]
  exact List.filter_congr fun x hx => h x (mem_allL.1 hx)
theorem cmp2 {x y : Int × Int} : decide (cmpL [x.1, x.2] [y.1, y.2] < 0) = true ↔ ltL x y := by
  simp only [cmpL, decide_eq_true_eq, ltL]
  by_cases h1 : x.1 < y.1
  · simp [h1]
  · by_cases h2 : x.1 > y.1
    · simp [h1, h2]; omega
    · by_cases h3 : x.2 < y.2
      · simp [h1, h2, h3]; omega
      · by_cases h4 : x.2 > y.2
        · simp [h1, h2, h3, h4]
        · simp [h1, h2, h3, h4]
theorem okC_of {c : List (Int × Int)} (h1 : ∀ x ∈ c, cValid x.1 x.2 = true) (h2 : c.Pairwise ltL) : okC c = true := by
  rw [okC, List.all_eq_true]
  intro i hi
  simp only [List.mem_range] at hi
  have e1 : c.getD i default = c[i] := by simp [hi]
  simp only [cAt, e1, Bool.and_eq_true, Bool.or_eq_true, beq_iff_eq]
  refine ⟨h1 _ (List.getElem_mem hi), ?_⟩
  cases i with
  | zero => exact .inl rfl
  | succ i =>
    have hi' : i < c.length := by omega
    have e2 : c.getD (i + 1 - 1) default = c[i] := by simp [hi']
    right
    rw [e2]
    exact cmp2.2 (List.pairwise_iff_getElem.1 h2 i (i + 1) hi' hi (by omega))
theorem okC_tot (p : Int × Int → Bool) : okC (tot p 24) = true :=
  okC_of (fun x hx => (mem_tot.1 hx).1) (by rw [tot24]; exact allL_sorted.filter p)
theorem lk_comm (a b : Int) : lk a b = lk b a := by
  unfold lk
  by_cases h1 : b < a <;> by_cases h2 : a < b <;> simp [h1, h2] <;> omega
theorem okL_comm (a b : Int) : okL a b = okL b a := by rw [okL, okL, lk_comm]
theorem filter_one {x : Int × Int} {p q : Int × Int → Bool} (hp : p x = true) (hq : q x = false) (he : ∀ y, y ≠ x → p y = q y) : ∀ {l : List (Int × Int)}, l.Nodup → x ∈ l → (l.filter p).length = (l.filter q).length + 1
  | [], _, h => by simp at h
  | y :: l, hn, h => by
    obtain ⟨h1, h2⟩ := List.nodup_cons.1 hn
    rcases List.mem_cons.1 h with rfl | h
    · have : l.filter p = l.filter q := List.filter_congr fun z hz => he z (fun e => h1 (e ▸ hz))
      simp [hp, hq, this]
    · have hne : y ≠ x := fun e => h1 (e ▸ h)
      have ih := filter_one hp hq he h2 h
      rw [List.filter_cons, List.filter_cons, he y hne]
      split <;> simp [ih]
theorem allL_nodup : allL.Nodup := allL_sorted.imp (fun {a b} h e => by subst e; unfold ltL at h; omega)
theorem ok_cut {n : Nt} (h : okNt n = true) (p : Int × Int → Bool) : okNt ⟨n.q, tot p 24⟩ = true := by
  obtain ⟨h1, h2, _⟩ := okNt_iff.1 h
  exact okNt_iff.2 ⟨h1, h2, okC_tot p⟩
theorem cutN_ok {n : Nt} {a b : Int} (h : okNt n = true) (hl : okL a b = true) (on : Bool) : cutN n a b on = ⟨n.q, tot (ctP n a b on) 24⟩ := by rw [cutN, if_pos ⟨h, hl⟩]
theorem cutE_ok {n : Nt} {a b : Int} (h : okNt n = true) (hl : okL a b = true) : cutE n a b = 0 := by rw [cutE, if_pos h, if_pos hl]
theorem okL_valid {a b : Int} (h : okL a b = true) : cValid (lk a b).1 (lk a b).2 = true := h
/-- Cut and mended. -/
theorem cuts_law {n : Nt} {a b : Int} (h : okNt n = true) (hl : okL a b = true) :
    okNt (cutN n a b true) = true ∧ okNt (cutN n a b false) = true ∧ cutN n b a true = cutN n a b true ∧ cutN (cutN n a b true) a b true = cutN n a b true ∧
    cutN (cutN n a b true) b a false = cutN n a b false ∧ (cutN n a b true).c.length = (cutN n a b false).c.length + 1 ∧ (∀ l, cValid l.1 l.2 = true → l ≠ lk a b → (l ∈ (cutN n a b true).c ↔ l ∈ (cutN n a b false).c)) ∧
    lk a b ∈ (cutN n a b true).c ∧ lk a b ∉ (cutN n a b false).c := by
  have hl' : okL b a = true := by rw [okL_comm]; exact hl
  have e1 := cutN_ok h hl true
  have e2 := cutN_ok h hl false
  have k1 : okNt (cutN n a b true) = true := by rw [e1]; exact ok_cut h _
  have k2 : okNt (cutN n a b false) = true := by rw [e2]; exact ok_cut h _
  refine ⟨k1, k2, ?_, ?_, ?_, ?_, ?_, ?_, ?_⟩
  · rw [cutN_ok h hl', e1]
    congr 1
    apply tot_ext; intro x _
    simp only [ctP, lk_comm a b]
  · rw [cutN_ok k1 hl, e1]
    congr 1
    apply tot_ext; intro x hx
    simp only [ctP]
    split
    · rfl
    · rename_i hne
      by_cases hm : x ∈ n.c <;> simp [mem_tot, hx, ctP, hne, hm]
  · rw [cutN_ok k1 hl', e2, e1]
    congr 1
    apply tot_ext; intro x hx
    simp only [ctP, lk_comm b a]
    split
    · rfl
    · rename_i hne
      by_cases hm : x ∈ n.c <;> simp [mem_tot, hx, ctP, hne, hm]
  · rw [e1, e2]
    simp only [tot24]
    refine filter_one (x := lk a b) (by simp [ctP]) (by simp [ctP]) (fun y hy => by simp [ctP, hy]) allL_nodup (mem_allL.2 hl)
  · intro l hv hne
    rw [e1, e2]
    simp [mem_tot, hv, ctP, hne]
  · rw [e1]; exact mem_tot.2 ⟨hl, by simp [ctP]⟩
  · rw [e2]; intro hm; have := (mem_tot.1 hm).2; simp [ctP] at this
/-- What is delivered after a cut, and after mending. -/
theorem cuts_dlv {n : Nt} {a b : Int} (h : okNt n = true) (hl : okL a b = true) {j : Nat} (hj : j < n.q.length) :
    atE (cutN n a b true) j = 0 ∧ atE (cutN n a b false) j = 0 ∧
    (((dlvP (cutN n a b false) j).a = a ∧ (dlvP (cutN n a b false) j).b = b ∨ (dlvP (cutN n a b false) j).a = b ∧ (dlvP (cutN n a b false) j).b = a) → dlvP (cutN n a b true) j = zP) ∧
    (¬ ((dlvP (cutN n a b false) j).a = a ∧ (dlvP (cutN n a b false) j).b = b ∨ (dlvP (cutN n a b false) j).a = b ∧ (dlvP (cutN n a b false) j).b = a) → dlvP (cutN n a b true) j = dlvP (cutN n a b false) j) := by
  obtain ⟨k1, k2, _, _, _, _, k3, k4, k5⟩ := cuts_law h hl
  have q1 : (cutN n a b true).q = n.q := by rw [cutN_ok h hl]
  have q2 : (cutN n a b false).q = n.q := by rw [cutN_ok h hl]
  have j1 : j < (cutN n a b true).q.length := by rw [q1]; exact hj
  have j2 : j < (cutN n a b false).q.length := by rw [q2]; exact hj
  have p1 : atP (cutN n a b true) j = n.q[j] := by rw [atP_in k1 j1]; simp [q1]
  have p2 : atP (cutN n a b false) j = n.q[j] := by rw [atP_in k2 j2]; simp [q2]
  have hok : okP n.q[j] = true := (okNt_iff.1 h).2.1 _ (List.getElem_mem hj)
  have hv : cValid (lk n.q[j].a n.q[j].b).1 (lk n.q[j].a n.q[j].b).2 = true := by
    unfold okP at hok
    simp only [Bool.and_eq_true] at hok
    have := hok.1
    unfold lk
    rwa [show (if n.q[j].a < n.q[j].b then n.q[j].b else n.q[j].a) = (if n.q[j].b > n.q[j].a then n.q[j].b else n.q[j].a) from rfl]
  have hab : a ≠ b := by
    intro e; subst e
    have := okL_valid hl
    simp [lk, cValid] at this
  have hlk : lk n.q[j].a n.q[j].b = lk a b ↔ (n.q[j].a = a ∧ n.q[j].b = b ∨ n.q[j].a = b ∧ n.q[j].b = a) := by
    have hne : n.q[j].a ≠ n.q[j].b := by
      intro e
      rw [e] at hv
      simp [lk, cValid] at hv
    unfold lk
    simp only [Prod.mk.injEq]
    by_cases c1 : n.q[j].b < n.q[j].a <;> by_cases c2 : n.q[j].a < n.q[j].b <;> by_cases c3 : b < a <;> by_cases c4 : a < b <;> simp only [c1, c2, c3, c4, if_true, if_false] <;> omega
  refine ⟨atE_in k1 j1, atE_in k2 j2, ?_, ?_⟩
  · simp only [dlvP, p1, p2]
    by_cases hm : lk n.q[j].a n.q[j].b = lk a b
    · rw [hm]; simp [k4]
    · have := k3 _ hv hm
      by_cases hm2 : lk n.q[j].a n.q[j].b ∈ (cutN n a b true).c
      · simp [hm2]
      · have hm3 := mt this.2 hm2
        simp only [hm2, hm3, if_false]
        intro hb
        exact absurd (hlk.2 hb) hm
  · simp only [dlvP, p1, p2]
    by_cases hm : lk n.q[j].a n.q[j].b = lk a b
    · rw [hm]; simp only [k5, if_false]
      intro hb; exact absurd (hlk.1 hm) hb
    · have := k3 _ hv hm
      by_cases hm2 : lk n.q[j].a n.q[j].b ∈ (cutN n a b true).c
      · simp [hm2, this.1 hm2]
      · simp [hm2, mt this.2 hm2]
end Go.Proofs.Ytbfjmachkbhfnaa
end

section
namespace Go.Proofs.Ytbfjmachkbhfnaa
open Go Go.Proofs.Ytbfjmachkbhfnaa.AL
attribute [local simp] dP_cells dP_agg dP_noTup dL_cells dL_agg dL_noTup dN_cells dN_agg dN_noTup
theorem samep_zP (x : Pk) : CS 19 [dP x, .agg [.lit (.int .i64 0), .lit (.int .i64 0), .nil 1]] (.ret (dB (decide (x = zP)))) :=
  .weak (.samePacket x zP) (.cons (LeD.refl _) (.cons (nilP rfl) .nil))
set_option maxRecDepth 8000 in
set_option maxHeartbeats 8000000 in
theorem cuts (n : Nt) (a b : Int) (k : Nat) : PCall Try.prog 5 [dN n, dI a, dI b, .lit (.int .u64 (k : Int))] (.ret (dB true)) := by
  refine pcall_of_vc hLaw c5 (by simp [a5]) fun hr => ?_
  simp [a5]
  refine vc_path [.ret (dB true)] ?_
  simp
  refine ⟨.sane, vc_path [.ret (dB (decide ((n.q.length : Int) ≤ 40) && decide ((n.c.length : Int) ≤ 40))), .ret (dI (eNet n))] ?_⟩
  simp
  refine ⟨.cs (.few n), fun h1 h2 => ⟨.cs (.check n), fun h3 => vc_path [.ret (.tup [dN (cutN n a b true), dI (cutE n a b)])] ?_⟩⟩
  have h0 := eNet_ne.1 h3
  simp
  refine ⟨.cs (.cut n a b true), fun h4 => ?_, fun h4 => ?_⟩
  · by_cases hl : okL a b = true
    · exact absurd (cutE_ok h0 hl) h4
    · exact leD_of_eq (by simp [cutE, h0, hl])
  have hl : okL a b = true := by
    by_cases hl : okL a b = true
    · exact hl
    · simp [cutE, h0, hl] at h4
  have hl' : okL b a = true := by rw [okL_comm]; exact hl
  obtain ⟨l1, l2, l3, l4, l5, l6, l7⟩ := cuts_law h0 hl
  refine vc_path [.ret (.tup [dN (cutN n a b true), dI 0])] ?_
  simp
  refine ⟨.cs (by have c := CS.cut n b a true; rwa [l3, cutE_ok h0 hl'] at c), vc_path [.ret (.tup [dN (cutN n a b true), dI 0])] ?_⟩
  simp
  refine ⟨.cs (by have c := CS.cut (cutN n a b true) a b true; rwa [l4, cutE_ok l1 hl] at c), vc_path [.ret (.tup [dN (cutN n a b false), dI 0])] ?_⟩
  simp
  refine ⟨.cs (by have c := CS.cut (cutN n a b true) b a false; rwa [l5, cutE_ok l1 hl'] at c), vc_path [.ret (.tup [dN (cutN n a b false), dI 0])] ?_⟩
  simp
  refine ⟨.cs (by have c := CS.cut n a b false; rwa [cutE_ok h0 hl] at c), vc_path [.ret (dB true), .ret (dB true), .ret (dB true)] ?_⟩
  simp
  have hlen : (cutN n a b false).c.length ≤ 276 := by
    rw [cutN_ok h0 hl, tot24]
    exact Nat.le_trans (List.length_filter_le _ _) (by decide +kernel)
  refine ⟨.cs (same_t _), .cs (same_t _), fun h => absurd (by rw [wrap64 (by omega)]; omega) h, fun _ hq => ?_⟩
  have hpos : 0 < n.q.length := List.length_pos_iff.2 hq
  have hw : IntKind.u64.wrap (n.q.length : Int) = n.q.length := wrapu (by omega)
  obtain ⟨i, hi, he⟩ : ∃ i : Nat, i < n.q.length ∧ IntKind.i64.wrap (Int.tmod (k : Int) (n.q.length : Int)) = (i : Int) := by
    have hlt := Nat.mod_lt k hpos
    refine ⟨k % n.q.length, hlt, ?_⟩
    rw [← Int.ofNat_tmod, wrap64 (by omega)]
  obtain ⟨d1, d2, d3, d4⟩ := cuts_dlv h0 hl hi
  simp only [hw, he]
  refine ⟨by omega, vc_path [.ret (.tup [dP (dlvP (cutN n a b true) i), dN (lseN (cutN n a b true) i), dI 0])] ?_⟩
  simp
  refine ⟨.cs (by have c := CS.deliver (cutN n a b true) i; rwa [d1] at c), vc_path [.ret (.tup [dP (dlvP (cutN n a b false) i), dN (lseN (cutN n a b false) i), dI 0])] ?_⟩
  simp
  refine ⟨.cs (by have c := CS.deliver (cutN n a b false) i; rwa [d2] at c), ?_⟩
  generalize dlvP (cutN n a b false) i = q at d3 d4 ⊢
  generalize dlvP (cutN n a b true) i = p at d3 d4 ⊢
  have hab : ¬ a = b := by
    intro e; subst e
    have := okL_valid hl
    simp [lk, cValid] at this
  have hT : p = zP → CLaw 19 [dP p, .agg [.lit (.int .i64 0), .lit (.int .i64 0), .nil 1]] (.ret (dB true)) := fun h => .cs (by have c := samep_zP p; simpa [h] using c)
  have hq0 : CLaw 19 [dP q, .agg [.lit (.int .i64 0), .lit (.int .i64 0), .nil 1]] (.ret (dB (decide (q = zP)))) := .cs (samep_zP q)
  have hpq : p = q → CLaw 19 [dP p, dP q] (.ret (dB true)) := fun h => .cs (by have c := CS.samePacket p q; simpa [h] using c)
  by_cases c1 : q.a = a
  · by_cases c2 : q.b = b
    · have hp := d3 (.inl ⟨c1, c2⟩)
      refine vc_path [] ?_
      simp [c1, c2]
      refine vc_path [.ret (dB true), .ret (dB true), .ret (dB true)] ?_
      simp
      exact hT hp
    · have hp := d4 (by rintro (h | h); exact c2 h.2; exact hab (by rw [← c1, h.1]))
      refine vc_path [] ?_
      simp [c1, c2, hab]
      refine vc_path [.ret (dB (decide (q = zP))), .ret (dB (decide (q = zP))), .ret (dB true)] ?_
      simp
      rw [← c1]
      obtain rfl := hp
      exact ⟨hq0, hq0, hpq rfl⟩
  · by_cases c3 : q.a = b
    · by_cases c4 : q.b = a
      · have hp := d3 (.inr ⟨c3, c4⟩)
        refine vc_path [] ?_
        simp [c1, c3, c4, Ne.symm hab]
        refine vc_path [.ret (dB true), .ret (dB true), .ret (dB true)] ?_
        simp
        exact hT hp
      · have hp := d4 (by rintro (h | h); exact c1 h.1; exact c4 h.2)
        refine vc_path [] ?_
        simp [c1, c3, c4, Ne.symm hab]
        refine vc_path [.ret (dB (decide (q = zP))), .ret (dB (decide (q = zP))), .ret (dB true)] ?_
        simp
        rw [← c3]
        obtain rfl := hp
        exact ⟨hq0, fun h => absurd h c4, fun _ => ⟨hq0, fun _ => hpq rfl⟩⟩
    · have hp := d4 (by rintro (h | h); exact c1 h.1; exact c3 h.1)
      refine vc_path [] ?_
      simp [c1, c3]
      refine vc_path [.ret (dB (decide (q = zP))), .ret (dB (decide (q = zP))), .ret (dB true)] ?_
      simp
      obtain rfl := hp
      exact ⟨hq0, hq0, hpq rfl⟩
end Go.Proofs.Ytbfjmachkbhfnaa
end

section
namespace Go.Proofs.Ytbfjmachkbhfnaa
open Go Go.Proofs.Ytbfjmachkbhfnaa.AL Go.ChangeShapes Go.WideShapes Go.RowKit
theorem sN : Sees Try.prog 25 (fun x => ∃ n : Nt, x = dN n) := sees_agg (by rw [u25]) sh25 (fun _ => rfl) one_N
theorem sP : Sees Try.prog 28 (fun x => ∃ p : Pk, x = dP p) := sees_agg (by rw [u28]) sh28 (fun _ => rfl) one_P
theorem sLP : Sees Try.prog 22 (fun x => ∃ l : List Pk, x = .sl 3 (l.map dP)) := sees_slice u22 sh22
theorem sLU : Sees Try.prog 26 (fun x => ∃ l : List UInt8, x = .sl 1 (l.map dU)) := sees_slice u26 sh26
theorem sI : Sees Try.prog 3 (fun x => ∃ n : Int, (IntKind.i64.min ≤ n ∧ n ≤ IntKind.i64.max) ∧ x = .lit (.int .i64 n)) := sees_int u3
theorem sU : Sees Try.prog 42 (fun x => ∃ n : Int, (IntKind.u64.min ≤ n ∧ n ≤ IntKind.u64.max) ∧ x = .lit (.int .u64 n)) := sees_int u42
theorem sB : Sees Try.prog 4 (fun x => ∃ b : Bool, x = .lit (.bool b)) := sees_bool u4
theorem params5 : Try.f5.params.toList = [25, 3, 3, 42] := by kernel_rfl
theorem results5 : Try.f5.resultTypes.toList = [4] := by kernel_rfl
set_option maxRecDepth 100000 in
theorem cuts_lifted (os : Os) (started : os.Started) (H : Type) (enc : TypeId × Value → H) :
    ReturnsInHanded {} Try.checked os 5 .any (Rows.networkCutsSpec.pre6 enc Try.prog Try.f5 Rows.networkCutsRow.domain false) (Rows.networkCutsSpec.post enc Try.prog Try.f5 false true false false) := by
  refine returnsInHanded_of_change (C := Try.checked) own started (by kernel_rfl) Try.func5
    (ChangeSpec.witness6 (enc := enc) (C := Try.checked) false ⟨#[], #[.agg #[.slice none 0 0, .slice none 0 0], .int .i64 0, .int .i64 0, .int .u64 0], []⟩ 8 (by kernel_rfl) (by kernel_rfl) (by kernel_rfl) (by kernel_rfl)) ?_
  intro W base args ds gs before hv hW _ _
  refine law_contract laidOut params5 results5 u4 rfl (fun ds h => by match ds, h with | [_, _, _, _], _ => rfl) (by kernel_rfl) (.cons sN (.cons sI (.cons sI (.cons sU .nil)))) (fun ds hK => ?_) W base args ds gs before hv hW
  cases hK; rename_i h1 t; cases t; rename_i h2 t; cases t; rename_i h3 t; cases t; rename_i h4 t; cases t
  obtain ⟨n, rfl⟩ := h1
  obtain ⟨a, _, rfl⟩ := h2
  obtain ⟨b, _, rfl⟩ := h3
  obtain ⟨k, hk, rfl⟩ := h4
  obtain ⟨k, rfl⟩ := Int.eq_ofNat_of_zero_le (show 0 ≤ k from hk.1)
  exact cuts n a b k
theorem network_cuts_holds : Rows.NetworkCutsSaid :=
  OpenClaim.holds_of_wide 5 Try.f5 rfl rfl rfl rfl rfl rfl rfl ⟨rfl, rfl, rfl, rfl, rfl⟩ rfl rfl rfl rfl rfl (by kernel_rfl) Try.func5 (by kernel_rfl)
    (of_decide_eq_true (by kernel_rfl)) (by unfold Func.isWrapper; rw [if_neg (by decide +kernel)]; exact ⟨rfl, rfl⟩)
    (fun os started H enc _ => cuts_lifted os started H enc)
end Go.Proofs.Ytbfjmachkbhfnaa
end

section
namespace Go.Proofs.Ytbfjmachkbhfnaa
open Go Go.Proofs.Ytbfjmachkbhfnaa.AL
attribute [local simp] dP_cells dP_agg dP_noTup dL_cells dL_agg dL_noTup dN_cells dN_agg dN_noTup
theorem samep_t (x : Pk) : CS 19 [dP x, dP x] (.ret (dB true)) := by
  have := CS.samePacket x x
  simpa using this
def nats (i : Nat) : List Int := (List.range i).map (fun j : Nat => (j : Int))
theorem nats_succ (i : Nat) : nats (i + 1) = nats i ++ [(i : Int)] := by simp [nats, List.range_succ]
theorem nats_len (i : Nat) : (nats i).length = i := by simp [nats]
theorem nats_zero : nats 0 = [] := rfl
set_option maxRecDepth 8000 in
set_option maxHeartbeats 8000000 in
theorem moveSpec (n : Nt) (at' a b : Int) (on : Bool) : PCall Try.prog 6 [dN n, dI at', dI a, dI b, dB on] (.ret (dB true)) := by
  refine pcall_of_vc hLaw c6 (by simp [a6]) fun hr => ?_
  simp [a6]
  refine vc_path [.ret (dB true)] ?_
  simp
  refine ⟨.sane, vc_path [.ret (dB (decide ((n.q.length : Int) ≤ 40) && decide ((n.c.length : Int) ≤ 40)))] ?_⟩
  simp
  refine ⟨.cs (.few n), fun h1 h2 => vc_path [.ret (.tup [dN (cutN n a b on), dI (cutE n a b)])] ?_⟩
  simp
  refine ⟨.cs (.cut n a b on), vc_path [.ret (.tup [dN (cutN n a b on), dI (cutE n a b)])] ?_⟩
  simp
  refine ⟨.cs (.rcut n a b on), vc_path [.ret (dB true)] ?_⟩
  simp
  refine ⟨.cs (same_t _), ?_⟩
  refine vc_loopK [5, 1, 2, 3, 4] Nat (fun i => [(16, true, .d (dI i)), (15, true, .own 3 1 ((at' :: nats i).map dI))]) (fun _ => [(3, .row)]) (fun i => i ≤ 3 ∧ i ≤ n.q.length) (fun i => 3 - i) 0 (by simp) ⟨[], [], ?_⟩ (fun i hi => ?_)
  · simp [nats_zero]
  obtain ⟨hi1, hi2⟩ := hi
  simp
  refine vc_path [] ?_
  simp [nats_len]
  refine ⟨fun g1 => ⟨fun g2 => ⟨⟨by omega, by omega⟩, i + 1, ⟨by omega, by omega⟩, by omega, [(3, 5)], [], ?_⟩, fun g2 => ?_⟩, fun g1 => ?_⟩
  · simp [nats_succ]
    exact leD_of_eq (by rw [wrap64 (by omega)])
  all_goals
    obtain ⟨l, hl⟩ : ∃ l : List Int, l = at' :: nats i := ⟨_, rfl⟩
    have hlen : l.length = i + 1 := by rw [hl]; simp [nats_len]
    refine vc_loopK [5, 73] Nat (fun x => [(74, true, .d (dI x)), (72, true, .own 3 1 (l.map dI))]) (fun _ => []) (fun x => x ≤ i + 1) (fun x => i + 1 - x) 0 (by omega) ⟨[], [], ?_⟩ (fun x hx => ?_)
    · simp [hl]
    simp
    intro hlt
    have hx' : x < l.length := by omega
    simp [hx']
    refine vc_path [.ret (.tup [dP (dlvP n l[x]), dN (lseN n l[x]), dI (atE n l[x])])] ?_
    simp
    refine ⟨.cs (.deliver n l[x]), vc_path [.ret (.tup [dP (dlvP n l[x]), dN (lseN n l[x]), dI (atE n l[x])])] ?_⟩
    simp
    refine ⟨.cs (.rdeliver n l[x]), vc_path [.ret (dB true), .ret (dB true)] ?_⟩
    simp
    refine ⟨.cs (samep_t _), .cs (same_t _), vc_path [.ret (.tup [dN (lseN n l[x]), dI (atE n l[x])])] ?_⟩
    simp
    refine ⟨.cs (.lose n l[x]), vc_path [.ret (.tup [dN (lseN n l[x]), dI (atE n l[x])])] ?_⟩
    simp
    refine ⟨.cs (.rlose n l[x]), vc_path [.ret (dB true)] ?_⟩
    simp
    refine ⟨.cs (same_t _), vc_path [.ret (.tup [dN (repN n l[x]), dI (repE n l[x])])] ?_⟩
    simp
    refine ⟨.cs (.repeat' n l[x]), vc_path [.ret (.tup [dN (repN n l[x]), dI (repE n l[x])])] ?_⟩
    simp
    refine ⟨.cs (.rrepeat n l[x]), vc_path [.ret (dB true)] ?_⟩
    simp
    refine ⟨.cs (same_t _), x + 1, by omega, by omega, [], [], ?_⟩
    rw [wrap64 (by omega)]
    simp
end Go.Proofs.Ytbfjmachkbhfnaa
end

section
namespace Go.Proofs.Ytbfjmachkbhfnaa
open Go Go.Proofs.Ytbfjmachkbhfnaa.AL
attribute [local simp] dP_cells dP_agg dP_noTup dL_cells dL_agg dL_noTup dN_cells dN_agg dN_noTup
theorem ok_nil : okNt ⟨[], []⟩ = true := by decide
theorem ok_cNil {q : List Pk} {p : Pk} (h : okNt ⟨q, []⟩ = true) (hl : q.length < 4096) (hp : okP p = true) : okNt ⟨q ++ [p], []⟩ = true := (ok_snd (n := ⟨q, []⟩) h hp hl).2.2
set_option maxRecDepth 8000 in
set_option maxHeartbeats 8000000 in
theorem allP (l : List Pk) (order : List UInt8) : PCall Try.prog 4 [.sl 3 (l.map dP), .sl 1 (order.map dU)] (.ret (dB true)) := by
  refine pcall_of_vc hLaw c4 (by simp [a4]) fun hr => ?_
  simp [a4]
  refine vc_path [.ret (dB true)] ?_
  simp
  refine ⟨.sane, fun hl => vc_path [.ret (dN ⟨[], []⟩)] ?_⟩
  simp
  refine ⟨.cs .new1, ?_⟩
  refine vc_loopK [0, 1, 5] (Nat × List Pk) (fun x => [(7, true, .d (dI x.1)), (6, true, .own 9 3 (x.2.map dP))]) (fun x => [(0, .box true [.d (.sl 3 (x.2.map dP)), .d (.sl 2 [])]), (9, .row)]) (fun x => x.1 ≤ l.length ∧ x.2.length ≤ x.1 ∧ okNt ⟨x.2, []⟩ = true) (fun x => l.length - x.1) (0, []) (by simp [ok_nil]) ⟨[], [(9, 3)], ?_⟩ (fun x hx => ?_)
  · simp [dN_eq]
  obtain ⟨i, q⟩ := x
  obtain ⟨hi1, hi2, hi3⟩ := hx
  simp only at hi1 hi2 hi3
  simp
  refine ⟨fun hlt => ?_, fun hge => ?_⟩
  · simp [hlt]
    by_cases hp : okP l[i] = true
    · obtain ⟨s1, s2, s3⟩ := ok_snd (n := ⟨q, []⟩) hi3 hp (by simp; omega)
      refine vc_pathD [.ret (.tup [dN ⟨q ++ [l[i]], []⟩, dI 0])] ?_
      simp [hlt, dN_eq]
      refine ⟨.cs (by have c := CS.send ⟨q, []⟩ l[i]; rw [s1, s2] at c; simpa [dN_eq] using c), rfl, fun ds h => by simp [dP] at h, ⟨by omega, by omega⟩, i + 1, q ++ [l[i]], ⟨by omega, by simp; omega, s3⟩, by omega, [(9, 12)], [], ?_⟩
      rw [wrap64 (by omega)]
      simp
    · have s1 : sndN ⟨q, []⟩ l[i] = zN := by rw [sndN, if_neg (by simp [hp])]; rfl
      have s2 : sndE ⟨q, []⟩ l[i] = 60 := by rw [sndE, if_neg (by simp [hp])]
      refine vc_pathD [.ret (.tup [dN zN, dI 60])] ?_
      simp [hlt, dN_eq]
      refine ⟨.cs (by have c := CS.send ⟨q, []⟩ l[i]; rw [s1, s2] at c; simpa [dN_eq] using c), rfl, i + 1, q, ⟨by omega, by omega, hi3⟩, by omega, [], [], ?_⟩
      rw [wrap64 (by omega)]
      simp
  · refine vc_loopK [1, 5] (Nat × List Pk) (fun x => [(10, true, .d (dI x.1)), (6, true, .own 9 3 (x.2.map dP))]) (fun x => [(0, .box true [.d (.sl 3 (x.2.map dP)), .d (.sl 2 [])]), (9, .row)]) (fun x => x.2.length ≤ 12 ∧ x.1 + x.2.length ≤ 12 ∧ okNt ⟨x.2, []⟩ = true) (fun x => x.2.length) (0, q) ⟨by simp; omega, by simp; omega, hi3⟩ ⟨[], [], ?_⟩ (fun x hx => ?_)
    · simp
    clear hi1 hi2 hi3 hge
    obtain ⟨i, q⟩ := x
    obtain ⟨hi1, hi2, hi3⟩ := hx
    simp only at hi1 hi2 hi3
    by_cases hq0 : q = []
    · subst hq0
      simp
    have hpos : 0 < q.length := List.length_pos_iff.2 hq0
    have hgo : ∀ k : Nat, k < q.length → atE ⟨q, []⟩ k = 0 ∧ dlvP ⟨q, []⟩ k = q.getD k zP ∧ lseN ⟨q, []⟩ k = ⟨q.take k ++ q.drop (k + 1), []⟩ ∧ okNt ⟨q.take k ++ q.drop (k + 1), []⟩ = true := by
      intro k hk
      have e1 := atE_in (n := ⟨q, []⟩) (i := k) hi3 (by exact hk)
      have e2 := atP_in (n := ⟨q, []⟩) (i := k) hi3 (by exact hk)
      have e3 := ok_wo (i := k) hi3
      have e4 : wo ⟨q, []⟩ k = ⟨q.take k ++ q.drop (k + 1), []⟩ := by simp [wo]
      rw [e4] at e3
      refine ⟨e1, ?_, by rw [lseN, if_pos e1, e4], e3⟩
      simp [dlvP, e2, hk]
    by_cases ho : i < order.length
    · obtain ⟨k, hk, he⟩ : ∃ k : Nat, k < q.length ∧ Int.tmod (IntKind.i64.wrap (order[i].toNat : Int)) (q.length : Int) = (k : Int) := by
        refine ⟨order[i].toNat % q.length, Nat.mod_lt _ hpos, ?_⟩
        have := order[i].toNat_lt
        rw [wrap64 (by omega), ← Int.ofNat_tmod]
      simp [hpos, ho, dU, he]
      refine ⟨hq0, ?_⟩
      obtain ⟨e1, e2, e3, e4⟩ := hgo k hk
      have hw1 : IntKind.i64.wrap ((k : Int) + 1) = ((k + 1 : Nat) : Int) := by rw [wrap64 (by omega)]; simp
      refine vc_path [.ret (.tup [dP (q.getD k zP), dN ⟨q.take k ++ q.drop (k + 1), []⟩, dI 0])] ?_
      simp [hk, dN_eq]
      refine ⟨.cs (by have c := CS.deliver ⟨q, []⟩ k; rw [e1, e2, e3] at c; simpa [dN_eq, hk] using c), vc_pathD [.ret (dB true)] ?_⟩
      simp [hk, hw1]
      refine ⟨.cs (by have c := samep_t q[k]; simpa [dP] using c), rfl, by omega, ⟨by omega, by omega⟩, ⟨by omega, by omega⟩, ⟨by omega, by omega⟩, rfl, i + 1, q.take k ++ q.drop (k + 1), ⟨by simp; omega, by simp; omega, e4⟩, by simp; omega, [(9, 14)], [], ?_⟩
      rw [wrap64 (by omega), show List.take q.length (List.map dP q) = List.map dP q from List.take_of_length_le (by simp)]
      simp
    · obtain ⟨e1, e2, e3, e4⟩ := hgo 0 hpos
      simp at e1 e2 e3 e4
      have hw1 : IntKind.i64.wrap 1 = 1 := by decide
      simp [hpos, ho]
      refine vc_path [.ret (.tup [dP (q.getD 0 zP), dN ⟨q.drop 1, []⟩, dI 0])] ?_
      simp [hpos, dN_eq]
      refine ⟨.cs (by have c := CS.deliver ⟨q, []⟩ 0; rw [e1, e2, e3] at c; simpa [dN_eq, hpos] using c), vc_pathD [.ret (dB true)] ?_⟩
      simp [hpos, hw1]
      refine ⟨.cs (by have c := samep_t q[0]; simpa [dP] using c), rfl, by omega, by omega, rfl, i + 1, q.tail, ⟨by simp; omega, by simp; omega, e4⟩, by simp; omega, [(9, 14)], [], ?_⟩
      rw [wrap64 (by omega), show List.take q.length (List.map dP q) = List.map dP q from List.take_of_length_le (by simp)]
      simp
end Go.Proofs.Ytbfjmachkbhfnaa
end

section
namespace Go.Proofs.Ytbfjmachkbhfnaa
open Go Go.Proofs.Ytbfjmachkbhfnaa.AL
attribute [local simp] dP_cells dP_agg dP_noTup dL_cells dL_agg dL_noTup dN_cells dN_agg dN_noTup
structure Mv where
  k : UInt8
  at' : UInt8
  a : UInt8
  b : UInt8
  d : UInt8
def dMv (m : Mv) : D := .agg [dU m.k, dU m.at', dU m.a, dU m.b, dU m.d]
def mAt (n : Nt) (m : Mv) : Nat := if n.q = [] then 0 else m.at'.toNat % n.q.length
def mA (m : Mv) : Int := ((m.a.toNat % 24 : Nat) : Int)
def mB (m : Mv) : Int := ((m.b.toNat % 24 : Nat) : Int)
def mP (m : Mv) : Pk := ⟨mA m, mB m, [m.d]⟩
def hapN (n : Nt) (m : Mv) : Nt :=
  match m.k.toNat % 6 with
  | 0 => sndN n (mP m)
  | 1 | 2 => lseN n (mAt n m)
  | 3 => repN n (mAt n m)
  | 4 => cutN n (mA m) (mB m) true
  | _ => cutN n (mA m) (mB m) false
def hapP (n : Nt) (m : Mv) : Pk := if m.k.toNat % 6 = 1 then dlvP n (mAt n m) else zP
def hapE (n : Nt) (m : Mv) : Int :=
  match m.k.toNat % 6 with
  | 0 => sndE n (mP m)
  | 1 | 2 => atE n (mAt n m)
  | 3 => repE n (mAt n m)
  | _ => cutE n (mA m) (mB m)
theorem tmod_u8 (x : UInt8) (k : Nat) : Int.tmod (x.toNat : Int) (k : Int) = ((x.toNat % k : Nat) : Int) := by rw [← Int.ofNat_tmod]
theorem wrap_u8 (x : UInt8) : IntKind.i64.wrap (x.toNat : Int) = (x.toNat : Int) := by have := x.toNat_lt; exact wrap64 (by omega)
set_option maxRecDepth 8000 in
set_option maxHeartbeats 8000000 in
theorem happens (n : Nt) (m : Mv) : PCall Try.prog 27 [dN n, dMv m] (.ret (.tup [dN (hapN n m), dP (hapP n m), dI (hapE n m)])) := by
  refine pcall_of_vc hLaw c27 (by simp [a27]) fun hr => ?_
  have hlen : n.q.length ≤ 9223372036854775807 := by
    have := ((hr (dN n) (by simp)).agg (.sl 3 (n.q.map dP)) (by simp [dN])).2.sl.1
    simpa using this
  have e6 : Int.tmod (m.k.toNat : Int) 6 = ((m.k.toNat % 6 : Nat) : Int) := tmod_u8 m.k 6
  have ea : Int.tmod (m.a.toNat : Int) 24 = mA m := tmod_u8 m.a 24
  have eb : Int.tmod (m.b.toNat : Int) 24 = mB m := tmod_u8 m.b 24
  have hk : m.k.toNat % 6 < 6 := Nat.mod_lt _ (by decide)
  have hN : ∀ k, m.k.toNat % 6 = k → (m.k.toNat : Int) % 6 = (k : Int) := fun k h => by omega
  have hcase : m.k.toNat % 6 = 0 ∨ m.k.toNat % 6 = 1 ∨ m.k.toNat % 6 = 2 ∨ m.k.toNat % 6 = 3 ∨ m.k.toNat % 6 = 4 ∨ m.k.toNat % 6 = 5 := by omega
  simp [a27, dMv, dU]
  simp [wrap_u8, e6, ea, eb]
  by_cases hq : n.q = []
  · have hat : mAt n m = 0 := by simp [mAt, hq]
    rcases hcase with h | h | h | h | h | h
    · have h' := hN 0 h
      have hh : hapN n m = sndN n (mP m) ∧ hapP n m = zP ∧ hapE n m = sndE n (mP m) := by simp [hapN, hapP, hapE, h]
      rw [hh.1, hh.2.1, hh.2.2]
      simp [hq, h']
      refine ⟨rfl, vc_path [.ret (.tup [dN (sndN n (mP m)), dI (sndE n (mP m))])] ?_⟩
      simp [dN_eq]
      exact ⟨.cs (by have c := CS.send n (mP m); simpa [dN_eq, hq, hat, mP, dU, dP] using c), rfl, nilP rfl⟩
    · have h' := hN 1 h
      have hh : hapN n m = lseN n (mAt n m) ∧ hapP n m = dlvP n (mAt n m) ∧ hapE n m = atE n (mAt n m) := by simp [hapN, hapP, hapE, h]
      rw [hh.1, hh.2.1, hh.2.2]
      simp [hq, h']
      refine ⟨rfl, vc_path [.ret (.tup [dP (dlvP n (mAt n m)), dN (lseN n (mAt n m)), dI (atE n (mAt n m))])] ?_⟩
      simp [dN_eq]
      exact ⟨.cs (by have c := CS.deliver n (mAt n m); simpa [dN_eq, hq, hat, mP, dU] using c), rfl, leD_of_eq rfl⟩
    · have h' := hN 2 h
      have hh : hapN n m = lseN n (mAt n m) ∧ hapP n m = zP ∧ hapE n m = atE n (mAt n m) := by simp [hapN, hapP, hapE, h]
      rw [hh.1, hh.2.1, hh.2.2]
      simp [hq, h']
      refine ⟨rfl, vc_path [.ret (.tup [dN (lseN n (mAt n m)), dI (atE n (mAt n m))])] ?_⟩
      simp [dN_eq]
      exact ⟨.cs (by have c := CS.lose n (mAt n m); simpa [dN_eq, hq, hat, mP, dU] using c), rfl, nilP rfl⟩
    · have h' := hN 3 h
      have hh : hapN n m = repN n (mAt n m) ∧ hapP n m = zP ∧ hapE n m = repE n (mAt n m) := by simp [hapN, hapP, hapE, h]
      rw [hh.1, hh.2.1, hh.2.2]
      simp [hq, h']
      refine ⟨rfl, vc_path [.ret (.tup [dN (repN n (mAt n m)), dI (repE n (mAt n m))])] ?_⟩
      simp [dN_eq]
      exact ⟨.cs (by have c := CS.repeat' n (mAt n m); simpa [dN_eq, hq, hat, mP, dU] using c), rfl, nilP rfl⟩
    · have h' := hN 4 h
      have hh : hapN n m = cutN n (mA m) (mB m) true ∧ hapP n m = zP ∧ hapE n m = cutE n (mA m) (mB m) := by simp [hapN, hapP, hapE, h]
      rw [hh.1, hh.2.1, hh.2.2]
      simp [hq, h']
      refine ⟨rfl, vc_path [.ret (.tup [dN (cutN n (mA m) (mB m) true), dI (cutE n (mA m) (mB m))])] ?_⟩
      simp [dN_eq]
      exact ⟨.cs (by have c := CS.cut n (mA m) (mB m) true; simpa [dN_eq, hq, hat, mP, dU] using c), rfl, nilP rfl⟩
    · have h' := hN 5 h
      have hh : hapN n m = cutN n (mA m) (mB m) false ∧ hapP n m = zP ∧ hapE n m = cutE n (mA m) (mB m) := by simp [hapN, hapP, hapE, h]
      rw [hh.1, hh.2.1, hh.2.2]
      simp [hq, h']
      refine ⟨rfl, vc_path [.ret (.tup [dN (cutN n (mA m) (mB m) false), dI (cutE n (mA m) (mB m))])] ?_⟩
      simp [dN_eq]
      exact ⟨.cs (by have c := CS.cut n (mA m) (mB m) false; simpa [dN_eq, hq, hat, mP, dU] using c), rfl, nilP rfl⟩
  · have hpos : 0 < n.q.length := List.length_pos_iff.2 hq
    have hat : Int.tmod (m.at'.toNat : Int) (n.q.length : Int) = ((mAt n m : Nat) : Int) := by rw [tmod_u8, mAt, if_neg hq]
    rcases hcase with h | h | h | h | h | h
    · have h' := hN 0 h
      have hh : hapN n m = sndN n (mP m) ∧ hapP n m = zP ∧ hapE n m = sndE n (mP m) := by simp [hapN, hapP, hapE, h]
      rw [hh.1, hh.2.1, hh.2.2]
      simp [hpos, hq, hat, h']
      refine ⟨rfl, vc_path [.ret (.tup [dN (sndN n (mP m)), dI (sndE n (mP m))])] ?_⟩
      simp [dN_eq]
      exact ⟨.cs (by have c := CS.send n (mP m); simpa [dN_eq, hq,  mP, dU, dP] using c), rfl, nilP rfl⟩
    · have h' := hN 1 h
      have hh : hapN n m = lseN n (mAt n m) ∧ hapP n m = dlvP n (mAt n m) ∧ hapE n m = atE n (mAt n m) := by simp [hapN, hapP, hapE, h]
      rw [hh.1, hh.2.1, hh.2.2]
      simp [hpos, hq, hat, h']
      refine ⟨rfl, vc_path [.ret (.tup [dP (dlvP n (mAt n m)), dN (lseN n (mAt n m)), dI (atE n (mAt n m))])] ?_⟩
      simp [dN_eq]
      exact ⟨.cs (by have c := CS.deliver n (mAt n m); simpa [dN_eq, hq,  mP, dU] using c), rfl, leD_of_eq rfl⟩
    · have h' := hN 2 h
      have hh : hapN n m = lseN n (mAt n m) ∧ hapP n m = zP ∧ hapE n m = atE n (mAt n m) := by simp [hapN, hapP, hapE, h]
      rw [hh.1, hh.2.1, hh.2.2]
      simp [hpos, hq, hat, h']
      refine ⟨rfl, vc_path [.ret (.tup [dN (lseN n (mAt n m)), dI (atE n (mAt n m))])] ?_⟩
      simp [dN_eq]
      exact ⟨.cs (by have c := CS.lose n (mAt n m); simpa [dN_eq, hq,  mP, dU] using c), rfl, nilP rfl⟩
    · have h' := hN 3 h
      have hh : hapN n m = repN n (mAt n m) ∧ hapP n m = zP ∧ hapE n m = repE n (mAt n m) := by simp [hapN, hapP, hapE, h]
      rw [hh.1, hh.2.1, hh.2.2]
      simp [hpos, hq, hat, h']
      refine ⟨rfl, vc_path [.ret (.tup [dN (repN n (mAt n m)), dI (repE n (mAt n m))])] ?_⟩
      simp [dN_eq]
      exact ⟨.cs (by have c := CS.repeat' n (mAt n m); simpa [dN_eq, hq,  mP, dU] using c), rfl, nilP rfl⟩
    · have h' := hN 4 h
      have hh : hapN n m = cutN n (mA m) (mB m) true ∧ hapP n m = zP ∧ hapE n m = cutE n (mA m) (mB m) := by simp [hapN, hapP, hapE, h]
      rw [hh.1, hh.2.1, hh.2.2]
      simp [hpos, hq, hat, h']
      refine ⟨rfl, vc_path [.ret (.tup [dN (cutN n (mA m) (mB m) true), dI (cutE n (mA m) (mB m))])] ?_⟩
      simp [dN_eq]
      exact ⟨.cs (by have c := CS.cut n (mA m) (mB m) true; simpa [dN_eq, hq,  mP, dU] using c), rfl, nilP rfl⟩
    · have h' := hN 5 h
      have hh : hapN n m = cutN n (mA m) (mB m) false ∧ hapP n m = zP ∧ hapE n m = cutE n (mA m) (mB m) := by simp [hapN, hapP, hapE, h]
      rw [hh.1, hh.2.1, hh.2.2]
      simp [hpos, hq, hat, h']
      refine ⟨rfl, vc_path [.ret (.tup [dN (cutN n (mA m) (mB m) false), dI (cutE n (mA m) (mB m))])] ?_⟩
      simp [dN_eq]
      exact ⟨.cs (by have c := CS.cut n (mA m) (mB m) false; simpa [dN_eq, hq,  mP, dU] using c), rfl, nilP rfl⟩
end Go.Proofs.Ytbfjmachkbhfnaa
end

section
namespace Go.Proofs.Ytbfjmachkbhfnaa
open Go Go.Proofs.Ytbfjmachkbhfnaa.AL
theorem hap_err {n : Nt} {m : Mv} (h : okNt n = true) (he : ¬ hapE n m = 0) : hapN n m = zN := by
  unfold hapE at he
  unfold hapN
  split at he <;> rename_i hk <;> try simp only [hk]
  · rw [sndN, if_neg]; · rfl
    rintro ⟨h1, h2, h3⟩
    apply he; rw [sndE, if_pos ⟨h1, h2⟩, if_neg h3]
  · rw [lseN, if_neg he]
  · rw [lseN, if_neg he]
  · unfold repN
    split
    · rename_i h0
      rw [repE, if_pos h0] at he
      rw [sndN, if_neg]; · rfl
      rintro ⟨h1, h2, h3⟩
      apply he; rw [sndE, if_pos ⟨h1, h2⟩, if_neg h3]
    · rfl
  · rename_i h0 h1 h2 h3
    have hl : ¬ okL (mA m) (mB m) = true := fun hl => he (cutE_ok h hl)
    have e : ∀ on, cutN n (mA m) (mB m) on = zN := fun on => by rw [cutN, if_neg (fun hh => hl hh.2)]
    have hlt : m.k.toNat % 6 < 6 := Nat.mod_lt _ (by decide)
    split <;> first | exact e _ | (exfalso; simp_all)
theorem at_ok {n : Nt} {i : Nat} (h : atE n i = 0) : okNt n = true ∧ i < n.q.length := by
  obtain ⟨h1, h2⟩ := atE_zero.1 h
  have := inQ_iff.1 h2
  exact ⟨h1, by omega⟩
theorem snd_ok {n : Nt} {p : Pk} (h : sndE n p = 0) : sndN n p = ⟨n.q ++ [p], n.c⟩ ∧ okNt ⟨n.q ++ [p], n.c⟩ = true := by
  by_cases hc : okNt n = true ∧ okP p = true
  · by_cases hl : n.q.length = 4096
    · rw [sndE, if_pos hc, if_pos hl] at h; simp at h
    · have := okNt_len hc.1
      obtain ⟨s1, _, s3⟩ := ok_snd hc.1 hc.2 (by omega)
      exact ⟨s1, s3⟩
  · rw [sndE, if_neg hc] at h; simp at h
theorem cut_ok' {n : Nt} {a b : Int} (h : cutE n a b = 0) : okNt n = true ∧ okL a b = true := by
  unfold cutE at h
  split at h
  · rename_i h1
    split at h
    · rename_i h2; exact ⟨h1, h2⟩
    · simp at h
  · simp at h
theorem tot_none {p : Int × Int → Bool} (h : ∀ x, p x = false) : tot p 24 = [] := by
  rw [tot24, List.filter_eq_nil_iff]
  intro x _; simp [h x]
/-- What happens, and what it leaves. -/
theorem hap_law {n : Nt} {m : Mv} (he : hapE n m = 0) :
    okNt (hapN n m) = true ∧ (m.k.toNat % 6 = 0 → (hapN n m).q = n.q ++ [mP m]) ∧ (¬ m.k.toNat % 6 = 0 → ∀ p ∈ (hapN n m).q, p ∈ n.q) ∧ (¬ m.k.toNat % 6 = 4 → n.c = [] → (hapN n m).c = []) ∧
    (m.k.toNat % 6 = 1 → hapP n m ∈ n.q ∨ hapP n m = zP ∧ ¬ n.c = []) := by
  have hlt : m.k.toNat % 6 < 6 := Nat.mod_lt _ (by decide)
  have hlse : ∀ i : Nat, atE n i = 0 → okNt (lseN n i) = true ∧ (∀ p ∈ (lseN n i).q, p ∈ n.q) ∧ (lseN n i).c = n.c := by
    intro i h
    obtain ⟨h1, h2⟩ := at_ok h
    rw [lseN, if_pos h]
    refine ⟨ok_wo h1, fun p hp => ?_, rfl⟩
    simp only [wo, List.mem_append] at hp
    rcases hp with hp | hp
    · exact List.mem_of_mem_take hp
    · exact List.mem_of_mem_drop hp
  unfold hapE at he
  unfold hapN hapP
  split at he <;> rename_i hk <;> try simp only [hk]
  · obtain ⟨s1, s2⟩ := snd_ok he
    rw [s1]
    exact ⟨s2, fun _ => rfl, fun h => (by simp at h), fun _ h => h, fun h => (by simp at h)⟩
  · obtain ⟨q1, q2, q3⟩ := hlse _ he
    obtain ⟨h1, h2⟩ := at_ok he
    refine ⟨q1, fun h => (by simp at h), fun _ => q2, fun _ h => by rw [q3, h], fun _ => ?_⟩
    simp only [if_true]
    unfold dlvP
    split
    · rename_i hm
      exact .inr ⟨rfl, fun h => by rw [h] at hm; cases hm⟩
    · rw [atP_in h1 h2]; exact .inl (List.getElem_mem h2)
  · obtain ⟨q1, q2, q3⟩ := hlse _ he
    exact ⟨q1, fun h => (by simp at h), fun _ => q2, fun _ h => by rw [q3, h], fun h => (by simp at h)⟩
  · unfold repE at he
    split at he
    · rename_i h0
      obtain ⟨h1, h2⟩ := at_ok h0
      obtain ⟨s1, s2⟩ := snd_ok he
      rw [repN, if_pos h0, s1]
      refine ⟨s2, fun h => (by simp at h), fun _ p hp => ?_, fun _ h => h, fun h => (by simp at h)⟩
      simp only [List.mem_append, List.mem_singleton] at hp
      rcases hp with hp | rfl
      · exact hp
      · rw [atP_in h1 h2]; exact List.getElem_mem h2
    · rename_i h0; exact absurd he h0
  · rename_i h0 h1 h2
    obtain ⟨k1, k2⟩ := cut_ok' he
    obtain ⟨l1, l2, _⟩ := cuts_law k1 k2
    have hr : m.k.toNat % 6 = 4 ∨ m.k.toNat % 6 = 5 := by
      have g0 : ¬ m.k.toNat % 6 = 0 := h0
      have g1 : ¬ m.k.toNat % 6 = 1 := h1
      have g2 : ¬ m.k.toNat % 6 = 2 := h2
      have g3 : ¬ m.k.toNat % 6 = 3 := hk
      omega
    rcases hr with hr | hr <;> simp only [hr]
    · exact ⟨l1, fun h => (by simp at h), fun _ p hp => by rw [cutN_ok k1 k2] at hp; exact hp, fun h => (by simp at h), fun h => (by simp at h)⟩
    · refine ⟨l2, fun h => (by simp at h), fun _ p hp => by rw [cutN_ok k1 k2] at hp; exact hp, fun _ hc => ?_, fun h => (by simp at h)⟩
      rw [cutN_ok k1 k2]
      exact tot_none (fun x => by simp [ctP, hc])
end Go.Proofs.Ytbfjmachkbhfnaa
end

section
namespace Go.Proofs.Ytbfjmachkbhfnaa
open Go Go.Proofs.Ytbfjmachkbhfnaa.AL
theorem dMv_cells (m : Mv) : (dMv m).cells = [dU m.k, dU m.at', dU m.a, dU m.b, dU m.d] := rfl
theorem dMv_agg (m : Mv) : (dMv m).isAgg = true := rfl
theorem dMv_noTup (m : Mv) : (AV.d (dMv m)).noTup = true := rfl
attribute [local simp] dP_cells dP_agg dP_noTup dL_cells dL_agg dL_noTup dN_cells dN_agg dN_noTup dMv_cells dMv_agg dMv_noTup
inductive COn : FuncId → List D → Out → Prop
  | law {f : FuncId} {ds : List D} {out : Out} (h : CLaw f ds out) : COn f ds out
  | happens (n : Nt) (m : Mv) : COn 27 [dN n, dMv m] (.ret (.tup [dN (hapN n m), dP (hapP n m), dI (hapE n m)]))
theorem hCOn : ∀ f ds out, COn f ds out → PCall Try.prog f ds out := by
  intro f ds out h
  cases h with
  | law h => exact hLaw _ _ _ h
  | happens n m => exact happens n m
structure OS where
  i : Nat
  n : Nt
  sent : List Pk
  cuts : Nat
structure MS where
  k : Nat
  b : Bool
theorem zN_D : LeD (.agg [.nil 3, .nil 2]) (dN zN) := nilN
theorem same_zN (x : Nt) (h : x = zN) : COn 15 [dN x, .agg [.nil 3, .nil 2]] (.ret (dB true)) := by
  subst h
  exact .law (.cs (.weak (same_t zN) (.cons (LeD.refl _) (.cons nilN .nil))))
set_option maxRecDepth 8000 in
set_option maxHeartbeats 16000000 in
theorem onlySent (l : List Mv) : PCall Try.prog 7 [.sl 5 (l.map dMv)] (.ret (dB true)) := by
  refine pcall_of_vc hCOn c7 (by simp [a7]) fun hr => ?_
  simp [a7]
  refine vc_path [.ret (dB true)] ?_
  simp
  refine ⟨.law .sane, fun hl => vc_path [.ret (dN ⟨[], []⟩)] ?_⟩
  simp
  refine ⟨.law (.cs .new1), ?_⟩
  refine vc_loopK [0, 3] OS (fun x => [(6, true, .d (dI x.i)), (4, true, .own 9 3 (x.sent.map dP)), (5, true, .d (dI x.cuts))]) (fun x => [(0, .box true [.d (.sl 3 (x.n.q.map dP)), .d (.sl 2 (x.n.c.map dL))]), (9, .row)])
    (fun x => x.i ≤ l.length ∧ x.sent.length ≤ x.i ∧ x.cuts ≤ x.i ∧ okNt x.n = true ∧ (∀ p ∈ x.n.q, p ∈ x.sent) ∧ (x.cuts = 0 → x.n.c = [])) (fun x => l.length - x.i) ⟨0, ⟨[], []⟩, [], 0⟩ (by simp [ok_nil]) ⟨[], [(9, 3)], ?_⟩ (fun x hx => ?_)
  · simp [dN_eq]
  obtain ⟨i, n, sent, cuts⟩ := x
  obtain ⟨hi1, hi2, hi3, hi4, hi5, hi6⟩ := hx
  simp only at hi1 hi2 hi3 hi4 hi5 hi6
  simp
  intro hlt
  simp [hlt]
  obtain ⟨m, hm⟩ : ∃ m, m = l[i] := ⟨_, rfl⟩
  have e6 : Int.tmod (m.k.toNat : Int) 6 = ((m.k.toNat % 6 : Nat) : Int) := tmod_u8 m.k 6
  have hN : ∀ k, m.k.toNat % 6 = k → (m.k.toNat : Int) % 6 = (k : Int) := fun k h => by omega
  have hcase : m.k.toNat % 6 = 0 ∨ m.k.toNat % 6 = 1 ∨ m.k.toNat % 6 = 2 ∨ m.k.toNat % 6 = 3 ∨ m.k.toNat % 6 = 4 ∨ m.k.toNat % 6 = 5 := by omega
  have hlen := okNt_len hi4
  have hw : IntKind.i64.wrap (n.q.length : Int) = n.q.length := wrap64 (by omega)
  have hw1 : IntKind.i64.wrap ((i : Int) + 1) = ((i + 1 : Nat) : Int) := by rw [wrap64 (by omega)]; simp
  have hw2 : IntKind.i64.wrap ((cuts : Int) + 1) = ((cuts + 1 : Nat) : Int) := by rw [wrap64 (by omega)]; simp
  have hhap : hapE n m = 0 → COn 27 [D.agg [D.sl 3 (List.map dP n.q), D.sl 2 (List.map dL n.c)], dMv m] (Out.ret (D.tup [dN (hapN n m), dP (hapP n m), D.lit (Value.int IntKind.i64 0)])) := fun he => by
    have c := COn.happens n m
    rwa [he] at c
  have hchk : okNt (hapN n m) = true → COn 13 [dN (hapN n m)] (.ret (dI 0)) := fun g1 => .law (.cs (by have c := CS.check (hapN n m); rwa [eNet_ne.2 g1] at c))
  by_cases he : hapE n m = 0
  · obtain ⟨g1, g2, g3, g4, g5⟩ := hap_law he
    have hplain : ¬ m.k.toNat % 6 = 0 → ∀ p ∈ (hapN n m).q, p ∈ sent := fun h p hp => hi5 p (g3 h p hp)
    rcases hcase with h | h | h | h | h | h
    · have h' := hN _ h
      refine vc_pathD [.ret (.tup [dN (hapN n m), dP (hapP n m), dI 0])] ?_
      simp [hlt, ← hm, dU, e6, h', g2 h, hw]
      refine ⟨hhap he, rfl, fun h0 => (by omega), fun _ => ⟨by omega, fun ds h => (by simp [dP] at h), ⟨by omega, by omega⟩, ?_⟩⟩
      refine vc_path [.ret (dI 0)] ?_
      simp [dN_eq]
      refine ⟨by have c := hchk g1; rw [dN_eq, g2 h] at c; simpa using c, ⟨i + 1, hapN n m, sent ++ [mP m], cuts⟩, ⟨by simp; omega, by simp; omega, by simp; omega, g1, fun p hp => ?_, fun hc => g4 (by omega) (hi6 hc)⟩, by simp; omega, [(9, 13)], [], ?_⟩
      · simp only [g2 h, List.mem_append] at hp ⊢
        exact hp.imp (hi5 p) (fun h => h)
      · rw [hw1]
        simp
        exact leD_of_eq (by rw [g2 h]; simp)
    · have h' := hN _ h
      refine vc_pathD [.ret (.tup [dN (hapN n m), dP (hapP n m), dI 0])] ?_
      simp [hlt, ← hm, dU, e6, h']
      refine ⟨hhap he, rfl, vc_path [.ret (dB (decide (hapP n m = zP)))] ?_⟩
      simp
      have hmet : ∀ b0 : Bool, (b0 = (decide (hapP n m = zP) && decide (0 < cuts))) → (b0 || sent.any (fun y => decide (y = hapP n m))) = true := by
        intro b0 hb
        subst hb
        rcases g5 h with q | ⟨q1, q2⟩
        · simp only [Bool.or_eq_true, List.any_eq_true, decide_eq_true_eq]
          exact .inr ⟨_, hi5 _ q, rfl⟩
        · have : 0 < cuts := Nat.pos_of_ne_zero (fun hc => q2 (hi6 hc))
          simp [q1, this]
      refine ⟨.law (.cs (samep_zP _)), fun hz => ?_, fun hz => ?_⟩
      all_goals
        obtain ⟨b0, hb0⟩ : ∃ b0 : Bool, b0 = (decide (hapP n m = zP) && decide (0 < cuts)) := ⟨_, rfl⟩
        have hmet := hmet b0 hb0
        have hany : ∀ k (h : k < sent.length), (sent.take (k + 1)).any (fun y => decide (y = hapP n m)) = ((sent.take k).any (fun y => decide (y = hapP n m)) || decide (sent[k] = hapP n m)) := by
          intro k hk
          rw [List.take_add_one, List.any_append]; simp [hk]
        refine vc_loopK [0, 3, 4, 5, 6, 7, 8] MS (fun x => [(10, true, .d (dB x.b)), (11, true, .d (dI x.k))]) (fun _ => []) (fun x => x.k ≤ sent.length ∧ x.b = (b0 || (sent.take x.k).any (fun y => decide (y = hapP n m)))) (fun x => sent.length - x.k) ⟨0, b0⟩ (by simp) ⟨[], [], ?_⟩ (fun x hx => ?_)
        · simp [hb0, hz]
        obtain ⟨k, b⟩ := x
        obtain ⟨hk, hb⟩ := hx
        simp only at hk hb
        have hw3 : IntKind.i64.wrap ((k : Int) + 1) = ((k + 1 : Nat) : Int) := by rw [wrap64 (by omega)]; simp
        simp
        refine ⟨fun hlt2 => vc_pathD [.ret (dB (decide (sent[k] = hapP n m)))] ?_, fun hge => ?_⟩
        · have hs := hany k hlt2
          simp [hlt2]
          refine ⟨fun hbt => ⟨rfl, ⟨k + 1, true⟩, ⟨by simp; omega, ?_⟩, by simp; omega, [], [], ?_⟩, fun hbf => ⟨.law (.cs (.samePacket _ _)), rfl, ⟨k + 1, decide (sent[k] = hapP n m)⟩, ⟨by simp; omega, ?_⟩, by simp; omega, [], [], ?_⟩⟩
          · show true = _
            rw [hs, ← Bool.or_assoc, ← hb, hbt]; rfl
          · rw [hw3]; simp
          · show decide (sent[k] = hapP n m) = _
            rw [hs, ← Bool.or_assoc, ← hb, hbf]; rfl
          · rw [hw3]; simp
        · have hbt : b = true := by rw [hb, List.take_of_length_le hge]; exact hmet
          subst hbt
          simp
          refine vc_path [.ret (dI 0)] ?_
          simp [dN_eq]
          refine ⟨hchk g1, ⟨i + 1, hapN n m, sent, cuts⟩, ⟨by simp; omega, by simp; omega, by simp; omega, g1, hplain (by omega), fun hc => g4 (by omega) (hi6 hc)⟩, by simp; omega, [], [], ?_⟩
          rw [hw1]
          simp
    · have h' := hN _ h
      refine vc_pathD [.ret (.tup [dN (hapN n m), dP (hapP n m), dI 0])] ?_
      simp [hlt, ← hm, dU, e6, h']
      refine ⟨hhap he, rfl, vc_path [.ret (dI 0)] ?_⟩
      simp [dN_eq]
      refine ⟨hchk g1, ⟨i + 1, hapN n m, sent, cuts⟩, ⟨by simp; omega, by simp; omega, by simp; omega, g1, hplain (by omega), fun hc => g4 (by omega) (hi6 hc)⟩, by simp; omega, [], [], ?_⟩
      rw [hw1]
      simp
    · have h' := hN _ h
      refine vc_pathD [.ret (.tup [dN (hapN n m), dP (hapP n m), dI 0])] ?_
      simp [hlt, ← hm, dU, e6, h']
      refine ⟨hhap he, rfl, vc_path [.ret (dI 0)] ?_⟩
      simp [dN_eq]
      refine ⟨hchk g1, ⟨i + 1, hapN n m, sent, cuts⟩, ⟨by simp; omega, by simp; omega, by simp; omega, g1, hplain (by omega), fun hc => g4 (by omega) (hi6 hc)⟩, by simp; omega, [], [], ?_⟩
      rw [hw1]
      simp
    · have h' := hN _ h
      refine vc_pathD [.ret (.tup [dN (hapN n m), dP (hapP n m), dI 0])] ?_
      simp [hlt, ← hm, dU, e6, h', hw2]
      refine ⟨hhap he, rfl, vc_path [.ret (dI 0)] ?_⟩
      simp [dN_eq]
      refine ⟨hchk g1, ⟨i + 1, hapN n m, sent, cuts + 1⟩, ⟨by simp; omega, by simp; omega, by simp; omega, g1, hplain (by omega), fun hc => (by simp at hc)⟩, by simp; omega, [], [], ?_⟩
      rw [hw1]
      simp
    · have h' := hN _ h
      refine vc_pathD [.ret (.tup [dN (hapN n m), dP (hapP n m), dI 0])] ?_
      simp [hlt, ← hm, dU, e6, h']
      refine ⟨hhap he, rfl, vc_path [.ret (dI 0)] ?_⟩
      simp [dN_eq]
      refine ⟨hchk g1, ⟨i + 1, hapN n m, sent, cuts⟩, ⟨by simp; omega, by simp; omega, by simp; omega, g1, hplain (by omega), fun hc => g4 (by omega) (hi6 hc)⟩, by simp; omega, [], [], ?_⟩
      rw [hw1]
      simp
  · have hz : hapN n m = zN := hap_err hi4 he
    refine vc_pathD [.ret (.tup [dN zN, dP (hapP n m), dI (hapE n m)])] ?_
    simp [hlt, ← hm, he]
    refine ⟨by have c := COn.happens n m; rwa [hz] at c, rfl, vc_path [.ret (dI 0), .ret (dB true)] ?_⟩
    simp
    refine ⟨.law (.cs (by have c := CS.check n; rwa [eNet_ne.2 hi4] at c)), same_zN zN rfl, ⟨i + 1, n, sent, cuts⟩, ⟨by simp; omega, by simp; omega, by simp; omega, hi4, hi5, hi6⟩, by simp; omega, [], [], ?_⟩
    rw [hw1]
    simp
end Go.Proofs.Ytbfjmachkbhfnaa
end

section
namespace Go.Proofs.Ytbfjmachkbhfnaa
open Go Go.Proofs.Ytbfjmachkbhfnaa.AL Go.ChangeShapes Go.WideShapes Go.RowKit
theorem u52 : Try.prog.underlying 52 = some (.struct #[fld 52 0, fld 52 1, fld 52 2, fld 52 3, fld 52 4]) := by kernel_rfl
theorem u48 : Try.prog.underlying 48 = some (.slice 52) := by kernel_rfl
theorem c52' : Try.prog.cellsOf 52 = 5 := by kernel_rfl
section
variable {H : Type} {enc : TypeId × Value → H} {w : World}
theorem sh5 : Shows enc Try.prog w 5 dU := shows_u8 u5
theorem sh52 : Shows enc Try.prog w 52 dMv := shows_map (shows_structN u52 (by rw [c52']; kernel_rfl)
  (showsR_cons (t := 5) (off' := 1) (by kernel_rfl) (by kernel_rfl) (by rw [c5']) sh5 (showsR_cons (t := 5) (off' := 2) (by kernel_rfl) (by kernel_rfl) (by rw [c5']) sh5 (showsR_cons (t := 5) (off' := 3) (by kernel_rfl) (by kernel_rfl) (by rw [c5']) sh5
  (showsR_cons (t := 5) (off' := 4) (by kernel_rfl) (by kernel_rfl) (by rw [c5']) sh5 (showsR_cons (t := 5) (off' := 5) (by kernel_rfl) (by kernel_rfl) (by rw [c5']) sh5 showsR_nil)))))) (fun y => ⟨⟨y.1, y.2.1, y.2.2.1, y.2.2.2.1, y.2.2.2.2.1⟩, rfl⟩)
theorem sh48 : Shows enc Try.prog w 48 (fun l : List Mv => .sl 5 (l.map dMv)) := shows_slice u48 c52' (fun _ => rfl) (fun y c hc => by simp [dMv, dU, D.cells] at hc; rcases hc with rfl | rfl | rfl | rfl | rfl <;> rfl) sh52
end
theorem sLM : Sees Try.prog 48 (fun x => ∃ l : List Mv, x = .sl 5 (l.map dMv)) := sees_slice u48 sh48
theorem params6 : Try.f6.params.toList = [25, 3, 3, 3, 4] := by kernel_rfl
theorem results6 : Try.f6.resultTypes.toList = [4] := by kernel_rfl
set_option maxRecDepth 100000 in
theorem networkMoveSpec_lifted (os : Os) (started : os.Started) (H : Type) (enc : TypeId × Value → H) :
    ReturnsInHanded {} Try.checked os 6 .any (Rows.networkMoveSpecSpec.pre6 enc Try.prog Try.f6 Rows.networkMoveSpecRow.domain false) (Rows.networkMoveSpecSpec.post enc Try.prog Try.f6 false true false false) := by
  refine returnsInHanded_of_change (C := Try.checked) own started (by kernel_rfl) Try.func6
    (ChangeSpec.witness6 (enc := enc) (C := Try.checked) false ⟨#[], #[.agg #[.slice none 0 0, .slice none 0 0], .int .i64 0, .int .i64 0, .int .i64 0, .bool false], []⟩ 8 (by kernel_rfl) (by kernel_rfl) (by kernel_rfl) (by kernel_rfl)) ?_
  intro W base args ds gs before hv hW _ _
  refine law_contract laidOut params6 results6 u4 rfl (fun ds h => by match ds, h with | [_, _, _, _, _], _ => rfl) (by kernel_rfl) (.cons sN (.cons sI (.cons sI (.cons sI (.cons sB .nil))))) (fun ds hK => ?_) W base args ds gs before hv hW
  cases hK; rename_i h1 t; cases t; rename_i h2 t; cases t; rename_i h3 t; cases t; rename_i h4 t; cases t; rename_i h5 t; cases t
  obtain ⟨n, rfl⟩ := h1
  obtain ⟨at', _, rfl⟩ := h2
  obtain ⟨a, _, rfl⟩ := h3
  obtain ⟨b, _, rfl⟩ := h4
  obtain ⟨on, rfl⟩ := h5
  exact moveSpec n at' a b on
theorem network_move_spec_holds : Rows.NetworkMoveSpecSaid :=
  OpenClaim.holds_of_wide 6 Try.f6 rfl rfl rfl rfl rfl rfl rfl ⟨rfl, rfl, rfl, rfl, rfl⟩ rfl rfl rfl rfl rfl (by kernel_rfl) Try.func6 (by kernel_rfl)
    (of_decide_eq_true (by kernel_rfl)) (by unfold Func.isWrapper; rw [if_neg (by decide +kernel)]; exact ⟨rfl, rfl⟩)
    (fun os started H enc _ => networkMoveSpec_lifted os started H enc)
theorem params4 : Try.f4.params.toList = [22, 26] := by kernel_rfl
theorem results4 : Try.f4.resultTypes.toList = [4] := by kernel_rfl
set_option maxRecDepth 100000 in
theorem networkAll_lifted (os : Os) (started : os.Started) (H : Type) (enc : TypeId × Value → H) :
    ReturnsInHanded {} Try.checked os 4 .any (Rows.networkAllSpec.pre6 enc Try.prog Try.f4 Rows.networkAllRow.domain false) (Rows.networkAllSpec.post enc Try.prog Try.f4 false true false false) := by
  refine returnsInHanded_of_change (C := Try.checked) own started (by kernel_rfl) Try.func4
    (ChangeSpec.witness6 (enc := enc) (C := Try.checked) false ⟨#[], #[.slice none 0 0, .slice none 0 0], []⟩ 8 (by kernel_rfl) (by kernel_rfl) (by kernel_rfl) (by kernel_rfl)) ?_
  intro W base args ds gs before hv hW _ _
  refine law_contract laidOut params4 results4 u4 rfl (fun ds h => by match ds, h with | [_, _], _ => rfl) (by kernel_rfl) (.cons sLP (.cons sLU .nil)) (fun ds hK => ?_) W base args ds gs before hv hW
  cases hK; rename_i h1 t; cases t; rename_i h2 t; cases t
  obtain ⟨l, rfl⟩ := h1
  obtain ⟨o, rfl⟩ := h2
  exact allP l o
theorem network_all_holds : Rows.NetworkAllSaid :=
  OpenClaim.holds_of_wide 4 Try.f4 rfl rfl rfl rfl rfl rfl rfl ⟨rfl, rfl, rfl, rfl, rfl⟩ rfl rfl rfl rfl rfl (by kernel_rfl) Try.func4 (by kernel_rfl)
    (of_decide_eq_true (by kernel_rfl)) (by unfold Func.isWrapper; rw [if_neg (by decide +kernel)]; exact ⟨rfl, rfl⟩)
    (fun os started H enc _ => networkAll_lifted os started H enc)
theorem params7 : Try.f7.params.toList = [48] := by kernel_rfl
theorem results7 : Try.f7.resultTypes.toList = [4] := by kernel_rfl
set_option maxRecDepth 100000 in
theorem networkOnlySent_lifted (os : Os) (started : os.Started) (H : Type) (enc : TypeId × Value → H) :
    ReturnsInHanded {} Try.checked os 7 .any (Rows.networkOnlySentSpec.pre6 enc Try.prog Try.f7 Rows.networkOnlySentRow.domain false) (Rows.networkOnlySentSpec.post enc Try.prog Try.f7 false true false false) := by
  refine returnsInHanded_of_change (C := Try.checked) own started (by kernel_rfl) Try.func7
    (ChangeSpec.witness6 (enc := enc) (C := Try.checked) false ⟨#[], #[.slice none 0 0], []⟩ 8 (by kernel_rfl) (by kernel_rfl) (by kernel_rfl) (by kernel_rfl)) ?_
  intro W base args ds gs before hv hW _ _
  refine law_contract laidOut params7 results7 u4 rfl (fun ds h => by match ds, h with | [_], _ => rfl) (by kernel_rfl) (.cons sLM .nil) (fun ds hK => ?_) W base args ds gs before hv hW
  cases hK; rename_i h1 t; cases t
  obtain ⟨l, rfl⟩ := h1
  exact onlySent l
theorem network_only_sent_holds : Rows.NetworkOnlySentSaid :=
  OpenClaim.holds_of_wide 7 Try.f7 rfl rfl rfl rfl rfl rfl rfl ⟨rfl, rfl, rfl, rfl, rfl⟩ rfl rfl rfl rfl rfl (by kernel_rfl) Try.func7 (by kernel_rfl)
    (of_decide_eq_true (by kernel_rfl)) (by unfold Func.isWrapper; rw [if_neg (by decide +kernel)]; exact ⟨rfl, rfl⟩)
    (fun os started H enc _ => networkOnlySent_lifted os started H enc)
end Go.Proofs.Ytbfjmachkbhfnaa
end
