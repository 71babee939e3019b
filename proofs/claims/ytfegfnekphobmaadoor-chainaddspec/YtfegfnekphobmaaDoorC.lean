/- Part of the proof: AL30. -/
import Derived.Test.YtfegfnekphobmaaDoorB
set_option linter.unnecessarySimpa false
set_option linter.unusedVariables false
set_option linter.unusedSimpArgs false
section
namespace Go.Proofs.YtfegfnekphobmaaDoor.AL
open Go

def litV : SK → Value → Option Lit
  | .int k, .int k' n => if k' = k ∧ (Lit.int k n).wf = true then some (.int k n) else none
  | .bool, .bool b => some (.bool b)
  | .str, .string s => if s.size ≤ maxLen then some (.string s.data.toList) else none
  | _, _ => none
def litsV : List SK → List Value → Option (List Lit)
  | [], [] => some []
  | k :: ks, v :: vs => match litV k v, litsV ks vs with
    | some l, some ls => some (l :: ls)
    | _, _ => none
  | _, _ => none

theorem litsV_append : ∀ {ks1 ks2 : List SK} {vs : List Value} {l : List Lit}, litsV (ks1 ++ ks2) vs = some l → ∃ l1 l2, litsV ks1 (vs.take ks1.length) = some l1 ∧ litsV ks2 (vs.drop ks1.length) = some l2 ∧ l = l1 ++ l2
  | [], ks2, vs, l, h => ⟨[], l, by simp [litsV], by simpa using h, rfl⟩
  | k :: ks, ks2, [], l, h => by simp [litsV] at h
  | k :: ks, ks2, v :: vs, l, h => by
    simp only [List.cons_append, litsV] at h
    split at h
    · rename_i a b h1 h2
      obtain ⟨l1, l2, e1, e2, e3⟩ := litsV_append h2
      injection h with h
      exact ⟨a :: l1, l2, by simp [litsV, h1, e1], by simpa using e2, by simp [← h, e3]⟩
    · cases h
theorem litsV_len : ∀ {ks : List SK} {vs : List Value} {l : List Lit}, litsV ks vs = some l → vs.length = ks.length
  | [], [], _, _ => rfl
  | [], _ :: _, _, h => by simp [litsV] at h
  | _ :: _, [], _, h => by simp [litsV] at h
  | k :: ks, v :: vs, l, h => by
    simp only [litsV] at h
    split at h
    · rename_i h2; simp [litsV_len h2]
    · cases h

section
variable {P : Program}

theorem litsV_take {ks : List SK} {vs : List Value} {l : List Lit} (h : litsV ks vs = some l) : vs.take ks.length = vs := by rw [← litsV_len h]; simp

theorem fields_lits {m : Nat} {cs : List Value} (IH : ∀ t ks vs l, kindsOf P m t = some ks → litsV ks vs = some l → P.keyLits m t vs = some l) :
    ∀ {fs : List Field} {off : Nat} {ks : List SK} {l : List Lit}, kindsF P (kindsOf P m) off fs = some ks → litsV ks (cs.drop off) = some l →
      ∃ as, fs.mapM (fun f => P.keyLits m f.type ((cs.drop f.offset).take (P.cellsOf f.type))) = some as ∧ as.flatten = l
  | [], off, ks, l, h, hl => by
    simp only [kindsF, Option.some.injEq] at h; subst h
    cases hd : cs.drop off with
    | nil => rw [hd] at hl; simp [litsV] at hl; exact ⟨[], by simp, by simp [hl]⟩
    | cons a b => rw [hd] at hl; simp [litsV] at hl
  | f :: r, off, ks, l, h, hl => by
    simp only [kindsF] at h
    split at h
    · rename_i k1 hk
      split at h
      · rename_i hc
        obtain ⟨rfl, hc2⟩ := hc
        simp only [Option.map_eq_some_iff] at h
        obtain ⟨k2, h2, rfl⟩ := h
        obtain ⟨l1, l2, e1, e2, rfl⟩ := litsV_append hl
        rw [List.drop_drop] at e2
        obtain ⟨as, i1, i2⟩ := fields_lits IH h2 e2
        refine ⟨l1 :: as, ?_, by simp [i2]⟩
        rw [List.mapM_cons, hc2, IH _ _ _ _ hk e1, i1]
        rfl
      · cases h
    · cases h

theorem items_lits {m : Nat} {cs : List Value} {e : TypeId} {ks : List SK} (IH : ∀ vs l, litsV ks vs = some l → P.keyLits m e vs = some l) (hc : P.cellsOf e = ks.length) :
    ∀ {n i0 : Nat} {l : List Lit}, litsV (List.replicate n ks).flatten (cs.drop (i0 * ks.length)) = some l →
      ∃ as, (List.range' i0 n).mapM (fun i => P.keyLits m e ((cs.drop (i * P.cellsOf e)).take (P.cellsOf e))) = some as ∧ as.flatten = l
  | 0, i0, l, hl => by
    cases hd : cs.drop (i0 * ks.length) with
    | nil => rw [hd] at hl; simp [litsV] at hl; exact ⟨[], by simp, by simp [hl]⟩
    | cons a b => rw [hd] at hl; simp [litsV] at hl
  | n + 1, i0, l, hl => by
    rw [List.replicate_succ, List.flatten_cons] at hl
    obtain ⟨l1, l2, e1, e2, rfl⟩ := litsV_append hl
    rw [List.drop_drop, show i0 * ks.length + ks.length = (i0 + 1) * ks.length by rw [Nat.succ_mul]] at e2
    obtain ⟨as, i1, i2⟩ := items_lits IH hc e2
    refine ⟨l1 :: as, ?_, by simp [i2]⟩
    rw [List.range'_succ, List.mapM_cons]
    rw [hc] at i1 ⊢
    rw [IH _ _ e1, i1]
    rfl

theorem keyLits_kinds : ∀ (m : Nat) (t : TypeId) (ks : List SK) (vs : List Value) (l : List Lit), kindsOf P m t = some ks → litsV ks vs = some l → P.keyLits m t vs = some l
  | 0, _, _, _, _, h, _ => by simp [kindsOf] at h
  | m + 1, t, ks, vs, l, h, hl => by
    have plain : ∀ k, ks = [k] → ∃ v a, vs = [v] ∧ l = [a] ∧ litV k v = some a := fun k hk => by
      subst hk
      match vs, hl with
      | [], hl => simp [litsV] at hl
      | [v], hl =>
        simp only [litsV] at hl
        split at hl
        · rename_i a b h1 h2; injection hl with hl; injection h2 with h2; subst h2; exact ⟨v, a, rfl, hl.symm, h1⟩
        · cases hl
      | v :: u :: r, hl =>
        simp only [litsV] at hl
        split at hl
        · rename_i h2; simp at h2
        · cases hl
    unfold kindsOf at h
    unfold Program.keyLits
    split at h
    · rename_i hu
      injection h with h
      obtain ⟨v, a, rfl, rfl, e⟩ := plain _ h.symm
      unfold litV at e
      split at e <;> simp_all
    · rename_i hu
      injection h with h
      obtain ⟨v, a, rfl, rfl, e⟩ := plain _ h.symm
      unfold litV at e
      split at e <;> simp_all
      obtain ⟨⟨e1, e2⟩, e3⟩ := e
      subst e1; simp_all
    · rename_i hu
      injection h with h
      obtain ⟨v, a, rfl, rfl, e⟩ := plain _ h.symm
      unfold litV at e
      split at e <;> simp_all
    · rename_i n e hu
      split at h
      · rename_i k2 hk
        split at h
        · rename_i hc
          injection h with h
          have hlen := litsV_len hl
          rw [← h] at hl hlen
          obtain ⟨as, i1, i2⟩ := items_lits (P := P) (m := m) (cs := vs) (e := e) (fun vs l hvl => keyLits_kinds m e k2 vs l hk hvl) hc.1 (n := n) (i0 := 0) (by simpa using hl)
          simp only [hu]
          rw [if_pos (by rw [hlen, hc.2]; simp), List.range_eq_range', i1]
          simp [i2]
        · cases h
      · cases h
    · rename_i fs hu
      split at h
      · rename_i k2 hk
        split at h
        · rename_i hc
          injection h with h
          subst h
          have hlen := litsV_len hl
          obtain ⟨as, i1, i2⟩ := fields_lits (P := P) (m := m) (cs := vs) (fun t ks vs l hkl hvl => keyLits_kinds m t ks vs l hkl hvl) (fs := fs.toList) (off := 0) hk (by simpa using hl)
          simp only [hu]
          rw [if_pos ⟨by rw [hlen, hc.1], hc.2⟩, i1]
          simp [i2]
        · cases h
      · cases h
    · cases h

theorem eqC_lits {I : Addr → Prop} {w : World} : ∀ {ks : List SK} {xs ys : List D} {us vs : List Value}, eqC ks xs ys → us.length = xs.length → vs.length = ys.length →
    (∀ (k : Nat) (c : D) (v : Value), xs[k]? = some c → us[k]? = some v → Rep I w c v) → (∀ (k : Nat) (c : D) (v : Value), ys[k]? = some c → vs[k]? = some v → Rep I w c v) →
    ∃ la lb, litsV ks us = some la ∧ litsV ks vs = some lb ∧ (eqB xs ys = true ↔ la = lb) ∧ xs.length = ks.length ∧ ys.length = ks.length
  | [], [], [], us, vs, _, hu, hv, _, _ => by
    have e1 : us = [] := List.eq_nil_of_length_eq_zero (by simpa using hu)
    have e2 : vs = [] := List.eq_nil_of_length_eq_zero (by simpa using hv)
    subst e1; subst e2
    exact ⟨[], [], rfl, rfl, by simp [eqB], rfl, rfl⟩
  | k :: ks, x :: xs, y :: ys, us, vs, h, hu, hv, h1, h2 => by
    cases us with
    | nil => simp at hu
    | cons u us =>
    cases vs with
    | nil => simp at hv
    | cons v vs =>
      have hx := h1 0 x u rfl rfl
      have hy := h2 0 y v rfl rfl
      have ih : eqC ks xs ys → ∃ la lb, litsV ks us = some la ∧ litsV ks vs = some lb ∧ (eqB xs ys = true ↔ la = lb) ∧ xs.length = ks.length ∧ ys.length = ks.length := fun h' =>
        eqC_lits h' (by simpa using hu) (by simpa using hv) (fun k c z a b => h1 (k + 1) c z (by simpa using a) (by simpa using b)) (fun k c z a b => h2 (k + 1) c z (by simpa using a) (by simpa using b))
      unfold eqC at h
      split at h
      · rename_i heq1 heq2 heq3
        injection heq1 with a1 a2; injection heq2 with b1 b2; injection heq3 with c1 c2
        subst a1; subst a2; subst b1; subst b2; subst c1; subst c2
        obtain ⟨rfl, rfl, h⟩ := h
        obtain ⟨la, lb, e1, e2, e3, e4, e5⟩ := ih h
        cases hx; cases hy
        rename_i s1 s2
        simp only [Sc] at s1 s2
        refine ⟨_, _, by simp [litsV, litV, e1, Lit.wf, s1]; rfl, by simp [litsV, litV, e2, Lit.wf, s2]; rfl, by simp [eqB, e3], by simp [e4], by simp [e5]⟩
      · rename_i heq1 heq2 heq3
        injection heq1 with a1 a2; injection heq2 with b1 b2; injection heq3 with c1 c2
        subst a1; subst a2; subst b1; subst b2; subst c1; subst c2
        obtain ⟨la, lb, e1, e2, e3, e4, e5⟩ := ih h
        cases hx; cases hy
        refine ⟨_, _, by simp [litsV, litV, e1]; rfl, by simp [litsV, litV, e2]; rfl, by simp [eqB, e3], by simp [e4], by simp [e5]⟩
      · rename_i heq1 heq2 heq3
        injection heq1 with a1 a2; injection heq2 with b1 b2; injection heq3 with c1 c2
        subst a1; subst a2; subst b1; subst b2; subst c1; subst c2
        obtain ⟨la, lb, e1, e2, e3, e4, e5⟩ := ih h
        cases hx; cases hy
        rename_i s t s1 s2
        simp only [Sc] at s1 s2
        refine ⟨_, _, by simp [litsV, litV, e1, maxLen, s1]; rfl, by simp [litsV, litV, e2, maxLen, s2]; rfl, ?_, by simp [e4], by simp [e5]⟩
        simp only [eqB, Bool.and_eq_true, decide_eq_true_eq, e3, List.cons.injEq, Lit.string.injEq]
        constructor
        · rintro ⟨rfl, h⟩; exact ⟨rfl, h⟩
        · rintro ⟨h1, h⟩; exact ⟨by cases s; cases t; simp at h1; simp [h1], h⟩
      · rename_i heq1 _ _; cases heq1
      · exact h.elim
  | [], _ :: _, _, us, vs, h, _, _, _, _ => by simp [eqC] at h
  | [], [], _ :: _, us, vs, h, _, _, _, _ => by simp [eqC] at h
  | k :: ks, [], _, us, vs, h, _, _, _, _ => by cases k <;> simp [eqC] at h
  | k :: ks, x :: xs, [], us, vs, h, _, _, _, _ => by
    exfalso
    unfold eqC at h
    split at h
    · rename_i e; cases e
    · rename_i e; cases e
    · rename_i e; cases e
    · rename_i e _ _; cases e
    · exact h

theorem toDs_all : ∀ {cs : List AV} {ds : List D}, toDs cs = some ds → ds.length = cs.length ∧ ∀ (k : Nat) (d : D), ds[k]? = some d → ∃ c : AV, cs[k]? = some c ∧ c.toD1 = some d
  | [], ds, h => by simp [toDs] at h; subst h; simp
  | c :: cs, ds, h => by
    simp only [toDs] at h
    split at h
    · rename_i x l h1 h2
      injection h with h; subst h
      obtain ⟨i1, i2⟩ := toDs_all h2
      refine ⟨by simp [i1], fun k d hk => ?_⟩
      cases k with
      | zero => simp at hk; subst hk; exact ⟨c, rfl, h1⟩
      | succ k => exact i2 k d (by simpa using hk)
    · cases h

theorem rowD_rep {G : Gh} {w : World} {x : AV} {xs : List D} {v : Value} (h : x.rowD = some xs) (hr : RepA G w x v) : ∃ cs, v = .agg cs ∧ cs.size = xs.length ∧ ∀ (k : Nat) (c : D) (u : Value), xs[k]? = some c → cs.toList[k]? = some u → Rep G.I w c u := by
  unfold AV.rowD at h
  split at h
  · injection h with h; subst h
    cases hr; rename_i hr
    cases hr; rename_i vs hl h1 hr
    exact ⟨vs, rfl, hl, fun k c u hk hu => hr k c u hk (by simpa using hu)⟩
  · cases hr; rename_i cs vs hl h1 hr
    obtain ⟨i1, i2⟩ := toDs_all h
    refine ⟨vs, rfl, by rw [hl, i1], fun k c u hk hu => ?_⟩
    obtain ⟨a, ha, hd⟩ := i2 k c hk
    exact toD1_rep hd (hr k a u ha (by simpa using hu))
  · cases h
end

section
variable {E : Env} {P : Program} {ro : Option Nat} {o : Oper}

theorem sound_eqrow {neg t u x y x' y' ks} {xv yv : AV} {xs ys : List D} (h : o.op = .binOp (if neg then .neq else .eql) t x y u) (hx : CO x x') (hy : CO y y') (hk : kindsOf P 20 t = some ks) (hkey : P.keyTypeAt 20 t = true) (hg : P.eqGuardType P.depth t = false)
    (hcl : P.cellsOf t = ks.length) (hr : (match P.underlying t with | some (.array _ _) | some (.struct _) => true | _ => false) = true) (h1 : xv.rowD = some xs) (h2 : yv.rowD = some ys) (hc : eqC ks xs ys) (p : Prop) :
    OpLoc E P ro o [(x', xv), (y', yv)] { c := p, v := .d (.lit (.bool (neg ^^ eqB xs ys))) } :=
  opLoc_pure (by simp [h]) fun G a w hp H hv => by
    obtain ⟨v1, v2⟩ := ev2 hv hx hy
    obtain ⟨cs, e1, l1, r1⟩ := rowD_rep h1 v1
    obtain ⟨ds, e2, l2, r2⟩ := rowD_rep h2 v2
    obtain ⟨la, lb, q1, q2, q3, q4, q5⟩ := eqC_lits (us := cs.toList) (vs := ds.toList) hc (by simpa using l1) (by simpa using l2) r1 r2
    have fm : ∀ zs : Array Value, zs.size = ks.length → (Value.agg zs).formed P t = true := fun zs hz => by
      unfold Value.formed
      split at hr <;> simp_all
    obtain ⟨r, hrun, hiff⟩ := run_equalIn_deep (P := P) 9980 20 t hkey w 20 20 (.agg cs) (.agg ds) la lb (fm _ (l1.trans q4)) (fm _ (l2.trans q5)) (keyLits_kinds 20 t ks _ la hk q1) (keyLits_kinds 20 t ks _ lb hk q2)
    have hre : r = eqB xs ys := by
      cases r <;> cases hb : eqB xs ys <;> simp_all
    refine ⟨.bool (neg ^^ eqB xs ys), ?_, repBool _⟩
    have hrun' : (Op.equalIn 10000 t (.agg cs) (.agg ds)).run P w = .ok (eqB xs ys) w := by rw [← hre]; exact hrun
    cases neg
    · simp [execOp, h, e1, e2, run_eqGuard_agg w .eql t x y cs ds hg, run_eql_struct w t cs ds, hrun']
    · simp [execOp, h, e1, e2, run_eqGuard_agg w .neq t x y cs ds hg, run_neq_struct w t cs ds, hrun']

theorem run_sliceAll {t e : TypeId} {i : TypeInfo} {n : Nat} {ad : Addr} {w : World} (hu : P.underlying t = some (.array n e)) (hi : P.info? e = some i) :
    (Instr.sliceAt t (.pointer (some ad)) none none none).run P w = .ok (.slice (some (if n = 0 then ad else ad.add (0 * i.size))) n n) w := by
  simp [Instr.sliceAt, Instr.sureAddr, run_underlying hu, Instr.sliceBounds, sizeOf, typeInfo, hi]

theorem sound_sliceA_box {t e n x x' i sz b off} (h : o.op = .slice t x none none none) (hx : CO x x') (hu : P.underlying t = some (.array n e)) (hi : P.info? e = some i) (hs : i.size = sz) (hm : n ≤ 9223372036854775807)
    {hin : List (Nat × HO)} (p : Prop) : OpLoc E P ro o [(x', .ptr b off)] { c := p, v := .bsl b off sz n n, hin := hin } := by
  intro G a w hp H hv _ _ K Q hK
  have hr := ev1 hv hx
  generalize he : a.eval x = u at hr
  cases hr
  rename_i bk hb
  refine wpIn_value (by simp [h]) (v := .slice (some ⟨bk, off, none⟩) n n) (w' := w) ?_ (hK _ w G (GLe.refl G w) H (.bsl hb (Nat.le_refl _) (Nat.le_refl _) hm (.inl rfl)))
  have hrun := run_sliceAll (P := P) (w := w) (ad := ⟨bk, off, none⟩) hu hi
  have : (if n = 0 then (⟨bk, off, none⟩ : Addr) else (⟨bk, off, none⟩ : Addr).add (0 * i.size)) = ⟨bk, off, none⟩ := by split <;> simp [Addr.add]
  rw [this] at hrun
  simp only [execOp, h, Sem.run_bind, he, Option.map_none, hrun, Result.andThen_ok, Sem.run_pure]

theorem sound_sliceZ {t e n x x' i sz b off} {ag : Bool} {cs : List AV} {ds : List D} (h : o.op = .slice t x none none none) (hx : CO x x') (hu : P.underlying t = some (.array n e)) (hi : P.info? e = some i) (hs : i.size = sz) (hm : n ≤ 9223372036854775807)
    (he : allD cs = some ds) (hc : off + n * sz ≤ ds.length) (p : Prop) : OpLoc E P ro o [(x', .ptr b off)] { c := p, v := .d (.sl sz (elsD sz n (ds.drop off))), hin := [(b, .box ag cs)], up := [(b, .dead)] } := by
  intro G a w hp H hv hin _ K Q hK
  have hn : hp b = some (.box ag cs) := hin (b, .box ag cs) (by simp)
  obtain ⟨bk, arr, ty, e1, e2, e3, e4⟩ := H.box b ag cs hn
  obtain ⟨l1, l2⟩ := H.freeze hn e1
  have hr := ev1 hv hx
  have hval : a.eval x = .pointer (some ⟨bk, off, none⟩) := by
    generalize a.eval x = u at hr
    cases hr
    rename_i bk' hb
    rw [e1] at hb; injection hb with hb; subst hb
    rfl
  have hes := allD_eq he
  have e4 := e4.1
  have hone : ∀ d ∈ ds, d.one = true := fun d hd => e4 (.d d) (by rw [hes]; exact List.mem_map_of_mem hd)
  have hcell : ∀ k, w.cell? ⟨bk, k, none⟩ = arr[k]? := fun k => cell_of_row w bk k arr ty (0, 0) e2
  have hget : ∀ k d, ds[k]? = some d → ∃ u, arr[k]? = some u ∧ Rep G.I w d u := fun k d hk => by
    have hlt : k < arr.size := by
      refine Nat.lt_of_lt_of_le ?_ e3.1; rw [hes, List.length_map]; exact (List.getElem?_eq_some_iff.1 hk).1
    exact ⟨arr[k], Array.getElem?_eq_getElem hlt, (e3.2 k (.d d) _ (by rw [hes]; simp [hk]) (Array.getElem?_eq_getElem hlt)).of_d⟩
  obtain ⟨q1, q2, q3⟩ := elsD_spec (z := sz) (len := n) (ds := ds.drop off) (by simp; omega) (fun d hd => hone d (List.mem_of_mem_drop hd))
  have hfl : ∀ k d, (D.flat (elsD sz n (ds.drop off)))[k]? = some d → ds[off + k]? = some d := fun k d hk => by
    rw [q3, List.getElem?_take] at hk
    split at hk
    · rw [List.getElem?_drop] at hk; exact hk
    · cases hk
  have hrun := run_sliceAll (P := P) (w := w) (ad := ⟨bk, off, none⟩) hu hi
  have : (if n = 0 then (⟨bk, off, none⟩ : Addr) else (⟨bk, off, none⟩ : Addr).add (0 * i.size)) = ⟨bk, off, none⟩ := by split <;> simp [Addr.add]
  rw [this] at hrun
  refine wpIn_value (by simp [h]) (v := .slice (some ⟨bk, off, none⟩) n n) (w' := w) (by simp only [execOp, h, Sem.run_bind, hval, Option.map_none, hrun, Result.andThen_ok, Sem.run_pure]) (hK _ _ _ l1 l2 (.d ?_))
  refine .sl ⟨bk, off, none⟩ (fun k => (arr[off + k]?).getD undef) q1.symm (Nat.le_refl _) hm (.inl rfl) q2 (fun d hd => ?_) (fun k d hk => ?_) (fun k d hk => ?_)
  · rw [q3] at hd
    exact hone d (List.mem_of_mem_drop (List.mem_of_mem_take hd))
  · obtain ⟨u, h2, _⟩ := hget _ d (hfl k d hk)
    rw [add_mk]
    exact ⟨.inr ⟨rfl, by rw [hcell, h2]; rfl⟩, by rw [hcell, h2]; rfl⟩
  · obtain ⟨u, h2, h3⟩ := hget _ d (hfl k d hk)
    simp only [h2, Option.getD]
    exact h3.mono l1.imm

theorem flat_ones : ∀ {cs : List D}, (∀ c ∈ cs, c.one = true) → D.flat cs = cs
  | [], _ => rfl
  | c :: cs, h => by
    have h1 := h c (by simp)
    have ih := flat_ones (cs := cs) (fun x hx => h x (by simp [hx]))
    simp only [D.flat] at ih
    simp only [D.flat, List.flatMap_cons, ih]
    cases c <;> simp [D.one] at h1 <;> rfl
theorem one_cells {c : D} (h : c.one = true) : c.cells = [c] := by cases c <;> simp [D.one] at h <;> rfl

theorem sound_sliceA_ip {t e n x x' i} {y : D} (h : o.op = .slice t x none none none) (hx : CO x x') (hu : P.underlying t = some (.array n e)) (hi : P.info? e = some i) (hs : i.size = 1) (hm : n ≤ 9223372036854775807)
    (hc : y.cells.length = n) (p : Prop) : OpLoc E P ro o [(x', .d (.ip y))] { c := p, v := .d (.sl 1 y.cells) } :=
  opLoc_pure (by simp [h]) fun G ac w hp H hv => by
    have hr := (ev1 hv hx).of_d
    generalize he : ac.eval x = u at hr
    cases hr
    rename_i ad vs h1 hI hr
    have hrun := run_sliceAll (P := P) (w := w) (ad := ad) hu hi
    have hadd : (if n = 0 then ad else ad.add (0 * i.size)) = ad := by simp [Addr.add]
    rw [hadd] at hrun
    refine ⟨.slice (some ad) n n, by simp only [execOp, h, Sem.run_bind, he, Option.map_none, hrun, Result.andThen_ok, Sem.run_pure], .d ?_⟩
    refine .sl ad vs hc.symm (Nat.le_refl _) hm ?_ (fun e he' => by rw [one_cells (h1 e he')]; rfl) (by rw [flat_ones h1]; exact h1) (by rw [flat_ones h1]; exact hI) (by rw [flat_ones h1]; exact hr)
    exact .inl rfl

theorem sound_bytesStr {s t e x x' sz} {v : AV} {es : List D} (h : o.op = .convert s t x) (hx : CO x x') (hs : P.underlying s = some (.slice e)) (he : P.underlying e = some (.int .u8)) (ht : P.underlying t = some .string)
    (hel : v.elems = some (sz, es)) (hc : (sz = 1 ∨ es = []) ∧ ∀ e ∈ es, e.u8.isSome = true) (p : Prop) : OpLoc E P ro o [(x', v)] { c := p, v := .d (.lit (.string (bytesOf es))) } :=
  opLoc_pure (by simp [h]) fun G ac w hp H hv => by
    have hr := elems_rep hel G w _ (ev1 hv hx)
    generalize hev : ac.eval x = u at hr
    obtain ⟨n, A, cap, ad, vs, rfl, hn, hcap, hm, hA, hz, h1, hI, hrr⟩ := hr.sl_inv
    have hones : ∀ c ∈ es, c.one = true := fun c hc' => by
      have := hc.2 c hc'
      unfold D.u8 at this
      split at this
      · rfl
      · cases this
    rw [flat_ones hones] at hI hrr
    have hsz : (bytesOf es).size ≤ 9223372036854775807 := by rw [bytesOf, strOfNums_size]; simp; omega
    refine ⟨.string (bytesOf es), ?_, .d (.lit hsz)⟩
    have hrun : (convert s t (.slice A n cap)).run P w = .ok (.string (bytesOf es)) w := by
      cases A with
      | none =>
        have hes : es = [] := by
          rcases hA with h' | h'
          · cases h'
          · exact h'
        rw [run_convert_bytes_nil w s e hs he n cap t ht, hes]; rfl
      | some a =>
        have hl : (loadCells a n).run P w = .ok ((es.map D.num).map (Value.int .u8)).toArray w := by
          have := run_loadCells_list (P := P) w a ((es.map D.num).map (Value.int .u8)) (fun j u hj => by
            simp only [List.getElem?_map, Option.map_map, Option.map_eq_some_iff] at hj
            obtain ⟨c, hcj, rfl⟩ := hj
            have hne : es ≠ [] := by rintro rfl; simp at hcj
            have hA' := hA.resolve_right hne
            injection hA' with hA'; subst hA'
            rw [(hI j c hcj).2]
            have hr1 := hrr j c hcj
            have hu := hc.2 c (List.mem_of_getElem? hcj)
            unfold D.u8 at hu
            split at hu
            · generalize vs j = z at hr1 ⊢; cases hr1; rfl
            · cases hu)
          simpa [hn] using this
        rw [run_convert_bytes_string w s t e _ n cap hs he ht, run_bytesToString w a n cap _ hl, foldl_push_bytes]
        simp [bytesOf, strOfNums, ByteArray.empty, ByteArray.emptyWithCapacity]
        rfl
    simp only [execOp, h, Sem.run_bind, hev, hrun, Result.andThen_ok, Sem.run_pure]

/-- The further operations. -/
theorem stepX_sound {k : Ext} {xs : List Opd} {hl : List (Nat × HO)} {vals : List AV} {e : Eff} (hcmp : CmpX P o k xs) (hl' : vals.length = xs.length) (he : stepX hl k vals = some e) (hc : e.c) :
    OpLoc E P ro o (xs.zip vals) e := by
  cases hcmp with
  | eqrow h hx hy hk hkey hg hcl hr =>
    simp only [stepX] at he
    split at he
    · split at he <;> simp only [Option.some.injEq, reduceCtorEq] at he
      rename_i h1 h2
      subst he; exact sound_eqrow h hx hy hk hkey hg hcl hr h1 h2 hc _
    · cases he
  | sliceA h hx hu hi hs hm =>
    simp only [stepX] at he
    split at he
    · split at he <;> simp only [Option.some.injEq, reduceCtorEq] at he
      subst he; exact sound_sliceA_box h hx hu hi hs hm _
    · simp only [Option.some.injEq] at he
      subst he; exact sound_sliceA_ip h hx hu hi (by rw [hs]; exact hc.1) hm hc.2.1 _
    · cases he
  | sliceZ h hx hu hi hs hm =>
    simp only [stepX] at he
    split at he
    · split at he
      · split at he
        · rename_i h3
          simp only [Option.some.injEq] at he
          subst he
          exact sound_sliceZ h hx hu hi hs hm h3 hc _
        · cases he
      · cases he
    · cases he
  | bytesStr h hx hs he' ht =>
    simp only [stepX] at he
    split at he
    · split at he <;> simp only [Option.some.injEq, reduceCtorEq] at he
      rename_i hel
      subst he; exact sound_bytesStr h hx hs he' ht hel hc _
    · cases he
  | eqBool h hx hy hu =>
    simp only [stepX] at he
    split at he <;> simp only [Option.some.injEq, reduceCtorEq] at he
    subst he; exact sound_eqBool h hx hy hu _
  | isNil h hx hu =>
    simp only [stepX] at he
    split at he <;> simp only [Option.some.injEq, reduceCtorEq] at he
    · subst he; exact sound_isNil_n h hx hu _
    · subst he; exact sound_isNil_i h hx hu _
  | strIdx h hx hy hu =>
    simp only [stepX] at he
    split at he <;> simp only [Option.some.injEq, reduceCtorEq] at he
    subst he; exact sound_strIdx h hx hy hu hc _
  | boxI h hx =>
    simp only [stepX] at he
    split at he <;> simp only [Option.some.injEq, reduceCtorEq] at he
    subst he; exact sound_boxI h hx hc _
  | mksl0 h hu hi hp =>
    simp only [stepX] at he
    split at he <;> simp only [Option.some.injEq, reduceCtorEq] at he
    subst he; exact sound_mksl0 h hu hi hp _
  | appendW h hx hy hu hi hs hb hz hzs hs0 =>
    simp only [stepX] at he
    split at he
    · split at he <;> simp only [Option.some.injEq, reduceCtorEq] at he
      rename_i hel
      subst he; exact sound_appendW h hx hy hu hi hs hb hz hzs hs0 hel hc _
    · split at he
      · rename_i hlk hlq
        split at he <;> simp only [Option.some.injEq, reduceCtorEq] at he
        rename_i hdv
        subst he
        obtain ⟨⟨rfl, rfl⟩, hc⟩ := hc
        exact sound_appendB h hx hy hu hi hs hb hz hzs hs0 (newName_ne hlk) (newName_ne hlq) hdv hc _
      · cases he
    · cases he
  | sliceAB h hx hlo hhi hu hi hs hm ha hb =>
    subst ha; subst hb
    simp only [stepX] at he
    split at he
    · rename_i vs
      split at he
      · rename_i h1
        split at he <;> simp only [Option.some.injEq, reduceCtorEq] at he
        rename_i h2
        rw [bound_fl] at h1 h2
        subst he; exact sound_sliceAB h hx hlo hhi hu hi hs hm h1 h2 hc _
      · cases he
    · cases he
  | sliceB h hx hlo hhi hu hi hs ha hb =>
    subst ha; subst hb
    simp only [stepX] at he
    split at he
    · split at he
      · rename_i h1
        split at he <;> simp only [Option.some.injEq, reduceCtorEq] at he
        rename_i h2
        rw [bound_fl] at h1 h2
        subst he; exact sound_sliceB h hx hlo hhi hu hi hs h1 h2 hc _
      · cases he
    · split at he
      · rename_i hel
        split at he
        · rename_i h1
          split at he <;> simp only [Option.some.injEq, reduceCtorEq] at he
          rename_i h2
          rw [bound_fl] at h1 h2
          subst he; exact sound_slice h hx hlo hhi hu hi hs hel h1 h2 hc _
        · cases he
      · cases he
    · cases he
  | mkslB h hl hcc hu hi hs hb hz hzz hzs hone hs0 =>
    simp only [stepX] at he
    split at he <;> simp only [Option.some.injEq, reduceCtorEq] at he
    subst he; exact sound_mkslB h hl hcc hu hi hs hb hz hzz hzs hone hs0 hc _
  | copyB h hx hy hu hi hs =>
    simp only [stepX] at he
    split at he
    · split at he <;> simp only [Option.some.injEq, reduceCtorEq] at he
      subst he; exact sound_copyB_b h hx hy hu hi hs hc _
    · split at he <;> simp only [Option.some.injEq, reduceCtorEq] at he
      rename_i hel
      subst he; exact sound_copyB_d h hx hy hu hi hs hel hc _
    · cases he
  | strBytes h hx hs ht he' =>
    simp only [stepX] at he
    split at he <;> simp only [Option.some.injEq, reduceCtorEq] at he
    subst he; exact sound_strBytes h hx hs ht he' _
  | iceC h hx hs he' =>
    simp only [stepX] at he
    split at he
    · split at he
      · rename_i hlk
        split at he <;> simp only [Option.some.injEq, reduceCtorEq] at he
        rename_i had
        subst he; exact sound_iceC h hx hs he' had hc _
      · cases he
    · cases he
  | appendS h hx hy hu hu2 hi hs hb hz hzs =>
    simp only [stepX] at he
    split at he
    · split at he <;> simp only [Option.some.injEq, reduceCtorEq] at he
      rename_i r _ _ _ hlk
      subst he; exact sound_appendS_own h hx hy hu hu2 hi hs hb hz hzs (newName_ne hlk) hc _
    · simp only [Option.some.injEq] at he
      subst he; exact sound_appendS_nil h hx hy hu hu2 hi hs hb hz hzs hc _
    · cases he
  | idxB h hx hj hu hi hs =>
    simp only [stepX] at he
    split at he <;> simp only [Option.some.injEq, reduceCtorEq] at he
    subst he; exact sound_idxB h hx hj hu hi hs hc _
  | libClone h hx hl =>
    simp only [stepX] at he
    split at he
    · split at he <;> simp only [Option.some.injEq, reduceCtorEq] at he
      · rename_i hel
        subst he; exact sound_libClone_nil h hx hl hel _
      · rename_i hel
        subst he; exact sound_libClone_cons h hx hl hel hc _
    · cases he
  | libIns h hx hi hy hl =>
    simp only [stepX] at he
    split at he
    · split at he
      · split at he <;> simp only [Option.some.injEq, reduceCtorEq] at he
        rename_i hdv
        subst he
        obtain ⟨c1, c2, c3, c4, c5⟩ := hc
        subst c2
        exact sound_libIns_e h hx hi hy hl hdv _ ⟨c1, c3, c4, c5⟩ _
      · cases he
    · split at he
      · split at he <;> simp only [Option.some.injEq, reduceCtorEq] at he
        rename_i hds hdv
        subst he
        obtain ⟨⟨c1, c2, c3, c4, c5, c6⟩, c7, c8⟩ := hc
        subst c3; subst c4; subst c5
        exact sound_libIns_b h hx hi hy hl hds hdv _ ⟨⟨c1, c2, c6⟩, c7, c8⟩ _
      · cases he
    · cases he
  | mkslW h hu hi hs hs0 hz hzs hl hps =>
    simp only [stepX] at he
    split at he <;> simp only [Option.some.injEq, reduceCtorEq] at he
    rename_i hes
    subst he; exact sound_mkslW h hu hi hs hs0 hz hzs hl hps hl' hes hc.1 hc.2 _
  | iceM h hx =>
    simp only [stepX] at he
    split at he
    · split at he
      · split at he
        · rename_i h3
          simp only [Option.some.injEq] at he
          subst he
          exact sound_iceM h hx h3 hc _
        · cases he
      · cases he
    · cases he
  | lenB h hx hu =>
    simp only [stepX] at he
    split at he
    · simp only [Option.some.injEq] at he
      subst he; exact sound_lenB h hx hu _
    · split at he <;> simp only [Option.some.injEq, reduceCtorEq] at he
      rename_i hel
      subst he; exact sound_len h hx hu hel _
    · cases he
  | funcZ h hf hcs =>
    simp only [stepX] at he
    split at he
    · split at he
      · rename_i h1 h2
        split at he
        · rename_i h3
          simp only [Option.some.injEq] at he
          subst he
          exact sound_funcZ h hf hcs (by assumption) h2 h3 hc _
        · cases he
      · cases he
    · cases he
  | idxV h hx hy hu hi hs hd hag =>
    simp only [stepX] at he
    split at he <;> simp only [Option.some.injEq, reduceCtorEq] at he
    subst he; exact sound_idxV h hx hy hu hi hs hd hag hc.1 hc.2.1 hc.2.2 _
  | shift h hx hy =>
    simp only [stepX] at he
    split at he <;> simp only [Option.some.injEq, reduceCtorEq] at he
    subst he; exact sound_shift h hx hy hc _
  | uneg h hx =>
    simp only [stepX] at he
    split at he <;> simp only [Option.some.injEq, reduceCtorEq] at he
    subst he; exact sound_uneg h hx _
  | ucompl h hx =>
    simp only [stepX] at he
    split at he <;> simp only [Option.some.injEq, reduceCtorEq] at he
    subst he; exact sound_ucompl h hx _
  | tassert h hx hu hd hi hz hzz =>
    simp only [stepX] at he
    split at he <;> simp only [Option.some.injEq, reduceCtorEq] at he
    · subst he; exact sound_tassert_i h hx hu hd hi hz hzz _
    · subst he; exact sound_tassert_n h hx hu hd hi hz hzz _
  | nilChk h hx =>
    simp only [stepX] at he
    split at he <;> simp only [Option.some.injEq, reduceCtorEq] at he
    · subst he; exact sound_nilChk_p h hx _
    · subst he; exact sound_nilChk_d h hx _
  | mkmap h =>
    simp only [stepX] at he
    split at he <;> simp only [Option.some.injEq, reduceCtorEq] at he
    subst he; exact sound_mkmap h _
  | insert h hm hk hv hu hkt =>
    simp only [stepX] at he
    split at he
    · split at he
      · split at he <;> simp only [Option.some.injEq, reduceCtorEq] at he
        rename_i hf
        subst he; exact sound_insert h hm hk hv hu hkt hf hc _
      · cases he
    · cases he
  | lookup h hm hk hu hkt hi hz hzz =>
    simp only [stepX] at he
    split at he
    · split at he
      · split at he <;> simp only [Option.some.injEq, reduceCtorEq] at he
        · rename_i hf
          subst he; exact sound_lookup h hm hk hu hkt hi hz hzz hf hc _
        · rename_i hf
          subst he; exact sound_lookup h hm hk hu hkt hi hz hzz hf hc _
      · cases he
    · simp only [Option.some.injEq] at he
      subst he; exact sound_lookup_nil h hm hk hu hkt hi hz hzz hc _
    · cases he
  | capNil h hx hu =>
    simp only [stepX] at he
    split at he <;> simp only [Option.some.injEq, reduceCtorEq] at he
    subst he; exact sound_capNil h hx hu _
  | appendN h hx hy hu htn hi hs hb hz hzs hs0 =>
    simp only [stepX] at he
    split at he <;> simp only [Option.some.injEq, reduceCtorEq] at he
    subst he; exact sound_appendN h hx hy hu htn hi hs hb hz hzs hs0 hc _
  | makeslice h hl hcc hu hi hs hb hz hzz hzs hone hs0 =>
    simp only [stepX] at he
    split at he <;> simp only [Option.some.injEq, reduceCtorEq] at he
    subst he; exact sound_makeslice h hl hcc hu hi hs hb hz hzz hzs hone hs0 hc _
end
end Go.Proofs.YtfegfnekphobmaaDoor.AL
end
