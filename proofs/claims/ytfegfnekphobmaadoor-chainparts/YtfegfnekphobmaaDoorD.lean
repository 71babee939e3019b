/- Part of the proof: AL11, AL12, AL13, AL14, AL15, AL16, AL17, AL18, AL19. -/
import Derived.RangeFuncIn
import Derived.RangeFuncSeq
import Derived.Test.YtfegfnekphobmaaDoorC
set_option linter.unnecessarySimpa false
set_option linter.unusedVariables false
set_option linter.unusedSimpArgs false
section
namespace Go.Proofs.YtfegfnekphobmaaDoor.AL
open Go

theorem look_lt : ∀ {hl : List (Nat × HO)} {n : Nat} {x : HO}, look hl n = some x → n < newName hl
  | [], n, x, h => by simp [look] at h
  | (m, y) :: r, n, x, h => by
    simp only [look] at h
    simp only [newName]
    split at h
    · rename_i e; subst e; exact Nat.lt_of_lt_of_le (Nat.lt_succ_self _) (Nat.le_max_left _ _)
    · exact Nat.lt_of_lt_of_le (look_lt h) (Nat.le_max_right _ _)

section
variable {E : Env} {P : Program} {ro : Option Nat} {o : Oper}

theorem run_append_op {x y : Operand} {t : TypeId} {a : Act} {w w' : World} {v : Value} (h : o.op = .call { callee := .builtin .append, args := #[x, y], argTypes := #[t, t] })
    (hr : (Builtin.append_ #[t, t] o.type #[a.eval x, a.eval y]).run P w = .ok v w') : (execOp a.eval o).run P w = .ok (.value v) w' := by
  simp [execOp, h, resolve, invoke, builtin, hr]

theorem sound_append_own {t e i zv x y x' y' sz bytes r sz' sy q} {es ys : List D} {v : AV} (h : o.op = .call { callee := .builtin .append, args := #[x, y], argTypes := #[t, t] }) (hx : CO x x') (hy : CO y y') (hu : P.underlying t = some (.slice e))
    (hi : P.info? e = some i) (hs : i.size = sz) (hb : i.bytes = bytes) (hz : i.zero = some zv) (hzs : zv.cells.size = sz) (hone : zv.cells.all (·.oneCell') = true) (hs0 : 0 < sz)
    (hv : v.elems = some (sy, ys)) (hqr : q ≠ r)
    (hc : sz' = sz ∧ (ys = [] ∨ sy = sz) ∧ (es.length + ys.length) * bytes ≤ 140737488355328 ∧ es.length + ys.length ≤ 9223372036854775807) (p : Prop) :
    OpLoc E P ro o [(x', .own r sz' es), (y', v)] { c := p, v := .own q sz (es ++ ys), hin := [(r, .row)], up := [(q, .row), (r, .dead)] } := by
  intro G a w hp H hx' hn hf K Q hK
  obtain ⟨c1, c2, c3, c4⟩ := hc
  subst c1
  obtain ⟨v1, v2⟩ := ev2 hx' hx hy
  have hry := elems_rep hv G w _ v2
  have hq : hp q = none := by
    rcases hf (q, .row) (by simp) with h' | ⟨z, hz', e'⟩
    · exact h'
    · simp at hz'; subst hz'; exact absurd e'.symm hqr
  have hr : hp r = some .row := hn (r, .row) (by simp)
  generalize he : a.eval x = u at v1
  cases v1
  rename_i A n cap hg hrep
  obtain ⟨A2, n2, cap2, sz2, g2, T⟩ := H.row r hr
  rw [hg] at g2
  injection g2 with g2; injection g2 with x1 x2; injection x2 with x2 x3; injection x3 with x3 x4
  subst x1; subst x2; subst x3; subst x4
  have H' := H.killRow hr
  have hq' : (hp.upd [(r, .dead)]) q = none := by rw [upd_one, if_neg hqr]; exact hq
  obtain ⟨val, w', G', e1, e2, e3, e4⟩ := append_core (E := E) (P := P) H' (ty := o.type) hu hi hs hb hz hzs hone hs0 hrep T hry c2 (fun hlt r' A' n' cap' sz'' hr' g' l' ad ad' f1 f2 hbb => by
      rw [upd_one] at hr'
      split at hr'
      · injection hr' with hr'; cases hr'
      · rename_i hne
        exact hne (H.rinj r r' _ _ _ _ _ _ _ _ hr hr' hg g' hlt l' ad ad' f1 f2 hbb).symm) c3 c4 hq'
  refine wpIn_value (by simp [h]) (run_append_op h (by rw [he]; exact e1)) (hK val w' G' e2 ?_ e4)
  have : hp.upd [(q, .row), (r, .dead)] = (hp.upd [(r, .dead)]).upd [(q, .row)] := by funext m; simp only [Hp.upd]
  rw [this]; exact e3

theorem sound_append_nil {t e i zv x y x' y' sz bytes sz' sy q} {ys : List D} {v : AV} (h : o.op = .call { callee := .builtin .append, args := #[x, y], argTypes := #[t, t] }) (hx : CO x x') (hy : CO y y') (hu : P.underlying t = some (.slice e))
    (hi : P.info? e = some i) (hs : i.size = sz) (hb : i.bytes = bytes) (hz : i.zero = some zv) (hzs : zv.cells.size = sz) (hone : zv.cells.all (·.oneCell') = true) (hs0 : 0 < sz)
    (hv : v.elems = some (sy, ys)) (hc : (ys = [] ∨ sy = sz) ∧ ys.length * bytes ≤ 140737488355328 ∧ ys.length ≤ 9223372036854775807) (p : Prop) :
    OpLoc E P ro o [(x', .d (.nil sz')), (y', v)] { c := p, v := .own q sz ys, up := [(q, .row)] } := by
  intro G a w hp H hx' _ hf K Q hK
  obtain ⟨c2, c3, c4⟩ := hc
  obtain ⟨v1, v2⟩ := ev2 hx' hx hy
  have hry := elems_rep hv G w _ v2
  have hq : hp q = none := by
    rcases hf (q, .row) (by simp) with h' | ⟨z, hz', _⟩
    · exact h'
    · simp at hz'
  have v1 := v1.of_d
  generalize he : a.eval x = u at v1
  cases v1
  have hrep : Rep G.I w (.sl sz []) (.slice none 0 0) := .sl ⟨0, 0, none⟩ (fun _ => undef) rfl (by simp) (by simp) (.inr rfl) (by simp) (by simp [D.flat]) (by simp [D.flat]) (by simp [D.flat])
  obtain ⟨val, w', G', e1, e2, e3, e4⟩ := append_core (E := E) (P := P) H (ty := o.type) hu hi hs hb hz hzs hone hs0 hrep (fun k hk hk' => by simp at hk') hry c2 (fun hlt => by simp at hlt) (by simpa using c3) (by simpa using c4) hq
  exact wpIn_value (by simp [h]) (run_append_op h (by rw [he]; exact e1)) (hK val w' G' e2 e3 (by simpa using e4))

end

/-- Every compact operation does what 'stepV' says. -/
theorem step_sound {E : Env} {P : Program} {ro : Option Nat} {o : Oper} {op : AOp} {hl : List (Nat × HO)} {vals : List AV} {e : Eff} (hcmp : Cmp P o op) (hl' : vals.length = op.opds.length) (he : stepV hl op vals = some e) (hc : e.c) :
    OpLoc E P ro o (op.opds.zip vals) e := by
  cases hcmp with
  | mov h hx =>
    simp only [stepV] at he
    split at he <;> simp only [Option.some.injEq, reduceCtorEq] at he
    subst he; exact sound_mov h hx _
  | pick h h1 h2 h3 =>
    simp only [stepV] at he
    split at he <;> simp only [Option.some.injEq, reduceCtorEq] at he
    subst he; exact sound_pick h h1 h2 h3 _
  | alloc h hi hz hzz =>
    simp only [stepV] at he
    split at he <;> simp only [Option.some.injEq, reduceCtorEq] at he
    subst he; exact sound_alloc h hi hz hzz _
  | box h hx =>
    simp only [stepV] at he
    split at he <;> simp only [Option.some.injEq, reduceCtorEq] at he
    subst he; exact sound_box h hx hc _
  | build h hi hz hzz place hp hps =>
    simp only [stepV, Option.some.injEq] at he
    subst he; exact sound_build h hzz place hp hps hc _
  | mkslice h hu hi hs hs0 hz hzs hl hps =>
    simp only [stepV] at he
    split at he <;> simp only [Option.some.injEq, reduceCtorEq] at he
    rename_i es hes
    subst he; exact sound_mkslice h hu hi hs hs0 hz hzs hl hps hl' hes hc _
  | load h hx hi hs hu hag =>
    simp only [stepV] at he
    split at he
    · split at he <;> simp only [Option.some.injEq, reduceCtorEq] at he
      subst he; exact sound_load_box h hx hi hs hu hag hc.1 hc.2 _
    · simp only [Option.some.injEq] at he
      subst he; exact sound_load_ip h hx hi hs hu hag hc.1 hc.2 _
    · cases he
  | store h hx hy hi hs =>
    simp only [stepV] at he
    split at he
    · split at he <;> simp only [Option.some.injEq, reduceCtorEq] at he
      subst he; exact sound_store h hx hy hi hs hc.1 hc.2.1 hc.2.2 _
    · cases he
  | arith h hx hy hop =>
    simp only [stepV] at he
    split at he
    · split at he <;> simp only [Option.some.injEq, reduceCtorEq] at he
      rename_i hr
      subst he; exact sound_arith_int h hx hy hop hr hc.1 hc.2 _
    · split at he <;> simp only [Option.some.injEq, reduceCtorEq] at he
      rename_i hr
      subst he; exact sound_arith_str h hx hy hr hc _
    · cases he
  | not h hx =>
    simp only [stepV] at he
    split at he <;> simp only [Option.some.injEq, reduceCtorEq] at he
    subst he; exact sound_not h hx _
  | field h hx hu hf hi hs hs0 =>
    simp only [stepV] at he
    split at he <;> simp only [Option.some.injEq, reduceCtorEq] at he
    · subst he; exact sound_field_box h hx hu hf hi hs hs0 _
    · subst he; exact sound_field_ip h hx hu hf hi hs hs0 hc.1 hc.2 _
  | fieldv h hx hu hf hi hs hd hag =>
    simp only [stepV] at he
    split at he <;> simp only [Option.some.injEq, reduceCtorEq] at he
    subst he; exact sound_fieldv h hx hu hf hi hs hd hag hc.1 hc.2 _
  | index h hx hj hu hi hs =>
    simp only [stepV] at he
    split at he
    · split at he <;> simp only [Option.some.injEq, reduceCtorEq] at he
      rename_i hel
      subst he; exact sound_index_elems h hx hj hu hi hs hel hc _
    · cases he
  | indexA h hx hj hu hi hs =>
    simp only [stepV] at he
    split at he <;> simp only [Option.some.injEq, reduceCtorEq] at he
    · subst he; exact sound_indexA_box h hx hj hu hi hs hc _
    · subst he; exact sound_indexA_ip h hx hj hu hi hs hc _
  | slice h hx hlo hhi hu hie hs =>
    simp only [stepV] at he
    split at he
    · simp only [Option.some.injEq] at he
      obtain ⟨hc1, hc2⟩ : _ ∧ _ := by subst he; exact hc
      subst hc2
      cases hlo
      cases hhi with
      | none => simp [AOp.opds, optL] at hl'
      | some hhi => subst he; exact sound_slice_spare h hx hhi hu hie _
    · split at he
      · rename_i hel
        split at he
        · rename_i hb1
          split at he <;> simp only [Option.some.injEq, reduceCtorEq] at he
          rename_i hb2
          subst he; exact sound_slice h hx hlo hhi hu hie hs hel hb1 hb2 hc _
        · cases he
      · cases he
    · cases he
  | sliceS h hx hlo hhi hu =>
    simp only [stepV] at he
    split at he
    · split at he
      · rename_i hb1
        split at he <;> simp only [Option.some.injEq, reduceCtorEq] at he
        rename_i hb2
        subst he; exact sound_sliceS h hx hlo hhi hu hb1 hb2 hc _
      · cases he
    · cases he
  | slice3 h hx hlo hhi hmx hu hie hs =>
    simp only [stepV] at he
    split at he
    · split at he
      · rename_i hel
        split at he <;> simp only [Option.some.injEq, reduceCtorEq] at he
        rename_i hb1
        subst he; exact sound_slice3 h hx hlo hhi hmx hu hie hs hel hb1 hc _
      · cases he
    · cases he
  | len h hx hu =>
    simp only [stepV] at he
    split at he
    · split at he <;> simp only [Option.some.injEq, reduceCtorEq] at he
      rename_i hel
      subst he; exact sound_len h hx hu hel _
    · cases he
  | lenS h hx hu =>
    simp only [stepV] at he
    split at he <;> simp only [Option.some.injEq, reduceCtorEq] at he
    subst he; exact sound_lenS h hx hu _
  | append h hx hy hu hi hs hb hz hzs hone hs0 =>
    simp only [stepV] at he
    split at he
    · split at he
      · rename_i hlk
        split at he <;> simp only [Option.some.injEq, reduceCtorEq] at he
        rename_i hel
        subst he
        exact sound_append_own h hx hy hu hi hs hb hz hzs hone hs0 hel (fun e => by have := look_lt hlk; omega) hc _
      · cases he
    · split at he <;> simp only [Option.some.injEq, reduceCtorEq] at he
      rename_i hel
      subst he; exact sound_append_nil h hx hy hu hi hs hb hz hzs hone hs0 hel hc _
    · cases he
  | minmax h hx hy =>
    simp only [stepV] at he
    split at he <;> simp only [Option.some.injEq, reduceCtorEq] at he
    subst he; exact sound_minmax h hx hy hc _
  | func h hf hcs =>
    simp only [stepV, Option.some.injEq] at he
    subst he; exact sound_func h hf hcs hl' _
  | extract h hx =>
    simp only [stepV] at he
    split at he <;> simp only [Option.some.injEq, reduceCtorEq] at he
    · subst he; exact sound_extract h hx hc _
    · subst he; exact sound_extract_d h hx hc _
  | conv h hx hs ht =>
    simp only [stepV] at he
    split at he <;> simp only [Option.some.injEq, reduceCtorEq] at he
    subst he; exact sound_conv h hx hs ht _
  | ifc h hx hu hd =>
    simp only [stepV] at he
    split at he <;> simp only [Option.some.injEq, reduceCtorEq] at he
    subst he; exact sound_ifc h hx hu hd _
  | ext h => exact stepX_sound h hl' he hc

end Go.Proofs.YtfegfnekphobmaaDoor.AL
end

section
namespace Go.Proofs.YtfegfnekphobmaaDoor.AL
open Go

inductive Out where
  | ret (d : D)
  | pan (d : D)
  | retM (es : List (Value × D))
  /-- The row of the first argument, gone on with. -/
  | app (sz : Nat) (es : List D)
def Out.isApp : Out → Bool
  | .app _ _ => true
  | _ => false

/-- How a call ends. -/
def OutR (out : Out) (I' : Addr → Prop) (w' : World) (e : Ending) (v : Value) (w : World := w') : Prop :=
  match out with
  | .ret d => e = .returned v ∧ Rep I' w' d v
  | .pan d => e = .panicked [{ v := v, recovered := false }] ∧ Rep I' w' d v
  | .app _ _ => False
  | .retM es => e = .returned v ∧ ∃ b arr ck, v = .map (some b) ∧ w.heap.size ≤ b ∧ w'.heap[b]? = some (.map arr ck) ∧ arr.size = es.length ∧ ∀ (k : Nat) (x : Value × D) (y : MapEntry), es[k]? = some x → arr[k]? = some y → y.key = x.1 ∧ Rep I' w' x.2 y.val

/-- A call on data: how it ends; what was there stands. -/
def PCall0 (P : Program) (f : FuncId) (args : List D) (out : Out) : Prop :=
  Callable P f ∧ ∀ (I : Addr → Prop) (w : World) (vals : Array Value), (∀ a, I a → (w.cell? a).isSome = true) → GlOk I w → RepL I w args vals →
    Calls P f vals w (fun e w' => ∃ (I' : Addr → Prop) (v : Value), (∀ a, I a → I' a) ∧ (∀ a, I' a → I a ∨ w.heap.size ≤ a.block) ∧ (∀ a, I' a → (w'.cell? a).isSome = true) ∧ Grow w w' ∧ OutR out I' w' e v w)

/-- The block of a row's free cells. -/
def RowB (A : Option Addr) (n cap sz b : Nat) : Prop := n * sz < cap * sz ∧ ∃ ad, A = some ad ∧ ad.block = b
/-- The free cells of a row. -/
def TailR (I : Addr → Prop) (w : World) (A : Option Addr) (n cap sz : Nat) : Prop :=
  ∀ k, n * sz ≤ k → k < cap * sz → ∃ ad, A = some ad ∧ (w.cell? (ad.add k)).isSome = true ∧ w.frozen? (ad.add k) = false ∧ ¬ I (ad.add k)
/-- What a call leaves that goes on with the row of its first argument. -/
def AEnd (I : Addr → Prop) (w : World) (A : Option Addr) (n cap sz : Nat) (es' : List D) (e : Ending) (w' : World) : Prop :=
  ∃ (I' : Addr → Prop) (A' : Option Addr) (n' cap' : Nat), e = .returned (.slice A' n' cap') ∧ (∀ a, I a → I' a ∧ w'.cell? a = w.cell? a) ∧ (∀ a, I' a → I a ∨ w.heap.size ≤ a.block ∨ RowB A n cap sz a.block) ∧ (∀ a, I' a → (w'.cell? a).isSome = true) ∧
    (w'.os = w.os ∧ w'.tape = w.tape ∧ w'.output = w.output ∧ w.heap.size ≤ w'.heap.size) ∧ (∀ b, b < w.heap.size → ¬ RowB A n cap sz b → w'.heap[b]? = w.heap[b]?) ∧
    Rep I' w' (.sl sz es') (.slice A' n' cap') ∧ TailR I' w' A' n' cap' sz ∧ (∀ b, RowB A' n' cap' sz b → w.heap.size ≤ b ∨ RowB A n cap sz b)
def ACall (P : Program) (f : FuncId) (sz : Nat) (es ds es' : List D) : Prop :=
  Callable P f ∧ ∀ (I : Addr → Prop) (w : World) (A : Option Addr) (n cap : Nat) (vals : List Value), (∀ a, I a → (w.cell? a).isSome = true) → GlOk I w → Rep I w (.sl sz es) (.slice A n cap) → RepL I w ds vals.toArray → TailR I w A n cap sz →
    Calls P f (.slice A n cap :: vals).toArray w (AEnd I w A n cap sz es')
/-- A call on data. -/
def PCall (P : Program) (f : FuncId) (args : List D) (out : Out) : Prop :=
  match out with
  | .ret d => PCall0 P f args (.ret d)
  | .pan d => PCall0 P f args (.pan d)
  | .retM es => PCall0 P f args (.retM es)
  | .app sz es' => match args with
    | .sl z es :: ds => z = sz ∧ ACall P f sz es ds es'
    | _ => False
theorem PCall.to0 {P : Program} {f : FuncId} {args : List D} {out : Out} (h : PCall P f args out) (ho : out.isApp = false) : PCall0 P f args out := by
  cases out <;> first | exact h | simp [Out.isApp] at ho
theorem PCall0.to {P : Program} {f : FuncId} {args : List D} {out : Out} (h : PCall0 P f args out) (ho : out.isApp = false) : PCall P f args out := by
  cases out <;> first | exact h | simp [Out.isApp] at ho

/-- What stands for d stands for d'. -/
def LeD (d d' : D) : Prop := ∀ I w v, Rep I w d v → Rep I w d' v
theorem LeD.any {d : D} (h : d.one = true) : LeD d .any := fun _ _ _ r => .any (r.oneCell h)
theorem LeD.refl (d : D) : LeD d d := fun _ _ _ h => h
theorem LeD.trans {a b c : D} (h : LeD a b) (k : LeD b c) : LeD a c := fun I w v r => k I w v (h I w v r)
theorem LeD.nil (sz : Nat) : LeD (.nil sz) (.sl sz []) := fun _ _ _ h => by
  cases h
  exact .sl ⟨0, 0, none⟩ (fun _ => undef) rfl (by simp) (by simp) (.inr rfl) (by simp) (by simp [D.flat]) (by simp [D.flat]) (by simp [D.flat])
theorem all2_refl {α : Type} {R : α → α → Prop} (h : ∀ x, R x x) : ∀ l : List α, All2 R l l
  | [] => .nil
  | x :: l => .cons (h x) (all2_refl h l)
theorem all2_get {α β : Type} {R : α → β → Prop} {l : List α} {m : List β} (h : All2 R l m) : ∀ {k : Nat} {y : β}, m[k]? = some y → ∃ x, l[k]? = some x ∧ R x y := by
  induction h with
  | nil => intro k y hk; simp at hk
  | cons hxy t ih =>
    intro k y hk
    cases k with
    | zero => simp at hk; subst hk; exact ⟨_, rfl, hxy⟩
    | succ k => simpa using ih (by simpa using hk)
theorem LeD.agg {cs ds : List D} (h : All2 LeD cs ds) (h1 : ∀ d ∈ ds, d.one = true) : LeD (.agg cs) (.agg ds) := fun I w v r => by
  cases r with
  | agg hl _ hr => exact .agg (by rw [hl, all2_len h]) h1 (fun k c u hk hu => by
      obtain ⟨x, hx, hle⟩ := all2_get h hk
      exact hle I w u (hr k x u hx hu))
theorem LeD.tup {cs ds : List D} (h : All2 LeD cs ds) : LeD (.tup cs) (.tup ds) := fun I w v r => by
  cases r with
  | tup hl hr => exact .tup (by rw [hl, all2_len h]) (fun k c u hk hu => by
      obtain ⟨x, hx, hle⟩ := all2_get h hk
      exact hle I w u (hr k x u hx hu))
theorem RepL.le {I : Addr → Prop} {w : World} {ds ds' : List D} {vs : Array Value} (h : RepL I w ds vs) (hl : All2 LeD ds ds') : RepL I w ds' vs :=
  ⟨by rw [h.1, all2_len hl], fun k c u hk hu => by
    obtain ⟨x, hx, hle⟩ := all2_get hl hk
    exact hle I w u (h.2 k x u hx hu)⟩

/-- There is memory in which this datum stands. -/
def Real (d : D) : Prop := ∃ I w v, Rep I w d v
theorem Real.int {k : IntKind} {n : Int} (h : Real (.lit (.int k n))) : k.min ≤ n ∧ n ≤ k.max := by
  obtain ⟨I, w, v, h⟩ := h
  cases h; assumption
theorem Real.sl {sz : Nat} {es : List D} (h : Real (.sl sz es)) : es.length ≤ 9223372036854775807 ∧ (∀ e ∈ es, e.cells.length = sz) ∧ ∀ c ∈ D.flat es, c.one = true ∧ Real c := by
  obtain ⟨I, w, v, h⟩ := h
  obtain ⟨n, A, cap, ad, vs, e, hn, hc, hm, hA, hz, h1, hI, hr⟩ := h.sl_inv
  refine ⟨by omega, hz, fun c hc' => ⟨h1 c hc', ?_⟩⟩
  obtain ⟨k, hk⟩ := List.getElem?_of_mem hc'
  exact ⟨_, _, _, hr k c hk⟩
theorem Real.agg {cs : List D} (h : Real (.agg cs)) : ∀ c ∈ cs, c.one = true ∧ Real c := by
  obtain ⟨I, w, v, h⟩ := h
  cases h
  rename_i vs hl h1 hr
  intro c hc
  obtain ⟨k, hk⟩ := List.getElem?_of_mem hc
  have hlt : k < vs.size := by
    rw [hl]
    rcases Nat.lt_or_ge k cs.length with h' | h'
    · exact h'
    · rw [List.getElem?_eq_none h'] at hk; cases hk
  exact ⟨h1 c hc, _, _, _, hr k c _ hk (Array.getElem?_eq_getElem hlt)⟩
theorem Real.str {s : ByteArray} (h : Real (.lit (.string s))) : s.size ≤ 9223372036854775807 := by
  obtain ⟨I, w, v, h⟩ := h
  cases h; assumption

inductive AK where
  | op (x : AOp)
  | call (f : Opd) (args : List Opd)
  | icall (f : Opd) (args : List Opd)
  | acall (f : Opd) (args : List Opd)
  | ycall (f : Opd) (args : List Opd)
  | defer (f : Opd) (args : List Opd)
  | panic (x : Opd)
  deriving Inhabited
structure AOper where
  dst : Option Nat
  guard : Option (Nat × Bool)
  k : AK
  deriving Inhabited
def AK.opds : AK → List Opd
  | .op x => x.opds
  | .call f args | .icall f args | .acall f args | .ycall f args | .defer f args => f :: args
  | .panic x => [x]

structure CmpO (P : Program) (ops : Array Oper) (nt : Nat) (o : Oper) (ao : AOper) : Prop where
  dst : ao.dst = o.dst
  lt : ∀ d, o.dst = some d → d < nt
  guard : (o.guard = none ∧ ao.guard = none) ∨ ∃ j b t, o.guard = some (j, b) ∧ (ops[j]?).bind (·.dst) = some t ∧ ao.guard = some (t, b)
  k : match ao.k with
    | .op x => Cmp P o x
    | .panic x' => ∃ x, o.op = .panic x ∧ CO x x'
    | .defer f' args' => ∃ f args ts, o.op = .defer { callee := .value f, args := args, argTypes := ts } ∧ CO f f' ∧ All2 CO args.toList args'
    | .call f' args' | .icall f' args' | .acall f' args' | .ycall f' args' => ∃ f args ts, o.op = .call { callee := .value f, args := args, argTypes := ts } ∧ CO f f' ∧ All2 CO args.toList args'

def getS (s : List (Nat × Bool × AV)) (t : Nat) : Option (Bool × AV) :=
  match s with
  | [] => none
  | (u, e) :: r => if t = u then some e else getS r t
def Ent (G : Gh) (w : World) (a : Act) (t : Nat) (e : Bool × AV) : Prop := ∃ val, a.tmps[t]? = some val ∧ (e.1 = true → RepA G w e.2 val) ∧ (e.1 = false → val = undef)
theorem Ent.mono {G G' : Gh} {w w' : World} {a : Act} {t : Nat} {e : Bool × AV} (h : Ent G w a t e) (hk : GLe G w G' w') : Ent G' w' a t e := by
  obtain ⟨val, h1, h2, h3⟩ := h
  exact ⟨val, h1, fun hg => (h2 hg).mono hk, h3⟩

def evO (s : List (Nat × Bool × AV)) : Opd → Option (Bool × AV)
  | .tmp t => getS s t
  | .dat d => some (true, .d d)
  | .glob g => (glbD g).map fun d => (true, .d (.ip d))
def evL (s : List (Nat × Bool × AV)) : List Opd → Option (List Bool × List AV)
  | [] => some ([], [])
  | x :: r => match evO s x, evL s r with
    | some (g, v), some (gs, vs) => some (g :: gs, v :: vs)
    | _, _ => none
def allT : List Bool → Prop
  | [] => True
  | g :: r => g = true ∧ allT r

structure Rec where
  dst : Option Nat
  rs : List (Nat × Bool × AV)
  g : Bool
  v : AV
  hin : List (Nat × HO)
  up : List (Nat × HO)

/-- What a step of a region does, whatever lies beside. -/
def RecOk (E : Env) (P : Program) (ro : Option Nat) (ops : Array Oper) (nt i : Nat) (r : Rec) : Prop :=
  ∀ (G : Gh) (a : Act) (w : World) (h : Hp), WRel E G h w → a.tmps.size = nt → (∀ p ∈ r.rs, Ent G w a p.1 p.2) → (∀ p ∈ r.hin, h p.1 = some p.2) → (∀ p ∈ r.up, h p.1 = none ∨ ∃ q ∈ r.hin, q.1 = p.1) →
    ∀ (K : Act → World → Prop) (Q : Exit → Act → World → Prop), (∀ val w' G', GLe G w G' w' → WRel E G' (h.upd r.up) w' → (r.g = true → RepA G' w' r.v val) → (r.g = false → val = undef) → K (a.put r.dst val) w') → wpOpIn (Fr ro) 0 P ops Q i K a w

theorem evO_ent {G : Gh} {w : World} {a : Act} {s : List (Nat × Bool × AV)} {x' : Opd} {g : Bool} {v : AV} (h : evO s x' = some (g, v)) (hg : g = true) (hs : ∀ t, x' = .tmp t → Ent G w a t (g, v)) (hG : GlOk G.I w) : EvO G w a x' v := by
  intro x hx
  cases hx with
  | tmp t =>
    obtain ⟨val, h1, h2, _⟩ := hs t rfl
    have : a.eval (.tmp t) = val := by simp [Act.eval, h1]
    rw [this]; exact h2 hg
  | dat x d hd =>
    simp only [evO, Option.some.injEq, Prod.mk.injEq] at h
    obtain ⟨_, rfl⟩ := h
    exact .d (hd a G.I w)
  | glob g =>
    simp only [evO, Option.map_eq_some_iff, Prod.mk.injEq] at h
    obtain ⟨d, hd, _, rfl⟩ := h
    exact .d (hG.get hd)

/-- The entries that operands name. -/
def ents (s : List (Nat × Bool × AV)) : List Opd → List (Nat × Bool × AV)
  | [] => []
  | .tmp t :: r => match getS s t with
    | some e => (t, e) :: ents s r
    | none => ents s r
  | .dat _ :: r | .glob _ :: r => ents s r

theorem mem_ents {s : List (Nat × Bool × AV)} {t : Nat} {e : Bool × AV} (he : getS s t = some e) : ∀ {l : List Opd}, .tmp t ∈ l → (t, e) ∈ ents s l
  | .tmp u :: r, h => by
    rcases List.mem_cons.1 h with h | h
    · injection h with h; subst h; simp [ents, he]
    · simp only [ents]; split
      · exact List.mem_cons_of_mem _ (mem_ents he h)
      · exact mem_ents he h
  | .dat d :: r, h => by
    rcases List.mem_cons.1 h with h | h
    · cases h
    · simp only [ents]; exact mem_ents he h
  | .glob d :: r, h => by
    rcases List.mem_cons.1 h with h | h
    · cases h
    · simp only [ents]; exact mem_ents he h

theorem evL_ent {G : Gh} {w : World} {a : Act} {s : List (Nat × Bool × AV)} (hG : GlOk G.I w) : ∀ {l : List Opd} {gs : List Bool} {vs : List AV}, evL s l = some (gs, vs) → allT gs → (∀ p ∈ ents s l, Ent G w a p.1 p.2) →
    vs.length = l.length ∧ ∀ p ∈ l.zip vs, EvO G w a p.1 p.2
  | [], gs, vs, h, hg, hs => by simp [evL] at h; obtain ⟨rfl, rfl⟩ := h; simp
  | x :: r, gs, vs, h, hg, hs => by
    simp only [evL] at h
    cases hx : evO s x with
    | none => simp [hx] at h
    | some e =>
      obtain ⟨g, v⟩ := e
      cases hr : evL s r with
      | none => simp [hx, hr] at h
      | some er =>
        obtain ⟨gs', vs'⟩ := er
        simp [hx, hr] at h
        obtain ⟨rfl, rfl⟩ := h
        obtain ⟨hg1, hg2⟩ := hg
        have hsr : ∀ p ∈ ents s r, Ent G w a p.1 p.2 := fun p hp => hs p (by
          cases x with
          | tmp t => simp only [ents]; split
                     · exact List.mem_cons_of_mem _ hp
                     · exact hp
          | dat d => exact hp
          | glob d => exact hp)
        obtain ⟨i1, i2⟩ := evL_ent hG hr hg2 hsr
        refine ⟨by simp [i1], fun p hp => ?_⟩
        simp only [List.zip_cons_cons, List.mem_cons] at hp
        rcases hp with rfl | hp
        · refine evO_ent hx hg1 (fun t ht => ?_) hG
          subst ht
          exact hs (t, g, v) (mem_ents hx (by simp))
        · exact i2 p hp

end Go.Proofs.YtfegfnekphobmaaDoor.AL
end

section
namespace Go.Proofs.YtfegfnekphobmaaDoor.AL
open Go

/-- The operation of a region stands alone, guarded. -/
theorem wpOpIn_run {P : Program} {ro : Option Nat} {ops : Array Oper} {Q : Exit → Act → World → Prop} {i : Nat} {o : Oper} {a : Act} {w : World} {K : Act → World → Prop} (ho : ops[i]? = some o)
    (hw : Region.wanted o (yielded ops a.tmps) = true) (h : o.wpIn (Fr ro) 0 P a w K Q) : wpOpIn (Fr ro) 0 P ops Q i K a w := by
  unfold wpOpIn; simp only [ho, hw, if_true]; exact h
theorem wpOpIn_skip {P : Program} {ro : Option Nat} {ops : Array Oper} {Q : Exit → Act → World → Prop} {i : Nat} {o : Oper} {a : Act} {w : World} {K : Act → World → Prop} (ho : ops[i]? = some o)
    (hw : Region.wanted o (yielded ops a.tmps) = false) (h : K (a.put o.dst undef) w) : wpOpIn (Fr ro) 0 P ops Q i K a w := by
  unfold wpOpIn; simp only [ho, hw, Bool.false_eq_true, if_false]; exact ⟨fun f _ => trivial, h⟩

/-- The guard of an operation: when it is carried out. -/
def gEff (s : List (Nat × Bool × AV)) (guard : Option (Nat × Bool)) : Option (Bool × List (Nat × Bool × AV)) :=
  match guard with
  | none => some (true, [])
  | some (t, b) => match getS s t with
    | some (g, .d (.lit (.bool c))) => some (g && (if b then c else !c), [(t, g, .d (.lit (.bool c)))])
    | _ => none

theorem guard_ok {P : Program} {ops : Array Oper} {nt : Nat} {o : Oper} {ao : AOper} (hc : CmpO P ops nt o ao) {s : List (Nat × Bool × AV)} {g : Bool} {rs : List (Nat × Bool × AV)} (hg : gEff s ao.guard = some (g, rs))
    {G : Gh} {w : World} {a : Act} (hr : ∀ p ∈ rs, Ent G w a p.1 p.2) : Region.wanted o (yielded ops a.tmps) = g := by
  rcases hc.guard with ⟨h1, h2⟩ | ⟨j, b, t, h1, h2, h3⟩
  · rw [h2] at hg
    simp only [gEff, Option.some.injEq, Prod.mk.injEq] at hg
    unfold Region.wanted; rw [h1]; exact hg.1
  · rw [h3] at hg
    simp only [gEff] at hg
    split at hg <;> simp only [Option.some.injEq, Prod.mk.injEq, reduceCtorEq] at hg
    rename_i g' c hs
    obtain ⟨rfl, rfl⟩ := hg
    obtain ⟨val, e1, e2, e3⟩ := hr (t, g', .d (.lit (.bool c))) (by simp)
    unfold Region.wanted yielded
    simp only [h1, h2, Option.bind_some]
    simp only at e1
    rw [e1]
    cases g' with
    | true =>
      have := (e2 rfl).lit.1
      subst this
      cases b <;> cases c <;> simp
    | false =>
      have := e3 rfl
      subst this
      simp [undef]

theorem upd_nil' {E : Env} {G : Gh} {h : Hp} {w : World} (H : WRel E G h w) : WRel E G (h.upd []) w := H

/-- A plain operation, its guard decided or not. -/
theorem recOk_op {E : Env} {P : Program} {ro : Option Nat} {ops : Array Oper} {nt i : Nat} {o : Oper} {ao : AOper} {x : AOp} {s : List (Nat × Bool × AV)} {g : Bool} {rs : List (Nat × Bool × AV)} {gs : List Bool} {vs : List AV} {e : Eff} {hl : List (Nat × HO)}
    (ho : ops[i]? = some o) (hc : CmpO P ops nt o ao) (hk : ao.k = .op x) (hg : gEff s ao.guard = some (g, rs)) (hev : evL s x.opds = some (gs, vs)) (hst : stepV hl x vs = some e)
    (hcond : g = true → allT gs ∧ e.c) (hup : e.up ≠ [] → g = true) : RecOk E P ro ops nt i { dst := o.dst, rs := rs ++ ents s x.opds, g := g, v := e.v, hin := e.hin, up := e.up } := by
  intro G a w h H hsz hrs hin hfr K Q hK
  have hw := guard_ok hc hg (G := G) (w := w) (a := a) (fun p hp => hrs p (List.mem_append_left _ hp))
  cases hgg : g with
  | true =>
    rw [hgg] at hw
    obtain ⟨c1, c2⟩ := hcond hgg
    obtain ⟨l1, l2⟩ := evL_ent (G := G) (w := w) (a := a) H.gl hev c1 (fun p hp => hrs p (List.mem_append_right _ hp))
    have hcmp : Cmp P o x := by have := hc.k; rw [hk] at this; exact this
    have hloc := step_sound (E := E) (ro := ro) hcmp l1 hst c2
    refine wpOpIn_run ho hw (hloc G a w h H l2 hin hfr K Q (fun val w' G' q1 q2 q3 => hK val w' G' q1 q2 (fun _ => q3) (fun hf => ?_)))
    simp [hgg] at hf
  | false =>
    rw [hgg] at hw
    have hu : e.up = [] := by
      cases hue : e.up with
      | nil => rfl
      | cons _ _ => have := hup (by rw [hue]; simp); rw [hgg] at this; cases this
    refine wpOpIn_skip ho hw (hK undef w G (GLe.refl G w) ?_ (fun hf => by simp [hgg] at hf) (fun _ => rfl))
    simp only [hu]; exact H

/-- 'pick': only the operand that is picked need be there. -/
theorem recOk_pick {E : Env} {P : Program} {ro : Option Nat} {ops : Array Oper} {nt i : Nat} {o : Oper} {ao : AOper} {oc oa ob : Opd} {s : List (Nat × Bool × AV)} {g : Bool} {rs : List (Nat × Bool × AV)} {gc ga gb c x y : Bool}
    (ho : ops[i]? = some o) (hc : CmpO P ops nt o ao) (hk : ao.k = .op (.pick oc oa ob)) (hg : gEff s ao.guard = some (g, rs)) (hev : evL s [oc, oa, ob] = some ([gc, ga, gb], [.d (.lit (.bool c)), .d (.lit (.bool x)), .d (.lit (.bool y))]))
    (hcond : g = true → gc = true ∧ (c = true → ga = true) ∧ (c = false → gb = true)) :
    RecOk E P ro ops nt i { dst := o.dst, rs := rs ++ ents s [oc, oa, ob], g := g, v := .d (.lit (.bool (bif c then x else y))), hin := [], up := [] } := by
  intro G a w h H hsz hrs hin hfr K Q hK
  have hw := guard_ok hc hg (G := G) (w := w) (a := a) (fun p hp => hrs p (List.mem_append_left _ hp))
  cases hgg : g with
  | false =>
    rw [hgg] at hw
    exact wpOpIn_skip ho hw (hK undef w G (GLe.refl G w) H (fun hf => by simp [hgg] at hf) (fun _ => rfl))
  | true =>
    rw [hgg] at hw
    obtain ⟨c1, c2, c3⟩ := hcond hgg
    have hcmp : Cmp P o (.pick oc oa ob) := by have := hc.k; rw [hk] at this; exact this
    have hen : ∀ p ∈ ents s [oc, oa, ob], Ent G w a p.1 p.2 := fun p hp => hrs p (List.mem_append_right _ hp)
    -- the three evaluations
    simp only [evL] at hev
    cases e1 : evO s oc with
    | none => simp [e1] at hev
    | some q1 =>
      cases e2 : evO s oa with
      | none => simp [e1, e2] at hev
      | some q2 =>
        cases e3 : evO s ob with
        | none => simp [e1, e2, e3] at hev
        | some q3 =>
          obtain ⟨q1a, q1b⟩ := q1; obtain ⟨q2a, q2b⟩ := q2; obtain ⟨q3a, q3b⟩ := q3
          simp [e1, e2, e3] at hev
          obtain ⟨⟨rfl, rfl, rfl⟩, rfl, rfl, rfl⟩ := hev
          cases hcmp with
          | pick hop h1 h2 h3 =>
            have v1 := (evO_ent (G := G) (w := w) (a := a) e1 c1 (fun t ht => by subst ht; exact hen _ (mem_ents e1 (by simp))) H.gl _ h1).lit.1
            refine wpOpIn_run ho hw (wpIn_value (by simp [hop]) (v := .bool (bif c then x else y)) (w' := w) ?_ (hK _ w G (GLe.refl G w) H (fun _ => repBool _) (fun hf => by simp [hgg] at hf)))
            cases c with
            | true =>
              have v2 := (evO_ent (G := G) (w := w) (a := a) e2 (c2 rfl) (fun t ht => by subst ht; exact hen _ (mem_ents e2 (by simp))) H.gl _ h2).lit.1
              simp [execOp, hop, v1, v2, asBool]
            | false =>
              have v3 := (evO_ent (G := G) (w := w) (a := a) e3 (c3 rfl) (fun t ht => by subst ht; exact hen _ (mem_ents e3 (by simp))) H.gl _ h3).lit.1
              simp [execOp, hop, v1, v3, asBool]

/-- Does a datum hold no address? -/
inductive Free : D → Prop
  | lit (v : Value) : Free (.lit v)
  | nil (sz : Nat) : Free (.nil sz)
  | any : Free .any
  | agg {cs : List D} (h : ∀ c ∈ cs, Free c) : Free (.agg cs)
  | tup {cs : List D} (h : ∀ c ∈ cs, Free c) : Free (.tup cs)

theorem Free.rep {d : D} (hf : Free d) {I I' : Addr → Prop} {w w' : World} {v : Value} (h : Rep I w d v) : Rep I' w' d v := by
  induction hf generalizing v with
  | lit u => cases h; exact .lit (by assumption)
  | nil sz => cases h; exact .nil
  | any => cases h; exact .any (by assumption)
  | agg hcs ih =>
    cases h with
    | agg hl h1 hr => exact .agg hl h1 (fun k c u hk hu => ih c (List.mem_of_getElem? hk) (hr k c u hk hu))
  | tup hcs ih =>
    cases h with
    | tup hl hr => exact .tup hl (fun k c u hk hu => ih c (List.mem_of_getElem? hk) (hr k c u hk hu))

/-- All cells of a list are data. -/
def allD1 : List AV → Option (List D)
  | [] => some []
  | v :: r => match v.toD1, allD1 r with
    | some x, some l => some (x :: l)
    | _, _ => none

theorem chunkD_wr {z : Nat} : ∀ (es : List D), (∀ e ∈ es, e.isAgg = true ∧ e.cells.length = z) → chunkD z es.length (D.flat es) = es
  | [], _ => rfl
  | e :: es, h => by
    have he := h e (by simp)
    have ih := chunkD_wr es (fun x hx => h x (by simp [hx]))
    cases e <;> simp [D.isAgg] at he
    rename_i cs
    simp only [D.flat, List.flatMap_cons, D.cells, List.length_cons, chunkD] at ih ⊢ he
    rw [← he, List.take_left', List.drop_left' rfl]
    · rw [he, ih]
    · rfl

/-- An argument as data: a box is taken as it stands ('true': memory that may be written again). -/
def argC (hl : List (Nat × HO)) : AV → Option (D × Bool)
  | .d x => some (x, false)
  | .own _ sz es => some (.sl sz es, false)
  | .agg cs => (allD1 cs).map fun ds => (.agg ds, false)
  | .ptr n 0 => match look hl n with
    | some (.box true cs) => (allD1 cs).map fun ds => (.ip (.agg ds), true)
    | some (.box false [c]) => c.toD1.map fun d => (.ip d, true)
    | _ => none
  | .bsl n o z len _ => match look hl n with
    | some (.box _ cs) => (allD1 cs).bind fun ds => if o + len * z ≤ ds.length then some (.sl z (elsD z len (ds.drop o)), true) else none
    | _ => none
  | _ => none
def argCs (hl : List (Nat × HO)) : List AV → Option (List D × Bool)
  | [] => some ([], false)
  | v :: r => match argC hl v, argCs hl r with
    | some (x, b), some (l, c) => some (x :: l, b || c)
    | _, _ => none
/-- The boxes that arguments lead to. -/
def argHC (hl : List (Nat × HO)) : List AV → List (Nat × HO)
  | [] => []
  | .ptr n _ :: r | .bsl n _ _ _ _ :: r => match look hl n with
    | some o => (n, o) :: argHC hl r
    | none => argHC hl r
  | _ :: r => argHC hl r

/-- The same of closures: their parts one level deep. -/
def argD (hl : List (Nat × HO)) : AV → Option (D × Bool)
  | .fn f a c => match argCs hl a, argCs hl c with
    | some (x, p), some (y, q) => some (.fn f x y, p || q)
    | _, _ => none
  | v => argC hl v
def argsD (hl : List (Nat × HO)) : List AV → Option (List D × Bool)
  | [] => some ([], false)
  | v :: r => match argD hl v, argsD hl r with
    | some (x, b), some (l, c) => some (x :: l, b || c)
    | _, _ => none
def argH1 (hl : List (Nat × HO)) : AV → List (Nat × HO)
  | .fn _ a c => argHC hl a ++ argHC hl c
  | v => argHC hl [v]
def argH (hl : List (Nat × HO)) : List AV → List (Nat × HO)
  | [] => []
  | v :: r => argH1 hl v ++ argH hl r

end Go.Proofs.YtfegfnekphobmaaDoor.AL
end

section
namespace Go.Proofs.YtfegfnekphobmaaDoor.AL
open Go

/-- What may be read while a call lasts: what is never written, and the boxes. -/
def ISnap (G : Gh) (w : World) : Addr → Prop := fun a => G.I a ∨ ((w.cell? a).isSome = true ∧ ∃ n, G.box n = some a.block)

theorem allD1_spec {G : Gh} {w : World} : ∀ {cs : List AV} {ds : List D}, allD1 cs = some ds → ∀ {vs : Array Value} {k0 : Nat}, (∀ (k : Nat) (c : AV) (v : Value), cs[k]? = some c → vs[k0 + k]? = some v → RepA G w c v) →
    ds.length = cs.length ∧ ∀ (k : Nat) (d : D) (v : Value), ds[k]? = some d → vs[k0 + k]? = some v → Rep G.I w d v
  | [], ds, h, vs, k0, hr => by simp [allD1] at h; subst h; simp
  | c :: cs, ds, h, vs, k0, hr => by
    simp only [allD1] at h
    cases h1 : c.toD1 with
    | none => simp [h1] at h
    | some x =>
      cases h2 : allD1 cs with
      | none => simp [h1, h2] at h
      | some l =>
        simp [h1, h2] at h
        subst h
        obtain ⟨i1, i2⟩ := allD1_spec h2 (vs := vs) (k0 := k0 + 1) (fun k c' v hk hv => hr (k + 1) c' v (by simpa using hk) (by rw [← hv]; congr 1; omega))
        refine ⟨by simp [i1], fun k d v hk hv => ?_⟩
        cases k with
        | zero => simp at hk; subst hk; exact toD1_rep h1 (hr 0 c v (by simp) hv)
        | succ k => exact i2 k d v (by simpa using hk) (by rw [← hv]; congr 1; omega)

theorem allD1_one : ∀ {cs : List AV} {ds : List D}, allD1 cs = some ds → (∀ c ∈ cs, c.one = true) → ∀ d ∈ ds, d.one = true
  | [], ds, h, h1, d, hd => by simp [allD1] at h; subst h; simp at hd
  | c :: cs, ds, h, h1, d, hd => by
    simp only [allD1] at h
    cases h2 : c.toD1 with
    | none => simp [h2] at h
    | some x =>
      cases h3 : allD1 cs with
      | none => simp [h2, h3] at h
      | some l =>
        simp [h2, h3] at h
        subst h
        rcases List.mem_cons.1 hd with rfl | hd
        · have := h1 c (by simp)
          unfold AV.toD1 at h2
          split at h2 <;> simp only [Option.some.injEq, Option.map_eq_some_iff, reduceCtorEq] at h2
          · subst h2; exact this
          · subst h2; rfl
          · simp [AV.one] at this
        · exact allD1_one h3 (fun c' hc' => h1 c' (by simp [hc'])) d hd

theorem box_snap {E : Env} {G : Gh} {h : Hp} {w : World} (H : WRel E G h w) {n b : Nat} {ag : Bool} {cs : List AV} (hn : h n = some (.box ag cs)) (hb : G.box n = some b) {ds : List D} (hds : allD1 cs = some ds) :
    ds.length = cs.length ∧ (∀ d ∈ ds, d.one = true) ∧ ∃ f : Nat → Value, ∀ k d, ds[k]? = some d → ISnap G w ⟨b, k, none⟩ ∧ w.cell? ⟨b, k, none⟩ = some (f k) ∧ Rep (ISnap G w) w d (f k) := by
  obtain ⟨arr, e1, e2, e3⟩ := H.readBox hn hb
  obtain ⟨i1, i2⟩ := allD1_spec (G := G) (w := w) hds (vs := arr) (k0 := 0) (fun k c v hk hv => e1.2 k c v hk (by simpa using hv))
  refine ⟨i1, allD1_one hds e2, fun k => arr.getD k undef, fun k d hk => ?_⟩
  have hlt : k < arr.size := by
    refine Nat.lt_of_lt_of_le ?_ e1.1
    rw [← i1]
    rcases Nat.lt_or_ge k ds.length with h' | h'
    · exact h'
    · rw [List.getElem?_eq_none h'] at hk; cases hk
  have hg : arr[k]? = some arr[k] := Array.getElem?_eq_getElem hlt
  have hc : w.cell? ⟨b, k, none⟩ = some arr[k] := by rw [e3, hg]
  refine ⟨.inr ⟨by rw [hc]; rfl, n, hb⟩, by simp [hc, hlt], ?_⟩
  have hr := i2 k d arr[k] hk (by simp)
  have : arr.getD k undef = arr[k] := by simp [hlt]
  show Rep (ISnap G w) w d (arr.getD k undef)
  rw [this]
  exact hr.mono fun a ha => ⟨.inl ha, rfl⟩

theorem RepA.bsl_inv {G : Gh} {w : World} {n o z l c : Nat} {v : Value} (h : RepA G w (.bsl n o z l c) v) : ∃ b c', G.box n = some b ∧ l ≤ c ∧ c ≤ c' ∧ c' ≤ 9223372036854775807 ∧ (c' = c ∨ o + c' * z ≤ (G.rc n).defers) ∧ v = .slice (some ⟨b, o, none⟩) l c' := by
  cases h with
  | bsl hg h1 h2 h3 h4 => exact ⟨_, _, hg, h1, h2, h3, h4, rfl⟩
theorem Rep.fn_inv {I : Addr → Prop} {w : World} {f : Fn} {first caps : List D} {v : Value} (h : Rep I w (.fn f first caps) v) : ∃ a b : Array Value, v = .func f a b ∧ a.size = first.length ∧ b.size = caps.length ∧
    (∀ (k : Nat) (c : D) (v : Value), first[k]? = some c → a[k]? = some v → Rep I w c v) ∧ (∀ (k : Nat) (c : D) (v : Value), caps[k]? = some c → b[k]? = some v → Rep I w c v) := by
  cases h with
  | fn hl hl' hr hr' => exact ⟨_, _, rfl, hl, hl', hr, hr'⟩
theorem RepA.fn_inv {G : Gh} {w : World} {f : Fn} {first caps : List AV} {v : Value} (h : RepA G w (.fn f first caps) v) : ∃ a b : Array Value, v = .func f a b ∧ a.size = first.length ∧ b.size = caps.length ∧
    (∀ (k : Nat) (c : AV) (v : Value), first[k]? = some c → a[k]? = some v → RepA G w c v) ∧ (∀ (k : Nat) (c : AV) (v : Value), caps[k]? = some c → b[k]? = some v → RepA G w c v) := by
  cases h with
  | fn hl hl' hr hr' => exact ⟨_, _, rfl, hl, hl', hr, hr'⟩

theorem argC_rep {E : Env} {G : Gh} {h : Hp} {w : World} (H : WRel E G h w) {hl : List (Nat × HO)} {v : AV} {x : D} {b : Bool} (hd : argC hl v = some (x, b)) (hin : ∀ p ∈ argHC hl [v], h p.1 = some p.2) {u : Value} (hr : RepA G w v u) :
    Rep (ISnap G w) w x u ∧ (b = false → Rep G.I w x u) := by
  unfold argC at hd
  split at hd
  · simp only [Option.some.injEq, Prod.mk.injEq] at hd
    obtain ⟨rfl, rfl⟩ := hd
    exact ⟨hr.of_d.mono fun a ha => ⟨.inl ha, rfl⟩, fun _ => hr.of_d⟩
  · simp only [Option.some.injEq, Prod.mk.injEq] at hd
    obtain ⟨rfl, rfl⟩ := hd
    cases hr
    rename_i hg hr
    exact ⟨hr.mono fun a ha => ⟨.inl ha, rfl⟩, fun _ => hr⟩
  · rename_i cs
    simp only [Option.map_eq_some_iff, Prod.mk.injEq] at hd
    obtain ⟨ds, h1, rfl, rfl⟩ := hd
    have : Rep G.I w (.agg ds) u := by
      cases hr
      rename_i vs hl' h1' hr'
      obtain ⟨i1, i2⟩ := allD1_spec (G := G) (w := w) h1 (vs := vs) (k0 := 0) (fun k c v hk hv => hr' k c v hk (by simpa using hv))
      exact .agg (by rw [hl', i1]) (allD1_one h1 h1') (fun k c v hk hv => i2 k c v hk (by simpa using hv))
    exact ⟨this.mono fun a ha => ⟨.inl ha, rfl⟩, fun _ => this⟩
  · rename_i n
    cases hr
    rename_i bk hb
    split at hd
    · rename_i cs hlk
      simp only [Option.map_eq_some_iff, Prod.mk.injEq] at hd
      obtain ⟨ds, h1, rfl, rfl⟩ := hd
      have hn : h n = some (.box true cs) := hin (n, .box true cs) (by simp [argHC, hlk])
      obtain ⟨i1, i2, f, i3⟩ := box_snap H hn hb h1
      refine ⟨.ip ⟨bk, 0, none⟩ f i2 (fun k c hk => ?_) (fun k c hk => (i3 k c hk).2.2), fun hf => by cases hf⟩
      rw [add_mk, Nat.zero_add]
      exact ⟨(i3 k c hk).1, (i3 k c hk).2.1⟩
    · rename_i c hlk
      simp only [Option.map_eq_some_iff, Prod.mk.injEq] at hd
      obtain ⟨d, h1, rfl, rfl⟩ := hd
      have hn : h n = some (.box false [c]) := hin (n, .box false [c]) (by simp [argHC, hlk])
      obtain ⟨i1, i2, f, i3⟩ := box_snap H hn hb (ds := [d]) (by simp [allD1, h1])
      have hone := i2 d (by simp)
      have hcells : d.cells = [d] := by cases d <;> first | rfl | simp [D.one] at hone
      refine ⟨.ip ⟨bk, 0, none⟩ f (by rw [hcells]; simpa using hone) (fun k c hk => ?_) (fun k c hk => ?_), fun hf => by cases hf⟩
      · rw [hcells] at hk
        rw [add_mk, Nat.zero_add]
        exact ⟨(i3 k c hk).1, (i3 k c hk).2.1⟩
      · rw [hcells] at hk; exact (i3 k c hk).2.2
    · cases hd
  · rename_i n o z len cap
    obtain ⟨bk, cap', hb, hlc, hcc, hcm, _, rfl⟩ := hr.bsl_inv
    split at hd
    · rename_i ag cs hlk
      simp only [Option.bind_eq_some_iff] at hd
      obtain ⟨ds, h1, hd⟩ := hd
      split at hd
      · rename_i hle
        simp only [Option.some.injEq, Prod.mk.injEq] at hd
        obtain ⟨rfl, rfl⟩ := hd
        have hn : h n = some (.box ag cs) := hin (n, .box ag cs) (by simp [argHC, hlk])
        obtain ⟨i1, i2, f, i3⟩ := box_snap H hn hb h1
        obtain ⟨q1, q2, q3⟩ := elsD_spec (z := z) (len := len) (ds := ds.drop o) (by simp; omega) (fun d hd => i2 d (List.mem_of_mem_drop hd))
        have hget : ∀ k d, (D.flat (elsD z len (ds.drop o)))[k]? = some d → ds[o + k]? = some d := fun k d hk => by
          rw [q3, List.getElem?_take] at hk
          split at hk
          · rw [List.getElem?_drop] at hk; exact hk
          · cases hk
        refine ⟨.sl ⟨bk, o, none⟩ (fun k => f (o + k)) q1.symm (Nat.le_trans hlc hcc) hcm (.inl rfl) q2 (fun d hd => ?_) (fun k c hk => ?_) (fun k c hk => (i3 _ c (hget k c hk)).2.2), fun hf => by cases hf⟩
        · rw [q3] at hd
          exact i2 d (List.mem_of_mem_drop (List.mem_of_mem_take hd))
        · rw [add_mk]
          exact ⟨(i3 _ c (hget k c hk)).1, (i3 _ c (hget k c hk)).2.1⟩
      · cases hd
    · cases hd
  · cases hd

theorem argHC_cons {hl : List (Nat × HO)} {v : AV} {r : List AV} : ∀ p, p ∈ argHC hl [v] ∨ p ∈ argHC hl r → p ∈ argHC hl (v :: r) := by
  intro p hp
  have key : ∀ n, (p ∈ (match look hl n with | some o => (n, o) :: argHC hl [] | none => argHC hl []) ∨ p ∈ argHC hl r) → p ∈ (match look hl n with | some o => (n, o) :: argHC hl r | none => argHC hl r) := fun n hp => by
    cases hlk : look hl n with
    | some o =>
      simp only [hlk] at hp ⊢
      rcases hp with hp | hp
      · simp [argHC] at hp; subst hp; simp
      · exact List.mem_cons_of_mem _ hp
    | none =>
      simp only [hlk] at hp ⊢
      rcases hp with hp | hp
      · simp [argHC] at hp
      · exact hp
  cases v with
  | ptr n o => exact key n hp
  | bsl n o z l c => exact key n hp
  | mp n => rcases hp with hp | hp; (· simp [argHC] at hp); exact hp
  | spare a b c => rcases hp with hp | hp; (· simp [argHC] at hp); exact hp
  | e0 a => rcases hp with hp | hp; (· simp [argHC] at hp); exact hp
  | d x => rcases hp with hp | hp; (· simp [argHC] at hp); exact hp
  | own a b c => rcases hp with hp | hp; (· simp [argHC] at hp); exact hp
  | agg cs => rcases hp with hp | hp; (· simp [argHC] at hp); exact hp
  | tup cs => rcases hp with hp | hp; (· simp [argHC] at hp); exact hp
  | fn f a b => rcases hp with hp | hp; (· simp [argHC] at hp); exact hp

theorem argCs_rep {E : Env} {G : Gh} {h : Hp} {w : World} (H : WRel E G h w) {hl : List (Nat × HO)} : ∀ {vs : List AV} {ds : List D} {b : Bool}, argCs hl vs = some (ds, b) → (∀ p ∈ argHC hl vs, h p.1 = some p.2) → ∀ {us : List Value}, us.length = vs.length →
    (∀ (k : Nat) (c : AV) (u : Value), vs[k]? = some c → us[k]? = some u → RepA G w c u) → ds.length = vs.length ∧ ∀ (k : Nat) (c : D) (u : Value), ds[k]? = some c → us[k]? = some u → Rep (ISnap G w) w c u ∧ (b = false → Rep G.I w c u)
  | [], ds, b, hd, hin, us, hl', hr => by simp [argCs] at hd; obtain ⟨rfl, rfl⟩ := hd; simp
  | v :: vs, ds, b, hd, hin, us, hl', hr => by
    simp only [argCs] at hd
    cases h1 : argC hl v with
    | none => simp [h1] at hd
    | some q =>
      obtain ⟨x, b1⟩ := q
      cases h2 : argCs hl vs with
      | none => simp [h1, h2] at hd
      | some q2 =>
        obtain ⟨l, b2⟩ := q2
        simp [h1, h2] at hd
        obtain ⟨rfl, rfl⟩ := hd
        cases us with
        | nil => simp at hl'
        | cons u us =>
          obtain ⟨i1, i2⟩ := argCs_rep H h2 (fun p hp => hin p (argHC_cons p (.inr hp))) (us := us) (by simpa using hl') (fun k c u' hk hu => hr (k + 1) c u' (by simpa using hk) (by simpa using hu))
          refine ⟨by simp [i1], fun k c u' hk hu => ?_⟩
          cases k with
          | zero =>
            simp at hk hu; subst hk; subst hu
            obtain ⟨g1, g2⟩ := argC_rep H h1 (fun p hp => hin p (argHC_cons p (.inl hp))) (hr 0 v u rfl rfl)
            exact ⟨g1, fun hb => g2 (by simp at hb; exact hb.1)⟩
          | succ k =>
            obtain ⟨g1, g2⟩ := i2 k c u' (by simpa using hk) (by simpa using hu)
            exact ⟨g1, fun hb => g2 (by simp at hb; exact hb.2)⟩

theorem argD_rep {E : Env} {G : Gh} {h : Hp} {w : World} (H : WRel E G h w) {hl : List (Nat × HO)} {v : AV} {x : D} {b : Bool} (hd : argD hl v = some (x, b)) (hin : ∀ p ∈ argH1 hl v, h p.1 = some p.2) {u : Value} (hr : RepA G w v u) :
    Rep (ISnap G w) w x u ∧ (b = false → Rep G.I w x u) := by
  unfold argD at hd
  split at hd
  · rename_i f a c
    split at hd
    · rename_i x1 p y1 q h1 h2
      simp only [Option.some.injEq, Prod.mk.injEq] at hd
      obtain ⟨rfl, rfl⟩ := hd
      obtain ⟨va, vc, rfl, l1, l2, r1, r2⟩ := hr.fn_inv
      obtain ⟨i1, i2⟩ := argCs_rep H h1 (fun p hp => hin p (by simp only [argH1]; exact List.mem_append_left _ hp)) (us := va.toList) (by simp [l1]) (fun k c u hk hu => r1 k c u hk (by simpa using hu))
      obtain ⟨j1, j2⟩ := argCs_rep H h2 (fun p hp => hin p (by simp only [argH1]; exact List.mem_append_right _ hp)) (us := vc.toList) (by simp [l2]) (fun k c u hk hu => r2 k c u hk (by simpa using hu))
      refine ⟨.fn (by rw [l1, i1]) (by rw [l2, j1]) (fun k c v hk hv => (i2 k c v hk (by simpa using hv)).1) (fun k c v hk hv => (j2 k c v hk (by simpa using hv)).1), fun hb => ?_⟩
      simp only [Bool.or_eq_false_iff] at hb
      exact .fn (by rw [l1, i1]) (by rw [l2, j1]) (fun k c v hk hv => (i2 k c v hk (by simpa using hv)).2 hb.1) (fun k c v hk hv => (j2 k c v hk (by simpa using hv)).2 hb.2)
    · cases hd
  · rename_i hne
    have e : argH1 hl v = argHC hl [v] := by
      cases v <;> first | rfl | exact absurd rfl (hne _ _ _)
    exact argC_rep H hd (fun p hp => hin p (by rw [e]; exact hp)) hr
theorem argH_cons {hl : List (Nat × HO)} {v : AV} {r : List AV} : ∀ p, p ∈ argH1 hl v ∨ p ∈ argH hl r → p ∈ argH hl (v :: r) := fun p hp => by
  simp only [argH]; exact List.mem_append.2 hp
theorem argsD_rep {E : Env} {G : Gh} {h : Hp} {w : World} (H : WRel E G h w) {hl : List (Nat × HO)} : ∀ {vs : List AV} {ds : List D} {b : Bool}, argsD hl vs = some (ds, b) → (∀ p ∈ argH hl vs, h p.1 = some p.2) → ∀ {us : List Value}, us.length = vs.length →
    (∀ (k : Nat) (c : AV) (u : Value), vs[k]? = some c → us[k]? = some u → RepA G w c u) → ds.length = vs.length ∧ ∀ (k : Nat) (c : D) (u : Value), ds[k]? = some c → us[k]? = some u → Rep (ISnap G w) w c u ∧ (b = false → Rep G.I w c u)
  | [], ds, b, hd, hin, us, hl', hr => by simp [argsD] at hd; obtain ⟨rfl, rfl⟩ := hd; simp
  | v :: vs, ds, b, hd, hin, us, hl', hr => by
    simp only [argsD] at hd
    cases h1 : argD hl v with
    | none => simp [h1] at hd
    | some q =>
      obtain ⟨x, b1⟩ := q
      cases h2 : argsD hl vs with
      | none => simp [h1, h2] at hd
      | some q2 =>
        obtain ⟨l, b2⟩ := q2
        simp [h1, h2] at hd
        obtain ⟨rfl, rfl⟩ := hd
        cases us with
        | nil => simp at hl'
        | cons u us =>
          obtain ⟨i1, i2⟩ := argsD_rep H h2 (fun p hp => hin p (argH_cons p (.inr hp))) (us := us) (by simpa using hl') (fun k c u' hk hu => hr (k + 1) c u' (by simpa using hk) (by simpa using hu))
          refine ⟨by simp [i1], fun k c u' hk hu => ?_⟩
          cases k with
          | zero =>
            simp at hk hu; subst hk; subst hu
            obtain ⟨g1, g2⟩ := argD_rep H h1 (fun p hp => hin p (argH_cons p (.inl hp))) (hr 0 v u rfl rfl)
            exact ⟨g1, fun hb => g2 (by simp at hb; exact hb.1)⟩
          | succ k =>
            obtain ⟨g1, g2⟩ := i2 k c u' (by simpa using hk) (by simpa using hu)
            exact ⟨g1, fun hb => g2 (by simp at hb; exact hb.2)⟩

/-- What a function value and arguments call. -/
def calleeA : AV → List AV → Option (FuncId × List AV)
  | .d (.fn (.func f) first caps), vs => some (f, first.map .d ++ (vs ++ caps.map .d))
  | .fn (.func f) first caps, vs => some (f, first ++ (vs ++ caps))
  | _, _ => none

theorem calleeA_rep {G : Gh} {w : World} {fv : AV} {vs : List AV} {f : FuncId} {all : List AV} (hc : calleeA fv vs = some (f, all)) {u : Value} (hr : RepA G w fv u) {us : List Value} (hl : us.length = vs.length)
    (hv : ∀ (k : Nat) (c : AV) (x : Value), vs[k]? = some c → us[k]? = some x → RepA G w c x) :
    ∃ a b : Array Value, u = .func (.func f) a b ∧ (a.toList ++ (us ++ b.toList)).length = all.length ∧ ∀ (k : Nat) (c : AV) (x : Value), all[k]? = some c → (a.toList ++ (us ++ b.toList))[k]? = some x → RepA G w c x := by
  have happ : ∀ {l1 l2 : List AV} {m1 m2 : List Value}, m1.length = l1.length → (∀ (k : Nat) (c : AV) (x : Value), l1[k]? = some c → m1[k]? = some x → RepA G w c x) → (∀ (k : Nat) (c : AV) (x : Value), l2[k]? = some c → m2[k]? = some x → RepA G w c x) →
      ∀ (k : Nat) (c : AV) (x : Value), (l1 ++ l2)[k]? = some c → (m1 ++ m2)[k]? = some x → RepA G w c x := by
    intro l1 l2 m1 m2 hlen h1 h2 k c x hk hx
    by_cases hlt : k < l1.length
    · rw [List.getElem?_append_left hlt] at hk
      rw [List.getElem?_append_left (by omega)] at hx
      exact h1 k c x hk hx
    · rw [List.getElem?_append_right (by omega)] at hk
      rw [List.getElem?_append_right (by omega), hlen] at hx
      exact h2 _ c x hk hx
  unfold calleeA at hc
  split at hc <;> simp only [Option.some.injEq, Prod.mk.injEq, reduceCtorEq] at hc
  · obtain ⟨rfl, rfl⟩ := hc
    obtain ⟨a, b, rfl, hl1, hl2, hr1, hr2⟩ := hr.of_d.fn_inv
    refine ⟨a, b, rfl, by simp; omega, happ (by simpa using hl1) (fun k c x hk hx => ?_) (happ hl hv (fun k c x hk hx => ?_))⟩
    · simp only [List.getElem?_map, Option.map_eq_some_iff] at hk
      obtain ⟨d, hd, rfl⟩ := hk
      exact .d (hr1 k d x hd (by simpa using hx))
    · simp only [List.getElem?_map, Option.map_eq_some_iff] at hk
      obtain ⟨d, hd, rfl⟩ := hk
      exact .d (hr2 k d x hd (by simpa using hx))
  · obtain ⟨rfl, rfl⟩ := hc
    obtain ⟨a, b, rfl, hl1, hl2, hr1, hr2⟩ := hr.fn_inv
    refine ⟨a, b, rfl, by simp; omega, happ (by simpa using hl1) (fun k c x hk hx => hr1 k c x hk (by simpa using hx)) (happ hl hv (fun k c x hk hx => hr2 k c x hk (by simpa using hx)))⟩

end Go.Proofs.YtfegfnekphobmaaDoor.AL
end

section
namespace Go.Proofs.YtfegfnekphobmaaDoor.AL
open Go

theorem PCall0.le {P : Program} {f : FuncId} {ds ds' : List D} {out : Out} (h : PCall0 P f ds' out) (hl : All2 LeD ds ds') : PCall0 P f ds out :=
  ⟨h.1, fun I w vals hc hg hr => h.2 I w vals hc hg (hr.le hl)⟩
theorem PCall.le {P : Program} {f : FuncId} {ds ds' : List D} {out : Out} (h : PCall P f ds' out) (hl : All2 LeD ds ds') (ho : out.isApp = false := by rfl) : PCall P f ds out :=
  ((h.to0 ho).le hl).to ho

/-- What a call leaves. -/
def CallEnd (E : Env) (G : Gh) (h : Hp) (w : World) (out : Out) (snap : Bool) (e : Ending) (w' : World) : Prop :=
  ∃ G' v, GLe G w G' w' ∧ WRel E G' h w' ∧ match out with
    | .ret d => e = .returned v ∧ ((snap = true → Free d) → Rep G'.I w' d v)
    | .pan d => e = .panicked [{ v := v, recovered := false }] ∧ ((snap = true → Free d) → Rep G'.I w' d v)
    | .app _ _ => False
    | .retM es => e = .returned v ∧ (snap = false → ∃ b arr ck, v = .map (some b) ∧ w'.heap[b]? = some (.map arr ck) ∧ (¬ E.K b ∧ E.w0.heap.size ≤ b) ∧ (∀ m, G'.box m ≠ some b) ∧ RepE G' w' (es.map fun e => (e.1, AV.d e.2)) arr)

theorem call_core {E : Env} {P : Program} {G : Gh} {h : Hp} {w : World} (H : WRel E G h w) {hl : List (Nat × HO)} {all : List AV} {ds : List D} {snap : Bool} {fid : FuncId} {out : Out} (hargs : argsD hl all = some (ds, snap))
    (hin : ∀ p ∈ argH hl all, h p.1 = some p.2) {us : List Value} (hlen : us.length = all.length) (hr : ∀ (k : Nat) (c : AV) (u : Value), all[k]? = some c → us[k]? = some u → RepA G w c u) (hp : PCall0 P fid ds out) :
    Calls P fid us.toArray w (CallEnd E G h w out snap) := by
  obtain ⟨i1, i2⟩ := argsD_rep H hargs hin hlen hr
  have hcells : ∀ a, ISnap G w a → (w.cell? a).isSome = true := fun a ha => by
    rcases ha with ha | ⟨ha, _⟩
    · exact H.icell a ha
    · exact ha
  cases snap with
  | false =>
    refine (hp.2 G.I w us.toArray H.icell H.gl ⟨by simp [i1, hlen], fun k c u hk hu => (i2 k c u hk (by simpa using hu)).2 rfl⟩).mono fun e w' hh => ?_
    obtain ⟨I', v, c1, c2, c3, c4, c5⟩ := hh
    obtain ⟨l1, l2⟩ := H.grow c4 I' c1 c2 c3
    refine ⟨_, v, l1, l2, ?_⟩
    cases out with
    | ret d => exact ⟨c5.1, fun _ => c5.2⟩
    | pan d => exact ⟨c5.1, fun _ => c5.2⟩
    | app sz es => exact c5.elim
    | retM es =>
      obtain ⟨c5, b, arr, ck, m1, m2, m3, m4, m5⟩ := c5
      refine ⟨c5, fun _ => ⟨b, arr, ck, m1, m3, ⟨fun hk => ?_, by have := H.size; omega⟩, fun m hm => ?_, by simpa using m4, fun k x y h1 h2 => ?_⟩⟩
      · have := (H.kept b hk).1; have := H.size; omega
      · have := (H.bown m b hm).1; omega
      · simp only [List.getElem?_map, Option.map_eq_some_iff] at h1
        obtain ⟨z, hz, rfl⟩ := h1
        exact ⟨(m5 k z y hz h2).1, .d (m5 k z y hz h2).2⟩
  | true =>
    refine (hp.2 (ISnap G w) w us.toArray hcells (H.gl.mono fun a ha => ⟨.inl ha, rfl⟩) ⟨by simp [i1, hlen], fun k c u hk hu => (i2 k c u hk (by simpa using hu)).1⟩).mono fun e w' hh => ?_
    obtain ⟨I', v, c1, c2, c3, c4, c5⟩ := hh
    obtain ⟨l1, l2⟩ := H.grow c4 (fun a => G.I a ∨ (I' a ∧ w.heap.size ≤ a.block)) (fun _ h => .inl h) (fun a ha => by
      rcases ha with ha | ⟨_, ha⟩
      · exact .inl ha
      · exact .inr ha) (fun a ha => by
      rcases ha with ha | ⟨ha, _⟩
      · rw [c4.cell (H.ilt ha)]; exact H.icell a ha
      · exact c3 a ha)
    refine ⟨_, v, l1, l2, ?_⟩
    cases out with
    | ret d => exact ⟨c5.1, fun hf => (hf rfl).rep c5.2⟩
    | pan d => exact ⟨c5.1, fun hf => (hf rfl).rep c5.2⟩
    | app sz es => exact c5.elim
    | retM es => exact ⟨c5.1, fun hf => by cases hf⟩

/-- A call that returns, in a region of whatever order. -/
theorem recOk_call {E : Env} {P : Program} {ro : Option Nat} {ops : Array Oper} {nt i : Nat} {o : Oper} {ao : AOper} {f' : Opd} {args' : List Opd} {s : List (Nat × Bool × AV)} {g : Bool} {rs : List (Nat × Bool × AV)} {gs : List Bool} {fv : AV} {vs : List AV} {hl : List (Nat × HO)}
    {fid : FuncId} {all : List AV} {ds : List D} {snap : Bool} {d : D}
    (ho : ops[i]? = some o) (hc : CmpO P ops nt o ao) (hk : ao.k = .call f' args') (hg : gEff s ao.guard = some (g, rs)) (hev : evL s (f' :: args') = some (gs, fv :: vs)) (hcal : calleeA fv vs = some (fid, all)) (hargs : argsD hl all = some (ds, snap))
    (hcond : g = true → allT gs ∧ PCall P fid ds (.ret d)) (hfree : snap = true → Free d) : RecOk E P ro ops nt i { dst := o.dst, rs := rs ++ ents s (f' :: args'), g := g, v := .d d, hin := argH hl all, up := [] } := by
  intro G a w h H hsz hrs hin hfr K Q hK
  have hw := guard_ok hc hg (G := G) (w := w) (a := a) (fun p hp => hrs p (List.mem_append_left _ hp))
  cases hgg : g with
  | false =>
    rw [hgg] at hw
    exact wpOpIn_skip ho hw (hK undef w G (GLe.refl G w) H (fun hf => by simp [hgg] at hf) (fun _ => rfl))
  | true =>
    rw [hgg] at hw
    obtain ⟨c1, c2⟩ := hcond hgg
    obtain ⟨l1, l2⟩ := evL_ent (G := G) (w := w) (a := a) H.gl hev c1 (fun p hp => hrs p (List.mem_append_right _ hp))
    obtain ⟨f, args, ts, q1, q2, q3⟩ : ∃ f args ts, o.op = .call { callee := .value f, args := args, argTypes := ts } ∧ CO f f' ∧ All2 CO args.toList args' := by have := hc.k; rw [hk] at this; exact this
    have hvl : vs.length = args'.length := by simpa using l1
    have hfv : RepA G w fv (a.eval f) := l2 (f', fv) (by simp) f q2
    obtain ⟨x, y, e1, e2, e3⟩ := calleeA_rep hcal hfv (us := args.toList.map a.eval) (by simp [hvl]; have := all2_len q3; simpa using this) (evs_list args.toList args' vs q3 hvl (fun p hp => l2 p (by simp; exact .inr hp)))
    have hcall := call_core H hargs hin e2 e3 (c2.to0 rfl)
    refine wpOpIn_run ho hw (wpIn_call q1 e1 c2.1 hcall (fun v w' hR => ?_) (fun ch w' hR => ?_) (fun w' hR => ?_))
    · obtain ⟨G', u, k1, k2, k3, k4⟩ := hR
      injection k3 with k3; subst k3
      exact hK _ w' G' k1 k2 (fun _ => .d (k4 hfree)) (fun hf => by simp [hgg] at hf)
    · obtain ⟨G', u, k1, k2, k3, k4⟩ := hR; cases k3
    · obtain ⟨G', u, k1, k2, k3, k4⟩ := hR; cases k3

/-- A map that was laid by another hand gets a name. -/
theorem WRel.addMap {E : Env} {G : Gh} {h : Hp} {w : World} (H : WRel E G h w) {n : Nat} (hn : h n = none) {b : Nat} {arr : Array MapEntry} {ck : Nat} (hb : w.heap[b]? = some (.map arr ck)) (hK : ¬ E.K b ∧ E.w0.heap.size ≤ b) (hbx : ∀ m, G.box m ≠ some b) {es : List (Value × AV)} (hE : RepE G w es arr) :
    GLe G w { G with box := fun m => if m = n then some b else G.box m } w ∧ WRel E { G with box := fun m => if m = n then some b else G.box m } (h.upd [(n, .mapo es)]) w := by
  obtain ⟨hb0, hr0⟩ := H.fresh n hn
  have hcell : ∀ a : Addr, a.block = b → w.cell? a = none := fun a ha => by simp [World.cell?, ha, hb]
  have hle : GLe G w { G with box := fun m => if m = n then some b else G.box m } w :=
    ⟨fun a ha => ⟨ha, rfl⟩, fun m b hb => by
      dsimp only
      split
      · rename_i e; subst e; rw [hb0] at hb; cases hb
      · exact hb, fun _ _ h => h, fun m b hb => rfl⟩
  refine ⟨hle, ⟨H.os, H.tape, H.output, H.size, H.kept, H.i0, H.inew, H.icell, fun m hm => ?_, fun m ag' cs' hm => ?_, fun m b' hb' => ?_, fun m m' b' hm hm' => ?_, fun r hr' => ?_, fun r r' A k cap sz A' k' cap' sz' hr1 hr2 => ?_, fun m s' hm => ?_, fun m es' hm => ?_, H.gb.trans hle, H.gB⟩⟩
  · simp only [Hp.upd] at hm
    split at hm
    · cases hm
    · rename_i hne; dsimp only; rw [if_neg hne]; exact H.fresh m hm
  · simp only [Hp.upd] at hm
    dsimp only
    split at hm
    · injection hm with hm; cases hm
    · rename_i hne
      rw [if_neg hne]
      obtain ⟨b, arr', ty', e1, e2, e3, e4⟩ := H.box m ag' cs' hm
      exact ⟨b, arr', ty', e1, e2, e3.mono hle, e4⟩
  · dsimp only at hb' ⊢
    split at hb'
    · injection hb' with hb'; subst hb'
      refine ⟨(Array.getElem?_eq_some_iff.1 hb).1, hK.1, fun _ a e ha => ?_, hK.2⟩
      have := H.icell a ha
      rw [hcell a e] at this; cases this
    · rename_i hne
      obtain ⟨f1, f2, f3, f4⟩ := H.bown m b' hb'
      exact ⟨f1, f2, fun hd => f3 (fun he => hd (by simp [Hp.upd, hne, he])), f4⟩
  · dsimp only at hm hm'
    split at hm
    · split at hm'
      · rename_i e e'; rw [e, e']
      · injection hm with hm; subst hm; exact absurd hm' (hbx m')
    · split at hm'
      · injection hm' with hm'; subst hm'; exact absurd hm (hbx m)
      · exact H.binj m m' b' hm hm'
  · simp only [Hp.upd] at hr'
    split at hr'
    · injection hr' with hr'; cases hr'
    · obtain ⟨A, k, cap, sz, e1, e2⟩ := H.row r hr'
      refine ⟨A, k, cap, sz, e1, fun j hj hj' => ?_⟩
      obtain ⟨ad, e, c1, c2, c3, c4, c5⟩ := e2 j hj hj'
      refine ⟨ad, e, c1, c2, c3, c4, fun m hm => ?_⟩
      dsimp only at hm
      split at hm
      · injection hm with hm
        rw [hcell (ad.add j) (by rw [block_add]; exact hm.symm)] at c1; cases c1
      · exact c5 m hm
  · simp only [Hp.upd] at hr1 hr2
    split at hr1
    · injection hr1 with hr1; cases hr1
    · split at hr2
      · injection hr2 with hr2; cases hr2
      · exact H.rinj r r' A k cap sz A' k' cap' sz' hr1 hr2
  · simp only [Hp.upd] at hm
    dsimp only
    split at hm
    · injection hm with hm; cases hm
    · rename_i hne
      rw [if_neg hne]
      exact H.obj m s' hm
  · simp only [Hp.upd] at hm
    dsimp only
    split at hm
    · rename_i e
      injection hm with hm; injection hm with hm; subst hm
      rw [if_pos e]
      exact ⟨b, arr, ck, rfl, hb, hE.mono hle⟩
    · rename_i hne
      rw [if_neg hne]
      obtain ⟨b, arr, ck, e1, e2, e3⟩ := H.mapo m es' hm
      exact ⟨b, arr, ck, e1, e2, e3.mono hle⟩

theorem argHC_look {hl : List (Nat × HO)} : ∀ {vs : List AV}, ∀ p ∈ argHC hl vs, look hl p.1 = some p.2
  | [], p, h => by simp [argHC] at h
  | v :: r, p, h => by
    have ih := argHC_look (hl := hl) (vs := r)
    cases v <;> simp only [argHC] at h <;> (first | exact ih p h | skip)
    all_goals
      split at h
      · rename_i o ho
        rcases List.mem_cons.1 h with rfl | h
        · exact ho
        · exact ih p h
      · exact ih p h
theorem argH_look {hl : List (Nat × HO)} : ∀ {vs : List AV}, ∀ p ∈ argH hl vs, look hl p.1 = some p.2
  | [], p, h => by simp [argH] at h
  | v :: r, p, h => by
    simp only [argH] at h
    rcases List.mem_append.1 h with h | h
    · unfold argH1 at h
      split at h
      · rcases List.mem_append.1 h with h | h
        · exact argHC_look p h
        · exact argHC_look p h
      · exact argHC_look p h
    · exact argH_look (hl := hl) (vs := r) p h

/-- A call that returns a map, in a region of whatever order. -/
theorem recOk_callM {E : Env} {P : Program} {ro : Option Nat} {ops : Array Oper} {nt i : Nat} {o : Oper} {ao : AOper} {f' : Opd} {args' : List Opd} {s : List (Nat × Bool × AV)} {g : Bool} {rs : List (Nat × Bool × AV)} {gs : List Bool} {fv : AV} {vs : List AV} {hl : List (Nat × HO)}
    {fid : FuncId} {all : List AV} {ds : List D} {snap : Bool} {es : List (Value × D)} {n : Nat}
    (ho : ops[i]? = some o) (hc : CmpO P ops nt o ao) (hk : ao.k = .call f' args') (hg : gEff s ao.guard = some (g, rs)) (hev : evL s (f' :: args') = some (gs, fv :: vs)) (hcal : calleeA fv vs = some (fid, all)) (hargs : argsD hl all = some (ds, snap))
    (hcond : g = true → allT gs ∧ PCall P fid ds (.retM es)) (hgt : g = true) (hfree : snap = false) (hnew : look hl n = none) : RecOk E P ro ops nt i { dst := o.dst, rs := rs ++ ents s (f' :: args'), g := g, v := .mp n, hin := argH hl all, up := [(n, .mapo (es.map fun e => (e.1, AV.d e.2)))] } := by
  intro G a w h H hsz hrs hin hfr K Q hK
  have hw := guard_ok hc hg (G := G) (w := w) (a := a) (fun p hp => hrs p (List.mem_append_left _ hp))
  have hfr' : h n = none := by
    rcases hfr (n, .mapo (es.map fun e => (e.1, AV.d e.2))) (by simp) with hq | ⟨q, hq, hq'⟩
    · exact hq
    · have := argH_look q hq
      rw [show q.1 = n from hq'] at this; rw [hnew] at this; cases this
  rw [hgt] at hw
  obtain ⟨c1, c2⟩ := hcond hgt
  obtain ⟨l1, l2⟩ := evL_ent (G := G) (w := w) (a := a) H.gl hev c1 (fun p hp => hrs p (List.mem_append_right _ hp))
  obtain ⟨f, args, ts, q1, q2, q3⟩ : ∃ f args ts, o.op = .call { callee := .value f, args := args, argTypes := ts } ∧ CO f f' ∧ All2 CO args.toList args' := by have := hc.k; rw [hk] at this; exact this
  have hvl : vs.length = args'.length := by simpa using l1
  have hfv : RepA G w fv (a.eval f) := l2 (f', fv) (by simp) f q2
  obtain ⟨x, y, e1, e2, e3⟩ := calleeA_rep hcal hfv (us := args.toList.map a.eval) (by simp [hvl]; have := all2_len q3; simpa using this) (evs_list args.toList args' vs q3 hvl (fun p hp => l2 p (by simp; exact .inr hp)))
  have hcall := call_core H hargs hin e2 e3 (c2.to0 rfl)
  refine wpOpIn_run ho hw (wpIn_call q1 e1 c2.1 hcall (fun v w' hR => ?_) (fun ch w' hR => ?_) (fun w' hR => ?_))
  · obtain ⟨G', u, k1, k2, k3, k4⟩ := hR
    injection k3 with k3; subst k3
    obtain ⟨b, arr, ck, rfl, m1, m2, m3, m4⟩ := k4 hfree
    obtain ⟨n1, n2⟩ := k2.addMap hfr' m1 m2 m3 m4
    exact hK _ w' _ (k1.trans n1) n2 (fun _ => .mp (by simp)) (fun hf => by simp [hgt] at hf)
  · obtain ⟨G', u, k1, k2, k3, k4⟩ := hR; cases k3
  · obtain ⟨G', u, k1, k2, k3, k4⟩ := hR; cases k3

/-- A call has gone on with a row: what is known of memory. -/
theorem WRel.app {E : Env} {G : Gh} {h : Hp} {w w' : World} (H : WRel E G h w) {A : Option Addr} {n cap sz : Nat} (hT : Tail E G w A n cap sz)
    (hd : n * sz < cap * sz → ∀ r' A' n' cap' sz', h r' = some .row → G.row r' = some (A', n', cap', sz') → n' * sz' < cap' * sz' → ∀ ad ad', A = some ad → A' = some ad' → ad.block ≠ ad'.block) {q : Nat} (hq : h q = none)
    {es' : List D} {e : Ending} (hR : AEnd G.I w A n cap sz es' e w') :
    ∃ G' A' n' cap', e = .returned (.slice A' n' cap') ∧ GLe G w G' w' ∧ WRel E G' (h.upd [(q, .row)]) w' ∧ RepA G' w' (.own q sz es') (.slice A' n' cap') := by
  obtain ⟨I', A', n', cap', rfl, c1, c2, c3, ⟨c4, c5, c6, c7⟩, c8, c9, c10, c11⟩ := hR
  have hrb : ∀ b, RowB A n cap sz b → ¬ E.K b ∧ E.N b ∧ ∀ m, G.box m ≠ some b := fun b hb => by
    obtain ⟨hlt, ad, rfl, rfl⟩ := hb
    obtain ⟨ad', e', _, _, _, q4, q5⟩ := hT (n * sz) (Nat.le_refl _) hlt
    injection e' with e'; subst e'
    exact ⟨q4.1, q4.2, q5⟩
  have hle : GLe G w { G with I := I' } w' := ⟨c1, fun _ _ h => h, fun _ _ h => h, fun _ _ _ => rfl⟩
  have hblk : ∀ m b, G.box m = some b → w'.heap[b]? = w.heap[b]? := fun m b hb => c8 b (H.bown m b hb).1 (fun hr => (hrb b hr).2.2 m hb)
  have hother : ∀ r' A2 n2 cap2 sz2, h r' = some .row → G.row r' = some (A2, n2, cap2, sz2) → Tail E G w A2 n2 cap2 sz2 → ∀ k, n2 * sz2 ≤ k → k < cap2 * sz2 → ∀ ad, A2 = some ad → ad.block < w.heap.size ∧ ¬ RowB A n cap sz ad.block := fun r' A2 n2 cap2 sz2 h1 h2 h3 k hk hk' ad e => by
    obtain ⟨ad', e', q1, _⟩ := h3 k hk hk'
    rw [e] at e'; injection e' with e'; subst e'
    obtain ⟨v, hv⟩ := Option.isSome_iff_exists.1 q1
    have := World.block_lt_of_cell? w _ hv
    rw [block_add] at this
    refine ⟨this, fun hr => ?_⟩
    obtain ⟨hlt, ad2, e2, e3⟩ := hr
    exact hd hlt r' A2 n2 cap2 sz2 h1 h2 (by omega) ad2 ad e2 e e3
  have H1 : WRel E { G with I := I' } h w' := by
    refine ⟨c4.trans H.os, c5.trans H.tape, c6.trans H.output, Nat.le_trans H.size c7, fun b hb => ?_, fun a ha => ?_, fun a ha => ?_, c3, H.fresh, fun m ag cs hm => ?_, fun m b hb => ?_, H.binj, fun r hr => ?_, H.rinj, fun m s hm => ?_, fun m es hm => ?_, H.gb.trans hle, H.gB⟩
    · obtain ⟨h1, h2⟩ := H.kept b hb
      exact ⟨h1, (c8 b (Nat.lt_of_lt_of_le h1 H.size) (fun hr => (hrb b hr).1 hb)).trans h2⟩
    · obtain ⟨h1, h2⟩ := H.i0 a ha
      exact ⟨(c1 a h1).1, (c1 a h1).2.trans h2⟩
    · rcases c2 a ha with h1 | h1 | h1
      · exact H.inew a h1
      · exact .inr (E.hN _ (Nat.le_trans H.size h1))
      · exact .inr (hrb _ h1).2.1
    · obtain ⟨b, arr, ty, h1, h2, h3, h4⟩ := H.box m ag cs hm
      exact ⟨b, arr, ty, h1, (hblk m b h1).trans h2, h3.mono hle, h4⟩
    · obtain ⟨h1, h2, h3, h5⟩ := H.bown m b hb
      refine ⟨Nat.lt_of_lt_of_le h1 c7, h2, fun hdd a e ha => ?_, h5⟩
      rcases c2 a ha with h4 | h4 | h4
      · exact h3 hdd a e h4
      · omega
      · exact (hrb _ h4).2.2 m (e ▸ hb)
    · obtain ⟨A2, n2, cap2, sz2, h1, h2⟩ := H.row r hr
      refine ⟨A2, n2, cap2, sz2, h1, fun k hk hk' => ?_⟩
      obtain ⟨ad, e, d1, d2, d3, d4, d5⟩ := h2 k hk hk'
      obtain ⟨x1, x2⟩ := hother r A2 n2 cap2 sz2 hr h1 h2 k hk hk' ad e
      have hb : w'.heap[(ad.add k).block]? = w.heap[(ad.add k).block]? := by rw [block_add]; exact c8 _ x1 x2
      refine ⟨ad, e, by rw [World.cell?_of_block hb]; exact d1, by rw [World.frozen?_of_block hb]; exact d2, fun hi => ?_, d4, d5⟩
      rcases c2 _ hi with h4 | h4 | h4
      · exact d3 h4
      · rw [block_add] at h4; omega
      · rw [block_add] at h4; exact x2 h4
    · obtain ⟨b, e1, e2⟩ := H.obj m s hm
      exact ⟨b, e1, (hblk m b e1).trans e2⟩
    · obtain ⟨b, arr, ck, e1, e2, e3⟩ := H.mapo m es hm
      exact ⟨b, arr, ck, e1, (hblk m b e1).trans e2, e3.mono hle⟩
  have hrb' : ∀ b, RowB A' n' cap' sz b → ¬ E.K b ∧ E.N b ∧ ∀ m, G.box m ≠ some b := fun b hb => by
    rcases c11 b hb with h1 | h1
    · refine ⟨fun hk => ?_, E.hN _ (Nat.le_trans H.size h1), fun m hm => ?_⟩
      · have := (H.kept b hk).1; have := H.size; omega
      · have := (H.bown m b hm).1; omega
    · exact hrb b h1
  have hT1 : Tail E { G with I := I' } w' A' n' cap' sz := fun k hk hk' => by
    obtain ⟨ad, e, d1, d2, d3⟩ := c10 k hk hk'
    obtain ⟨x1, x2, x3⟩ := hrb' ad.block ⟨by omega, ad, e, rfl⟩
    exact ⟨ad, e, d1, d2, d3, ⟨x1, x2⟩, x3⟩
  obtain ⟨l1, l2⟩ := H1.addRow hq hT1 (fun hlt r' A2 n2 cap2 sz2 h1 h2 h3 ad ad' e1 e2 e3 => by
    obtain ⟨A3, n3, cap3, sz3, g1, g2⟩ := H.row r' h1
    have h2 : G.row r' = some (A2, n2, cap2, sz2) := h2
    rw [g1] at h2
    injection h2 with h2; injection h2 with y1 y2; injection y2 with y2 y3; injection y3 with y3 y4
    subst y1; subst y2; subst y3; subst y4
    obtain ⟨x1, x2⟩ := hother r' A3 n3 cap3 sz3 h1 g1 g2 (n3 * sz3) (Nat.le_refl _) h3 ad' e2
    rcases c11 ad.block ⟨hlt, ad, e1, rfl⟩ with h4 | h4
    · omega
    · exact x2 (e3 ▸ h4))
  exact ⟨_, A', n', cap', rfl, hle.trans l1, l2, .own (by simp) (c9.mono l1.imm)⟩

/-- The first argument of a call that goes on with its row. -/
def rowA (hl : List (Nat × HO)) : AV → Option (Nat × List D × List (Nat × HO) × List (Nat × HO))
  | .own r sz es => match look hl r with
    | some .row => some (sz, es, [(r, .row)], [(r, .dead)])
    | _ => none
  | .d (.nil sz) => some (sz, [], [], [])
  | _ => none

/-- A call that goes on with the row of its first argument, in a region of whatever order. -/
theorem recOk_acall {E : Env} {P : Program} {ro : Option Nat} {ops : Array Oper} {nt i : Nat} {o : Oper} {ao : AOper} {f' : Opd} {args' : List Opd} {s : List (Nat × Bool × AV)} {g : Bool} {rs : List (Nat × Bool × AV)} {gs : List Bool} {fv : AV} {vs : List AV} {hl : List (Nat × HO)}
    {fid : FuncId} {a0 : AV} {all : List AV} {ds : List D} {sz : Nat} {es es' : List D} {rh ru : List (Nat × HO)} {q : Nat}
    (ho : ops[i]? = some o) (hc : CmpO P ops nt o ao) (hk : ao.k = .acall f' args') (hg : gEff s ao.guard = some (g, rs)) (hev : evL s (f' :: args') = some (gs, fv :: vs)) (hcal : calleeA fv vs = some (fid, a0 :: all)) (hrow : rowA hl a0 = some (sz, es, rh, ru)) (hargs : argsD hl all = some (ds, false))
    (hcond : g = true → allT gs ∧ ACall P fid sz es ds es') (hgt : g = true) (hnew : look hl q = none) : RecOk E P ro ops nt i { dst := o.dst, rs := rs ++ ents s (f' :: args'), g := g, v := .own q sz es', hin := rh ++ argH hl all, up := (q, .row) :: ru } := by
  intro G a w h H hsz hrs hin hfr K Q hK
  have hw := guard_ok hc hg (G := G) (w := w) (a := a) (fun p hp => hrs p (List.mem_append_left _ hp))
  have hrl : ∀ p ∈ rh, look hl p.1 = some p.2 := fun p hp => by
    unfold rowA at hrow
    split at hrow
    · split at hrow
      · rename_i hlk
        simp only [Option.some.injEq, Prod.mk.injEq] at hrow
        obtain ⟨_, _, rfl, _⟩ := hrow
        simp at hp; subst hp; exact hlk
      · cases hrow
    · simp only [Option.some.injEq, Prod.mk.injEq] at hrow
      obtain ⟨_, _, rfl, _⟩ := hrow
      simp at hp
    · cases hrow
  have hfr' : h q = none := by
    rcases hfr (q, .row) (by simp) with hq | ⟨p, hp, hp'⟩
    · exact hq
    · rcases List.mem_append.1 hp with hp | hp
      · have := hrl p hp
        rw [show p.1 = q from hp'] at this; rw [hnew] at this; cases this
      · have := argH_look p hp
        rw [show p.1 = q from hp'] at this; rw [hnew] at this; cases this
  rw [hgt] at hw
  obtain ⟨c1, c2⟩ := hcond hgt
  obtain ⟨l1, l2⟩ := evL_ent (G := G) (w := w) (a := a) H.gl hev c1 (fun p hp => hrs p (List.mem_append_right _ hp))
  obtain ⟨f, args, ts, q1, q2, q3⟩ : ∃ f args ts, o.op = .call { callee := .value f, args := args, argTypes := ts } ∧ CO f f' ∧ All2 CO args.toList args' := by have := hc.k; rw [hk] at this; exact this
  have hvl : vs.length = args'.length := by simpa using l1
  have hfv : RepA G w fv (a.eval f) := l2 (f', fv) (by simp) f q2
  obtain ⟨x, y, e1, e2, e3⟩ := calleeA_rep hcal hfv (us := args.toList.map a.eval) (by simp [hvl]; have := all2_len q3; simpa using this) (evs_list args.toList args' vs q3 hvl (fun p hp => l2 p (by simp; exact .inr hp)))
  generalize hus : x.toList ++ (args.toList.map a.eval ++ y.toList) = us at e2 e3
  cases us with
  | nil => simp at e2
  | cons u us =>
  have hr0 := e3 0 a0 u rfl rfl
  obtain ⟨i1, i2⟩ := argsD_rep H hargs (fun p hp => hin p (List.mem_append_right _ hp)) (us := us) (by simpa using e2) (fun k c v hk hv => e3 (k + 1) c v (by simpa using hk) (by simpa using hv))
  -- the row is dead from now on
  obtain ⟨A, n, cap, h2, rfl, hx, hT, H2, hd, hq2, hup⟩ : ∃ A n cap h2, u = .slice A n cap ∧ Rep G.I w (.sl sz es) (.slice A n cap) ∧ Tail E G w A n cap sz ∧ WRel E G h2 w ∧
      (n * sz < cap * sz → ∀ r' A' n' cap' sz', h2 r' = some .row → G.row r' = some (A', n', cap', sz') → n' * sz' < cap' * sz' → ∀ ad ad', A = some ad → A' = some ad' → ad.block ≠ ad'.block) ∧ h2 q = none ∧ h2.upd [(q, .row)] = h.upd ((q, .row) :: ru) := by
    unfold rowA at hrow
    split at hrow
    · rename_i r z es0
      split at hrow
      · rename_i hlk
        simp only [Option.some.injEq, Prod.mk.injEq] at hrow
        obtain ⟨rfl, rfl, rfl, rfl⟩ := hrow
        have hhr : h r = some .row := hin (r, .row) (by simp)
        obtain ⟨A, n, cap, rfl, g1, g2⟩ : ∃ A n cap, u = .slice A n cap ∧ G.row r = some (A, n, cap, z) ∧ Rep G.I w (.sl z es0) (.slice A n cap) := by
          cases hr0 with
          | own hg h => exact ⟨_, _, _, rfl, hg, h⟩
        obtain ⟨A2, n2, cap2, sz2, f1, f2⟩ := H.row r hhr
        rw [g1] at f1
        injection f1 with f1; injection f1 with y1 y2; injection y2 with y2 y3; injection y3 with y3 y4
        subst y1; subst y2; subst y3; subst y4
        have hqr : q ≠ r := fun e => by rw [e, hhr] at hfr'; cases hfr'
        refine ⟨A, n, cap, h.upd [(r, .dead)], rfl, g2, f2, H.killRow hhr, fun hlt r' A' n' cap' sz' k1 k2 k3 ad ad' k4 k5 k6 => ?_, by rw [upd_one, if_neg hqr]; exact hfr', ?_⟩
        · rw [upd_one] at k1
          split at k1
          · injection k1 with k1; cases k1
          · rename_i hne
            exact hne (H.rinj r' r A' n' cap' sz' A n cap z k1 hhr k2 g1 k3 hlt ad' ad k5 k4 k6.symm)
        · funext m
          simp only [Hp.upd]
      · cases hrow
    · rename_i z
      simp only [Option.some.injEq, Prod.mk.injEq] at hrow
      obtain ⟨rfl, rfl, rfl, rfl⟩ := hrow
      have hr1 := hr0.of_d
      have hr2 := LeD.nil z _ _ _ hr1
      cases hr1
      exact ⟨none, 0, 0, h, rfl, hr2, fun k hk hk' => by omega, H, fun hlt => by omega, hfr', rfl⟩
    · cases hrow
  have hcall := c2.2 G.I w A n cap us H.icell H.gl hx ⟨by simp [i1]; simpa using e2, fun k c v hk hv => (i2 k c v hk (by simpa using hv)).2 rfl⟩ (fun k hk hk' => by
    obtain ⟨ad, e, d1, d2, d3, _, _⟩ := hT k hk hk'
    exact ⟨ad, e, d1, d2, d3⟩)
  rw [← hus] at hcall
  refine wpOpIn_run ho hw (wpIn_call q1 e1 c2.1 hcall (fun v w' hR => ?_) (fun ch w' hR => ?_) (fun w' hR => ?_))
  · obtain ⟨G', A', n', cap', k1, k2, k3, k4⟩ := H2.app hT hd hq2 hR
    injection k1 with k1; subst k1
    rw [hup] at k3
    exact hK _ w' G' k2 k3 (fun _ => k4) (fun hf => by simp [hgt] at hf)
  · obtain ⟨_, _, _, _, k1, _⟩ := hR; cases k1
  · obtain ⟨_, _, _, _, k1, _⟩ := hR; cases k1

/-- The state of a walk: what the slots hold, what the boxes hold. -/
inductive DE where
  | mark (n : Nat)
  | fn (f : FuncId) (as caps : List AV)
structure St where
  s : List (Nat × Bool × AV)
  h : List (Nat × HO)
  d : List DE

inductive RepDe (G : Gh) (w : World) : DE → Deferred → Prop
  | mark {n b} (hg : G.box n = some b) : RepDe G w (.mark n) { target := .collected b, args := #[] }
  | fn {f as caps} {x y : Array Value} (h1 : RepAL G w as x) (h2 : RepAL G w caps y) : RepDe G w (.fn f as caps) { target := .fn (.func f) y, args := x }
theorem RepDe.mono {G G' : Gh} {w w' : World} {x : DE} {v : Deferred} (h : RepDe G w x v) (hk : GLe G w G' w') : RepDe G' w' x v := by
  cases h with
  | mark hg => exact .mark (hk.box _ _ hg)
  | fn h1 h2 => exact .fn (h1.mono hk) (h2.mono hk)
theorem All2.map' {α β : Type} {R S : α → β → Prop} (hRS : ∀ x y, R x y → S x y) : ∀ {l : List α} {m : List β}, All2 R l m → All2 S l m
  | _, _, .nil => .nil
  | _, _, .cons h t => .cons (hRS _ _ h) (All2.map' hRS t)
def RepDs (G : Gh) (w : World) (ds : List DE) (vs : List Deferred) : Prop := All2 (RepDe G w) ds vs
theorem RepDs.mono {G G' : Gh} {w w' : World} {ds : List DE} {vs : List Deferred} (h : RepDs G w ds vs) (hk : GLe G w G' w') : RepDs G' w' ds vs := All2.map' (fun _ _ h => h.mono hk) h

structure StRel (E : Env) (G : Gh) (σ : St) (a : Act) (w : World) (nt : Nat) : Prop where
  wr : WRel E G (look σ.h) w
  sz : a.tmps.size = nt
  sr : ∀ t e, getS σ.s t = some e → Ent G w a t e
  defers : RepDs G w σ.d a.defers

def setH (hl : List (Nat × HO)) (n : Nat) (o : HO) : List (Nat × HO) :=
  match hl with
  | [] => [(n, o)]
  | (m, x) :: r => if n = m then (m, o) :: r else (m, x) :: setH r n o
def updH (hl : List (Nat × HO)) : List (Nat × HO) → List (Nat × HO)
  | [] => hl
  | (n, o) :: r => setH (updH hl r) n o
def putS (s : List (Nat × Bool × AV)) (dst : Option Nat) (e : Bool × AV) : List (Nat × Bool × AV) :=
  match dst with
  | some t => (t, e) :: s
  | none => s

theorem look_setH : ∀ (hl : List (Nat × HO)) (n : Nat) (o : HO) (m : Nat), look (setH hl n o) m = if m = n then some o else look hl m
  | [], n, o, m => by simp [setH, look]
  | (k, x) :: r, n, o, m => by
    simp only [setH]
    split
    · rename_i e; subst e; simp only [look]; split <;> rfl
    · rename_i e
      simp only [look, look_setH r n o m]
      by_cases hmk : m = k
      · subst hmk; rw [if_pos rfl, if_neg (fun h => e h.symm), if_pos rfl]
      · rw [if_neg hmk, if_neg hmk]
theorem look_updH (hl : List (Nat × HO)) : ∀ up, look (updH hl up) = Hp.upd (look hl) up
  | [] => rfl
  | (n, o) :: r => by
    funext m
    rw [updH, look_setH, look_updH hl r]; rfl

theorem ent_put {G : Gh} {w : World} {a : Act} {d : Nat} {val : Value} {t : Nat} {e : Bool × AV} (h : Ent G w a t e) (hne : t ≠ d) : Ent G w (a.put (some d) val) t e := by
  obtain ⟨v, h1, h2, h3⟩ := h
  exact ⟨v, by simp only [Act.put]; rw [Array.getElem?_setIfInBounds_ne (fun h => hne h.symm)]; exact h1, h2, h3⟩

theorem StRel.put {E : Env} {G G' : Gh} {σ : St} {a : Act} {w w' : World} {nt : Nat} (H : StRel E G σ a w nt) {up : List (Nat × HO)} {dst : Option Nat} {g : Bool} {v : AV} {val : Value} (hle : GLe G w G' w') (hw : WRel E G' (Hp.upd (look σ.h) up) w')
    (hlt : ∀ d, dst = some d → d < nt) (h1 : g = true → RepA G' w' v val) (h2 : g = false → val = undef) : StRel E G' ⟨putS σ.s dst (g, v), updH σ.h up, σ.d⟩ (a.put dst val) w' nt := by
  refine ⟨by rw [look_updH]; exact hw, ?_, fun t e he => ?_, ?_⟩
  · cases dst with
    | none => exact H.sz
    | some d => simp only [Act.put, Array.size_setIfInBounds]; exact H.sz
  · cases dst with
    | none => exact (H.sr t e he).mono hle
    | some d =>
      simp only [putS, getS] at he
      split at he
      · rename_i ht; subst ht
        injection he with he; subst he
        refine ⟨val, ?_, h1, h2⟩
        have := hlt t rfl
        simp [Act.put, H.sz, this]
      · rename_i ht
        exact ent_put ((H.sr t e he).mono hle) ht
  · cases dst <;> exact H.defers.mono hle

/-- Which guards an operation's operands ask for. -/
def gcond (x : AOp) (gs : List Bool) (vs : List AV) : Prop :=
  match x with
  | .pick .. => match gs, vs with
    | [gc, ga, gb], .d (.lit (.bool c)) :: _ => gc = true ∧ (c = true → ga = true) ∧ (c = false → gb = true)
    | _, _ => False
  | _ => allT gs

def vcOp (C : FuncId → List D → Out → Prop) (σ : St) (ao : AOper) (Qp : D → Prop) (K : Rec → St → Prop) : Prop :=
  match gEff σ.s ao.guard with
  | none => False
  | some (g, rs) =>
    match ao.k with
    | .op x => match evL σ.s x.opds with
      | none => False
      | some (gs, vs) => match stepV σ.h x vs with
        | none => False
        | some e => (g = true → gcond x gs vs ∧ e.c) ∧ (e.up.isEmpty = false → g = true) ∧ K ⟨ao.dst, rs ++ ents σ.s x.opds, g, e.v, e.hin, e.up⟩ ⟨putS σ.s ao.dst (g, e.v), updH σ.h e.up, σ.d⟩
    | .call f args => match evL σ.s (f :: args) with
      | some (gs, fv :: vs) => match calleeA fv vs with
        | some (fid, all) => match argsD σ.h all with
          | some (ds, snap) => ∃ out, (g = true → allT gs ∧ C fid ds out) ∧ match out with
            | .ret d => (snap = true → Free d) ∧ K ⟨ao.dst, rs ++ ents σ.s (f :: args), g, .d d, argH σ.h all, []⟩ ⟨putS σ.s ao.dst (g, .d d), σ.h, σ.d⟩
            | .pan d => g = true ∧ (snap = true → Free d) ∧ Qp d
            | .app _ _ => False
            | .retM es => g = true ∧ snap = false ∧ K ⟨ao.dst, rs ++ ents σ.s (f :: args), g, .mp (newName σ.h), argH σ.h all, [(newName σ.h, .mapo (es.map fun e => (e.1, AV.d e.2)))]⟩ ⟨putS σ.s ao.dst (g, .mp (newName σ.h)), updH σ.h [(newName σ.h, .mapo (es.map fun e => (e.1, AV.d e.2)))], σ.d⟩
          | none => False
        | none => False
      | _ => False
    | .acall f args => match evL σ.s (f :: args) with
      | some (gs, fv :: vs) => match calleeA fv vs with
        | some (fid, a0 :: all) => match rowA σ.h a0, argsD σ.h all with
          | some (sz, es, rh, ru), some (ds, false) => ∃ es', g = true ∧ (allT gs ∧ C fid (.sl sz es :: ds) (.app sz es')) ∧ K ⟨ao.dst, rs ++ ents σ.s (f :: args), g, .own (newName σ.h) sz es', rh ++ argH σ.h all, (newName σ.h, .row) :: ru⟩ ⟨putS σ.s ao.dst (g, .own (newName σ.h) sz es'), updH σ.h ((newName σ.h, .row) :: ru), σ.d⟩
          | _, _ => False
        | _ => False
      | _ => False
    | _ => False

def vcOps (C : FuncId → List D → Out → Prop) (Qp : D → St → Prop) (K : List Rec → St → Prop) : List AOper → St → List Rec → Prop
  | [], σ, recs => K recs σ
  | ao :: r, σ, recs => vcOp C σ ao (fun d => Qp d σ) (fun rec σ' => vcOps C Qp K r σ' (recs ++ [rec]))

/-- A call that panics, in a region in the order of the text. -/
def PanOk (E : Env) (P : Program) (ro : Option Nat) (ops : Array Oper) (nt i : Nat) (rs : List (Nat × Bool × AV)) (hin : List (Nat × HO)) (d : D) : Prop :=
  ∀ (G : Gh) (a : Act) (w : World) (h : Hp), WRel E G h w → a.tmps.size = nt → (∀ p ∈ rs, Ent G w a p.1 p.2) → (∀ p ∈ hin, h p.1 = some p.2) →
    ∀ (K : Act → World → Prop) (Q : Exit → Act → World → Prop), (∀ v w' G', GLe G w G' w' → WRel E G' h w' → Rep G'.I w' d v → Q (.panic [{ v := v, recovered := false }]) a w') → wpOpIn (Fr ro) 0 P ops Q i K a w

theorem panOk_call {E : Env} {P : Program} {ro : Option Nat} {ops : Array Oper} {nt i : Nat} {o : Oper} {ao : AOper} {f' : Opd} {args' : List Opd} {s : List (Nat × Bool × AV)} {g : Bool} {rs : List (Nat × Bool × AV)} {gs : List Bool} {fv : AV} {vs : List AV} {hl : List (Nat × HO)}
    {fid : FuncId} {all : List AV} {ds : List D} {snap : Bool} {d : D}
    (ho : ops[i]? = some o) (hc : CmpO P ops nt o ao) (hk : ao.k = .call f' args') (hg : gEff s ao.guard = some (g, rs)) (hev : evL s (f' :: args') = some (gs, fv :: vs)) (hcal : calleeA fv vs = some (fid, all)) (hargs : argsD hl all = some (ds, snap))
    (hcond : g = true → allT gs ∧ PCall P fid ds (.pan d)) (hgt : g = true) (hfree : snap = true → Free d) : PanOk E P ro ops nt i (rs ++ ents s (f' :: args')) (argH hl all) d := by
  intro G a w h H hsz hrs hin K Q hK
  have hw := guard_ok hc hg (G := G) (w := w) (a := a) (fun p hp => hrs p (List.mem_append_left _ hp))
  rw [hgt] at hw
  obtain ⟨c1, c2⟩ := hcond hgt
  obtain ⟨l1, l2⟩ := evL_ent (G := G) (w := w) (a := a) H.gl hev c1 (fun p hp => hrs p (List.mem_append_right _ hp))
  obtain ⟨f, args, ts, q1, q2, q3⟩ : ∃ f args ts, o.op = .call { callee := .value f, args := args, argTypes := ts } ∧ CO f f' ∧ All2 CO args.toList args' := by have := hc.k; rw [hk] at this; exact this
  have hvl : vs.length = args'.length := by simpa using l1
  have hfv : RepA G w fv (a.eval f) := l2 (f', fv) (by simp) f q2
  obtain ⟨x, y, e1, e2, e3⟩ := calleeA_rep hcal hfv (us := args.toList.map a.eval) (by simp [hvl]; have := all2_len q3; simpa using this) (evs_list args.toList args' vs q3 hvl (fun p hp => l2 p (by simp; exact .inr hp)))
  have hcall := call_core H hargs hin e2 e3 (c2.to0 rfl)
  refine wpOpIn_run ho hw (wpIn_call q1 e1 c2.1 hcall (fun v w' hR => ?_) (fun ch w' hR => ?_) (fun w' hR => ?_))
  · obtain ⟨G', u, k1, k2, k3, k4⟩ := hR; cases k3
  · obtain ⟨G', u, k1, k2, k3, k4⟩ := hR
    injection k3 with k3; subst k3
    exact hK u w' G' k1 k2 (k4 hfree)
  · obtain ⟨G', u, k1, k2, k3, k4⟩ := hR; cases k3

theorem look_new (hl : List (Nat × HO)) : look hl (newName hl) = none := by
  cases h : look hl (newName hl) with
  | none => rfl
  | some x => have := look_lt h; omega

theorem stepV_names {hl : List (Nat × HO)} {x : AOp} {vs : List AV} {e : Eff} (h : stepV hl x vs = some e) : (∀ p ∈ e.hin, look hl p.1 = some p.2) ∧ (∀ p ∈ e.up, look hl p.1 = none ∨ ∃ q ∈ e.hin, q.1 = p.1) := by
  have hn := look_new hl
  cases x <;> simp only [stepV] at h <;> (try (rename_i k _; cases k <;> simp only [stepX] at h)) <;> (repeat' split at h) <;> simp only [Option.some.injEq, reduceCtorEq] at h <;> subst h <;> simp_all

structure RecIn (σ : St) (r : Rec) : Prop where
  rs : ∀ p ∈ r.rs, getS σ.s p.1 = some p.2
  hin : ∀ p ∈ r.hin, look σ.h p.1 = some p.2
  up : ∀ p ∈ r.up, look σ.h p.1 = none ∨ ∃ q ∈ r.hin, q.1 = p.1

theorem ents_in {s : List (Nat × Bool × AV)} : ∀ {l : List Opd}, ∀ p ∈ ents s l, getS s p.1 = some p.2
  | [], p, h => by simp [ents] at h
  | .tmp t :: r, p, h => by
    simp only [ents] at h
    split at h
    · rename_i e he
      rcases List.mem_cons.1 h with rfl | h
      · exact he
      · exact ents_in p h
    · exact ents_in p h
  | .dat _ :: r, p, h => ents_in (l := r) p h
  | .glob _ :: r, p, h => ents_in (l := r) p h

theorem gEff_in {s : List (Nat × Bool × AV)} {gd : Option (Nat × Bool)} {g : Bool} {rs : List (Nat × Bool × AV)} (h : gEff s gd = some (g, rs)) : ∀ p ∈ rs, getS s p.1 = some p.2 := by
  unfold gEff at h
  split at h
  · simp only [Option.some.injEq, Prod.mk.injEq] at h
    obtain ⟨_, rfl⟩ := h; simp
  · split at h <;> simp only [Option.some.injEq, Prod.mk.injEq, reduceCtorEq] at h
    rename_i hs
    obtain ⟨_, rfl⟩ := h
    intro p hp
    simp at hp; subst hp; exact hs

theorem argHC_in {hl : List (Nat × HO)} : ∀ {vs : List AV}, ∀ p ∈ argHC hl vs, look hl p.1 = some p.2
  | [], p, h => by simp [argHC] at h
  | v :: r, p, h => by
    have ih := argHC_in (hl := hl) (vs := r)
    cases v <;> simp only [argHC] at h <;> (first | exact ih p h | skip)
    all_goals
      split at h
      · rename_i o ho
        rcases List.mem_cons.1 h with rfl | h
        · exact ho
        · exact ih p h
      · exact ih p h
theorem argH_in {hl : List (Nat × HO)} : ∀ {vs : List AV}, ∀ p ∈ argH hl vs, look hl p.1 = some p.2
  | [], p, h => by simp [argH] at h
  | v :: r, p, h => by
    simp only [argH] at h
    rcases List.mem_append.1 h with h | h
    · unfold argH1 at h
      split at h
      · rcases List.mem_append.1 h with h | h
        · exact argHC_in p h
        · exact argHC_in p h
      · exact argHC_in p h
    · exact argH_in (hl := hl) (vs := r) p h

theorem rowA_in {hl : List (Nat × HO)} {v : AV} {sz : Nat} {es : List D} {rh ru : List (Nat × HO)} (h : rowA hl v = some (sz, es, rh, ru)) : (∀ p ∈ rh, look hl p.1 = some p.2) ∧ ∀ p ∈ ru, ∃ q ∈ rh, q.1 = p.1 := by
  unfold rowA at h
  split at h
  · split at h
    · rename_i hlk
      simp only [Option.some.injEq, Prod.mk.injEq] at h
      obtain ⟨_, _, rfl, rfl⟩ := h
      refine ⟨fun p hp => ?_, fun p hp => ?_⟩
      · simp at hp; subst hp; exact hlk
      · simp at hp; subst hp; exact ⟨(_, .row), by simp, rfl⟩
    · cases h
  · simp only [Option.some.injEq, Prod.mk.injEq] at h
    obtain ⟨_, _, rfl, rfl⟩ := h
    simp
  · cases h
/-- A step is a record that is all right, and what follows follows; or it panics. -/
theorem vcOp_rec {E : Env} {P : Program} {ro : Option Nat} {ops : Array Oper} {nt i : Nat} {o : Oper} {ao : AOper} {σ : St} {Qp : D → Prop} {K : Rec → St → Prop} {C : FuncId → List D → Out → Prop} (hC : ∀ f ds out, C f ds out → PCall P f ds out) (ho : ops[i]? = some o) (hc : CmpO P ops nt o ao) (hv : vcOp C σ ao Qp K) :
    (∃ rec : Rec, RecOk E P ro ops nt i rec ∧ RecIn σ rec ∧ rec.dst = o.dst ∧ K rec ⟨putS σ.s rec.dst (rec.g, rec.v), updH σ.h rec.up, σ.d⟩) ∨
    ∃ d rs hin, PanOk E P ro ops nt i rs hin d ∧ (∀ p ∈ rs, getS σ.s p.1 = some p.2) ∧ (∀ p ∈ hin, look σ.h p.1 = some p.2) ∧ Qp d := by
  unfold vcOp at hv
  split at hv
  · exact hv.elim
  · rename_i g rs hg
    have hgin := gEff_in hg
    split at hv
    · rename_i x hk
      split at hv
      · exact hv.elim
      · rename_i gs vs hev
        split at hv
        · exact hv.elim
        · rename_i e hst
          obtain ⟨h1, h2, h3⟩ := hv
          rw [hc.dst] at h3
          have hnm := stepV_names hst
          refine .inl ⟨_, ?_, ⟨fun p hp => ?_, hnm.1, hnm.2⟩, rfl, h3⟩
          · by_cases hp : ∃ c a b, x = .pick c a b
            · obtain ⟨oc, oa, ob, rfl⟩ := hp
              simp only [stepV] at hst
              split at hst <;> simp only [Option.some.injEq, reduceCtorEq] at hst
              rename_i c x y
              subst hst
              have hgs : ∃ gc ga gb, gs = [gc, ga, gb] := by
                simp only [AOp.opds, evL] at hev
                cases e1 : evO σ.s oc with
                | none => simp [e1] at hev
                | some q1 =>
                  cases e2 : evO σ.s oa with
                  | none => simp [e1, e2] at hev
                  | some q2 =>
                    cases e3 : evO σ.s ob with
                    | none => simp [e1, e2, e3] at hev
                    | some q3 => simp [e1, e2, e3] at hev; exact ⟨_, _, _, hev.1.symm⟩
              obtain ⟨gc, ga, gb, rfl⟩ := hgs
              exact recOk_pick ho hc hk hg hev (fun hgt => (h1 hgt).1)
            · refine recOk_op ho hc hk hg hev hst (fun hgt => ⟨?_, (h1 hgt).2⟩) (fun hne => h2 (by
                cases hu : e.up with
                | nil => exact absurd hu hne
                | cons _ _ => rfl))
              have := (h1 hgt).1
              unfold gcond at this
              split at this
              · exact absurd ⟨_, _, _, rfl⟩ hp
              · exact this
          · rcases List.mem_append.1 hp with hp | hp
            · exact hgin p hp
            · exact ents_in p hp
    · rename_i f args hk
      split at hv
      · rename_i gs fv vs hev
        split at hv
        · rename_i fid all hcal
          split at hv
          · rename_i ds snap hargs
            have hrs : ∀ p ∈ rs ++ ents σ.s (f :: args), getS σ.s p.1 = some p.2 := fun p hp => by
              rcases List.mem_append.1 hp with hp | hp
              · exact hgin p hp
              · exact ents_in p hp
            obtain ⟨out, h1, h2⟩ := hv
            have h1 : g = true → allT gs ∧ PCall P fid ds out := fun hgt => ⟨(h1 hgt).1, hC _ _ _ (h1 hgt).2⟩
            cases out with
            | ret d =>
              obtain ⟨h2, h3⟩ := h2
              rw [hc.dst] at h3
              exact .inl ⟨_, recOk_call ho hc hk hg hev hcal hargs h1 h2, ⟨hrs, argH_in, by simp⟩, rfl, h3⟩
            | pan d => exact .inr ⟨d, _, _, panOk_call ho hc hk hg hev hcal hargs h1 h2.1 h2.2.1, hrs, argH_in, h2.2.2⟩
            | app sz es => exact h2.elim
            | retM es =>
              obtain ⟨h2, h3, h4⟩ := h2
              rw [hc.dst] at h4
              exact .inl ⟨_, recOk_callM ho hc hk hg hev hcal hargs h1 h2 h3 (look_new _), ⟨hrs, argH_in, fun p hp => by simp at hp; subst hp; exact .inl (look_new _)⟩, rfl, h4⟩
          · exact hv.elim
        · exact hv.elim
      · exact hv.elim
    · rename_i f args hk
      split at hv
      · rename_i gs fv vs hev
        split at hv
        · rename_i fid a0 all hcal
          split at hv
          · rename_i sz es rh ru ds hrow hargs
            obtain ⟨es', h1, h2, h3⟩ := hv
            have h2' := hC _ _ _ h2.2
            rw [hc.dst] at h3
            refine .inl ⟨_, recOk_acall ho hc hk hg hev hcal hrow hargs (fun _ => ⟨h2.1, h2'.2⟩) h1 (look_new _), ⟨fun p hp => ?_, fun p hp => ?_, fun p hp => ?_⟩, rfl, h3⟩
            · rcases List.mem_append.1 hp with hp | hp
              · exact hgin p hp
              · exact ents_in p hp
            · rcases List.mem_append.1 hp with hp | hp
              · exact (rowA_in hrow).1 p hp
              · exact argH_in p hp
            · rcases List.mem_cons.1 hp with rfl | hp
              · exact .inl (look_new _)
              · obtain ⟨q, hq, hq'⟩ := (rowA_in hrow).2 p hp
                exact .inr ⟨q, List.mem_append_left _ hq, hq'⟩
          · exact hv.elim
        · exact hv.elim
      · exact hv.elim
    · exact hv.elim

/-- A step; one that is not wanted may be passed over. -/
def vcOpW (C : FuncId → List D → Out → Prop) (σ : St) (ao : AOper) (Qp : D → Prop) (K : Rec → St → Prop) : Prop :=
  (∃ rs, gEff σ.s ao.guard = some (false, rs) ∧ K ⟨ao.dst, rs, false, .d (.lit (.bool false)), [], []⟩ ⟨putS σ.s ao.dst (false, .d (.lit (.bool false))), σ.h, σ.d⟩) ∨ vcOp C σ ao Qp K
def vcOpsW (C : FuncId → List D → Out → Prop) (Qp : D → St → Prop) (K : List Rec → St → Prop) : List AOper → St → List Rec → Prop
  | [], σ, recs => K recs σ
  | ao :: r, σ, recs => vcOpW C σ ao (fun d => Qp d σ) (fun rec σ' => vcOpsW C Qp K r σ' (recs ++ [rec]))
theorem vcOp_mono {C : FuncId → List D → Out → Prop} {σ : St} {ao : AOper} {Qp : D → Prop} {K K' : Rec → St → Prop} (hK : ∀ r s, K r s → K' r s) (h : vcOp C σ ao Qp K) : vcOp C σ ao Qp K' := by
  unfold vcOp at h ⊢
  cases hg : gEff σ.s ao.guard with
  | none => rw [hg] at h; exact h
  | some q =>
    obtain ⟨g, rs⟩ := q
    rw [hg] at h
    simp only at h ⊢
    cases hk : ao.k with
    | op x =>
      rw [hk] at h
      simp only at h ⊢
      split at h
      · exact h
      · split at h
        · exact h
        · exact ⟨h.1, h.2.1, hK _ _ h.2.2⟩
    | call f args =>
      rw [hk] at h
      simp only at h ⊢
      split at h
      · split at h
        · split at h
          · obtain ⟨out, h1, h2⟩ := h
            refine ⟨out, h1, ?_⟩
            cases out with
            | ret d => exact ⟨h2.1, hK _ _ h2.2⟩
            | pan d => exact h2
            | app sz es => exact h2
            | retM es => exact ⟨h2.1, h2.2.1, hK _ _ h2.2.2⟩
          · exact h
        · exact h
      · exact h
    | acall f args =>
      rw [hk] at h
      simp only at h ⊢
      split at h
      · split at h
        · split at h
          · obtain ⟨es', h1, h2, h3⟩ := h
            exact ⟨es', h1, h2, hK _ _ h3⟩
          · exact h
        · exact h
      · exact h
    | icall f args => rw [hk] at h; exact h
    | ycall f args => rw [hk] at h; exact h
    | defer f args => rw [hk] at h; exact h
    | panic x => rw [hk] at h; exact h
theorem vcOps_W {C : FuncId → List D → Out → Prop} {Qp : D → St → Prop} {K : List Rec → St → Prop} : ∀ {ops : List AOper} {σ : St} {recs : List Rec}, vcOps C Qp K ops σ recs → vcOpsW C Qp K ops σ recs
  | [], _, _, h => h
  | _ :: _, _, _, h => .inr (vcOp_mono (fun _ _ h => vcOps_W h) h)
/-- Has a region calls or guards? -/
def waits : List AOper → Bool
  | [] => false
  | o :: r => match o.guard with
    | some _ => true
    | none => match o.k with
      | .call _ _ | .acall _ _ => true
      | _ => waits r
theorem vcOpW_rec {E : Env} {P : Program} {ro : Option Nat} {ops : Array Oper} {nt i : Nat} {o : Oper} {ao : AOper} {σ : St} {Qp : D → Prop} {K : Rec → St → Prop} {C : FuncId → List D → Out → Prop} (hC : ∀ f ds out, C f ds out → PCall P f ds out) (ho : ops[i]? = some o) (hc : CmpO P ops nt o ao) (hv : vcOpW C σ ao Qp K) :
    (∃ rec : Rec, RecOk E P ro ops nt i rec ∧ RecIn σ rec ∧ rec.dst = o.dst ∧ K rec ⟨putS σ.s rec.dst (rec.g, rec.v), updH σ.h rec.up, σ.d⟩) ∨
    ∃ d rs hin, PanOk E P ro ops nt i rs hin d ∧ (∀ p ∈ rs, getS σ.s p.1 = some p.2) ∧ (∀ p ∈ hin, look σ.h p.1 = some p.2) ∧ Qp d := by
  rcases hv with ⟨rs, hg, hK⟩ | hv
  · rw [hc.dst] at hK
    refine .inl ⟨_, fun G a w h H hsz hrs hin hfr K Q hKQ => ?_, ⟨fun p hp => gEff_in hg p hp, by simp, by simp⟩, rfl, hK⟩
    exact wpOpIn_skip ho (guard_ok hc hg (G := G) (w := w) (a := a) hrs) (hKQ undef w G (GLe.refl G w) H (fun hf => by simp at hf) (fun _ => rfl))
  · exact vcOp_rec hC ho hc hv

inductive AE where
  | normal
  | exit (id : Nat)
  | ret
  | pan (d : D)

/-- The post of a piece of code, on machines. -/
def Post (E : Env) (nt : Nat) (Q : AE → St → Prop) : Exit → Act → World → Prop
  | .normal, a, w => ∃ G σ, StRel E G σ a w nt ∧ Q .normal σ
  | .exit id, a, w => ∃ G σ, StRel E G σ a w nt ∧ Q (.exit id) σ
  | .ret, a, w => ∃ G σ, StRel E G σ a w nt ∧ Q .ret σ
  | .panic chain, a, w => ∃ G σ v d, StRel E G σ a w nt ∧ chain = [{ v := v, recovered := false }] ∧ Rep G.I w d v ∧ Q (.pan d) σ
  | _, _, _ => False

/-- A region in the order of the text. -/
theorem vcOps_seq {E : Env} {P : Program} {ro : Option Nat} {ops : Array Oper} {nt : Nat} {Q : AE → St → Prop} {C : FuncId → List D → Out → Prop} (hC : ∀ f ds out, C f ds out → PCall P f ds out) : ∀ (aops : List AOper) (k : Nat) (σ : St) (recs : List Rec) (G : Gh) (a : Act) (w : World),
    (∀ j ao, aops[j]? = some ao → ∃ o, ops[k + j]? = some o ∧ CmpO P ops nt o ao) → StRel E G σ a w nt → vcOpsW C (fun d σ => Q (.pan d) σ) (fun _ σ => Q .normal σ) aops σ recs →
    wpOpsIn (Fr ro) 0 P ops (Post E nt Q) (List.range' k aops.length) a w
  | [], k, σ, recs, G, a, w, hc, H, hv => ⟨G, σ, H, hv⟩
  | ao :: r, k, σ, recs, G, a, w, hc, H, hv => by
    obtain ⟨o, ho, hco⟩ := hc 0 ao rfl
    rw [Nat.add_zero] at ho
    rw [List.length_cons, List.range'_succ, wpOpsIn_cons]
    rcases vcOpW_rec (E := E) (ro := ro) hC ho hco hv with ⟨rec, h1, h2, h3, h4⟩ | ⟨d, rs, hin, h1, h2, h3, h4⟩
    · refine h1 G a w (look σ.h) H.wr H.sz (fun p hp => H.sr _ _ (h2.rs p hp)) h2.hin h2.up _ _ (fun val w' G' q1 q2 q3 q4 => ?_)
      exact vcOps_seq hC r (k + 1) _ _ G' _ w' (fun j ao' hj => by
        obtain ⟨o', ho', hc'⟩ := hc (j + 1) ao' (by simpa using hj)
        exact ⟨o', by rw [← ho']; congr 1; omega, hc'⟩) (H.put q1 q2 (fun d hd => hco.lt d (by rw [← h3]; exact hd)) q3 q4) h4
    · refine h1 G a w (look σ.h) H.wr H.sz (fun p hp => H.sr _ _ (h2 p hp)) h3 _ _ (fun v w' G' q1 q2 q3 => ?_)
      exact ⟨G', σ, v, d, ⟨q2, H.sz, fun t e he => (H.sr t e he).mono q1, H.defers.mono q1⟩, rfl, q3, h4⟩

end Go.Proofs.YtfegfnekphobmaaDoor.AL
end

section
namespace Go.Proofs.YtfegfnekphobmaaDoor.AL
open Go

def stepR (σ : St) (r : Rec) : St := ⟨putS σ.s r.dst (r.g, r.v), updH σ.h r.up, σ.d⟩
/-- The state behind those of the records that 'p' picks. -/
def run (p : Nat → Bool) : List Rec → Nat → St → St
  | [], _, σ => σ
  | r :: R, k, σ => run p R (k + 1) (if p k then stepR σ r else σ)

theorem run_d : ∀ (R : List Rec) (p : Nat → Bool) (k : Nat) (σ : St), (run p R k σ).d = σ.d
  | [], _, _, _ => rfl
  | r :: R, p, k, σ => by
    rw [run, run_d R p]
    split <;> rfl

def upNames (r : Rec) : List Nat := r.up.map (·.1)

theorem getS_step {σ : St} {r : Rec} {t : Nat} : getS (stepR σ r).s t = if r.dst = some t then some (r.g, r.v) else getS σ.s t := by
  unfold stepR putS
  cases hd : r.dst with
  | none => simp
  | some d =>
    simp only [getS]
    by_cases h : t = d
    · subst h; simp
    · rw [if_neg h, if_neg (by simp; exact fun e => h e.symm)]

theorem upd_not {h : Hp} : ∀ {up : List (Nat × HO)} {n : Nat}, n ∉ up.map (·.1) → Hp.upd h up n = h n
  | [], n, _ => rfl
  | (m, o) :: r, n, hn => by
    simp at hn
    simp only [Hp.upd]
    rw [if_neg hn.1]
    exact upd_not (by simpa using hn.2)
theorem upd_in {h h' : Hp} : ∀ {up : List (Nat × HO)} {n : Nat}, n ∈ up.map (·.1) → Hp.upd h up n = Hp.upd h' up n
  | [], n, hn => by simp at hn
  | (m, o) :: r, n, hn => by
    simp only [Hp.upd]
    by_cases e : n = m
    · rw [if_pos e, if_pos e]
    · rw [if_neg e, if_neg e]
      exact upd_in (by simpa [e] using hn)

theorem look_step {σ : St} {r : Rec} {n : Nat} : look (stepR σ r).h n = Hp.upd (look σ.h) r.up n := by
  unfold stepR; simp only [look_updH]

/-- A slot's content hangs on those who write it. -/
theorem run_slot {t : Nat} {p q : Nat → Bool} : ∀ (R : List Rec) (k : Nat) (σ σ' : St), getS σ.s t = getS σ'.s t → (∀ j r, R[j]? = some r → r.dst = some t → p (k + j) = q (k + j)) → getS (run p R k σ).s t = getS (run q R k σ').s t
  | [], k, σ, σ', h, _ => h
  | r :: R, k, σ, σ', h, hw => by
    refine run_slot R (k + 1) _ _ ?_ (fun j r' hj hd => by have := hw (j + 1) r' (by simpa using hj) hd; rw [show k + 1 + j = k + (j + 1) by omega]; exact this)
    by_cases hd : r.dst = some t
    · have := hw 0 r rfl hd
      rw [Nat.add_zero] at this
      rw [this]
      split
      · rw [getS_step, getS_step, if_pos hd, if_pos hd]
      · exact h
    · have e1 : getS (if p k = true then stepR σ r else σ).s t = getS σ.s t := by split; (· rw [getS_step, if_neg hd]); rfl
      have e2 : getS (if q k = true then stepR σ' r else σ').s t = getS σ'.s t := by split; (· rw [getS_step, if_neg hd]); rfl
      rw [e1, e2, h]

theorem run_name {n : Nat} {p q : Nat → Bool} : ∀ (R : List Rec) (k : Nat) (σ σ' : St), look σ.h n = look σ'.h n → (∀ j r, R[j]? = some r → n ∈ upNames r → p (k + j) = q (k + j)) → look (run p R k σ).h n = look (run q R k σ').h n
  | [], k, σ, σ', h, _ => h
  | r :: R, k, σ, σ', h, hw => by
    refine run_name R (k + 1) _ _ ?_ (fun j r' hj hd => by have := hw (j + 1) r' (by simpa using hj) hd; rw [show k + 1 + j = k + (j + 1) by omega]; exact this)
    by_cases hd : n ∈ upNames r
    · have := hw 0 r rfl hd
      rw [Nat.add_zero] at this
      rw [this]
      split
      · rw [look_step, look_step]; exact upd_in hd
      · exact h
    · have e1 : look (if p k = true then stepR σ r else σ).h n = look σ.h n := by split; (· rw [look_step, upd_not hd]); rfl
      have e2 : look (if q k = true then stepR σ' r else σ').h n = look σ'.h n := by split; (· rw [look_step, upd_not hd]); rfl
      rw [e1, e2, h]

/-- One more is picked, behind which nobody who is picked writes what it writes: it may as well come last. -/
theorem run_last_slot {t : Nat} {p : Nat → Bool} {i : Nat} : ∀ (R : List Rec) (k : Nat) (σ : St) (r : Rec), R[i]? = some r → r.dst = some t → (∀ j r', R[j]? = some r' → i < j → r'.dst = some t → p (k + j) = false) → p (k + i) = true → getS (run p R k σ).s t = some (r.g, r.v) := by
  induction i with
  | zero =>
    intro R k σ r hr hd hw hp
    cases R with
    | nil => simp at hr
    | cons r0 R =>
      simp at hr; subst hr
      simp only [run]
      rw [Nat.add_zero] at hp
      rw [if_pos hp]
      rw [run_slot (t := t) (q := fun _ => false) R (k + 1) _ (stepR σ r0) rfl (fun j r' hj hd' => by rw [show k + 1 + j = k + (j + 1) by omega]; exact hw (j + 1) r' (by simpa using hj) (by omega) hd')]
      have hnone : ∀ (R : List Rec) (k : Nat) (σ : St), run (fun _ => false) R k σ = σ := fun R => by
        induction R with
        | nil => intro k σ; rfl
        | cons r R ih => intro k σ; simp only [run]; exact ih _ _
      rw [hnone, getS_step, if_pos hd]
  | succ i ih =>
    intro R k σ r hr hd hw hp
    cases R with
    | nil => simp at hr
    | cons r0 R =>
      simp only [run]
      exact ih R (k + 1) _ r (by simpa using hr) hd (fun j r' hj hij hd' => by rw [show k + 1 + j = k + (j + 1) by omega]; exact hw (j + 1) r' (by simpa using hj) (by omega) hd') (by rw [show k + 1 + i = k + (i + 1) by omega]; exact hp)

theorem run_none : ∀ (R : List Rec) (k : Nat) (σ : St), run (fun _ => false) R k σ = σ
  | [], _, _ => rfl
  | r :: R, k, σ => by simp only [run]; exact run_none R _ _

theorem run_last_name {n : Nat} {p : Nat → Bool} {i : Nat} (h0 : Hp) : ∀ (R : List Rec) (k : Nat) (σ : St) (r : Rec), R[i]? = some r → n ∈ upNames r → (∀ j r', R[j]? = some r' → i < j → n ∈ upNames r' → p (k + j) = false) → p (k + i) = true → look (run p R k σ).h n = Hp.upd h0 r.up n := by
  induction i with
  | zero =>
    intro R k σ r hr hd hw hp
    cases R with
    | nil => simp at hr
    | cons r0 R =>
      simp at hr; subst hr
      simp only [run]
      rw [Nat.add_zero] at hp
      rw [if_pos hp]
      rw [run_name (n := n) (q := fun _ => false) R (k + 1) _ (stepR σ r0) rfl (fun j r' hj hd' => by rw [show k + 1 + j = k + (j + 1) by omega]; exact hw (j + 1) r' (by simpa using hj) (by omega) hd')]
      rw [run_none, look_step]
      exact upd_in hd
  | succ i ih =>
    intro R k σ r hr hd hw hp
    cases R with
    | nil => simp at hr
    | cons r0 R =>
      simp only [run]
      exact ih R (k + 1) _ r (by simpa using hr) hd (fun j r' hj hij hd' => by rw [show k + 1 + j = k + (j + 1) by omega]; exact hw (j + 1) r' (by simpa using hj) (by omega) hd') (by rw [show k + 1 + i = k + (i + 1) by omega]; exact hp)

/-- Do two records meet? -/
def conf (x y : Rec) : Bool :=
  (match x.dst with | some d => (y.rs.any fun p => p.1 == d) || y.dst == some d | none => false) ||
  (match y.dst with | some d => (x.rs.any fun p => p.1 == d) | none => false) ||
  (upNames x).any (fun n => (upNames y).contains n || (y.hin.map (·.1)).contains n) ||
  (upNames y).any (fun n => (x.hin.map (·.1)).contains n)

/-- Of two that meet, the elder must come first. -/
def conflictOk (R : List Rec) (bf : List (List Nat)) : Bool :=
  (List.range R.length).all fun j => (List.range j).all fun i =>
    match R[i]?, R[j]? with
    | some x, some y => !conf x y || (bf.getD j []).contains i
    | _, _ => true

theorem conflictOk_spec {R : List Rec} {bf : List (List Nat)} (h : conflictOk R bf = true) {i j : Nat} {x y : Rec} (hij : i < j) (hx : R[i]? = some x) (hy : R[j]? = some y) (hc : conf x y = true) : i ∈ bf.getD j [] := by
  unfold conflictOk at h
  have hj : j < R.length := by
    rcases Nat.lt_or_ge j R.length with h' | h'
    · exact h'
    · rw [List.getElem?_eq_none h'] at hy; cases hy
  have h1 := List.all_eq_true.1 (List.all_eq_true.1 h j (List.mem_range.2 hj)) i (List.mem_range.2 hij)
  simp only [hx, hy, hc, Bool.not_true, Bool.false_or] at h1
  simpa using h1

theorem conf_slot1 {x y : Rec} {t : Nat} {e : Bool × AV} (hd : x.dst = some t) (hr : (t, e) ∈ y.rs) : conf x y = true := by
  unfold conf
  simp only [hd]
  have : (y.rs.any fun p => p.1 == t) = true := List.any_eq_true.2 ⟨(t, e), hr, by simp⟩
  simp [this]
theorem conf_slot2 {x y : Rec} {t : Nat} {e : Bool × AV} (hd : y.dst = some t) (hr : (t, e) ∈ x.rs) : conf x y = true := by
  unfold conf
  have : (x.rs.any fun p => p.1 == t) = true := List.any_eq_true.2 ⟨(t, e), hr, by simp⟩
  simp [hd, this]
theorem conf_slot3 {x y : Rec} {t : Nat} (hd : x.dst = some t) (hd' : y.dst = some t) : conf x y = true := by
  unfold conf; simp [hd, hd']
theorem conf_name1 {x y : Rec} {n : Nat} {o : HO} (hd : n ∈ upNames x) (hr : (n, o) ∈ y.hin) : conf x y = true := by
  unfold conf
  have : (upNames x).any (fun n => (upNames y).contains n || (y.hin.map (·.1)).contains n) = true := List.any_eq_true.2 ⟨n, hd, by
    have : n ∈ y.hin.map (·.1) := List.mem_map.2 ⟨(n, o), hr, rfl⟩
    simp [this]⟩
  simp only [this, Bool.or_true, Bool.true_or]
theorem conf_name2 {x y : Rec} {n : Nat} {o : HO} (hd : n ∈ upNames y) (hr : (n, o) ∈ x.hin) : conf x y = true := by
  unfold conf
  have : (upNames y).any (fun n => (x.hin.map (·.1)).contains n) = true := List.any_eq_true.2 ⟨n, hd, by
    have : n ∈ x.hin.map (·.1) := List.mem_map.2 ⟨(n, o), hr, rfl⟩
    simpa using this⟩
  simp only [this, Bool.or_true, Bool.true_or]
theorem conf_name3 {x y : Rec} {n : Nat} (hd : n ∈ upNames x) (hd' : n ∈ upNames y) : conf x y = true := by
  unfold conf
  have : (upNames x).any (fun n => (upNames y).contains n || (y.hin.map (·.1)).contains n) = true := List.any_eq_true.2 ⟨n, hd, by simp [hd']⟩
  simp only [this, Bool.or_true, Bool.true_or]

/-- Comes i before j, whatever order is drawn? -/
inductive Reach (ops : Array Oper) : Nat → Nat → Prop
  | edge {j i : Nat} {o : Oper} {e : Edge} (ho : ops[j]? = some o) (he : e ∈ o.after) (hb : Region.binds .any e = true) (hi : e.on = i) : Reach ops j i
  | trans {j k i : Nat} (h : Reach ops j k) (h' : Reach ops k i) : Reach ops j i

def Closed (ops : Array Oper) (listed : Array Bool) : Prop := ∀ j, listed.getD j false = true → ∀ o e, ops[j]? = some o → e ∈ o.after → Region.binds .any e = true → listed.getD e.on false = true

theorem closed_reach {ops : Array Oper} {listed : Array Bool} (hc : Closed ops listed) {j i : Nat} (h : Reach ops j i) : listed.getD j false = true → listed.getD i false = true := by
  induction h with
  | edge ho he hb hi => intro hj; subst hi; exact hc _ hj _ _ ho he hb
  | trans _ _ ih1 ih2 => exact fun hj => ih2 (ih1 hj)

theorem ready_reach {ops : Array Oper} {listed : Array Bool} (hc : Closed ops listed) {i : Nat} (hi : i ∈ Region.ready .any ops listed) {j k : Nat} (h : Reach ops j k) : j = i → listed.getD k false = true := by
  induction h with
  | edge ho he hb hk =>
    rintro rfl
    obtain ⟨_, o', ho', h'⟩ := mem_ready.1 hi
    rw [ho] at ho'; injection ho' with ho'; subst ho'; subst hk
    exact h' _ he hb
  | trans h1 h2 ih1 _ => exact fun e => closed_reach hc h2 (ih1 e)

theorem StRel.congr {E : Env} {G : Gh} {σ σ' : St} {a : Act} {w : World} {nt : Nat} (H : StRel E G σ a w nt) (h1 : ∀ t, getS σ'.s t = getS σ.s t) (h2 : ∀ n, look σ'.h n = look σ.h n) (h3 : σ'.d = σ.d) : StRel E G σ' a w nt :=
  ⟨by have : look σ'.h = look σ.h := funext h2
      rw [this]; exact H.wr, H.sz, fun t e he => H.sr t e (by rw [← h1]; exact he), h3 ▸ H.defers⟩

/-- A region in whatever order. -/
theorem drawn_sound {E : Env} {P : Program} {ro : Option Nat} {ops : Array Oper} {nt : Nat} {Q : AE → St → Prop} {R : List Rec} {σ0 : St} {bf : List (List Nat)} (hlen : R.length = ops.size)
    (hR : ∀ i r, R[i]? = some r → RecOk E P ro ops nt i r ∧ RecIn (run (fun j => decide (j < i)) R 0 σ0) r ∧ ∀ d, r.dst = some d → d < nt)
    (hbf : ∀ j i, i ∈ bf.getD j [] → Reach ops j i) (hok : conflictOk R bf = true)
    (hedge : ∀ j o, ops[j]? = some o → ∀ e ∈ o.after, Region.binds .any e = true → e.on < j)
    (hQ : ∀ G a w, StRel E G (run (fun _ => true) R 0 σ0) a w nt → Post E nt Q .normal a w) :
    ∀ (fuel : Nat) (listed : Array Bool) (G : Gh) (a : Act) (w : World), listed.size = ops.size → ((List.range ops.size).filter fun j => !listed.getD j false).length ≤ fuel → Closed ops listed →
      StRel E G (run (fun j => listed.getD j false) R 0 σ0) a w nt → wpAnyIn (Fr ro) 0 P .any ops (Post E nt Q) fuel listed a w := by
  -- where nothing may come up, all has come
  have hdone : ∀ (listed : Array Bool) (G : Gh) (a : Act) (w : World), listed.size = ops.size → StRel E G (run (fun j => listed.getD j false) R 0 σ0) a w nt → Region.ready .any ops listed = [] → Post E nt Q .normal a w := by
    intro listed G a w hsz H hr
    have hall : ∀ n j, j ≤ n → j < ops.size → listed.getD j false = true := by
      intro n
      induction n with
      | zero =>
        intro j hj hlt
        have : j = 0 := by omega
        subst this
        cases hl : listed.getD 0 false with
        | true => rfl
        | false =>
          exfalso
          have : (0 : Nat) ∈ Region.ready .any ops listed := mem_ready.2 ⟨by
            simp only [Array.getD_eq_getD_getElem?] at hl ⊢
            rw [Array.getElem?_eq_getElem (by omega)] at hl ⊢
            simpa using hl, ops[0], Array.getElem?_eq_getElem hlt, fun e he hb => by have := hedge 0 _ (Array.getElem?_eq_getElem hlt) e he hb; omega⟩
          rw [hr] at this; simp at this
      | succ n ih =>
        intro j hj hlt
        rcases Nat.lt_or_ge j (n + 1) with h' | h'
        · exact ih j (by omega) hlt
        · cases hl : listed.getD j false with
          | true => rfl
          | false =>
            exfalso
            have : j ∈ Region.ready .any ops listed := mem_ready.2 ⟨by
              simp only [Array.getD_eq_getD_getElem?] at hl ⊢
              rw [Array.getElem?_eq_getElem (by omega)] at hl ⊢
              simpa using hl, ops[j], Array.getElem?_eq_getElem hlt, fun e he hb => by
                have := hedge j _ (Array.getElem?_eq_getElem hlt) e he hb
                exact ih e.on (by omega) (by omega)⟩
            rw [hr] at this; simp at this
    refine hQ G a w (H.congr (fun t => ?_) (fun n => ?_) (by rw [run_d, run_d]))
    · exact run_slot R 0 σ0 σ0 rfl (fun j r hj _ => by
        have hlt : j < ops.size := by
          rw [← hlen]
          rcases Nat.lt_or_ge j R.length with h' | h'
          · exact h'
          · rw [List.getElem?_eq_none h'] at hj; cases hj
        rw [Nat.zero_add]; exact (hall j j (Nat.le_refl _) hlt).symm)
    · exact run_name R 0 σ0 σ0 rfl (fun j r hj _ => by
        have hlt : j < ops.size := by
          rw [← hlen]
          rcases Nat.lt_or_ge j R.length with h' | h'
          · exact h'
          · rw [List.getElem?_eq_none h'] at hj; cases hj
        rw [Nat.zero_add]; exact (hall j j (Nat.le_refl _) hlt).symm)
  intro fuel
  induction fuel with
  | zero =>
    intro listed G a w hsz hf hcl H
    have hr : Region.ready .any ops listed = [] := by
      cases hre : Region.ready .any ops listed with
      | nil => rfl
      | cons i l =>
        exfalso
        have hi : i ∈ Region.ready .any ops listed := by rw [hre]; simp
        obtain ⟨h1, o, h2, _⟩ := mem_ready.1 hi
        have hlt : i < ops.size := (Array.getElem?_eq_some_iff.1 h2).1
        have : i ∈ (List.range ops.size).filter fun j => !listed.getD j false := by
          refine List.mem_filter.2 ⟨List.mem_range.2 hlt, ?_⟩
          simp only [Array.getD_eq_getD_getElem?] at h1 ⊢
          rw [Array.getElem?_eq_getElem (by omega)] at h1 ⊢
          simpa using h1
        have := List.length_pos_of_mem this
        omega
    exact ⟨hr, hdone listed G a w hsz H hr⟩
  | succ fuel ih =>
    intro listed G a w hsz hf hcl H
    refine ⟨fun hr => hdone listed G a w hsz H hr, fun i hi => ?_⟩
    obtain ⟨h1, o, h2, h3⟩ := mem_ready.1 hi
    have hlt : i < ops.size := (Array.getElem?_eq_some_iff.1 h2).1
    have hnot : listed.getD i false = false := by
      simp only [Array.getD_eq_getD_getElem?] at h1 ⊢
      rw [Array.getElem?_eq_getElem (by omega)] at h1 ⊢
      simpa using h1
    obtain ⟨r, hr⟩ : ∃ r, R[i]? = some r := ⟨R[i]'(by omega), List.getElem?_eq_getElem (by omega)⟩
    obtain ⟨k1, k2, k3⟩ := hR i r hr
    -- those who write what r reads or writes have come just if they come before it in the text
    have hagree : ∀ j r', R[j]? = some r' → conf r' r = true ∨ conf r r' = true → j ≠ i → listed.getD j false = decide (j < i) := by
      intro j r' hj hc hne
      rcases Nat.lt_or_ge j i with hji | hji
      · have hcc : conf r' r = true := by
          rcases hc with hc | hc
          · exact hc
          · -- 'conf' is symmetric
            unfold conf at hc ⊢
            simp only [Bool.or_eq_true, List.any_eq_true] at hc ⊢
            rcases hc with ((hc | hc) | hc) | hc
            · cases hd : r.dst with
              | none => simp [hd] at hc
              | some d =>
                simp only [hd, Bool.or_eq_true] at hc
                rcases hc with hc | hc
                · exact .inl (.inl (.inr (by simpa [hd] using hc)))
                · have : r'.dst = some d := by simpa using hc
                  exact .inl (.inl (.inl (by simp [this, hd])))
            · cases hd : r'.dst with
              | none => simp [hd] at hc
              | some d =>
                simp only [hd] at hc
                exact .inl (.inl (.inl (by simp only [hd, Bool.or_eq_true]; exact .inl hc)))
            · obtain ⟨n, hn, hc⟩ := hc
              rcases hc with hc | hc
              · exact .inl (.inr ⟨n, by simpa using hc, .inl (by simpa using hn)⟩)
              · exact .inr ⟨n, hn, hc⟩
            · obtain ⟨n, hn, hc⟩ := hc
              exact .inl (.inr ⟨n, hn, .inr hc⟩)
        have hre := hbf i j (conflictOk_spec hok hji hj hr hcc)
        rw [ready_reach hcl hi hre rfl]
        simp [hji]
      · have hij : i < j := by omega
        have hcc : conf r r' = true := by
          rcases hc with hc | hc
          · unfold conf at hc ⊢
            simp only [Bool.or_eq_true, List.any_eq_true] at hc ⊢
            rcases hc with ((hc | hc) | hc) | hc
            · cases hd : r'.dst with
              | none => simp [hd] at hc
              | some d =>
                simp only [hd, Bool.or_eq_true] at hc
                rcases hc with hc | hc
                · exact .inl (.inl (.inr (by simpa [hd] using hc)))
                · have : r.dst = some d := by simpa using hc
                  exact .inl (.inl (.inl (by simp [this, hd])))
            · cases hd : r.dst with
              | none => simp [hd] at hc
              | some d =>
                simp only [hd] at hc
                exact .inl (.inl (.inl (by simp only [hd, Bool.or_eq_true]; exact .inl hc)))
            · obtain ⟨n, hn, hc⟩ := hc
              rcases hc with hc | hc
              · exact .inl (.inr ⟨n, by simpa using hc, .inl (by simpa using hn)⟩)
              · exact .inr ⟨n, hn, hc⟩
            · obtain ⟨n, hn, hc⟩ := hc
              exact .inl (.inr ⟨n, hn, .inr hc⟩)
          · exact hc
        have hre := hbf j i (conflictOk_spec hok hij hr hj hcc)
        have : listed.getD j false = false := by
          cases hl : listed.getD j false with
          | false => rfl
          | true => rw [closed_reach hcl hre hl] at hnot; cases hnot
        rw [this]; simp; omega
    have hslot : ∀ t, (∃ e, (t, e) ∈ r.rs) → getS (run (fun j => listed.getD j false) R 0 σ0).s t = getS (run (fun j => decide (j < i)) R 0 σ0).s t := fun t ⟨e, he⟩ =>
      run_slot R 0 σ0 σ0 rfl (fun j r' hj hd => by
        rw [Nat.zero_add]
        by_cases hne : j = i
        · subst hne; rw [hnot]; simp
        · exact hagree j r' hj (.inl (conf_slot1 hd he)) hne)
    have hname : ∀ n, (n ∈ upNames r ∨ ∃ o, (n, o) ∈ r.hin) → look (run (fun j => listed.getD j false) R 0 σ0).h n = look (run (fun j => decide (j < i)) R 0 σ0).h n := fun n hn =>
      run_name R 0 σ0 σ0 rfl (fun j r' hj hd => by
        rw [Nat.zero_add]
        by_cases hne : j = i
        · subst hne; rw [hnot]; simp
        · refine hagree j r' hj ?_ hne
          rcases hn with hn | ⟨o, ho⟩
          · exact .inl (conf_name3 hd hn)
          · exact .inl (conf_name1 hd ho))
    refine k1 G a w (look (run (fun j => listed.getD j false) R 0 σ0).h) H.wr H.sz (fun p hp => H.sr _ _ (by rw [hslot p.1 ⟨p.2, hp⟩]; exact k2.rs p hp)) (fun p hp => by rw [hname p.1 (.inr ⟨p.2, hp⟩)]; exact k2.hin p hp)
      (fun p hp => by
        rcases k2.up p hp with h | h
        · exact .inl (by rw [hname p.1 (.inl (List.mem_map.2 ⟨p, hp, rfl⟩))]; exact h)
        · exact .inr h) _ _ (fun val w' G' q1 q2 q3 q4 => ?_)
    have Hput := H.put q1 q2 k3 q3 q4
    have hset : ∀ j, (listed.setIfInBounds i true).getD j false = (listed.getD j false || decide (j = i)) := fun j => by
      by_cases e : i = j
      · subst e; simp [hsz, hlt]
      · rw [Array.getD_eq_getD_getElem?, Array.getD_eq_getD_getElem?, Array.getElem?_setIfInBounds_ne e]
        have : ¬ j = i := fun h => e h.symm
        simp [this]
    refine ih (listed.setIfInBounds i true) G' _ w' (by simpa using hsz) ?_ ?_ (Hput.congr (fun t => ?_) (fun n => ?_) (by simp only [run_d]))
    · -- one fewer is left
      have hmem : i ∈ (List.range ops.size).filter fun j => !listed.getD j false := List.mem_filter.2 ⟨List.mem_range.2 hlt, by rw [hnot]; rfl⟩
      have hsub : ((List.range ops.size).filter fun j => !(listed.setIfInBounds i true).getD j false) = ((List.range ops.size).filter fun j => !listed.getD j false).filter fun j => !decide (j = i) := by
        rw [List.filter_filter]
        congr 1
        funext j
        rw [hset j]
        cases listed.getD j false <;> simp
      rw [hsub]
      have hl : (((List.range ops.size).filter fun j => !listed.getD j false).filter fun j => !decide (j = i)).length < ((List.range ops.size).filter fun j => !listed.getD j false).length := by
        refine List.length_filter_lt_length_iff_exists.2 ⟨i, hmem, by simp⟩
      omega
    · intro j hj o' e ho' he hb
      rw [hset] at hj ⊢
      simp only [Bool.or_eq_true, decide_eq_true_eq] at hj ⊢
      rcases hj with hj | hj
      · exact .inl (hcl j hj o' e ho' he hb)
      · subst hj
        rw [h2] at ho'; injection ho' with ho'; subst ho'
        exact .inl (h3 e he hb)
    · have e0 : getS (putS (run (fun j => listed.getD j false) R 0 σ0).s r.dst (r.g, r.v)) t = getS (stepR (run (fun j => listed.getD j false) R 0 σ0) r).s t := rfl
      rw [e0, getS_step]
      split
      · rename_i hd
        refine run_last_slot (p := fun j => (listed.setIfInBounds i true).getD j false) (i := i) R 0 σ0 r hr hd (fun j r' hj hij hd' => ?_) (by rw [Nat.zero_add, hset]; simp)
        rw [Nat.zero_add, hset]
        have := hagree j r' hj (.inr (conf_slot3 hd hd')) (by omega)
        rw [this]; simp; omega
      · rename_i hd
        exact run_slot R 0 σ0 σ0 rfl (fun j r' hj hd' => by
          rw [Nat.zero_add, hset]
          by_cases hne : j = i
          · subst hne; rw [hr] at hj; injection hj with hj; subst hj; exact absurd hd' hd
          · simp [hne])
    · have e0 : look (updH (run (fun j => listed.getD j false) R 0 σ0).h r.up) n = look (stepR (run (fun j => listed.getD j false) R 0 σ0) r).h n := rfl
      rw [e0, look_step]
      by_cases hd : n ∈ upNames r
      · refine run_last_name (p := fun j => (listed.setIfInBounds i true).getD j false) (i := i) _ R 0 σ0 r hr hd (fun j r' hj hij hd' => ?_) (by rw [Nat.zero_add, hset]; simp)
        rw [Nat.zero_add, hset]
        have := hagree j r' hj (.inr (conf_name3 hd hd')) (by omega)
        rw [this]; simp; omega
      · rw [upd_not hd]
        exact run_name R 0 σ0 σ0 rfl (fun j r' hj hd' => by
          rw [Nat.zero_add, hset]
          by_cases hne : j = i
          · subst hne; rw [hr] at hj; injection hj with hj; subst hj; exact absurd hd' hd
          · simp [hne])


/-- From here on the order is told. -/
theorem any_seq {P : Program} {ro : Option Nat} {ops : Array Oper} {Q : Exit → Act → World → Prop} {k : Nat} (hord : ∀ j, k ≤ j → j < ops.size → ∀ i, i < j → Reach ops j i)
    (hedge : ∀ j o, ops[j]? = some o → ∀ e ∈ o.after, Region.binds .any e = true → e.on < j) :
    ∀ (fuel m : Nat) (listed : Array Bool) (a : Act) (w : World), k ≤ m → m ≤ ops.size → ops.size - m ≤ fuel → listed.size = ops.size → (∀ j, listed.getD j false = decide (j < m)) → Closed ops listed →
      wpOpsIn (Fr ro) 0 P ops Q (List.range' m (ops.size - m)) a w → wpAnyIn (Fr ro) 0 P .any ops Q fuel listed a w := by
  have hrd : ∀ (m : Nat) (listed : Array Bool), k ≤ m → m ≤ ops.size → listed.size = ops.size → (∀ j, listed.getD j false = decide (j < m)) → Closed ops listed → ∀ i ∈ Region.ready .any ops listed, i = m := fun m listed hm hms hsz hl hcl i hi => by
    obtain ⟨h1, o, h2, h3⟩ := mem_ready.1 hi
    have hlt : i < ops.size := (Array.getElem?_eq_some_iff.1 h2).1
    have hnot : listed.getD i false = false := by
      simp only [Array.getD_eq_getD_getElem?] at h1 ⊢
      rw [Array.getElem?_eq_getElem (by omega)] at h1 ⊢
      simpa using h1
    rw [hl] at hnot
    have hge : m ≤ i := by simpa using hnot
    rcases Nat.lt_or_ge m i with h' | h'
    · have := ready_reach hcl hi (hord i (by omega) hlt m h') rfl
      rw [hl] at this; simp at this
    · omega
  intro fuel
  induction fuel with
  | zero =>
    intro m listed a w hm hms hf hsz hl hcl h
    have hme : m = ops.size := by omega
    subst hme
    refine ⟨?_, by simpa [wpOpsIn] using h⟩
    cases hre : Region.ready .any ops listed with
    | nil => rfl
    | cons i l =>
      exfalso
      have hi : i ∈ Region.ready .any ops listed := by rw [hre]; simp
      have := hrd _ listed hm hms hsz hl hcl i hi
      obtain ⟨h1, o, h2, h3⟩ := mem_ready.1 hi
      have hlt : i < ops.size := (Array.getElem?_eq_some_iff.1 h2).1
      omega
  | succ fuel ih =>
    intro m listed a w hm hms hf hsz hl hcl h
    rcases Nat.lt_or_ge m ops.size with hlt | hge
    · refine ⟨fun hr => ?_, fun i hi => ?_⟩
      · exfalso
        have : m ∈ Region.ready .any ops listed := mem_ready.2 ⟨by
          have := hl m
          simp only [Array.getD_eq_getD_getElem?] at this ⊢
          rw [Array.getElem?_eq_getElem (by omega)] at this ⊢
          simpa using this, ops[m], Array.getElem?_eq_getElem hlt, fun e he hb => by
            have := hedge m _ (Array.getElem?_eq_getElem hlt) e he hb
            rw [hl]; simpa using this⟩
        rw [hr] at this; simp at this
      · have hie := hrd m listed hm hms hsz hl hcl i hi
        subst hie
        rw [show ops.size - i = (ops.size - (i + 1)) + 1 by omega, List.range'_succ, wpOpsIn_cons] at h
        refine wpOpIn_mono (fun a' w' h' => ?_) h
        refine ih (i + 1) _ a' w' (by omega) (by omega) (by omega) (by simpa using hsz) (fun j => ?_) (fun j hj o' e ho' he hb => ?_) h'
        · by_cases e : i = j
          · subst e; simp [hsz, hlt]
          · rw [Array.getD_eq_getD_getElem?, Array.getElem?_setIfInBounds_ne e, ← Array.getD_eq_getD_getElem?, hl]
            simp; omega
        · have hee := hedge j o' ho' e he hb
          have hj2 : j < i + 1 := by
            by_cases e2 : i = j
            · omega
            · rw [Array.getD_eq_getD_getElem?, Array.getElem?_setIfInBounds_ne e2, ← Array.getD_eq_getD_getElem?, hl] at hj
              simp at hj; omega
          by_cases e2 : i = e.on
          · rw [← e2]; simp [hsz, hlt]
          · rw [Array.getD_eq_getD_getElem?, Array.getElem?_setIfInBounds_ne e2, ← Array.getD_eq_getD_getElem?, hl]
            simp; omega
    · have hme : m = ops.size := by omega
      subst hme
      refine ⟨fun _ => by simpa [wpOpsIn] using h, fun i hi => ?_⟩
      exfalso
      have := hrd _ listed hm hms hsz hl hcl i hi
      obtain ⟨h1, o, h2, h3⟩ := mem_ready.1 hi
      have hlt : i < ops.size := (Array.getElem?_eq_some_iff.1 h2).1
      omega

theorem countP_ge : ∀ (n k : Nat), n ≤ (List.range n).countP (fun j => decide (k ≤ j)) + k
  | 0, k => by simp
  | n + 1, k => by
    rw [List.range_succ, List.countP_append]
    have := countP_ge n k
    by_cases h : k ≤ n
    · simp [h]; omega
    · have : (List.range n).countP (fun j => decide (k ≤ j)) = 0 := by
        rw [List.countP_eq_zero]
        intro j hj
        simp at hj; simp; omega
      simp [h, this]; omega
theorem drawn_done {E : Env} {P : Program} {ro : Option Nat} {ops : Array Oper} {nt : Nat} {Q : Exit → Act → World → Prop} {R : List Rec} {σ0 : St} {k : Nat} (hlen : R.length = k) (hks : k ≤ ops.size)
    (hedge : ∀ j o, ops[j]? = some o → ∀ e ∈ o.after, Region.binds .any e = true → e.on < j) (hord : ∀ j, k ≤ j → j < ops.size → ∀ i, i < j → Reach ops j i)
    (hQ : ∀ G a w, StRel E G (run (fun _ => true) R 0 σ0) a w nt → wpOpsIn (Fr ro) 0 P ops Q (List.range' k (ops.size - k)) a w) (fuel : Nat) (listed : Array Bool) (G : Gh) (a : Act) (w : World) (hsz : listed.size = ops.size)
    (hf : ((List.range ops.size).filter fun j => !listed.getD j false).length ≤ fuel) (hcl : Closed ops listed) (hlate : ∀ j, k ≤ j → listed.getD j false = false) (hsome : ¬ ∃ j, j < k ∧ listed.getD j false = false)
    (H : StRel E G (run (fun j => listed.getD j false) R 0 σ0) a w nt) : wpAnyIn (Fr ro) 0 P .any ops Q fuel listed a w := by
  have hl : ∀ j, listed.getD j false = decide (j < k) := fun j => by
    rcases Nat.lt_or_ge j k with h | h
    · cases hx : listed.getD j false with
      | true => simp [h]
      | false => exact absurd ⟨j, h, hx⟩ hsome
    · rw [hlate j h]; simp; omega
  have hcnt : ops.size - k ≤ ((List.range ops.size).filter fun j => !listed.getD j false).length := by
    have e : ((List.range ops.size).filter fun j => !listed.getD j false) = (List.range ops.size).filter fun j => decide (k ≤ j) := by
      congr 1
      funext j
      rw [hl]
      by_cases h : j < k <;> simp [h] <;> omega
    rw [e, ← List.countP_eq_length_filter]
    have := countP_ge ops.size k
    omega
  refine any_seq hord hedge fuel k listed a w (Nat.le_refl _) hks (by omega) hsz hl hcl (hQ G a w (H.congr (fun t => ?_) (fun n => ?_) (by rw [run_d, run_d])))
  · exact run_slot R 0 σ0 σ0 rfl (fun j r hj _ => by
      have hlt : j < k := by
        rw [← hlen]
        rcases Nat.lt_or_ge j R.length with h' | h'
        · exact h'
        · rw [List.getElem?_eq_none h'] at hj; cases hj
      rw [Nat.zero_add, hl]; simp [hlt])
  · exact run_name R 0 σ0 σ0 rfl (fun j r hj _ => by
      have hlt : j < k := by
        rw [← hlen]
        rcases Nat.lt_or_ge j R.length with h' | h'
        · exact h'
        · rw [List.getElem?_eq_none h'] at hj; cases hj
      rw [Nat.zero_add, hl]; simp [hlt])
/-- A region whose first part is in whatever order. -/
theorem drawn_soundK {E : Env} {P : Program} {ro : Option Nat} {ops : Array Oper} {nt : Nat} {Q : Exit → Act → World → Prop} {R : List Rec} {σ0 : St} {bf : List (List Nat)} {k : Nat} (hlen : R.length = k) (hks : k ≤ ops.size)
    (hR : ∀ i r, R[i]? = some r → RecOk E P ro ops nt i r ∧ RecIn (run (fun j => decide (j < i)) R 0 σ0) r ∧ ∀ d, r.dst = some d → d < nt)
    (hbf : ∀ j i, i ∈ bf.getD j [] → Reach ops j i) (hok : conflictOk R bf = true)
    (hedge : ∀ j o, ops[j]? = some o → ∀ e ∈ o.after, Region.binds .any e = true → e.on < j) (hord : ∀ j, k ≤ j → j < ops.size → ∀ i, i < j → Reach ops j i)
    (hQ : ∀ G a w, StRel E G (run (fun _ => true) R 0 σ0) a w nt → wpOpsIn (Fr ro) 0 P ops Q (List.range' k (ops.size - k)) a w) :
    ∀ (fuel : Nat) (listed : Array Bool) (G : Gh) (a : Act) (w : World), listed.size = ops.size → ((List.range ops.size).filter fun j => !listed.getD j false).length ≤ fuel → Closed ops listed → (∀ j, k ≤ j → listed.getD j false = false) →
      StRel E G (run (fun j => listed.getD j false) R 0 σ0) a w nt → wpAnyIn (Fr ro) 0 P .any ops Q fuel listed a w := by
  intro fuel
  induction fuel with
  | zero =>
    intro listed G a w hsz hf hcl hlate H
    by_cases hsome : ∃ j, j < k ∧ listed.getD j false = false
    · exfalso
      obtain ⟨j, hj, hn⟩ := hsome
      have : j ∈ (List.range ops.size).filter fun j => !listed.getD j false := List.mem_filter.2 ⟨List.mem_range.2 (by omega), by rw [hn]; rfl⟩
      have := List.length_pos_of_mem this
      omega
    · exact drawn_done hlen hks hedge hord hQ 0 listed G a w hsz hf hcl hlate hsome H
  | succ fuel ih =>
    intro listed G a w hsz hf hcl hlate H
    by_cases hsome : ∃ j, j < k ∧ listed.getD j false = false
    case neg => exact drawn_done hlen hks hedge hord hQ _ listed G a w hsz hf hcl hlate hsome H
    refine ⟨fun hr => ?_, fun i hi => ?_⟩
    · exfalso
      obtain ⟨j0, hj0, hn0⟩ := hsome
      have hall : ∀ n j, j ≤ n → j < ops.size → listed.getD j false = true := by
        intro n
        induction n with
        | zero =>
          intro j hj hlt
          have : j = 0 := by omega
          subst this
          cases hl : listed.getD 0 false with
          | true => rfl
          | false =>
            exfalso
            have : (0 : Nat) ∈ Region.ready .any ops listed := mem_ready.2 ⟨by
              simp only [Array.getD_eq_getD_getElem?] at hl ⊢
              rw [Array.getElem?_eq_getElem (by omega)] at hl ⊢
              simpa using hl, ops[0], Array.getElem?_eq_getElem hlt, fun e he hb => by have := hedge 0 _ (Array.getElem?_eq_getElem hlt) e he hb; omega⟩
            rw [hr] at this; simp at this
        | succ n ihn =>
          intro j hj hlt
          rcases Nat.lt_or_ge j (n + 1) with h' | h'
          · exact ihn j (by omega) hlt
          · cases hl : listed.getD j false with
            | true => rfl
            | false =>
              exfalso
              have : j ∈ Region.ready .any ops listed := mem_ready.2 ⟨by
                simp only [Array.getD_eq_getD_getElem?] at hl ⊢
                rw [Array.getElem?_eq_getElem (by omega)] at hl ⊢
                simpa using hl, ops[j], Array.getElem?_eq_getElem hlt, fun e he hb => by
                  have := hedge j _ (Array.getElem?_eq_getElem hlt) e he hb
                  exact ihn e.on (by omega) (by omega)⟩
              rw [hr] at this; simp at this
      rw [hall j0 j0 (Nat.le_refl _) (by omega)] at hn0; cases hn0
    obtain ⟨h1, o, h2, h3⟩ := mem_ready.1 hi
    have hlt : i < ops.size := (Array.getElem?_eq_some_iff.1 h2).1
    have hnot : listed.getD i false = false := by
      simp only [Array.getD_eq_getD_getElem?] at h1 ⊢
      rw [Array.getElem?_eq_getElem (by omega)] at h1 ⊢
      simpa using h1
    have hik : i < k := by
      rcases Nat.lt_or_ge i k with h' | h'
      · exact h'
      · obtain ⟨j0, hj0, hn0⟩ := hsome
        rw [ready_reach hcl hi (hord i h' hlt j0 (by omega)) rfl] at hn0; cases hn0
    obtain ⟨r, hr⟩ : ∃ r, R[i]? = some r := ⟨R[i]'(by omega), List.getElem?_eq_getElem (by omega)⟩
    obtain ⟨k1, k2, k3⟩ := hR i r hr
    -- those who write what r reads or writes have come just if they come before it in the text
    have hagree : ∀ j r', R[j]? = some r' → conf r' r = true ∨ conf r r' = true → j ≠ i → listed.getD j false = decide (j < i) := by
      intro j r' hj hc hne
      rcases Nat.lt_or_ge j i with hji | hji
      · have hcc : conf r' r = true := by
          rcases hc with hc | hc
          · exact hc
          · -- 'conf' is symmetric
            unfold conf at hc ⊢
            simp only [Bool.or_eq_true, List.any_eq_true] at hc ⊢
            rcases hc with ((hc | hc) | hc) | hc
            · cases hd : r.dst with
              | none => simp [hd] at hc
              | some d =>
                simp only [hd, Bool.or_eq_true] at hc
                rcases hc with hc | hc
                · exact .inl (.inl (.inr (by simpa [hd] using hc)))
                · have : r'.dst = some d := by simpa using hc
                  exact .inl (.inl (.inl (by simp [this, hd])))
            · cases hd : r'.dst with
              | none => simp [hd] at hc
              | some d =>
                simp only [hd] at hc
                exact .inl (.inl (.inl (by simp only [hd, Bool.or_eq_true]; exact .inl hc)))
            · obtain ⟨n, hn, hc⟩ := hc
              rcases hc with hc | hc
              · exact .inl (.inr ⟨n, by simpa using hc, .inl (by simpa using hn)⟩)
              · exact .inr ⟨n, hn, hc⟩
            · obtain ⟨n, hn, hc⟩ := hc
              exact .inl (.inr ⟨n, hn, .inr hc⟩)
        have hre := hbf i j (conflictOk_spec hok hji hj hr hcc)
        rw [ready_reach hcl hi hre rfl]
        simp [hji]
      · have hij : i < j := by omega
        have hcc : conf r r' = true := by
          rcases hc with hc | hc
          · unfold conf at hc ⊢
            simp only [Bool.or_eq_true, List.any_eq_true] at hc ⊢
            rcases hc with ((hc | hc) | hc) | hc
            · cases hd : r'.dst with
              | none => simp [hd] at hc
              | some d =>
                simp only [hd, Bool.or_eq_true] at hc
                rcases hc with hc | hc
                · exact .inl (.inl (.inr (by simpa [hd] using hc)))
                · have : r.dst = some d := by simpa using hc
                  exact .inl (.inl (.inl (by simp [this, hd])))
            · cases hd : r.dst with
              | none => simp [hd] at hc
              | some d =>
                simp only [hd] at hc
                exact .inl (.inl (.inl (by simp only [hd, Bool.or_eq_true]; exact .inl hc)))
            · obtain ⟨n, hn, hc⟩ := hc
              rcases hc with hc | hc
              · exact .inl (.inr ⟨n, by simpa using hc, .inl (by simpa using hn)⟩)
              · exact .inr ⟨n, hn, hc⟩
            · obtain ⟨n, hn, hc⟩ := hc
              exact .inl (.inr ⟨n, hn, .inr hc⟩)
          · exact hc
        have hre := hbf j i (conflictOk_spec hok hij hr hj hcc)
        have : listed.getD j false = false := by
          cases hl : listed.getD j false with
          | false => rfl
          | true => rw [closed_reach hcl hre hl] at hnot; cases hnot
        rw [this]; simp; omega
    have hslot : ∀ t, (∃ e, (t, e) ∈ r.rs) → getS (run (fun j => listed.getD j false) R 0 σ0).s t = getS (run (fun j => decide (j < i)) R 0 σ0).s t := fun t ⟨e, he⟩ =>
      run_slot R 0 σ0 σ0 rfl (fun j r' hj hd => by
        rw [Nat.zero_add]
        by_cases hne : j = i
        · subst hne; rw [hnot]; simp
        · exact hagree j r' hj (.inl (conf_slot1 hd he)) hne)
    have hname : ∀ n, (n ∈ upNames r ∨ ∃ o, (n, o) ∈ r.hin) → look (run (fun j => listed.getD j false) R 0 σ0).h n = look (run (fun j => decide (j < i)) R 0 σ0).h n := fun n hn =>
      run_name R 0 σ0 σ0 rfl (fun j r' hj hd => by
        rw [Nat.zero_add]
        by_cases hne : j = i
        · subst hne; rw [hnot]; simp
        · refine hagree j r' hj ?_ hne
          rcases hn with hn | ⟨o, ho⟩
          · exact .inl (conf_name3 hd hn)
          · exact .inl (conf_name1 hd ho))
    refine k1 G a w (look (run (fun j => listed.getD j false) R 0 σ0).h) H.wr H.sz (fun p hp => H.sr _ _ (by rw [hslot p.1 ⟨p.2, hp⟩]; exact k2.rs p hp)) (fun p hp => by rw [hname p.1 (.inr ⟨p.2, hp⟩)]; exact k2.hin p hp)
      (fun p hp => by
        rcases k2.up p hp with h | h
        · exact .inl (by rw [hname p.1 (.inl (List.mem_map.2 ⟨p, hp, rfl⟩))]; exact h)
        · exact .inr h) _ _ (fun val w' G' q1 q2 q3 q4 => ?_)
    have Hput := H.put q1 q2 k3 q3 q4
    have hset : ∀ j, (listed.setIfInBounds i true).getD j false = (listed.getD j false || decide (j = i)) := fun j => by
      by_cases e : i = j
      · subst e; simp [hsz, hlt]
      · rw [Array.getD_eq_getD_getElem?, Array.getD_eq_getD_getElem?, Array.getElem?_setIfInBounds_ne e]
        have : ¬ j = i := fun h => e h.symm
        simp [this]
    refine ih (listed.setIfInBounds i true) G' _ w' (by simpa using hsz) ?_ ?_ (fun j hj => by rw [hset, hlate j hj]; simp; omega) (Hput.congr (fun t => ?_) (fun n => ?_) (by simp only [run_d]))
    · -- one fewer is left
      have hmem : i ∈ (List.range ops.size).filter fun j => !listed.getD j false := List.mem_filter.2 ⟨List.mem_range.2 hlt, by rw [hnot]; rfl⟩
      have hsub : ((List.range ops.size).filter fun j => !(listed.setIfInBounds i true).getD j false) = ((List.range ops.size).filter fun j => !listed.getD j false).filter fun j => !decide (j = i) := by
        rw [List.filter_filter]
        congr 1
        funext j
        rw [hset j]
        cases listed.getD j false <;> simp
      rw [hsub]
      have hl : (((List.range ops.size).filter fun j => !listed.getD j false).filter fun j => !decide (j = i)).length < ((List.range ops.size).filter fun j => !listed.getD j false).length := by
        refine List.length_filter_lt_length_iff_exists.2 ⟨i, hmem, by simp⟩
      omega
    · intro j hj o' e ho' he hb
      rw [hset] at hj ⊢
      simp only [Bool.or_eq_true, decide_eq_true_eq] at hj ⊢
      rcases hj with hj | hj
      · exact .inl (hcl j hj o' e ho' he hb)
      · subst hj
        rw [h2] at ho'; injection ho' with ho'; subst ho'
        exact .inl (h3 e he hb)
    · have e0 : getS (putS (run (fun j => listed.getD j false) R 0 σ0).s r.dst (r.g, r.v)) t = getS (stepR (run (fun j => listed.getD j false) R 0 σ0) r).s t := rfl
      rw [e0, getS_step]
      split
      · rename_i hd
        refine run_last_slot (p := fun j => (listed.setIfInBounds i true).getD j false) (i := i) R 0 σ0 r hr hd (fun j r' hj hij hd' => ?_) (by rw [Nat.zero_add, hset]; simp)
        rw [Nat.zero_add, hset]
        have := hagree j r' hj (.inr (conf_slot3 hd hd')) (by omega)
        rw [this]; simp; omega
      · rename_i hd
        exact run_slot R 0 σ0 σ0 rfl (fun j r' hj hd' => by
          rw [Nat.zero_add, hset]
          by_cases hne : j = i
          · subst hne; rw [hr] at hj; injection hj with hj; subst hj; exact absurd hd' hd
          · simp [hne])
    · have e0 : look (updH (run (fun j => listed.getD j false) R 0 σ0).h r.up) n = look (stepR (run (fun j => listed.getD j false) R 0 σ0) r).h n := rfl
      rw [e0, look_step]
      by_cases hd : n ∈ upNames r
      · refine run_last_name (p := fun j => (listed.setIfInBounds i true).getD j false) (i := i) _ R 0 σ0 r hr hd (fun j r' hj hij hd' => ?_) (by rw [Nat.zero_add, hset]; simp)
        rw [Nat.zero_add, hset]
        have := hagree j r' hj (.inr (conf_name3 hd hd')) (by omega)
        rw [this]; simp; omega
      · rw [upd_not hd]
        exact run_name R 0 σ0 σ0 rfl (fun j r' hj hd' => by
          rw [Nat.zero_add, hset]
          by_cases hne : j = i
          · subst hne; rw [hr] at hj; injection hj with hj; subst hj; exact absurd hd' hd
          · simp [hne])


end Go.Proofs.YtfegfnekphobmaaDoor.AL
end

section
namespace Go.Proofs.YtfegfnekphobmaaDoor.AL
open Go

/-- The names that a value bears; 'none': too deep to tell. -/
def namesA : Nat → AV → Option (List Nat)
  | _, .d _ => some []
  | _, .own r _ _ => some [r]
  | _, .ptr n _ => some [n]
  | _, .mp n => some [n]
  | _, .spare r _ _ => some [r]
  | _, .e0 _ => some []
  | _, .bsl n _ _ _ _ => some [n]
  | 0, _ => none
  | k + 1, .agg cs => namesL k cs
  | k + 1, .tup cs => namesL k cs
  | k + 1, .fn _ a b => match namesL k a, namesL k b with
    | some x, some y => some (x ++ y)
    | _, _ => none
where namesL (k : Nat) : List AV → Option (List Nat)
  | [] => some []
  | c :: r => match namesA k c, namesL k r with
    | some x, some y => some (x ++ y)
    | _, _ => none

/-- v stands for u, where each name m of u is the name 'ρ m' of v; 'N': new rows, of no cells. -/
def leA (ρ : Nat → Nat) (N : Nat → Option Nat) (ok : Nat → Bool) : Nat → AV → AV → Prop
  | _, .d x, .d y => LeD x y
  | _, .own r sz es, .own r' sz' es' => r = ρ r' ∧ sz = sz' ∧ es = es' ∧ ok r' = true ∧ N r' = none
  | _, .d (.nil sz), .own r sz' es => sz = sz' ∧ es = [] ∧ N r = some sz
  | _, .own _ sz es, .d y => LeD (.sl sz es) y
  | _, .ptr n o, .ptr n' o' => n = ρ n' ∧ o = o' ∧ ok n' = true
  | _, .mp n, .mp n' => n = ρ n' ∧ ok n' = true
  | _, .spare r sz n, .spare r' sz' n' => r = ρ r' ∧ sz = sz' ∧ n = n' ∧ ok r' = true ∧ N r' = none
  | _, .e0 z, .e0 z' => z = z'
  | _, .bsl n o z l c, .bsl n' o' z' l' c' => n = ρ n' ∧ o = o' ∧ z = z' ∧ l = l' ∧ c = c' ∧ ok n' = true
  | k + 1, .agg cs, .agg cs' => leL ρ N ok k cs cs' ∧ ∀ c ∈ cs', c.one = true
  | k + 1, .agg cs, .d (.agg ds) => leL ρ N ok k cs (ds.map .d) ∧ ∀ c ∈ ds, c.one = true
  | k + 1, .d (.agg ds), .agg cs => leL ρ N ok k (ds.map .d) cs ∧ ∀ c ∈ cs, c.one = true
  | k + 1, .tup cs, .tup cs' => leL ρ N ok k cs cs'
  | k + 1, .tup cs, .d (.tup ds) => leL ρ N ok k cs (ds.map .d)
  | k + 1, .fn f a b, .fn f' a' b' => f = f' ∧ leL ρ N ok k a a' ∧ leL ρ N ok k b b'
  | k + 1, .fn f a b, .d (.fn f' a' b') => f = f' ∧ leL ρ N ok k a (a'.map .d) ∧ leL ρ N ok k b (b'.map .d)
  | _, _, _ => False
where leL (ρ : Nat → Nat) (N : Nat → Option Nat) (ok : Nat → Bool) (k : Nat) : List AV → List AV → Prop
  | [], [] => True
  | c :: r, c' :: r' => leA ρ N ok k c c' ∧ leL ρ N ok k r r'
  | _, _ => False

/-- The ghost of the new state. -/
def reG (G : Gh) (ρ : Nat → Nat) (N : Nat → Option Nat) (ok : Nat → Bool) : Gh :=
  { I := G.I, box := fun n => if ok n then G.box (ρ n) else none, row := fun n => match N n with
      | some sz => some (none, 0, 0, sz)
      | none => if ok n then G.row (ρ n) else none,
    rc := fun n => G.rc (ρ n) }

theorem RepA.own_inv {G : Gh} {w : World} {r sz : Nat} {es : List D} {v : Value} (h : RepA G w (.own r sz es) v) : ∃ A n cap, v = .slice A n cap ∧ G.row r = some (A, n, cap, sz) ∧ Rep G.I w (.sl sz es) v := by
  cases h with
  | own hg h => exact ⟨_, _, _, rfl, hg, h⟩
theorem RepA.ptr_inv {G : Gh} {w : World} {n o : Nat} {v : Value} (h : RepA G w (.ptr n o) v) : ∃ b, v = .pointer (some ⟨b, o, none⟩) ∧ G.box n = some b := by
  cases h with
  | ptr hg => exact ⟨_, rfl, hg⟩
theorem RepA.agg_inv {G : Gh} {w : World} {cs : List AV} {v : Value} (h : RepA G w (.agg cs) v) : ∃ vs : Array Value, v = .agg vs ∧ vs.size = cs.length ∧ ∀ (k : Nat) (c : AV) (v : Value), cs[k]? = some c → vs[k]? = some v → RepA G w c v := by
  cases h with
  | agg hl _ hr => exact ⟨_, rfl, hl, hr⟩
theorem RepA.tup_inv {G : Gh} {w : World} {cs : List AV} {v : Value} (h : RepA G w (.tup cs) v) : ∃ vs : Array Value, v = .tuple vs ∧ vs.size = cs.length ∧ ∀ (k : Nat) (c : AV) (v : Value), cs[k]? = some c → vs[k]? = some v → RepA G w c v := by
  cases h with
  | tup hl hr => exact ⟨_, rfl, hl, hr⟩
theorem Rep.agg_inv {I : Addr → Prop} {w : World} {cs : List D} {v : Value} (h : Rep I w (.agg cs) v) : ∃ vs : Array Value, v = .agg vs ∧ vs.size = cs.length ∧ (∀ c ∈ cs, c.one = true) ∧ ∀ (k : Nat) (c : D) (v : Value), cs[k]? = some c → vs[k]? = some v → Rep I w c v := by
  cases h with
  | agg hl h1 hr => exact ⟨_, rfl, hl, h1, hr⟩

theorem leA_rep {G : Gh} {w : World} {ρ : Nat → Nat} {N : Nat → Option Nat} {ok : Nat → Bool} : ∀ (k : Nat) (v u : AV), leA ρ N ok k v u → ∀ {x : Value}, RepA G w v x → RepA (reG G ρ N ok) w u x := by
  intro k
  induction k with
  | zero =>
    intro v u h x hr
    unfold leA at h
    split at h
    · exact .d (h _ _ _ hr.of_d)
    · obtain ⟨rfl, rfl, rfl, h1, h2⟩ := h
      obtain ⟨A, n, cap, rfl, g1, g2⟩ := hr.own_inv
      exact .own (by simp [reG, h1, h2, g1]) g2
    · obtain ⟨rfl, rfl, h1⟩ := h
      have hr := hr.of_d
      cases hr
      exact .own (by simp [reG, h1]) (LeD.nil _ _ _ _ .nil)
    · obtain ⟨A, n, cap, rfl, g1, g2⟩ := hr.own_inv
      exact .d (h _ _ _ g2)
    · obtain ⟨rfl, rfl, h1⟩ := h
      obtain ⟨b, rfl, g1⟩ := hr.ptr_inv
      exact .ptr (by simp [reG, h1, g1])
    · obtain ⟨rfl, h1⟩ := h
      cases hr
      rename_i b g1
      exact .mp (by simp [reG, h1, g1])
    · obtain ⟨rfl, rfl, rfl, h1, h2⟩ := h
      cases hr with
      | spare g1 g2 g3 => exact .spare (by simp [reG, h1, h2, g1]) g2 g3
    · subst h
      cases hr
      exact .e0
    · obtain ⟨rfl, rfl, rfl, rfl, rfl, h1⟩ := h
      obtain ⟨b, c', g1, g2, g3, g4, g5, rfl⟩ := hr.bsl_inv
      exact .bsl (by simp [reG, h1, g1]) g2 g3 g4 g5
    all_goals (first | exact h.elim | (rename_i hh; cases hh))
  | succ k ih =>
    have hL : ∀ (l m : List AV), leA.leL ρ N ok k l m → l.length = m.length ∧ ∀ (j : Nat) (d : AV) (y : Value), m[j]? = some d → ∃ c, l[j]? = some c ∧ ∀ {x : Value}, RepA G w c x → RepA (reG G ρ N ok) w d x := by
      intro l
      induction l with
      | nil =>
        intro m h
        cases m with
        | nil => exact ⟨rfl, fun j d y hj => by simp at hj⟩
        | cons _ _ => simp [leA.leL] at h
      | cons c r ihl =>
        intro m h
        cases m with
        | nil => simp [leA.leL] at h
        | cons d m =>
          simp only [leA.leL] at h
          obtain ⟨i1, i2⟩ := ihl m h.2
          refine ⟨by simp [i1], fun j e y hj => ?_⟩
          cases j with
          | zero => simp at hj; subst hj; exact ⟨c, rfl, fun hr => ih c d h.1 hr⟩
          | succ j => simpa using i2 j e y (by simpa using hj)
    intro v u h x hr
    unfold leA at h
    split at h
    · exact .d (h _ _ _ hr.of_d)
    · obtain ⟨rfl, rfl, rfl, h1, h2⟩ := h
      obtain ⟨A, n, cap, rfl, g1, g2⟩ := hr.own_inv
      exact .own (by simp [reG, h1, h2, g1]) g2
    · obtain ⟨rfl, rfl, h1⟩ := h
      have hr := hr.of_d
      cases hr
      exact .own (by simp [reG, h1]) (LeD.nil _ _ _ _ .nil)
    · obtain ⟨A, n, cap, rfl, g1, g2⟩ := hr.own_inv
      exact .d (h _ _ _ g2)
    · obtain ⟨rfl, rfl, h1⟩ := h
      obtain ⟨b, rfl, g1⟩ := hr.ptr_inv
      exact .ptr (by simp [reG, h1, g1])
    · obtain ⟨rfl, h1⟩ := h
      cases hr
      rename_i b g1
      exact .mp (by simp [reG, h1, g1])
    · obtain ⟨rfl, rfl, rfl, h1, h2⟩ := h
      cases hr with
      | spare g1 g2 g3 => exact .spare (by simp [reG, h1, h2, g1]) g2 g3
    · subst h
      cases hr
      exact .e0
    · obtain ⟨rfl, rfl, rfl, rfl, rfl, h1⟩ := h
      obtain ⟨b, c', g1, g2, g3, g4, g5, rfl⟩ := hr.bsl_inv
      exact .bsl (by simp [reG, h1, g1]) g2 g3 g4 g5
    · -- agg, agg
      rename_i heq; injection heq with heq; subst heq
      obtain ⟨vs, rfl, hl, hv⟩ := hr.agg_inv
      obtain ⟨i1, i2⟩ := hL _ _ h.1
      refine .agg (by rw [hl, i1]) h.2 (fun j c y hj hy => ?_)
      obtain ⟨c', hc', hh⟩ := i2 j c y hj
      exact hh (hv j c' y hc' hy)
    · -- agg, d agg
      rename_i heq; injection heq with heq; subst heq
      obtain ⟨vs, rfl, hl, hv⟩ := hr.agg_inv
      obtain ⟨i1, i2⟩ := hL _ _ h.1
      refine .d (.agg (by rw [hl, i1]; simp) h.2 (fun j c y hj hy => ?_))
      obtain ⟨c', hc', hh⟩ := i2 j (.d c) y (by simp [hj])
      exact (hh (hv j c' y hc' hy)).of_d
    · -- d agg, agg
      rename_i heq; injection heq with heq; subst heq
      obtain ⟨vs, rfl, hl, h1, hv⟩ := hr.of_d.agg_inv
      obtain ⟨i1, i2⟩ := hL _ _ h.1
      refine .agg (by rw [hl, ← i1]; simp) h.2 (fun j c y hj hy => ?_)
      obtain ⟨c', hc', hh⟩ := i2 j c y hj
      simp only [List.getElem?_map, Option.map_eq_some_iff] at hc'
      obtain ⟨d, hd, rfl⟩ := hc'
      exact hh (.d (hv j d y hd hy))
    · rename_i heq; injection heq with heq; subst heq
      obtain ⟨vs, rfl, hl, hv⟩ := hr.tup_inv
      obtain ⟨i1, i2⟩ := hL _ _ h
      refine .tup (by rw [hl, i1]) (fun j c y hj hy => ?_)
      obtain ⟨c', hc', hh⟩ := i2 j c y hj
      exact hh (hv j c' y hc' hy)
    · rename_i heq; injection heq with heq; subst heq
      obtain ⟨vs, rfl, hl, hv⟩ := hr.tup_inv
      obtain ⟨i1, i2⟩ := hL _ _ h
      refine .d (.tup (by rw [hl, i1]; simp) (fun j c y hj hy => ?_))
      obtain ⟨c', hc', hh⟩ := i2 j (.d c) y (by simp [hj])
      exact (hh (hv j c' y hc' hy)).of_d
    · rename_i heq; injection heq with heq; subst heq
      obtain ⟨rfl, h1, h2⟩ := h
      obtain ⟨x1, x2, rfl, l1, l2, r1, r2⟩ := hr.fn_inv
      obtain ⟨i1, i2⟩ := hL _ _ h1
      obtain ⟨j1, j2⟩ := hL _ _ h2
      refine .fn (by rw [l1, i1]) (by rw [l2, j1]) (fun j c y hj hy => ?_) (fun j c y hj hy => ?_)
      · obtain ⟨c', hc', hh⟩ := i2 j c y hj
        exact hh (r1 j c' y hc' hy)
      · obtain ⟨c', hc', hh⟩ := j2 j c y hj
        exact hh (r2 j c' y hc' hy)
    · rename_i heq; injection heq with heq; subst heq
      obtain ⟨rfl, h1, h2⟩ := h
      obtain ⟨x1, x2, rfl, l1, l2, r1, r2⟩ := hr.fn_inv
      obtain ⟨i1, i2⟩ := hL _ _ h1
      obtain ⟨j1, j2⟩ := hL _ _ h2
      refine .d (.fn (by rw [l1, i1]; simp) (by rw [l2, j1]; simp) (fun j c y hj hy => ?_) (fun j c y hj hy => ?_))
      · obtain ⟨c', hc', hh⟩ := i2 j (.d c) y (by simp [hj])
        exact (hh (r1 j c' y hc' hy)).of_d
      · obtain ⟨c', hc', hh⟩ := j2 j (.d c) y (by simp [hj])
        exact (hh (r2 j c' y hc' hy)).of_d
    · exact h.elim

end Go.Proofs.YtfegfnekphobmaaDoor.AL
end

section
namespace Go.Proofs.YtfegfnekphobmaaDoor.AL
open Go

def assocN (l : List (Nat × Nat)) (n : Nat) : Option Nat :=
  match l with
  | [] => none
  | (m, x) :: r => if n = m then some x else assocN r n
def doms (h : List (Nat × HO)) : List Nat := h.map (·.1)
def rho (ren : List (Nat × Nat)) (n : Nat) : Nat := (assocN ren n).getD n
def newN (news : List (Nat × Nat)) (h : List (Nat × HO)) (n : Nat) : Option Nat := if (doms h).contains n then assocN news n else none
def okN (news : List (Nat × Nat)) (h : List (Nat × HO)) (n : Nat) : Bool := (doms h).contains n && (assocN news n).isNone

def subS (ren news : List (Nat × Nat)) (σ : St) (h : List (Nat × HO)) : List (Nat × Bool × AV) → Prop
  | [] => True
  | (t, g, v) :: r => (match getS σ.s t with
    | some (g', v') => g = true ∧ g' = true ∧ leA (rho ren) (newN news h) (okN news h) 3 v' v
    | none => False) ∧ subS ren news σ h r
def subH (ren news : List (Nat × Nat)) (σ : St) (h : List (Nat × HO)) : List (Nat × HO) → Prop
  | [] => True
  | (n, o) :: r => (match o with
    | .box _ cs => assocN news n = none ∧ match look σ.h (rho ren n) with
      | some (.box _ cs') => leA.leL (rho ren) (newN news h) (okN news h) 3 cs' cs ∧ ∀ c ∈ cs, c.one = true
      | _ => False
    | .row => (∃ sz, assocN news n = some sz) ∨ look σ.h (rho ren n) = some .row
    | .obj s => assocN news n = none ∧ look σ.h (rho ren n) = some (.obj s)
    | .mapo es => assocN news n = none ∧ match look σ.h (rho ren n) with
      | some (.mapo es') => es'.map (·.1) = es.map (·.1) ∧ leA (rho ren) (newN news h) (okN news h) 3 (.tup (es'.map (·.2))) (.tup (es.map (·.2)))
      | _ => False
    | .dead => True) ∧ subH ren news σ h r

def subDs (ren news : List (Nat × Nat)) (h : List (Nat × HO)) : List DE → List DE → Prop
  | [], [] => True
  | .mark n' :: r', .mark n :: r => (n' = rho ren n ∧ okN news h n = true) ∧ subDs ren news h r' r
  | .fn f' a' c' :: r', .fn f a c :: r => (f' = f ∧ leA (rho ren) (newN news h) (okN news h) 3 (.tup a') (.tup a) ∧ leA (rho ren) (newN news h) (okN news h) 3 (.tup c') (.tup c)) ∧ subDs ren news h r' r
  | _, _ => False

/-- The state σ is one of those that τ tells of; the names below B stay. -/
def Sub (B : Nat) (σ τ : St) : Prop := ∃ ren news : List (Nat × Nat), ((doms τ.h).all fun n => (doms τ.h).all fun m => rho ren n != rho ren m || n == m) = true ∧ subS ren news σ τ.h τ.s ∧ subH ren news σ τ.h τ.h ∧
  ((List.range B).all fun n => !(doms σ.h).contains n || (rho ren n == n && ((assocN news n).isNone && (doms τ.h).contains n))) = true ∧ subDs ren news τ.h σ.d τ.d

theorem subDs_rep {ren news : List (Nat × Nat)} {h : List (Nat × HO)} {G : Gh} {w : World} (hk : ∀ x y v, leA (rho ren) (newN news h) (okN news h) 3 x y → RepA G w x v → RepA (reG G (rho ren) (newN news h) (okN news h)) w y v) :
    ∀ {ds' ds : List DE} {vs : List Deferred}, subDs ren news h ds' ds → RepDs G w ds' vs → RepDs (reG G (rho ren) (newN news h) (okN news h)) w ds vs
  | [], [], _, _, .nil => .nil
  | .mark n' :: r', .mark n :: r, _, hs, .cons h1 h2 => by
    obtain ⟨⟨q1, q2⟩, q3⟩ := hs
    refine .cons ?_ (subDs_rep hk q3 h2)
    cases h1 with
    | mark hg => subst q1; exact .mark (by simp [reG, q2, hg])
  | .fn f' a' c' :: r', .fn f a c :: r, _, hs, .cons h1 h2 => by
    obtain ⟨⟨q1, q2, q3⟩, q4⟩ := hs
    refine .cons ?_ (subDs_rep hk q4 h2)
    cases h1 with
    | fn h3 h4 =>
      subst q1
      obtain ⟨x, e1, e2, e3⟩ := (hk _ _ _ q2 (.tup h3.1 h3.2)).tup_inv
      obtain ⟨y, f1, f2, f3⟩ := (hk _ _ _ q3 (.tup h4.1 h4.2)).tup_inv
      injection e1 with e1; injection f1 with f1; subst e1; subst f1
      exact .fn ⟨e2, e3⟩ ⟨f2, f3⟩
  | [], _ :: _, _, hs, _ => hs.elim
  | .mark _ :: _, [], _, hs, _ => hs.elim
  | .fn _ _ _ :: _, [], _, hs, _ => hs.elim
  | .mark _ :: _, .fn _ _ _ :: _, _, hs, _ => hs.elim
  | .fn _ _ _ :: _, .mark _ :: _, _, hs, _ => hs.elim

theorem subS_get {ren news : List (Nat × Nat)} {σ : St} {h : List (Nat × HO)} : ∀ {s : List (Nat × Bool × AV)}, subS ren news σ h s → ∀ {t e}, getS s t = some e → ∃ v', getS σ.s t = some (true, v') ∧ e.1 = true ∧ leA (rho ren) (newN news h) (okN news h) 3 v' e.2
  | [], _, t, e, he => by simp [getS] at he
  | (u, g, v) :: r, hs, t, e, he => by
    simp only [getS] at he
    obtain ⟨h1, h2⟩ := hs
    split at he
    · rename_i ht; subst ht
      injection he with he; subst he
      split at h1
      · rename_i g' v' hg
        obtain ⟨q1, q2, q3⟩ := h1
        subst q2
        exact ⟨v', hg, q1, q3⟩
      · exact h1.elim
    · exact subS_get h2 he

theorem subH_get {ren news : List (Nat × Nat)} {σ : St} {h : List (Nat × HO)} : ∀ {l : List (Nat × HO)}, subH ren news σ h l → ∀ {n o}, look l n = some o → match o with
    | .box _ cs => assocN news n = none ∧ match look σ.h (rho ren n) with
      | some (.box _ cs') => leA.leL (rho ren) (newN news h) (okN news h) 3 cs' cs ∧ ∀ c ∈ cs, c.one = true
      | _ => False
    | .row => (∃ sz, assocN news n = some sz) ∨ look σ.h (rho ren n) = some .row
    | .obj s => assocN news n = none ∧ look σ.h (rho ren n) = some (.obj s)
    | .mapo es => assocN news n = none ∧ match look σ.h (rho ren n) with
      | some (.mapo es') => es'.map (·.1) = es.map (·.1) ∧ leA (rho ren) (newN news h) (okN news h) 3 (.tup (es'.map (·.2))) (.tup (es.map (·.2)))
      | _ => False
    | .dead => True
  | [], _, n, o, he => by simp [look] at he
  | (m, x) :: r, hs, n, o, he => by
    simp only [look] at he
    obtain ⟨h1, h2⟩ := hs
    split at he
    · rename_i ht; subst ht
      injection he with he; subst he
      exact h1
    · exact subH_get h2 he

theorem look_dom : ∀ {h : List (Nat × HO)} {n : Nat} {o : HO}, look h n = some o → (doms h).contains n = true
  | [], n, o, h => by simp [look] at h
  | (m, x) :: r, n, o, h => by
    simp only [look] at h
    simp only [doms, List.map_cons, List.contains_cons]
    split at h
    · rename_i e; subst e; simp
    · have := look_dom h
      simp only [doms] at this
      rw [this]; simp
theorem dom_look : ∀ {h : List (Nat × HO)} {n : Nat}, look h n = none → (doms h).contains n = false
  | [], n, h => by simp [doms]
  | (m, x) :: r, n, h => by
    simp only [look] at h
    simp only [doms, List.map_cons, List.contains_cons]
    split at h
    · cases h
    · rename_i e
      have := dom_look h
      simp only [doms] at this
      rw [this]; simp [e]

theorem Sub.rel {E : Env} {G : Gh} {σ τ : St} {a : Act} {w : World} {nt : Nat} (H : StRel E G σ a w nt) (hs : Sub E.B σ τ) : ∃ G', G'.I = G.I ∧ StRel E G' τ a w nt := by
  obtain ⟨ren, news, h0, h1, h2, h3, h4⟩ := hs
  have hinj : ∀ n m, (doms τ.h).contains n = true → (doms τ.h).contains m = true → rho ren n = rho ren m → n = m := fun n m hn hm he => by
    have hn' : n ∈ doms τ.h := by simpa using hn
    have hm' : m ∈ doms τ.h := by simpa using hm
    have := List.all_eq_true.1 (List.all_eq_true.1 h0 n hn') m hm'
    simpa [he] using this
  refine ⟨reG G (rho ren) (newN news τ.h) (okN news τ.h), rfl, ⟨?_, H.sz, fun t e he => ?_, subDs_rep (fun x y v hl hr => leA_rep 3 _ _ hl hr) h4 H.defers⟩⟩
  · have hkeep : ∀ n, n < E.B → look σ.h n ≠ none → okN news τ.h n = true ∧ rho ren n = n ∧ newN news τ.h n = none := fun n hn hl => by
      have hq := List.all_eq_true.1 h3 n (List.mem_range.2 hn)
      have hd : (doms σ.h).contains n = true := by
        cases hx : look σ.h n with
        | none => exact absurd hx hl
        | some o => exact look_dom hx
      rw [hd] at hq
      simp only [Bool.not_true, Bool.false_or, Bool.and_eq_true, beq_iff_eq] at hq
      obtain ⟨q1, q2, q3⟩ := hq
      have q2' : assocN news n = none := by simpa using q2
      exact ⟨by unfold okN; rw [q3, q2']; rfl, q1, by unfold newN; rw [q3, q2']; rfl⟩
    refine ⟨H.wr.os, H.wr.tape, H.wr.output, H.wr.size, H.wr.kept, H.wr.i0, H.wr.inew, H.wr.icell, fun n hn => ?_, fun n ag cs hn => ?_, fun n b hb => ?_, fun n m b hn hm => ?_, fun r hr => ?_, fun r r' A n cap sz A' n' cap' sz' hr1 hr2 g1 g2 l1 l2 ad ad' e1 e2 hb => ?_, fun n s hn => ?_, fun n es hn => ?_, ?_, H.wr.gB⟩
    · have := dom_look hn
      have o1 : okN news τ.h n = false := by unfold okN; rw [this]; rfl
      have o2 : newN news τ.h n = none := by unfold newN; rw [this]; rfl
      simp [reG, o1, o2]
    · obtain ⟨q1, q2⟩ := subH_get h2 hn
      have hd := look_dom hn
      split at q2
      · rename_i ag' cs' hlk
        obtain ⟨b, arr, ty, f1, f2, f3, f4⟩ := H.wr.box (rho ren n) ag' cs' hlk
        refine ⟨b, arr, ty, ?_, f2, ?_, q2.2, f4.2⟩
        · have o1 : okN news τ.h n = true := by unfold okN; rw [hd, q1]; rfl
          simp [reG, o1, f1]
        · have hagg : leA (rho ren) (newN news τ.h) (okN news τ.h) 4 (.agg cs') (.agg cs) := by unfold leA; exact q2
          have hra : RepA G w (.agg cs') (.agg (arr.toList.take cs'.length).toArray) := .agg (by have := f3.1; simp; omega) f4.1 (fun k c v hk hv => by
            simp only [List.getElem?_toArray, List.getElem?_take] at hv
            split at hv
            · exact f3.2 k c v hk (by simpa using hv)
            · cases hv)
          obtain ⟨vs, hv1, hv2, hv3⟩ := (leA_rep 4 _ _ hagg hra).agg_inv
          injection hv1 with hv1; subst hv1
          have hle := f3.1
          simp at hv2
          refine ⟨by omega, fun k c v hk hv => hv3 k c v hk ?_⟩
          have hlt := (List.getElem?_eq_some_iff.1 hk).1
          simp only [List.getElem?_toArray, List.getElem?_take]
          rw [if_pos (by omega)]
          simpa using hv
      · exact q2.elim
    · simp only [reG] at hb
      split at hb
      · rename_i o1
        obtain ⟨f1, f2, f3, f4⟩ := H.wr.bown _ b hb
        refine ⟨f1, f2, fun hd => f3 (fun he => hd ?_), f4⟩
        cases hx : look τ.h n with
        | none => exact absurd o1 (by unfold okN; rw [dom_look hx]; simp)
        | some o =>
          have q := subH_get h2 hx
          cases o with
          | dead => rfl
          | box ag cs => obtain ⟨_, q2⟩ := q; rw [he] at q2; exact q2.elim
          | row =>
            rcases q with ⟨sz, q⟩ | q
            · exfalso; unfold okN at o1; rw [q] at o1; simp at o1
            · rw [he] at q; cases q
          | obj s => have q2 := q.2; rw [he] at q2; cases q2
          | mapo es => obtain ⟨_, q2⟩ := q; rw [he] at q2; exact q2.elim
      · cases hb
    · simp only [reG] at hn hm
      split at hn
      · rename_i o1
        split at hm
        · rename_i o2
          simp only [okN, Bool.and_eq_true] at o1 o2
          exact hinj n m o1.1 o2.1 (H.wr.binj _ _ b hn hm)
        · cases hm
      · cases hn
    · have hd := look_dom hr
      rcases subH_get h2 hr with ⟨sz, hz⟩ | hz
      · have o2 : newN news τ.h r = some sz := by unfold newN; rw [hd, hz]; rfl
        refine ⟨none, 0, 0, sz, by simp [reG, o2], fun k hk hk' => ?_⟩
        simp at hk'
      · obtain ⟨A, n, cap, sz, f1, f2⟩ := H.wr.row _ hz
        cases hn : assocN news r with
        | some sz =>
          have o2 : newN news τ.h r = some sz := by unfold newN; rw [hd, hn]; rfl
          exact ⟨none, 0, 0, sz, by simp [reG, o2], fun k hk hk' => by simp at hk'⟩
        | none =>
          have o1 : okN news τ.h r = true := by unfold okN; rw [hd, hn]; rfl
          have o2 : newN news τ.h r = none := by unfold newN; rw [hd, hn]; rfl
          refine ⟨A, n, cap, sz, by simp [reG, o1, o2, f1], fun k hk hk' => ?_⟩
          obtain ⟨ad, e, c1, c2, c3, c4, c5⟩ := f2 k hk hk'
          refine ⟨ad, e, c1, c2, c3, c4, fun m hm => ?_⟩
          simp only [reG] at hm
          split at hm
          · exact c5 _ hm
          · cases hm
    · have d1 := look_dom hr1
      have d2 := look_dom hr2
      simp only [reG] at g1 g2
      cases hn1 : newN news τ.h r with
      | some z => simp only [hn1] at g1; injection g1 with g1; injection g1 with _ g1; injection g1 with g1 g3; injection g3 with g3 _; subst g1; subst g3; simp at l1
      | none =>
        cases hn2 : newN news τ.h r' with
        | some z => simp only [hn2] at g2; injection g2 with g2; injection g2 with _ g2; injection g2 with g2 g3; injection g3 with g3 _; subst g2; subst g3; simp at l2
        | none =>
          simp only [hn1] at g1
          simp only [hn2] at g2
          split at g1
          · split at g2
            · have x1 : assocN news r = none := by unfold newN at hn1; rw [d1] at hn1; exact hn1
              have x2 : assocN news r' = none := by unfold newN at hn2; rw [d2] at hn2; exact hn2
              have y1 : look σ.h (rho ren r) = some .row := by
                rcases subH_get h2 hr1 with ⟨sz, hz⟩ | hz
                · rw [x1] at hz; cases hz
                · exact hz
              have y2 : look σ.h (rho ren r') = some .row := by
                rcases subH_get h2 hr2 with ⟨sz, hz⟩ | hz
                · rw [x2] at hz; cases hz
                · exact hz
              exact hinj r r' d1 d2 (H.wr.rinj _ _ _ _ _ _ _ _ _ _ y1 y2 g1 g2 l1 l2 ad ad' e1 e2 hb)
            · cases g2
          · cases g1
    · obtain ⟨q1, q2⟩ := subH_get h2 hn
      have hd := look_dom hn
      obtain ⟨b, f1, f2⟩ := H.wr.obj _ _ q2
      have o1 : okN news τ.h n = true := by unfold okN; rw [hd, q1]; rfl
      exact ⟨b, by simp [reG, o1, f1], f2⟩
    · obtain ⟨q1, q2⟩ := subH_get h2 hn
      have hd := look_dom hn
      have o1 : okN news τ.h n = true := by unfold okN; rw [hd, q1]; rfl
      split at q2
      · rename_i es' hlk
        obtain ⟨b, arr, ck, f1, f2, f3⟩ := H.wr.mapo _ _ hlk
        refine ⟨b, arr, ck, by simp [reG, o1, f1], f2, ?_⟩
        have hlen : es'.length = es.length := by simpa using congrArg List.length q2.1
        have hra : RepA G w (.tup (es'.map (·.2))) (.tuple (arr.map (·.val))) := .tup (by simp [f3.1]) (fun k c v hk hv => by
          simp only [List.getElem?_map, Option.map_eq_some_iff] at hk
          simp only [Array.getElem?_map, Option.map_eq_some_iff] at hv
          obtain ⟨e, he, rfl⟩ := hk
          obtain ⟨x, hx, rfl⟩ := hv
          exact (f3.2 k e x he hx).2)
        obtain ⟨vs, hv1, hv2, hv3⟩ := (leA_rep 3 _ _ q2.2 hra).tup_inv
        injection hv1 with hv1; subst hv1
        refine ⟨f3.1.trans hlen, fun k e x he hx => ⟨?_, ?_⟩⟩
        · have hk : k < es'.length := by rw [hlen]; exact (List.getElem?_eq_some_iff.1 he).1
          have h1 := (f3.2 k es'[k] x (List.getElem?_eq_getElem hk) hx).1
          have h2 := congrArg (fun l => l[k]?) q2.1
          simp only [List.getElem?_map, he, List.getElem?_eq_getElem hk, Option.map_some, Option.some.injEq] at h2
          rw [h1, h2]
        · exact hv3 k e.2 x.val (by simp [he]) (by simp [hx])
      · exact q2.elim
    · have hb : ∀ n b, E.Gb.box n = some b → okN news τ.h n = true ∧ rho ren n = n := fun n b hn => by
        have := hkeep n (H.wr.gB.1 n b hn) (fun hl => by
          have h1 := H.wr.gb.box n b hn
          rw [(H.wr.fresh n hl).1] at h1; cases h1)
        exact ⟨this.1, this.2.1⟩
      refine ⟨H.wr.gb.imm, fun n b hn => ?_, fun n r hn => ?_, fun n b hn => ?_⟩
      · obtain ⟨k1, k2⟩ := hb n b hn
        simp only [reG, k1, k2, if_true]; exact H.wr.gb.box n b hn
      · obtain ⟨k1, k2, k3⟩ := hkeep n (H.wr.gB.2 n r hn) (fun hl => by
          have h1 := H.wr.gb.row n r hn
          rw [(H.wr.fresh n hl).2] at h1; cases h1)
        simp only [reG, k1, k2, k3, if_true]; exact H.wr.gb.row n r hn
      · obtain ⟨k1, k2⟩ := hb n b hn
        simp only [reG, k2]; exact H.wr.gb.rc n b hn
  · obtain ⟨v', q1, q2, q3⟩ := subS_get h1 he
    obtain ⟨val, x1, x2, x3⟩ := H.sr t _ q1
    exact ⟨val, x1, fun _ => leA_rep 3 _ _ q3 (x2 rfl), fun hf => by rw [q2] at hf; cases hf⟩



/-- Compact code. -/
inductive AC where
  | skip
  | region (bf : Option (List (List Nat))) (ops : List AOper)
  | sregion (ops : List AOper)
  | dregion (bf : List (List Nat)) (k : Nat) (ops : List AOper)
  | seq (a b : AC)
  | cond (c : Opd) (a b : AC)
  | block (id : Nat) (b : AC)
  | loop (b : AC)
  | range (g : Opd) (ps : List Nat) (asg b : AC)
  | exit (id : Nat)
  | ret
  deriving Inhabited

inductive CmpC (P : Program) (nt : Nat) : Code → AC → Prop
  | skip : CmpC P nt .skip .skip
  | region {id ops aops} (hl : aops.length = ops.size) (hc : ∀ (j : Nat) (ao : AOper), aops[j]? = some ao → ∃ o, ops[j]? = some o ∧ CmpO P ops nt o ao) : CmpC P nt (.region id ops false) (.region none aops)
  | sregion {id ops aops} (hl : aops.length = ops.size) (hc : ∀ (j : Nat) (ao : AOper), aops[j]? = some ao → ∃ o, ops[j]? = some o ∧ CmpO P ops nt o ao) : CmpC P nt (.region id ops false) (.sregion aops)
  | regionD {id ops aops bf} (hm : P.follows .mixedOrders = true) (hl : aops.length = ops.size) (hc : ∀ (j : Nat) (ao : AOper), aops[j]? = some ao → ∃ o, ops[j]? = some o ∧ CmpO P ops nt o ao)
      (hbf : ∀ j i, i ∈ bf.getD j [] → Reach ops j i) (hedge : ∀ j o, ops[j]? = some o → ∀ e ∈ o.after, Region.binds .any e = true → e.on < j) : CmpC P nt (.region id ops true) (.region (some bf) aops)
  | regionK {id ops aops bf k} (hm : P.follows .mixedOrders = true) (hl : aops.length = ops.size) (hc : ∀ (j : Nat) (ao : AOper), aops[j]? = some ao → ∃ o, ops[j]? = some o ∧ CmpO P ops nt o ao)
      (hbf : ∀ j i, i ∈ bf.getD j [] → Reach ops j i) (hedge : ∀ j o, ops[j]? = some o → ∀ e ∈ o.after, Region.binds .any e = true → e.on < j) (hk : k ≤ ops.size) (hord : ∀ j, k ≤ j → j < ops.size → ∀ i, i < j → Reach ops j i) : CmpC P nt (.region id ops true) (.dregion bf k aops)
  | seq {a b a' b'} (h1 : CmpC P nt a a') (h2 : CmpC P nt b b') : CmpC P nt (.seq a b) (.seq a' b')
  | cond {c a b c' a' b'} (h0 : CO c c') (h1 : CmpC P nt a a') (h2 : CmpC P nt b b') : CmpC P nt (.cond c a b) (.cond c' a' b')
  | block {id b b'} (h : CmpC P nt b b') : CmpC P nt (.block id b) (.block id b')
  | loop {b b'} (h : CmpC P nt b b') : CmpC P nt (.loop b) (.loop b')
  | range {g g' asg b asg' b'} {ps : Array Tmp} {ps' : List Nat} (hg : CO g g') (hps : ps.toList = ps') (hlt : ∀ p ∈ ps', p < nt) (h1 : CmpC P nt asg asg') (h2 : CmpC P nt b b') : CmpC P nt (.rangeFunc g ps asg b) (.range g' ps' asg' b')
  | exit {id} : CmpC P nt (.exit id) (.exit id)
  | ret : CmpC P nt .ret .ret

def seqQ (K : St → Prop) (Q : AE → St → Prop) : AE → St → Prop
  | .normal, σ => K σ
  | .exit id, σ => Q (.exit id) σ
  | .ret, σ => Q .ret σ
  | .pan d, σ => Q (.pan d) σ
def blockQ (id : Nat) (Q : AE → St → Prop) : AE → St → Prop
  | .normal, σ => Q .normal σ
  | .exit i, σ => if i = id then Q .normal σ else Q (.exit i) σ
  | .ret, σ => Q .ret σ
  | .pan d, σ => Q (.pan d) σ

/-- What an inlined call may end in. -/
inductive HOut where
  | ret (v : AV)
  | pan (d : D)

/-- Where a piece of code stands: the names that are the callers'; whether it is no round's; the loop whose yield is at hand, and what a call of it asks. -/
structure Cx where
  B : Nat := 0
  top : Bool := true
  l : Nat := 0
  Y : List AV → List (Nat × HO) → (Bool → List (Nat × HO) → Prop) → Prop := fun _ _ _ => False
  C : FuncId → List D → Out → Prop := fun _ _ _ => False

def RepVs (G : Gh) (w : World) (all : List AV) (us : List Value) : Prop := us.length = all.length ∧ ∀ (k : Nat) (c : AV) (u : Value), all[k]? = some c → us[k]? = some u → RepA G w c u

/-- A call of the yield at hand. -/
def HYield (P : Program) (E : Env) (cx : Cx) : Prop :=
  ∀ (ro : Option Nat) (G : Gh) (h : List (Nat × HO)) (w : World) (all : List AV) (vals : List Value) (K : Bool → List (Nat × HO) → Prop), WRel E G (look h) w → RepVs G w all vals → cx.Y all h K →
    YieldAt (Fr ro) 0 P cx.l vals.toArray w fun e w' => ∃ G' h' b, GLe G w G' w' ∧ WRel E G' (look h') w' ∧ e = .returned (.bool b) ∧ K b h'

structure CxOk (P : Program) (E : Env) (cx : Cx) (ro : Option Nat) : Prop where
  B : E.B = cx.B
  y : HYield P E cx
  top : cx.top = true → ro = none
  c : ∀ f ds out, cx.C f ds out → PCall P f ds out

/-- A function that is called with the caller's boxes in sight. -/
def HCall (P : Program) (f : FuncId) (T : Cx → List AV → List (Nat × HO) → (HOut → List (Nat × HO) → Prop) → Prop) : Prop :=
  Callable P f ∧ ∀ (E : Env) (cx : Cx) (G : Gh) (h : List (Nat × HO)) (w : World) (all : List AV) (vals : List Value) (K : HOut → List (Nat × HO) → Prop),
    WRel E G (look h) w → CxOk P E cx none → RepVs G w all vals → T cx all h K →
    Calls P f vals.toArray w fun e w' => ∃ G' h', WRel E G' (look h') w' ∧ match e with
      | .returned v => ∃ av, RepA G' w' av v ∧ K (.ret av) h'
      | .panicked ch => ∃ v d, ch = [{ v := v, recovered := false }] ∧ Rep G'.I w' d v ∧ K (.pan d) h'
      | .outgrown => False

end Go.Proofs.YtfegfnekphobmaaDoor.AL
end

section
namespace Go.Proofs.YtfegfnekphobmaaDoor.AL
open Go

theorem LeD.nil' (a b : Nat) : LeD (.nil a) (.sl b []) := fun _ _ _ h => by
  cases h
  exact .sl ⟨0, 0, none⟩ (fun _ => undef) rfl (by simp) (by simp) (.inr rfl) (by simp) (by simp [D.flat]) (by simp [D.flat]) (by simp [D.flat])

inductive RV where
  | tmp (t : Nat)
  | cell (t sz : Nat) (ag : Bool)
  deriving Inhabited
inductive CmpR (P : Program) : ResultVar → RV → Prop
  | tmp {t} : CmpR P (.tmp t) (.tmp t)
  | cell {t ty i d sz ag} (hi : P.info? ty = some i) (hs : i.size = sz) (hu : P.underlying ty = some d) (hag : d.isRow = ag) : CmpR P (.cell t ty) (.cell t sz ag)

/-- A compact function. -/
structure AF where
  nt : Nat
  body : AC
  res : List RV

structure CmpF (P : Program) (f : FuncId) (fn : AF) : Prop where
  ex : ∃ F c, P.funcs[f]? = some F ∧ (F.name == "runtime.NumGoroutine") = false ∧ F.body = some c ∧ F.ntmps = fn.nt ∧ CmpC P fn.nt c fn.body ∧ All2 (CmpR P) F.results.toList fn.res

def ret1 (σ : St) : RV → Option (Prop × AV)
  | .tmp t => match getS σ.s t with
    | some (g, v) => some (g = true, v)
    | none => none
  | .cell t sz ag => match getS σ.s t with
    | some (g, .ptr n o) => match look σ.h n with
      | some (.box _ cs) => some (g = true ∧ o + sz ≤ cs.length ∧ (ag = false → sz = 1), subA o sz ag cs)
      | _ => none
    | _ => none
def retL (σ : St) : List RV → Option (Prop × List AV)
  | [] => some (True, [])
  | x :: r => match ret1 σ x, retL σ r with
    | some (c, v), some (cs, vs) => some (c ∧ cs, v :: vs)
    | _, _ => none
def retV (σ : St) (l : List RV) : Option (Prop × AV) :=
  match retL σ l with
  | some (c, [v]) => some (c, v)
  | some (c, vs) => some (c, .tup vs)
  | none => none

theorem run_loadVar' {P : Program} {t : TypeId} {ad : Addr} {cs : List Value} {w : World} {i : TypeInfo} {d : TypeDesc} (hc : ∀ j v, cs[j]? = some v → w.cell? (ad.add j) = some v)
    (hi : P.info? t = some i) (hs : i.size = cs.length) (hu : P.underlying t = some d) (h1 : d.isRow = false → cs.length = 1) :
    (loadVar t ad).run P w = .ok (if d.isRow then .agg cs.toArray else cs.headD undef) w := by
  have := run_loadAt' (P := P) hc hi hs hu h1
  simpa [Instr.loadAt, Instr.sureAddr] using this

theorem read_box {E : Env} {G : Gh} {h : Hp} {w : World} (H : WRel E G h w) {n b off sz : Nat} {ag ag' : Bool} {cs : List AV} (hn : h n = some (.box ag' cs)) (hb : G.box n = some b) {P : Program} {t : TypeId} {i : TypeInfo} {d : TypeDesc}
    (hi : P.info? t = some i) (hs : i.size = sz) (hu : P.underlying t = some d) (hag : d.isRow = ag) (hc1 : off + sz ≤ cs.length) (hc2 : ag = false → sz = 1) :
    ∃ v, (loadVar t ⟨b, off, none⟩).run P w = .ok v w ∧ RepA G w (subA off sz ag cs) v := by
  obtain ⟨arr, e1, e2, e3⟩ := H.readBox hn hb
  have hlen : ((arr.toList.drop off).take sz).length = sz := by simp; have := e1.1; omega
  have hrun := run_loadVar' (P := P) (t := t) (ad := ⟨b, off, none⟩) (cs := (arr.toList.drop off).take sz) (w := w) (i := i) (d := d) (fun j v hj => by
    rw [add_mk, e3]
    rw [List.getElem?_take] at hj
    split at hj
    · simpa using hj
    · cases hj) hi (by rw [hlen, hs]) hu (fun hf => by rw [hlen]; exact hc2 (by rw [← hag, hf]))
  refine ⟨_, hrun, ?_⟩
  have hsub : RepAL G w ((cs.drop off).take sz) ((arr.toList.drop off).take sz).toArray := by
    refine ⟨by simp; have := e1.1; omega, fun k c u hk hu => ?_⟩
    rw [List.getElem?_take] at hk
    simp only [List.getElem?_toArray, List.getElem?_take] at hu
    split at hk
    · rename_i hlt
      rw [if_pos hlt] at hu
      rw [List.getElem?_drop] at hk hu
      exact e1.2 _ c u hk (by simpa using hu)
    · cases hk
  cases hag' : ag with
  | true =>
    rw [hag'] at hag
    simp only [hag, if_true, subA]
    exact repA_mkAgg hsub (fun c hc => e2 c (List.mem_of_mem_drop (List.mem_of_mem_take hc)))
  | false =>
    rw [hag'] at hag
    have h1 := hc2 hag'
    subst h1
    simp only [hag, Bool.false_eq_true, if_false, subA]
    have ho : off < cs.length := by omega
    have ho' : off < arr.size := Nat.lt_of_lt_of_le ho e1.1
    have q1 : ((arr.toList.drop off).take 1).headD undef = arr[off] := by
      rw [List.drop_eq_getElem_cons (by simpa using ho')]
      simp
    rw [q1]
    exact e1.2 off _ _ (by simp [List.getD, List.getElem?_eq_getElem ho]) (by simp [ho'])

def resM (tmps : Array Value) : ResultVar → Sem Value
  | .tmp t => pure (tmps.getD t undef)
  | .cell a t => do loadVar t (← asAddr (tmps.getD a undef))

theorem run_resL {E : Env} {G : Gh} {σ : St} {a : Act} {w : World} {nt : Nat} {P : Program} (H : StRel E G σ a w nt) : ∀ {rs : List ResultVar} {l : List RV} {c : Prop} {vs : List AV}, All2 (CmpR P) rs l → retL σ l = some (c, vs) → c →
    ∃ us : List Value, (rs.mapM (resM a.tmps)).run P w = .ok us w ∧ us.length = vs.length ∧ ∀ (k : Nat) (x : AV) (u : Value), vs[k]? = some x → us[k]? = some u → RepA G w x u
  | _, _, c, vs, .nil, h, hc => by
    simp [retL] at h
    obtain ⟨_, rfl⟩ := h
    exact ⟨[], rfl, rfl, fun k x u hk => by simp at hk⟩
  | r :: rs, x :: l, c, vs, .cons h1 h2, h, hc => by
    simp only [retL] at h
    cases e1 : ret1 σ x with
    | none => simp [e1] at h
    | some q1 =>
      obtain ⟨c1, v1⟩ := q1
      cases e2 : retL σ l with
      | none => simp [e1, e2] at h
      | some q2 =>
        obtain ⟨c2, v2⟩ := q2
        simp only [e1, e2, Option.some.injEq, Prod.mk.injEq] at h
        obtain ⟨rfl, rfl⟩ := h
        obtain ⟨us, i1, i2, i3⟩ := run_resL H h2 e2 hc.2
        have hone : ∃ u, (resM a.tmps r).run P w = .ok u w ∧ RepA G w v1 u := by
          cases h1 with
          | tmp =>
            simp only [ret1] at e1
            split at e1 <;> simp only [Option.some.injEq, Prod.mk.injEq, reduceCtorEq] at e1
            rename_i t g v hg
            obtain ⟨rfl, rfl⟩ := e1
            obtain ⟨val, k1, k2, _⟩ := H.sr _ _ hg
            exact ⟨val, by simp [resM, k1], k2 hc.1⟩
          | cell hi hs hu hag =>
            simp only [ret1] at e1
            split at e1 <;> try (simp only [reduceCtorEq] at e1)
            rename_i g n o hg
            split at e1 <;> simp only [Option.some.injEq, Prod.mk.injEq, reduceCtorEq] at e1
            rename_i ag' cs hlk
            obtain ⟨rfl, rfl⟩ := e1
            obtain ⟨val, k1, k2, _⟩ := H.sr _ _ hg
            obtain ⟨b, rfl, hb⟩ := (k2 hc.1.1).ptr_inv
            obtain ⟨v, f1, f2⟩ := read_box H.wr hlk hb hi hs hu hag hc.1.2.1 hc.1.2.2
            exact ⟨v, by simp [resM, k1, asAddr, f1], f2⟩
        obtain ⟨u, k1, k2⟩ := hone
        refine ⟨u :: us, by simp [List.mapM_cons, k1, i1], by simp [i2], fun k y z hk hz => ?_⟩
        cases k with
        | zero => simp at hk hz; subst hk; subst hz; exact k2
        | succ k => exact i3 k y z (by simpa using hk) (by simpa using hz)

theorem run_results {E : Env} {G : Gh} {σ : St} {a : Act} {w : World} {nt : Nat} {P : Program} (H : StRel E G σ a w nt) {F : Func} {l : List RV} {c : Prop} {v : AV} (hr : All2 (CmpR P) F.results.toList l) (h : retV σ l = some (c, v)) (hc : c) :
    ∃ u, (results F a.tmps).run P w = .ok u w ∧ RepA G w v u := by
  unfold retV at h
  have key : ∀ {vs : List AV}, retL σ l = some (c, vs) → ∃ us : List Value, (F.results.mapM (resM a.tmps)).run P w = .ok us.toArray w ∧ us.length = vs.length ∧ ∀ (k : Nat) (x : AV) (u : Value), vs[k]? = some x → us[k]? = some u → RepA G w x u := by
    intro vs hvs
    obtain ⟨us, i1, i2, i3⟩ := run_resL H hr hvs hc
    refine ⟨us, ?_, i2, i3⟩
    have hm := Array.toList_mapM (m := Sem) (xs := F.results) (f := resM a.tmps)
    have : (Functor.map Array.toList (F.results.mapM (resM a.tmps))).run P w = .ok us w := by rw [hm]; exact i1
    rw [Sem.run_map] at this
    cases hx : (F.results.mapM (resM a.tmps)).run P w with
    | ok arr w' =>
      rw [hx] at this
      simp only [Result.andThen_ok, Result.ok.injEq] at this
      obtain ⟨rfl, rfl⟩ := this
      simp
    | halt hh w' => rw [hx] at this; simp at this
  have hres : results F a.tmps = (do let vs ← F.results.mapM (resM a.tmps); pure (if h : vs.size = 1 then vs[0] else .tuple vs)) := by
    unfold results
    congr 1
  split at h <;> simp only [Option.some.injEq, Prod.mk.injEq, reduceCtorEq] at h
  · rename_i c' v' hl
    obtain ⟨rfl, rfl⟩ := h
    obtain ⟨us, i1, i2, i3⟩ := key hl
    match us, i2 with
    | [u], _ =>
      refine ⟨u, ?_, i3 0 _ u rfl rfl⟩
      rw [hres]; simp [Sem.run_bind, i1, Result.andThen_ok]
  · rename_i c' vs hne hl
    obtain ⟨rfl, rfl⟩ := h
    obtain ⟨us, i1, i2, i3⟩ := key hl
    have hsz : us.toArray.size ≠ 1 := by
      intro e
      have : vs.length = 1 := by rw [← i2]; simpa using e
      match vs, this with
      | [x], _ => exact hne x rfl
    refine ⟨.tuple us.toArray, ?_, .tup (by simpa using i2) (fun k x u hk hu => i3 k x u hk (by simpa using hu))⟩
    rw [hres]; simp only [Sem.run_bind, i1, Result.andThen_ok, dif_neg hsz, Sem.run_pure]

def argS : List D → Nat → List (Nat × Bool × AV)
  | [], _ => []
  | d :: r, k => (k, true, .d d) :: argS r (k + 1)

def noRen : Nat → Nat := fun n => n
def noNew : Nat → Option Nat := fun _ => none
def noOk : Nat → Bool := fun _ => false


end Go.Proofs.YtfegfnekphobmaaDoor.AL
end
