/- Part of the proof: AL1, AL2, AL3, AL4, AL5, AL6, AL7, AL8, AL9, AL10, AL22, AL30. -/
import Derived.RangeFuncOwn
import Derived.OrdersIn
import Derived.Laws.AppendOwn
import Derived.Laws.IdiomCopy
import Derived.Deep.MidRow
import Derived.Laws.BytesArg
import Derived.Laws.Tables
import Derived.Great.BuildSlice
import Derived.DeepKeys
import Derived.Laws.StructEq
import Derived.Great.FillDense
import Derived.Laws.Strings2
set_option linter.unnecessarySimpa false
set_option linter.unusedVariables false
set_option linter.unusedSimpArgs false
section
namespace Go.Proofs.Ytbfjmachkbhfnaa.AL
open Go

/-- Immutable data. -/
inductive D where
  | lit (v : Value)
  | nil (sz : Nat)
  | sl (sz : Nat) (es : List D)
  | agg (cs : List D)
  | tup (ds : List D)
  | ip (x : D)
  | fn (f : Fn) (first caps : List D)
  | ifc (t : TypeId) (d : D)
  deriving Inhabited

def D.cells : D → List D
  | .agg cs => cs
  | d => [d]
def D.one : D → Bool
  | .agg _ | .tup _ => false
  | _ => true
def D.flat (es : List D) : List D := es.flatMap D.cells

/-- A value of one cell that leads nowhere. -/
def Sc : Value → Prop
  | .int k n => k.min ≤ n ∧ n ≤ k.max
  | .bool _ => True
  | .string s => s.size ≤ 9223372036854775807
  | .pointer none | .nilFunc | .nilIface | .map none => True
  | _ => False

inductive Rep (I : Addr → Prop) (w : World) : D → Value → Prop
  | lit {v : Value} (h : Sc v) : Rep I w (.lit v) v
  | nil {sz : Nat} : Rep I w (.nil sz) (.slice none 0 0)
  | sl {sz : Nat} {es : List D} {n : Nat} {A : Option Addr} {cap : Nat} (ad : Addr) (vs : Nat → Value) (hn : n = es.length) (hc : n ≤ cap) (hm : cap ≤ 9223372036854775807)
      (hA : A = some ad ∨ es = []) (hz : ∀ e ∈ es, e.cells.length = sz) (h1 : ∀ c ∈ D.flat es, c.one = true)
      (hI : ∀ k c, (D.flat es)[k]? = some c → I (ad.add k) ∧ w.cell? (ad.add k) = some (vs k))
      (hr : ∀ k c, (D.flat es)[k]? = some c → Rep I w c (vs k)) : Rep I w (.sl sz es) (.slice A n cap)
  | agg {cs : List D} {vs : Array Value} (hl : vs.size = cs.length) (h1 : ∀ c ∈ cs, c.one = true)
      (hr : ∀ (k : Nat) (c : D) (v : Value), cs[k]? = some c → vs[k]? = some v → Rep I w c v) : Rep I w (.agg cs) (.agg vs)
  | tup {cs : List D} {vs : Array Value} (hl : vs.size = cs.length)
      (hr : ∀ (k : Nat) (c : D) (v : Value), cs[k]? = some c → vs[k]? = some v → Rep I w c v) : Rep I w (.tup cs) (.tuple vs)
  | ip {x : D} (ad : Addr) (vs : Nat → Value) (h1 : ∀ c ∈ x.cells, c.one = true)
      (hI : ∀ k c, x.cells[k]? = some c → I (ad.add k) ∧ w.cell? (ad.add k) = some (vs k))
      (hr : ∀ (k : Nat) (c : D), x.cells[k]? = some c → Rep I w c (vs k)) : Rep I w (.ip x) (.pointer (some ad))
  | fn {f : Fn} {first caps : List D} {a b : Array Value} (hl : a.size = first.length) (hl' : b.size = caps.length)
      (hr : ∀ (k : Nat) (c : D) (v : Value), first[k]? = some c → a[k]? = some v → Rep I w c v)
      (hr' : ∀ (k : Nat) (c : D) (v : Value), caps[k]? = some c → b[k]? = some v → Rep I w c v) : Rep I w (.fn f first caps) (.func f a b)
  | ifc {t : TypeId} {d : D} {v : Value} (hr : Rep I w d v) : Rep I w (.ifc t d) (.iface t v)

theorem Rep.mono {I I' : Addr → Prop} {w w' : World} {d : D} {v : Value} (h : Rep I w d v) (hk : ∀ a, I a → I' a ∧ w'.cell? a = w.cell? a) : Rep I' w' d v := by
  induction h with
  | lit h => exact .lit h
  | nil => exact .nil
  | sl ad vs hn hc hm hA hz h1 hI hr ih => exact .sl ad vs hn hc hm hA hz h1 (fun k c hkc => ⟨(hk _ (hI k c hkc).1).1, (hk _ (hI k c hkc).1).2.trans (hI k c hkc).2⟩) ih
  | agg hl h1 hr ih => exact .agg hl h1 ih
  | tup hl hr ih => exact .tup hl ih
  | ip ad vs h1 hI hr ih => exact .ip ad vs h1 (fun k c hkc => ⟨(hk _ (hI k c hkc).1).1, (hk _ (hI k c hkc).1).2.trans (hI k c hkc).2⟩) ih
  | fn hl hl' hr hr' ih ih' => exact .fn hl hl' ih ih'
  | ifc hr ih => exact .ifc ih

def RepL (I : Addr → Prop) (w : World) (ds : List D) (vs : Array Value) : Prop :=
  vs.size = ds.length ∧ ∀ (k : Nat) (c : D) (v : Value), ds[k]? = some c → vs[k]? = some v → Rep I w c v

theorem RepL.mono {I I' : Addr → Prop} {w w' : World} {ds : List D} {vs : Array Value} (h : RepL I w ds vs) (hk : ∀ a, I a → I' a ∧ w'.cell? a = w.cell? a) : RepL I' w' ds vs :=
  ⟨h.1, fun k c v h1 h2 => (h.2 k c v h1 h2).mono hk⟩

theorem Rep.oneCell {I : Addr → Prop} {w : World} {d : D} {v : Value} (h : Rep I w d v) (h1 : d.one = true) : v.cells = #[v] ∧ v.oneCell' = true := by
  cases h <;> simp [D.one] at h1 <;> try exact ⟨rfl, rfl⟩
  rename_i hs
  cases v <;> simp [Sc] at hs <;> exact ⟨rfl, rfl⟩

/-- The cells of a datum stand for the cells of its value. -/
theorem Rep.cells {I : Addr → Prop} {w : World} {d : D} {v : Value} (h : Rep I w d v) (ht : ∀ ds, d ≠ .tup ds) : RepL I w d.cells v.cells ∧ ∀ c ∈ d.cells, c.one = true := by
  cases hd : d.one with
  | true =>
    have hv := (h.oneCell hd).1
    have hc : d.cells = [d] := by cases d <;> first | rfl | simp [D.one] at hd
    rw [hv, hc]
    refine ⟨⟨rfl, fun k c u h1 h2 => ?_⟩, fun c hc' => by simp at hc'; rw [hc']; exact hd⟩
    cases k with
    | zero => simp at h1 h2; subst h1; subst h2; exact h
    | succ k => simp at h1
  | false =>
    cases h <;> simp [D.one] at hd
    · rename_i cs vs hl h1 hr; exact ⟨⟨hl, hr⟩, h1⟩
    · exact absurd rfl (ht _)

/-- The machine's own values: data; slices that may grow in place; structs of such; pointers to local boxes. -/
inductive AV where
  | d (x : D)
  | own (r sz : Nat) (es : List D)
  | agg (cs : List AV)
  | tup (vs : List AV)
  | ptr (n o : Nat)
  | bsl (n o sz len cap : Nat)
  | fn (f : Fn) (first caps : List AV)
  deriving Inhabited

def AV.cells : AV → List AV
  | .d x => x.cells.map .d
  | .agg cs => cs
  | v => [v]
def AV.one : AV → Bool
  | .d x => x.one
  | .agg _ | .tup _ => false
  | _ => true

inductive HO where
  | box (ag : Bool) (cs : List AV)
  | row
  | obj (s : Nat)
  | dead
  deriving Inhabited

abbrev Hp := Nat → Option HO
def Hp.upd (h : Hp) : List (Nat × HO) → Hp
  | [] => h
  | (n, o) :: r => fun m => if m = n then some o else Hp.upd h r m

/-- What the proof knows of memory: which cells are never written again; where a box lies; which slice an owned row is. -/
structure Gh where
  I : Addr → Prop
  box : Nat → Option Nat
  row : Nat → Option (Option Addr × Nat × Nat × Nat)
  rc : Nat → Loop := fun _ => default

inductive RepA (G : Gh) (w : World) : AV → Value → Prop
  | d {x : D} {v : Value} (h : Rep G.I w x v) : RepA G w (.d x) v
  | own {r sz : Nat} {es : List D} {A : Option Addr} {n cap : Nat} (hg : G.row r = some (A, n, cap, sz)) (h : Rep G.I w (.sl sz es) (.slice A n cap)) : RepA G w (.own r sz es) (.slice A n cap)
  | agg {cs : List AV} {vs : Array Value} (hl : vs.size = cs.length) (h1 : ∀ c ∈ cs, c.one = true)
      (hr : ∀ (k : Nat) (c : AV) (v : Value), cs[k]? = some c → vs[k]? = some v → RepA G w c v) : RepA G w (.agg cs) (.agg vs)
  | tup {cs : List AV} {vs : Array Value} (hl : vs.size = cs.length)
      (hr : ∀ (k : Nat) (c : AV) (v : Value), cs[k]? = some c → vs[k]? = some v → RepA G w c v) : RepA G w (.tup cs) (.tuple vs)
  | ptr {n o b : Nat} (hg : G.box n = some b) : RepA G w (.ptr n o) (.pointer (some ⟨b, o, none⟩))
  | bsl {n o z l c b : Nat} (hg : G.box n = some b) (hlc : l ≤ c) (hcm : c ≤ 9223372036854775807) : RepA G w (.bsl n o z l c) (.slice (some ⟨b, o, none⟩) l c)
  | fn {f : Fn} {first caps : List AV} {a b : Array Value} (hl : a.size = first.length) (hl' : b.size = caps.length)
      (hr : ∀ (k : Nat) (c : AV) (v : Value), first[k]? = some c → a[k]? = some v → RepA G w c v)
      (hr' : ∀ (k : Nat) (c : AV) (v : Value), caps[k]? = some c → b[k]? = some v → RepA G w c v) : RepA G w (.fn f first caps) (.func f a b)

/-- More is known, and what was known stands. -/
structure GLe (G : Gh) (w : World) (G' : Gh) (w' : World) : Prop where
  imm : ∀ a, G.I a → G'.I a ∧ w'.cell? a = w.cell? a
  box : ∀ n b, G.box n = some b → G'.box n = some b
  row : ∀ n r, G.row n = some r → G'.row n = some r
  rc : ∀ n b, G.box n = some b → G'.rc n = G.rc n

theorem GLe.refl (G : Gh) (w : World) : GLe G w G w := ⟨fun _ h => ⟨h, rfl⟩, fun _ _ h => h, fun _ _ h => h, fun _ _ _ => rfl⟩
theorem GLe.trans {G G' G'' : Gh} {w w' w'' : World} (h : GLe G w G' w') (k : GLe G' w' G'' w'') : GLe G w G'' w'' :=
  ⟨fun a ha => ⟨(k.imm a (h.imm a ha).1).1, (k.imm a (h.imm a ha).1).2.trans (h.imm a ha).2⟩, fun n b hb => k.box n b (h.box n b hb), fun n r hr => k.row n r (h.row n r hr), fun n b hb => (k.rc n b (h.box n b hb)).trans (h.rc n b hb)⟩

theorem RepA.mono {G G' : Gh} {w w' : World} {x : AV} {v : Value} (h : RepA G w x v) (hk : GLe G w G' w') : RepA G' w' x v := by
  induction h with
  | d h => exact .d (h.mono hk.imm)
  | own hg h => exact .own (hk.row _ _ hg) (h.mono hk.imm)
  | agg hl h1 hr ih => exact .agg hl h1 ih
  | tup hl hr ih => exact .tup hl ih
  | ptr hg => exact .ptr (hk.box _ _ hg)
  | bsl hg h1 h2 => exact .bsl (hk.box _ _ hg) h1 h2
  | fn hl hl' hr hr' ih ih' => exact .fn hl hl' ih ih'

theorem RepA.oneCell {G : Gh} {w : World} {x : AV} {v : Value} (h : RepA G w x v) (h1 : x.one = true) : v.cells = #[v] ∧ v.oneCell' = true := by
  cases h <;> simp [AV.one] at h1 <;> try exact ⟨rfl, rfl⟩
  rename_i h; exact h.oneCell h1

def RepAL (G : Gh) (w : World) (ds : List AV) (vs : Array Value) : Prop :=
  vs.size = ds.length ∧ ∀ (k : Nat) (c : AV) (v : Value), ds[k]? = some c → vs[k]? = some v → RepA G w c v

theorem RepAL.mono {G G' : Gh} {w w' : World} {ds : List AV} {vs : Array Value} (h : RepAL G w ds vs) (hk : GLe G w G' w') : RepAL G' w' ds vs :=
  ⟨h.1, fun k c v h1 h2 => (h.2 k c v h1 h2).mono hk⟩

def AV.noTup : AV → Bool
  | .d (.tup _) | .tup _ => false
  | _ => true

theorem RepA.cells {G : Gh} {w : World} {x : AV} {v : Value} (h : RepA G w x v) (ht : x.noTup = true) : RepAL G w x.cells v.cells ∧ ∀ c ∈ x.cells, c.one = true := by
  cases h with
  | d h =>
    rename_i y
    have hc := h.cells (fun ds e => by subst e; simp [AV.noTup] at ht)
    refine ⟨⟨by simp [AV.cells, hc.1.1], fun k c v h1 h2 => ?_⟩, fun c hc' => ?_⟩
    · simp only [AV.cells, List.getElem?_map, Option.map_eq_some_iff] at h1
      obtain ⟨e, he, rfl⟩ := h1
      exact .d (hc.1.2 k e v he h2)
    · simp only [AV.cells, List.mem_map] at hc'
      obtain ⟨e, he, rfl⟩ := hc'
      exact hc.2 e he
  | agg hl h1 hr => exact ⟨⟨hl, hr⟩, h1⟩
  | tup hl hr => simp [AV.noTup] at ht
  | own hg h => exact ⟨⟨rfl, fun k c v h1 h2 => by
      cases k <;> simp [AV.cells, Value.cells] at h1 h2; subst h1; subst h2; exact .own hg h⟩, fun c hc => by simp [AV.cells] at hc; subst hc; rfl⟩
  | ptr hg => exact ⟨⟨rfl, fun k c v h1 h2 => by
      cases k <;> simp [AV.cells, Value.cells] at h1 h2; subst h1; subst h2; exact .ptr hg⟩, fun c hc => by simp [AV.cells] at hc; subst hc; rfl⟩
  | bsl hg q1 q2 => exact ⟨⟨rfl, fun k c v h1 h2 => by
      cases k <;> simp [AV.cells, Value.cells] at h1 h2; subst h1; subst h2; exact .bsl hg q1 q2⟩, fun c hc => by simp [AV.cells] at hc; subst hc; rfl⟩
  | fn hl hl' hr hr' => exact ⟨⟨rfl, fun k c v h1 h2 => by
      cases k <;> simp [AV.cells, Value.cells] at h1 h2; subst h1; subst h2; exact .fn hl hl' hr hr'⟩, fun c hc => by simp [AV.cells] at hc; subst hc; rfl⟩

/-- Where a walk began: the world; the cells that were never to be written; the blocks that are to stay as they are. -/
structure Env where
  w0 : World
  I0 : Addr → Prop
  K : Nat → Prop
  B : Nat := 0
  Gb : Gh
  wb : World

/-- The book-keeping objects of a range over a function, by their state: the block of deferred calls, empty; the loop's record: ready, busy, left by a jump. -/
def objOf (r : Loop) : Nat → Obj
  | 0 => .deferred (some [])
  | 1 => .loop { r with state := .ready, pending := none }
  | 2 => .loop { r with state := .busy, pending := none }
  | 3 => .loop { r with state := .done, pending := some .ret }
  | s + 4 => .loop { r with state := .done, pending := some (.exit s) }

/-- The free cells of an owned row. -/
def Tail (E : Env) (G : Gh) (w : World) (A : Option Addr) (n cap sz : Nat) : Prop :=
  ∀ k, n * sz ≤ k → k < cap * sz → ∃ ad, A = some ad ∧ (w.cell? (ad.add k)).isSome = true ∧ w.frozen? (ad.add k) = false ∧ ¬ G.I (ad.add k) ∧ (¬ E.K ad.block ∧ E.w0.heap.size ≤ ad.block) ∧ (∀ m, G.box m ≠ some ad.block)

structure WRel (E : Env) (G : Gh) (h : Hp) (w : World) : Prop where
  os : w.os = E.w0.os
  tape : w.tape = E.w0.tape
  output : w.output = E.w0.output
  size : E.w0.heap.size ≤ w.heap.size
  kept : ∀ b, E.K b → b < E.w0.heap.size ∧ w.heap[b]? = E.w0.heap[b]?
  i0 : ∀ a, E.I0 a → G.I a ∧ w.cell? a = E.w0.cell? a
  inew : ∀ a, G.I a → E.I0 a ∨ E.w0.heap.size ≤ a.block
  icell : ∀ a, G.I a → (w.cell? a).isSome = true
  fresh : ∀ n, h n = none → G.box n = none ∧ G.row n = none
  box : ∀ n ag cs, h n = some (.box ag cs) → ∃ b arr ty, G.box n = some b ∧ w.heap[b]? = some (.cells arr ty (0, 0)) ∧ RepAL G w cs arr ∧ ∀ c ∈ cs, c.one = true
  bown : ∀ n b, G.box n = some b → b < w.heap.size ∧ ¬ E.K b ∧ ∀ a, a.block = b → ¬ G.I a
  binj : ∀ n m b, G.box n = some b → G.box m = some b → n = m
  row : ∀ r, h r = some .row → ∃ A n cap sz, G.row r = some (A, n, cap, sz) ∧ Tail E G w A n cap sz
  rinj : ∀ r r' A n cap sz A' n' cap' sz', h r = some .row → h r' = some .row → G.row r = some (A, n, cap, sz) → G.row r' = some (A', n', cap', sz') →
    n * sz < cap * sz → n' * sz' < cap' * sz' → ∀ ad ad', A = some ad → A' = some ad' → ad.block = ad'.block → r = r'
  obj : ∀ n s, h n = some (.obj s) → ∃ b, G.box n = some b ∧ w.heap[b]? = some (objOf (G.rc n) s)
  gb : GLe E.Gb E.wb G w
  gB : (∀ n b, E.Gb.box n = some b → n < E.B) ∧ ∀ n r, E.Gb.row n = some r → n < E.B

theorem WRel.ilt {E : Env} {G : Gh} {h : Hp} {w : World} (H : WRel E G h w) {a : Addr} (ha : G.I a) : a.block < w.heap.size := by
  obtain ⟨v, hv⟩ := Option.isSome_iff_exists.1 (H.icell a ha)
  exact World.block_lt_of_cell? w a hv

/-- The world has grown; what was there stands. -/
structure Grow (w w' : World) : Prop where
  os : w'.os = w.os
  tape : w'.tape = w.tape
  output : w'.output = w.output
  size : w.heap.size ≤ w'.heap.size
  block : ∀ b, b < w.heap.size → w'.heap[b]? = w.heap[b]?

theorem Grow.refl (w : World) : Grow w w := ⟨rfl, rfl, rfl, Nat.le_refl _, fun _ _ => rfl⟩
theorem Grow.alloc (w : World) (o : Obj) : Grow w (w.alloc o) := ⟨rfl, rfl, rfl, by simp, fun b hb => heap_alloc_old w o b hb⟩
theorem Grow.drew {w w' : World} (h : Grow w w') : Grow w w'.drew := ⟨h.os, h.tape, h.output, h.size, h.block⟩
theorem Grow.cell {w w' : World} (g : Grow w w') {a : Addr} (ha : a.block < w.heap.size) : w'.cell? a = w.cell? a := World.cell?_of_block (g.block _ ha)
theorem Grow.frozen {w w' : World} (g : Grow w w') {a : Addr} (ha : a.block < w.heap.size) : w'.frozen? a = w.frozen? a := World.frozen?_of_block (g.block _ ha)

theorem block_add (a : Addr) (n : Nat) : (a.add n).block = a.block := by unfold Addr.add; split <;> rfl
theorem add_add (a : Addr) (i j : Nat) : (a.add i).add j = a.add (i + j) := by
  unfold Addr.add
  by_cases hi : i = 0 <;> by_cases hj : j = 0 <;> simp [hi, hj, Nat.add_assoc]
theorem add_mk (b o k : Nat) : (⟨b, o, none⟩ : Addr).add k = ⟨b, o + k, none⟩ := Addr.add_mid b o k

/-- Growth keeps all; new cells may be declared immutable. -/
theorem WRel.grow {E : Env} {G : Gh} {h : Hp} {w w' : World} (H : WRel E G h w) (g : Grow w w') (I' : Addr → Prop) (hI : ∀ a, G.I a → I' a)
    (hn : ∀ a, I' a → G.I a ∨ w.heap.size ≤ a.block) (hc : ∀ a, I' a → (w'.cell? a).isSome = true) :
    GLe G w { G with I := I' } w' ∧ WRel E { G with I := I' } h w' := by
  have hle : GLe G w { G with I := I' } w' := ⟨fun a ha => ⟨hI a ha, g.cell (H.ilt ha)⟩, fun _ _ h => h, fun _ _ h => h, fun _ _ _ => rfl⟩
  refine ⟨hle, ⟨g.os.trans H.os, g.tape.trans H.tape, g.output.trans H.output, Nat.le_trans H.size g.size, fun b hb => ?_, fun a ha => ?_, fun a ha => ?_, hc, H.fresh, fun n ag cs hn' => ?_, fun n b hb => ?_, H.binj, fun r hr => ?_, H.rinj, fun n s hn' => (by
    obtain ⟨b, e1, e2⟩ := H.obj n s hn'
    exact ⟨b, e1, (g.block b (H.bown n b e1).1).trans e2⟩), H.gb.trans hle, H.gB⟩⟩
  · obtain ⟨h1, h2⟩ := H.kept b hb
    exact ⟨h1, (g.block b (Nat.lt_of_lt_of_le h1 H.size)).trans h2⟩
  · obtain ⟨h1, h2⟩ := H.i0 a ha
    exact ⟨hI a h1, (g.cell (H.ilt h1)).trans h2⟩
  · rcases hn a ha with h1 | h1
    · exact H.inew a h1
    · exact .inr (Nat.le_trans H.size h1)
  · obtain ⟨b, arr, ty, h1, h2, h3, h4⟩ := H.box n ag cs hn'
    exact ⟨b, arr, ty, h1, (g.block b (H.bown n b h1).1).trans h2, h3.mono hle, h4⟩
  · obtain ⟨h1, h2, h3⟩ := H.bown n b hb
    refine ⟨Nat.lt_of_lt_of_le h1 g.size, h2, fun a e ha => ?_⟩
    rcases hn a ha with h4 | h4
    · exact h3 a e h4
    · omega
  · obtain ⟨A, n, cap, sz, h1, h2⟩ := H.row r hr
    refine ⟨A, n, cap, sz, h1, fun k hk hk' => ?_⟩
    obtain ⟨ad, e, c1, c2, c3, c4, c5⟩ := h2 k hk hk'
    have hlt : (ad.add k).block < w.heap.size := by
      obtain ⟨v, hv⟩ := Option.isSome_iff_exists.1 c1
      exact World.block_lt_of_cell? w _ hv
    refine ⟨ad, e, by rw [g.cell hlt]; exact c1, by rw [g.frozen hlt]; exact c2, fun hi => ?_, c4, c5⟩
    rcases hn _ hi with h4 | h4
    · exact c3 h4
    · omega

/-- A new box. -/
theorem WRel.newBox {E : Env} {G : Gh} {h : Hp} {w : World} (H : WRel E G h w) {n : Nat} (hn : h n = none) (ag : Bool) {cs : List AV} {arr : Array Value} (ty : TypeId) (hr : RepAL G w cs arr) (h1 : ∀ c ∈ cs, c.one = true) :
    GLe G w { G with box := fun m => if m = n then some w.heap.size else G.box m } (w.alloc (.cells arr ty)) ∧
    WRel E { G with box := fun m => if m = n then some w.heap.size else G.box m } (h.upd [(n, .box ag cs)]) (w.alloc (.cells arr ty)) := by
  have g := Grow.alloc w (.cells arr ty)
  obtain ⟨hb0, hr0⟩ := H.fresh n hn
  have hle : GLe G w { G with box := fun m => if m = n then some w.heap.size else G.box m } (w.alloc (.cells arr ty)) :=
    ⟨fun a ha => ⟨ha, g.cell (H.ilt ha)⟩, fun m b hb => by
      dsimp only
      split
      · rename_i e; subst e; rw [hb0] at hb; cases hb
      · exact hb, fun _ _ h => h, fun _ _ _ => rfl⟩
  refine ⟨hle, ⟨H.os, H.tape, H.output, Nat.le_trans H.size g.size, fun b hb => ?_, fun a ha => ?_, H.inew, fun a ha => ?_, fun m hm => ?_, fun m ag' cs' hm => ?_, fun m b hb => ?_, fun m m' b hm hm' => ?_, fun r hr' => ?_, fun r r' A k cap sz A' k' cap' sz' hr1 hr2 => ?_, fun m s hm => (by
    simp only [Hp.upd] at hm
    split at hm
    · injection hm with hm; cases hm
    · rename_i hne
      obtain ⟨b, e1, e2⟩ := H.obj m s hm
      exact ⟨b, by dsimp only; rw [if_neg hne]; exact e1, (g.block b (H.bown m b e1).1).trans e2⟩), H.gb.trans hle, H.gB⟩⟩
  · obtain ⟨h1, h2⟩ := H.kept b hb
    exact ⟨h1, (g.block b (Nat.lt_of_lt_of_le h1 H.size)).trans h2⟩
  · obtain ⟨h1, h2⟩ := H.i0 a ha
    exact ⟨h1, (g.cell (H.ilt h1)).trans h2⟩
  · rw [g.cell (H.ilt ha)]; exact H.icell a ha
  · simp only [Hp.upd] at hm
    split at hm
    · cases hm
    · rename_i hne; dsimp only; rw [if_neg hne]; exact H.fresh m hm
  · simp only [Hp.upd] at hm
    dsimp only
    split at hm
    · rename_i e
      injection hm with hm; injection hm with _ hm; subst hm
      rw [if_pos e]
      exact ⟨w.heap.size, arr, ty, rfl, heap_alloc_new w _, hr.mono hle, h1⟩
    · rename_i hne
      rw [if_neg hne]
      obtain ⟨b, arr', ty', e1, e2, e3, e4⟩ := H.box m ag' cs' hm
      exact ⟨b, arr', ty', e1, (g.block b (H.bown m b e1).1).trans e2, e3.mono hle, e4⟩
  · dsimp only at hb ⊢
    split at hb
    · injection hb with hb; subst hb
      refine ⟨by simp, fun hk => ?_, fun a e ha => ?_⟩
      · have := (H.kept _ hk).1; have := H.size; omega
      · have := H.ilt ha; omega
    · obtain ⟨e1, e2, e3⟩ := H.bown m b hb
      exact ⟨by simp; omega, e2, e3⟩
  · dsimp only at hm hm'
    split at hm
    · split at hm'
      · rename_i e e'; rw [e, e']
      · injection hm with hm; have := (H.bown m' b hm').1; omega
    · split at hm'
      · injection hm' with hm'; have := (H.bown m b hm).1; omega
      · exact H.binj m m' b hm hm'
  · simp only [Hp.upd] at hr'
    split at hr'
    · injection hr' with hr'; cases hr'
    · obtain ⟨A, k, cap, sz, e1, e2⟩ := H.row r hr'
      refine ⟨A, k, cap, sz, e1, fun j hj hj' => ?_⟩
      obtain ⟨ad, e, c1, c2, c3, c4, c5⟩ := e2 j hj hj'
      have hlt : (ad.add j).block < w.heap.size := by
        obtain ⟨v, hv⟩ := Option.isSome_iff_exists.1 c1
        exact World.block_lt_of_cell? w _ hv
      refine ⟨ad, e, by rw [g.cell hlt]; exact c1, by rw [g.frozen hlt]; exact c2, c3, c4, fun m hm => ?_⟩
      dsimp only at hm
      split at hm
      · injection hm with hm; rw [block_add] at hlt; omega
      · exact c5 m hm
  · simp only [Hp.upd] at hr1 hr2
    split at hr1
    · injection hr1 with hr1; cases hr1
    · split at hr2
      · injection hr2 with hr2; cases hr2
      · exact H.rinj r r' A k cap sz A' k' cap' sz' hr1 hr2

end Go.Proofs.Ytbfjmachkbhfnaa.AL
end

section
namespace Go.Proofs.Ytbfjmachkbhfnaa.AL
open Go

theorem upd_nil (h : Hp) : h.upd [] = h := rfl
theorem upd_one (h : Hp) (n : Nat) (o : HO) (m : Nat) : (h.upd [(n, o)]) m = if m = n then some o else h m := rfl

/-- A cell of a box is written. -/
theorem WRel.setBox {E : Env} {G : Gh} {h : Hp} {w : World} (H : WRel E G h w) {n b o : Nat} {ag : Bool} {cs : List AV} (hn : h n = some (.box ag cs)) (hb : G.box n = some b)
    {c : AV} {v : Value} (hc : RepA G w c v) (h1 : c.one = true) (ho : o < cs.length) :
    (w.cell? ⟨b, o, none⟩).isSome = true ∧ w.frozen? ⟨b, o, none⟩ = false ∧
    GLe G w G (w.setCell ⟨b, o, none⟩ v) ∧ WRel E G (h.upd [(n, .box ag (cs.set o c))]) (w.setCell ⟨b, o, none⟩ v) := by
  obtain ⟨b', arr, ty, e1, e2, e3, e4⟩ := H.box n ag cs hn
  have hbb : b' = b := by rw [hb] at e1; injection e1 with e1; exact e1.symm
  subst hbb
  obtain ⟨hlt, hK, hI⟩ := H.bown n b' hb
  have hsz : o < arr.size := by rw [e3.1]; exact ho
  have hblk : ∀ k, k ≠ b' → (w.setCell ⟨b', o, none⟩ v).heap[k]? = w.heap[k]? := fun k hk => by
    simp only [World.setCell, Array.getElem?_modify]
    rw [if_neg (by omega)]
  have hnew : (w.setCell ⟨b', o, none⟩ v).heap[b']? = some (.cells (arr.setIfInBounds o v) ty (0, 0)) := by
    simp [World.setCell, Array.getElem?_modify, e2]
  have hcellne : ∀ a : Addr, a.block ≠ b' → (w.setCell ⟨b', o, none⟩ v).cell? a = w.cell? a := fun a ha => World.cell?_of_block (hblk _ ha)
  have hfrne : ∀ a : Addr, a.block ≠ b' → (w.setCell ⟨b', o, none⟩ v).frozen? a = w.frozen? a := fun a ha => World.frozen?_of_block (hblk _ ha)
  have hIne : ∀ a, G.I a → a.block ≠ b' := fun a ha e => hI a e ha
  have hle : GLe G w G (w.setCell ⟨b', o, none⟩ v) := ⟨fun a ha => ⟨ha, hcellne a (hIne a ha)⟩, fun _ _ h => h, fun _ _ h => h, fun _ _ _ => rfl⟩
  refine ⟨by simp [World.cell?, e2, hsz], by simp [World.frozen?, e2], hle, ⟨H.os, H.tape, H.output, by simpa [World.setCell] using H.size, fun k hk => ?_, fun a ha => ?_, H.inew, fun a ha => ?_, fun m hm => ?_, fun m ag' cs' hm => ?_, fun m b hb' => ?_, H.binj, fun r hr => ?_, fun r r' A k cap sz A' k' cap' sz' hr1 hr2 => ?_, fun m s hm => (by
    simp only [Hp.upd] at hm
    split at hm
    · injection hm with hm; cases hm
    · rename_i hne
      obtain ⟨b2, f1, f2⟩ := H.obj m s hm
      exact ⟨b2, f1, (hblk b2 (fun e => hne (H.binj m n b' (e ▸ f1) hb))).trans f2⟩), H.gb.trans hle, H.gB⟩⟩
  · obtain ⟨h1', h2'⟩ := H.kept k hk
    exact ⟨h1', (hblk k (fun e => hK (e ▸ hk))).trans h2'⟩
  · obtain ⟨h1', h2'⟩ := H.i0 a ha
    exact ⟨h1', (hcellne a (hIne a h1')).trans h2'⟩
  · rw [hcellne a (hIne a ha)]; exact H.icell a ha
  · simp only [Hp.upd] at hm
    split at hm
    · cases hm
    · exact H.fresh m hm
  · simp only [Hp.upd] at hm
    split at hm
    · rename_i e
      injection hm with hm; injection hm with _ hm; subst hm; subst e
      refine ⟨b', _, ty, hb, hnew, ⟨by simp [e3.1], fun k c' u hk hu => ?_⟩, fun c' hc' => ?_⟩
      · simp only [List.getElem?_set] at hk
        simp only [Array.getElem?_setIfInBounds] at hu
        by_cases hko : o = k
        · subst hko
          simp only [ho, hsz, if_true] at hk hu
          injection hk with hk; injection hu with hu; subst hk; subst hu
          exact hc.mono hle
        · simp only [hko, if_false] at hk hu
          exact (e3.2 k c' u hk hu).mono hle
      · rcases List.mem_or_eq_of_mem_set hc' with h' | h'
        · exact e4 c' h'
        · rw [h']; exact h1
    · rename_i hne
      obtain ⟨b2, arr', ty', f1, f2, f3, f4⟩ := H.box m ag' cs' hm
      refine ⟨b2, arr', ty', f1, (hblk b2 (fun e => hne (H.binj m n b' (e ▸ f1) hb))).trans f2, f3.mono hle, f4⟩
  · obtain ⟨f1, f2, f3⟩ := H.bown m b hb'
    exact ⟨by simpa [World.setCell] using f1, f2, f3⟩
  · simp only [Hp.upd] at hr
    split at hr
    · injection hr with hr; cases hr
    · obtain ⟨A, k, cap, sz, f1, f2⟩ := H.row r hr
      refine ⟨A, k, cap, sz, f1, fun j hj hj' => ?_⟩
      obtain ⟨ad, e, c1, c2, c3, c4, c5⟩ := f2 j hj hj'
      have hne : (ad.add j).block ≠ b' := by rw [block_add]; exact fun e => c5 n (e ▸ hb)
      exact ⟨ad, e, by rw [hcellne _ hne]; exact c1, by rw [hfrne _ hne]; exact c2, c3, c4, c5⟩
  · simp only [Hp.upd] at hr1 hr2
    split at hr1
    · injection hr1 with hr1; cases hr1
    · split at hr2
      · injection hr2 with hr2; cases hr2
      · exact H.rinj r r' A k cap sz A' k' cap' sz' hr1 hr2

def setAt (cs : List AV) (o : Nat) : List AV → List AV
  | [] => cs
  | c :: r => setAt (cs.set o c) (o + 1) r

theorem upd_same (h : Hp) (n : Nat) (x y : HO) : (h.upd [(n, x)]).upd [(n, y)] = h.upd [(n, y)] := by
  funext m; simp only [Hp.upd]; split <;> rfl

/-- A run of cells of a box is written. -/
theorem WRel.setBoxes {E : Env} {G : Gh} {n b : Nat} {ag : Bool} (P : Program) : ∀ (news : List AV) (vs : List Value) (o i : Nat) (h : Hp) (w : World) (cs : List AV), WRel E G h w → h n = some (.box ag cs) → G.box n = some b →
    vs.length = news.length → (∀ (k : Nat) (c : AV) (v : Value), news[k]? = some c → vs[k]? = some v → RepA G w c v ∧ c.one = true) → o + i + news.length ≤ cs.length →
    ∃ w', (storeCells ⟨b, o, none⟩ vs i).run P w = .ok () w' ∧ GLe G w G w' ∧ WRel E G (h.upd [(n, .box ag (setAt cs (o + i) news))]) w'
  | [], vs, o, i, h, w, cs, H, hn, hb, hl, hr, ho => by
    have : vs = [] := List.eq_nil_of_length_eq_zero (by simpa using hl)
    subst this
    refine ⟨w, rfl, GLe.refl G w, ?_⟩
    have e : h.upd [(n, .box ag (setAt cs (o + i) []))] = h := by
      funext m; simp only [Hp.upd, setAt]; split
      · rename_i e; subst e; exact hn.symm
      · rfl
    rw [e]; exact H
  | c :: r, vs, o, i, h, w, cs, H, hn, hb, hl, hr, ho => by
    cases vs with
    | nil => simp at hl
    | cons v vr =>
      obtain ⟨hc, h1⟩ := hr 0 c v rfl rfl
      simp only [List.length_cons] at ho hl
      obtain ⟨s1, s2, s3, s4⟩ := H.setBox (o := o + i) hn hb hc h1 (by omega)
      have hone := (hc.oneCell h1).2
      have hst : (store ((⟨b, o, none⟩ : Addr).add i) v).run P w = .ok () (w.setCell ⟨b, o + i, none⟩ v) := by
        rw [add_mk, run_store P w _ v _ hone]
        obtain ⟨u, hu⟩ := Option.isSome_iff_exists.1 s1
        simp [hu, s2]
      obtain ⟨w', e1, e2, e3⟩ := WRel.setBoxes (ag := ag) P r vr o (i + 1) (h.upd [(n, .box ag (cs.set (o + i) c))]) (w.setCell ⟨b, o + i, none⟩ v) (cs.set (o + i) c) s4 (by simp [Hp.upd]) hb (by omega)
        (fun k c' u hk hu => ⟨((hr (k + 1) c' u hk hu).1).mono s3, (hr (k + 1) c' u hk hu).2⟩) (by simp; omega)
      refine ⟨w', ?_, s3.trans e2, ?_⟩
      · simp only [storeCells, Sem.run_bind, hst, Result.andThen_ok, e1]
      · rw [upd_same] at e3
        rw [show o + (i + 1) = o + i + 1 by omega] at e3
        exact e3

/-- The cells that a box holds are read. -/
theorem WRel.readBox {E : Env} {G : Gh} {h : Hp} {w : World} (H : WRel E G h w) {n b : Nat} {ag : Bool} {cs : List AV} (hn : h n = some (.box ag cs)) (hb : G.box n = some b) :
    ∃ arr : Array Value, RepAL G w cs arr ∧ (∀ c ∈ cs, c.one = true) ∧ ∀ k, w.cell? ⟨b, k, none⟩ = arr[k]? := by
  obtain ⟨b', arr, ty, e1, e2, e3, e4⟩ := H.box n ag cs hn
  have hbb : b' = b := by rw [hb] at e1; injection e1 with e1; exact e1.symm
  subst hbb
  exact ⟨arr, e3, e4, fun k => by simp [World.cell?, e2]⟩

def allD : List AV → Option (List D)
  | [] => some []
  | .d x :: r => (allD r).map (x :: ·)
  | _ :: _ => none
def mkAgg (cs : List AV) : AV :=
  match allD cs with
  | some ds => .d (.agg ds)
  | none => .agg cs

theorem allD_eq : ∀ {cs : List AV} {ds : List D}, allD cs = some ds → cs = ds.map .d
  | [], ds, h => by simp [allD] at h; subst h; rfl
  | .d x :: r, ds, h => by
    simp only [allD, Option.map_eq_some_iff] at h
    obtain ⟨e, he, rfl⟩ := h
    rw [List.map_cons, ← allD_eq he]
  | .own _ _ _ :: _, _, h => by simp [allD] at h
  | .agg _ :: _, _, h => by simp [allD] at h
  | .tup _ :: _, _, h => by simp [allD] at h
  | .ptr _ _ :: _, _, h => by simp [allD] at h
  | .bsl _ _ _ _ _ :: _, _, h => by simp [allD] at h
  | .fn _ _ _ :: _, _, h => by simp [allD] at h

theorem RepA.of_d {G : Gh} {w : World} {x : D} {v : Value} (h : RepA G w (.d x) v) : Rep G.I w x v := by cases h; assumption

theorem repA_mkAgg {G : Gh} {w : World} {cs : List AV} {vs : Array Value} (h : RepAL G w cs vs) (h1 : ∀ c ∈ cs, c.one = true) : RepA G w (mkAgg cs) (.agg vs) := by
  unfold mkAgg
  cases he : allD cs with
  | none => exact .agg h.1 h1 h.2
  | some ds =>
    have e := allD_eq he
    subst e
    refine .d (.agg (by simpa using h.1) (fun c hc => h1 (.d c) (by simp; exact hc)) (fun k c v hk hv => ?_))
    exact (h.2 k (.d c) v (by simp [hk]) hv).of_d

end Go.Proofs.Ytbfjmachkbhfnaa.AL
end

section
namespace Go.Proofs.Ytbfjmachkbhfnaa.AL
open Go

/-- A compact operand. -/
inductive Opd where
  | tmp (t : Nat)
  | dat (d : D)
  deriving Inhabited

inductive CO : Operand → Opd → Prop
  | tmp (t : Nat) : CO (.tmp t) (.tmp t)
  | dat (x : Operand) (d : D) (h : ∀ (a : Act) (I : Addr → Prop) (w : World), Rep I w d (a.eval x)) : CO x (.dat d)

def EvO (G : Gh) (w : World) (a : Act) (x' : Opd) (av : AV) : Prop := ∀ x, CO x x' → RepA G w av (a.eval x)

/-- The kind of a plain cell. -/
inductive SK where
  | int (k : IntKind)
  | bool
  | str
  deriving Inhabited, DecidableEq

/-- Further operations. -/
inductive Ext where
  | eqrow (neg : Bool) (ks : List SK)
  | sliceA (n sz : Nat)
  | bytesStr
  | eqBool (neg : Bool)
  | isNil (neg : Bool)
  | strIdx
  | shift (left : Bool)
  | uneg
  | ucompl
  | tassert (t : TypeId) (z : D)
  | nilChk
  deriving Inhabited

/-- Compact operations: what the type table says is written into them. -/
inductive AOp where
  | mov (x : Opd)
  | pick (c a b : Opd)
  | alloc (ag : Bool) (z : List D)
  | box (ag : Bool) (x : Opd)
  | build (z : List D) (parts : List (Nat × Nat × Opd))
  | mkslice (sz : Nat) (parts : List Opd)
  | load (sz : Nat) (ag : Bool) (x : Opd)
  | store (sz : Nat) (x y : Opd)
  | arith (op : BinOp) (x y : Opd)
  | not (x : Opd)
  | field (off fsz : Nat) (ag : Bool) (x : Opd)
  | fieldv (off fsz : Nat) (ag : Bool) (x : Opd)
  | index (sz : Nat) (x i : Opd)
  | indexA (sz : Nat) (ag : Bool) (n : Nat) (x i : Opd)
  | slice (sz : Nat) (x : Opd) (lo hi : Option Opd)
  | slice3 (sz : Nat) (x : Opd) (lo : Option Opd) (hi mx : Opd)
  | len (x : Opd)
  | lenS (x : Opd)
  | append (sz bytes : Nat) (x y : Opd)
  | minmax (mx : Bool) (x y : Opd)
  | func (f : Fn) (first caps : List Opd)
  | extract (x : Opd) (i : Nat)
  | conv (k : IntKind) (x : Opd)
  | ifc (t : TypeId) (x : Opd)
  | sliceS (x : Opd) (lo hi : Option Opd)
  | ext (k : Ext) (xs : List Opd)
  deriving Inhabited

def optL {α : Type} : Option α → List α
  | none => []
  | some x => [x]

def AOp.opds : AOp → List Opd
  | .mov x | .box _ x | .load _ _ x | .not x | .field _ _ _ x | .fieldv _ _ _ x | .len x | .lenS x | .extract x _ | .conv _ x | .ifc _ x => [x]
  | .pick c a b => [c, a, b]
  | .alloc _ _ => []
  | .build _ ps => ps.map (·.2.2)
  | .mkslice _ ps => ps
  | .store _ x y | .arith _ x y | .index _ x y | .indexA _ _ _ x y | .append _ _ x y | .minmax _ x y => [x, y]
  | .slice _ x lo hi | .sliceS x lo hi => x :: (optL lo ++ optL hi)
  | .slice3 _ x lo hi mx => x :: (optL lo ++ [hi, mx])
  | .func _ a b => a ++ b
  | .ext _ xs => xs

/-- Part of a datum. -/
def subD (off sz : Nat) (ag : Bool) (x : D) : D := if ag then .agg ((x.cells.drop off).take sz) else x.cells.getD off default
def subA (off sz : Nat) (ag : Bool) (cs : List AV) : AV := if ag then mkAgg ((cs.drop off).take sz) else cs.getD off default
def D.isAgg : D → Bool
  | .agg _ => true
  | _ => false
/-- Has a datum this size and shape? -/
def D.fits (sz : Nat) (ag : Bool) (x : D) : Prop := x.cells.length = sz ∧ x.isAgg = ag ∧ (ag = false → x.one = true)

def look (hl : List (Nat × HO)) (n : Nat) : Option HO :=
  match hl with
  | [] => none
  | (m, o) :: r => if n = m then some o else look r n
def newName (hl : List (Nat × HO)) : Nat :=
  match hl with
  | [] => 0
  | (m, _) :: r => max (m + 1) (newName r)

structure Eff where
  c : Prop
  v : AV
  hin : List (Nat × HO) := []
  up : List (Nat × HO) := []

def arithV (op : BinOp) (k : IntKind) (x y : Int) : Option (Prop × Value) :=
  match op with
  | .add => some (True, .int k (k.wrap (x + y)))
  | .sub => some (True, .int k (k.wrap (x - y)))
  | .mul => some (True, .int k (k.wrap (x * y)))
  | .quo => some (y ≠ 0, .int k (k.wrap (x.tdiv y)))
  | .rem => some (y ≠ 0, .int k (x.tmod y))
  | .eql => some (True, .bool (x == y))
  | .neq => some (True, .bool (x != y))
  | .lss => some (True, .bool (decide (x < y)))
  | .leq => some (True, .bool (decide (x ≤ y)))
  | .gtr => some (True, .bool (decide (x > y)))
  | .geq => some (True, .bool (decide (x ≥ y)))
  | .and => some (True, .int k (k.wrap ((BitVec.ofInt k.bits x &&& BitVec.ofInt k.bits y).toNat : Int)))
  | .or => some (True, .int k (k.wrap ((BitVec.ofInt k.bits x ||| BitVec.ofInt k.bits y).toNat : Int)))
  | .xor => some (True, .int k (k.wrap ((BitVec.ofInt k.bits x ^^^ BitVec.ofInt k.bits y).toNat : Int)))
  | .andNot => some (True, .int k (k.wrap ((BitVec.ofInt k.bits x &&& ~~~BitVec.ofInt k.bits y).toNat : Int)))
  | _ => none
def shiftV (left : Bool) (k : IntKind) (x y : Int) : Value := .int k (if left then k.wrap (x * 2 ^ (min y.toNat k.bits)) else x.fdiv (2 ^ (min y.toNat k.bits)))
def complV (k : IntKind) (x : Int) : Int := k.wrap ((BitVec.ofInt k.bits (if k.signed then -1 else k.max) ^^^ BitVec.ofInt k.bits x).toNat : Int)
def strV (op : BinOp) (x y : ByteArray) : Option (Prop × Value) :=
  match op with
  | .add => some (x.size + y.size ≤ 9223372036854775807, .string (x ++ y))
  | .eql => some (True, .bool (x.toList == y.toList))
  | .neq => some (True, .bool !(x.toList == y.toList))
  | .lss => some (True, .bool (Op.bytesLess x.toList y.toList))
  | .leq => some (True, .bool (Op.bytesLess x.toList y.toList || x.toList == y.toList))
  | .gtr => some (True, .bool !(Op.bytesLess x.toList y.toList || x.toList == y.toList))
  | .geq => some (True, .bool !(Op.bytesLess x.toList y.toList))
  | _ => none

def AV.elems : AV → Option (Nat × List D)
  | .d (.nil sz) => some (sz, [])
  | .d (.sl sz es) => some (sz, es)
  | .own _ sz es => some (sz, es)
  | _ => none
def AV.toD1 : AV → Option D
  | .d x => some x
  | .own _ sz es => some (.sl sz es)
  | _ => none
def toDs : List AV → Option (List D)
  | [] => some []
  | v :: r => match v.toD1, toDs r with
    | some x, some l => some (x :: l)
    | _, _ => none
def buildA (z : List AV) : List (Nat × Nat × Opd) → List AV → List AV
  | (off, _, _) :: ps, v :: vs => buildA (setAt z off v.cells) ps vs
  | _, _ => z
def buildC : List (Nat × Nat × Opd) → List AV → Nat → Prop
  | (off, sz, _) :: ps, v :: vs, n => v.cells.length = sz ∧ v.noTup = true ∧ off + sz ≤ n ∧ buildC ps vs n
  | [], [], _ => True
  | _, _, _ => False
def bound : Option Opd → List AV → Nat → Option (Int × List AV)
  | none, vs, d => some (d, vs)
  | some _, .d (.lit (.int _ i)) :: vs, _ => some (i, vs)
  | _, _, _ => none

def eqC : List SK → List D → List D → Prop
  | .int k :: ks, .lit (.int k1 _) :: xs, .lit (.int k2 _) :: ys => k1 = k ∧ k2 = k ∧ eqC ks xs ys
  | .bool :: ks, .lit (.bool _) :: xs, .lit (.bool _) :: ys => eqC ks xs ys
  | .str :: ks, .lit (.string _) :: xs, .lit (.string _) :: ys => eqC ks xs ys
  | [], [], [] => True
  | _, _, _ => False
def eqB : List D → List D → Bool
  | .lit (.int _ a) :: xs, .lit (.int _ b) :: ys => a == b && eqB xs ys
  | .lit (.bool a) :: xs, .lit (.bool b) :: ys => a == b && eqB xs ys
  | .lit (.string a) :: xs, .lit (.string b) :: ys => decide (a = b) && eqB xs ys
  | [], [] => true
  | _, _ => false
def AV.rowD : AV → Option (List D)
  | .d (.agg cs) => some cs
  | .agg cs => toDs cs
  | _ => none
def D.u8 : D → Option Int
  | .lit (.int .u8 n) => some n
  | _ => none
def D.num : D → Int
  | .lit (.int _ n) => n
  | _ => 0
/-- The string of a list of byte data. -/
def bytesOf (es : List D) : ByteArray := strOfNums (es.map D.num)

def stepX (hl : List (Nat × HO)) (k : Ext) (vals : List AV) : Option Eff :=
  match k with
  | .eqrow neg ks => match vals with
    | [x, y] => match x.rowD, y.rowD with
      | some xs, some ys => some { c := eqC ks xs ys, v := .d (.lit (.bool (neg ^^ eqB xs ys))) }
      | _, _ => none
    | _ => none
  | .sliceA n sz => match vals with
    | [.ptr b o] => match look hl b with
      | some (.box ag cs) => some { c := True, v := .bsl b o sz n n, hin := [(b, .box ag cs)] }
      | _ => none
    | [.d (.ip x)] => some { c := sz = 1 ∧ x.cells.length = n ∧ x.isAgg = true, v := .d (.sl 1 x.cells) }
    | _ => none
  | .bytesStr => match vals with
    | [x] => match x.elems with
      | some (sz, es) => some { c := (sz = 1 ∨ es = []) ∧ ∀ e ∈ es, e.u8.isSome = true, v := .d (.lit (.string (bytesOf es))) }
      | none => none
    | _ => none
  | .eqBool neg => match vals with
    | [.d (.lit (.bool a)), .d (.lit (.bool b))] => some { c := True, v := .d (.lit (.bool (neg ^^ (a == b)))) }
    | _ => none
  | .isNil neg => match vals with
    | [.d (.lit .nilIface)] => some { c := True, v := .d (.lit (.bool !neg)) }
    | [.d (.ifc _ _)] => some { c := True, v := .d (.lit (.bool neg)) }
    | _ => none
  | .strIdx => match vals with
    | [.d (.lit (.string s)), .d (.lit (.int _ i))] => some { c := 0 ≤ i ∧ i < s.data.toList.length, v := .d (.lit (.int .u8 (s.data.toList.getD i.toNat 0).toNat)) }
    | _ => none
  | .shift left => match vals with
    | [.d (.lit (.int k a)), .d (.lit (.int _ b))] => some { c := 0 ≤ b, v := .d (.lit (shiftV left k a b)) }
    | _ => none
  | .uneg => match vals with
    | [.d (.lit (.int k a))] => some { c := True, v := .d (.lit (.int k (k.wrap (0 - a)))) }
    | _ => none
  | .ucompl => match vals with
    | [.d (.lit (.int k a))] => some { c := True, v := .d (.lit (.int k (complV k a))) }
    | _ => none
  | .tassert t z => match vals with
    | [.d (.ifc ty d)] => some { c := True, v := .d (.tup [if ty = t then d else z, .lit (.bool (decide (ty = t)))]) }
    | [.d (.lit .nilIface)] => some { c := True, v := .d (.tup [z, .lit (.bool false)]) }
    | _ => none
  | .nilChk => match vals with
    | [.ptr n o] => some { c := True, v := .ptr n o }
    | [.d (.ip x)] => some { c := True, v := .d (.ip x) }
    | _ => none

def stepV (hl : List (Nat × HO)) (op : AOp) (vals : List AV) : Option Eff :=
  match op with
  | .mov _ => match vals with
    | [v] => some { c := True, v := v }
    | _ => none
  | .pick .. => match vals with
    | [.d (.lit (.bool c)), .d (.lit (.bool x)), .d (.lit (.bool y))] => some { c := True, v := .d (.lit (.bool (bif c then x else y))) }
    | _ => none
  | .alloc ag z => match vals with
    | [] => some { c := True, v := .ptr (newName hl) 0, up := [(newName hl, .box ag (z.map .d))] }
    | _ => none
  | .box ag _ => match vals with
    | [v] => some { c := v.noTup = true, v := .ptr (newName hl) 0, up := [(newName hl, .box ag v.cells)] }
    | _ => none
  | .build z ps => some { c := buildC ps vals z.length, v := mkAgg (buildA (z.map .d) ps vals) }
  | .mkslice sz _ => match toDs vals with
    | some es => some { c := (∀ e ∈ es, e.cells.length = sz ∧ (∀ ds, e ≠ .tup ds)) ∧ es.length * sz ≤ 16777216, v := .own (newName hl) sz es, up := [(newName hl, .row)] }
    | none => none
  | .load sz ag _ => match vals with
    | [.ptr n o] => match look hl n with
      | some (.box ag' cs) => some { c := o + sz ≤ cs.length ∧ (ag = false → sz = 1), v := subA o sz ag cs, hin := [(n, .box ag' cs)] }
      | _ => none
    | [.d (.ip x)] => some { c := x.fits sz ag ∧ (ag = false → sz = 1), v := .d x }
    | _ => none
  | .store sz _ _ => match vals with
    | [.ptr n o, v] => match look hl n with
      | some (.box ag' cs) => some { c := v.cells.length = sz ∧ v.noTup = true ∧ o + sz ≤ cs.length, v := .tup [], hin := [(n, .box ag' cs)], up := [(n, .box ag' (setAt cs o v.cells))] }
      | _ => none
    | _ => none
  | .arith op _ _ => match vals with
    | [.d (.lit (.int k a)), .d (.lit (.int k' b))] => match arithV op k a b with
      | some (c, r) => some { c := k = k' ∧ c, v := .d (.lit r) }
      | none => none
    | [.d (.lit (.string a)), .d (.lit (.string b))] => match strV op a b with
      | some (c, r) => some { c := c, v := .d (.lit r) }
      | none => none
    | _ => none
  | .not _ => match vals with
    | [.d (.lit (.bool b))] => some { c := True, v := .d (.lit (.bool !b)) }
    | _ => none
  | .field off fsz ag _ => match vals with
    | [.ptr n o] => some { c := True, v := .ptr n (o + off) }
    | [.d (.ip x)] => some { c := off + fsz ≤ x.cells.length ∧ (ag = false → fsz = 1), v := .d (.ip (subD off fsz ag x)) }
    | _ => none
  | .fieldv off fsz ag _ => match vals with
    | [.d (.agg cs)] => some { c := off + fsz ≤ cs.length ∧ (ag = false → fsz = 1), v := .d (subD off fsz ag (.agg cs)) }
    | _ => none
  | .index sz _ _ => match vals with
    | [x, .d (.lit (.int _ i))] => match x.elems with
      | some (sz', es) => some { c := sz' = sz ∧ 0 ≤ i ∧ i < es.length, v := .d (.ip (es.getD i.toNat default)) }
      | none => none
    | _ => none
  | .indexA sz ag n _ _ => match vals with
    | [.ptr b o, .d (.lit (.int _ i))] => some { c := 0 ≤ i ∧ i < n, v := .ptr b (o + i.toNat * sz) }
    | [.d (.ip x), .d (.lit (.int _ i))] => some { c := 0 ≤ i ∧ i < n ∧ i.toNat * sz + sz ≤ x.cells.length ∧ (ag = false → sz = 1), v := .d (.ip (subD (i.toNat * sz) sz ag x)) }
    | _ => none
  | .sliceS _ lo hi => match vals with
    | .d (.lit (.string s)) :: vs => match bound lo vs 0 with
      | some (l, vs') => match bound hi vs' s.data.toList.length with
        | some (h, []) => some { c := 0 ≤ l ∧ l ≤ h ∧ h ≤ s.data.toList.length, v := .d (.lit (.string ⟨((s.data.toList.take h.toNat).drop l.toNat).toArray⟩)) }
        | _ => none
      | none => none
    | _ => none
  | .slice sz _ lo hi => match vals with
    | x :: vs => match x.elems with
      | some (sz', es) => match bound lo vs 0 with
        | some (l, vs') => match bound hi vs' es.length with
          | some (h, []) => some { c := sz' = sz ∧ 0 ≤ l ∧ l ≤ h ∧ h ≤ es.length, v := .d (.sl sz ((es.take h.toNat).drop l.toNat)) }
          | _ => none
        | none => none
      | none => none
    | _ => none
  | .slice3 sz _ lo _ _ => match vals with
    | x :: vs => match x.elems with
      | some (sz', es) => match bound lo vs 0 with
        | some (l, [.d (.lit (.int _ h)), .d (.lit (.int _ m))]) => some { c := sz' = sz ∧ 0 ≤ l ∧ l ≤ h ∧ h ≤ es.length ∧ m = h, v := .own (newName hl) sz ((es.take h.toNat).drop l.toNat), up := [(newName hl, .row)] }
        | _ => none
      | none => none
    | _ => none
  | .lenS _ => match vals with
    | [.d (.lit (.string s))] => some { c := True, v := .d (.lit (.int .i64 s.size)) }
    | _ => none
  | .len _ => match vals with
    | [x] => match x.elems with
      | some (_, es) => some { c := True, v := .d (.lit (.int .i64 es.length)) }
      | none => none
    | _ => none
  | .append sz bytes _ _ => match vals with
    | [.own r sz' es, y] => match look hl r with
      | some .row => match y.elems with
        | some (sy, ys) => some { c := sz' = sz ∧ (ys = [] ∨ sy = sz) ∧ (es.length + ys.length) * bytes ≤ 140737488355328 ∧ es.length + ys.length ≤ 9223372036854775807, v := .own (newName hl) sz (es ++ ys), hin := [(r, .row)], up := [(newName hl, .row), (r, .dead)] }
        | none => none
      | _ => none
    | [.d (.nil _), y] => match y.elems with
      | some (sy, ys) => some { c := (ys = [] ∨ sy = sz) ∧ ys.length * bytes ≤ 140737488355328 ∧ ys.length ≤ 9223372036854775807, v := .own (newName hl) sz ys, up := [(newName hl, .row)] }
      | none => none
    | _ => none
  | .minmax mx _ _ => match vals with
    | [.d (.lit (.int k a)), .d (.lit (.int k' b))] => some { c := k = k', v := .d (.lit (.int k (if mx then (if b > a then b else a) else (if b < a then b else a)))) }
    | _ => none
  | .func f a _ => some { c := True, v := .fn f (vals.take a.length) (vals.drop a.length) }
  | .extract _ i => match vals with
    | [.tup vs] => some { c := i < vs.length, v := vs.getD i default }
    | [.d (.tup vs)] => some { c := i < vs.length, v := .d (vs.getD i default) }
    | _ => none
  | .conv k _ => match vals with
    | [.d (.lit (.int _ a))] => some { c := True, v := .d (.lit (.int k (k.wrap a))) }
    | _ => none
  | .ifc t _ => match vals with
    | [.d x] => some { c := True, v := .d (.ifc t x) }
    | _ => none
  | .ext k _ => stepX hl k vals

end Go.Proofs.Ytbfjmachkbhfnaa.AL
end

section
namespace Go.Proofs.Ytbfjmachkbhfnaa.AL
open Go

def Fr (ro : Option Nat) : Fence := { Fence.wide with round := ro }

section
variable {P : Program} {ro : Option Nat} {o : Oper} {a : Act} {w w' : World} {K : Act → World → Prop} {Q : Exit → Act → World → Prop}

theorem wpIn_value (hd : ∀ c, o.op ≠ .defer c) {v : Value} (hr : (execOp a.eval o).run P w = .ok (.value v) w') (h : K (a.put o.dst v) w') : o.wpIn (Fr ro) 0 P a w K Q := by
  refine ⟨fun f _ => trivial, ?_⟩
  show o.uponIn (Fr ro) 0 P a K Q ((o.semAt ro a.eval).run P w)
  rw [Oper.semAt_eq ro a.eval o hd, hr]
  exact h
theorem wpIn_skipv (hd : ∀ c, o.op ≠ .defer c) (hr : (execOp a.eval o).run P w = .ok .skip w') (h : K (a.put o.dst undef) w') : o.wpIn (Fr ro) 0 P a w K Q := by
  refine ⟨fun f _ => trivial, ?_⟩
  show o.uponIn (Fr ro) 0 P a K Q ((o.semAt ro a.eval).run P w)
  rw [Oper.semAt_eq ro a.eval o hd, hr]
  exact h
end

/-- The type table's word on a list of zero cells. -/
def Zero (z : List D) (vs : Array Value) : Prop := (∀ I w, RepL I w z vs) ∧ ∀ c ∈ z, c.one = true

inductive All2 {α β : Type} (R : α → β → Prop) : List α → List β → Prop
  | nil : All2 R [] []
  | cons {x : α} {y : β} {l : List α} {m : List β} (h : R x y) (t : All2 R l m) : All2 R (x :: l) (y :: m)

inductive COopt : Option Operand → Option Opd → Prop
  | none : COopt none none
  | some {x : Operand} {x' : Opd} (h : CO x x') : COopt (some x) (some x')

/-- The kinds of the cells of a type of plain cells. -/
def kindsF (P : Program) (K : TypeId → Option (List SK)) : Nat → List Field → Option (List SK)
  | _, [] => some []
  | off, f :: r => match K f.type with
    | some ks => if f.offset = off ∧ P.cellsOf f.type = ks.length then (kindsF P K (off + ks.length) r).map (ks ++ ·) else none
    | none => none
def kindsOf (P : Program) : Nat → TypeId → Option (List SK)
  | 0, _ => none
  | m + 1, t => match P.underlying t with
    | some .bool => some [.bool]
    | some (.int k) => some [.int k]
    | some .string => some [.str]
    | some (.array n e) => match kindsOf P m e with
      | some ks => if P.cellsOf e = ks.length ∧ P.cellsOf t = n * ks.length then some (List.replicate n ks).flatten else none
      | none => none
    | some (.struct fs) => match kindsF P (kindsOf P m) 0 fs.toList with
      | some ks => if P.cellsOf t = ks.length ∧ fs.all (·.name != "_") = true then some ks else none
      | none => none
    | _ => none

inductive CmpX (P : Program) (o : Oper) : Ext → List Opd → Prop
  | eqrow {neg t u x y x' y' ks} (h : o.op = .binOp (if neg then .neq else .eql) t x y u) (hx : CO x x') (hy : CO y y') (hk : kindsOf P 20 t = some ks) (hkey : P.keyTypeAt 20 t = true) (hg : P.eqGuardType P.depth t = false)
      (hc : P.cellsOf t = ks.length) (hr : (match P.underlying t with | some (.array _ _) | some (.struct _) => true | _ => false) = true) : CmpX P o (.eqrow neg ks) [x', y']
  | sliceA {t e n x x' i sz} (h : o.op = .slice t x none none none) (hx : CO x x') (hu : P.underlying t = some (.array n e)) (hi : P.info? e = some i) (hs : i.size = sz) (hm : n ≤ 9223372036854775807) : CmpX P o (.sliceA n sz) [x']
  | bytesStr {s t e x x'} (h : o.op = .convert s t x) (hx : CO x x') (hs : P.underlying s = some (.slice e)) (he : P.underlying e = some (.int .u8)) (ht : P.underlying t = some .string) : CmpX P o .bytesStr [x']
  | eqBool {neg t u x y x' y'} (h : o.op = .binOp (if neg then .neq else .eql) t x y u) (hx : CO x x') (hy : CO y y') (hu : P.underlying t = some .bool) : CmpX P o (.eqBool neg) [x', y']
  | isNil {neg t u x x' ms} (h : o.op = .binOp (if neg then .neq else .eql) t x (.const .nilIface) u) (hx : CO x x') (hu : P.underlying t = some (.interface ms)) : CmpX P o (.isNil neg) [x']
  | strIdx {t x y x' y'} (h : o.op = .index t x y) (hx : CO x x') (hy : CO y y') (hu : P.underlying t = some .string) : CmpX P o .strIdx [x', y']
  | shift {left t u x y x' y'} (h : o.op = .binOp (if left then .shl else .shr) t x y u) (hx : CO x x') (hy : CO y y') : CmpX P o (.shift left) [x', y']
  | uneg {t x x'} (h : o.op = .unOp .neg t x) (hx : CO x x') : CmpX P o .uneg [x']
  | ucompl {t x x'} (h : o.op = .unOp .xor t x) (hx : CO x x') : CmpX P o .ucompl [x']
  | tassert {x x' st t i zv z desc} (h : o.op = .typeAssert x st t true) (hx : CO x x') (hu : P.underlying t = some desc) (hd : ∀ ms, desc ≠ .interface ms) (hi : P.info? t = some i) (hz : i.zero = some zv) (hzz : ∀ I w, Rep I w z zv) : CmpX P o (.tassert t z) [x']
  | nilChk {x x'} (h : o.op = .nilCheck x) (hx : CO x x') : CmpX P o .nilChk [x']

/-- The compact operation stands for the operation. -/
inductive Cmp (P : Program) (o : Oper) : AOp → Prop
  | mov {x x'} (h : o.op = .move x ∨ o.op = .assign x) (hx : CO x x') : Cmp P o (.mov x')
  | pick {c a b c' a' b'} (h : o.op = .pick c a b) (hc : CO c c') (ha : CO a a') (hb : CO b b') : Cmp P o (.pick c' a' b')
  | alloc {t i zv ag z} (h : o.op = .alloc t) (hi : P.info? t = some i) (hz : i.zero = some zv) (hzz : Zero z zv.cells) : Cmp P o (.alloc ag z)
  | box {t x x' ag} (h : o.op = .box t x) (hx : CO x x') : Cmp P o (.box ag x')
  | build {t i zv z parts ps} (h : o.op = .build t parts) (hi : P.info? t = some i) (hz : i.zero = some zv) (hzz : Zero z zv.cells)
      (place : Nat → Option (Nat × Nat)) (hp : ∀ l, P.built t l = Instr.fill place zv.cells l)
      (hps : All2 (fun (p : Nat × Operand) (q : Nat × Nat × Opd) => place p.1 = some (q.1, q.2.1) ∧ CO p.2 q.2.2) parts.toList ps) : Cmp P o (.build z ps)
  | mkslice {t e i sz zv len parts ps} (h : o.op = .buildSlice t len parts) (hu : P.underlying t = some (.slice e)) (hi : P.info? e = some i) (hs : i.size = sz) (hs0 : 0 < sz) (hz : i.zero = some zv) (hzs : zv.cells.size = sz)
      (hl : len = ps.length) (hps : ∃ xs : List Operand, parts.toList = (xs.zipIdx 0).map (fun x => (x.2, x.1)) ∧ All2 CO xs ps) : Cmp P o (.mkslice sz ps)
  | load {t x x' i d sz ag} (h : o.op = .load t x) (hx : CO x x') (hi : P.info? t = some i) (hs : i.size = sz) (hu : P.underlying t = some d) (hag : d.isRow = ag) : Cmp P o (.load sz ag x')
  | store {t x y x' y' i sz} (h : o.op = .store t x y) (hx : CO x x') (hy : CO y y') (hi : P.info? t = some i) (hs : i.size = sz) : Cmp P o (.store sz x' y')
  | arith {op t u x y x' y'} (h : o.op = .binOp op t x y u) (hx : CO x x') (hy : CO y y') (hop : op ≠ .shl ∧ op ≠ .shr) : Cmp P o (.arith op x' y')
  | not {t x x'} (h : o.op = .unOp .not t x) (hx : CO x x') : Cmp P o (.not x')
  | field {s x x' fs f fd i fsz ag} (h : o.op = .fieldAddr s x f) (hx : CO x x') (hu : P.underlying s = some (.struct fs)) (hf : fs[f]? = some fd) (hi : P.info? fd.type = some i) (hs : i.size = fsz) (hs0 : fsz ≠ 0) : Cmp P o (.field fd.offset fsz ag x')
  | fieldv {s x x' fs f fd i d fsz ag} (h : o.op = .field s x f) (hx : CO x x') (hu : P.underlying s = some (.struct fs)) (hf : fs[f]? = some fd) (hi : P.info? fd.type = some i) (hs : i.size = fsz)
      (hd : P.underlying fd.type = some d) (hag : d.isRow = ag) : Cmp P o (.fieldv fd.offset fsz ag x')
  | index {t e x j x' j' i sz} (h : o.op = .indexAddr t x j) (hx : CO x x') (hj : CO j j') (hu : P.underlying t = some (.slice e)) (hi : P.info? e = some i) (hs : i.size = sz) : Cmp P o (.index sz x' j')
  | indexA {t e n x j x' j' i sz ag} (h : o.op = .indexAddr t x j) (hx : CO x x') (hj : CO j j') (hu : P.underlying t = some (.array n e)) (hi : P.info? e = some i) (hs : i.size = sz) : Cmp P o (.indexA sz ag n x' j')
  | slice {t e x lo hi x' lo' hi' i sz} (h : o.op = .slice t x lo hi none) (hx : CO x x') (hlo : COopt lo lo') (hhi : COopt hi hi') (hu : P.underlying t = some (.slice e)) (hie : P.info? e = some i) (hs : i.size = sz) : Cmp P o (.slice sz x' lo' hi')
  | sliceS {t x lo hi x' lo' hi'} (h : o.op = .slice t x lo hi none) (hx : CO x x') (hlo : COopt lo lo') (hhi : COopt hi hi') (hu : P.underlying t = some .string) : Cmp P o (.sliceS x' lo' hi')
  | slice3 {t e x lo hi mx x' lo' hi' mx' i sz} (h : o.op = .slice t x lo (some hi) (some mx)) (hx : CO x x') (hlo : COopt lo lo') (hhi : CO hi hi') (hmx : CO mx mx') (hu : P.underlying t = some (.slice e)) (hie : P.info? e = some i) (hs : i.size = sz) : Cmp P o (.slice3 sz x' lo' hi' mx')
  | len {x x' t e} (h : o.op = .call { callee := .builtin .len, args := #[x], argTypes := #[t] }) (hx : CO x x') (hu : P.underlying t = some (.slice e)) : Cmp P o (.len x')
  | lenS {x x' t} (h : o.op = .call { callee := .builtin .len, args := #[x], argTypes := #[t] }) (hx : CO x x') (hu : P.underlying t = some .string) : Cmp P o (.lenS x')
  | append {t e i zv x y x' y' sz bytes} (h : o.op = .call { callee := .builtin .append, args := #[x, y], argTypes := #[t, t] }) (hx : CO x x') (hy : CO y y') (hu : P.underlying t = some (.slice e))
      (hi : P.info? e = some i) (hs : i.size = sz) (hb : i.bytes = bytes) (hz : i.zero = some zv) (hzs : zv.cells.size = sz) (hone : zv.cells.all (·.oneCell') = true) (hs0 : 0 < sz) : Cmp P o (.append sz bytes x' y')
  | minmax {x y x' y' ts mx} (h : o.op = .call { callee := .builtin (if mx then .max else .min), args := #[x, y], argTypes := ts }) (hx : CO x x') (hy : CO y y') : Cmp P o (.minmax mx x' y')
  | func {f first caps first' caps'} (h : o.op = .makeFunc f first caps) (hf : All2 CO first.toList first') (hc : All2 CO caps.toList caps') : Cmp P o (.func f first' caps')
  | extract {x x' i} (h : o.op = .extract x i) (hx : CO x x') : Cmp P o (.extract x' i)
  | conv {s t x x' k d} (h : o.op = .convert s t x) (hx : CO x x') (hs : P.underlying s = some d) (ht : P.underlying t = some (.int k)) : Cmp P o (.conv k x')
  | ifc {t x x' d} (h : o.op = .makeInterface t x) (hx : CO x x') (hu : P.underlying t = some d) (hd : ∀ ms, d ≠ .interface ms) : Cmp P o (.ifc t x')
  | ext {k xs} (h : CmpX P o k xs) : Cmp P o (.ext k xs)

/-- What a step of an operation does, whatever lies beside. -/
def OpLoc (E : Env) (P : Program) (ro : Option Nat) (o : Oper) (xs : List (Opd × AV)) (e : Eff) : Prop :=
  ∀ (G : Gh) (a : Act) (w : World) (h : Hp), WRel E G h w → (∀ p ∈ xs, EvO G w a p.1 p.2) → (∀ p ∈ e.hin, h p.1 = some p.2) → (∀ p ∈ e.up, h p.1 = none ∨ ∃ q ∈ e.hin, q.1 = p.1) →
    ∀ (K : Act → World → Prop) (Q : Exit → Act → World → Prop), (∀ val w' G', GLe G w G' w' → WRel E G' (h.upd e.up) w' → RepA G' w' e.v val → K (a.put o.dst val) w') → o.wpIn (Fr ro) 0 P a w K Q

section
variable {E : Env} {P : Program} {ro : Option Nat} {o : Oper}

theorem ev1 {G : Gh} {w : World} {a : Act} {x' : Opd} {v : AV} {x : Operand} (h : ∀ p ∈ [(x', v)], EvO G w a p.1 p.2) (hx : CO x x') : RepA G w v (a.eval x) := h (x', v) (by simp) x hx
theorem ev2 {G : Gh} {w : World} {a : Act} {x' y' : Opd} {u v : AV} {x y : Operand} (h : ∀ p ∈ [(x', u), (y', v)], EvO G w a p.1 p.2) (hx : CO x x') (hy : CO y y') : RepA G w u (a.eval x) ∧ RepA G w v (a.eval y) :=
  ⟨h (x', u) (by simp) x hx, h (y', v) (by simp) y hy⟩

/-- An operation that only computes. -/
theorem opLoc_pure {xs : List (Opd × AV)} {c : Prop} {v : AV} (hd : ∀ c, o.op ≠ .defer c)
    (h : ∀ (G : Gh) (a : Act) (w : World) (h : Hp), WRel E G h w → (∀ p ∈ xs, EvO G w a p.1 p.2) → ∃ val, (execOp a.eval o).run P w = .ok (.value val) w ∧ RepA G w v val) : OpLoc E P ro o xs { c := c, v := v } := by
  intro G a w hp H hx _ _ K Q hK
  obtain ⟨val, h1, h2⟩ := h G a w hp H hx
  exact wpIn_value hd h1 (hK val w G (GLe.refl G w) H h2)

theorem sc_bool (b : Bool) : Sc (.bool b) := trivial
theorem repBool {G : Gh} {w : World} (b : Bool) : RepA G w (.d (.lit (.bool b))) (.bool b) := .d (.lit trivial)
theorem wrap_range (k : IntKind) (n : Int) : k.min ≤ k.wrap n ∧ k.wrap n ≤ k.max := by
  cases k <;> simp [IntKind.wrap, IntKind.min, IntKind.max, IntKind.bits, IntKind.signed] <;> (try split) <;> omega

theorem RepA.lit {G : Gh} {w : World} {x v : Value} (h : RepA G w (.d (.lit x)) v) : v = x ∧ Sc x := by
  cases h; rename_i h; cases h; exact ⟨rfl, by assumption⟩

theorem sound_mov {x' : Opd} {v : AV} {x : Operand} (h : o.op = .move x ∨ o.op = .assign x) (hx : CO x x') (c : Prop) : OpLoc E P ro o [(x', v)] { c := c, v := v } :=
  opLoc_pure (by rcases h with h | h <;> simp [h]) fun G a w hp H hv => ⟨a.eval x, by rcases h with h | h <;> simp [execOp, h], ev1 hv hx⟩

theorem sound_pick {c' a' b' : Opd} {c x y : Bool} {oc oa ob : Operand} (h : o.op = .pick oc oa ob) (hc : CO oc c') (ha : CO oa a') (hb : CO ob b') (p : Prop) :
    OpLoc E P ro o [(c', .d (.lit (.bool c))), (a', .d (.lit (.bool x))), (b', .d (.lit (.bool y)))] { c := p, v := .d (.lit (.bool (bif c then x else y))) } :=
  opLoc_pure (by simp [h]) fun G a w hp H hv => by
    have e1 := (RepA.lit (hv (c', .d (.lit (.bool c))) (by simp) oc hc)).1
    have e2 := (RepA.lit (hv (a', .d (.lit (.bool x))) (by simp) oa ha)).1
    have e3 := (RepA.lit (hv (b', .d (.lit (.bool y))) (by simp) ob hb)).1
    refine ⟨.bool (bif c then x else y), ?_, repBool _⟩
    cases c <;> simp [execOp, h, e1, e2, e3, asBool]

theorem zero_repA {z : List D} {vs : Array Value} (h : Zero z vs) (G : Gh) (w : World) : RepAL G w (z.map .d) vs ∧ ∀ c ∈ z.map AV.d, c.one = true := by
  refine ⟨⟨by simpa using (h.1 G.I w).1, fun k c v hk hv => ?_⟩, fun c hc => ?_⟩
  · simp only [List.getElem?_map, Option.map_eq_some_iff] at hk
    obtain ⟨d, hd, rfl⟩ := hk
    exact .d ((h.1 G.I w).2 k d v hd hv)
  · obtain ⟨d, hd, rfl⟩ := List.mem_map.1 hc
    exact h.2 d hd

theorem sound_newbox {xs : List (Opd × AV)} {n : Nat} {ag : Bool} {cs : List AV} {c : Prop} {t : TypeId} (hd : ∀ c, o.op ≠ .defer c)
    (h : ∀ (G : Gh) (a : Act) (w : World) (h : Hp), WRel E G h w → (∀ p ∈ xs, EvO G w a p.1 p.2) → ∃ arr, (execOp a.eval o).run P w = .ok (.value (.pointer (some ⟨w.heap.size, 0, none⟩))) (w.alloc (.cells arr t)) ∧ RepAL G w cs arr ∧ ∀ c ∈ cs, c.one = true) :
    OpLoc E P ro o xs { c := c, v := .ptr n 0, up := [(n, .box ag cs)] } := by
  intro G a w hp H hx _ hn K Q hK
  obtain ⟨arr, h1, h2, h3⟩ := h G a w hp H hx
  have hfr : hp n = none := by
    rcases hn (n, .box ag cs) (by simp) with h | ⟨q, hq, _⟩
    · exact h
    · simp at hq
  obtain ⟨l1, l2⟩ := H.newBox hfr ag t h2 h3
  exact wpIn_value hd h1 (hK _ _ _ l1 l2 (.ptr (by simp)))

theorem sound_alloc {n : Nat} {t i zv ag z} (h : o.op = .alloc t) (hi : P.info? t = some i) (hz : i.zero = some zv) (hzz : Zero z zv.cells) (c : Prop) :
    OpLoc E P ro o [] { c := c, v := .ptr n 0, up := [(n, .box ag (z.map .d))] } :=
  sound_newbox (t := t) (by simp [h]) fun G a w hp H hv => ⟨zv.cells, by simp [execOp, h, Instr.alloc, zeroValue, typeInfo, hi, hz, newVar, newRow], zero_repA hzz G w⟩

theorem sound_box {n : Nat} {t x x' ag} {v : AV} (h : o.op = .box t x) (hx : CO x x') (hv : v.noTup = true) (c : Prop) :
    OpLoc E P ro o [(x', v)] { c := c, v := .ptr n 0, up := [(n, .box ag v.cells)] } :=
  sound_newbox (t := t) (by simp [h]) fun G a w hp H hvs => by
    have hr := (ev1 hvs hx).cells hv
    exact ⟨(a.eval x).cells, by simp [execOp, h, Instr.box, newVar, newRow], hr⟩

end
end Go.Proofs.Ytbfjmachkbhfnaa.AL
end

section
namespace Go.Proofs.Ytbfjmachkbhfnaa.AL
open Go

theorem length_setAt : ∀ (news : List AV) (cs : List AV) (o : Nat), (setAt cs o news).length = cs.length
  | [], cs, o => rfl
  | c :: r, cs, o => by rw [setAt, length_setAt r]; simp

theorem get_setAt : ∀ (news : List AV) (cs : List AV) (o k : Nat), (setAt cs o news)[k]? = if o ≤ k ∧ k < o + news.length ∧ k < cs.length then news[k - o]? else cs[k]?
  | [], cs, o, k => by rw [setAt, if_neg (by simp; omega)]
  | c :: r, cs, o, k => by
    rw [setAt, get_setAt r]
    simp only [List.length_set, List.length_cons, List.getElem?_set]
    by_cases hk : o = k
    · subst hk
      rw [if_neg (by omega)]
      by_cases hs : o < cs.length
      · simp [hs]
      · simp [hs]
    · by_cases hin : o + 1 ≤ k ∧ k < o + 1 + r.length ∧ k < cs.length
      · rw [if_pos hin, if_pos (by omega)]
        have e : k - o = (k - (o + 1)) + 1 := by omega
        rw [e, List.getElem?_cons_succ]
      · rw [if_neg hin, if_neg hk, if_neg (by omega)]

theorem one_setAt : ∀ (news : List AV) (cs : List AV) (o : Nat), (∀ c ∈ cs, c.one = true) → (∀ c ∈ news, c.one = true) → ∀ c ∈ setAt cs o news, c.one = true
  | [], cs, o, h, _ => h
  | c :: r, cs, o, h, h' => by
    rw [setAt]
    refine one_setAt r _ _ (fun x hx => ?_) (fun x hx => h' x (by simp [hx]))
    rcases List.mem_or_eq_of_mem_set hx with e | e
    · exact h x e
    · rw [e]; exact h' c (by simp)

section
variable {E : Env} {P : Program} {ro : Option Nat} {o : Oper}

theorem fill_sound {place : Nat → Option (Nat × Nat)} {G : Gh} {w : World} {a : Act} : ∀ (ps : List (Nat × Nat × Opd)) (vs : List AV) (parts : List (Nat × Operand)) (cells : Array Value) (A : List AV), RepAL G w A cells → (∀ c ∈ A, c.one = true) →
    All2 (fun (p : Nat × Operand) (q : Nat × Nat × Opd) => place p.1 = some (q.1, q.2.1) ∧ CO p.2 q.2.2) parts ps →
    (∀ p ∈ (ps.map (·.2.2)).zip vs, EvO G w a p.1 p.2) → buildC ps vs A.length →
    ∃ cells', Instr.fill place cells (parts.map fun p => (p.1, a.eval p.2)) = some cells' ∧ RepAL G w (buildA A ps vs) cells' ∧ ∀ c ∈ buildA A ps vs, c.one = true
  | [], vs, parts, cells, A, hA, h1, h2, hv, hc => by
    cases h2
    cases vs with
    | nil => exact ⟨cells, rfl, hA, h1⟩
    | cons _ _ => simp [buildC] at hc
  | (off, sz, x') :: ps, vs, parts, cells, A, hA, h1, h2, hv, hc => by
    cases h2
    rename_i p parts h t
    obtain ⟨i, x⟩ := p
    obtain ⟨hpl, hx⟩ := h
    cases vs with
    | nil => simp [buildC] at hc
    | cons v vs =>
      simp only [buildC] at hc
      obtain ⟨c1, c2, c3, c4⟩ := hc
      have hr := (hv (x', v) (by simp) x hx).cells c2
      have hsz : (a.eval x).cells.size = sz := by rw [hr.1.1, c1]
      obtain ⟨g1, g2⟩ := Great.foldl_set off (a.eval x).cells.toList 0 cells
      have hA' : RepAL G w (setAt A off v.cells) (((a.eval x).cells.toList.zipIdx 0).foldl (fun cs (x : Value × Nat) => cs.setIfInBounds (off + x.2) x.1) cells) := by
        refine ⟨by rw [g1, length_setAt]; exact hA.1, fun k c u hk hu => ?_⟩
        rw [get_setAt] at hk
        rw [g2 k] at hu
        simp only [Nat.add_zero, Array.length_toList, hsz] at hu
        rw [c1, ← hA.1] at hk
        by_cases hin : off ≤ k ∧ k < off + sz ∧ k < cells.size
        · rw [if_pos hin] at hk hu
          exact hr.1.2 _ c u hk (by simpa using hu)
        · rw [if_neg hin] at hk hu
          exact hA.2 k c u hk hu
      have h1' := one_setAt v.cells A off h1 hr.2
      obtain ⟨cells', e1, e2, e3⟩ := fill_sound ps vs parts _ (setAt A off v.cells) hA' h1' t (fun p hp => hv p (by simp at hp ⊢; exact .inr hp)) (by rw [length_setAt]; exact c4)
      refine ⟨cells', ?_, e2, e3⟩
      simp only [List.map_cons]
      unfold Instr.fill
      simp only [hpl]
      rw [if_neg (by simp [hsz]; rw [hA.1]; omega)]
      rw [← e1]
      congr 1
      rw [← Array.foldl_toList, Array.toList_zipIdx]

theorem sound_build {t z parts ps vs} {zv : Value} (h : o.op = .build t parts) (hzz : Zero z zv.cells)
    (place : Nat → Option (Nat × Nat)) (hp : ∀ l, P.built t l = Instr.fill place zv.cells l)
    (hps : All2 (fun (p : Nat × Operand) (q : Nat × Nat × Opd) => place p.1 = some (q.1, q.2.1) ∧ CO p.2 q.2.2) parts.toList ps) (hc : buildC ps vs z.length) (c : Prop) :
    OpLoc E P ro o ((ps.map (·.2.2)).zip vs) { c := c, v := mkAgg (buildA (z.map .d) ps vs) } :=
  opLoc_pure (by simp [h]) fun G a w hp' H hv => by
    obtain ⟨z1, z2⟩ := zero_repA hzz G w
    obtain ⟨cells, e1, e2, e3⟩ := fill_sound ps vs parts.toList zv.cells (z.map .d) z1 z2 hps hv (by simpa using hc)
    refine ⟨.agg cells, ?_, repA_mkAgg e2 e3⟩
    have hb : P.built t (parts.map fun (i, x) => (i, a.eval x)).toList = some cells := by
      rw [hp, ← e1, Array.toList_map]
    simp only [execOp, h, Sem.run_bind, run_build w t _ cells hb, Result.andThen_ok, Sem.run_pure]

theorem run_loadAt' {t : TypeId} {ad : Addr} {cs : List Value} {w : World} {i : TypeInfo} {d : TypeDesc} (hc : ∀ j v, cs[j]? = some v → w.cell? (ad.add j) = some v)
    (hi : P.info? t = some i) (hs : i.size = cs.length) (hu : P.underlying t = some d) (h1 : d.isRow = false → cs.length = 1) :
    (Instr.loadAt t (.pointer (some ad))).run P w = .ok (if d.isRow then .agg cs.toArray else cs.headD undef) w := by
  have hagg : (isAgg t).run P w = .ok d.isRow w := by
    unfold isAgg
    rw [Sem.run_bind, run_underlying hu w]
    cases d <;> simp [TypeDesc.isRow]
  have hl : (loadCells ad cs.length).run P w = .ok cs.toArray w := run_loadCells_list (P := P) w ad cs hc
  cases hd : d.isRow with
  | true =>
    rw [hd] at hagg
    simp [Instr.loadAt, Instr.sureAddr, loadVar, Sem.run_bind, hagg, sizeOf, typeInfo, hi, hs, hl]
  | false =>
    rw [hd] at hagg
    have hl1 := h1 hd
    match cs, hl1 with
    | [v], _ =>
      have h0 := hc 0 v rfl
      have e0 : ad.add 0 = ad := by simp [Addr.add]
      rw [e0] at h0
      simp [Instr.loadAt, Instr.sureAddr, loadVar, Sem.run_bind, hagg, h0]

theorem sound_load_box {t x x' i d sz ag n off ag'} {cs : List AV} (h : o.op = .load t x) (hx : CO x x') (hi : P.info? t = some i) (hs : i.size = sz) (hu : P.underlying t = some d) (hag : d.isRow = ag)
    (hc1 : off + sz ≤ cs.length) (hc2 : ag = false → sz = 1) (c : Prop) :
    OpLoc E P ro o [(x', .ptr n off)] { c := c, v := subA off sz ag cs, hin := [(n, .box ag' cs)] } := by
  intro G a w hp H hx' hn _ K Q hK
  have hr := ev1 hx' hx
  cases he : a.eval x <;> rw [he] at hr <;> try (cases hr; done)
  cases hr
  rename_i b hb
  obtain ⟨arr, e1, e2, e3⟩ := H.readBox (hn (n, .box ag' cs) (by simp)) hb
  have hlen : ((arr.toList.drop off).take sz).length = sz := by simp [e1.1]; omega
  have hrun := run_loadAt' (P := P) (t := t) (ad := ⟨b, off, none⟩) (cs := (arr.toList.drop off).take sz) (w := w) (i := i) (d := d) (fun j v hj => by
    rw [add_mk, e3]
    rw [List.getElem?_take] at hj
    split at hj
    · simpa using hj
    · cases hj) hi (by rw [hlen, hs]) hu (fun hf => by rw [hlen]; exact hc2 (by rw [← hag, hf]))
  refine wpIn_value (by simp [h]) (v := if d.isRow then .agg ((arr.toList.drop off).take sz).toArray else ((arr.toList.drop off).take sz).headD undef) (w' := w) (by simp only [execOp, h, Sem.run_bind, he, hrun, Result.andThen_ok, Sem.run_pure]) ?_
  refine hK _ w G (GLe.refl G w) ?_ ?_
  · simpa [Hp.upd] using H
  · have hsub : RepAL G w ((cs.drop off).take sz) ((arr.toList.drop off).take sz).toArray := by
      refine ⟨by simp [e1.1], fun k c u hk hu => ?_⟩
      rw [List.getElem?_take] at hk
      simp only [List.getElem?_toArray, List.getElem?_take] at hu
      split at hk
      · rename_i hlt
        rw [if_pos hlt] at hu
        rw [List.getElem?_drop] at hk hu
        exact e1.2 _ c u hk (by simpa using hu)
      · cases hk
    cases hag' : ag with
    | true =>
      rw [hag'] at hag
      simp only [hag, if_true, subA]
      exact repA_mkAgg hsub (fun c hc => e2 c (List.mem_of_mem_drop (List.mem_of_mem_take hc)))
    | false =>
      rw [hag'] at hag
      have h1 := hc2 hag'
      subst h1
      simp only [hag, Bool.false_eq_true, if_false, subA]
      have ho : off < cs.length := by omega
      have ho' : off < arr.size := by rw [e1.1]; exact ho
      have q1 : ((arr.toList.drop off).take 1).headD undef = arr[off] := by
        rw [List.drop_eq_getElem_cons (by simpa using ho')]
        simp
      rw [q1]
      exact e1.2 off _ _ (by simp [List.getD, List.getElem?_eq_getElem ho]) (by simp [ho'])

theorem Rep.fits {I : Addr → Prop} {w : World} {x : D} {v : Value} (vs : List Value) (ag : Bool) (hl : vs.length = x.cells.length) (h1 : ∀ c ∈ x.cells, c.one = true) (hag : x.isAgg = ag) (ho : ag = false → x.one = true)
    (hr : ∀ (k : Nat) (c : D) (u : Value), x.cells[k]? = some c → vs[k]? = some u → Rep I w c u) (hv : v = if ag then .agg vs.toArray else vs.headD undef) : Rep I w x v := by
  subst hv
  cases ag with
  | true =>
    cases x <;> simp [D.isAgg] at hag
    rename_i cs
    exact .agg (by rw [List.size_toArray]; exact hl) h1 (fun k c u hk hu => hr k c u hk (by simpa using hu))
  | false =>
    have e : x.cells = [x] := by cases x <;> first | rfl | simp [D.isAgg] at hag
    rw [e] at hl hr
    match vs, hl with
    | [u], _ => exact hr 0 x u rfl rfl

theorem sound_load_ip {t x x' i d sz ag} {y : D} (h : o.op = .load t x) (hx : CO x x') (hi : P.info? t = some i) (hs : i.size = sz) (hu : P.underlying t = some d) (hag : d.isRow = ag)
    (hc1 : y.fits sz ag) (hc2 : ag = false → sz = 1) (c : Prop) :
    OpLoc E P ro o [(x', .d (.ip y))] { c := c, v := .d y } :=
  opLoc_pure (by simp [h]) fun G a w hp H hx' => by
    have hr := (ev1 hx' hx).of_d
    generalize he : a.eval x = u at hr
    obtain ⟨f1, f2, f3⟩ := hc1
    cases hr
    rename_i ad vs h1 hI hr
    have hvl : ((List.range sz).map vs).length = sz := by simp
    have hrun := run_loadAt' (P := P) (t := t) (ad := ad) (cs := (List.range sz).map vs) (w := w) (i := i) (d := d) (fun j v hj => by
      simp only [List.getElem?_map, Option.map_eq_some_iff] at hj
      obtain ⟨k, hk, rfl⟩ := hj
      have hjs : j < sz := by
        rcases Nat.lt_or_ge j sz with hlt | hge
        · exact hlt
        · rw [List.getElem?_eq_none (by simpa using hge)] at hk; cases hk
      rw [List.getElem?_range hjs] at hk
      injection hk with hk; subst hk
      exact (hI j _ (List.getElem?_eq_getElem (by rw [f1]; exact hjs))).2) hi (by rw [hvl, hs]) hu (fun hf => by rw [hvl]; exact hc2 (by rw [← hag, hf]))
    refine ⟨if d.isRow then .agg ((List.range sz).map vs).toArray else ((List.range sz).map vs).headD undef, by simp only [execOp, h, Sem.run_bind, he, hrun, Result.andThen_ok, Sem.run_pure], .d (Rep.fits ((List.range sz).map vs) ag (by rw [hvl, f1]) h1 f2 f3 (fun k c u hk hu => ?_) (by rw [← hag]))⟩
    simp only [List.getElem?_map, Option.map_eq_some_iff] at hu
    obtain ⟨k', hk', rfl⟩ := hu
    have hlt : k < sz := by
      rcases Nat.lt_or_ge k sz with hlt | hge
      · exact hlt
      · rw [List.getElem?_eq_none (by simpa using hge)] at hk'; cases hk'
    rw [List.getElem?_range hlt] at hk'
    injection hk' with hk'; subst hk'
    exact hr k c hk

theorem sound_store {t x y x' y' i sz n off ag'} {cs : List AV} {v : AV} (h : o.op = .store t x y) (hx : CO x x') (hy : CO y y') (hi : P.info? t = some i) (hs : i.size = sz)
    (hc1 : v.cells.length = sz) (hc2 : v.noTup = true) (hc3 : off + sz ≤ cs.length) (c : Prop) :
    OpLoc E P ro o [(x', .ptr n off), (y', v)] { c := c, v := .tup [], hin := [(n, .box ag' cs)], up := [(n, .box ag' (setAt cs off v.cells))] } := by
  intro G a w hp H hx' hn _ K Q hK
  obtain ⟨hr, hr2⟩ := ev2 hx' hx hy
  cases he : a.eval x <;> rw [he] at hr <;> try (cases hr; done)
  cases hr
  rename_i b hb
  obtain ⟨hcl, hone⟩ := hr2.cells hc2
  obtain ⟨w', e1, e2, e3⟩ := WRel.setBoxes (ag := ag') P v.cells (a.eval y).cells.toList off 0 hp w cs H (hn (n, .box ag' cs) (by simp)) hb (by simp [hcl.1])
    (fun k c u hk hu => ⟨hcl.2 k c u hk (by simpa using hu), hone c (List.mem_of_getElem? hk)⟩) (by omega)
  have e1' : (storeVar t ⟨b, off, none⟩ (a.eval y)).run P w = .ok () w' := by
    have : (a.eval y).cells.size = i.size := by rw [hcl.1, hc1, hs]
    simp [storeVar, sizeOf, typeInfo, hi, this, e1]
  refine wpIn_skipv (by simp [h]) (w' := w') (by simp only [execOp, h, Sem.run_bind, he, Instr.storeAt, Instr.sureAddr, Sem.run_pure, Result.andThen_ok, e1']) ?_
  exact hK undef w' G e2 (by simpa using e3) (.tup rfl (fun k c v hk => by simp at hk))

end
end Go.Proofs.Ytbfjmachkbhfnaa.AL
end

section
namespace Go.Proofs.Ytbfjmachkbhfnaa.AL
open Go

section
variable {E : Env} {P : Program} {ro : Option Nat} {o : Oper}

theorem eqGuard_int (P : Program) (w : World) (op : BinOp) (t : TypeId) (x y : Operand) (k k' : IntKind) (a b : Int) : (eqGuard op t x y (.int k a) (.int k' b)).run P w = .ok () w := by
  unfold eqGuard; cases op <;> simp
theorem eqGuard_str (P : Program) (w : World) (op : BinOp) (t : TypeId) (x y : Operand) (a b : ByteArray) : (eqGuard op t x y (.string a) (.string b)).run P w = .ok () w := by
  unfold eqGuard; cases op <;> simp

theorem tmod_range {k : IntKind} {a b : Int} (ha : k.min ≤ a ∧ a ≤ k.max) (hb : k.min ≤ b ∧ b ≤ k.max) (_h0 : b ≠ 0) : k.min ≤ a.tmod b ∧ a.tmod b ≤ k.max := by
  have h1 : (a.tmod b).natAbs ≤ a.natAbs := by
    have := Int.natAbs_tmod a b
    have h3 : a.natAbs % b.natAbs ≤ a.natAbs := Nat.mod_le _ _
    omega
  have h2 : 0 ≤ a → 0 ≤ a.tmod b := fun h => Int.tmod_nonneg b h
  have h4 : a ≤ 0 → a.tmod b ≤ 0 := fun h => by
    have := Int.tmod_nonneg (a := -a) b (by omega)
    rw [Int.neg_tmod] at this
    omega
  have hm : k.min ≤ 0 := by cases k <;> simp [IntKind.min, IntKind.bits, IntKind.signed]
  have hM : 0 ≤ k.max := by cases k <;> simp [IntKind.max, IntKind.bits, IntKind.signed]
  rcases Int.le_total 0 a with h | h
  · have := h2 h; omega
  · have := h4 h; omega

theorem sound_arith_int {op : BinOp} {t u x y x' y'} {k k' : IntKind} {a b : Int} {c : Prop} {r : Value} (h : o.op = .binOp op t x y u) (hx : CO x x') (hy : CO y y') (hop : op ≠ .shl ∧ op ≠ .shr)
    (hr : arithV op k a b = some (c, r)) (hk : k = k') (hc : c) (p : Prop) :
    OpLoc E P ro o [(x', .d (.lit (.int k a))), (y', .d (.lit (.int k' b)))] { c := p, v := .d (.lit r) } :=
  opLoc_pure (by simp [h]) fun G ac w hp H hv => by
    obtain ⟨v1, v2⟩ := ev2 hv hx hy
    obtain ⟨e1, s1⟩ := v1.lit
    obtain ⟨e2, s2⟩ := v2.lit
    subst hk
    have hrun : (binOp op t (.int k a) (.int k b)).run P w = .ok r w ∧ Sc r := by
      simp only [Sc] at s1 s2
      cases op <;> simp only [arithV, Option.some.injEq, Prod.mk.injEq, reduceCtorEq] at hr <;> obtain ⟨rfl, rfl⟩ := hr <;> simp [binOp, Op.intArith, Op.intDiv, Op.intBits, Op.intCmp, Sc, wrap_range] at hc ⊢
      · exact fun h => absurd h hc
      · exact ⟨fun h => absurd h hc, tmod_range s1 s2 hc⟩
    refine ⟨r, ?_, .d (.lit hrun.2)⟩
    simp only [execOp, h, Sem.run_bind, e1, e2, eqGuard_int, Result.andThen_ok, hrun.1, Sem.run_pure]

theorem sound_arith_str {op : BinOp} {t u x y x' y'} {a b : ByteArray} {c : Prop} {r : Value} (h : o.op = .binOp op t x y u) (hx : CO x x') (hy : CO y y')
    (hr : strV op a b = some (c, r)) (hc : c) (p : Prop) :
    OpLoc E P ro o [(x', .d (.lit (.string a))), (y', .d (.lit (.string b)))] { c := p, v := .d (.lit r) } :=
  opLoc_pure (by simp [h]) fun G ac w hp H hv => by
    obtain ⟨v1, v2⟩ := ev2 hv hx hy
    obtain ⟨e1, s1⟩ := v1.lit
    obtain ⟨e2, s2⟩ := v2.lit
    have hrun : (binOp op t (.string a) (.string b)).run P w = .ok r w ∧ Sc r := by
      cases op <;> simp only [strV, Option.some.injEq, Prod.mk.injEq, reduceCtorEq] at hr <;> obtain ⟨rfl, rfl⟩ := hr <;> simp [binOp, Op.stringOp, Sc] at hc ⊢
      exact ⟨by omega, hc⟩
    refine ⟨r, ?_, .d (.lit hrun.2)⟩
    simp only [execOp, h, Sem.run_bind, e1, e2, eqGuard_str, Result.andThen_ok, hrun.1, Sem.run_pure]

theorem sound_not {t x x'} {b : Bool} (h : o.op = .unOp .not t x) (hx : CO x x') (p : Prop) : OpLoc E P ro o [(x', .d (.lit (.bool b)))] { c := p, v := .d (.lit (.bool !b)) } :=
  opLoc_pure (by simp [h]) fun G ac w hp H hv => by
    have e1 := (ev1 hv hx).lit.1
    exact ⟨.bool !b, by simp [execOp, h, e1, Op.unary], repBool _⟩

theorem run_fieldAt {s : TypeId} {fs : Array Field} {f : Nat} {fd : Field} {i : TypeInfo} {w : World} {ad : Addr} (hu : P.underlying s = some (.struct fs)) (hf : fs[f]? = some fd) (hi : P.info? fd.type = some i) (hs0 : i.size ≠ 0) :
    (Instr.fieldAt s (.pointer (some ad)) f).run P w = .ok (.pointer (some (ad.add fd.offset))) w := by
  simp [Instr.fieldAt, run_underlying hu, hf, Instr.sureAddr, fieldPlace, sizeOf, typeInfo, hi, hs0]

theorem sound_field_box {s x x' fs f fd i fsz n off} (h : o.op = .fieldAddr s x f) (hx : CO x x') (hu : P.underlying s = some (.struct fs)) (hf : fs[f]? = some fd) (hi : P.info? fd.type = some i) (hs : i.size = fsz) (hs0 : fsz ≠ 0) (p : Prop) :
    OpLoc E P ro o [(x', .ptr n off)] { c := p, v := .ptr n (off + fd.offset) } :=
  opLoc_pure (by simp [h]) fun G ac w hp H hv => by
    have hr := ev1 hv hx
    cases he : ac.eval x <;> rw [he] at hr <;> try (cases hr; done)
    cases hr
    rename_i b hb
    exact ⟨.pointer (some ⟨b, off + fd.offset, none⟩), by simp only [execOp, h, Sem.run_bind, he, run_fieldAt hu hf hi (by rw [hs]; exact hs0), add_mk, Result.andThen_ok, Sem.run_pure], .ptr hb⟩

theorem subD_cells {x : D} {off fsz : Nat} {ag : Bool} (hc1 : off + fsz ≤ x.cells.length) (hc2 : ag = false → fsz = 1) (h1 : ∀ c ∈ x.cells, c.one = true) : (subD off fsz ag x).cells = (x.cells.drop off).take fsz := by
  cases ag with
  | true => rfl
  | false =>
    have := hc2 rfl
    subst this
    have ho : off < x.cells.length := by omega
    have e : subD off 1 false x = x.cells[off] := by simp [subD, List.getD, List.getElem?_eq_getElem ho]
    rw [e, List.drop_eq_getElem_cons ho]
    have h1' := h1 _ (List.getElem_mem ho)
    simp only [List.take_succ_cons, List.take_zero]
    generalize x.cells[off] = y at h1' ⊢
    cases y <;> first | rfl | simp [D.one] at h1'

theorem rep_sub {I : Addr → Prop} {w : World} {x : D} {ad : Addr} {vs : Nat → Value} {off fsz : Nat} {ag : Bool} (h1 : ∀ c ∈ x.cells, c.one = true)
    (hI : ∀ k c, x.cells[k]? = some c → I (ad.add k) ∧ w.cell? (ad.add k) = some (vs k)) (hr : ∀ (k : Nat) (c : D), x.cells[k]? = some c → Rep I w c (vs k))
    (hc1 : off + fsz ≤ x.cells.length) (hc2 : ag = false → fsz = 1) : Rep I w (.ip (subD off fsz ag x)) (.pointer (some (ad.add off))) := by
  have hs := subD_cells hc1 hc2 h1
  refine .ip (ad.add off) (fun k => vs (off + k)) (fun c hc => ?_) (fun k c hk => ?_) (fun k c hk => ?_)
  · rw [hs] at hc; exact h1 c (List.mem_of_mem_drop (List.mem_of_mem_take hc))
  · rw [hs, List.getElem?_take] at hk
    split at hk
    · rw [List.getElem?_drop] at hk; rw [add_add]; exact hI _ c hk
    · cases hk
  · rw [hs, List.getElem?_take] at hk
    split at hk
    · rw [List.getElem?_drop] at hk; exact hr _ c hk
    · cases hk

theorem sound_field_ip {s x x' fs f fd i fsz ag} {y : D} (h : o.op = .fieldAddr s x f) (hx : CO x x') (hu : P.underlying s = some (.struct fs)) (hf : fs[f]? = some fd) (hi : P.info? fd.type = some i) (hs : i.size = fsz) (hs0 : fsz ≠ 0)
    (hc1 : fd.offset + fsz ≤ y.cells.length) (hc2 : ag = false → fsz = 1) (p : Prop) :
    OpLoc E P ro o [(x', .d (.ip y))] { c := p, v := .d (.ip (subD fd.offset fsz ag y)) } :=
  opLoc_pure (by simp [h]) fun G ac w hp H hv => by
    have hr := (ev1 hv hx).of_d
    generalize he : ac.eval x = u at hr
    cases hr
    rename_i ad vs h1 hI hr
    exact ⟨.pointer (some (ad.add fd.offset)), by simp only [execOp, h, Sem.run_bind, he, run_fieldAt hu hf hi (by rw [hs]; exact hs0), Result.andThen_ok, Sem.run_pure], .d (rep_sub h1 hI hr hc1 hc2)⟩

theorem run_part {t : TypeId} {i : TypeInfo} {d : TypeDesc} {w : World} {cs : Array Value} {off : Nat} (hi : P.info? t = some i) (hu : P.underlying t = some d) (hf : off + i.size ≤ cs.size) (h1 : d.isRow = false → i.size = 1) :
    (part t cs off).run P w = .ok (if d.isRow then .agg (cs.extract off (off + i.size)) else cs.getD off undef) w := by
  have hagg : (isAgg t).run P w = .ok d.isRow w := by
    unfold isAgg
    rw [Sem.run_bind, run_underlying hu w]
    cases d <;> simp [TypeDesc.isRow]
  cases hd : d.isRow with
  | true => rw [hd] at hagg; simp [part, hagg, sizeOf, typeInfo, hi]
  | false =>
    rw [hd] at hagg
    have := h1 hd
    have ho : off < cs.size := by omega
    simp [part, hagg, ho]

theorem sound_fieldv {s x x' fs f fd i d fsz ag} {cs : List D} (h : o.op = .field s x f) (hx : CO x x') (hu : P.underlying s = some (.struct fs)) (hf : fs[f]? = some fd) (hi : P.info? fd.type = some i) (hs : i.size = fsz)
    (hd : P.underlying fd.type = some d) (hag : d.isRow = ag) (hc1 : fd.offset + fsz ≤ cs.length) (hc2 : ag = false → fsz = 1) (p : Prop) :
    OpLoc E P ro o [(x', .d (.agg cs))] { c := p, v := .d (subD fd.offset fsz ag (.agg cs)) } :=
  opLoc_pure (by simp [h]) fun G ac w hp H hv => by
    have hr := (ev1 hv hx).of_d
    generalize he : ac.eval x = u at hr
    cases hr
    rename_i vs hl h1 hr
    have hp := run_part (P := P) (w := w) (cs := vs) (off := fd.offset) hi hd (by rw [hs, hl]; exact hc1) (fun hf => by rw [hs]; exact hc2 (by rw [← hag, hf]))
    refine ⟨if d.isRow then .agg (vs.extract fd.offset (fd.offset + i.size)) else vs.getD fd.offset undef, by simp [execOp, h, he, Instr.field, run_underlying hu, hf, asAgg, hp], .d ?_⟩
    cases hag' : ag with
    | true =>
      rw [hag'] at hag
      simp only [hag, if_true, subD, D.cells]
      refine .agg (by simp [hl, hs]; omega) (fun c hc => h1 c (List.mem_of_mem_drop (List.mem_of_mem_take hc))) (fun k c u hk hu => ?_)
      rw [List.getElem?_take] at hk
      split at hk
      · rw [List.getElem?_drop] at hk
        rw [Array.getElem?_extract] at hu
        split at hu
        · exact hr _ c u hk hu
        · cases hu
      · cases hk
    | false =>
      rw [hag'] at hag
      have := hc2 hag'
      subst this
      have ho : fd.offset < cs.length := by omega
      have ho' : fd.offset < vs.size := by omega
      simp only [hag, Bool.false_eq_true, if_false, subD, D.cells]
      exact hr fd.offset _ _ (by simp [List.getD, List.getElem?_eq_getElem ho]) (by simp [ho'])

theorem flat_len {sz : Nat} : ∀ {es : List D}, (∀ e ∈ es, e.cells.length = sz) → (D.flat es).length = es.length * sz
  | [], _ => by simp [D.flat]
  | e :: es, h => by
    have ih := flat_len (es := es) (fun x hx => h x (by simp [hx]))
    simp only [D.flat, List.flatMap_cons, List.length_append, List.length_cons] at ih ⊢
    rw [ih, h e (by simp), Nat.add_mul]; omega

theorem flat_get {sz : Nat} : ∀ {es : List D} (_ : ∀ e ∈ es, e.cells.length = sz) {i : Nat} {e : D}, es[i]? = some e → ∀ k, k < sz → (D.flat es)[i * sz + k]? = e.cells[k]?
  | [], _, i, e, he, k, hk => by simp at he
  | x :: es, h, 0, e, he, k, hk => by
    simp at he; subst he
    simp only [D.flat, List.flatMap_cons, Nat.zero_mul, Nat.zero_add]
    rw [List.getElem?_append_left (by rw [h x (by simp)]; exact hk)]
  | x :: es, h, i + 1, e, he, k, hk => by
    have ih := flat_get (es := es) (fun y hy => h y (by simp [hy])) (i := i) (e := e) (by simpa using he) k hk
    have hx := h x (by simp)
    simp only [D.flat, List.flatMap_cons] at ih ⊢
    rw [List.getElem?_append_right (by rw [hx, Nat.add_mul]; omega), hx, ← ih]
    congr 1
    rw [Nat.add_mul]; omega

theorem Rep.sl_inv {I : Addr → Prop} {w : World} {sz : Nat} {es : List D} {v : Value} (h : Rep I w (.sl sz es) v) :
    ∃ (n : Nat) (A : Option Addr) (cap : Nat) (ad : Addr) (vs : Nat → Value), v = .slice A n cap ∧ n = es.length ∧ n ≤ cap ∧ cap ≤ 9223372036854775807 ∧ (A = some ad ∨ es = []) ∧ (∀ e ∈ es, e.cells.length = sz) ∧ (∀ c ∈ D.flat es, c.one = true) ∧
      (∀ k c, (D.flat es)[k]? = some c → I (ad.add k) ∧ w.cell? (ad.add k) = some (vs k)) ∧ (∀ k c, (D.flat es)[k]? = some c → Rep I w c (vs k)) := by
  cases h with
  | sl ad vs hn hc hm hA hz h1 hI hr => exact ⟨_, _, _, ad, vs, rfl, hn, hc, hm, hA, hz, h1, hI, hr⟩

/-- An element of a slice, by its address. -/
theorem rep_elem {I : Addr → Prop} {w : World} {sz : Nat} {es : List D} {ad : Addr} {vs : Nat → Value} (hz : ∀ e ∈ es, e.cells.length = sz) (h1 : ∀ c ∈ D.flat es, c.one = true)
    (hI : ∀ k c, (D.flat es)[k]? = some c → I (ad.add k) ∧ w.cell? (ad.add k) = some (vs k)) (hr : ∀ k c, (D.flat es)[k]? = some c → Rep I w c (vs k))
    {i : Nat} {e : D} (he : es[i]? = some e) : Rep I w (.ip e) (.pointer (some (ad.add (i * sz)))) := by
  have hm : e ∈ es := List.mem_of_getElem? he
  have hget : ∀ k c, e.cells[k]? = some c → (D.flat es)[i * sz + k]? = some c := fun k c hk => by
    rw [flat_get hz he k (by
      have := hz e hm
      rcases Nat.lt_or_ge k sz with h | h
      · exact h
      · rw [List.getElem?_eq_none (by omega)] at hk; cases hk)]
    exact hk
  refine .ip (ad.add (i * sz)) (fun k => vs (i * sz + k)) (fun c hc => h1 c (by simp only [D.flat, List.mem_flatMap]; exact ⟨e, hm, hc⟩)) (fun k c hk => ?_) (fun k c hk => hr _ c (hget k c hk))
  rw [add_add]
  exact hI _ c (hget k c hk)

theorem sound_index_sl {t e x j x' j' i sz sz'} {k : IntKind} {es : List D} {ix : Int} {v : AV} (h : o.op = .indexAddr t x j) (hx : CO x x') (hj : CO j j') (hu : P.underlying t = some (.slice e)) (hi : P.info? e = some i) (hs : i.size = sz)
    (hv : ∀ (G : Gh) (w : World) (u : Value), RepA G w v u → Rep G.I w (.sl sz' es) u) (hc : 0 ≤ ix ∧ ix < es.length) (hzz : sz' = sz) (p : Prop) :
    OpLoc E P ro o [(x', v), (j', .d (.lit (.int k ix)))] { c := p, v := .d (.ip (es.getD ix.toNat default)) } :=
  opLoc_pure (by simp [h]) fun G ac w hp H hvv => by
    obtain ⟨v1, v2⟩ := ev2 hvv hx hj
    have hr := hv G w _ v1
    have e2 := v2.lit.1
    generalize he : ac.eval x = u at hr
    obtain ⟨n, A, cap, ad, vs, rfl, hn, hcap, hm, hA, hz, h1, hI, hrr⟩ := hr.sl_inv
    have hne : es ≠ [] := by rintro rfl; simp at hc; omega
    have hA' := hA.resolve_right hne
    subst hA'
    have hlt : ix.toNat < es.length := by omega
    have hget : es[ix.toNat]? = some es[ix.toNat] := List.getElem?_eq_getElem hlt
    subst hzz
    refine ⟨.pointer (some (ad.add (ix.toNat * sz'))), ?_, .d ?_⟩
    · simp only [execOp, h, Sem.run_bind, he, e2, Instr.indexAt, asIntOf, Sem.run_pure, Result.andThen_ok, run_underlying hu]
      simp [sizeOf, typeInfo, hi, hs, hn, hc.1, hc.2]
    · have : es.getD ix.toNat default = es[ix.toNat] := by simp [List.getD, hget]
      rw [this]
      exact rep_elem hz h1 hI hrr hget

end
end Go.Proofs.Ytbfjmachkbhfnaa.AL
end

section
namespace Go.Proofs.Ytbfjmachkbhfnaa.AL
open Go

theorem addr_eta {a : Addr} {w : World} {v : Value} (h : w.cell? a = some v) : a = ⟨a.block, a.off, none⟩ := by
  obtain ⟨b, o, s⟩ := a
  simp only [World.cell?] at h
  split at h
  · cases s with
    | none => rfl
    | some _ => simp at h
  · cases h

theorem WRel.killRow {E : Env} {G : Gh} {h : Hp} {w : World} (H : WRel E G h w) {r : Nat} (hr : h r = some .row) : WRel E G (h.upd [(r, .dead)]) w := by
  refine { H with fresh := fun n hn => ?_, box := fun n ag cs hn => ?_, row := fun r' hr' => ?_, rinj := fun r1 r2 A n cap sz A' n' cap' sz' h1 h2 => ?_, obj := fun m s hm => (by
    simp only [Hp.upd] at hm; split at hm
    · injection hm with hm; cases hm
    · exact H.obj m s hm) }
  · simp only [Hp.upd] at hn; split at hn
    · cases hn
    · exact H.fresh n hn
  · simp only [Hp.upd] at hn; split at hn
    · injection hn with hn; cases hn
    · exact H.box n ag cs hn
  · simp only [Hp.upd] at hr'; split at hr'
    · injection hr' with hr'; cases hr'
    · exact H.row r' hr'
  · simp only [Hp.upd] at h1 h2
    split at h1
    · injection h1 with h1; cases h1
    · split at h2
      · injection h2 with h2; cases h2
      · exact H.rinj r1 r2 A n cap sz A' n' cap' sz' h1 h2

theorem WRel.addRow {E : Env} {G : Gh} {h : Hp} {w : World} (H : WRel E G h w) {q : Nat} (hq : h q = none) {A : Option Addr} {n cap sz : Nat} (ht : Tail E G w A n cap sz)
    (hd : n * sz < cap * sz → ∀ r' A' n' cap' sz', h r' = some .row → G.row r' = some (A', n', cap', sz') → n' * sz' < cap' * sz' → ∀ ad ad', A = some ad → A' = some ad' → ad.block ≠ ad'.block) :
    GLe G w { G with row := fun m => if m = q then some (A, n, cap, sz) else G.row m } w ∧
    WRel E { G with row := fun m => if m = q then some (A, n, cap, sz) else G.row m } (h.upd [(q, .row)]) w := by
  obtain ⟨hb0, hr0⟩ := H.fresh q hq
  have hle : GLe G w { G with row := fun m => if m = q then some (A, n, cap, sz) else G.row m } w := ⟨fun a ha => ⟨ha, rfl⟩, fun _ _ h => h, fun m r hm => by
    dsimp only; split
    · rename_i e; subst e; rw [hr0] at hm; cases hm
    · exact hm, fun _ _ _ => rfl⟩
  refine ⟨hle, { H with gb := H.gb.trans hle, obj := fun m s hm => (by
    simp only [Hp.upd] at hm; split at hm
    · injection hm with hm; cases hm
    · exact H.obj m s hm), i0 := H.i0, inew := H.inew, icell := H.icell, bown := H.bown, binj := H.binj, fresh := fun m hm => ?_, box := fun m ag cs hm => ?_, row := fun r hr => ?_, rinj := fun r1 r2 A1 n1 c1 s1 A2 n2 c2 s2 h1 h2 g1 g2 l1 l2 a1 a2 e1 e2 eb => ?_ }⟩
  · simp only [Hp.upd] at hm; split at hm
    · cases hm
    · rename_i hne; dsimp only; rw [if_neg hne]; exact H.fresh m hm
  · simp only [Hp.upd] at hm; split at hm
    · injection hm with hm; cases hm
    · obtain ⟨b, arr, ty, f1, f2, f3, f4⟩ := H.box m ag cs hm
      exact ⟨b, arr, ty, f1, f2, f3.mono hle, f4⟩
  · simp only [Hp.upd] at hr
    dsimp only
    split at hr
    · rename_i e; rw [if_pos e]; exact ⟨A, n, cap, sz, rfl, ht⟩
    · rename_i hne; rw [if_neg hne]; exact H.row r hr
  · simp only [Hp.upd] at h1 h2
    dsimp only at g1 g2
    split at h1
    · rename_i q1
      rw [if_pos q1] at g1; injection g1 with g1; injection g1 with x1 x2; injection x2 with x2 x3; injection x3 with x3 x4
      subst x1; subst x2; subst x3; subst x4
      split at h2
      · rename_i q2; rw [q1, q2]
      · rename_i q2; rw [if_neg q2] at g2
        exact absurd eb (hd l1 r2 A2 n2 c2 s2 h2 g2 l2 a1 a2 e1 e2)
    · rename_i q1
      rw [if_neg q1] at g1
      split at h2
      · rename_i q2; rw [if_pos q2] at g2; injection g2 with g2; injection g2 with x1 x2; injection x2 with x2 x3; injection x3 with x3 x4
        subst x1; subst x2; subst x3; subst x4
        exact absurd eb.symm (hd l2 r1 A1 n1 c1 s1 h1 g1 l1 a2 a1 e2 e1)
      · rename_i q2; rw [if_neg q2] at g2
        exact H.rinj r1 r2 A1 n1 c1 s1 A2 n2 c2 s2 h1 h2 g1 g2 l1 l2 a1 a2 e1 e2 eb

theorem setCells_heap_ne (b : Nat) : ∀ (vs : List Value) (o : Nat) (w : World) (k : Nat), k ≠ b → (w.setCells b o vs).heap[k]? = w.heap[k]?
  | [], _, _, _, _ => rfl
  | v :: r, o, w, k, h => by rw [World.setCells, setCells_heap_ne b r _ _ k h]; exact RowKit.Below.heap_setCell w _ v k h

theorem setCells_parts (b : Nat) : ∀ (vs : List Value) (o : Nat) (w : World), (w.setCells b o vs).os = w.os ∧ (w.setCells b o vs).tape = w.tape ∧ (w.setCells b o vs).output = w.output ∧ (w.setCells b o vs).heap.size = w.heap.size
  | [], _, _ => ⟨rfl, rfl, rfl, rfl⟩
  | v :: r, o, w => by
    obtain ⟨h1, h2, h3, h4⟩ := setCells_parts b r (o + 1) (w.setCell ⟨b, o, none⟩ v)
    exact ⟨h1, h2, h3, by rw [World.setCells, h4]; simp [World.setCell]⟩

theorem setCells_cell_out (b : Nat) : ∀ (vs : List Value) (o : Nat) (w : World) (a : Addr), (a.block = b → a.off < o ∨ o + vs.length ≤ a.off) → (w.setCells b o vs).cell? a = w.cell? a
  | [], _, _, _, _ => rfl
  | v :: r, o, w, a, h => by
    rw [World.setCells, setCells_cell_out b r (o + 1) _ a (fun e => by have := h e; simp at this; omega), World.cell?_setCell_other _ _ _ _ (fun e => by
      subst e; have := h rfl; simp at this; omega)]

/-- Free cells are filled: from now on they stay. -/
theorem WRel.fill {E : Env} {G : Gh} {h : Hp} {w : World} (H : WRel E G h w) {b o : Nat} {vs : List Value} (hc : ∀ k, k < vs.length → (w.cell? ⟨b, o + k, none⟩).isSome = true)
    (hI : ∀ k, k < vs.length → ¬ G.I ⟨b, o + k, none⟩) (hK : ¬ E.K b) (hb : ∀ m, G.box m ≠ some b) (hE : E.w0.heap.size ≤ b)
    (hd : ∀ r A n cap sz, h r = some .row → G.row r = some (A, n, cap, sz) → n * sz < cap * sz → ∀ ad, A = some ad → ad.block ≠ b) :
    GLe G w { G with I := fun a => G.I a ∨ (∃ k, k < vs.length ∧ a = ⟨b, o + k, none⟩) } (w.setCells b o vs) ∧
    WRel E { G with I := fun a => G.I a ∨ (∃ k, k < vs.length ∧ a = ⟨b, o + k, none⟩) } h (w.setCells b o vs) := by
  obtain ⟨p1, p2, p3, p4⟩ := setCells_parts b vs o w
  have hin : ∀ a, G.I a → (w.setCells b o vs).cell? a = w.cell? a := fun a ha => setCells_cell_out b vs o w a (fun e => by
    obtain ⟨v, hv⟩ := Option.isSome_iff_exists.1 (H.icell a ha)
    have he := addr_eta hv
    rcases Nat.lt_or_ge a.off o with h1 | h1
    · exact .inl h1
    · rcases Nat.lt_or_ge a.off (o + vs.length) with h2 | h2
      · exfalso
        refine hI (a.off - o) (by omega) ?_
        rw [he] at ha
        rw [show o + (a.off - o) = a.off by omega, ← e]
        exact ha
      · exact .inr h2)
  have hle : GLe G w { G with I := fun a => G.I a ∨ (∃ k, k < vs.length ∧ a = ⟨b, o + k, none⟩) } (w.setCells b o vs) := ⟨fun a ha => ⟨.inl ha, hin a ha⟩, fun _ _ h => h, fun _ _ h => h, fun _ _ _ => rfl⟩
  refine ⟨hle, ⟨p1.trans H.os, p2.trans H.tape, p3.trans H.output, by rw [p4]; exact H.size, fun k hk => ?_, fun a ha => ?_, fun a ha => ?_, fun a ha => ?_, H.fresh, fun n ag cs hn => ?_, fun n c hn => ?_, H.binj, fun r hr => ?_, H.rinj, fun n s hn => (by
    obtain ⟨c, f1, f2⟩ := H.obj n s hn
    exact ⟨c, f1, (setCells_heap_ne b vs o w c (fun e => hb n (e ▸ f1))).trans f2⟩), H.gb.trans hle, H.gB⟩⟩
  · obtain ⟨h1, h2⟩ := H.kept k hk
    exact ⟨h1, (setCells_heap_ne b vs o w k (fun e => hK (e ▸ hk))).trans h2⟩
  · obtain ⟨h1, h2⟩ := H.i0 a ha
    exact ⟨.inl h1, (hin a h1).trans h2⟩
  · rcases ha with ha | ⟨k, hk, rfl⟩
    · exact H.inew a ha
    · exact .inr hE
  · rcases ha with ha | ⟨k, hk, rfl⟩
    · rw [hin a ha]; exact H.icell a ha
    · rw [World.cell?_setCells_in b vs o w hc k hk]
      simp [hk]
  · obtain ⟨c, arr, ty, f1, f2, f3, f4⟩ := H.box n ag cs hn
    exact ⟨c, arr, ty, f1, (setCells_heap_ne b vs o w c (fun e => hb n (e ▸ f1))).trans f2, f3.mono hle, f4⟩
  · obtain ⟨f1, f2, f3⟩ := H.bown n c hn
    refine ⟨by rw [p4]; exact f1, f2, fun a e ha => ?_⟩
    rcases ha with ha | ⟨k, hk, rfl⟩
    · exact f3 a e ha
    · exact hb n (by rw [hn]; exact congrArg some e.symm)
  · obtain ⟨A, n, cap, sz, f1, f2⟩ := H.row r hr
    refine ⟨A, n, cap, sz, f1, fun k hk hk' => ?_⟩
    obtain ⟨ad, e, c1, c2, c3, c4, c5⟩ := f2 k hk hk'
    have hne : ad.block ≠ b := hd r A n cap sz hr f1 (by omega) ad e
    have hne' : (ad.add k).block ≠ b := by rw [block_add]; exact hne
    refine ⟨ad, e, by rw [setCells_cell_out b vs o w _ (fun e => absurd e hne')]; exact c1, by rw [World.frozen?_setCells]; exact c2, fun hi => ?_, c4, c5⟩
    rcases hi with hi | ⟨j, hj, hi⟩
    · exact c3 hi
    · rw [hi] at hne'; exact hne' rfl

end Go.Proofs.Ytbfjmachkbhfnaa.AL
end

section
namespace Go.Proofs.Ytbfjmachkbhfnaa.AL
open Go

section
variable {E : Env} {P : Program} {ro : Option Nat} {o : Oper}

theorem elems_rep {v : AV} {sz : Nat} {es : List D} (h : v.elems = some (sz, es)) (G : Gh) (w : World) (u : Value) (hr : RepA G w v u) : Rep G.I w (.sl sz es) u := by
  unfold AV.elems at h
  split at h <;> simp only [Option.some.injEq, Prod.mk.injEq, reduceCtorEq] at h
  · obtain ⟨rfl, rfl⟩ := h
    have := hr.of_d
    cases this
    exact .sl ⟨0, 0, none⟩ (fun _ => undef) rfl (by simp) (by simp) (.inr rfl) (by simp) (by simp [D.flat]) (by simp [D.flat]) (by simp [D.flat])
  · obtain ⟨rfl, rfl⟩ := h
    exact hr.of_d
  · obtain ⟨rfl, rfl⟩ := h
    cases hr; assumption

theorem sound_index_elems {t e x j x' j' i sz sz'} {k : IntKind} {es : List D} {ix : Int} {v : AV} (h : o.op = .indexAddr t x j) (hx : CO x x') (hj : CO j j') (hu : P.underlying t = some (.slice e)) (hi : P.info? e = some i) (hs : i.size = sz)
    (hv : v.elems = some (sz', es)) (hc : sz' = sz ∧ 0 ≤ ix ∧ ix < es.length) (p : Prop) :
    OpLoc E P ro o [(x', v), (j', .d (.lit (.int k ix)))] { c := p, v := .d (.ip (es.getD ix.toNat default)) } :=
  sound_index_sl h hx hj hu hi hs (fun G w u hr => elems_rep hv G w u hr) hc.2 hc.1 p

theorem run_indexAt_arr {t e : TypeId} {n : Nat} {i : TypeInfo} {w : World} {ad : Addr} {k : IntKind} {ix : Int} (hu : P.underlying t = some (.array n e)) (hi : P.info? e = some i) (hc : 0 ≤ ix ∧ ix < n) :
    (Instr.indexAt t (.pointer (some ad)) (.int k ix)).run P w = .ok (.pointer (some (ad.add (ix.toNat * i.size)))) w := by
  simp [Instr.indexAt, asIntOf, run_underlying hu, Instr.sureAddr, sizeOf, typeInfo, hi, hc.1, hc.2]

theorem sound_indexA_box {t e n x j x' j' i sz b off} {k : IntKind} {ix : Int} (h : o.op = .indexAddr t x j) (hx : CO x x') (hj : CO j j') (hu : P.underlying t = some (.array n e)) (hi : P.info? e = some i) (hs : i.size = sz)
    (hc : 0 ≤ ix ∧ ix < n) (p : Prop) :
    OpLoc E P ro o [(x', .ptr b off), (j', .d (.lit (.int k ix)))] { c := p, v := .ptr b (off + ix.toNat * sz) } :=
  opLoc_pure (by simp [h]) fun G ac w hp H hv => by
    obtain ⟨v1, v2⟩ := ev2 hv hx hj
    have e2 := v2.lit.1
    generalize he : ac.eval x = u at v1
    cases v1
    rename_i bk hb
    exact ⟨.pointer (some ⟨bk, off + ix.toNat * sz, none⟩), by simp only [execOp, h, Sem.run_bind, he, e2, run_indexAt_arr hu hi hc, add_mk, hs, Result.andThen_ok, Sem.run_pure], .ptr hb⟩

theorem sound_indexA_ip {t e n x j x' j' i sz ag} {k : IntKind} {ix : Int} {y : D} (h : o.op = .indexAddr t x j) (hx : CO x x') (hj : CO j j') (hu : P.underlying t = some (.array n e)) (hi : P.info? e = some i) (hs : i.size = sz)
    (hc : 0 ≤ ix ∧ ix < n ∧ ix.toNat * sz + sz ≤ y.cells.length ∧ (ag = false → sz = 1)) (p : Prop) :
    OpLoc E P ro o [(x', .d (.ip y)), (j', .d (.lit (.int k ix)))] { c := p, v := .d (.ip (subD (ix.toNat * sz) sz ag y)) } :=
  opLoc_pure (by simp [h]) fun G ac w hp H hv => by
    obtain ⟨v1, v2⟩ := ev2 hv hx hj
    have e2 := v2.lit.1
    have v1 := v1.of_d
    generalize he : ac.eval x = u at v1
    cases v1
    rename_i ad vs h1 hI hr
    exact ⟨.pointer (some (ad.add (ix.toNat * sz))), by simp only [execOp, h, Sem.run_bind, he, e2, run_indexAt_arr hu hi ⟨hc.1, hc.2.1⟩, hs, Result.andThen_ok, Sem.run_pure], .d (rep_sub h1 hI hr hc.2.2.1 hc.2.2.2)⟩

theorem flat_take_drop {sz : Nat} {es : List D} (hz : ∀ e ∈ es, e.cells.length = sz) (l h : Nat) : ∀ k c, (D.flat ((es.take h).drop l))[k]? = some c → (D.flat es)[l * sz + k]? = some c := by
  intro k c hk
  have hz' : ∀ e ∈ (es.take h).drop l, e.cells.length = sz := fun e he => hz e (List.mem_of_mem_take (List.mem_of_mem_drop he))
  have hlen := flat_len hz'
  have hlt : k < ((es.take h).drop l).length * sz := by
    rw [← hlen]
    rcases Nat.lt_or_ge k (D.flat ((es.take h).drop l)).length with h' | h'
    · exact h'
    · rw [List.getElem?_eq_none h'] at hk; cases hk
  have hpos : 0 < sz := by
    rcases Nat.eq_zero_or_pos sz with h0 | h0
    · rw [h0] at hlt; omega
    · exact h0
  have hi : k / sz < ((es.take h).drop l).length := (Nat.div_lt_iff_lt_mul hpos).2 hlt
  have hg : ((es.take h).drop l)[k / sz]? = some ((es.take h).drop l)[k / sz] := List.getElem?_eq_getElem hi
  have hg2 : es[l + k / sz]? = some ((es.take h).drop l)[k / sz] := by
    rw [List.getElem?_drop, List.getElem?_take] at hg
    split at hg
    · exact hg
    · cases hg
  have hm := Nat.mod_lt k hpos
  have e1 : k = k / sz * sz + k % sz := by have := Nat.div_add_mod k sz; rw [Nat.mul_comm] at this; omega
  rw [e1, flat_get hz' hg _ hm] at hk
  rw [show l * sz + k = (l + k / sz) * sz + k % sz by rw [Nat.add_mul]; omega, flat_get hz hg2 _ hm]
  exact hk

/-- A part of a slice. -/
theorem rep_slice {I : Addr → Prop} {w : World} {sz : Nat} {es : List D} {A : Option Addr} {n cap l h m : Nat} (hr : Rep I w (.sl sz es) (.slice A n cap)) (hl : l ≤ h) (hh : h ≤ es.length) (hm : h ≤ m) (hm2 : m ≤ cap) :
    Rep I w (.sl sz ((es.take h).drop l)) (.slice (if m = l then A else A.map (·.add (l * sz))) (h - l) (m - l)) := by
  obtain ⟨n', A', cap', ad, vs, e, hn, hc, hcm, hA, hz, h1, hI, hrr⟩ := hr.sl_inv
  injection e with e1 e2 e3
  subst e1; subst e2; subst e3
  have hlen : ((es.take h).drop l).length = h - l := by simp; omega
  refine .sl (ad.add (l * sz)) (fun k => vs (l * sz + k)) hlen.symm (by omega) (by omega) ?_ (fun e he => hz e (List.mem_of_mem_take (List.mem_of_mem_drop he))) (fun c hc => ?_) (fun k c hk => ?_) (fun k c hk => hrr _ c (flat_take_drop hz l h k c hk))
  · by_cases hlh : l = h
    · right; apply List.eq_nil_of_length_eq_zero; omega
    · left
      rw [if_neg (by omega)]
      rcases hA with hA | hA
      · rw [hA]; rfl
      · subst hA; simp at hh; omega
  · obtain ⟨k, hk⟩ := List.getElem?_of_mem hc
    exact h1 c (List.mem_of_getElem? (flat_take_drop hz l h k c hk))
  · rw [add_add]; exact hI _ c (flat_take_drop hz l h k c hk)

theorem run_slice {t e : TypeId} {i : TypeInfo} {w : World} {A : Option Addr} {n cap : Nat} {lo hi : Option Value} {l h : Nat} (hu : P.underlying t = some (.slice e)) (hi' : P.info? e = some i)
    (hlo : (lo = none ∧ l = 0) ∨ ∃ k, lo = some (.int k (l : Int))) (hhi : (hi = none ∧ h = n) ∨ ∃ k, hi = some (.int k (h : Int))) (hlh : l ≤ h) (hn : h ≤ cap) :
    (Instr.sliceAt t (.slice A n cap) lo hi none).run P w = .ok (.slice (if cap = l then A else A.map (·.add (l * i.size))) (h - l) (cap - l)) w := by
  rcases hlo with ⟨rfl, rfl⟩ | ⟨k, rfl⟩ <;> rcases hhi with ⟨rfl, rfl⟩ | ⟨k', rfl⟩ <;>
    simp [Instr.sliceAt, run_underlying hu, Instr.slice, Instr.sliceBounds, Instr.sliceBound, asIntOf, sizeOf, typeInfo, hi', hn, hlh]

theorem run_slice3 {t e : TypeId} {i : TypeInfo} {w : World} {A : Option Addr} {n cap : Nat} {lo : Option Value} {l h m : Nat} {k1 k2 : IntKind} (hu : P.underlying t = some (.slice e)) (hi' : P.info? e = some i)
    (hlo : (lo = none ∧ l = 0) ∨ ∃ k, lo = some (.int k (l : Int))) (hlh : l ≤ h) (hhm : h ≤ m) (hn : m ≤ cap) :
    (Instr.sliceAt t (.slice A n cap) lo (some (.int k1 (h : Int))) (some (.int k2 (m : Int)))).run P w = .ok (.slice (if m = l then A else A.map (·.add (l * i.size))) (h - l) (m - l)) w := by
  rcases hlo with ⟨rfl, rfl⟩ | ⟨k, rfl⟩ <;>
    simp [Instr.sliceAt, run_underlying hu, Instr.slice, Instr.sliceBounds, Instr.sliceBound, asIntOf, sizeOf, typeInfo, hi', hn, hlh, hhm]

theorem sc_len {n : Nat} (h : n ≤ 9223372036854775807) : Sc (.int .i64 (n : Int)) := by refine ⟨?_, ?_⟩ <;> simp only [IntKind.min, IntKind.max, IntKind.bits, IntKind.signed] <;> simp <;> omega

theorem sound_len {x x' t e} {v : AV} {sz : Nat} {es : List D} (h : o.op = .call { callee := .builtin .len, args := #[x], argTypes := #[t] }) (hx : CO x x') (hu : P.underlying t = some (.slice e))
    (hv : v.elems = some (sz, es)) (p : Prop) : OpLoc E P ro o [(x', v)] { c := p, v := .d (.lit (.int .i64 es.length)) } :=
  opLoc_pure (by simp [h]) fun G a w hp H hvv => by
    have hr := elems_rep hv G w _ (ev1 hvv hx)
    obtain ⟨n, A, cap, ad, vs, e1, hn, hc, hm, _⟩ := hr.sl_inv
    refine ⟨.int .i64 n, by simp [execOp, h, resolve, invoke, builtin, e1, Builtin.len_, run_underlying hu, goInt], ?_⟩
    rw [hn]; exact .d (.lit (sc_len (by omega)))

theorem sound_lenS {x x' t} {s : ByteArray} (h : o.op = .call { callee := .builtin .len, args := #[x], argTypes := #[t] }) (hx : CO x x') (hu : P.underlying t = some .string)
    (p : Prop) : OpLoc E P ro o [(x', .d (.lit (.string s)))] { c := p, v := .d (.lit (.int .i64 s.size)) } :=
  opLoc_pure (by simp [h]) fun G a w hp H hvv => by
    obtain ⟨e1, s1⟩ := (ev1 hvv hx).lit
    exact ⟨.int .i64 s.size, by simp [execOp, h, resolve, invoke, builtin, e1, Builtin.len_, run_underlying hu, goInt], .d (.lit (sc_len s1))⟩

/-- The operand of a bound. -/
theorem bound_ev {a : Act} {G : Gh} {w : World} {lo : Option Operand} {lo' : Option Opd} (hlo : COopt lo lo') {vs : List AV} {d : Nat} {l : Int} {vs' : List AV} {rest : List Opd} (hb : bound lo' vs d = some (l, vs'))
    (hv : ∀ p ∈ (optL lo' ++ rest).zip vs, EvO G w a p.1 p.2) : ((lo.map a.eval = none ∧ l = d) ∨ ∃ k, lo.map a.eval = some (.int k l)) ∧ ∀ p ∈ rest.zip vs', EvO G w a p.1 p.2 := by
  cases hlo with
  | none =>
    simp only [bound, Option.some.injEq, Prod.mk.injEq] at hb
    obtain ⟨rfl, rfl⟩ := hb
    exact ⟨.inl ⟨rfl, rfl⟩, hv⟩
  | some h =>
    unfold bound at hb
    split at hb <;> simp only [Option.some.injEq, Prod.mk.injEq, reduceCtorEq] at hb
    · rename_i heq; cases heq
    · obtain ⟨rfl, rfl⟩ := hb
      rename_i y k i _ heq
      injection heq with heq
      refine ⟨.inr ⟨k, ?_⟩, fun p hp => hv p (by simp [optL]; exact .inr hp)⟩
      have := (hv (_, .d (.lit (.int k i))) (by simp [optL]) _ h).lit.1
      simp [this]

theorem sound_slice {t e x lo hi x' lo' hi' i sz sz'} {v : AV} {vs vs' : List AV} {es : List D} {l h : Int} (ho : o.op = .slice t x lo hi none) (hx : CO x x') (hlo : COopt lo lo') (hhi : COopt hi hi') (hu : P.underlying t = some (.slice e)) (hie : P.info? e = some i) (hs : i.size = sz)
    (hv : v.elems = some (sz', es)) (hb1 : bound lo' vs 0 = some (l, vs')) (hb2 : bound hi' vs' es.length = some (h, [])) (hc : sz' = sz ∧ 0 ≤ l ∧ l ≤ h ∧ h ≤ es.length) (p : Prop) :
    OpLoc E P ro o ((x' :: (optL lo' ++ optL hi')).zip (v :: vs)) { c := p, v := .d (.sl sz ((es.take h.toNat).drop l.toNat)) } :=
  opLoc_pure (by simp [ho]) fun G a w hp H hvv => by
    obtain ⟨c1, c2, c3, c4⟩ := hc
    subst c1
    have hr := elems_rep hv G w _ (hvv (x', v) (by simp) x hx)
    obtain ⟨g1, g2⟩ := bound_ev hlo hb1 (fun p hp => hvv p (by simp; exact .inr hp)) (rest := optL hi')
    obtain ⟨g3, _⟩ := bound_ev hhi hb2 (rest := []) (by simpa using g2)
    obtain ⟨l, rfl⟩ := Int.eq_ofNat_of_zero_le c2
    obtain ⟨h, rfl⟩ := Int.eq_ofNat_of_zero_le (Int.le_trans c2 c3)
    obtain ⟨n, A, cap, ad, us, e1, hn, hcap, hm, _⟩ := hr.sl_inv
    have hrun := run_slice (P := P) (w := w) (A := A) (n := n) (cap := cap) (l := l) (h := h) hu hie (by
      rcases g1 with ⟨q1, q2⟩ | q
      · exact .inl ⟨q1, by simpa using q2⟩
      · exact .inr q) (by
      rcases g3 with ⟨q1, q2⟩ | q
      · exact .inl ⟨q1, by omega⟩
      · exact .inr q) (by omega) (by omega)
    rw [e1] at hr
    refine ⟨.slice (if cap = l then A else A.map (·.add (l * i.size))) (h - l) (cap - l), by simp only [execOp, ho, Sem.run_bind, e1, Option.map_none, hrun, Result.andThen_ok, Sem.run_pure], .d ?_⟩
    have := rep_slice (l := l) (h := h) (m := cap) hr (by omega) (by omega) (by omega) (by omega)
    rw [hs]; exact this

theorem sound_newrow {xs : List (Opd × AV)} {q : Nat} {sz : Nat} {es : List D} {c : Prop} (hd : ∀ c, o.op ≠ .defer c)
    (h : ∀ (G : Gh) (a : Act) (w : World) (h : Hp), WRel E G h w → (∀ p ∈ xs, EvO G w a p.1 p.2) → ∃ A n w' G', (execOp a.eval o).run P w = .ok (.value (.slice A n n)) w' ∧ GLe G w G' w' ∧ WRel E G' h w' ∧ Rep G'.I w' (.sl sz es) (.slice A n n)) :
    OpLoc E P ro o xs { c := c, v := .own q sz es, up := [(q, .row)] } := by
  intro G a w hp H hx _ hn K Q hK
  obtain ⟨A, n, w', G', h1, h2, h3, h4⟩ := h G a w hp H hx
  have hfr : hp q = none := by
    rcases hn (q, .row) (by simp) with h | ⟨q, hq, _⟩
    · exact h
    · simp at hq
  obtain ⟨l1, l2⟩ := h3.addRow hfr (A := A) (n := n) (cap := n) (sz := sz) (fun k hk hk' => by omega) (fun hlt => by omega)
  exact wpIn_value hd h1 (hK _ _ _ (h2.trans l1) l2 (.own (by simp) (h4.mono l1.imm)))

theorem sound_slice3 {t e x lo hi mx x' lo' hi' mx' i sz sz' q} {v : AV} {vs : List AV} {es : List D} {l h m : Int} {k1 k2 : IntKind} (ho : o.op = .slice t x lo (some hi) (some mx)) (hx : CO x x') (hlo : COopt lo lo') (hhi : CO hi hi') (hmx : CO mx mx') (hu : P.underlying t = some (.slice e)) (hie : P.info? e = some i) (hs : i.size = sz)
    (hv : v.elems = some (sz', es)) (hb1 : bound lo' vs 0 = some (l, [.d (.lit (.int k1 h)), .d (.lit (.int k2 m))])) (hc : sz' = sz ∧ 0 ≤ l ∧ l ≤ h ∧ h ≤ es.length ∧ m = h) (p : Prop) :
    OpLoc E P ro o ((x' :: (optL lo' ++ [hi', mx'])).zip (v :: vs)) { c := p, v := .own q sz ((es.take h.toNat).drop l.toNat), up := [(q, .row)] } :=
  sound_newrow (by simp [ho]) fun G a w hp H hvv => by
    obtain ⟨c1, c2, c3, c4, c5⟩ := hc
    subst c1; subst c5
    have hr := elems_rep hv G w _ (hvv (x', v) (by simp) x hx)
    obtain ⟨g1, g2⟩ := bound_ev hlo hb1 (fun p hp => hvv p (by simp; exact .inr hp)) (rest := [hi', mx'])
    have g3 := (g2 (hi', .d (.lit (.int k1 m))) (by simp) hi hhi).lit.1
    have g4 := (g2 (mx', .d (.lit (.int k2 m))) (by simp) mx hmx).lit.1
    obtain ⟨l, rfl⟩ := Int.eq_ofNat_of_zero_le c2
    obtain ⟨m, rfl⟩ := Int.eq_ofNat_of_zero_le (Int.le_trans c2 c3)
    obtain ⟨n, A, cap, ad, us, e1, hn, hcap, hm, _⟩ := hr.sl_inv
    have hrun := run_slice3 (P := P) (w := w) (A := A) (n := n) (cap := cap) (l := l) (h := m) (m := m) (k1 := k1) (k2 := k2) hu hie (by
      rcases g1 with ⟨q1, q2⟩ | q
      · exact .inl ⟨q1, by simpa using q2⟩
      · exact .inr q) (by omega) (by omega) (by omega)
    rw [e1] at hr
    refine ⟨if m = l then A else A.map (·.add (l * i.size)), m - l, w, G, by simp only [execOp, ho, Sem.run_bind, e1, Option.map_some, g3, g4, hrun, Result.andThen_ok, Sem.run_pure], GLe.refl G w, H, ?_⟩
    have := rep_slice (l := l) (h := m) (m := m) hr (by omega) (by omega) (by omega) (by omega)
    rw [hs]; exact this

end
end Go.Proofs.Ytbfjmachkbhfnaa.AL
end

section
namespace Go.Proofs.Ytbfjmachkbhfnaa.AL
open Go

section
variable {E : Env} {P : Program} {ro : Option Nat} {o : Oper}

theorem toD1_rep {v : AV} {x : D} (h : v.toD1 = some x) {G : Gh} {w : World} {u : Value} (hr : RepA G w v u) : Rep G.I w x u := by
  unfold AV.toD1 at h
  split at h <;> simp only [Option.some.injEq, reduceCtorEq] at h
  · subst h; exact hr.of_d
  · subst h; cases hr; assumption

theorem toDs_spec {G : Gh} {w : World} {a : Act} : ∀ (ps : List Opd) (vs : List AV) (es : List D) (xs : List Operand), toDs vs = some es → All2 CO xs ps → vs.length = ps.length → (∀ p ∈ ps.zip vs, EvO G w a p.1 p.2) →
    es.length = ps.length ∧ ∀ (k : Nat) (e : D) (x : Operand), es[k]? = some e → xs[k]? = some x → Rep G.I w e (a.eval x)
  | [], vs, es, xs, h, h2, hl, hv => by
    cases h2
    have : vs = [] := List.eq_nil_of_length_eq_zero (by simpa using hl)
    subst this
    simp [toDs] at h; subst h
    exact ⟨rfl, fun k e x hk => by simp at hk⟩
  | p :: ps, vs, es, xs, h, h2, hl, hv => by
    cases h2
    rename_i x xs hx t
    cases vs with
    | nil => simp at hl
    | cons v vs =>
      unfold toDs at h
      cases h1 : v.toD1 with
      | none => simp [h1] at h
      | some y =>
        cases h3 : toDs vs with
        | none => simp [h1, h3] at h
        | some l =>
          simp [h1, h3] at h
          subst h
          obtain ⟨i1, i2⟩ := toDs_spec ps vs l xs h3 t (by simpa using hl) (fun p hp => hv p (by simp; exact .inr hp))
          refine ⟨by simp [i1], fun k e u hk hu => ?_⟩
          cases k with
          | zero => simp at hk hu; subst hk; subst hu; exact toD1_rep h1 (hv (p, v) (by simp) x hx)
          | succ k => exact i2 k e u (by simpa using hk) (by simpa using hu)

theorem all2_len {α β : Type} {R : α → β → Prop} {l : List α} {m : List β} (h : All2 R l m) : l.length = m.length := by
  induction h with
  | nil => rfl
  | cons _ _ ih => simp [ih]

theorem zeros_fact {sz : Nat} {cells : Array Value} (h : cells.size = sz) (n : Nat) : n * cells.size = n * sz := by rw [h]

theorem sound_mkslice {t e i sz zv len parts ps q} {vs : List AV} {es : List D} (h : o.op = .buildSlice t len parts) (hu : P.underlying t = some (.slice e)) (hi : P.info? e = some i) (hs : i.size = sz) (hs0 : 0 < sz) (hz : i.zero = some zv) (_hzs : zv.cells.size = sz)
    (hl : len = ps.length) (hps : ∃ xs : List Operand, parts.toList = (xs.zipIdx 0).map (fun x => (x.2, x.1)) ∧ All2 CO xs ps) (hvl : vs.length = ps.length)
    (hes : toDs vs = some es) (hc : (∀ e ∈ es, e.cells.length = sz ∧ (∀ ds, e ≠ .tup ds)) ∧ es.length * sz ≤ 16777216) (p : Prop) :
    OpLoc E P ro o (ps.zip vs) { c := p, v := .own q sz es, up := [(q, .row)] } :=
  sound_newrow (by simp [h]) fun G a w hp H hvv => by
    obtain ⟨xs, hx1, hx2⟩ := hps
    obtain ⟨d1, d2⟩ := toDs_spec ps vs es xs hes hx2 hvl hvv
    have hxl := all2_len hx2
    have hcells : ∀ (k : Nat) (e : D) (x : Operand), es[k]? = some e → xs[k]? = some x → RepL G.I w e.cells (a.eval x).cells ∧ ∀ c ∈ e.cells, c.one = true := fun k e x he hx => (d2 k e x he hx).cells (hc.1 e (List.mem_of_getElem? he)).2
    have hsz : ∀ v ∈ xs.map a.eval, v.cells.size = sz := fun v hv => by
      obtain ⟨k, hk⟩ := List.getElem?_of_mem hv
      simp only [List.getElem?_map, Option.map_eq_some_iff] at hk
      obtain ⟨x, hx, rfl⟩ := hk
      have hklt : k < xs.length := by
        rcases Nat.lt_or_ge k xs.length with h' | h'
        · exact h'
        · rw [List.getElem?_eq_none h'] at hx; cases hx
      have hek : es[k]? = some es[k] := List.getElem?_eq_getElem (by omega)
      rw [(hcells k _ x hek hx).1.1]
      exact (hc.1 _ (List.mem_of_getElem? hek)).1
    by_cases hpos : len * i.size = 0
    · have hl0 : len = 0 := by
        rcases Nat.mul_eq_zero.1 hpos with h' | h'
        · exact h'
        · omega
      have he0 : es = [] := List.eq_nil_of_length_eq_zero (by omega)
      have hx0 : xs = [] := List.eq_nil_of_length_eq_zero (by omega)
      subst he0; subst hx0
      have hpz : parts = #[] := by simpa using hx1
      refine ⟨some ⟨w.heap.size, 0, none⟩, 0, w.alloc (.cells #[] e), G, ?_, ?_⟩
      · simp [execOp, h, Instr.buildSlice, run_underlying hu, sizeOf, typeInfo, hi, hl0, hpz, Instr.fill, newRow]
        rw [show Array.range 0 = #[] from Array.eq_empty_of_size_eq_zero (by simp), Array.map_empty]
      · obtain ⟨l1, l2⟩ := H.grow (Grow.alloc w (.cells #[] e)) G.I (fun _ h => h) (fun _ h => .inl h) (fun a' ha' => by rw [(Grow.alloc w _).cell (H.ilt ha')]; exact H.icell a' ha')
        exact ⟨l1, l2, .sl ⟨w.heap.size, 0, none⟩ (fun _ => undef) rfl (by simp) (by simp) (.inr rfl) (by simp) (by simp [D.flat]) (by simp [D.flat]) (by simp [D.flat])⟩
    · have hfill := Great.fill_whole (s := i.size) (by omega) (xs.map a.eval) ((Array.range (len * i.size)).map (zv.cells[· % zv.cells.size]!)) (fun v hv => by rw [hs]; exact hsz v hv) (by rw [List.length_map, Array.size_map, Array.size_range, hxl, hl])
      have hsmall : ¬ len * i.size > 2 ^ 24 := by
        have h1 : len * i.size = es.length * sz := by rw [hl, ← d1, hs]
        have := hc.2
        omega
      have hrun := run_buildSlice (P := P) w t e len (parts.map fun (i, x) => (i, a.eval x)) _ i zv hu hi hz hsmall hpos (by
        rw [Array.toList_map, hx1, List.map_map]
        have : (xs.zipIdx 0).map ((fun (p : Nat × Operand) => (p.1, a.eval p.2)) ∘ fun x => (x.2, x.1)) = ((xs.map a.eval).zipIdx 0).map fun x => (x.2, x.1) := by
          rw [List.zipIdx_map, List.map_map]; rfl
        exact (congrArg _ this).trans hfill)
      generalize harr : ((xs.map a.eval).flatMap fun v => v.cells.toList) = arr at hrun
      have harrl : arr.length = es.length * sz := by
        have hh : ∀ (l : List Value), (∀ v ∈ l, v.cells.size = sz) → (l.flatMap fun v => v.cells.toList).length = l.length * sz := by
          intro l
          induction l with
          | nil => simp
          | cons v l ih =>
            intro hv
            rw [List.flatMap_cons, List.length_append, ih (fun u hu => hv u (by simp [hu])), List.length_cons, Nat.add_mul, Array.length_toList, hv v (by simp)]; omega
        rw [← harr, hh _ hsz, List.length_map, hxl, d1]
      have hget : ∀ k c, (D.flat es)[k]? = some c → ∃ v, arr[k]? = some v ∧ Rep G.I w c v ∧ c.one = true := fun k c hk => by
        have hzz : ∀ e ∈ es, e.cells.length = sz := fun e he => (hc.1 e he).1
        have hlt : k < es.length * sz := by
          rw [← flat_len hzz]
          rcases Nat.lt_or_ge k (D.flat es).length with h' | h'
          · exact h'
          · rw [List.getElem?_eq_none h'] at hk; cases hk
        have hi' : k / sz < es.length := (Nat.div_lt_iff_lt_mul hs0).2 hlt
        have hm := Nat.mod_lt k hs0
        have hg : es[k / sz]? = some es[k / sz] := List.getElem?_eq_getElem hi'
        have hgx : xs[k / sz]? = some (xs[k / sz]'(by omega)) := List.getElem?_eq_getElem (by omega)
        have e1 : k = k / sz * sz + k % sz := by have := Nat.div_add_mod k sz; rw [Nat.mul_comm] at this; omega
        have hk2 : es[k / sz].cells[k % sz]? = some c := by
          rw [← hk]; conv => rhs; rw [e1]
          exact (flat_get hzz hg _ hm).symm
        obtain ⟨c1, c2⟩ := hcells _ _ _ hg hgx
        have ha : arr[k]? = (a.eval (xs[k / sz]'(by omega))).cells[k % sz]? := by
          rw [← harr, Great.flat_get hs0 _ hsz k, List.getElem?_map, hgx]; rfl
        have hlt2 : k % sz < (a.eval (xs[k / sz]'(by omega))).cells.size := by rw [c1.1, hzz _ (List.mem_of_getElem? hg)]; exact hm
        refine ⟨(a.eval (xs[k / sz]'(by omega))).cells[k % sz], by rw [ha]; exact Array.getElem?_eq_getElem hlt2, c1.2 _ c _ hk2 (Array.getElem?_eq_getElem hlt2), c2 c (List.mem_of_getElem? hk2)⟩
      have hg := Grow.alloc w (.cells arr.toArray e)
      have hcell : ∀ k, (w.alloc (.cells arr.toArray e)).cell? ⟨w.heap.size, k, none⟩ = arr[k]? := fun k => by
        have := cell_of_row (w.alloc (.cells arr.toArray e)) w.heap.size k arr.toArray e (0, 0) (heap_alloc_new w _)
        rw [this]; simp
      obtain ⟨l1, l2⟩ := H.grow hg (fun a' => G.I a' ∨ (a'.block = w.heap.size ∧ a'.spot = none ∧ a'.off < arr.length)) (fun _ h => .inl h) (fun a' ha' => by
          rcases ha' with h' | h'
          · exact .inl h'
          · exact .inr (by omega)) (fun a' ha' => by
          rcases ha' with h' | ⟨h1', h2', h3'⟩
          · rw [hg.cell (H.ilt h')]; exact H.icell a' h'
          · have : a' = ⟨w.heap.size, a'.off, none⟩ := by cases a'; simp_all
            rw [this, hcell]; simp [h3'])
      refine ⟨some ⟨w.heap.size, 0, none⟩, len, _, _, by simp only [execOp, h, Sem.run_bind, hrun, Result.andThen_ok, Sem.run_pure], l1, l2, ?_⟩
      refine .sl ⟨w.heap.size, 0, none⟩ (fun k => arr.getD k undef) (by omega) (by omega) (by have := hc.2; have := Nat.le_mul_of_pos_right es.length hs0; omega) (.inl rfl) (fun e he => (hc.1 e he).1) (fun c hc' => ?_) (fun k c hk => ?_) (fun k c hk => ?_)
      · obtain ⟨k, hk⟩ := List.getElem?_of_mem hc'
        obtain ⟨v, _, _, h3'⟩ := hget k c hk
        exact h3'
      · obtain ⟨v, h1', _, _⟩ := hget k c hk
        rw [add_mk, Nat.zero_add, hcell, h1']
        refine ⟨.inr ⟨rfl, rfl, ?_⟩, by simp [List.getD, h1']⟩
        rcases Nat.lt_or_ge k arr.length with h' | h'
        · exact h'
        · rw [List.getElem?_eq_none h'] at h1'; cases h1'
      · obtain ⟨v, h1', h2', _⟩ := hget k c hk
        have : arr.getD k undef = v := by simp [List.getD, h1']
        rw [this]
        exact h2'.mono l1.imm

theorem sound_minmax {x y x' y' ts} {mx : Bool} {k k' : IntKind} {i j : Int} (h : o.op = .call { callee := .builtin (if mx then .max else .min), args := #[x, y], argTypes := ts }) (hx : CO x x') (hy : CO y y') (hk : k = k') (p : Prop) :
    OpLoc E P ro o [(x', .d (.lit (.int k i))), (y', .d (.lit (.int k' j)))] { c := p, v := .d (.lit (.int k (if mx then (if j > i then j else i) else (if j < i then j else i)))) } :=
  opLoc_pure (by simp [h]) fun G a w hp H hv => by
    subst hk
    obtain ⟨v1, v2⟩ := ev2 hv hx hy
    obtain ⟨e1, s1⟩ := v1.lit
    obtain ⟨e2, s2⟩ := v2.lit
    refine ⟨.int k (if mx then (if j > i then j else i) else (if j < i then j else i)), ?_, .d (.lit ?_)⟩
    · cases mx <;> simp [execOp, h, resolve, invoke, builtin, e1, e2, Builtin.max_, Builtin.min_, Builtin.max2, Builtin.min2]
    · simp only [Sc] at s1 s2 ⊢
      cases mx <;> simp <;> split <;> omega

theorem evs_list {G : Gh} {w : World} {a : Act} : ∀ (xs : List Operand) (ps : List Opd) (vs : List AV), All2 CO xs ps → vs.length = ps.length → (∀ p ∈ ps.zip vs, EvO G w a p.1 p.2) →
    ∀ (k : Nat) (c : AV) (u : Value), vs[k]? = some c → (xs.map a.eval)[k]? = some u → RepA G w c u
  | _, _, vs, .nil, hl, _, k, c, u, hk, _ => by
    have : vs = [] := List.eq_nil_of_length_eq_zero (by simpa using hl)
    subst this; simp at hk
  | x :: xs, p :: ps, vs, .cons h t, hl, hv, k, c, u, hk, hu => by
    cases vs with
    | nil => simp at hl
    | cons v vs =>
      cases k with
      | zero => simp at hk hu; subst hk; subst hu; exact hv (p, v) (by simp) x h
      | succ k => exact evs_list xs ps vs t (by simpa using hl) (fun q hq => hv q (by simp; exact .inr hq)) k c u (by simpa using hk) (by simpa using hu)

theorem sound_func {f first caps first' caps'} {vs : List AV} (h : o.op = .makeFunc f first caps) (hf : All2 CO first.toList first') (hc : All2 CO caps.toList caps') (hl : vs.length = (first' ++ caps').length) (p : Prop) :
    OpLoc E P ro o ((first' ++ caps').zip vs) { c := p, v := .fn f (vs.take first'.length) (vs.drop first'.length) } :=
  opLoc_pure (by simp [h]) fun G a w hp H hv => by
    have l1 := all2_len hf
    have l2 := all2_len hc
    simp only [List.length_append] at hl
    refine ⟨.func f (first.map a.eval) (caps.map a.eval), by simp [execOp, h, Instr.makeFunc], .fn (by simp at l1 ⊢; omega) (by simp at l2 ⊢; omega) (fun k c u hk hu => ?_) (fun k c u hk hu => ?_)⟩
    · refine evs_list first.toList first' (vs.take first'.length) hf (by simp; omega) (fun q hq => hv q ?_) k c u hk (by simpa using hu)
      have : (first' ++ caps').zip vs = first'.zip (vs.take first'.length) ++ caps'.zip (vs.drop first'.length) := by
        conv => lhs; rw [← List.take_append_drop first'.length vs]
        rw [List.zip_append (by simp; omega)]
      rw [this]; exact List.mem_append_left _ hq
    · refine evs_list caps.toList caps' (vs.drop first'.length) hc (by simp; omega) (fun q hq => hv q ?_) k c u hk (by simpa using hu)
      have : (first' ++ caps').zip vs = first'.zip (vs.take first'.length) ++ caps'.zip (vs.drop first'.length) := by
        conv => lhs; rw [← List.take_append_drop first'.length vs]
        rw [List.zip_append (by simp; omega)]
      rw [this]; exact List.mem_append_right _ hq

theorem sound_extract {x x' i} {vs : List AV} (h : o.op = .extract x i) (hx : CO x x') (hi : i < vs.length) (p : Prop) :
    OpLoc E P ro o [(x', .tup vs)] { c := p, v := vs.getD i default } :=
  opLoc_pure (by simp [h]) fun G a w hp H hv => by
    have hr := ev1 hv hx
    generalize he : a.eval x = u at hr
    cases hr
    rename_i us hl hr
    have hiu : i < us.size := by omega
    exact ⟨us[i], by simp [execOp, h, he, Instr.extract, hiu], hr i _ _ (by simp [List.getD, List.getElem?_eq_getElem hi]) (Array.getElem?_eq_getElem hiu)⟩

theorem sound_extract_d {x x' i} {vs : List D} (h : o.op = .extract x i) (hx : CO x x') (hi : i < vs.length) (p : Prop) :
    OpLoc E P ro o [(x', .d (.tup vs))] { c := p, v := .d (vs.getD i default) } :=
  opLoc_pure (by simp [h]) fun G a w hp H hv => by
    have hr := (ev1 hv hx).of_d
    generalize he : a.eval x = u at hr
    cases hr
    rename_i us hl hr
    have hiu : i < us.size := by omega
    exact ⟨us[i], by simp [execOp, h, he, Instr.extract, hiu], .d (hr i _ _ (by simp [List.getD, List.getElem?_eq_getElem hi]) (Array.getElem?_eq_getElem hiu))⟩

theorem sound_conv {s t x x' k d} {k' : IntKind} {i : Int} (h : o.op = .convert s t x) (hx : CO x x') (hs : P.underlying s = some d) (ht : P.underlying t = some (.int k)) (p : Prop) :
    OpLoc E P ro o [(x', .d (.lit (.int k' i)))] { c := p, v := .d (.lit (.int k (k.wrap i))) } :=
  opLoc_pure (by simp [h]) fun G a w hp H hv => by
    have e1 := (ev1 hv hx).lit.1
    exact ⟨.int k (k.wrap i), by simp [execOp, h, convert, run_underlying hs, run_underlying ht, e1, Conv.intToInt], .d (.lit (wrap_range k i))⟩

theorem sound_ifc {t x x' d} {y : D} (h : o.op = .makeInterface t x) (hx : CO x x') (hu : P.underlying t = some d) (hd : ∀ ms, d ≠ .interface ms) (p : Prop) :
    OpLoc E P ro o [(x', .d y)] { c := p, v := .d (.ifc t y) } :=
  opLoc_pure (by simp [h]) fun G a w hp H hv => by
    have hr := (ev1 hv hx).of_d
    refine ⟨.iface t (a.eval x), ?_, .d (.ifc hr)⟩
    cases d <;> simp_all [execOp, Instr.makeInterface, run_underlying hu]

end
end Go.Proofs.Ytbfjmachkbhfnaa.AL
end

section
namespace Go.Proofs.Ytbfjmachkbhfnaa.AL
open Go

section
variable {E : Env} {P : Program} {ro : Option Nat} {o : Oper}

/-- The cells of a slice, as values. -/
theorem slice_cells {I : Addr → Prop} {w : World} {sz n cap : Nat} {es : List D} {A : Option Addr} (h : Rep I w (.sl sz es) (.slice A n cap)) :
    ∃ cs : List Value, cs.length = n * sz ∧ (∀ u ∈ cs, u.oneCell' = true) ∧ (∀ ad, A = some ad → ∀ j u, cs[j]? = some u → w.cell? (ad.add j) = some u ∧ I (ad.add j)) ∧
      (∀ (j : Nat) (c : D) (u : Value), (D.flat es)[j]? = some c → cs[j]? = some u → Rep I w c u) ∧ n = es.length ∧ (∀ e ∈ es, e.cells.length = sz) ∧ (∀ c ∈ D.flat es, c.one = true) ∧ (A = none → es = []) ∧ n ≤ cap ∧ cap ≤ 9223372036854775807 := by
  obtain ⟨n', A', cap', ad, vs, e, hn, hc, hm, hA, hz, h1, hI, hr⟩ := h.sl_inv
  injection e with e1 e2 e3
  subst e1; subst e2; subst e3
  have hl := flat_len hz
  refine ⟨(List.range (n * sz)).map vs, by simp, fun u hu => ?_, fun ad' he j u hj => ?_, fun j c u hj hu => ?_, hn, hz, h1, fun he => ?_, hc, hm⟩
  · obtain ⟨k, hk, rfl⟩ := List.mem_map.1 hu
    have hk' : k < (D.flat es).length := by rw [hl, ← hn]; exact List.mem_range.1 hk
    have hg := List.getElem?_eq_getElem hk'
    exact ((hr k _ hg).oneCell (h1 _ (List.getElem_mem hk'))).2
  · simp only [List.getElem?_map, Option.map_eq_some_iff] at hj
    obtain ⟨k, hk, rfl⟩ := hj
    have hjl : j < n * sz := by
      rcases Nat.lt_or_ge j (n * sz) with h' | h'
      · exact h'
      · rw [List.getElem?_eq_none (by simpa using h')] at hk; cases hk
    rw [List.getElem?_range hjl] at hk; injection hk with hk; subst hk
    have hk' : j < (D.flat es).length := by rw [hl, ← hn]; exact hjl
    rcases hA with hA | hA
    · rw [hA] at he; injection he with he; subst he
      exact ⟨(hI j _ (List.getElem?_eq_getElem hk')).2, (hI j _ (List.getElem?_eq_getElem hk')).1⟩
    · subst hA; simp [D.flat] at hk'
  · simp only [List.getElem?_map, Option.map_eq_some_iff] at hu
    obtain ⟨k, hk, rfl⟩ := hu
    have hjl : j < n * sz := by
      rcases Nat.lt_or_ge j (n * sz) with h' | h'
      · exact h'
      · rw [List.getElem?_eq_none (by simpa using h')] at hk; cases hk
    rw [List.getElem?_range hjl] at hk; injection hk with hk; subst hk
    exact hr j c hj
  · rcases hA with hA | hA
    · rw [hA] at he; cases he
    · exact hA

/-- Two runs of cells side by side, at one address. -/
theorem rep_joined {I : Addr → Prop} {w : World} {sz cap : Nat} {es ys : List D} {b o : Nat} {cs ds : List Value} (hes : ∀ e ∈ es, e.cells.length = sz) (hys : ∀ e ∈ ys, e.cells.length = sz)
    (h1 : ∀ c ∈ D.flat es, c.one = true) (h2 : ∀ c ∈ D.flat ys, c.one = true) (hl1 : cs.length = es.length * sz) (hl2 : ds.length = ys.length * sz)
    (hc : ∀ j u, (cs ++ ds)[j]? = some u → w.cell? ⟨b, o + j, none⟩ = some u ∧ I ⟨b, o + j, none⟩)
    (r1 : ∀ (j : Nat) (c : D) (u : Value), (D.flat es)[j]? = some c → cs[j]? = some u → Rep I w c u) (r2 : ∀ (j : Nat) (c : D) (u : Value), (D.flat ys)[j]? = some c → ds[j]? = some u → Rep I w c u)
    (hcap : es.length + ys.length ≤ cap) (hm : cap ≤ 9223372036854775807) : Rep I w (.sl sz (es ++ ys)) (.slice (some ⟨b, o, none⟩) (es.length + ys.length) cap) := by
  have hfl : D.flat (es ++ ys) = D.flat es ++ D.flat ys := by simp [D.flat]
  have hfe := flat_len hes
  have hfy := flat_len hys
  have hget : ∀ k c, (D.flat (es ++ ys))[k]? = some c → ∃ u, (cs ++ ds)[k]? = some u ∧ Rep I w c u := fun k c hk => by
    rw [hfl] at hk
    by_cases hlt : k < (D.flat es).length
    · rw [List.getElem?_append_left hlt] at hk
      have : k < cs.length := by omega
      exact ⟨cs[k], by rw [List.getElem?_append_left this]; exact List.getElem?_eq_getElem this, r1 k c _ hk (List.getElem?_eq_getElem this)⟩
    · rw [List.getElem?_append_right (by omega)] at hk
      have hlt2 : k - (D.flat es).length < (D.flat ys).length := by
        rcases Nat.lt_or_ge (k - (D.flat es).length) (D.flat ys).length with h' | h'
        · exact h'
        · rw [List.getElem?_eq_none h'] at hk; cases hk
      have h3 : k - cs.length < ds.length := by omega
      refine ⟨ds[k - cs.length], by rw [List.getElem?_append_right (by omega)]; exact List.getElem?_eq_getElem h3, r2 (k - cs.length) c _ (by rw [hl1, ← hfe]; exact hk) (List.getElem?_eq_getElem h3)⟩
  refine .sl ⟨b, o, none⟩ (fun k => (cs ++ ds).getD k undef) (by simp) hcap hm (.inl rfl) (fun e he => ?_) (fun c hc' => ?_) (fun k c hk => ?_) (fun k c hk => ?_)
  · rcases List.mem_append.1 he with h | h
    · exact hes e h
    · exact hys e h
  · rw [hfl] at hc'
    rcases List.mem_append.1 hc' with h | h
    · exact h1 c h
    · exact h2 c h
  · obtain ⟨u, hu, _⟩ := hget k c hk
    obtain ⟨q1, q2⟩ := hc k u hu
    rw [add_mk]
    exact ⟨q2, by rw [q1]; simp [List.getD, hu]⟩
  · obtain ⟨u, hu, hr⟩ := hget k c hk
    have : (cs ++ ds).getD k undef = u := by simp [List.getD, hu]
    rw [this]; exact hr

theorem run_append_zero {t ty e : TypeId} {i : TypeInfo} {w : World} {A A' : Option Addr} {n cap c : Nat} (ht : P.underlying t = some (.slice e)) (hi : P.info? e = some i) (hn : n ≤ cap) :
    (Builtin.append_ #[t, t] ty #[.slice A n cap, .slice A' 0 c]).run P w = .ok (.slice A n cap) w := by
  cases A <;> cases A' <;> simp [Builtin.append_, run_underlying ht, sizeOf, typeInfo, hi, Builtin.lenOf, Builtin.firstCells, hn, storeCells, loadCells, loadCellsFrom]

theorem run_append_fit {t ty e : TypeId} {i : TypeInfo} {w : World} {b off n cap m c : Nat} {a' : Addr} {news : List Value} (ht : P.underlying t = some (.slice e)) (hi : P.info? e = some i) (hl : news.length = m * i.size)
    (hnews : ∀ j u, news[j]? = some u → w.cell? (a'.add j) = some u) (h1 : ∀ u ∈ news, u.oneCell' = true) (hroom : n + m ≤ cap)
    (hc : ∀ j, j < news.length → (w.cell? ⟨b, off + n * i.size + j, none⟩).isSome = true) (hf : ∀ j, j < news.length → w.frozen? ⟨b, off + n * i.size + j, none⟩ = false) :
    (Builtin.append_ #[t, t] ty #[.slice (some ⟨b, off, none⟩) n cap, .slice (some a') m c]).run P w = .ok (.slice (some ⟨b, off, none⟩) (n + m) cap) (w.setCells b (off + n * i.size) news) := by
  have hfc := run_firstCells_some (P := P) w i.size m a' m c news hl hnews
  have hst := run_storeCells_cells (P := P) b (off + n * i.size) news 0 w (by simpa using hc) (by simpa using hf) h1
  simp only [Nat.add_zero] at hst
  simp [Builtin.append_, run_underlying ht, sizeOf, typeInfo, hi, Builtin.lenOf, hroom, hfc, add_mk, hst]

/-- Append, wherever the row lies: the outcome, its row free from then on. -/
theorem append_core {G : Gh} {h : Hp} {w : World} (H : WRel E G h w) {t ty e : TypeId} {i : TypeInfo} {zv : Value} {sz bytes : Nat} (ht : P.underlying t = some (.slice e)) (hi : P.info? e = some i) (hs : i.size = sz) (hb : i.bytes = bytes)
    (hz : i.zero = some zv) (hzs : zv.cells.size = sz) (hone : zv.cells.all (·.oneCell') = true) (hs0 : 0 < sz) {A : Option Addr} {n cap : Nat} {es : List D} {u : Value} {sy : Nat} {ys : List D}
    (hx : Rep G.I w (.sl sz es) (.slice A n cap)) (hT : Tail E G w A n cap sz) (hy : Rep G.I w (.sl sy ys) u) (hsy : ys = [] ∨ sy = sz)
    (hd : n * sz < cap * sz → ∀ r' A' n' cap' sz', h r' = some .row → G.row r' = some (A', n', cap', sz') → n' * sz' < cap' * sz' → ∀ ad ad', A = some ad → A' = some ad' → ad.block ≠ ad'.block)
    (hbytes : (es.length + ys.length) * bytes ≤ 140737488355328) (h63 : es.length + ys.length ≤ 9223372036854775807) {q : Nat} (hq : h q = none) :
    ∃ val w' G', (Builtin.append_ #[t, t] ty #[.slice A n cap, u]).run P w = .ok val w' ∧ GLe G w G' w' ∧ WRel E G' (h.upd [(q, .row)]) w' ∧ RepA G' w' (.own q sz (es ++ ys)) val := by
  obtain ⟨cs, k1, k2, k3, k4, k5, k6, k7, k8, k9, k10⟩ := slice_cells hx
  obtain ⟨m, By, cy, ady, vsy, e1, hm, hcy, hmy, _⟩ := hy.sl_inv
  subst e1
  obtain ⟨ds, d1, d2, d3, d4, d5, d6, d7, d8, d9, d10⟩ := slice_cells hy
  rcases Nat.eq_zero_or_pos m with hm0 | hm0
  · -- nothing is added
    subst hm0
    have hy0 : ys = [] := List.eq_nil_of_length_eq_zero (by omega)
    subst hy0
    obtain ⟨l1, l2⟩ := H.addRow hq hT hd
    refine ⟨.slice A n cap, w, _, run_append_zero ht hi k9, l1, l2, ?_⟩
    rw [List.append_nil]
    exact .own (by simp) (hx.mono l1.imm)
  · have hyne : ys ≠ [] := by rintro rfl; simp at hm; omega
    have hsyz : sy = sz := hsy.resolve_left hyne
    subst hsyz
    obtain ⟨ay, hay⟩ : ∃ ay, By = some ay := by
      cases By with
      | none => exact absurd (d8 rfl) hyne
      | some x => exact ⟨x, rfl⟩
    subst hay
    by_cases hroom : n + m ≤ cap
    · -- into the row's own room
      have hlt : n * sy < cap * sy := Nat.mul_lt_mul_of_pos_right (by omega) hs0
      obtain ⟨ad, rfl, t1, t2, t3, t4, t5⟩ := hT (n * sy) (Nat.le_refl _) hlt
      obtain ⟨v0, hv0⟩ := Option.isSome_iff_exists.1 t1
      have hmn : n * sy + m * sy ≤ cap * sy := by rw [← Nat.add_mul]; exact Nat.mul_le_mul_right _ hroom
      -- the address is a plain one
      have hadeta : ad = ⟨ad.block, ad.off, none⟩ := by
        have e := addr_eta hv0
        unfold Addr.add at e
        split at e
        · exact e
        · rename_i hne
          have hn0 : 0 < n := by
            rcases Nat.eq_zero_or_pos n with h0 | h0
            · rw [h0] at hne; simp at hne
            · exact h0
          have hc0 : 0 < cs.length := by rw [k1]; exact Nat.mul_pos hn0 hs0
          have := (k3 ad rfl 0 cs[0] (List.getElem?_eq_getElem hc0)).1
          have e0 : ad.add 0 = ad := by simp [Addr.add]
          rw [e0] at this
          exact addr_eta this
      generalize hbk : ad.block = b at *
      generalize hof : ad.off = off at *
      subst hadeta
      have hTc : ∀ j, j < ds.length → (w.cell? ⟨b, off + n * sy + j, none⟩).isSome = true ∧ w.frozen? ⟨b, off + n * sy + j, none⟩ = false ∧ ¬ G.I ⟨b, off + n * sy + j, none⟩ := fun j hj => by
        obtain ⟨ad', e', q1, q2, q3, _, _⟩ := hT (n * sy + j) (by omega) (by omega)
        injection e' with e'; subst e'
        rw [add_mk, ← Nat.add_assoc] at q1 q2 q3
        exact ⟨q1, q2, q3⟩
      have hrun := run_append_fit (P := P) (ty := ty) (w := w) (b := b) (off := off) (n := n) (cap := cap) (m := m) (c := cy) (a' := ay) (news := ds) ht hi (by rw [hs, d1]) (fun j u hj => (d3 ay rfl j u hj).1) d2 hroom (by rw [hs]; exact fun j hj => (hTc j hj).1) (by rw [hs]; exact fun j hj => (hTc j hj).2.1)
      rw [hs] at hrun
      have hmk : ∀ (x : Addr), x = (⟨b, off, none⟩ : Addr) → x.block = b := fun x hx => by rw [hx]
      obtain ⟨f1, f2⟩ := H.fill (b := b) (o := off + n * sy) (vs := ds) (fun k hk => (hTc k hk).1) (fun k hk => (hTc k hk).2.2) t4.1 t5 t4.2 (fun r A' n' cap' sz' hr' g' l' ad' e' hbb => hd hlt r A' n' cap' sz' hr' g' l' ⟨b, off, none⟩ ad' rfl e' hbb.symm)
      have hin : ∀ j u, (cs ++ ds)[j]? = some u → (w.setCells b (off + n * sy) ds).cell? ⟨b, off + j, none⟩ = some u ∧ (G.I ⟨b, off + j, none⟩ ∨ ∃ k, k < ds.length ∧ (⟨b, off + j, none⟩ : Addr) = ⟨b, off + n * sy + k, none⟩) := fun j u hj => by
        by_cases hjl : j < cs.length
        · rw [List.getElem?_append_left hjl] at hj
          have hq' := k3 _ rfl j u hj
          rw [add_mk] at hq'
          refine ⟨?_, .inl hq'.2⟩
          rw [(f1.imm _ hq'.2).2]; exact hq'.1
        · rw [List.getElem?_append_right (by omega)] at hj
          have hjd : j - cs.length < ds.length := by
            rcases Nat.lt_or_ge (j - cs.length) ds.length with h' | h'
            · exact h'
            · rw [List.getElem?_eq_none h'] at hj; cases hj
          have hjj : off + j = off + n * sy + (j - cs.length) := by omega
          rw [hjj]
          refine ⟨?_, .inr ⟨j - cs.length, hjd, rfl⟩⟩
          rw [World.cell?_setCells_in b ds (off + n * sy) w (fun k hk => (hTc k hk).1) _ hjd]
          rw [List.getElem?_eq_getElem hjd] at hj; exact hj
      have hT' : Tail E { G with I := fun a => G.I a ∨ (∃ k, k < ds.length ∧ a = ⟨b, off + n * sy + k, none⟩) } (w.setCells b (off + n * sy) ds) (some ⟨b, off, none⟩) (n + m) cap sy := fun k hk hk' => by
        rw [Nat.add_mul] at hk
        obtain ⟨ad', e', q1, q2, q3, q4, q5⟩ := hT k (by omega) hk'
        injection e' with e'; subst e'
        rw [add_mk] at q1 q2 q3
        refine ⟨_, rfl, ?_, ?_, ?_, q4, q5⟩
        · rw [add_mk, setCells_cell_out b ds _ w _ (fun _ => .inr (by simp only; omega))]; exact q1
        · rw [add_mk, World.frozen?_setCells]; exact q2
        · rw [add_mk]
          rintro (hi' | ⟨j, hj, hi'⟩)
          · exact q3 hi'
          · injection hi' with _ hi' _; omega
      obtain ⟨l1, l2⟩ := f2.addRow hq hT' (fun hlt' => hd hlt)
      refine ⟨_, _, _, hrun, f1.trans l1, l2, ?_⟩
      have hrep := rep_joined (I := fun a => G.I a ∨ (∃ k, k < ds.length ∧ a = ⟨b, off + n * sy + k, none⟩)) (w := w.setCells b (off + n * sy) ds) (cap := cap) (b := b) (o := off) (cs := cs) (ds := ds) k6 d6 k7 d7 (by rw [k1, k5]) (by rw [d1, d5]) hin
        (fun j c u hj hu => (k4 j c u hj hu).mono f1.imm) (fun j c u hj hu => (d4 j c u hj hu).mono f1.imm) (by omega) k10
      rw [← k5, ← d5] at hrep
      exact .own (by simp) hrep
    · -- a new row
      have hbytes' : (n + m) * i.bytes ≤ 140737488355328 := by rw [hb, k5, d5]; exact hbytes
      have hrun : ∃ oldc, (Builtin.append_ #[t, t] ty #[.slice A n cap, .slice (some ay) m cy]).run P w = .ok (.slice (some ⟨w.heap.size, 0, none⟩) (n + m) (grownCap w (n + m) oldc e))
          (w.drew.alloc (.cells (cs.toArray ++ ds.toArray ++ Builtin.zeroCells zv.cells (grownCap w (n + m) oldc e - (n + m))) e)) := by
        cases A with
        | none =>
          have he0 := k8 rfl
          subst he0
          have hn0 : n = 0 := by simpa using k5
          subst hn0
          have hcs : cs = [] := List.eq_nil_of_length_eq_zero (by omega)
          subst hcs
          have hcap : cap = 0 := by
            rcases Nat.eq_zero_or_pos cap with h0 | h0
            · exact h0
            · obtain ⟨ad, e', _⟩ := hT 0 (by simp) (Nat.mul_pos h0 hs0); cases e'
          subst hcap
          have := run_append_nil (P := P) w t ty e i zv ht hi hz ay m cy ds (by rw [hs, d1]) (fun j u hj => (d3 ay rfl j u hj).1) hm0 (by omega) (by simp at hbytes'; omega)
          exact ⟨0, by simpa using this⟩
        | some ad =>
          exact ⟨cap, run_append_grow (P := P) w t ty e i zv ht hi hz ad n cap cs (by rw [hs, k1]) (fun j u hj => (k3 ad rfl j u hj).1) ay m cy ds (by rw [hs, d1]) (fun j u hj => (d3 ay rfl j u hj).1) (by omega) (by omega) (growslice_fits (by omega) hbytes')⟩
      obtain ⟨oldc, hrun⟩ := hrun
      generalize hcapv : grownCap w (n + m) oldc e = ncap at hrun
      have hge : n + m ≤ ncap := by rw [← hcapv]; exact grownCap_ge w (n + m) oldc e
      have hle' : ncap ≤ 9223372036854775807 := by rw [← hcapv]; exact grownCap_le_maxLen w (n + m) oldc e (by simp only [maxLen]; omega)
      generalize hzr : Builtin.zeroCells zv.cells (ncap - (n + m)) = zr at hrun
      have hzl : zr.size = (ncap - (n + m)) * sy := by rw [← hzr, size_zeroCells, hzs]
      have hg : Grow w (w.drew.alloc (.cells (cs.toArray ++ ds.toArray ++ zr) e)) := ⟨rfl, rfl, rfl, by simp, fun b hb => heap_alloc_old w.drew _ b hb⟩
      have hcell : ∀ k, (w.drew.alloc (.cells (cs.toArray ++ ds.toArray ++ zr) e)).cell? ⟨w.heap.size, k, none⟩ = (cs.toArray ++ ds.toArray ++ zr)[k]? := fun k =>
        cell_of_row (w.drew.alloc (.cells (cs.toArray ++ ds.toArray ++ zr) e)) w.heap.size k _ e (0, 0) (heap_alloc_new w.drew _)
      have hcl : cs.length + ds.length = (n + m) * sy := by rw [k1, d1, Nat.add_mul]
      have hcell1 : ∀ k u, (cs ++ ds)[k]? = some u → (w.drew.alloc (.cells (cs.toArray ++ ds.toArray ++ zr) e)).cell? ⟨w.heap.size, k, none⟩ = some u := fun k u hk => by
        have hlt : k < (cs ++ ds).length := by
          rcases Nat.lt_or_ge k (cs ++ ds).length with h' | h'
          · exact h'
          · rw [List.getElem?_eq_none h'] at hk; cases hk
        rw [hcell, Array.getElem?_append_left (by simpa using hlt), ← hk]
        simp
      obtain ⟨l1, l2⟩ := H.grow hg (fun a' => G.I a' ∨ (a'.block = w.heap.size ∧ a'.spot = none ∧ a'.off < (n + m) * sy)) (fun _ h => .inl h) (fun a' ha' => by
          rcases ha' with h' | h'
          · exact .inl h'
          · exact .inr (by omega)) (fun a' ha' => by
          rcases ha' with h' | ⟨h1', h2', h3'⟩
          · rw [hg.cell (H.ilt h')]; exact H.icell a' h'
          · have ea : a' = ⟨w.heap.size, a'.off, none⟩ := by cases a'; simp_all
            have hlt : a'.off < (cs ++ ds).length := by simp; omega
            rw [ea, hcell1 a'.off _ (List.getElem?_eq_getElem hlt)]; rfl)
      have hT' : Tail E { G with I := fun a' => G.I a' ∨ (a'.block = w.heap.size ∧ a'.spot = none ∧ a'.off < (n + m) * sy) } (w.drew.alloc (.cells (cs.toArray ++ ds.toArray ++ zr) e)) (some ⟨w.heap.size, 0, none⟩) (n + m) ncap sy := fun k hk hk' => by
        refine ⟨_, rfl, ?_, ?_, ?_, ⟨fun hk'' => ?_, H.size⟩, fun m' hm' => ?_⟩
        · rw [add_mk, Nat.zero_add, hcell]
          have hmul : (n + m) * sy ≤ ncap * sy := Nat.mul_le_mul_right _ hge
          have hlt : k < (cs.toArray ++ ds.toArray ++ zr).size := by
            simp only [Array.size_append, List.size_toArray, hzl, Nat.sub_mul]
            omega
          exact Option.isSome_iff_exists.2 ⟨_, Array.getElem?_eq_getElem hlt⟩
        · rw [add_mk]
          have hh := heap_alloc_new w.drew (.cells (cs.toArray ++ ds.toArray ++ zr) e)
          unfold World.frozen?
          simp only
          rw [show w.heap.size = w.drew.heap.size from rfl, hh]
          simp
        · rw [add_mk]
          rintro (hi' | ⟨_, _, hi'⟩)
          · have := H.ilt hi'; simp at this
          · simp at hi'; omega
        · have h1' := (H.kept _ hk'').1; have h2' := H.size; simp only at h1'; omega
        · have := (H.bown m' _ hm').1; simp at this
      obtain ⟨r1, r2⟩ := l2.addRow hq hT' (fun _ r' A' n' cap' sz' hr' g' l' ad ad' e1 e2 => by
        injection e1 with e1; subst e1; subst e2
        obtain ⟨A2, n2, cap2, sz2, g2, T2⟩ := H.row r' hr'
        have g' : G.row r' = some (some ad', n', cap', sz') := g'
        rw [g2] at g'
        injection g' with g'; injection g' with x1 x2; injection x2 with x2 x3; injection x3 with x3 x4
        subst x1; subst x2; subst x3; subst x4
        obtain ⟨ad3, e3, q1, _⟩ := T2 (n2 * sz2) (Nat.le_refl _) l'
        injection e3 with e3; subst e3
        obtain ⟨v3, hv3⟩ := Option.isSome_iff_exists.1 q1
        have := World.block_lt_of_cell? w _ hv3
        rw [block_add] at this
        intro hh; simp at hh; omega)
      refine ⟨_, _, _, hrun, l1.trans r1, r2, ?_⟩
      have hrep := rep_joined (I := fun a' => G.I a' ∨ (a'.block = w.heap.size ∧ a'.spot = none ∧ a'.off < (n + m) * sy)) (w := w.drew.alloc (.cells (cs.toArray ++ ds.toArray ++ zr) e)) (cap := ncap) (b := w.heap.size) (o := 0) (cs := cs) (ds := ds) k6 d6 k7 d7 (by rw [k1, k5]) (by rw [d1, d5])
        (fun j u hj => by
          rw [Nat.zero_add]
          refine ⟨hcell1 j u hj, .inr ⟨rfl, rfl, ?_⟩⟩
          rcases Nat.lt_or_ge j (cs ++ ds).length with h' | h'
          · simp at h'; simp; omega
          · rw [List.getElem?_eq_none h'] at hj; cases hj)
        (fun j c u hj hu => (k4 j c u hj hu).mono l1.imm) (fun j c u hj hu => (d4 j c u hj hu).mono l1.imm) (by omega) hle'
      rw [← k5, ← d5] at hrep
      exact .own (by simp) hrep

end
end Go.Proofs.Ytbfjmachkbhfnaa.AL
end

section
namespace Go.Proofs.Ytbfjmachkbhfnaa.AL
open Go
/-! Further operations, each by itself. -/
section
variable {P : Program} {w : World}
theorem run_eqIn_bool (d : Nat) {t : TypeId} (hu : P.underlying t = some .bool) (a b : Bool) : (Op.equalIn (d + 1) t (.bool a) (.bool b)).run P w = .ok (a == b) w := by
  simp [Op.equalIn, run_underlying hu]
theorem run_eqIn_nn (d : Nat) {t : TypeId} {ms : Array (String × TypeId)} (hu : P.underlying t = some (.interface ms)) : (Op.equalIn (d + 1) t .nilIface .nilIface).run P w = .ok true w := by
  simp [Op.equalIn, run_underlying hu]
theorem run_eqIn_in (d : Nat) {t ty : TypeId} {v : Value} {ms : Array (String × TypeId)} (hu : P.underlying t = some (.interface ms)) : (Op.equalIn (d + 1) t (.iface ty v) .nilIface).run P w = .ok false w := by
  simp [Op.equalIn, run_underlying hu]
theorem run_eq_bool (neg : Bool) {t : TypeId} (hu : P.underlying t = some .bool) (a b : Bool) : (binOp (if neg then .neq else .eql) t (.bool a) (.bool b)).run P w = .ok (.bool (neg ^^ (a == b))) w := by
  have h := run_eqIn_bool (P := P) (w := w) 9999 hu a b
  cases neg <;> simp only [binOp, Bool.false_eq_true, if_false, if_true] <;> simp [Op.equal, Op.maxDepth, h]
theorem run_eq_nn (neg : Bool) {t : TypeId} {ms : Array (String × TypeId)} (hu : P.underlying t = some (.interface ms)) : (binOp (if neg then .neq else .eql) t .nilIface .nilIface).run P w = .ok (.bool !neg) w := by
  have h := run_eqIn_nn (P := P) (w := w) 9999 hu
  cases neg <;> simp only [binOp, Bool.false_eq_true, if_false, if_true] <;> simp [Op.equal, Op.maxDepth, h]
theorem run_eq_in (neg : Bool) {t ty : TypeId} {v : Value} {ms : Array (String × TypeId)} (hu : P.underlying t = some (.interface ms)) : (binOp (if neg then .neq else .eql) t (.iface ty v) .nilIface).run P w = .ok (.bool neg) w := by
  have h := run_eqIn_in (P := P) (w := w) (ty := ty) (v := v) 9999 hu
  cases neg <;> simp only [binOp, Bool.false_eq_true, if_false, if_true] <;> simp [Op.equal, Op.maxDepth, h]
theorem eqGuard_bool (op : BinOp) (t : TypeId) (x y : Operand) (a b : Bool) : (eqGuard op t x y (.bool a) (.bool b)).run P w = .ok () w := by
  unfold eqGuard; cases op <;> simp
theorem eqGuard_nn (op : BinOp) (t : TypeId) (x : Operand) : (eqGuard op t x (.const .nilIface) .nilIface .nilIface).run P w = .ok () w := by
  unfold eqGuard; cases op <;> simp
theorem eqGuard_in (op : BinOp) (t ty : TypeId) (v : Value) (x y : Operand) : (eqGuard op t x y (.iface ty v) .nilIface).run P w = .ok () w := by
  unfold eqGuard; cases op <;> simp
end
section
variable {E : Env} {P : Program} {ro : Option Nat} {o : Oper}

theorem sound_eqBool {neg t u x y x' y'} {a b : Bool} (h : o.op = .binOp (if neg then .neq else .eql) t x y u) (hx : CO x x') (hy : CO y y') (hu : P.underlying t = some .bool) (p : Prop) :
    OpLoc E P ro o [(x', .d (.lit (.bool a))), (y', .d (.lit (.bool b)))] { c := p, v := .d (.lit (.bool (neg ^^ (a == b)))) } :=
  opLoc_pure (by simp [h]) fun G ac w hp H hv => by
    obtain ⟨v1, v2⟩ := ev2 hv hx hy
    obtain ⟨e1, _⟩ := v1.lit
    obtain ⟨e2, _⟩ := v2.lit
    refine ⟨.bool (neg ^^ (a == b)), ?_, repBool _⟩
    simp only [execOp, h, e1, e2, Sem.run_bind, eqGuard_bool, Result.andThen_ok, run_eq_bool neg hu, Sem.run_pure]

theorem sound_isNil_n {neg t u x x' ms} (h : o.op = .binOp (if neg then .neq else .eql) t x (.const .nilIface) u) (hx : CO x x') (hu : P.underlying t = some (.interface ms)) (p : Prop) :
    OpLoc E P ro o [(x', .d (.lit .nilIface))] { c := p, v := .d (.lit (.bool !neg)) } :=
  opLoc_pure (by simp [h]) fun G ac w hp H hv => by
    obtain ⟨e1, _⟩ := (ev1 hv hx).lit
    refine ⟨.bool !neg, ?_, repBool _⟩
    have e2 : ac.eval (.const .nilIface) = .nilIface := rfl
    simp only [execOp, h, e1, e2, Sem.run_bind, eqGuard_nn, Result.andThen_ok, run_eq_nn neg hu, Sem.run_pure]

theorem sound_isNil_i {neg t u x x' ms ty} {d : D} (h : o.op = .binOp (if neg then .neq else .eql) t x (.const .nilIface) u) (hx : CO x x') (hu : P.underlying t = some (.interface ms)) (p : Prop) :
    OpLoc E P ro o [(x', .d (.ifc ty d))] { c := p, v := .d (.lit (.bool neg)) } :=
  opLoc_pure (by simp [h]) fun G ac w hp H hv => by
    have hr := (ev1 hv hx).of_d
    generalize he : ac.eval x = z at hr
    cases hr
    refine ⟨.bool neg, ?_, repBool _⟩
    have e2 : ac.eval (.const .nilIface) = .nilIface := rfl
    simp only [execOp, h, he, e2, Sem.run_bind, eqGuard_in, Result.andThen_ok, run_eq_in neg hu, Sem.run_pure]

theorem u8_range (b : UInt8) : Sc (.int .u8 b.toNat) := by
  have := b.toNat_lt
  simp [Sc, IntKind.min, IntKind.max, IntKind.bits, IntKind.signed]; omega

theorem get_data (s : ByteArray) (i : Nat) : s[i]? = s.data.toList[i]? := by
  rw [Array.getElem?_toList]
  by_cases h : i < s.size
  · rw [getElem?_pos s i h, Array.getElem?_eq_getElem (by exact h)]; rfl
  · rw [getElem?_neg s i h, Array.getElem?_eq_none (by exact Nat.le_of_not_lt h)]

theorem sound_strIdx {t x y x' y'} {s : ByteArray} {k : IntKind} {i : Int} (h : o.op = .index t x y) (hx : CO x x') (hy : CO y y') (hu : P.underlying t = some .string) (hc : 0 ≤ i ∧ i < s.data.toList.length) (p : Prop) :
    OpLoc E P ro o [(x', .d (.lit (.string s))), (y', .d (.lit (.int k i)))] { c := p, v := .d (.lit (.int .u8 (s.data.toList.getD i.toNat 0).toNat)) } :=
  opLoc_pure (by simp [h]) fun G ac w hp H hv => by
    obtain ⟨v1, v2⟩ := ev2 hv hx hy
    obtain ⟨e1, _⟩ := v1.lit
    obtain ⟨e2, _⟩ := v2.lit
    refine ⟨_, ?_, .d (.lit (u8_range _))⟩
    have hlt : i.toNat < s.data.toList.length := by omega
    have hg : s[i.toNat]? = some (s.data.toList.getD i.toNat 0) := by
      rw [get_data, List.getElem?_eq_getElem hlt]; simp [List.getD, List.getElem?_eq_getElem hlt]
    simp only [execOp, h, e1, e2, Instr.index, asIntOf, Sem.run_bind, Sem.run_pure, Result.andThen_ok, run_underlying hu, hc.1, if_true, hg]

theorem extract_data (s : ByteArray) (l h : Nat) : s.extract l h = ⟨((s.data.toList.take h).drop l).toArray⟩ := by
  have : s = ⟨s.data.toList.toArray⟩ := by cases s; simp
  rw [this, ByteArray.extract_mk, List.drop_take]

theorem extract_whole (s : ByteArray) : s.extract 0 s.size = s := by
  rw [extract_data, List.take_of_length_le (by simp)]; cases s; simp

theorem sound_sliceS {t x lo hi x' lo' hi'} {s : ByteArray} {vs vs' : List AV} {l hh : Int} (h : o.op = .slice t x lo hi none) (hx : CO x x') (hlo : COopt lo lo') (hhi : COopt hi hi') (hu : P.underlying t = some .string)
    (hb1 : bound lo' vs 0 = some (l, vs')) (hb2 : bound hi' vs' s.data.toList.length = some (hh, [])) (hc : 0 ≤ l ∧ l ≤ hh ∧ hh ≤ s.data.toList.length) (p : Prop) :
    OpLoc E P ro o ((x' :: (optL lo' ++ optL hi')).zip (.d (.lit (.string s)) :: vs)) { c := p, v := .d (.lit (.string ⟨((s.data.toList.take hh.toNat).drop l.toNat).toArray⟩)) } :=
  opLoc_pure (by simp [h]) fun G ac w hp H hv => by
    obtain ⟨c1, c2, c3⟩ := hc
    obtain ⟨e1, s1⟩ := ((hv (x', .d (.lit (.string s))) (by simp) x hx)).lit
    have hsz : s.size = s.data.toList.length := by simp
    obtain ⟨g1, g2⟩ := bound_ev hlo hb1 (fun p hp => hv p (by simp; exact .inr hp)) (rest := optL hi')
    obtain ⟨g3, _⟩ := bound_ev hhi hb2 (rest := []) (by simpa using g2)
    obtain ⟨l, rfl⟩ := Int.eq_ofNat_of_zero_le c1
    obtain ⟨hh, rfl⟩ := Int.eq_ofNat_of_zero_le (Int.le_trans c1 c2)
    have hrun : (Instr.sliceAt t (.string s) (lo.map ac.eval) (hi.map ac.eval) none).run P w = .ok (.string (s.extract l hh)) w := by
      have c2' : (l : Int) ≤ hh := c2
      have c3' : (hh : Int) ≤ s.size := by rw [hsz]; exact c3
      rcases g1 with ⟨q1, q2⟩ | ⟨k, q1⟩ <;> rcases g3 with ⟨q3, q4⟩ | ⟨k', q3⟩ <;> rw [q1, q3] <;>
        simp [Instr.sliceAt, run_underlying hu, Instr.slice, Instr.sliceBounds, Instr.sliceBound, asIntOf]
      · have e1 : l = 0 := by simpa using q2
        have e2 : hh = s.size := by have : (hh : Int) = _ := q4; omega
        rw [e1, e2]; exact (extract_whole s).symm
      · have e1 : l = 0 := by simpa using q2
        have : hh ≤ s.size := by omega
        simp [e1, this]
      · have e2 : hh = s.size := by have : (hh : Int) = _ := q4; omega
        subst e2
        have : l ≤ s.size := by omega
        simp [this]
      · have : l ≤ hh := by omega
        have h2 : hh ≤ s.size := by omega
        simp [this, h2]
    refine ⟨.string (s.extract l hh), by simp only [execOp, h, Sem.run_bind, e1, Option.map_none, hrun, Result.andThen_ok, Sem.run_pure], ?_⟩
    rw [extract_data]
    refine .d (.lit ?_)
    simp only [Sc] at s1 ⊢
    show ((s.data.toList.take (hh : Int).toNat).drop (l : Int).toNat).toArray.size ≤ _
    simp only [List.size_toArray, List.length_drop, List.length_take, Int.toNat_natCast]; omega

theorem fdiv_range {k : IntKind} {a : Int} (n : Nat) (ha : k.min ≤ a ∧ a ≤ k.max) : k.min ≤ a.fdiv (2 ^ n) ∧ a.fdiv (2 ^ n) ≤ k.max := by
  have hp : (0 : Int) < 2 ^ n := Int.pow_pos (by decide)
  have hm : k.min ≤ 0 := by cases k <;> simp [IntKind.min, IntKind.bits, IntKind.signed]
  have hM : 0 ≤ k.max := by cases k <;> simp [IntKind.max, IntKind.bits, IntKind.signed]
  rw [Int.fdiv_eq_ediv_of_nonneg _ (Int.le_of_lt hp)]
  rcases Int.le_total 0 a with h | h
  · have h1 := Int.ediv_nonneg h (Int.le_of_lt hp)
    have h2 := Int.ediv_le_self (2 ^ n) h
    omega
  · have h1 : a / 2 ^ n ≤ 0 := by
      have := Int.ediv_le_ediv hp h
      simpa using this
    have h2 : a ≤ a / 2 ^ n := by
      rw [Int.le_ediv_iff_mul_le hp]
      have h3 := Int.mul_le_mul_of_nonneg_left (a := 1) (b := 2 ^ n) (c := -a) (by omega) (by omega)
      rw [Int.neg_mul, Int.neg_mul] at h3
      omega
    omega
theorem sound_shift {left : Bool} {t u x y x' y'} {k k' : IntKind} {a b : Int} (h : o.op = .binOp (if left then .shl else .shr) t x y u) (hx : CO x x') (hy : CO y y') (hc : 0 ≤ b) (p : Prop) :
    OpLoc E P ro o [(x', .d (.lit (.int k a))), (y', .d (.lit (.int k' b)))] { c := p, v := .d (.lit (shiftV left k a b)) } :=
  opLoc_pure (by simp [h]) fun G ac w hp H hv => by
    obtain ⟨v1, v2⟩ := ev2 hv hx hy
    obtain ⟨e1, s1⟩ := v1.lit
    obtain ⟨e2, s2⟩ := v2.lit
    have hn : ¬ b < 0 := by omega
    refine ⟨shiftV left k a b, ?_, .d (.lit ?_)⟩
    · cases left <;> simp [execOp, h, e1, e2, eqGuard_int, binOp, Op.shift, hn, shiftV]
    · cases left
      · simp only [shiftV, Sc, Bool.false_eq_true, if_false]; exact fdiv_range _ s1
      · simp only [shiftV, Sc, if_true]; exact wrap_range _ _

theorem sound_uneg {t x x'} {k : IntKind} {a : Int} (h : o.op = .unOp .neg t x) (hx : CO x x') (p : Prop) : OpLoc E P ro o [(x', .d (.lit (.int k a)))] { c := p, v := .d (.lit (.int k (k.wrap (0 - a)))) } :=
  opLoc_pure (by simp [h]) fun G ac w hp H hv => by
    obtain ⟨e1, s1⟩ := (ev1 hv hx).lit
    exact ⟨.int k (k.wrap (0 - a)), by simp [execOp, h, e1, Op.unary, Op.intArith], .d (.lit (wrap_range _ _))⟩

theorem sound_ucompl {t x x'} {k : IntKind} {a : Int} (h : o.op = .unOp .xor t x) (hx : CO x x') (p : Prop) :
    OpLoc E P ro o [(x', .d (.lit (.int k a)))] { c := p, v := .d (.lit (.int k (complV k a))) } :=
  opLoc_pure (by simp [h]) fun G ac w hp H hv => by
    obtain ⟨e1, s1⟩ := (ev1 hv hx).lit
    exact ⟨.int k (complV k a), by simp [execOp, h, e1, Op.unary, Op.intBits, complV], .d (.lit (wrap_range _ _))⟩

theorem sound_tassert_i {x x' st at_ i zv} {z : D} {ty : TypeId} {d : D} {desc : TypeDesc} (h : o.op = .typeAssert x st at_ true) (hx : CO x x') (hu : P.underlying at_ = some desc) (hd : ∀ ms, desc ≠ .interface ms) (hi : P.info? at_ = some i) (hz : i.zero = some zv) (hzz : ∀ I w, Rep I w z zv) (p : Prop) :
    OpLoc E P ro o [(x', .d (.ifc ty d))] { c := p, v := .d (.tup [if ty = at_ then d else z, .lit (.bool (decide (ty = at_)))]) } :=
  opLoc_pure (by simp [h]) fun G ac w hp H hv => by
    have hr := (ev1 hv hx).of_d
    generalize he : ac.eval x = u at hr
    cases hr
    rename_i v hr
    refine ⟨.tuple #[if ty = at_ then v else zv, .bool (decide (ty = at_))], ?_, .d (.tup rfl (fun k c u hk hu => ?_))⟩
    · have hrun : (Instr.typeAssert (.iface ty v) st at_ true).run P w = .ok (.tuple #[if ty = at_ then v else zv, .bool (decide (ty = at_))]) w := by
        unfold Instr.typeAssert
        simp only [Sem.run_bind, run_underlying hu, Result.andThen_ok]
        cases desc <;> first
          | (exact absurd rfl (hd _))
          | (by_cases ht : ty = at_ <;> simp [ht, zeroValue, typeInfo, hi, hz])
      simp only [execOp, h, Sem.run_bind, he, hrun, Result.andThen_ok, Sem.run_pure]
    · match k with
      | 0 =>
        simp at hk hu; subst hk; subst hu
        split
        · exact hr
        · exact hzz _ _
      | 1 => simp at hk hu; subst hk; subst hu; exact .lit trivial
      | k + 2 => simp at hk

theorem sound_tassert_n {x x' st at_ i zv} {z : D} {desc : TypeDesc} (h : o.op = .typeAssert x st at_ true) (hx : CO x x') (hu : P.underlying at_ = some desc) (hd : ∀ ms, desc ≠ .interface ms) (hi : P.info? at_ = some i) (hz : i.zero = some zv) (hzz : ∀ I w, Rep I w z zv) (p : Prop) :
    OpLoc E P ro o [(x', .d (.lit .nilIface))] { c := p, v := .d (.tup [z, .lit (.bool false)]) } :=
  opLoc_pure (by simp [h]) fun G ac w hp H hv => by
    obtain ⟨e1, _⟩ := (ev1 hv hx).lit
    refine ⟨.tuple #[zv, .bool false], ?_, .d (.tup rfl (fun k c u hk hu => ?_))⟩
    · have hrun : (Instr.typeAssert .nilIface st at_ true).run P w = .ok (.tuple #[zv, .bool false]) w := by
        unfold Instr.typeAssert
        simp only [Sem.run_bind, run_underlying hu, Result.andThen_ok]
        cases desc <;> first
          | (exact absurd rfl (hd _))
          | (simp [zeroValue, typeInfo, hi, hz])
      simp only [execOp, h, Sem.run_bind, e1, hrun, Result.andThen_ok, Sem.run_pure]
    · match k with
      | 0 => simp at hk hu; subst hk; subst hu; exact hzz _ _
      | 1 => simp at hk hu; subst hk; subst hu; exact .lit trivial
      | k + 2 => simp at hk

theorem sound_nilChk_p {x x'} {n off : Nat} (h : o.op = .nilCheck x) (hx : CO x x') (p : Prop) : OpLoc E P ro o [(x', .ptr n off)] { c := p, v := .ptr n off } :=
  opLoc_pure (by simp [h]) fun G ac w hp H hv => by
    have hr := ev1 hv hx
    generalize he : ac.eval x = u at hr
    cases hr
    rename_i b hb
    exact ⟨.pointer (some ⟨b, off, none⟩), by simp [execOp, h, he], .ptr hb⟩
theorem sound_nilChk_d {x x'} {d : D} (h : o.op = .nilCheck x) (hx : CO x x') (p : Prop) : OpLoc E P ro o [(x', .d (.ip d))] { c := p, v := .d (.ip d) } :=
  opLoc_pure (by simp [h]) fun G ac w hp H hv => by
    have hr := (ev1 hv hx).of_d
    generalize he : ac.eval x = u at hr
    have hr' := hr
    cases hr
    rename_i ad vs _ _ _
    exact ⟨.pointer (some ad), by simp [execOp, h, he], .d hr'⟩
end
end Go.Proofs.Ytbfjmachkbhfnaa.AL
end

section
namespace Go.Proofs.Ytbfjmachkbhfnaa.AL
open Go

def litV : SK → Value → Option Lit
  | .int k, .int k' n => if k' = k ∧ (Lit.int k n).wf = true then some (.int k n) else none
  | .bool, .bool b => some (.bool b)
  | .str, .string s => if s.size ≤ maxLen then some (.string s.data.toList) else none
  | _, _ => none
def litsV : List SK → List Value → Option (List Lit)
  | [], [] => some []
  | k :: ks, v :: vs => match litV k v, litsV ks vs with
    | some l, some ls => some (l :: ls)
    | _, _ => none
  | _, _ => none

theorem litsV_append : ∀ {ks1 ks2 : List SK} {vs : List Value} {l : List Lit}, litsV (ks1 ++ ks2) vs = some l → ∃ l1 l2, litsV ks1 (vs.take ks1.length) = some l1 ∧ litsV ks2 (vs.drop ks1.length) = some l2 ∧ l = l1 ++ l2
  | [], ks2, vs, l, h => ⟨[], l, by simp [litsV], by simpa using h, rfl⟩
  | k :: ks, ks2, [], l, h => by simp [litsV] at h
  | k :: ks, ks2, v :: vs, l, h => by
    simp only [List.cons_append, litsV] at h
    split at h
    · rename_i a b h1 h2
      obtain ⟨l1, l2, e1, e2, e3⟩ := litsV_append h2
      injection h with h
      exact ⟨a :: l1, l2, by simp [litsV, h1, e1], by simpa using e2, by simp [← h, e3]⟩
    · cases h
theorem litsV_len : ∀ {ks : List SK} {vs : List Value} {l : List Lit}, litsV ks vs = some l → vs.length = ks.length
  | [], [], _, _ => rfl
  | [], _ :: _, _, h => by simp [litsV] at h
  | _ :: _, [], _, h => by simp [litsV] at h
  | k :: ks, v :: vs, l, h => by
    simp only [litsV] at h
    split at h
    · rename_i h2; simp [litsV_len h2]
    · cases h

section
variable {P : Program}

theorem litsV_take {ks : List SK} {vs : List Value} {l : List Lit} (h : litsV ks vs = some l) : vs.take ks.length = vs := by rw [← litsV_len h]; simp

theorem fields_lits {m : Nat} {cs : List Value} (IH : ∀ t ks vs l, kindsOf P m t = some ks → litsV ks vs = some l → P.keyLits m t vs = some l) :
    ∀ {fs : List Field} {off : Nat} {ks : List SK} {l : List Lit}, kindsF P (kindsOf P m) off fs = some ks → litsV ks (cs.drop off) = some l →
      ∃ as, fs.mapM (fun f => P.keyLits m f.type ((cs.drop f.offset).take (P.cellsOf f.type))) = some as ∧ as.flatten = l
  | [], off, ks, l, h, hl => by
    simp only [kindsF, Option.some.injEq] at h; subst h
    cases hd : cs.drop off with
    | nil => rw [hd] at hl; simp [litsV] at hl; exact ⟨[], by simp, by simp [hl]⟩
    | cons a b => rw [hd] at hl; simp [litsV] at hl
  | f :: r, off, ks, l, h, hl => by
    simp only [kindsF] at h
    split at h
    · rename_i k1 hk
      split at h
      · rename_i hc
        obtain ⟨rfl, hc2⟩ := hc
        simp only [Option.map_eq_some_iff] at h
        obtain ⟨k2, h2, rfl⟩ := h
        obtain ⟨l1, l2, e1, e2, rfl⟩ := litsV_append hl
        rw [List.drop_drop] at e2
        obtain ⟨as, i1, i2⟩ := fields_lits IH h2 e2
        refine ⟨l1 :: as, ?_, by simp [i2]⟩
        rw [List.mapM_cons, hc2, IH _ _ _ _ hk e1, i1]
        rfl
      · cases h
    · cases h

theorem items_lits {m : Nat} {cs : List Value} {e : TypeId} {ks : List SK} (IH : ∀ vs l, litsV ks vs = some l → P.keyLits m e vs = some l) (hc : P.cellsOf e = ks.length) :
    ∀ {n i0 : Nat} {l : List Lit}, litsV (List.replicate n ks).flatten (cs.drop (i0 * ks.length)) = some l →
      ∃ as, (List.range' i0 n).mapM (fun i => P.keyLits m e ((cs.drop (i * P.cellsOf e)).take (P.cellsOf e))) = some as ∧ as.flatten = l
  | 0, i0, l, hl => by
    cases hd : cs.drop (i0 * ks.length) with
    | nil => rw [hd] at hl; simp [litsV] at hl; exact ⟨[], by simp, by simp [hl]⟩
    | cons a b => rw [hd] at hl; simp [litsV] at hl
  | n + 1, i0, l, hl => by
    rw [List.replicate_succ, List.flatten_cons] at hl
    obtain ⟨l1, l2, e1, e2, rfl⟩ := litsV_append hl
    rw [List.drop_drop, show i0 * ks.length + ks.length = (i0 + 1) * ks.length by rw [Nat.succ_mul]] at e2
    obtain ⟨as, i1, i2⟩ := items_lits IH hc e2
    refine ⟨l1 :: as, ?_, by simp [i2]⟩
    rw [List.range'_succ, List.mapM_cons]
    rw [hc] at i1 ⊢
    rw [IH _ _ e1, i1]
    rfl

theorem keyLits_kinds : ∀ (m : Nat) (t : TypeId) (ks : List SK) (vs : List Value) (l : List Lit), kindsOf P m t = some ks → litsV ks vs = some l → P.keyLits m t vs = some l
  | 0, _, _, _, _, h, _ => by simp [kindsOf] at h
  | m + 1, t, ks, vs, l, h, hl => by
    have plain : ∀ k, ks = [k] → ∃ v a, vs = [v] ∧ l = [a] ∧ litV k v = some a := fun k hk => by
      subst hk
      match vs, hl with
      | [], hl => simp [litsV] at hl
      | [v], hl =>
        simp only [litsV] at hl
        split at hl
        · rename_i a b h1 h2; injection hl with hl; injection h2 with h2; subst h2; exact ⟨v, a, rfl, hl.symm, h1⟩
        · cases hl
      | v :: u :: r, hl =>
        simp only [litsV] at hl
        split at hl
        · rename_i h2; simp at h2
        · cases hl
    unfold kindsOf at h
    unfold Program.keyLits
    split at h
    · rename_i hu
      injection h with h
      obtain ⟨v, a, rfl, rfl, e⟩ := plain _ h.symm
      unfold litV at e
      split at e <;> simp_all
    · rename_i hu
      injection h with h
      obtain ⟨v, a, rfl, rfl, e⟩ := plain _ h.symm
      unfold litV at e
      split at e <;> simp_all
      obtain ⟨⟨e1, e2⟩, e3⟩ := e
      subst e1; simp_all
    · rename_i hu
      injection h with h
      obtain ⟨v, a, rfl, rfl, e⟩ := plain _ h.symm
      unfold litV at e
      split at e <;> simp_all
    · rename_i n e hu
      split at h
      · rename_i k2 hk
        split at h
        · rename_i hc
          injection h with h
          have hlen := litsV_len hl
          rw [← h] at hl hlen
          obtain ⟨as, i1, i2⟩ := items_lits (P := P) (m := m) (cs := vs) (e := e) (fun vs l hvl => keyLits_kinds m e k2 vs l hk hvl) hc.1 (n := n) (i0 := 0) (by simpa using hl)
          simp only [hu]
          rw [if_pos (by rw [hlen, hc.2]; simp), List.range_eq_range', i1]
          simp [i2]
        · cases h
      · cases h
    · rename_i fs hu
      split at h
      · rename_i k2 hk
        split at h
        · rename_i hc
          injection h with h
          subst h
          have hlen := litsV_len hl
          obtain ⟨as, i1, i2⟩ := fields_lits (P := P) (m := m) (cs := vs) (fun t ks vs l hkl hvl => keyLits_kinds m t ks vs l hkl hvl) (fs := fs.toList) (off := 0) hk (by simpa using hl)
          simp only [hu]
          rw [if_pos ⟨by rw [hlen, hc.1], hc.2⟩, i1]
          simp [i2]
        · cases h
      · cases h
    · cases h

theorem eqC_lits {I : Addr → Prop} {w : World} : ∀ {ks : List SK} {xs ys : List D} {us vs : List Value}, eqC ks xs ys → us.length = xs.length → vs.length = ys.length →
    (∀ (k : Nat) (c : D) (v : Value), xs[k]? = some c → us[k]? = some v → Rep I w c v) → (∀ (k : Nat) (c : D) (v : Value), ys[k]? = some c → vs[k]? = some v → Rep I w c v) →
    ∃ la lb, litsV ks us = some la ∧ litsV ks vs = some lb ∧ (eqB xs ys = true ↔ la = lb) ∧ xs.length = ks.length ∧ ys.length = ks.length
  | [], [], [], us, vs, _, hu, hv, _, _ => by
    have e1 : us = [] := List.eq_nil_of_length_eq_zero (by simpa using hu)
    have e2 : vs = [] := List.eq_nil_of_length_eq_zero (by simpa using hv)
    subst e1; subst e2
    exact ⟨[], [], rfl, rfl, by simp [eqB], rfl, rfl⟩
  | k :: ks, x :: xs, y :: ys, us, vs, h, hu, hv, h1, h2 => by
    cases us with
    | nil => simp at hu
    | cons u us =>
    cases vs with
    | nil => simp at hv
    | cons v vs =>
      have hx := h1 0 x u rfl rfl
      have hy := h2 0 y v rfl rfl
      have ih : eqC ks xs ys → ∃ la lb, litsV ks us = some la ∧ litsV ks vs = some lb ∧ (eqB xs ys = true ↔ la = lb) ∧ xs.length = ks.length ∧ ys.length = ks.length := fun h' =>
        eqC_lits h' (by simpa using hu) (by simpa using hv) (fun k c z a b => h1 (k + 1) c z (by simpa using a) (by simpa using b)) (fun k c z a b => h2 (k + 1) c z (by simpa using a) (by simpa using b))
      unfold eqC at h
      split at h
      · rename_i heq1 heq2 heq3
        injection heq1 with a1 a2; injection heq2 with b1 b2; injection heq3 with c1 c2
        subst a1; subst a2; subst b1; subst b2; subst c1; subst c2
        obtain ⟨rfl, rfl, h⟩ := h
        obtain ⟨la, lb, e1, e2, e3, e4, e5⟩ := ih h
        cases hx; cases hy
        rename_i s1 s2
        simp only [Sc] at s1 s2
        refine ⟨_, _, by simp [litsV, litV, e1, Lit.wf, s1]; rfl, by simp [litsV, litV, e2, Lit.wf, s2]; rfl, by simp [eqB, e3], by simp [e4], by simp [e5]⟩
      · rename_i heq1 heq2 heq3
        injection heq1 with a1 a2; injection heq2 with b1 b2; injection heq3 with c1 c2
        subst a1; subst a2; subst b1; subst b2; subst c1; subst c2
        obtain ⟨la, lb, e1, e2, e3, e4, e5⟩ := ih h
        cases hx; cases hy
        refine ⟨_, _, by simp [litsV, litV, e1]; rfl, by simp [litsV, litV, e2]; rfl, by simp [eqB, e3], by simp [e4], by simp [e5]⟩
      · rename_i heq1 heq2 heq3
        injection heq1 with a1 a2; injection heq2 with b1 b2; injection heq3 with c1 c2
        subst a1; subst a2; subst b1; subst b2; subst c1; subst c2
        obtain ⟨la, lb, e1, e2, e3, e4, e5⟩ := ih h
        cases hx; cases hy
        rename_i s t s1 s2
        simp only [Sc] at s1 s2
        refine ⟨_, _, by simp [litsV, litV, e1, maxLen, s1]; rfl, by simp [litsV, litV, e2, maxLen, s2]; rfl, ?_, by simp [e4], by simp [e5]⟩
        simp only [eqB, Bool.and_eq_true, decide_eq_true_eq, e3, List.cons.injEq, Lit.string.injEq]
        constructor
        · rintro ⟨rfl, h⟩; exact ⟨rfl, h⟩
        · rintro ⟨h1, h⟩; exact ⟨by cases s; cases t; simp at h1; simp [h1], h⟩
      · rename_i heq1 _ _; cases heq1
      · exact h.elim
  | [], _ :: _, _, us, vs, h, _, _, _, _ => by simp [eqC] at h
  | [], [], _ :: _, us, vs, h, _, _, _, _ => by simp [eqC] at h
  | k :: ks, [], _, us, vs, h, _, _, _, _ => by cases k <;> simp [eqC] at h
  | k :: ks, x :: xs, [], us, vs, h, _, _, _, _ => by
    exfalso
    unfold eqC at h
    split at h
    · rename_i e; cases e
    · rename_i e; cases e
    · rename_i e; cases e
    · rename_i e _ _; cases e
    · exact h

theorem toDs_all : ∀ {cs : List AV} {ds : List D}, toDs cs = some ds → ds.length = cs.length ∧ ∀ (k : Nat) (d : D), ds[k]? = some d → ∃ c : AV, cs[k]? = some c ∧ c.toD1 = some d
  | [], ds, h => by simp [toDs] at h; subst h; simp
  | c :: cs, ds, h => by
    simp only [toDs] at h
    split at h
    · rename_i x l h1 h2
      injection h with h; subst h
      obtain ⟨i1, i2⟩ := toDs_all h2
      refine ⟨by simp [i1], fun k d hk => ?_⟩
      cases k with
      | zero => simp at hk; subst hk; exact ⟨c, rfl, h1⟩
      | succ k => exact i2 k d (by simpa using hk)
    · cases h

theorem rowD_rep {G : Gh} {w : World} {x : AV} {xs : List D} {v : Value} (h : x.rowD = some xs) (hr : RepA G w x v) : ∃ cs, v = .agg cs ∧ cs.size = xs.length ∧ ∀ (k : Nat) (c : D) (u : Value), xs[k]? = some c → cs.toList[k]? = some u → Rep G.I w c u := by
  unfold AV.rowD at h
  split at h
  · injection h with h; subst h
    cases hr; rename_i hr
    cases hr; rename_i vs hl h1 hr
    exact ⟨vs, rfl, hl, fun k c u hk hu => hr k c u hk (by simpa using hu)⟩
  · cases hr; rename_i cs vs hl h1 hr
    obtain ⟨i1, i2⟩ := toDs_all h
    refine ⟨vs, rfl, by rw [hl, i1], fun k c u hk hu => ?_⟩
    obtain ⟨a, ha, hd⟩ := i2 k c hk
    exact toD1_rep hd (hr k a u ha (by simpa using hu))
  · cases h
end

section
variable {E : Env} {P : Program} {ro : Option Nat} {o : Oper}

theorem sound_eqrow {neg t u x y x' y' ks} {xv yv : AV} {xs ys : List D} (h : o.op = .binOp (if neg then .neq else .eql) t x y u) (hx : CO x x') (hy : CO y y') (hk : kindsOf P 20 t = some ks) (hkey : P.keyTypeAt 20 t = true) (hg : P.eqGuardType P.depth t = false)
    (hcl : P.cellsOf t = ks.length) (hr : (match P.underlying t with | some (.array _ _) | some (.struct _) => true | _ => false) = true) (h1 : xv.rowD = some xs) (h2 : yv.rowD = some ys) (hc : eqC ks xs ys) (p : Prop) :
    OpLoc E P ro o [(x', xv), (y', yv)] { c := p, v := .d (.lit (.bool (neg ^^ eqB xs ys))) } :=
  opLoc_pure (by simp [h]) fun G a w hp H hv => by
    obtain ⟨v1, v2⟩ := ev2 hv hx hy
    obtain ⟨cs, e1, l1, r1⟩ := rowD_rep h1 v1
    obtain ⟨ds, e2, l2, r2⟩ := rowD_rep h2 v2
    obtain ⟨la, lb, q1, q2, q3, q4, q5⟩ := eqC_lits (us := cs.toList) (vs := ds.toList) hc (by simpa using l1) (by simpa using l2) r1 r2
    have fm : ∀ zs : Array Value, zs.size = ks.length → (Value.agg zs).formed P t = true := fun zs hz => by
      unfold Value.formed
      split at hr <;> simp_all
    obtain ⟨r, hrun, hiff⟩ := run_equalIn_deep (P := P) 9980 20 t hkey w 20 20 (.agg cs) (.agg ds) la lb (fm _ (l1.trans q4)) (fm _ (l2.trans q5)) (keyLits_kinds 20 t ks _ la hk q1) (keyLits_kinds 20 t ks _ lb hk q2)
    have hre : r = eqB xs ys := by
      cases r <;> cases hb : eqB xs ys <;> simp_all
    refine ⟨.bool (neg ^^ eqB xs ys), ?_, repBool _⟩
    have hrun' : (Op.equalIn 10000 t (.agg cs) (.agg ds)).run P w = .ok (eqB xs ys) w := by rw [← hre]; exact hrun
    cases neg
    · simp [execOp, h, e1, e2, run_eqGuard_agg w .eql t x y cs ds hg, run_eql_struct w t cs ds, hrun']
    · simp [execOp, h, e1, e2, run_eqGuard_agg w .neq t x y cs ds hg, run_neq_struct w t cs ds, hrun']

theorem run_sliceAll {t e : TypeId} {i : TypeInfo} {n : Nat} {ad : Addr} {w : World} (hu : P.underlying t = some (.array n e)) (hi : P.info? e = some i) :
    (Instr.sliceAt t (.pointer (some ad)) none none none).run P w = .ok (.slice (some (if n = 0 then ad else ad.add (0 * i.size))) n n) w := by
  simp [Instr.sliceAt, Instr.sureAddr, run_underlying hu, Instr.sliceBounds, sizeOf, typeInfo, hi]

theorem sound_sliceA_box {t e n x x' i sz b off} (h : o.op = .slice t x none none none) (hx : CO x x') (hu : P.underlying t = some (.array n e)) (hi : P.info? e = some i) (hs : i.size = sz) (hm : n ≤ 9223372036854775807)
    {hin : List (Nat × HO)} (p : Prop) : OpLoc E P ro o [(x', .ptr b off)] { c := p, v := .bsl b off sz n n, hin := hin } := by
  intro G a w hp H hv _ _ K Q hK
  have hr := ev1 hv hx
  generalize he : a.eval x = u at hr
  cases hr
  rename_i bk hb
  refine wpIn_value (by simp [h]) (v := .slice (some ⟨bk, off, none⟩) n n) (w' := w) ?_ (hK _ w G (GLe.refl G w) H (.bsl hb (Nat.le_refl _) hm))
  have hrun := run_sliceAll (P := P) (w := w) (ad := ⟨bk, off, none⟩) hu hi
  have : (if n = 0 then (⟨bk, off, none⟩ : Addr) else (⟨bk, off, none⟩ : Addr).add (0 * i.size)) = ⟨bk, off, none⟩ := by split <;> simp [Addr.add]
  rw [this] at hrun
  simp only [execOp, h, Sem.run_bind, he, Option.map_none, hrun, Result.andThen_ok, Sem.run_pure]

theorem flat_ones : ∀ {cs : List D}, (∀ c ∈ cs, c.one = true) → D.flat cs = cs
  | [], _ => rfl
  | c :: cs, h => by
    have h1 := h c (by simp)
    have ih := flat_ones (cs := cs) (fun x hx => h x (by simp [hx]))
    simp only [D.flat] at ih
    simp only [D.flat, List.flatMap_cons, ih]
    cases c <;> simp [D.one] at h1 <;> rfl
theorem one_cells {c : D} (h : c.one = true) : c.cells = [c] := by cases c <;> simp [D.one] at h <;> rfl

theorem sound_sliceA_ip {t e n x x' i} {y : D} (h : o.op = .slice t x none none none) (hx : CO x x') (hu : P.underlying t = some (.array n e)) (hi : P.info? e = some i) (hs : i.size = 1) (hm : n ≤ 9223372036854775807)
    (hc : y.cells.length = n) (p : Prop) : OpLoc E P ro o [(x', .d (.ip y))] { c := p, v := .d (.sl 1 y.cells) } :=
  opLoc_pure (by simp [h]) fun G ac w hp H hv => by
    have hr := (ev1 hv hx).of_d
    generalize he : ac.eval x = u at hr
    cases hr
    rename_i ad vs h1 hI hr
    have hrun := run_sliceAll (P := P) (w := w) (ad := ad) hu hi
    have hadd : (if n = 0 then ad else ad.add (0 * i.size)) = ad := by simp [Addr.add]
    rw [hadd] at hrun
    refine ⟨.slice (some ad) n n, by simp only [execOp, h, Sem.run_bind, he, Option.map_none, hrun, Result.andThen_ok, Sem.run_pure], .d ?_⟩
    refine .sl ad vs hc.symm (Nat.le_refl _) hm ?_ (fun e he' => by rw [one_cells (h1 e he')]; rfl) (by rw [flat_ones h1]; exact h1) (by rw [flat_ones h1]; exact hI) (by rw [flat_ones h1]; exact hr)
    exact .inl rfl

theorem sound_bytesStr {s t e x x' sz} {v : AV} {es : List D} (h : o.op = .convert s t x) (hx : CO x x') (hs : P.underlying s = some (.slice e)) (he : P.underlying e = some (.int .u8)) (ht : P.underlying t = some .string)
    (hel : v.elems = some (sz, es)) (hc : (sz = 1 ∨ es = []) ∧ ∀ e ∈ es, e.u8.isSome = true) (p : Prop) : OpLoc E P ro o [(x', v)] { c := p, v := .d (.lit (.string (bytesOf es))) } :=
  opLoc_pure (by simp [h]) fun G ac w hp H hv => by
    have hr := elems_rep hel G w _ (ev1 hv hx)
    generalize hev : ac.eval x = u at hr
    obtain ⟨n, A, cap, ad, vs, rfl, hn, hcap, hm, hA, hz, h1, hI, hrr⟩ := hr.sl_inv
    have hones : ∀ c ∈ es, c.one = true := fun c hc' => by
      have := hc.2 c hc'
      unfold D.u8 at this
      split at this
      · rfl
      · cases this
    rw [flat_ones hones] at hI hrr
    have hsz : (bytesOf es).size ≤ 9223372036854775807 := by rw [bytesOf, strOfNums_size]; simp; omega
    refine ⟨.string (bytesOf es), ?_, .d (.lit hsz)⟩
    have hrun : (convert s t (.slice A n cap)).run P w = .ok (.string (bytesOf es)) w := by
      cases A with
      | none =>
        have hes : es = [] := by
          rcases hA with h' | h'
          · cases h'
          · exact h'
        rw [run_convert_bytes_nil w s e hs he n cap t ht, hes]; rfl
      | some a =>
        have hl : (loadCells a n).run P w = .ok ((es.map D.num).map (Value.int .u8)).toArray w := by
          have := run_loadCells_list (P := P) w a ((es.map D.num).map (Value.int .u8)) (fun j u hj => by
            simp only [List.getElem?_map, Option.map_map, Option.map_eq_some_iff] at hj
            obtain ⟨c, hcj, rfl⟩ := hj
            have hne : es ≠ [] := by rintro rfl; simp at hcj
            have hA' := hA.resolve_right hne
            injection hA' with hA'; subst hA'
            rw [(hI j c hcj).2]
            have hr1 := hrr j c hcj
            have hu := hc.2 c (List.mem_of_getElem? hcj)
            unfold D.u8 at hu
            split at hu
            · generalize vs j = z at hr1 ⊢; cases hr1; rfl
            · cases hu)
          simpa [hn] using this
        rw [run_convert_bytes_string w s t e _ n cap hs he ht, run_bytesToString w a n cap _ hl, foldl_push_bytes]
        simp [bytesOf, strOfNums, ByteArray.empty, ByteArray.emptyWithCapacity]
        rfl
    simp only [execOp, h, Sem.run_bind, hev, hrun, Result.andThen_ok, Sem.run_pure]

/-- The further operations. -/
theorem stepX_sound {k : Ext} {xs : List Opd} {hl : List (Nat × HO)} {vals : List AV} {e : Eff} (hcmp : CmpX P o k xs) (hl' : vals.length = xs.length) (he : stepX hl k vals = some e) (hc : e.c) :
    OpLoc E P ro o (xs.zip vals) e := by
  cases hcmp with
  | eqrow h hx hy hk hkey hg hcl hr =>
    simp only [stepX] at he
    split at he
    · split at he <;> simp only [Option.some.injEq, reduceCtorEq] at he
      rename_i h1 h2
      subst he; exact sound_eqrow h hx hy hk hkey hg hcl hr h1 h2 hc _
    · cases he
  | sliceA h hx hu hi hs hm =>
    simp only [stepX] at he
    split at he
    · split at he <;> simp only [Option.some.injEq, reduceCtorEq] at he
      subst he; exact sound_sliceA_box h hx hu hi hs hm _
    · simp only [Option.some.injEq] at he
      subst he; exact sound_sliceA_ip h hx hu hi (by rw [hs]; exact hc.1) hm hc.2.1 _
    · cases he
  | bytesStr h hx hs he' ht =>
    simp only [stepX] at he
    split at he
    · split at he <;> simp only [Option.some.injEq, reduceCtorEq] at he
      rename_i hel
      subst he; exact sound_bytesStr h hx hs he' ht hel hc _
    · cases he
  | eqBool h hx hy hu =>
    simp only [stepX] at he
    split at he <;> simp only [Option.some.injEq, reduceCtorEq] at he
    subst he; exact sound_eqBool h hx hy hu _
  | isNil h hx hu =>
    simp only [stepX] at he
    split at he <;> simp only [Option.some.injEq, reduceCtorEq] at he
    · subst he; exact sound_isNil_n h hx hu _
    · subst he; exact sound_isNil_i h hx hu _
  | strIdx h hx hy hu =>
    simp only [stepX] at he
    split at he <;> simp only [Option.some.injEq, reduceCtorEq] at he
    subst he; exact sound_strIdx h hx hy hu hc _
  | shift h hx hy =>
    simp only [stepX] at he
    split at he <;> simp only [Option.some.injEq, reduceCtorEq] at he
    subst he; exact sound_shift h hx hy hc _
  | uneg h hx =>
    simp only [stepX] at he
    split at he <;> simp only [Option.some.injEq, reduceCtorEq] at he
    subst he; exact sound_uneg h hx _
  | ucompl h hx =>
    simp only [stepX] at he
    split at he <;> simp only [Option.some.injEq, reduceCtorEq] at he
    subst he; exact sound_ucompl h hx _
  | tassert h hx hu hd hi hz hzz =>
    simp only [stepX] at he
    split at he <;> simp only [Option.some.injEq, reduceCtorEq] at he
    · subst he; exact sound_tassert_i h hx hu hd hi hz hzz _
    · subst he; exact sound_tassert_n h hx hu hd hi hz hzz _
  | nilChk h hx =>
    simp only [stepX] at he
    split at he <;> simp only [Option.some.injEq, reduceCtorEq] at he
    · subst he; exact sound_nilChk_p h hx _
    · subst he; exact sound_nilChk_d h hx _
end
end Go.Proofs.Ytbfjmachkbhfnaa.AL
end
