/- Part of the proof: AL31, AL29, AL32, AL33, AL34, AL20, AL21. -/
import Derived.RecoverIn
import Derived.Test.YtbfjmachkbhfnaaB
set_option linter.unnecessarySimpa false
set_option linter.unusedVariables false
set_option linter.unusedSimpArgs false
section
namespace Go.Proofs.Ytbfjmachkbhfnaa.AL
open Go

/-- A book-keeping object is laid. -/
theorem WRel.newObj {E : Env} {G : Gh} {h : Hp} {w : World} (H : WRel E G h w) {n : Nat} (hn : h n = none) (r : Loop) (s : Nat) :
    GLe G w { G with box := fun m => if m = n then some w.heap.size else G.box m, rc := fun m => if m = n then r else G.rc m } (w.alloc (objOf r s)) ∧
    WRel E { G with box := fun m => if m = n then some w.heap.size else G.box m, rc := fun m => if m = n then r else G.rc m } (h.upd [(n, .obj s)]) (w.alloc (objOf r s)) := by
  have g := Grow.alloc w (objOf r s)
  obtain ⟨hb0, hr0⟩ := H.fresh n hn
  have hle : GLe G w { G with box := fun m => if m = n then some w.heap.size else G.box m, rc := fun m => if m = n then r else G.rc m } (w.alloc (objOf r s)) :=
    ⟨fun a ha => ⟨ha, g.cell (H.ilt ha)⟩, fun m b hb => by
      dsimp only
      split
      · rename_i e; subst e; rw [hb0] at hb; cases hb
      · exact hb, fun _ _ h => h, fun m b hb => by
      dsimp only
      split
      · rename_i e; subst e; rw [hb0] at hb; cases hb
      · rfl⟩
  refine ⟨hle, ⟨H.os, H.tape, H.output, Nat.le_trans H.size g.size, fun b hb => ?_, fun a ha => ?_, H.inew, fun a ha => ?_, fun m hm => ?_, fun m ag' cs' hm => ?_, fun m b hb => ?_, fun m m' b hm hm' => ?_, fun r hr' => ?_, fun r r' A k cap sz A' k' cap' sz' hr1 hr2 => ?_, fun m s' hm => ?_, H.gb.trans hle, H.gB⟩⟩
  · obtain ⟨h1, h2⟩ := H.kept b hb
    exact ⟨h1, (g.block b (Nat.lt_of_lt_of_le h1 H.size)).trans h2⟩
  · obtain ⟨h1, h2⟩ := H.i0 a ha
    exact ⟨h1, (g.cell (H.ilt h1)).trans h2⟩
  · rw [g.cell (H.ilt ha)]; exact H.icell a ha
  · simp only [Hp.upd] at hm
    split at hm
    · cases hm
    · rename_i hne; dsimp only; rw [if_neg hne]; exact H.fresh m hm
  · simp only [Hp.upd] at hm
    dsimp only
    split at hm
    · injection hm with hm; cases hm
    · rename_i hne
      rw [if_neg hne]
      obtain ⟨b, arr', ty', e1, e2, e3, e4⟩ := H.box m ag' cs' hm
      exact ⟨b, arr', ty', e1, (g.block b (H.bown m b e1).1).trans e2, e3.mono hle, e4⟩
  · dsimp only at hb ⊢
    split at hb
    · injection hb with hb; subst hb
      refine ⟨by simp, fun hk => ?_, fun a e ha => ?_⟩
      · have := (H.kept _ hk).1; have := H.size; omega
      · have := H.ilt ha; omega
    · obtain ⟨e1, e2, e3⟩ := H.bown m b hb
      exact ⟨by simp; omega, e2, e3⟩
  · dsimp only at hm hm'
    split at hm
    · split at hm'
      · rename_i e e'; rw [e, e']
      · injection hm with hm; have := (H.bown m' b hm').1; omega
    · split at hm'
      · injection hm' with hm'; have := (H.bown m b hm).1; omega
      · exact H.binj m m' b hm hm'
  · simp only [Hp.upd] at hr'
    split at hr'
    · injection hr' with hr'; cases hr'
    · obtain ⟨A, k, cap, sz, e1, e2⟩ := H.row r hr'
      refine ⟨A, k, cap, sz, e1, fun j hj hj' => ?_⟩
      obtain ⟨ad, e, c1, c2, c3, c4, c5⟩ := e2 j hj hj'
      have hlt : (ad.add j).block < w.heap.size := by
        obtain ⟨v, hv⟩ := Option.isSome_iff_exists.1 c1
        exact World.block_lt_of_cell? w _ hv
      refine ⟨ad, e, by rw [g.cell hlt]; exact c1, by rw [g.frozen hlt]; exact c2, c3, c4, fun m hm => ?_⟩
      dsimp only at hm
      split at hm
      · injection hm with hm; rw [block_add] at hlt; omega
      · exact c5 m hm
  · simp only [Hp.upd] at hr1 hr2
    split at hr1
    · injection hr1 with hr1; cases hr1
    · split at hr2
      · injection hr2 with hr2; cases hr2
      · exact H.rinj r r' A k cap sz A' k' cap' sz' hr1 hr2
  · simp only [Hp.upd] at hm
    dsimp only
    split at hm
    · rename_i e
      injection hm with hm; injection hm with hm; subst hm
      rw [if_pos e, if_pos e]
      exact ⟨w.heap.size, rfl, heap_alloc_new w _⟩
    · rename_i hne
      rw [if_neg hne, if_neg hne]
      obtain ⟨b, e1, e2⟩ := H.obj m s' hm
      exact ⟨b, e1, (g.block b (H.bown m b e1).1).trans e2⟩

/-- A book-keeping object is turned. -/
theorem WRel.putOwn {E : Env} {G : Gh} {h : Hp} {w : World} (H : WRel E G h w) {n b s : Nat} (hn : h n = some (.obj s)) (hb : G.box n = some b) (o : Obj) (x : HO) (hx : x = .dead ∨ ∃ s', x = .obj s' ∧ o = objOf (G.rc n) s') :
    GLe G w G (w.putObj b o) ∧ WRel E G (h.upd [(n, x)]) (w.putObj b o) := by
  obtain ⟨hlt, hK, hI⟩ := H.bown n b hb
  have hblk : ∀ k, k ≠ b → (w.putObj b o).heap[k]? = w.heap[k]? := fun k hk => World.putObj_heap_other hk
  have hcellne : ∀ a : Addr, a.block ≠ b → (w.putObj b o).cell? a = w.cell? a := fun a ha => World.cell?_of_block (hblk _ ha)
  have hfrne : ∀ a : Addr, a.block ≠ b → (w.putObj b o).frozen? a = w.frozen? a := fun a ha => World.frozen?_of_block (hblk _ ha)
  have hIne : ∀ a, G.I a → a.block ≠ b := fun a ha e => hI a e ha
  have hle : GLe G w G (w.putObj b o) := ⟨fun a ha => ⟨ha, hcellne a (hIne a ha)⟩, fun _ _ h => h, fun _ _ h => h, fun _ _ _ => rfl⟩
  have hbox : ∀ m ag cs, (h.upd [(n, x)]) m = some (.box ag cs) → m ≠ n ∧ h m = some (.box ag cs) := fun m ag cs hm => by
    simp only [Hp.upd] at hm
    split at hm
    · rcases hx with rfl | ⟨s', rfl, _⟩ <;> (injection hm with hm; cases hm)
    · rename_i hne; exact ⟨hne, hm⟩
  have hrow : ∀ m, (h.upd [(n, x)]) m = some .row → h m = some .row := fun m hm => by
    simp only [Hp.upd] at hm
    split at hm
    · rcases hx with rfl | ⟨s', rfl, _⟩ <;> (injection hm with hm; cases hm)
    · exact hm
  refine ⟨hle, ⟨H.os, H.tape, H.output, by simpa using H.size, fun k hk => ?_, fun a ha => ?_, H.inew, fun a ha => ?_, fun m hm => ?_, fun m ag' cs' hm => ?_, fun m b' hb' => ?_, H.binj, fun r hr => ?_, fun r r' A k cap sz A' k' cap' sz' hr1 hr2 => H.rinj r r' A k cap sz A' k' cap' sz' (hrow _ hr1) (hrow _ hr2), fun m s' hm => ?_, H.gb.trans hle, H.gB⟩⟩
  · obtain ⟨h1', h2'⟩ := H.kept k hk
    exact ⟨h1', (hblk k (fun e => hK (e ▸ hk))).trans h2'⟩
  · obtain ⟨h1', h2'⟩ := H.i0 a ha
    exact ⟨h1', (hcellne a (hIne a h1')).trans h2'⟩
  · rw [hcellne a (hIne a ha)]; exact H.icell a ha
  · simp only [Hp.upd] at hm
    split at hm
    · cases hm
    · exact H.fresh m hm
  · obtain ⟨hne, hm⟩ := hbox m ag' cs' hm
    obtain ⟨b2, arr', ty', f1, f2, f3, f4⟩ := H.box m ag' cs' hm
    exact ⟨b2, arr', ty', f1, (hblk b2 (fun e => hne (H.binj m n b (e ▸ f1) hb))).trans f2, f3.mono hle, f4⟩
  · obtain ⟨f1, f2, f3⟩ := H.bown m b' hb'
    exact ⟨by simpa using f1, f2, f3⟩
  · obtain ⟨A, k, cap, sz, f1, f2⟩ := H.row r (hrow _ hr)
    refine ⟨A, k, cap, sz, f1, fun j hj hj' => ?_⟩
    obtain ⟨ad, e, c1, c2, c3, c4, c5⟩ := f2 j hj hj'
    have hne : (ad.add j).block ≠ b := by rw [block_add]; exact fun e' => c5 n (by rw [hb, e'])
    exact ⟨ad, e, by rw [hcellne _ hne]; exact c1, by rw [hfrne _ hne]; exact c2, c3, c4, c5⟩
  · simp only [Hp.upd] at hm
    split at hm
    · rename_i e; subst e
      rcases hx with rfl | ⟨s2, rfl, rfl⟩
      · injection hm with hm; cases hm
      · injection hm with hm; injection hm with hm; subst hm
        exact ⟨b, hb, World.putObj_heap_same hlt⟩
    · rename_i hne
      obtain ⟨b2, f1, f2⟩ := H.obj m s' hm
      exact ⟨b2, f1, (hblk b2 (fun e => hne (H.binj m n b (e ▸ f1) hb))).trans f2⟩

/-- The same walk, counted from here. -/
def Env.at_ (E : Env) (h : List (Nat × HO)) (G : Gh) (w : World) : Env := { E with B := newName h, Gb := G, wb := w }
theorem WRel.to_at {E : Env} {G : Gh} {h : List (Nat × HO)} {w : World} (H : WRel E G (look h) w) : WRel (E.at_ h G w) G (look h) w :=
  ⟨H.os, H.tape, H.output, H.size, H.kept, H.i0, H.inew, H.icell, H.fresh, H.box, H.bown, H.binj, H.row, H.rinj, H.obj, GLe.refl G w,
    ⟨fun n b hn => by
      show n < newName h
      cases hl : look h n with
      | none => have := (H.fresh n hl).1; rw [show G.box n = some b from hn] at this; cases this
      | some o => exact look_lt hl, fun n r hn => by
      show n < newName h
      cases hl : look h n with
      | none => have := (H.fresh n hl).2; rw [show G.row n = some r from hn] at this; cases this
      | some o => exact look_lt hl⟩⟩
theorem WRel.of_at {E : Env} {G0 G : Gh} {h0 : List (Nat × HO)} {h : Hp} {w0 w : World} (H0 : WRel E G0 (look h0) w0) (H : WRel (E.at_ h0 G0 w0) G h w) : WRel E G h w ∧ GLe G0 w0 G w :=
  ⟨⟨H.os, H.tape, H.output, H.size, H.kept, H.i0, H.inew, H.icell, H.fresh, H.box, H.bown, H.binj, H.row, H.rinj, H.obj, H0.gb.trans H.gb, H0.gB⟩, H.gb⟩
theorem WRel.again_at {E : Env} {G0 G G' : Gh} {h0 : List (Nat × HO)} {h : Hp} {w0 w w' : World} {h' : Hp} (H : WRel (E.at_ h0 G0 w0) G h w) (H' : WRel E G' h' w') (hle : GLe G w G' w') : WRel (E.at_ h0 G0 w0) G' h' w' :=
  ⟨H'.os, H'.tape, H'.output, H'.size, H'.kept, H'.i0, H'.inew, H'.icell, H'.fresh, H'.box, H'.bown, H'.binj, H'.row, H'.rinj, H'.obj, H.gb.trans hle, H.gB⟩

theorem HYield.at_ {P : Program} {E : Env} {cx : Cx} (hy : HYield P E cx) {G0 : Gh} {h0 : List (Nat × HO)} {w0 : World} (H0 : WRel E G0 (look h0) w0) (B : Nat) (top : Bool) : HYield P (E.at_ h0 G0 w0) { cx with B := B, top := top } :=
  fun ro G h w all vals K H hr hY => by
    obtain ⟨fn, tm, asg, bd, r1, r2⟩ := hy ro G h w all vals K (H0.of_at H).1 hr hY
    refine ⟨fn, tm, asg, bd, r1, r2.mono fun e w' hh => ?_⟩
    obtain ⟨G', h', b, q1, q2, q3⟩ := hh
    exact ⟨G', h', b, q1, H.again_at q2 q1, q3⟩

/-- A call that is put off. -/
def deferA : AV → List AV → Option DE
  | .d (.fn (.func f) first caps), vs => some (.fn f (first.map .d ++ vs) (caps.map .d))
  | .fn (.func f) first caps, vs => some (.fn f (first ++ vs) caps)
  | _, _ => none
theorem deferA_rep {G : Gh} {w : World} {fv : AV} {vs : List AV} {de : DE} (hc : deferA fv vs = some de) {u : Value} (hr : RepA G w fv u) {us : Array Value} (hl : us.size = vs.length)
    (hv : ∀ (k : Nat) (c : AV) (x : Value), vs[k]? = some c → us[k]? = some x → RepA G w c x) :
    ∃ (f : FuncId) (a b : Array Value) (as caps : List AV), u = .func (.func f) a b ∧ de = .fn f as caps ∧ RepAL G w as (a ++ us) ∧ RepAL G w caps b := by
  have happ : ∀ {l1 l2 : List AV} {m1 m2 : Array Value}, RepAL G w l1 m1 → RepAL G w l2 m2 → RepAL G w (l1 ++ l2) (m1 ++ m2) := by
    intro l1 l2 m1 m2 h1 h2
    refine ⟨by simp [h1.1, h2.1], fun k c x hk hx => ?_⟩
    by_cases hlt : k < l1.length
    · rw [List.getElem?_append_left hlt] at hk
      rw [Array.getElem?_append_left (by rw [h1.1]; exact hlt)] at hx
      exact h1.2 k c x hk hx
    · rw [List.getElem?_append_right (by omega)] at hk
      rw [Array.getElem?_append_right (by rw [h1.1]; omega), h1.1] at hx
      exact h2.2 _ c x hk hx
  have hd : ∀ {l : List D} {m : Array Value}, m.size = l.length → (∀ (k : Nat) (c : D) (v : Value), l[k]? = some c → m[k]? = some v → Rep G.I w c v) → RepAL G w (l.map .d) m := by
    intro l m h1 h2
    refine ⟨by simpa using h1, fun k c x hk hx => ?_⟩
    simp only [List.getElem?_map, Option.map_eq_some_iff] at hk
    obtain ⟨d, hd, rfl⟩ := hk
    exact .d (h2 k d x hd hx)
  unfold deferA at hc
  split at hc <;> simp only [Option.some.injEq, reduceCtorEq] at hc
  · subst hc
    obtain ⟨a, b, rfl, h1, h2, h3, h4⟩ := hr.of_d.fn_inv
    exact ⟨_, a, b, _, _, rfl, rfl, happ (hd h1 h3) ⟨hl, hv⟩, hd h2 h4⟩
  · subst hc
    obtain ⟨a, b, rfl, h1, h2, h3, h4⟩ := hr.fn_inv
    exact ⟨_, a, b, _, _, rfl, rfl, happ ⟨h1, h3⟩ ⟨hl, hv⟩, ⟨h2, h4⟩⟩
/-- Is the next operation guarded by this slot? -/
def splitG : Option Nat → List AOper → Bool
  | some t, o :: _ => match o.guard with
    | some (u, _) => t == u
    | none => false
  | _, _ => false

/-- The operations, with a mark where a slot that guards is written. -/
def marks : List AOper → List (Bool × AOper)
  | [] => []
  | o :: r => (splitG o.dst r, o) :: marks r

/-- What follows a call in sight of the boxes. -/
def icallK (R : St → Prop) (Q : AE → St → Prop) (dst : Option Nat) (s : List (Nat × Bool × AV)) (d : List DE) : HOut → List (Nat × HO) → Prop := fun out h' => match out with
  | .ret v => R ⟨putS s dst (true, v), h', d⟩
  | .pan x => Q (.pan x) ⟨s, h', d⟩
def ycallK (R : St → Prop) (dst : Option Nat) (s : List (Nat × Bool × AV)) (d : List DE) (b : Bool) (h' : List (Nat × HO)) : Prop := R ⟨putS s dst (true, .d (.lit (.bool b))), h', d⟩
/-- A call in sight of the boxes, to be met by a contract. -/
def icallP (P : Program) (cx : Cx) (R : St → Prop) (Q : AE → St → Prop) (dst : Option Nat) (s : List (Nat × Bool × AV)) (h : List (Nat × HO)) (d : List DE) (fid : FuncId) (all : List AV) : Prop :=
  ∃ T, HCall P fid T ∧ T { cx with B := newName h, top := true } all h (icallK R Q dst s d)
theorem icall_T {P : Program} {cx : Cx} {R : St → Prop} {Q : AE → St → Prop} {dst : Option Nat} {s : List (Nat × Bool × AV)} {h : List (Nat × HO)} {d : List DE} {fid : FuncId} {all : List AV} (T : Cx → List AV → List (Nat × HO) → (HOut → List (Nat × HO) → Prop) → Prop)
    (hT : HCall P fid T) (hk : T { cx with B := newName h, top := true } all h (icallK R Q dst s d)) : icallP P cx R Q dst s h d fid all := ⟨T, hT, hk⟩

/-- A region in the order of the text, one path after the other. -/
def vcSP (P : Program) (cx : Cx) (Q : AE → St → Prop) : List Out → List (Bool × AOper) → St → Prop
  | _, [], σ => Q .normal σ
  | os, (fl, ao) :: r, σ => match gEff σ.s ao.guard with
    | none => False
    | some (false, _) => match ao.k with
      | .call _ _ => vcSP P cx Q os.tail r ⟨putS σ.s ao.dst (false, .d (.lit (.bool false))), σ.h, σ.d⟩
      | .panic _ | .defer _ _ => False
      | _ => vcSP P cx Q os r ⟨putS σ.s ao.dst (false, .d (.lit (.bool false))), σ.h, σ.d⟩
    | some (true, _) => match ao.k with
      | .call f args => match os with
        | [] => False
        | o :: os' => match evL σ.s (f :: args) with
          | some (gs, fv :: vs) => match calleeA fv vs with
            | some (fid, all) => match argsD σ.h all with
              | some (ds, snap) => (allT gs ∧ cx.C fid ds o) ∧ match o with
                | .ret d => (snap = true → Free d) ∧ vcSP P cx Q os' r ⟨putS σ.s ao.dst (true, .d d), σ.h, σ.d⟩
                | .pan d => (snap = true → Free d) ∧ Q (.pan d) σ
              | none => False
            | none => False
          | _ => False
      | .op x => match evL σ.s x.opds with
        | none => False
        | some (gs, vs) => match stepV σ.h x vs with
          | none => False
          | some e => (gcond x gs vs ∧ e.c) ∧ match fl with
            | true => (match ao.dst, e.v with
              | some t, .d (.lit (.bool c)) => (if c = true then vcSP P cx Q os r ⟨(t, true, .d (.lit (.bool true))) :: σ.s, updH σ.h e.up, σ.d⟩ else True) ∧
                (if c = false then vcSP P cx Q os r ⟨(t, true, .d (.lit (.bool false))) :: σ.s, updH σ.h e.up, σ.d⟩ else True)
              | _, _ => False)
            | false => vcSP P cx Q os r ⟨putS σ.s ao.dst (true, e.v), updH σ.h e.up, σ.d⟩
      | .icall f args => match evL σ.s (f :: args) with
        | some (gs, fv :: vs) => allT gs ∧ match calleeA fv vs with
          | some (fid, all) => icallP P cx (vcSP P cx Q os r) Q ao.dst σ.s σ.h σ.d fid all
          | none => False
        | _ => False
      | .ycall f args => match evL σ.s (f :: args) with
        | some (gs, .d (.fn (.yield l) [] []) :: vs) => allT gs ∧ l = cx.l ∧ cx.Y vs σ.h (ycallK (vcSP P cx Q os r) ao.dst σ.s σ.d)
        | _ => False
      | .panic x => ao.guard = none ∧ match evO σ.s x with
        | some (true, .d (.ifc t y)) => Q (.pan (.ifc t y)) σ
        | _ => False
      | .defer f args => ao.guard = none ∧ ao.dst = none ∧ cx.top = true ∧ match evL σ.s (f :: args) with
        | some (gs, fv :: vs) => allT gs ∧ match deferA fv vs with
          | some de => vcSP P cx Q os r ⟨σ.s, σ.h, de :: σ.d⟩
          | none => False
        | _ => False


theorem StRel.heap {E : Env} {G G' : Gh} {σ : St} {a : Act} {w w' : World} {nt : Nat} (H : StRel E G σ a w nt) {h' : List (Nat × HO)} (hw : WRel E G' (look h') w') (hle : GLe G w G' w') : StRel E G' ⟨σ.s, h', σ.d⟩ a w' nt :=
  ⟨hw, H.sz, fun t e he => (H.sr t e he).mono hle, H.defers.mono hle⟩

theorem wpIn_yield {P : Program} {ro : Option Nat} {o : Oper} {a : Act} {w : World} {K : Act → World → Prop} {Q : Exit → Act → World → Prop} {f : Operand} {args : Array Operand} {ts : Array TypeId} (ho : o.op = .call { callee := .value f, args := args, argTypes := ts })
    {l : Nat} (hf : a.eval f = .func (.yield l) #[] #[]) {R : Ending → World → Prop} (hy : YieldAt (Fr ro) 0 P l (args.toList.map a.eval).toArray w R)
    (h1 : ∀ v w', R (.returned v) w' → K (a.put o.dst v) w') (h2 : ∀ ch w', R (.panicked ch) w' → Q (.panic ch) a w') (h3 : ∀ w', ¬ R .outgrown w') : o.wpIn (Fr ro) 0 P a w K Q := by
  refine ⟨fun f _ => trivial, ?_⟩
  show o.uponIn (Fr ro) 0 P a K Q ((o.semAt ro a.eval).run P w)
  rw [Oper.semAt_eq ro a.eval o (by simp [ho])]
  obtain ⟨fn, tmps, asg, body, hrun, hr⟩ := hy
  have hrun' : (execOp a.eval o).run P w = .ok (.round l fn tmps asg body) w := by
    have e : #[] ++ Array.map a.eval args = (args.toList.map a.eval).toArray := by apply Array.ext'; simp
    simp only [execOp, ho, resolve, hf, Deferred.ofValue, Sem.run_bind, Sem.run_pure, Result.andThen_ok, invoke]
    rw [e]; exact hrun
  rw [hrun']
  refine ⟨fun hd => by simp [Fr, Fence.wide] at hd, hr.mono fun e w' hR => ?_⟩
  cases e with
  | returned v => exact h1 v w' hR
  | panicked ch => exact h2 ch w' hR
  | outgrown => exact absurd hR (h3 w')

theorem vcSP_seq {E : Env} {P : Program} {ro : Option Nat} {ops : Array Oper} {nt : Nat} {cx : Cx} {Q : AE → St → Prop} (hok : CxOk P E cx ro) : ∀ (aops : List AOper) (os : List Out) (k : Nat) (σ : St) (G : Gh) (a : Act) (w : World),
    (∀ j ao, aops[j]? = some ao → ∃ o, ops[k + j]? = some o ∧ CmpO P ops nt o ao) → StRel E G σ a w nt → vcSP P cx Q os (marks aops) σ →
    wpOpsIn (Fr ro) 0 P ops (Post E nt Q) (List.range' k aops.length) a w
  | [], os, k, σ, G, a, w, hc, H, hv => ⟨G, σ, H, by cases os <;> exact hv⟩
  | ao :: r, os, k, σ, G, a, w, hc, H, hv => by
    obtain ⟨o, ho, hco⟩ := hc 0 ao rfl
    rw [Nat.add_zero] at ho
    rw [List.length_cons, List.range'_succ, wpOpsIn_cons]
    have hnext : ∀ (os : List Out) (σ' : St) (G' : Gh) (a' : Act) (w' : World), StRel E G' σ' a' w' nt → vcSP P cx Q os (marks r) σ' → wpOpsIn (Fr ro) 0 P ops (Post E nt Q) (List.range' (k + 1) r.length) a' w' := fun os σ' G' a' w' H' hv' =>
      vcSP_seq hok r os (k + 1) σ' G' a' w' (fun j ao' hj => by
        obtain ⟨o', ho', hc'⟩ := hc (j + 1) ao' (by simpa using hj)
        exact ⟨o', by rw [← ho']; congr 1; omega, hc'⟩) H' hv'
    have hput : ∀ (h' : List (Nat × HO)) (G' : Gh) (w' : World) (g : Bool) (v : AV) (val : Value), WRel E G' (look h') w' → GLe G w G' w' → (g = true → RepA G' w' v val) → (g = false → val = undef) →
        StRel E G' ⟨putS σ.s ao.dst (g, v), h', σ.d⟩ (a.put o.dst val) w' nt := fun h' G' w' g v val hw hle h1 h2 => by
      have := (H.heap hw hle).put (up := []) (dst := ao.dst) (g := g) (v := v) (val := val) (GLe.refl G' w') hw (fun d hd => hco.lt d (by rw [← hco.dst]; exact hd)) h1 h2
      rw [hco.dst] at this ⊢
      exact this
    have hplain : ∀ os : List Out, vcOpW cx.C σ ao (fun d => Q (.pan d) σ) (fun _ σ' => vcSP P cx Q os (marks r) σ') → wpOpIn (Fr ro) 0 P ops (Post E nt Q) k (wpOpsIn (Fr ro) 0 P ops (Post E nt Q) (List.range' (k + 1) r.length)) a w := fun os hv => by
      rcases vcOpW_rec (E := E) (ro := ro) hok.c ho hco hv with ⟨rec, h1, h2, h3, h4⟩ | ⟨d, rs, hin, h1, h2, h3, h4⟩
      · refine h1 G a w (look σ.h) H.wr H.sz (fun p hp => H.sr _ _ (h2.rs p hp)) h2.hin h2.up _ _ (fun val w' G' q1 q2 q3 q4 => ?_)
        exact hnext os _ G' _ w' (H.put q1 q2 (fun d hd => hco.lt d (by rw [← h3]; exact hd)) q3 q4) h4
      · refine h1 G a w (look σ.h) H.wr H.sz (fun p hp => H.sr _ _ (h2 p hp)) h3 _ _ (fun v w' G' q1 q2 q3 => ?_)
        exact ⟨G', σ, v, d, ⟨q2, H.sz, fun t e he => (H.sr t e he).mono q1, H.defers.mono q1⟩, rfl, q3, h4⟩
    unfold marks vcSP at hv
    split at hv
    · exact hv.elim
    · rename_i rs hg
      have hw := guard_ok hco hg (G := G) (w := w) (a := a) (fun p hp => H.sr _ _ (gEff_in hg p hp))
      have hsk : ∀ os : List Out, vcSP P cx Q os (marks r) ⟨putS σ.s ao.dst (false, .d (.lit (.bool false))), σ.h, σ.d⟩ → wpOpIn (Fr ro) 0 P ops (Post E nt Q) k (wpOpsIn (Fr ro) 0 P ops (Post E nt Q) (List.range' (k + 1) r.length)) a w := fun os hv =>
        wpOpIn_skip ho hw (hnext os _ G _ w (hput σ.h G w false _ undef H.wr (GLe.refl G w) (by simp) (fun _ => rfl)) hv)
      split at hv
      · exact hsk _ hv
      · exact hv.elim
      · exact hv.elim
      · exact hsk _ hv
    · rename_i rs hg
      have hw := guard_ok hco hg (G := G) (w := w) (a := a) (fun p hp => H.sr _ _ (gEff_in hg p hp))
      split at hv
      · rename_i f args hk
        split at hv
        · exact hv.elim
        · rename_i o os'
          refine hplain os' (.inr ?_)
          unfold vcOp
          simp only [hg, hk]
          split at hv
          · rename_i gs fv vs hev
            simp only [hev]
            split at hv
            · rename_i fid all hcal
              simp only [hcal]
              split at hv
              · rename_i ds snap hargs
                simp only [hargs]
                refine ⟨o, fun _ => hv.1, ?_⟩
                have h2 := hv.2
                cases o with
                | ret d => exact ⟨h2.1, h2.2⟩
                | pan d => exact ⟨trivial, h2⟩
              · exact hv.elim
            · exact hv.elim
          · exact hv.elim
      · rename_i x hk
        refine hplain os (.inr ?_)
        unfold vcOp
        simp only [hg, hk]
        split at hv
        · exact hv.elim
        · rename_i gs vs hev
          simp only [hev]
          split at hv
          · exact hv.elim
          · rename_i e hst
            simp only [hst]
            refine ⟨fun _ => hv.1, fun _ => trivial, ?_⟩
            have h2 := hv.2
            split at h2
            · split at h2
              · rename_i t c hd hvv
                rw [hd, hvv]
                cases c with
                | true => simpa [putS] using h2
                | false => simpa [putS] using h2
              · exact h2.elim
            · exact h2
      · rename_i f' args' hk
        split at hv
        · rename_i gs fv vs hev
          obtain ⟨hgs, hv⟩ := hv
          split at hv
          · rename_i fid all hcal
            obtain ⟨T, hT, hv⟩ := hv
            obtain ⟨l1, l2⟩ := evL_ent (G := G) (w := w) (a := a) hev hgs (fun p hp => H.sr _ _ (ents_in p hp))
            obtain ⟨f, args, ts, q1, q2, q3⟩ : ∃ f args ts, o.op = .call { callee := .value f, args := args, argTypes := ts } ∧ CO f f' ∧ All2 CO args.toList args' := by have := hco.k; rw [hk] at this; exact this
            have hvl : vs.length = args'.length := by simpa using l1
            have hfv : RepA G w fv (a.eval f) := l2 (f', fv) (by simp) f q2
            obtain ⟨x, y, e1, e2, e3⟩ := calleeA_rep hcal hfv (us := args.toList.map a.eval) (by simp [hvl]; have := all2_len q3; simpa using this) (evs_list args.toList args' vs q3 hvl (fun p hp => l2 p (by simp; exact .inr hp)))
            have hcall := hT.2 (E.at_ σ.h G w) { cx with B := newName σ.h, top := true } G σ.h w all _ _ H.wr.to_at ⟨rfl, hok.y.at_ H.wr _ _, fun _ => rfl, hok.c⟩ ⟨e2, e3⟩ hv
            refine wpOpIn_run ho hw (wpIn_call q1 e1 hT.1 hcall (fun v w' hR => ?_) (fun ch w' hR => ?_) (fun w' hR => ?_))
            · obtain ⟨G', h', k1, av, k2, k3⟩ := hR
              obtain ⟨m1, m2⟩ := H.wr.of_at k1
              exact hnext os _ G' _ w' (hput h' G' w' true av v m1 m2 (fun _ => k2) (by simp)) k3
            · obtain ⟨G', h', k1, v, d, k2, k3, k4⟩ := hR
              obtain ⟨m1, m2⟩ := H.wr.of_at k1
              exact ⟨G', _, v, d, H.heap m1 m2, k2, k3, k4⟩
            · obtain ⟨_, _, _, hR⟩ := hR; exact hR
          · exact hv.elim
        · exact hv.elim
      · rename_i f' args' hk
        split at hv
        · rename_i gs l vs hev
          obtain ⟨hgs, rfl, hv⟩ := hv
          obtain ⟨l1, l2⟩ := evL_ent (G := G) (w := w) (a := a) hev hgs (fun p hp => H.sr _ _ (ents_in p hp))
          obtain ⟨f, args, ts, q1, q2, q3⟩ : ∃ f args ts, o.op = .call { callee := .value f, args := args, argTypes := ts } ∧ CO f f' ∧ All2 CO args.toList args' := by have := hco.k; rw [hk] at this; exact this
          have hvl : vs.length = args'.length := by simpa using l1
          obtain ⟨x, y, e1, e2, e3, _⟩ := ((l2 (f', .d (.fn (.yield cx.l) [] [])) (by simp) f q2).of_d).fn_inv
          have hx : x = #[] := Array.eq_empty_of_size_eq_zero (by simpa using e2)
          have hy : y = #[] := Array.eq_empty_of_size_eq_zero (by simpa using e3)
          subst hx; subst hy
          have hys := hok.y ro G σ.h w vs (args.toList.map a.eval) _ H.wr ⟨by simp [hvl]; have := all2_len q3; simpa using this, evs_list args.toList args' vs q3 hvl (fun p hp => l2 p (by simp; exact .inr hp))⟩ hv
          refine wpOpIn_run ho hw (wpIn_yield q1 e1 hys (fun v w' hR => ?_) (fun ch w' hR => ?_) (fun w' hR => ?_))
          · obtain ⟨G', h', b, k1, k2, k3, k4⟩ := hR
            injection k3 with k3; subst k3
            exact hnext os _ G' _ w' (hput h' G' w' true _ _ k2 k1 (fun _ => repBool b) (by simp)) k4
          · obtain ⟨G', h', b, k1, k2, k3, k4⟩ := hR; cases k3
          · obtain ⟨G', h', b, k1, k2, k3, k4⟩ := hR; cases k3
        · exact hv.elim
      · rename_i x' hk
        obtain ⟨hgd, hv⟩ := hv
        split at hv
        · rename_i t y hev
          obtain ⟨x, q1, q2⟩ : ∃ x, o.op = .panic x ∧ CO x x' := by have := hco.k; rw [hk] at this; exact this
          have hw := guard_ok hco (s := σ.s) (g := true) (rs := []) (by rw [hgd]; rfl) (G := G) (w := w) (a := a) (fun p hp => by simp at hp)
          have hr := (evO_ent (G := G) (w := w) (a := a) hev rfl (fun t' ht' => by subst ht'; exact H.sr t' _ hev) x q2).of_d
          generalize hex : a.eval x = u at hr
          have hr' := hr
          cases hr
          rename_i v hr
          refine wpOpIn_run ho hw ⟨fun f _ => trivial, ?_⟩
          show o.uponIn (Fr ro) 0 P a _ _ ((o.semAt ro a.eval).run P w)
          rw [Oper.semAt_eq ro a.eval o (by simp [q1])]
          have hrun : (execOp a.eval o).run P w = .halt (.panic (.iface t v)) w := by
            simp [execOp, q1, hex, Instr.panic, goPanic]
          rw [hrun]
          exact ⟨G, σ, _, _, H, rfl, hr', hv⟩
        · exact hv.elim
      · rename_i f' args' hk
        obtain ⟨hgd, hdst, htop, hv⟩ := hv
        have hro := hok.top htop
        subst hro
        split at hv
        · rename_i gs fv vs hev
          obtain ⟨hgs, hv⟩ := hv
          split at hv
          · rename_i de hde
            obtain ⟨l1, l2⟩ := evL_ent (G := G) (w := w) (a := a) hev hgs (fun p hp => H.sr _ _ (ents_in p hp))
            obtain ⟨f, args, ts, q1, q2, q3⟩ : ∃ f args ts, o.op = .defer { callee := .value f, args := args, argTypes := ts } ∧ CO f f' ∧ All2 CO args.toList args' := by have := hco.k; rw [hk] at this; exact this
            have hvl : vs.length = args'.length := by simpa using l1
            have hfv : RepA G w fv (a.eval f) := l2 (f', fv) (by simp) f q2
            have hw := guard_ok hco (s := σ.s) (g := true) (rs := []) (by rw [hgd]; rfl) (G := G) (w := w) (a := a) (fun p hp => by simp at hp)
            have hargs := evs_list args.toList args' vs q3 hvl (fun p hp => l2 p (by simp; exact .inr hp))
            have hlen : (args.map a.eval).size = vs.length := by simp [hvl]; have := all2_len q3; simpa using this
            obtain ⟨fid, x, y, dx, dc, e1, rfl, e2, e3⟩ := deferA_rep hde hfv (us := args.map a.eval) hlen (fun k c u hk hu => hargs k c u hk (by simpa using hu))
            refine wpOpIn_run ho hw ⟨fun f _ => trivial, ?_⟩
            show o.uponIn (Fr none) 0 P a _ _ ((o.semAt none a.eval).run P w)
            have hrun : (o.semAt none a.eval).run P w = .ok (.defer { target := .fn (.func fid) y, args := x ++ args.map a.eval }) w := by
              rw [Oper.semAt_none]
              simp [execOp, q1, resolve, e1, Deferred.ofValue]
            rw [hrun]
            show wpOpsIn (Fr none) 0 P ops _ _ (({ a with defers := _ } : Act).put o.dst undef) w
            rw [← hco.dst, hdst]
            have H2 : StRel E G ⟨σ.s, σ.h, .fn fid dx dc :: σ.d⟩ { a with defers := { target := .fn (.func fid) y, args := x ++ args.map a.eval } :: a.defers } w nt := ⟨H.wr, H.sz, fun t e he => (by
              obtain ⟨v, k1, k2, k3⟩ := H.sr t e he
              exact ⟨v, k1, k2, k3⟩), .cons (.fn e2 e3) H.defers⟩
            exact hnext os _ G _ w H2 hv
          · exact hv.elim
        · exact hv.elim

end Go.Proofs.Ytbfjmachkbhfnaa.AL
end

section
namespace Go.Proofs.Ytbfjmachkbhfnaa.AL
open Go

/-- What a record reads and writes. -/
structure Li where
  dst : Option Nat
  rs : List Nat
  hin : List Nat
  up : List Nat
def li (r : Rec) : Li := ⟨r.dst, r.rs.map (·.1), r.hin.map (·.1), r.up.map (·.1)⟩
def confL (x y : Li) : Bool :=
  (match x.dst with | some d => (y.rs.any fun p => p == d) || y.dst == some d | none => false) ||
  (match y.dst with | some d => (x.rs.any fun p => p == d) | none => false) ||
  x.up.any (fun n => y.up.contains n || y.hin.contains n) ||
  y.up.any (fun n => x.hin.contains n)
def conflictL (R : List Li) (bf : List (List Nat)) : Bool :=
  (List.range R.length).all fun j => (List.range j).all fun i =>
    match R[i]?, R[j]? with
    | some x, some y => !confL x y || (bf.getD j []).contains i
    | _, _ => true
def conflictR (R : List Li) (bf : List (List Nat)) : Bool := conflictL R.reverse bf
theorem confL_li (x y : Rec) : confL (li x) (li y) = conf x y := by
  unfold confL conf li upNames
  simp only [List.any_map, Function.comp_def]
  rfl
theorem conflictL_li (R : List Rec) (bf : List (List Nat)) : conflictL (R.map li) bf = conflictOk R bf := by
  unfold conflictL conflictOk
  rw [List.length_map]
  congr 1
  funext j
  congr 1
  funext i
  simp only [List.getElem?_map]
  cases R[i]? <;> cases R[j]? <;> simp [confL_li]

def addL (dr : Bool) (dst : Option Nat) (rs : List (Nat × Bool × AV)) (hin up : List (Nat × HO)) (ls : List Li) : List Li :=
  if dr = true then ⟨dst, rs.map (·.1), hin.map (·.1), up.map (·.1)⟩ :: ls else ls

/-- A region, one path after the other: where a slot that guards is written, both its values are followed. -/
def vcOpsP (dr : Bool) (C : FuncId → List D → Out → Prop) (Qp : D → St → Prop) (K : List Li → St → Prop) : List Out → List (Bool × AOper) → St → List Li → Prop
  | _, [], σ, ls => K ls σ
  | os, (fl, ao) :: r, σ, ls => match gEff σ.s ao.guard with
    | none => False
    | some (false, rs) => match ao.k with
      | .call _ _ => vcOpsP dr C Qp K os.tail r ⟨putS σ.s ao.dst (false, .d (.lit (.bool false))), σ.h, σ.d⟩ (addL dr ao.dst rs [] [] ls)
      | _ => vcOpsP dr C Qp K os r ⟨putS σ.s ao.dst (false, .d (.lit (.bool false))), σ.h, σ.d⟩ (addL dr ao.dst rs [] [] ls)
    | some (true, rs) => match ao.k with
      | .call f args => match os with
        | [] => False
        | o :: os' => match evL σ.s (f :: args) with
          | some (gs, fv :: vs) => match calleeA fv vs with
            | some (fid, all) => match argsD σ.h all with
              | some (ds, snap) => (allT gs ∧ C fid ds o) ∧ match o with
                | .ret d => (snap = true → Free d) ∧ vcOpsP dr C Qp K os' r ⟨putS σ.s ao.dst (true, .d d), σ.h, σ.d⟩ (addL dr ao.dst (rs ++ ents σ.s (f :: args)) (argH σ.h all) [] ls)
                | .pan d => (snap = true → Free d) ∧ Qp d σ
              | none => False
            | none => False
          | _ => False
      | .op x => match evL σ.s x.opds with
        | none => False
        | some (gs, vs) => match stepV σ.h x vs with
          | none => False
          | some e => (gcond x gs vs ∧ e.c) ∧ match fl with
            | true => (match ao.dst, e.v with
              | some t, .d (.lit (.bool c)) => (if c = true then vcOpsP dr C Qp K os r ⟨(t, true, .d (.lit (.bool true))) :: σ.s, updH σ.h e.up, σ.d⟩ (addL dr ao.dst (rs ++ ents σ.s x.opds) e.hin e.up ls) else True) ∧
                (if c = false then vcOpsP dr C Qp K os r ⟨(t, true, .d (.lit (.bool false))) :: σ.s, updH σ.h e.up, σ.d⟩ (addL dr ao.dst (rs ++ ents σ.s x.opds) e.hin e.up ls) else True)
              | _, _ => False)
            | false => vcOpsP dr C Qp K os r ⟨putS σ.s ao.dst (true, e.v), updH σ.h e.up, σ.d⟩ (addL dr ao.dst (rs ++ ents σ.s x.opds) e.hin e.up ls)
      | _ => False

def liL (dr : Bool) (recs : List Rec) : List Li := if dr = true then (recs.map li).reverse else []
theorem liL_add (dr : Bool) (recs : List Rec) (dst : Option Nat) (rs : List (Nat × Bool × AV)) (g : Bool) (v : AV) (hin up : List (Nat × HO)) : liL dr (recs ++ [⟨dst, rs, g, v, hin, up⟩]) = addL dr dst rs hin up (liL dr recs) := by
  cases dr <;> simp [liL, addL, li]
theorem vcOpsP_imp {dr : Bool} {C : FuncId → List D → Out → Prop} {Qp : D → St → Prop} {K : List Li → St → Prop} : ∀ {ops : List AOper} {os : List Out} {σ : St} {recs : List Rec}, vcOpsP dr C Qp K os (marks ops) σ (liL dr recs) → vcOpsW C Qp (fun recs σ => K (liL dr recs) σ) ops σ recs
  | [], os, σ, recs, h => by cases os <;> exact h
  | ao :: r, os, σ, recs, h => by
    unfold marks vcOpsP at h
    unfold vcOpsW
    split at h
    · exact h.elim
    · rename_i rs hg
      refine .inl ⟨rs, hg, ?_⟩
      split at h <;> exact vcOpsP_imp (by rw [liL_add]; exact h)
    · rename_i rs hg
      refine .inr ?_
      unfold vcOp
      simp only [hg]
      split at h
      · rename_i f args hk
        simp only [hk]
        split at h
        · exact h.elim
        · rename_i o os'
          split at h
          · rename_i gs fv vs hev
            simp only [hev]
            split at h
            · rename_i fid all hcal
              simp only [hcal]
              split at h
              · rename_i ds snap hargs
                simp only [hargs]
                refine ⟨o, fun _ => h.1, ?_⟩
                have h2 := h.2
                cases o with
                | ret d => exact ⟨h2.1, vcOpsP_imp (by rw [liL_add]; exact h2.2)⟩
                | pan d => exact ⟨trivial, h2⟩
              · exact h.elim
            · exact h.elim
          · exact h.elim
      · rename_i x hk
        simp only [hk]
        split at h
        · exact h.elim
        · rename_i gs vs hev
          simp only [hev]
          split at h
          · exact h.elim
          · rename_i e hst
            simp only [hst]
            refine ⟨fun _ => h.1, fun _ => trivial, ?_⟩
            have h2 := h.2
            split at h2
            · split at h2
              · rename_i t c hd hv
                rw [hd] at h2 ⊢
                rw [hv]
                cases c with
                | true => exact vcOpsP_imp (by rw [liL_add]; simpa [putS] using h2)
                | false => exact vcOpsP_imp (by rw [liL_add]; simpa [putS] using h2)
              · exact h2.elim
            · exact vcOpsP_imp (by rw [liL_add]; exact h2)
      · exact h.elim

theorem vcOpsW_mono {C : FuncId → List D → Out → Prop} {Qp : D → St → Prop} {K K' : List Rec → St → Prop} (hK : ∀ r s, K r s → K' r s) : ∀ {ops : List AOper} {σ : St} {recs : List Rec}, vcOpsW C Qp K ops σ recs → vcOpsW C Qp K' ops σ recs
  | [], _, _, h => hK _ _ h
  | _ :: _, _, _, h => by
    rcases h with ⟨rs, h1, h2⟩ | h
    · exact .inl ⟨rs, h1, vcOpsW_mono hK h2⟩
    · exact .inr (vcOp_mono (fun _ _ h => vcOpsW_mono hK h) h)
theorem vcOpsP_reg {C : FuncId → List D → Out → Prop} {Q : AE → St → Prop} {σ : St} {os : List Out} {ops : List AOper} (h : vcOpsP false C (fun d σ => Q (.pan d) σ) (fun _ σ => Q .normal σ) os (marks ops) σ []) : vcOpsW C (fun d σ => Q (.pan d) σ) (fun _ σ => Q .normal σ) ops σ [] :=
  vcOpsP_imp (dr := false) (K := fun _ σ => Q .normal σ) (recs := []) h
theorem vcOpsP_regD {C : FuncId → List D → Out → Prop} {Q : AE → St → Prop} {σ : St} {os : List Out} {ops : List AOper} {bf : List (List Nat)} (h : vcOpsP true C (fun _ _ => False) (fun R σ' => conflictR R bf = true ∧ Q .normal σ') os (marks ops) σ []) : vcOpsW C (fun _ _ => False) (fun R σ' => conflictOk R bf = true ∧ Q .normal σ') ops σ [] :=
  vcOpsW_mono (fun R σ h => ⟨by rw [← conflictL_li, ← h.1, conflictR, liL, if_pos rfl, List.reverse_reverse], h.2⟩) (vcOpsP_imp (dr := true) (K := fun R σ' => conflictR R bf = true ∧ Q .normal σ') (recs := []) h)

theorem exP : ∃ f : Bool → (FuncId → List D → Out → Prop) → (D → St → Prop) → (List Li → St → Prop) → List Out → List (Bool × AOper) → St → List Li → Prop, f = vcOpsP := ⟨_, rfl⟩
/-- The same, closed to the kernel's eye. -/
noncomputable def vcOpsX : Bool → (FuncId → List D → Out → Prop) → (D → St → Prop) → (List Li → St → Prop) → List Out → List (Bool × AOper) → St → List Li → Prop := Classical.choose exP
theorem vcOpsX_eq : vcOpsX = vcOpsP := Classical.choose_spec exP
theorem vcOpsX_nil (dr : Bool) (C : FuncId → List D → Out → Prop) (Qp : D → St → Prop) (K : List Li → St → Prop) (os : List Out) (σ : St) (ls : List Li) : vcOpsX dr C Qp K os [] σ ls = K ls σ := by
  rw [vcOpsX_eq]; cases os <;> rw [vcOpsP]
theorem vcOpsX_cons (dr : Bool) (C : FuncId → List D → Out → Prop) (Qp : D → St → Prop) (K : List Li → St → Prop) (os : List Out) (fl : Bool) (ao : AOper) (r : List (Bool × AOper)) (σ : St) (ls : List Li) : vcOpsX dr C Qp K os ((fl, ao) :: r) σ ls = (match gEff σ.s ao.guard with
    | none => False
    | some (false, rs) => match ao.k with
      | .call _ _ => vcOpsX dr C Qp K os.tail r ⟨putS σ.s ao.dst (false, .d (.lit (.bool false))), σ.h, σ.d⟩ (addL dr ao.dst rs [] [] ls)
      | _ => vcOpsX dr C Qp K os r ⟨putS σ.s ao.dst (false, .d (.lit (.bool false))), σ.h, σ.d⟩ (addL dr ao.dst rs [] [] ls)
    | some (true, rs) => match ao.k with
      | .call f args => match os with
        | [] => False
        | o :: os' => match evL σ.s (f :: args) with
          | some (gs, fv :: vs) => match calleeA fv vs with
            | some (fid, all) => match argsD σ.h all with
              | some (ds, snap) => (allT gs ∧ C fid ds o) ∧ match o with
                | .ret d => (snap = true → Free d) ∧ vcOpsX dr C Qp K os' r ⟨putS σ.s ao.dst (true, .d d), σ.h, σ.d⟩ (addL dr ao.dst (rs ++ ents σ.s (f :: args)) (argH σ.h all) [] ls)
                | .pan d => (snap = true → Free d) ∧ Qp d σ
              | none => False
            | none => False
          | _ => False
      | .op x => match evL σ.s x.opds with
        | none => False
        | some (gs, vs) => match stepV σ.h x vs with
          | none => False
          | some e => (gcond x gs vs ∧ e.c) ∧ match fl with
            | true => (match ao.dst, e.v with
              | some t, .d (.lit (.bool c)) => (if c = true then vcOpsX dr C Qp K os r ⟨(t, true, .d (.lit (.bool true))) :: σ.s, updH σ.h e.up, σ.d⟩ (addL dr ao.dst (rs ++ ents σ.s x.opds) e.hin e.up ls) else True) ∧
                (if c = false then vcOpsX dr C Qp K os r ⟨(t, true, .d (.lit (.bool false))) :: σ.s, updH σ.h e.up, σ.d⟩ (addL dr ao.dst (rs ++ ents σ.s x.opds) e.hin e.up ls) else True)
              | _, _ => False)
            | false => vcOpsX dr C Qp K os r ⟨putS σ.s ao.dst (true, e.v), updH σ.h e.up, σ.d⟩ (addL dr ao.dst (rs ++ ents σ.s x.opds) e.hin e.up ls)
      | _ => False) := by
  simp only [vcOpsX_eq]
  conv => lhs; unfold vcOpsP
end Go.Proofs.Ytbfjmachkbhfnaa.AL
end

section
namespace Go.Proofs.Ytbfjmachkbhfnaa.AL
open Go

def putSs (s : List (Nat × Bool × AV)) : List Nat → List AV → List (Nat × Bool × AV)
  | t :: ts, v :: vs => putSs ((t, true, v) :: s) ts vs
  | _, _ => s
/-- How a round is left. -/
def roundQ (nl : Nat) (K : Bool → List (Nat × HO) → Prop) : AE → St → Prop
  | .normal, τ => look τ.h nl = some (.obj 2) ∧ K true (setH τ.h nl (.obj 1))
  | .ret, τ => look τ.h nl = some (.obj 2) ∧ K false (setH τ.h nl (.obj 3))
  | .exit id, τ => look τ.h nl = some (.obj 2) ∧ K false (setH τ.h nl (.obj (id + 4)))
  | .pan _, _ => False
/-- How a range over a function is left. -/
def rangeQ (nd nl : Nat) (s : List (Nat × Bool × AV)) (d : List DE) (Q : AE → St → Prop) : HOut → List (Nat × HO) → Prop
  | .pan x, h' => Q (.pan x) ⟨s, h', .mark nd :: d⟩
  | .ret _, h' => match look h' nl with
    | some (.obj 1) => Q .normal ⟨s, setH h' nl .dead, .mark nd :: d⟩
    | some (.obj 3) => Q .ret ⟨s, setH h' nl .dead, .mark nd :: d⟩
    | some (.obj (id + 4)) => Q (.exit id) ⟨s, setH h' nl .dead, .mark nd :: d⟩
    | _ => False
/-- What a call of yield asks. -/
def yieldY (ps : List Nat) (nl : Nat) (s : List (Nat × Bool × AV)) (A B : Nat → (AE → St → Prop) → St → Prop) (args : List AV) (h : List (Nat × HO)) (K : Bool → List (Nat × HO) → Prop) : Prop :=
  look h nl = some (.obj 1) ∧ args.length = ps.length ∧ A (newName h) (fun e τ => match e with
    | .normal => look τ.h nl = some (.obj 1) ∧ B (newName h) (roundQ nl K) ⟨τ.s, setH τ.h nl (.obj 2), τ.d⟩
    | _ => False) ⟨putSs s ps args, h, []⟩

/-- A loop: states by a parameter, an invariant, a measure. -/
def loopP (B : Nat) (σ : St) (R : (St → Prop) → St → Prop) : Prop :=
  ∃ (X : Type) (st : X → St) (I : X → Prop) (μ : X → Nat), (∃ x, I x ∧ Sub B σ (st x)) ∧ ∀ x, I x → R (fun σ' => ∃ x', I x' ∧ μ x' < μ x ∧ Sub B σ' (st x')) (st x)
theorem loopP_congr {B : Nat} {σ σ' : St} {R : (St → Prop) → St → Prop} (h : σ = σ') : loopP B σ R = loopP B σ' R := by rw [h]
theorem loopP_intro {B : Nat} {σ : St} {R : (St → Prop) → St → Prop} (X : Type) (st : X → St) (I : X → Prop) (μ : X → Nat) (x0 : X) (h0 : I x0) (hs : Sub B σ (st x0)) (h : ∀ x, I x → R (fun σ' => ∃ x', I x' ∧ μ x' < μ x ∧ Sub B σ' (st x')) (st x)) : loopP B σ R :=
  ⟨X, st, I, μ, ⟨x0, h0, hs⟩, h⟩

/-- The verification condition. -/
def vc (P : Program) : Cx → AC → (AE → St → Prop) → St → Prop
  | _, .skip, Q, σ => Q .normal σ
  | cx, .region none ops, Q, σ => if waits ops = true then vcOpsW cx.C (fun d σ => Q (.pan d) σ) (fun _ σ => Q .normal σ) ops σ [] else vcOpsP false cx.C (fun d σ => Q (.pan d) σ) (fun _ σ => Q .normal σ) [] (marks ops) σ []
  | cx, .region (some bf) ops, Q, σ => if waits ops = true then vcOpsW cx.C (fun _ _ => False) (fun R σ' => conflictOk R bf = true ∧ Q .normal σ') ops σ [] else vcOpsP true cx.C (fun _ _ => False) (fun R σ' => conflictR R bf = true ∧ Q .normal σ') [] (marks ops) σ []
  | cx, .sregion ops, Q, σ => ∃ os, vcSP P cx Q os (marks ops) σ
  | cx, .seq a b, Q, σ => vc P cx a (seqQ (vc P cx b Q) Q) σ
  | cx, .cond c a b, Q, σ => match evO σ.s c with
    | some (g, .d (.lit (.bool t))) => g = true ∧ (t = true → vc P cx a Q σ) ∧ (t = false → vc P cx b Q σ)
    | _ => False
  | cx, .block id b, Q, σ => vc P cx b (blockQ id Q) σ
  | cx, .loop b, Q, σ => loopP cx.B σ (fun K => vc P cx b (seqQ K Q))
  | cx, .range g ps asg b, Q, σ => cx.top = true ∧ match evO σ.s g with
    | some (true, fv) => ∀ l, match calleeA fv [.d (.fn (.yield l) [] [])] with
      | some (fid, all) => ∃ T, HCall P fid T ∧ T { B := newName σ.h + 2, top := true, l := l, C := cx.C, Y := yieldY ps (newName σ.h + 1) σ.s (fun B => vc P { cx with B := B, top := false } asg) (fun B => vc P { cx with B := B, top := false } b) }
          all (setH (setH σ.h (newName σ.h) (.obj 0)) (newName σ.h + 1) (.obj 1)) (rangeQ (newName σ.h) (newName σ.h + 1) σ.s σ.d Q)
      | none => False
    | _ => False
  | _, .exit id, Q, σ => Q (.exit id) σ
  | _, .ret, Q, σ => Q .ret σ

end Go.Proofs.Ytbfjmachkbhfnaa.AL
end

section
namespace Go.Proofs.Ytbfjmachkbhfnaa.AL
open Go

theorem run_shift (p : Nat → Bool) : ∀ (R : List Rec) (k : Nat) (σ : St), AL.run p R (k + 1) σ = AL.run (fun j => p (j + 1)) R k σ
  | [], _, _ => rfl
  | r :: R, k, σ => by simp only [AL.run]; exact run_shift p R (k + 1) _

/-- A walk in the order of the text leaves the records. -/
theorem vcOps_recs {E : Env} {P : Program} {ro : Option Nat} {ops : Array Oper} {nt : Nat} {K : List Rec → St → Prop} {C : FuncId → List D → Out → Prop} (hC : ∀ f ds out, C f ds out → PCall P f ds out) : ∀ (aops : List AOper) (k : Nat) (σ : St) (recs : List Rec),
    (∀ j ao, aops[j]? = some ao → ∃ o, ops[k + j]? = some o ∧ CmpO P ops nt o ao) → vcOpsW C (fun _ _ => False) K aops σ recs →
    ∃ R : List Rec, R.length = aops.length ∧ (∀ i r, R[i]? = some r → RecOk E P ro ops nt (k + i) r ∧ RecIn (AL.run (fun j => decide (j < i)) R 0 σ) r ∧ ∀ d, r.dst = some d → d < nt) ∧ K (recs ++ R) (AL.run (fun _ => true) R 0 σ)
  | [], k, σ, recs, hc, hv => ⟨[], rfl, fun i r hr => by simp at hr, by simpa [AL.run, vcOpsW] using hv⟩
  | ao :: rest, k, σ, recs, hc, hv => by
    obtain ⟨o, ho, hco⟩ := hc 0 ao rfl
    rw [Nat.add_zero] at ho
    rcases vcOpW_rec (E := E) (ro := ro) hC ho hco hv with ⟨rec, h1, h2, h3, h4⟩ | ⟨d, rs, hin, h1, h2, h3, h4⟩
    · obtain ⟨R, i1, i2, i3⟩ := vcOps_recs hC rest (k + 1) _ _ (fun j ao' hj => by
        obtain ⟨o', ho', hc'⟩ := hc (j + 1) ao' (by simpa using hj)
        exact ⟨o', by rw [← ho']; congr 1; omega, hc'⟩) h4
      refine ⟨rec :: R, by simp [i1], fun i r hr => ?_, ?_⟩
      · cases i with
        | zero =>
          simp at hr; subst hr
          refine ⟨h1, ?_, fun d hd => hco.lt d (by rw [← h3]; exact hd)⟩
          have : AL.run (fun j => decide (j < 0)) (rec :: R) 0 σ = σ := by
            have e : (fun j => decide (j < 0)) = (fun _ : Nat => false) := by funext j; simp
            rw [e, run_none]
          rw [this]; exact h2
        | succ i =>
          obtain ⟨q1, q2, q3⟩ := i2 i r (by simpa using hr)
          refine ⟨by rw [show k + (i + 1) = k + 1 + i by omega]; exact q1, ?_, q3⟩
          simp only [AL.run]
          rw [if_pos (by simp), run_shift]
          have e : (fun j => decide (j + 1 < i + 1)) = (fun j => decide (j < i)) := by funext j; simp
          rw [e]; exact q2
      · simp only [AL.run]
        rw [run_shift]
        rw [show recs ++ rec :: R = recs ++ [rec] ++ R by simp]
        exact i3
    · exact h4.elim

theorem least {p : Nat → Prop} (h : ∃ n, p n) : ∃ n, p n ∧ ∀ m, p m → n ≤ m := by
  obtain ⟨n, hn⟩ := h
  induction n using Nat.strongRecOn with
  | _ n ih =>
    by_cases hh : ∃ m, m < n ∧ p m
    · obtain ⟨m, hm, hp⟩ := hh
      exact ih m hm hp
    · refine ⟨n, hn, fun m hm => ?_⟩
      rcases Nat.lt_or_ge m n with h' | h'
      · exact absurd ⟨m, h', hm⟩ hh
      · exact h'


theorem newName_setH : ∀ (h : List (Nat × HO)) (n : Nat) (o : HO), newName h ≤ n → newName (setH h n o) = n + 1
  | [], n, o, _ => by simp [setH, newName]
  | (m, x) :: r, n, o, hn => by
    simp only [newName] at hn
    have h1 : m + 1 ≤ n := Nat.le_trans (Nat.le_max_left _ _) hn
    have h2 := newName_setH r n o (Nat.le_trans (Nat.le_max_right _ _) hn)
    simp only [setH]
    rw [if_neg (by omega)]
    simp only [newName, h2]
    omega

theorem look_setH' (h : List (Nat × HO)) (n : Nat) (o : HO) : look (setH h n o) = Hp.upd (look h) [(n, o)] := by
  funext m; rw [look_setH]; rfl

theorem fold_size : ∀ (l : List (Tmp × Value)) (T : Array Value), (l.foldl (fun t (p : Tmp × Value) => t.setIfInBounds p.1 p.2) T).size = T.size
  | [], _ => rfl
  | p :: r, T => by rw [List.foldl_cons, fold_size r]; simp

theorem putSs_rel {G : Gh} {w : World} : ∀ {ps : List Nat} {args : List AV} {vals : List Value} {s : List (Nat × Bool × AV)} {T : Array Value}, (∀ p ∈ ps, p < T.size) → vals.length = args.length → args.length = ps.length →
    (∀ (k : Nat) (c : AV) (u : Value), args[k]? = some c → vals[k]? = some u → RepA G w c u) → (∀ t e, getS s t = some e → Ent G w { tmps := T, defers := [] } t e) →
    ∀ t e, getS (putSs s ps args) t = some e → Ent G w { tmps := (ps.zip vals).foldl (fun t (p : Tmp × Value) => t.setIfInBounds p.1 p.2) T, defers := [] } t e
  | [], [], [], s, T, _, _, _, _, hs, t, e, he => hs t e he
  | p :: ps, v :: args, u :: vals, s, T, hp, h1, h2, hr, hs, t, e, he => by
    rw [List.zip_cons_cons, List.foldl_cons]
    refine putSs_rel (ps := ps) (args := args) (vals := vals) (s := (p, true, v) :: s) (T := T.setIfInBounds p u) (fun q hq => by simpa using hp q (by simp [hq])) (by simpa using h1) (by simpa using h2) (fun k c x hk hx => hr (k + 1) c x (by simpa using hk) (by simpa using hx)) (fun t' e' he' => ?_) t e he
    simp only [getS] at he'
    split at he'
    · rename_i ht; subst ht
      obtain rfl := Option.some.inj he'
      exact ⟨u, by simp [hp t' (by simp)], fun _ => hr 0 v u rfl rfl, by simp⟩
    · rename_i ht
      exact ent_put (d := p) (val := u) (hs t' e' he') ht
  | [], _ :: _, _, s, T, _, _, h2, _, _, t, e, he => by simp at h2
  | _ :: _, [], _, s, T, _, _, h2, _, _, t, e, he => by simp at h2
  | [], [], _ :: _, s, T, _, h1, _, _, _, t, e, he => by simp at h1
  | _ :: _, _ :: _, [], s, T, _, h1, _, _, _, t, e, he => by simp at h1

/-- A record whose state is known. -/
theorem obj_at {E : Env} {G0 G : Gh} {h : List (Nat × HO)} {w0 w : World} (H : WRel E G (look h) w) (hle : GLe G0 w0 G w) {n b s : Nat} (hb : G0.box n = some b) (hl : look h n = some (.obj s)) :
    G.box n = some b ∧ G.rc n = G0.rc n ∧ w.heap[b]? = some (objOf (G0.rc n) s) := by
  obtain ⟨b', e1, e2⟩ := H.obj n s hl
  have := hle.box n b hb
  rw [this] at e1; injection e1 with e1; subst e1
  have hrc := hle.rc n b hb
  exact ⟨this, hrc, by rw [← hrc]; exact e2⟩

/-- The verification condition is enough. -/
theorem vc_sound {P : Program} {nt : Nat} {c : Code} {ac : AC} (hc : CmpC P nt c ac) : ∀ {E : Env} {ro : Option Nat} {cx : Cx} {Q : AE → St → Prop} {σ : St} {G : Gh} {a : Act} {w : World}, CxOk P E cx ro → vc P cx ac Q σ → StRel E G σ a w nt → c.wpIn (Fr ro) 0 P (Post E nt Q) a w := by
  induction hc with
  | skip => intro E ro cx Q σ G a w hok hv H; exact wpIn_skip ⟨G, σ, H, hv⟩
  | region hl hcc =>
    intro E ro cx Q σ G a w hok hv H
    rename_i id ops aops
    have hv : vcOpsW cx.C (fun d σ => Q (.pan d) σ) (fun _ σ => Q .normal σ) aops σ [] := by
      simp only [vc] at hv
      split at hv
      · exact hv
      · exact vcOpsP_reg hv
    refine wpIn_region ?_
    rw [List.range_eq_range', ← hl]
    exact vcOps_seq hok.c _ 0 σ [] G a w (fun j ao hj => by rw [Nat.zero_add]; exact hcc j ao hj) H hv
  | sregion hl hcc =>
    intro E ro cx Q σ G a w hok hv H
    refine wpIn_region ?_
    rw [List.range_eq_range', ← hl]
    simp only [vc] at hv
    obtain ⟨os, hv⟩ := hv
    exact vcSP_seq hok _ os 0 σ G a w (fun j ao hj => by rw [Nat.zero_add]; exact hcc j ao hj) H hv
  | regionD hm hl hcc hbf hedge =>
    rename_i id ops aops bf
    intro E ro cx Q σ G a w hok hv H
    have hv : vcOpsW cx.C (fun _ _ => False) (fun R σ' => conflictOk R bf = true ∧ Q .normal σ') aops σ [] := by
      simp only [vc] at hv
      split at hv
      · exact hv
      · exact vcOpsP_regD hv
    obtain ⟨R, i1, i2, i3, i4⟩ := vcOps_recs (E := E) (ro := ro) hok.c _ 0 σ [] (fun j ao hj => by rw [Nat.zero_add]; exact hcc j ao hj) hv
    rw [List.nil_append] at i3
    have hgrow : Grow w { w with drawn := w.drawn + 1 } := ⟨rfl, rfl, rfl, Nat.le_refl _, fun _ _ => rfl⟩
    obtain ⟨l1, l2⟩ := H.wr.grow hgrow G.I (fun _ h => h) (fun _ h => .inl h) (fun a ha => H.wr.icell a ha)
    have H' : StRel E G σ a { w with drawn := w.drawn + 1 } nt := ⟨l2, H.sz, fun t e he => (H.sr t e he).mono l1, H.defers.mono l1⟩
    refine wpIn_region_any hm (drawn_sound (R := R) (σ0 := σ) (by rw [i1, hl]) (fun i r hr => by have := i2 i r hr; rw [Nat.zero_add] at this; exact this) hbf i3 hedge (fun G a w H => ⟨G, _, H, i4⟩) _ _ G a _ (by simp) (by
      refine Nat.le_trans (List.length_filter_le _ _) (by simp)) (fun j hj => ?_) ?_)
    · simp [Array.getD_eq_getD_getElem?, Array.getElem?_replicate] at hj
      split at hj <;> simp at hj
    · have e : (fun j => (Array.replicate ops.size false).getD j false) = (fun _ : Nat => false) := by
        funext j
        simp only [Array.getD_eq_getD_getElem?, Array.getElem?_replicate]
        split <;> rfl
      rw [e, run_none]; exact H'
  | seq h1 h2 ih1 ih2 =>
    intro E ro cx Q σ G a w hok hv H
    refine wpIn_seq (wpIn_mono (ih1 hok hv H) (fun e a' w' hq => ?_))
    cases e <;> try exact hq
    obtain ⟨G', σ', q1, q2⟩ := hq
    exact ih2 hok q2 q1
  | cond h0 h1 h2 ih1 ih2 =>
    intro E ro cx Q σ G a w hok hv H
    simp only [vc] at hv
    split at hv
    · rename_i g t he
      obtain ⟨hg, ht, hf⟩ := hv
      have hev := (evO_ent (G := G) (w := w) (a := a) he hg (fun t' ht' => by subst ht'; exact H.sr t' _ he) _ h0).lit.1
      exact wpIn_cond_split hev (fun e => ih1 hok (ht e) H) (fun e => ih2 hok (hf e) H)
    · exact hv.elim
  | block h ih =>
    intro E ro cx Q σ G a w hok hv H
    refine wpIn_block (wpIn_mono (ih hok hv H) (fun e a' w' hq => ?_))
    cases e <;> try exact hq
    obtain ⟨G', σ', q1, q2⟩ := hq
    simp only [blockQ] at q2
    simp only [Exit.inBlock]
    split
    · rename_i e; rw [if_pos e] at q2; exact ⟨G', σ', q1, q2⟩
    · rename_i e; rw [if_neg e] at q2; exact ⟨G', σ', q1, q2⟩
  | loop h ih =>
    intro E ro cx Q σ G a w hok hv H
    simp only [vc] at hv
    obtain ⟨X, st, I, μ, ⟨x0, hx0, hs0⟩, hround⟩ := hv
    let p : Act → World → Nat → Prop := fun a w n => ∃ x G, I x ∧ StRel E G (st x) a w nt ∧ μ x = n
    let inv : Act → World → Prop := fun a w => ∃ n, p a w n
    rw [← hok.B] at hs0
    obtain ⟨G0, _, H0⟩ := hs0.rel H
    refine wpIn_loop inv (fun a w => @dite _ (∃ n, p a w n) (Classical.propDecidable _) (fun h => Classical.choose (least h)) (fun _ => 0)) ⟨μ x0, x0, G0, hx0, H0, rfl⟩ (fun a w hI => ?_)
    have hle := Classical.choose_spec (least hI)
    obtain ⟨x, G1, k1, k2, k3⟩ := hle.1
    refine wpIn_mono (ih hok (hround x k1) k2) (fun e a' w' hq => ?_)
    cases e <;> try exact hq
    obtain ⟨G', σ', q1, x', q2, q3, q4⟩ := hq
    rw [← hok.B] at q4
    obtain ⟨G2, _, H2⟩ := q4.rel q1
    have hI' : ∃ n, p a' w' n := ⟨μ x', x', G2, q2, H2, rfl⟩
    refine ⟨hI', ?_⟩
    have hle' := Classical.choose_spec (least hI')
    rw [dif_pos hI', dif_pos hI]
    have := hle'.2 (μ x') ⟨x', G2, q2, H2, rfl⟩
    omega
  | range hg hps hlt h1 h2 ih1 ih2 =>
    rename_i g g' asg b asg' b' ps ps'
    intro E ro cx Q σ G a w hok hv H
    simp only [vc] at hv
    obtain ⟨htop, hv⟩ := hv
    split at hv
    case h_2 => exact hv.elim
    rename_i fv hgv
    have hro := hok.top htop
    subst hro
    refine wpIn_rangeFunc fun fn hfn => ?_
    obtain ⟨nd, hnd⟩ : ∃ nd, nd = newName σ.h := ⟨_, rfl⟩
    rw [← hnd] at hv
    obtain ⟨rec, hrec⟩ : ∃ rec : Loop, rec = { state := .ready, pending := none, fn, tmps := a.tmps, params := ps, assign := asg, body := b, defers := w.heap.size } := ⟨_, rfl⟩
    have hfr1 : look σ.h nd = none := by rw [hnd]; exact look_new σ.h
    obtain ⟨le1, W1⟩ := H.wr.newObj hfr1 rec 0
    have hfr2 : (Hp.upd (look σ.h) [(nd, .obj 0)]) (nd + 1) = none := by
      show (if nd + 1 = nd then _ else look σ.h (nd + 1)) = none
      rw [if_neg (by omega)]
      cases hx : look σ.h (nd + 1) with
      | none => rfl
      | some o => have := look_lt hx; omega
    obtain ⟨le2, W2⟩ := W1.newObj hfr2 rec 1
    obtain ⟨h1', hh1⟩ : ∃ h1', h1' = setH (setH σ.h nd (.obj 0)) (nd + 1) (.obj 1) := ⟨_, rfl⟩
    rw [← look_setH', ← look_setH', ← hh1] at W2
    obtain ⟨G2, le2, W2, hobx⟩ : ∃ G2 : Gh, GLe _ _ G2 _ ∧ WRel E G2 _ _ ∧ (G2.box (nd + 1) = some (w.heap.size + 1) ∧ G2.rc (nd + 1) = rec ∧ G2.box nd = some w.heap.size) := ⟨_, le2, W2, by simp⟩
    obtain ⟨w2, hw2⟩ : ∃ w2, w2 = (w.alloc (objOf rec 0)).alloc (objOf rec 1) := ⟨_, rfl⟩
    rw [← hw2] at W2 le2
    have le : GLe G w G2 w2 := le1.trans le2
    have hB : newName h1' = nd + 2 := by
      rw [hh1, newName_setH _ _ _ (by rw [newName_setH _ _ _ (by omega)]; exact Nat.le_refl _)]
    rw [← hh1] at hv
    have hv := hv (w.heap.size + 1)
    split at hv
    case h_2 => exact hv.elim
    rename_i fid all hcal
    obtain ⟨T, hT, hv⟩ := hv
    have hfv : RepA G2 w2 fv (a.eval g) := (evO_ent (G := G) (w := w) (a := a) hgv rfl (fun t' ht' => by subst ht'; exact H.sr t' _ hgv) _ hg).mono le
    obtain ⟨x, y, e1, e2, e3⟩ := calleeA_rep hcal hfv (us := [.func (.yield (w.heap.size + 1)) #[] #[]]) rfl (fun k c u hk hu => by
      cases k with
      | zero => simp at hk hu; subst hk; subst hu; exact .d (.fn rfl rfl (fun k c v hk => by simp at hk) (fun k c v hk => by simp at hk))
      | succ k => simp at hk)
    have hyield : HYield P (E.at_ h1' G2 w2) { B := nd + 2, top := true, l := w.heap.size + 1, C := cx.C, Y := yieldY ps' (nd + 1) σ.s (fun B => vc P { cx with B := B, top := false } asg') (fun B => vc P { cx with B := B, top := false } b') } := by
      intro ro' G' h w' args vals K Hw hr hY
      obtain ⟨hlk, hlen, hY⟩ := hY
      obtain ⟨Hw0, hle'⟩ := W2.of_at Hw
      obtain ⟨o1, o2, o3⟩ := obj_at Hw0 hle' hobx.1 hlk
      rw [hobx.2.1] at o2 o3
      have hle0 : GLe G w G' w' := le.trans hle'
      have hval : vals.toArray.size = ps.size := by
        have : ps.size = ps'.length := by rw [← hps]; simp
        simp [hr.1, hlen, this]
      have hy := run_yield (P := P) (w := w') (args := vals.toArray) o3 (by rw [hrec]; exact hval)
      rw [hrec] at hy
      have hfold : (ps.zip vals.toArray).foldl (fun tmps (t, a) => tmps.setIfInBounds t a) a.tmps = (ps'.zip vals).foldl (fun t (p : Tmp × Value) => t.setIfInBounds p.1 p.2) a.tmps := by
        rw [← Array.foldl_toList]; simp [hps]
      rw [hfold] at hy
      have H3 : StRel (E.at_ h G' w') G' ⟨putSs σ.s ps' args, h, []⟩ { tmps := (ps'.zip vals).foldl (fun t (p : Tmp × Value) => t.setIfInBounds p.1 p.2) a.tmps, defers := [] } w' nt := by
        refine ⟨Hw0.to_at, ?_, ?_, .nil⟩
        · show ((ps'.zip vals).foldl _ a.tmps).size = nt
          rw [fold_size]; exact H.sz
        · exact putSs_rel (fun p hp => by rw [H.sz]; exact hlt p hp) hr.1 hlen hr.2 (fun t e he => by
            obtain ⟨v, q1, q2, q3⟩ := (H.sr t e he).mono hle0
            exact ⟨v, q1, q2, q3⟩)
      have hokB : CxOk P (E.at_ h G' w') { cx with B := newName h, top := false } (some (w.heap.size + 1)) := ⟨rfl, hok.y.at_ Hw0 _ _, fun hf => (by cases hf), hok.c⟩
      refine ⟨fn, _, asg, b, hy, roundIn_of_wpIn (F := Fr ro') trivial (wpIn_mono (ih1 hokB hY H3) (fun e a1 w1 hq => ?_))⟩
      cases e with
      | normal =>
        obtain ⟨G1, τ, H1, k1, k2⟩ := hq
        obtain ⟨m1, m2⟩ := Hw0.of_at H1.wr
        obtain ⟨p1, p2, p3⟩ := obj_at m1 m2 o1 k1
        rw [o2] at p2 p3
        have hbr := run_beginRound (P := P) (w := w1) p3 rfl
        obtain ⟨u1, u2⟩ := H1.wr.putOwn k1 p1 (objOf (G1.rc (nd + 1)) 2) (.obj 2) (.inr ⟨2, rfl, rfl⟩)
        rw [← look_setH', p2] at u2
        rw [p2] at u1
        refine ⟨_, hbr, wpIn_mono (ih2 hokB k2 (H1.heap u2 u1)) (fun e a3 w3 hq => ?_)⟩
        have fin : ∀ (G3 : Gh) (τ3 : St) (jump : Option Code) (s : Nat), StRel (E.at_ h G' w') G3 τ3 a3 w3 nt → look τ3.h (nd + 1) = some (.obj 2) → objOf rec s = .loop { rec with state := if jump.isNone then .ready else .done, pending := jump } →
            K jump.isNone (setH τ3.h (nd + 1) (.obj s)) → ∃ v w4, (Instr.endRound (w.heap.size + 1) jump).run P w3 = .ok v w4 ∧ ∃ (G4 : Gh) (h4 : List (Nat × HO)) (b : Bool), GLe G' w' G4 w4 ∧ WRel (E.at_ h1' G2 w2) G4 (look h4) w4 ∧ Ending.returned v = .returned (.bool b) ∧ K b h4 := by
          intro G3 τ3 jump s H4 hl4 ho hK
          obtain ⟨n1, n2⟩ := Hw0.of_at H4.wr
          obtain ⟨x1, x2, x3⟩ := obj_at n1 n2 o1 hl4
          rw [o2] at x2 x3
          have her := run_endRound (P := P) (w := w3) jump x3
          obtain ⟨v1, v2⟩ := n1.putOwn hl4 x1 (objOf (G3.rc (nd + 1)) s) (.obj s) (.inr ⟨s, rfl, rfl⟩)
          rw [← look_setH', x2, ho] at v2
          rw [x2, ho] at v1
          exact ⟨_, _, her, G3, _, _, n2.trans v1, Hw.again_at v2 (n2.trans v1), rfl, hK⟩
        cases e with
        | normal => obtain ⟨G3, τ3, q1, q2, q3⟩ := hq; exact fin G3 τ3 none 1 q1 q2 rfl q3
        | ret => obtain ⟨G3, τ3, q1, q2, q3⟩ := hq; exact fin G3 τ3 (some .ret) 3 q1 q2 rfl q3
        | exit id => obtain ⟨G3, τ3, q1, q2, q3⟩ := hq; exact fin G3 τ3 (some (.exit id)) (id + 4) q1 q2 rfl q3
        | panic ch => obtain ⟨_, _, _, _, _, _, _, hq⟩ := hq; exact hq.elim
        | goto t => exact hq.elim
        | outgrown => exact hq.elim
      | exit id => obtain ⟨_, _, _, hq⟩ := hq; exact hq.elim
      | ret => obtain ⟨_, _, _, hq⟩ := hq; exact hq.elim
      | panic ch => obtain ⟨_, _, _, _, _, _, _, hq⟩ := hq; exact hq.elim
      | goto t => exact hq.elim
      | outgrown => exact hq.elim
    refine ⟨w.heap.size + 1, [{ target := .collected w.heap.size, args := #[] }], w2, { target := .fn (.func fid) y, args := x ++ #[.func (.yield (w.heap.size + 1)) #[] #[]] }, w2, fid, (x.toList ++ (([.func (.yield (w.heap.size + 1)) #[] #[]] : List Value) ++ y.toList)).toArray, w2, ?_, ?_, fun _ _ => trivial, ?_, fun hd => by simp [Fr, Fence.wide] at hd, ?_⟩
    · rw [hw2, hrec]; exact run_enterLoop_outer _ _ _ _ _
    · simp only [resolve, e1]
      simp [go_sem]
    · have e : x ++ #[.func (.yield (w.heap.size + 1)) #[] #[]] ++ y = (x.toList ++ (([.func (.yield (w.heap.size + 1)) #[] #[]] : List Value) ++ y.toList)).toArray := by
        apply Array.ext'; simp
      simp only [invoke]
      rw [e]
      exact run_callFunc hT.1 _ w2
    · have hfin : ∀ (G3 : Gh) (h' : List (Nat × HO)) (w3 : World) (s : Nat) (jump : Option Code), WRel (E.at_ h1' G2 w2) G3 (look h') w3 → look h' (nd + 1) = some (.obj s) → (∃ r, objOf rec s = .loop r ∧ r.state ≠ .busy ∧ r.pending = jump) →
          ∃ w4, (Instr.endLoop (w.heap.size + 1)).run P w3 = .ok jump w4 ∧ StRel E G3 ⟨σ.s, setH h' (nd + 1) .dead, .mark nd :: σ.d⟩ { a with defers := [{ target := .collected w.heap.size, args := #[] }] ++ a.defers } w4 nt := by
        intro G3 h' w3 s jump k1 hl ⟨r, r1, r2, r3⟩
        obtain ⟨m1, m2⟩ := W2.of_at k1
        obtain ⟨x1, x2, x3⟩ := obj_at m1 m2 hobx.1 hl
        rw [hobx.2.1, r1] at x3
        have her := run_endLoop (P := P) (w := w3) x3 r2
        subst r3
        obtain ⟨v1, v2⟩ := m1.putOwn hl x1 (.loop { r with state := .exhausted }) .dead (.inl rfl)
        rw [← look_setH'] at v2
        have hle : GLe G w G3 _ := le.trans (m2.trans v1)
        exact ⟨_, her, v2, H.sz, fun t e he => (by
          obtain ⟨v, q1, q2, q3⟩ := (H.sr t e he).mono hle
          exact ⟨v, q1, q2, q3⟩), .cons (.mark ((m2.trans v1).box nd _ hobx.2.2)) (H.defers.mono hle)⟩
      refine (callsIn_wide (n := 0 - 1)).2 ((hT.2 (E.at_ h1' G2 w2) _ G2 h1' w2 all _ _ W2.to_at ⟨by exact hB, hyield, fun _ => rfl, hok.c⟩ ⟨e2, e3⟩ hv).mono fun e w3 hR => ?_)
      cases e with
      | returned v =>
        obtain ⟨G3, h', k1, av, k2, k3⟩ := hR
        simp only [rangeQ] at k3
        split at k3
        · rename_i hl
          obtain ⟨w4, f1, f2⟩ := hfin G3 h' w3 1 none k1 hl ⟨_, rfl, by simp, rfl⟩
          exact ⟨none, w4, f1, G3, _, f2, k3⟩
        · rename_i hl
          obtain ⟨w4, f1, f2⟩ := hfin G3 h' w3 3 (some .ret) k1 hl ⟨_, rfl, by simp, rfl⟩
          exact ⟨some .ret, w4, f1, wpIn_ret ⟨G3, _, f2, k3⟩⟩
        · rename_i id hl
          obtain ⟨w4, f1, f2⟩ := hfin G3 h' w3 (id + 4) (some (.exit id)) k1 hl ⟨_, rfl, by simp, rfl⟩
          exact ⟨some (.exit id), w4, f1, wpIn_exit ⟨G3, _, f2, k3⟩⟩
        · exact k3.elim
      | panicked ch =>
        obtain ⟨G3, h', k1, v, d, k2, k3, k4⟩ := hR
        obtain ⟨m1, m2⟩ := W2.of_at k1
        have hle : GLe G w G3 w3 := le.trans m2
        exact ⟨G3, ⟨σ.s, h', .mark nd :: σ.d⟩, v, d, ⟨m1, H.sz, fun t e he => (by
          obtain ⟨v, q1, q2, q3⟩ := (H.sr t e he).mono hle
          exact ⟨v, q1, q2, q3⟩), .cons (.mark (m2.box nd _ hobx.2.2)) (H.defers.mono hle)⟩, k2, k3, k4⟩
      | outgrown => obtain ⟨_, _, _, hR⟩ := hR; exact hR.elim
  | exit => intro E ro cx Q σ G a w hok hv H; exact wpIn_exit ⟨G, σ, H, hv⟩
  | ret => intro E ro cx Q σ G a w hok hv H; exact wpIn_ret ⟨G, σ, H, hv⟩

end Go.Proofs.Ytbfjmachkbhfnaa.AL
end

section
namespace Go.Proofs.Ytbfjmachkbhfnaa.AL
open Go

/-- In which mode a frame leaves: it returns; or this panic runs. -/
def modeOf (G : Gh) (w : World) : Option D → FrameMode → Prop
  | none, m => m = .returning
  | some d, m => ∃ v, m = .panicking [{ v := v, recovered := false }] ∧ Rep G.I w d v

/-- A function that is called as a deferred call. -/
def DCall (P : Program) (f : FuncId) (T : Cx → List AV → Option D → List (Nat × HO) → (Option D → List (Nat × HO) → Prop) → Prop) : Prop :=
  Callable P f ∧ ∀ (E : Env) (cx : Cx) (G : Gh) (h : List (Nat × HO)) (w : World) (all : List AV) (vals : List Value) (u : Option D) (mode : FrameMode) (K : Option D → List (Nat × HO) → Prop),
    WRel E G (look h) w → CxOk P E cx none → RepVs G w all vals → modeOf E.Gb E.wb u mode → T cx all u h K →
    CallsDIn (Fr none) 0 P f vals.toArray mode w fun e mode' w' => ∃ G' h' u', WRel E G' (look h') w' ∧ K u' h' ∧ match e with
      | .returned _ => modeOf G' w' u' (settle mode')
      | .panicked chain => modeOf G' w' u' (raised mode' chain)
      | .outgrown => False

/-- A function goes: its deferred calls, the last first; then its results. -/
def leaveQ (P : Program) (C : FuncId → List D → Out → Prop) (fn : AF) (K : HOut → List (Nat × HO) → Prop) : Option D → List DE → List (Nat × Bool × AV) → List (Nat × HO) → Prop
  | none, [], s, h => match retV ⟨s, h, []⟩ fn.res with
    | some (c, v) => c ∧ K (.ret v) h
    | none => False
  | some d, [], _, h => K (.pan d) h
  | u, .mark n :: ds, s, h => look h n = some (.obj 0) ∧ leaveQ P C fn K u ds s (setH h n .dead)
  | u, .fn f as caps :: ds, s, h => ∃ T, DCall P f T ∧ T { C := C, B := newName h } (as ++ caps) u h (fun u' h' => leaveQ P C fn K u' ds s h')

/-- What is asked of a function's body. -/
def endH (P : Program) (C : FuncId → List D → Out → Prop) (fn : AF) (K : HOut → List (Nat × HO) → Prop) : AE → St → Prop
  | .normal, σ | .ret, σ => leaveQ P C fn K none σ.d σ.s σ.h
  | .pan d, σ => leaveQ P C fn K (some d) σ.d σ.s σ.h
  | .exit _, _ => False

def argA : List AV → Nat → List (Nat × Bool × AV)
  | [], _ => []
  | v :: r, k => (k, true, v) :: argA r (k + 1)
theorem argA_get : ∀ {ds : List AV} {k t : Nat} {e : Bool × AV}, getS (argA ds k) t = some e → ∃ d, k ≤ t ∧ ds[t - k]? = some d ∧ e = (true, d)
  | [], k, t, e, h => by simp [argA, getS] at h
  | d :: r, k, t, e, h => by
    simp only [argA, getS] at h
    split at h
    · rename_i ht; subst ht
      injection h with h; subst h
      exact ⟨d, Nat.le_refl _, by simp, rfl⟩
    · obtain ⟨d', h1, h2, h3⟩ := argA_get h
      exact ⟨d', by omega, by rw [show t - k = (t - (k + 1)) + 1 by omega]; simpa using h2, h3⟩

/-- The call of a compact function, with the caller's boxes in sight. -/
def TF (P : Program) (fn : AF) (cx : Cx) (all : List AV) (h : List (Nat × HO)) (K : HOut → List (Nat × HO) → Prop) : Prop :=
  all.length ≤ fn.nt ∧ vc P cx fn.body (endH P cx.C fn K) ⟨argA all 0, h, []⟩

def HEnd (E : Env) (K : HOut → List (Nat × HO) → Prop) (e : Ending) (w' : World) : Prop :=
  ∃ G' h', WRel E G' (look h') w' ∧ match e with
      | .returned v => ∃ av, RepA G' w' av v ∧ K (.ret av) h'
      | .panicked ch => ∃ v d, ch = [{ v := v, recovered := false }] ∧ Rep G'.I w' d v ∧ K (.pan d) h'
      | .outgrown => False

theorem modeOf.mono {G G' : Gh} {w w' : World} {u : Option D} {m : FrameMode} (h : modeOf G w u m) (hk : GLe G w G' w') : modeOf G' w' u m := by
  cases u with
  | none => exact h
  | some d => obtain ⟨v, e, hv⟩ := h; exact ⟨v, e, hv.mono hk.imm⟩

theorem leave_sound {P : Program} {C : FuncId → List D → Out → Prop} (hC : ∀ f ds out, C f ds out → PCall P f ds out) {F : Func} {fn : AF} (h6 : All2 (CmpR P) F.results.toList fn.res) {K : HOut → List (Nat × HO) → Prop} {tmps : Array Value} {s : List (Nat × Bool × AV)} : ∀ (ds : List DE) (vs : List Deferred) (E : Env) (h : List (Nat × HO)) (G : Gh) (w : World) (u : Option D) (mode : FrameMode),
    StRel E G ⟨s, h, ds⟩ { tmps := tmps, defers := vs } w fn.nt → modeOf G w u mode → leaveQ P C fn K u ds s h →
    LeavesInM (Fr none) 0 P F tmps (HEnd E K) vs mode w
  | ds, vs, E, h, G, w, u, mode, H, hu, hq => by
    match ds, vs, H.defers with
    | [], [], _ =>
      cases u with
      | none =>
        simp only [modeOf] at hu
        subst hu
        simp only [leaveQ] at hq
        split at hq
        · rename_i c v hrv
          obtain ⟨r, k1, k2⟩ := run_results H (l := fn.res) (F := F) h6 (by exact hrv) hq.1
          exact ⟨r, k1, G, h, H.wr, v, k2, hq.2⟩
        · exact hq.elim
      | some d =>
        obtain ⟨v, rfl, hv⟩ := hu
        exact ⟨G, h, H.wr, v, d, rfl, hv, hq⟩
    | .mark n :: ds, _ :: vs, .cons h1 h2 =>
      have hq' : look h n = some (.obj 0) ∧ leaveQ P C fn K u ds s (setH h n .dead) := by
        cases u <;> exact hq
      obtain ⟨q1, q2⟩ := hq'
      have hm : mode ≠ .run := by
        cases u with
        | none => simp only [modeOf] at hu; subst hu; simp
        | some d => obtain ⟨v, rfl, _⟩ := hu; simp
      cases h1 with
      | mark hg =>
        rename_i b
        obtain ⟨b', x1, x2⟩ := H.wr.obj n 0 q1
        have : b' = b := by rw [hg] at x1; injection x1 with x1; exact x1.symm
        subst this
        have htk := run_takeDeferred (P := P) (w := w) x2
        obtain ⟨u1, u2⟩ := H.wr.putOwn q1 hg (.deferred none) .dead (.inl rfl)
        rw [← look_setH'] at u2
        exact ⟨hm, .inl ⟨b', _, rfl, htk, leave_sound hC h6 ds vs E _ G _ u mode ⟨u2, H.sz, fun t e he => (by
          obtain ⟨v, q1, q2, q3⟩ := (H.sr t e he).mono u1
          exact ⟨v, q1, q2, q3⟩), RepDs.mono h2 u1⟩ (hu.mono u1) q2⟩⟩
    | .fn f as caps :: ds, _ :: vs, .cons h1 h2 =>
      have hq' : ∃ T, DCall P f T ∧ T { C := C, B := newName h } (as ++ caps) u h (fun u' h' => leaveQ P C fn K u' ds s h') := by
        cases u <;> exact hq
      obtain ⟨T, hT, hq'⟩ := hq'
      have hm : mode ≠ .run := by
        cases u with
        | none => simp only [modeOf] at hu; subst hu; simp
        | some d => obtain ⟨v, rfl, _⟩ := hu; simp
      cases h1 with
      | fn g1 g2 =>
        rename_i x y
        have hcall := hT.2 (E.at_ h G w) { C := C, B := newName h } G h w (as ++ caps) (x.toList ++ y.toList) u mode _ H.wr.to_at ⟨rfl, fun ro G h w all vals K _ _ hY => hY.elim, fun _ => rfl, hC⟩
          ⟨by simp [g1.1, g2.1], fun k c v hk hv => by
            by_cases hlt : k < as.length
            · rw [List.getElem?_append_left hlt] at hk
              rw [List.getElem?_append_left (by simpa [g1.1] using hlt)] at hv
              exact g1.2 k c v hk (by simpa using hv)
            · rw [List.getElem?_append_right (by omega)] at hk
              rw [List.getElem?_append_right (by simp [g1.1]; omega)] at hv
              simp only [Array.length_toList, g1.1] at hv
              exact g2.2 _ c v hk (by simpa using hv)⟩ hu hq'
        have hrun : (invoke (.fn (.func f) y) x).run P w = .ok (.enter f (x.toList ++ y.toList).toArray) w := by
          have e : x ++ y = (x.toList ++ y.toList).toArray := by apply Array.ext'; simp
          simp only [invoke]
          rw [e]
          exact run_callFunc hT.1 _ w
        refine ⟨hm, .inr ⟨fun hd => by simp [Fr, Fence.wide] at hd, _, _, f, _, rfl, hrun, fun _ _ => trivial, CallsDIn.mono hcall (fun e mode' w' hR => ?_)⟩⟩
        obtain ⟨G', h', u', k1, k2, k3⟩ := hR
        obtain ⟨m1, m2⟩ := H.wr.of_at k1
        have H3 : StRel E G' ⟨s, h', ds⟩ { tmps := tmps, defers := vs } w' fn.nt := ⟨m1, H.sz, fun t e he => (by
          obtain ⟨v, q1, q2, q3⟩ := (H.sr t e he).mono m2
          exact ⟨v, q1, q2, q3⟩), RepDs.mono h2 m2⟩
        cases e with
        | returned v => exact leave_sound hC h6 ds vs E h' G' w' u' _ H3 k3 k2
        | panicked ch => exact leave_sound hC h6 ds vs E h' G' w' u' _ H3 k3 k2
        | outgrown => exact k3.elim

theorem start_rel {P : Program} {E : Env} {G : Gh} {h : List (Nat × HO)} {w : World} {all : List AV} {vals : List Value} {nt : Nat} (H : WRel E G (look h) w) (hr : RepVs G w all vals) (hn : all.length ≤ nt) :
    StRel E G ⟨argA all 0, h, []⟩ { tmps := vals.toArray ++ Array.replicate (nt - vals.toArray.size) undef, defers := [] } w nt := by
  refine ⟨H, ?_, fun t e he => ?_, .nil⟩
  · simp [hr.1]; omega
  · obtain ⟨d, _, k2, rfl⟩ := argA_get he
    rw [Nat.sub_zero] at k2
    have hlt : t < vals.length := by
      rw [hr.1]
      rcases Nat.lt_or_ge t all.length with h' | h'
      · exact h'
      · rw [List.getElem?_eq_none h'] at k2; cases k2
    refine ⟨vals[t], ?_, fun _ => hr.2 t d _ k2 (List.getElem?_eq_getElem hlt), fun hf => by cases hf⟩
    simp only
    rw [Array.getElem?_append_left (by simpa using hlt)]
    simp [hlt]

/-- What is asked of a deferred function that does not recover. -/
def endD (res : List RV) (K : Option D → List (Nat × HO) → Prop) (u : Option D) : AE → St → Prop
  | .normal, σ | .ret, σ => σ.d = [] ∧ (match retV ⟨σ.s, σ.h, []⟩ res with | some (c, _) => c | none => False) ∧ K u σ.h
  | .pan d, σ => σ.d = [] ∧ u = none ∧ K (some d) σ.h
  | .exit _, _ => False
/-- What is asked of a deferred function that has recovered. -/
def endR (res : List RV) (K : Option D → List (Nat × HO) → Prop) (u : Option D) : AE → St → Prop
  | .normal, σ | .ret, σ => σ.d = [] ∧ (match retV ⟨σ.s, σ.h, []⟩ res with | some (c, _) => c | none => False) ∧ K none σ.h
  | .pan d, σ => σ.d = [] ∧ u = none ∧ K (some d) σ.h
  | .exit _, _ => False
def TD (P : Program) (fn : AF) (cx : Cx) (all : List AV) (u : Option D) (h : List (Nat × HO)) (K : Option D → List (Nat × HO) → Prop) : Prop :=
  all.length ≤ fn.nt ∧ vc P cx fn.body (endD fn.res K u) ⟨argA all 0, h, []⟩

theorem settle_mode {G : Gh} {w : World} {u : Option D} {m : FrameMode} (h : modeOf G w u m) : settle m = m := by
  cases u with
  | none => simp only [modeOf] at h; subst h; rfl
  | some d => obtain ⟨v, rfl, _⟩ := h; rfl

theorem rep_nil_defers {E : Env} {G : Gh} {σ : St} {a : Act} {w : World} {nt : Nat} (H : StRel E G σ a w nt) (h : σ.d = []) : a.defers = [] := by
  have := H.defers
  rw [h] at this
  generalize a.defers = x at this
  cases this; rfl

theorem dcall_of_vc {P : Program} {f : FuncId} {fn : AF} (hF : CmpF P f fn) : DCall P f (TD P fn) := by
  obtain ⟨F, c, h1, h2, h3, h4, h5, h6⟩ := hF.ex
  refine ⟨⟨F, h1, h2, by rw [h3]; rfl⟩, fun E cx G h w all vals u mode K H hok hr hu hT => ?_⟩
  obtain ⟨hn, hvc⟩ := hT
  have H' := start_rel (P := P) (nt := F.ntmps) H hr (by rw [h4]; exact hn)
  rw [h4] at H'
  have hwp := vc_sound (ro := none) h5 hok hvc H'
  rw [← h4] at hwp
  refine CallsDIn.mono (callsDIn_of_wp (F := Fr none) (n := 0) (P := P) (u := mode) (R := fun e w' => ∃ G' h' u', WRel E G' (look h') w' ∧ K u' h' ∧ match e with
      | .returned _ => modeOf G' w' u' (settle mode)
      | .panicked chain => modeOf G' w' u' (raised mode chain)
      | .outgrown => False) h1 h3 trivial (wpIn_mono hwp (fun e a' w' hq => ?_)) rfl) (fun e u' w' hR => ?_)
  · have hret : ∀ (G' : Gh) (σ : St), StRel E G' σ a' w' F.ntmps → σ.d = [] ∧ (match retV ⟨σ.s, σ.h, []⟩ fn.res with | some (c, _) => c | none => False) ∧ K u σ.h →
        a'.defers = [] ∧ ∃ v, (results F a'.tmps).run P w' = .ok v w' ∧ ∃ G' h' u', WRel E G' (look h') w' ∧ K u' h' ∧ modeOf G' w' u' (settle mode) := by
      intro G' σ H' hq
      obtain ⟨q1, q2, q3⟩ := hq
      split at q2
      · rename_i c v hrv
        have H2 : StRel E G' ⟨σ.s, σ.h, []⟩ a' w' F.ntmps := ⟨H'.wr, H'.sz, H'.sr, by have := H'.defers; rw [q1] at this; exact this⟩
        obtain ⟨r, k1, k2⟩ := run_results H2 (l := fn.res) (F := F) h6 hrv q2
        refine ⟨rep_nil_defers H' q1, r, k1, G', σ.h, u, H'.wr, q3, ?_⟩
        rw [settle_mode hu]
        exact hu.mono H'.wr.gb
      · exact q2.elim
    cases e with
    | normal => obtain ⟨G', σ, H', hq⟩ := hq; exact hret G' σ H' hq
    | ret => obtain ⟨G', σ, H', hq⟩ := hq; exact hret G' σ H' hq
    | panic chain =>
      obtain ⟨G', σ, v, d, H', rfl, hrep, q1, rfl, q3⟩ := hq
      simp only [modeOf] at hu
      subst hu
      exact ⟨rep_nil_defers H' q1, G', σ.h, some d, H'.wr, q3, v, rfl, hrep⟩
    | exit id => obtain ⟨G', σ, H', hq⟩ := hq; exact hq.elim
    | goto l => exact hq.elim
    | outgrown => exact hq.elim
  · obtain ⟨rfl, hR⟩ := hR
    exact hR

/-- A function that begins with a recovery. -/
structure AR where
  nt : Nat
  ta : Nat
  tb : Nat
  rest : AC
  res : List RV
structure CmpRF (P : Program) (f : FuncId) (g : AR) : Prop where
  ex : ∃ F id o0 o1 c args ts, P.funcs[f]? = some F ∧ (F.name == "runtime.NumGoroutine") = false ∧ F.body = some (.seq (.region id #[o0, o1] false) c) ∧ F.ntmps = g.nt ∧
    o0.op = .call { callee := .builtin .recover, args := args, argTypes := ts } ∧ o0.guard = none ∧ o0.dst = some g.ta ∧ (o1.op = .assign (.tmp g.ta) ∨ o1.op = .move (.tmp g.ta)) ∧ o1.guard = none ∧ o1.dst = some g.tb ∧ g.ta < g.nt ∧ g.tb < g.nt ∧ CmpC P g.nt c g.rest ∧ All2 (CmpR P) F.results.toList g.res
def uD (u : Option D) : D := u.getD (.lit .nilIface)
def TR (P : Program) (g : AR) (cx : Cx) (all : List AV) (u : Option D) (h : List (Nat × HO)) (K : Option D → List (Nat × HO) → Prop) : Prop :=
  all.length ≤ g.nt ∧ vc P cx g.rest (endR g.res K u) ⟨(g.tb, true, .d (uD u)) :: (g.ta, true, .d (uD u)) :: argA all 0, h, []⟩

theorem dcall_of_vcR {P : Program} {f : FuncId} {g : AR} (hF : CmpRF P f g) : DCall P f (TR P g) := by
  obtain ⟨F, id, o0, o1, c, args, ts, h1, h2, h3, h4, r1, r2, r3, r4, r5, r6, r7, r8, h5, h6⟩ := hF.ex
  obtain ⟨nt, ta, tb, rest, res⟩ := g
  simp only at h4 r3 r4 r6 r7 r8 h5 h6
  subst h4
  refine ⟨⟨F, h1, h2, by rw [h3]; rfl⟩, fun E cx G h w all vals u mode K H hok hr hu hT => ?_⟩
  obtain ⟨hn, hvc⟩ := hT
  have H' := start_rel (P := P) (nt := F.ntmps) H hr hn
  refine callsDIn_of_wpSIn (F := Fr none) (n := 0) h1 h3 trivial (fun c₀ cs hm => ?_)
  obtain ⟨a0, ha0⟩ : ∃ a0 : Act, a0 = { tmps := vals.toArray ++ Array.replicate (F.ntmps - vals.toArray.size) undef, defers := [] } := ⟨_, rfl⟩
  rw [← ha0] at H' ⊢
  -- what recover hands over
  obtain ⟨v, m', hrec, hv, hm'⟩ : ∃ v m', (recoverD (c₀ :: cs) = some (v, { c₀ with mode := m' } :: cs) ∨ (recoverD (c₀ :: cs) = none ∧ v = .nilIface ∧ c₀ = { c₀ with mode := m' })) ∧ RepA G w (.d (uD u)) v ∧
      (settle m' = .returning ∧ (u = none → m' = .returning)) := by
    cases u with
    | none =>
      simp only [modeOf] at hu
      subst hu
      exact ⟨.nilIface, .returning, .inr ⟨by simp [recoverD, hm], rfl, by rw [← hm]⟩, .d (.lit trivial), rfl, fun _ => rfl⟩
    | some d =>
      obtain ⟨v, rfl, hv⟩ := hu
      exact ⟨v, _, .inl (by simp [recoverD, hm]; rfl), .d (hv.mono H.gb.imm), rfl, fun h => by cases h⟩
  have H1 := H'.put (up := []) (dst := some ta) (g := true) (v := .d (uD u)) (val := v) (GLe.refl G w) H'.wr (fun d hd => by injection hd with hd; rw [← hd]; exact r7) (fun _ => hv) (fun hf => by cases hf)
  have H2 := H1.put (up := []) (dst := some tb) (g := true) (v := .d (uD u)) (val := v) (GLe.refl G w) H1.wr (fun d hd => by injection hd with hd; rw [← hd]; exact r8) (fun _ => hv) (fun hf => by cases hf)
  have hwp := vc_sound (ro := none) h5 hok (by exact hvc) H2
  have hrest : ∀ R : Ending → FrameMode → World → Prop, (∀ e a' w', Post E F.ntmps (endR res K u) e a' w' → bodyPostS P F c₀ cs R e a' ({ c₀ with mode := m' } :: cs) w') →
      Code.wpSIn (Fr none) 0 P (.seq (.region id #[o0, o1] false) c) (bodyPostS P F c₀ cs R) a0 (c₀ :: cs) w := by
    intro R hR
    refine wpSIn_seq (wpSIn_region ?_)
    have e0 : (execOp a0.eval o0).run P w = .ok .recover w := by
      simp [execOp, r1, resolve, invoke, builtin]
    have hgo : wpOpsSIn (Fr none) 0 P #[o0, o1] (Exit.thenS (c.wpSIn (Fr none) 0 P (bodyPostS P F c₀ cs R)) (bodyPostS P F c₀ cs R)) [1] (a0.put o0.dst v) ({ c₀ with mode := m' } :: cs) w := by
      have e1 : (execOp (a0.put o0.dst v).eval o1).run P w = .ok (.value v) w := by
        have hev : (a0.put o0.dst v).eval (.tmp ta) = v := by
          have hsz : a0.tmps.size = F.ntmps := H'.sz
          rw [r3]
          simp [Act.put, Act.eval, hsz, r7]
        rcases r4 with r4 | r4 <;> simp only [execOp, r4, Sem.run_pure, hev]
      simp only [wpOpsSIn, List.getElem?_toArray, List.getElem?_cons_succ, List.getElem?_cons_zero, Region.wanted, r5, e1, if_true]
      refine ⟨fun _ _ => trivial, ?_⟩
      refine wpSIn_of_wpIn rfl (wpIn_mono ?_ (fun e a' w' hq => hR e a' w' hq))
      rw [r3, r6]
      exact hwp
    simp only [List.size_toArray, List.length_cons, List.length_nil, show List.range (0 + 1 + 1) = [0, 1] from rfl]
    unfold wpOpsSIn
    simp only [List.getElem?_toArray, List.getElem?_cons_zero, Region.wanted, r2, if_true]
    refine ⟨fun _ _ => trivial, ?_⟩
    rw [e0]
    rcases hrec with hrec | ⟨hrec, rfl, hc⟩
    · simp only [hrec]; exact hgo
    · simp only [hrec]; rw [← hc] at hgo; exact hgo
  refine hrest _ (fun e a' w' hq => ?_)
  have hret : ∀ (G' : Gh) (σ : St), StRel E G' σ a' w' F.ntmps → σ.d = [] ∧ (match retV ⟨σ.s, σ.h, []⟩ res with | some (c, _) => c | none => False) ∧ K none σ.h →
      a'.defers = [] ∧ ∃ u', ({ c₀ with mode := m' } :: cs : List Frame) = { c₀ with mode := u' } :: cs ∧ ∃ v, (results F a'.tmps).run P w' = .ok v w' ∧ ∃ G' h' u'', WRel E G' (look h') w' ∧ K u'' h' ∧ modeOf G' w' u'' (settle u') := by
    intro G' σ H' hq
    obtain ⟨q1, q2, q3⟩ := hq
    split at q2
    · rename_i c v hrv
      have H2 : StRel E G' ⟨σ.s, σ.h, []⟩ a' w' F.ntmps := ⟨H'.wr, H'.sz, H'.sr, by have := H'.defers; rw [q1] at this; exact this⟩
      obtain ⟨r, k1, k2⟩ := run_results H2 (l := res) (F := F) h6 hrv q2
      exact ⟨rep_nil_defers H' q1, m', rfl, r, k1, G', σ.h, none, H'.wr, q3, hm'.1⟩
    · exact q2.elim
  cases e with
  | normal => obtain ⟨G', σ, H', hq⟩ := hq; exact hret G' σ H' hq
  | ret => obtain ⟨G', σ, H', hq⟩ := hq; exact hret G' σ H' hq
  | panic chain =>
    obtain ⟨G', σ, v, d, H', rfl, hrep, q1, hu0, q3⟩ := hq
    refine ⟨rep_nil_defers H' q1, m', rfl, G', σ.h, some d, H'.wr, q3, ?_⟩
    rw [hm'.2 hu0]
    exact ⟨v, rfl, hrep⟩
  | exit id => obtain ⟨G', σ, H', hq⟩ := hq; exact hq.elim
  | goto l => exact hq.elim
  | outgrown => exact hq.elim

theorem hcall_of_vc {P : Program} {f : FuncId} {fn : AF} (hF : CmpF P f fn) : HCall P f (TF P fn) := by
  obtain ⟨F, c, h1, h2, h3, h4, h5, h6⟩ := hF.ex
  refine ⟨⟨F, h1, h2, by rw [h3]; rfl⟩, fun E cx G h w all vals K H hok hr hT => ?_⟩
  obtain ⟨hn, hvc⟩ := hT
  have H' := start_rel (P := P) (nt := F.ntmps) H hr (by rw [h4]; exact hn)
  rw [h4] at H'
  have hwp := vc_sound (ro := none) h5 hok hvc H'
  rw [← h4] at hwp
  refine (callsIn_wide (n := 0)).1 ((callsIn_of_wp_marks (F := Fr none) (n := 0) (P := P) (R := HEnd E K) h1 h3 trivial (wpIn_mono hwp (fun e a' w' hq => ?_)) rfl : CallsIn (Fr none) 0 P f vals.toArray w _))
  cases e with
  | normal => obtain ⟨G', σ, H', hq⟩ := hq; rw [h4] at H'; exact leave_sound hok.c h6 σ.d a'.defers E σ.h G' w' none .returning H' rfl hq
  | ret => obtain ⟨G', σ, H', hq⟩ := hq; rw [h4] at H'; exact leave_sound hok.c h6 σ.d a'.defers E σ.h G' w' none .returning H' rfl hq
  | panic chain =>
    obtain ⟨G', σ, v, d, H', rfl, hrep, hq⟩ := hq
    rw [h4] at H'
    exact leave_sound hok.c h6 σ.d a'.defers E σ.h G' w' (some d) _ H' ⟨v, rfl, hrep⟩ hq
  | exit id => obtain ⟨G', σ, H', hq⟩ := hq; exact hq.elim
  | goto l => exact hq.elim
  | outgrown => exact hq.elim

/-- The result of a call on data. -/
def retO (out : Out) : HOut → List (Nat × HO) → Prop
  | .ret v, _ => match out with
    | .ret d => leA noRen noNew noOk 3 v (.d d)
    | .pan _ => False
  | .pan x, _ => match out with
    | .pan d => x = d
    | .ret _ => False
def vcFun (P : Program) (C : FuncId → List D → Out → Prop) (fn : AF) (args : List D) (out : Out) : Prop := vc P { C := C } fn.body (endH P C fn (retO out)) ⟨argA (args.map .d) 0, [], []⟩

theorem pcall_of_hcall {P : Program} {f : FuncId} {T : Cx → List AV → List (Nat × HO) → (HOut → List (Nat × HO) → Prop) → Prop} (hT : HCall P f T) {args : List D} {out : Out} {C : FuncId → List D → Out → Prop} (hC : ∀ f ds out, C f ds out → PCall P f ds out) (hv : (∀ d ∈ args, Real d) → T { C := C } (args.map .d) [] (retO out)) : PCall P f args out := by
  refine ⟨hT.1, fun I w vals hI hr => ?_⟩
  have hreal : ∀ d ∈ args, Real d := fun d hd => by
    obtain ⟨k, hk⟩ := List.getElem?_of_mem hd
    have hlt : k < vals.size := by
      rw [hr.1]
      rcases Nat.lt_or_ge k args.length with h' | h'
      · exact h'
      · rw [List.getElem?_eq_none h'] at hk; cases hk
    exact ⟨_, _, _, hr.2 k d _ hk (Array.getElem?_eq_getElem hlt)⟩
  have hv := hv hreal
  let G : Gh := { I := I, box := fun _ => none, row := fun _ => none }
  let E : Env := { w0 := w, I0 := I, K := fun b => b < w.heap.size, B := 0, Gb := G, wb := w }
  have H : WRel E G (look []) w := ⟨rfl, rfl, rfl, Nat.le_refl _, fun b hb => ⟨hb, rfl⟩, fun a ha => ⟨ha, rfl⟩, fun a ha => .inl ha, hI, fun n _ => ⟨rfl, rfl⟩, fun n ag cs hn => by simp [look] at hn, fun n b hb => by simp [G] at hb, fun n m b hb => by simp [G] at hb, fun r hr => by simp [look] at hr, fun r r' A n cap sz A' n' cap' sz' hr => by simp [look] at hr, fun n s hn => by simp [look] at hn, GLe.refl G w, fun n b hb => by simp [E, G] at hb, fun n b hb => by simp [E, G] at hb⟩
  have hcall := hT.2 E { C := C } G [] w (args.map .d) vals.toList (retO out) H ⟨rfl, fun ro G h w all vals K _ _ hY => hY.elim, fun _ => rfl, hC⟩ ⟨by simp [hr.1], fun k c u hk hu => by
    simp only [List.getElem?_map, Option.map_eq_some_iff] at hk
    obtain ⟨d, hd, rfl⟩ := hk
    exact .d (hr.2 k d u hd (by simpa using hu))⟩ hv
  rw [show vals.toList.toArray = vals by simp] at hcall
  refine Calls.mono hcall fun e w' hR => ?_
  obtain ⟨G', h', H', hR⟩ := hR
  have hgrow : Grow w w' := ⟨H'.os, H'.tape, H'.output, H'.size, fun b hb => (H'.kept b hb).2⟩
  cases e with
  | returned v =>
    obtain ⟨av, k1, k2⟩ := hR
    cases out with
    | ret d => exact ⟨G'.I, v, fun a ha => (H'.i0 a ha).1, H'.inew, H'.icell, hgrow, rfl, (leA_rep 3 _ _ k2 k1).of_d⟩
    | pan d => exact k2.elim
  | panicked ch =>
    obtain ⟨v, d, rfl, k1, k2⟩ := hR
    cases out with
    | ret d => exact k2.elim
    | pan d' =>
      have k3 : d = d' := k2
      exact ⟨G'.I, v, fun a ha => (H'.i0 a ha).1, H'.inew, H'.icell, hgrow, rfl, k3 ▸ k1⟩
  | outgrown => exact hR.elim

theorem pcall_of_vc {P : Program} {f : FuncId} {fn : AF} {args : List D} {out : Out} {C : FuncId → List D → Out → Prop} (hC : ∀ f ds out, C f ds out → PCall P f ds out) (hF : CmpF P f fn) (hn : args.length ≤ fn.nt) (hv : (∀ d ∈ args, Real d) → vcFun P C fn args out) : PCall P f args out :=
  pcall_of_hcall (hcall_of_vc hF) hC fun hr => ⟨by simpa using hn, hv hr⟩

end Go.Proofs.Ytbfjmachkbhfnaa.AL
end

section
namespace Go.Proofs.Ytbfjmachkbhfnaa.AL
open Go

/-- A closed datum and a closed value. -/
def matchV : D → Value → Bool
  | .lit (.int k n), .int k' n' => decide (k = k') && (decide (n = n') && (decide (k.min ≤ n) && decide (n ≤ k.max)))
  | .lit (.bool b), .bool b' => b == b'
  | .lit (.string s), .string s' => decide (s = s') && decide (s.size ≤ 9223372036854775807)
  | .lit (.pointer none), .pointer none => true
  | .lit .nilFunc, .nilFunc => true
  | .lit .nilIface, .nilIface => true
  | .lit (.map none), .map none => true
  | .nil _, .slice none 0 0 => true
  | _, _ => false
theorem matchV_rep {d : D} {v : Value} (h : matchV d v = true) : (∀ I w, Rep I w d v) ∧ d.one = true := by
  unfold matchV at h
  split at h
  · simp only [Bool.and_eq_true, decide_eq_true_eq] at h
    obtain ⟨rfl, rfl, h1, h2⟩ := h
    exact ⟨fun _ _ => .lit ⟨h1, h2⟩, rfl⟩
  · obtain rfl := eq_of_beq h
    exact ⟨fun _ _ => .lit trivial, rfl⟩
  · simp only [Bool.and_eq_true, decide_eq_true_eq] at h
    obtain ⟨rfl, h1⟩ := h
    exact ⟨fun _ _ => .lit h1, rfl⟩
  · exact ⟨fun _ _ => .lit trivial, rfl⟩
  · exact ⟨fun _ _ => .lit trivial, rfl⟩
  · exact ⟨fun _ _ => .lit trivial, rfl⟩
  · exact ⟨fun _ _ => .lit trivial, rfl⟩
  · exact ⟨fun _ _ => .nil, rfl⟩
  · cases h

def chkOpd : Operand → Opd → Bool
  | .tmp t, .tmp t' => t == t'
  | .const v, .dat d => matchV d v
  | .func f, .dat (.fn (.func f') [] []) => f == f'
  | _, _ => false
theorem chkOpd_co {x : Operand} {x' : Opd} (h : chkOpd x x' = true) : CO x x' := by
  unfold chkOpd at h
  split at h
  · obtain rfl := eq_of_beq h
    exact .tmp _
  · exact .dat _ _ (fun a I w => (matchV_rep h).1 I w)
  · obtain rfl := eq_of_beq h
    exact .dat _ _ (fun a I w => .fn rfl rfl (fun k c v hk => by simp at hk) (fun k c v hk => by simp at hk))
  · cases h

def chkAll {α β : Type} (f : α → β → Bool) : List α → List β → Bool
  | [], [] => true
  | x :: l, y :: m => f x y && chkAll f l m
  | _, _ => false
theorem chkAll_all2 {α β : Type} {f : α → β → Bool} {R : α → β → Prop} (hR : ∀ x y, f x y = true → R x y) : ∀ {l : List α} {m : List β}, chkAll f l m = true → All2 R l m
  | [], [], _ => .nil
  | x :: l, y :: m, h => by
    simp only [chkAll, Bool.and_eq_true] at h
    exact .cons (hR x y h.1) (chkAll_all2 hR h.2)
  | [], _ :: _, h => by simp [chkAll] at h
  | _ :: _, [], h => by simp [chkAll] at h

def chkOpt : Option Operand → Option Opd → Bool
  | none, none => true
  | some x, some y => chkOpd x y
  | _, _ => false
theorem chkOpt_co {x : Option Operand} {y : Option Opd} (h : chkOpt x y = true) : COopt x y := by
  unfold chkOpt at h
  split at h
  · exact .none
  · exact .some (chkOpd_co h)
  · cases h

def chkZero (z : List D) (v : Value) : Bool := chkAll matchV z v.cells.toList
theorem chkZero_zero {z : List D} {v : Value} (h : chkZero z v = true) : Zero z v.cells := by
  have h2 := chkAll_all2 (R := fun d u => matchV d u = true) (fun _ _ h => h) h
  have hl := all2_len h2
  refine ⟨fun I w => ⟨by simpa using hl.symm, fun k c u hk hu => ?_⟩, fun c hc => ?_⟩
  · have hu' : v.cells.toList[k]? = some u := by simpa using hu
    obtain ⟨x, hx, hm⟩ := all2_get h2 hu'
    rw [hk] at hx; injection hx with hx; subst hx
    exact (matchV_rep hm).1 I w
  · obtain ⟨k, hk⟩ := List.getElem?_of_mem hc
    have hlt : k < v.cells.toList.length := by
      rw [← hl]
      rcases Nat.lt_or_ge k z.length with h' | h'
      · exact h'
      · rw [List.getElem?_eq_none h'] at hk; cases hk
    obtain ⟨x, hx, hm⟩ := all2_get h2 (List.getElem?_eq_getElem hlt)
    rw [hk] at hx; injection hx with hx; subst hx
    exact (matchV_rep hm).2

def builtinOf (o : Op) : Option (Builtin × List Operand × List TypeId) :=
  match o with
  | .call c => match c.callee with
    | .builtin b => some (b, c.args.toList, c.argTypes.toList)
    | _ => none
  | _ => none
theorem builtinOf_spec {o : Op} {b : Builtin} {xs : List Operand} {ts : List TypeId} (h : builtinOf o = some (b, xs, ts)) : o = .call { callee := .builtin b, args := xs.toArray, argTypes := ts.toArray } := by
  unfold builtinOf at h
  split at h
  · rename_i c
    split at h
    · rename_i b' hb
      simp only [Option.some.injEq, Prod.mk.injEq] at h
      obtain ⟨rfl, rfl, rfl⟩ := h
      cases c; simp at hb; subst hb; rfl
    · cases h
  · cases h

section
variable (P : Program)
def szIs (t : TypeId) (n : Nat) : Bool := match P.info? t with | some i => i.size == n | none => false
def rowIs (t : TypeId) (b : Bool) : Bool := match P.underlying t with | some d => d.isRow == b | none => false
def elemOf (t : TypeId) : Option TypeId := match P.underlying t with | some (.slice e) => some e | _ => none
def arrOf (t : TypeId) : Option (Nat × TypeId) := match P.underlying t with | some (.array n e) => some (n, e) | _ => none
def fldOf (t : TypeId) (f : Nat) : Option Field := match P.underlying t with | some (.struct fs) => fs[f]? | _ => none
def zeroOf (t : TypeId) : Option Value := match P.info? t with | some i => i.zero | none => none

def isStr (t : TypeId) : Bool := match P.underlying t with | some .string => true | _ => false
def isInt (t : TypeId) (k : IntKind) : Bool := match P.underlying t with | some (.int k') => decide (k = k') | _ => false
def noIfc (t : TypeId) : Bool := match P.underlying t with | some (.interface _) => false | some _ => true | none => false

/-- Where the parts of a struct or an array lie. -/
def placeOf (t : TypeId) (i : Nat) : Option (Nat × Nat) :=
  match P.underlying t with
  | some (.array _ e) => (P.info? e).map fun ie => (i * ie.size, ie.size)
  | some (.struct fields) => match fields.toList.mapM (fun f => (P.info? f.type).map fun i => (f.offset, i.size)) with
    | some places => places.toArray[i]?
    | none => none
  | _ => none
def isBuild (t : TypeId) : Bool :=
  match P.underlying t with
  | some (.array _ e) => (P.info? e).isSome
  | some (.struct fields) => (fields.toList.mapM (fun f => (P.info? f.type).map fun i => (f.offset, i.size))).isSome
  | _ => false

def chkX (o : Op) : Ext → List Opd → Bool
  | .eqrow neg ks, [x', y'] => match o with
    | .binOp op t x y _ => decide (op = if neg then .neq else .eql) && (chkOpd x x' && (chkOpd y y' && (decide (kindsOf P 20 t = some ks) && (P.keyTypeAt 20 t && (!P.eqGuardType P.depth t && (P.cellsOf t == ks.length &&
        (match P.underlying t with | some (.array _ _) | some (.struct _) => true | _ => false)))))))
    | _ => false
  | .sliceA n sz, [x'] => match o with
    | .slice t x none none none => match arrOf P t with
      | some (n', e) => n' == n && (chkOpd x x' && (szIs P e sz && decide (n ≤ 9223372036854775807)))
      | none => false
    | _ => false
  | .bytesStr, [x'] => match o with
    | .convert s t x => match elemOf P s with
      | some e => isInt P e .u8 && (isStr P t && chkOpd x x')
      | none => false
    | _ => false
  | .eqBool neg, [x', y'] => match o with
    | .binOp op t x y _ => decide (op = if neg then .neq else .eql) && (chkOpd x x' && (chkOpd y y' && (match P.underlying t with | some .bool => true | _ => false)))
    | _ => false
  | .isNil neg, [x'] => match o with
    | .binOp op t x (.const .nilIface) _ => decide (op = if neg then .neq else .eql) && (chkOpd x x' && (match P.underlying t with | some (.interface _) => true | _ => false))
    | _ => false
  | .strIdx, [x', y'] => match o with
    | .index t x y => isStr P t && (chkOpd x x' && chkOpd y y')
    | _ => false
  | .shift left, [x', y'] => match o with
    | .binOp op _ x y _ => decide (op = if left then .shl else .shr) && (chkOpd x x' && chkOpd y y')
    | _ => false
  | .uneg, [x'] => match o with
    | .unOp .neg _ x => chkOpd x x'
    | _ => false
  | .ucompl, [x'] => match o with
    | .unOp .xor _ x => chkOpd x x'
    | _ => false
  | .tassert t z, [x'] => match o with
    | .typeAssert x _ t' true => t' == t && (noIfc P t && (chkOpd x x' && (match zeroOf P t with
      | some v => match z, v with
        | .agg zs, .agg _ => chkZero zs v
        | z, v => matchV z v
      | none => false)))
    | _ => false
  | .nilChk, [x'] => match o with
    | .nilCheck x => chkOpd x x'
    | _ => false
  | _, _ => false

def chkOp (o : Op) : AOp → Bool
  | .mov x' => match o with
    | .move x | .assign x => chkOpd x x'
    | _ => false
  | .pick c' a' b' => match o with
    | .pick c a b => chkOpd c c' && (chkOpd a a' && chkOpd b b')
    | _ => false
  | .alloc _ z => match o with
    | .alloc t => match zeroOf P t with
      | some v => chkZero z v
      | none => false
    | _ => false
  | .box _ x' => match o with
    | .box _ x => chkOpd x x'
    | _ => false
  | .build z ps => match o with
    | .build t parts => match zeroOf P t with
      | some v => chkZero z v && (isBuild P t && chkAll (fun (p : Nat × Operand) (q : Nat × Nat × Opd) => placeOf P t p.1 == some (q.1, q.2.1) && chkOpd p.2 q.2.2) parts.toList ps)
      | none => false
    | _ => false
  | .mkslice sz ps => match o with
    | .buildSlice t len parts => match elemOf P t with
      | some e => match zeroOf P e with
        | some v => szIs P e sz && (decide (0 < sz) && (v.cells.size == sz && (len == ps.length && (parts.toList.map (·.1) == List.range ps.length && chkAll chkOpd (parts.toList.map (·.2)) ps))))
        | none => false
      | none => false
    | _ => false
  | .load sz ag x' => match o with
    | .load t x => chkOpd x x' && (szIs P t sz && rowIs P t ag)
    | _ => false
  | .store sz x' y' => match o with
    | .store t x y => chkOpd x x' && (chkOpd y y' && szIs P t sz)
    | _ => false
  | .arith op x' y' => match o with
    | .binOp op' _ x y _ => decide (op = op') && (chkOpd x x' && (chkOpd y y' && (decide (op ≠ .shl) && decide (op ≠ .shr))))
    | _ => false
  | .not x' => match o with
    | .unOp .not _ x => chkOpd x x'
    | _ => false
  | .field off fsz _ x' => match o with
    | .fieldAddr s x f => match fldOf P s f with
      | some fd => chkOpd x x' && (fd.offset == off && (szIs P fd.type fsz && decide (fsz ≠ 0)))
      | none => false
    | _ => false
  | .fieldv off fsz ag x' => match o with
    | .field s x f => match fldOf P s f with
      | some fd => chkOpd x x' && (fd.offset == off && (szIs P fd.type fsz && rowIs P fd.type ag))
      | none => false
    | _ => false
  | .index sz x' j' => match o with
    | .indexAddr t x j => match elemOf P t with
      | some e => chkOpd x x' && (chkOpd j j' && szIs P e sz)
      | none => false
    | _ => false
  | .indexA sz _ n x' j' => match o with
    | .indexAddr t x j => match arrOf P t with
      | some (n', e) => chkOpd x x' && (chkOpd j j' && (n' == n && szIs P e sz))
      | none => false
    | _ => false
  | .slice sz x' lo' hi' => match o with
    | .slice t x lo hi none => match elemOf P t with
      | some e => chkOpd x x' && (chkOpt lo lo' && (chkOpt hi hi' && szIs P e sz))
      | none => false
    | _ => false
  | .sliceS x' lo' hi' => match o with
    | .slice t x lo hi none => isStr P t && (chkOpd x x' && (chkOpt lo lo' && chkOpt hi hi'))
    | _ => false
  | .slice3 sz x' lo' hi' mx' => match o with
    | .slice t x lo (some hi) (some mx) => match elemOf P t with
      | some e => chkOpd x x' && (chkOpt lo lo' && (chkOpd hi hi' && (chkOpd mx mx' && szIs P e sz)))
      | none => false
    | _ => false
  | .len x' => match o with
    | o => match builtinOf o with
      | some (.len, [x], [t]) => (elemOf P t).isSome && chkOpd x x'
      | _ => false
  | .lenS x' => match o with
    | o => match builtinOf o with
      | some (.len, [x], [t]) => isStr P t && chkOpd x x'
      | _ => false
  | .append sz bytes x' y' => match o with
    | o => match builtinOf o with
      | some (.append, [x, y], [t, t']) => match elemOf P t with
        | some e => match P.info? e with
          | some i => match i.zero with
            | some v => t == t' && (chkOpd x x' && (chkOpd y y' && (i.size == sz && (i.bytes == bytes && (v.cells.size == sz && (v.cells.all (·.oneCell') && decide (0 < sz)))))))
            | none => false
          | none => false
        | none => false
      | _ => false
  | .minmax mx x' y' => match o with
    | o => match builtinOf o with
      | some (.max, [x, y], _) => mx && (chkOpd x x' && chkOpd y y')
      | some (.min, [x, y], _) => !mx && (chkOpd x x' && chkOpd y y')
      | _ => false
  | .func f a b => match o with
    | .makeFunc f' a' b' => decide (f = f') && (chkAll chkOpd a'.toList a && chkAll chkOpd b'.toList b)
    | _ => false
  | .extract x' i => match o with
    | .extract x j => j == i && chkOpd x x'
    | _ => false
  | .conv k x' => match o with
    | .convert s t x => (P.underlying s).isSome && (isInt P t k && chkOpd x x')
    | _ => false
  | .ifc t' x' => match o with
    | .makeInterface t x => t == t' && (noIfc P t && chkOpd x x')
    | _ => false
  | .ext k xs => chkX P o k xs
end

section
variable {P : Program}
theorem szIs_spec {t : TypeId} {n : Nat} (h : szIs P t n = true) : ∃ i, P.info? t = some i ∧ i.size = n := by
  unfold szIs at h; split at h
  · exact ⟨_, by assumption, by simpa using h⟩
  · cases h
theorem rowIs_spec {t : TypeId} {b : Bool} (h : rowIs P t b = true) : ∃ d, P.underlying t = some d ∧ d.isRow = b := by
  unfold rowIs at h; split at h
  · exact ⟨_, by assumption, by simpa using h⟩
  · cases h
theorem elemOf_spec {t e : TypeId} (h : elemOf P t = some e) : P.underlying t = some (.slice e) := by
  unfold elemOf at h; split at h
  · injection h with h; subst h; assumption
  · cases h
theorem arrOf_spec {t e : TypeId} {n : Nat} (h : arrOf P t = some (n, e)) : P.underlying t = some (.array n e) := by
  unfold arrOf at h; split at h
  · injection h with h; injection h with h1 h2; subst h1; subst h2; assumption
  · cases h
theorem fldOf_spec {t : TypeId} {f : Nat} {fd : Field} (h : fldOf P t f = some fd) : ∃ fs, P.underlying t = some (.struct fs) ∧ fs[f]? = some fd := by
  unfold fldOf at h; split at h
  · exact ⟨_, by assumption, h⟩
  · cases h
theorem zeroOf_spec {t : TypeId} {v : Value} (h : zeroOf P t = some v) : ∃ i, P.info? t = some i ∧ i.zero = some v := by
  unfold zeroOf at h; split at h
  · exact ⟨_, by assumption, h⟩
  · cases h
theorem built_place {t : TypeId} {i : TypeInfo} {v : Value} (hi : P.info? t = some i) (hz : i.zero = some v) (hb : isBuild P t = true) : ∀ l, P.built t l = Instr.fill (placeOf P t) v.cells l := by
  intro l
  unfold isBuild at hb
  unfold Program.built
  cases hu : P.underlying t with
  | none => rw [hu] at hb; cases hb
  | some d =>
    cases d <;> simp only [hu] at hb <;> try (cases hb; done)
    · rename_i n e
      cases he : P.info? e with
      | none => rw [he] at hb; cases hb
      | some ie =>
        have : placeOf P t = fun i => some (i * ie.size, ie.size) := by funext i; simp [placeOf, hu, he]
        simp only [hi, hz, he, this]
    · rename_i fs
      cases hm : fs.toList.mapM (fun f => (P.info? f.type).map fun i => (f.offset, i.size)) with
      | none => rw [hm] at hb; cases hb
      | some places =>
        have : placeOf P t = fun i => places.toArray[i]? := by funext i; simp only [placeOf, hu, hm]
        simp only [hi, hz, hm, this]

theorem isStr_spec {t : TypeId} (h : isStr P t = true) : P.underlying t = some .string := by
  unfold isStr at h; split at h
  · assumption
  · cases h
theorem isInt_spec {t : TypeId} {k : IntKind} (h : isInt P t k = true) : P.underlying t = some (.int k) := by
  unfold isInt at h; split at h
  · have := of_decide_eq_true h; subst this; assumption
  · cases h
theorem noIfc_spec {t : TypeId} (h : noIfc P t = true) : ∃ d, P.underlying t = some d ∧ ∀ ms, d ≠ .interface ms := by
  unfold noIfc at h; split at h
  · cases h
  · rename_i d hne hd
    exact ⟨_, by assumption, fun ms e => by subst e; simp_all⟩
  · cases h

theorem chkX_cmp {o : Oper} {k : Ext} {xs : List Opd} (h : chkX P o.op k xs = true) : CmpX P o k xs := by
  unfold chkX at h
  split at h
  · split at h
    · simp only [Bool.and_eq_true, decide_eq_true_eq, Bool.not_eq_true', beq_iff_eq] at h
      obtain ⟨rfl, h1, h2, h3, h4, h5, h6, h7⟩ := h
      exact .eqrow (by assumption) (chkOpd_co h1) (chkOpd_co h2) h3 h4 h5 h6 h7
    · cases h
  · split at h
    · rename_i hop
      split at h
      · rename_i ha
        simp only [Bool.and_eq_true, decide_eq_true_eq, beq_iff_eq] at h
        obtain ⟨rfl, h1, h2, h3⟩ := h
        obtain ⟨i, g1, g2⟩ := szIs_spec h2
        exact .sliceA hop (chkOpd_co h1) (arrOf_spec ha) g1 g2 h3
      · cases h
    · cases h
  · split at h
    · rename_i hop
      split at h
      · rename_i ha
        simp only [Bool.and_eq_true] at h
        exact .bytesStr hop (chkOpd_co h.2.2) (elemOf_spec ha) (isInt_spec h.1) (isStr_spec h.2.1)
      · cases h
    · cases h
  · split at h
    · simp only [Bool.and_eq_true, decide_eq_true_eq] at h
      obtain ⟨rfl, h1, h2, h3⟩ := h
      split at h3
      · exact .eqBool (by assumption) (chkOpd_co h1) (chkOpd_co h2) (by assumption)
      · cases h3
    · cases h
  · split at h
    · simp only [Bool.and_eq_true, decide_eq_true_eq] at h
      obtain ⟨rfl, h1, h3⟩ := h
      split at h3
      · exact .isNil (by assumption) (chkOpd_co h1) (by assumption)
      · cases h3
    · cases h
  · split at h
    · simp only [Bool.and_eq_true] at h
      exact .strIdx (by assumption) (chkOpd_co h.2.1) (chkOpd_co h.2.2) (isStr_spec h.1)
    · cases h
  · split at h
    · simp only [Bool.and_eq_true, decide_eq_true_eq] at h
      obtain ⟨rfl, h1, h2⟩ := h
      exact .shift (by assumption) (chkOpd_co h1) (chkOpd_co h2)
    · cases h
  · split at h
    · exact .uneg (by assumption) (chkOpd_co h)
    · cases h
  · split at h
    · exact .ucompl (by assumption) (chkOpd_co h)
    · cases h
  · split at h
    · simp only [Bool.and_eq_true, beq_iff_eq] at h
      obtain ⟨rfl, h1, h2, h3⟩ := h
      obtain ⟨desc, g1, g2⟩ := noIfc_spec h1
      split at h3
      · rename_i v hz
        obtain ⟨i, e1, e2⟩ := zeroOf_spec hz
        refine .tassert (by assumption) (chkOpd_co h2) g1 g2 e1 e2 (fun I w => ?_)
        split at h3
        · have hz := chkZero_zero h3
          exact .agg (hz.1 I w).1 hz.2 (hz.1 I w).2
        · exact (matchV_rep h3).1 I w
      · cases h3
    · cases h
  · split at h
    · exact .nilChk (by assumption) (chkOpd_co h)
    · cases h
  · cases h

theorem chkOp_cmp {o : Oper} {x : AOp} (h : chkOp P o.op x = true) : Cmp P o x := by
  cases x with
  | mov x' =>
    simp only [chkOp] at h
    split at h
    · exact .mov (.inl (by assumption)) (chkOpd_co h)
    · exact .mov (.inr (by assumption)) (chkOpd_co h)
    · cases h
  | pick c a b =>
    simp only [chkOp] at h
    split at h
    · simp only [Bool.and_eq_true] at h
      exact .pick (by assumption) (chkOpd_co h.1) (chkOpd_co h.2.1) (chkOpd_co h.2.2)
    · cases h
  | alloc ag z =>
    simp only [chkOp] at h
    split at h
    · rename_i hop
      split at h
      · rename_i hz
        obtain ⟨i, h1, h2⟩ := zeroOf_spec hz
        exact .alloc hop h1 h2 (chkZero_zero h)
      · cases h
    · cases h
  | box ag x' =>
    simp only [chkOp] at h
    split at h
    · exact .box (by assumption) (chkOpd_co h)
    · cases h
  | build z ps =>
    simp only [chkOp] at h
    split at h
    · rename_i hop
      split at h
      · rename_i hz
        simp only [Bool.and_eq_true] at h
        obtain ⟨i, h1, h2⟩ := zeroOf_spec hz
        exact .build hop h1 h2 (chkZero_zero h.1) _ (built_place h1 h2 h.2.1) (chkAll_all2 (fun p q hpq => by
          simp only [Bool.and_eq_true, beq_iff_eq] at hpq
          exact ⟨hpq.1, chkOpd_co hpq.2⟩) h.2.2)
      · cases h
    · cases h
  | mkslice sz ps =>
    simp only [chkOp] at h
    split at h
    · rename_i t len parts hop
      split at h
      · rename_i he
        split at h
        · rename_i hz
          simp only [Bool.and_eq_true, decide_eq_true_eq, beq_iff_eq] at h
          obtain ⟨q1, q2, q3, q4, q5, q6⟩ := h
          obtain ⟨i, h1, h2⟩ := zeroOf_spec hz
          obtain ⟨i', h3, h4⟩ := szIs_spec q1
          rw [h1] at h3; injection h3 with h3; subst h3
          refine .mkslice hop (elemOf_spec he) h1 h4 q2 h2 q3 q4 ⟨parts.toList.map (·.2), ?_, chkAll_all2 (fun _ _ h => chkOpd_co h) q6⟩
          have hlen : parts.toList.length = ps.length := by have := congrArg List.length q5; simpa using this
          apply List.ext_getElem?
          intro k
          by_cases hk : k < parts.toList.length
          · have hr : (parts.toList.map (·.1))[k]? = (List.range ps.length)[k]? := by rw [q5]
            rw [List.getElem?_range (by omega), List.getElem?_map, List.getElem?_eq_getElem hk] at hr
            simp only [Option.map_some, Option.some.injEq] at hr
            rw [List.getElem?_eq_getElem hk, List.getElem?_map, List.getElem?_zipIdx, List.getElem?_map, List.getElem?_eq_getElem hk]
            simp only [Option.map_some, Nat.zero_add]
            generalize parts.toList[k] = p at hr ⊢
            obtain ⟨p1, p2⟩ := p
            simp only at hr ⊢
            rw [hr]
          · rw [List.getElem?_eq_none (by omega), List.getElem?_eq_none (by simp; simpa using Nat.le_of_not_lt hk)]
        · cases h
      · cases h
    · cases h
  | load sz ag x' =>
    simp only [chkOp] at h
    split at h
    · simp only [Bool.and_eq_true] at h
      obtain ⟨i, h1, h2⟩ := szIs_spec h.2.1
      obtain ⟨d, h3, h4⟩ := rowIs_spec h.2.2
      exact .load (by assumption) (chkOpd_co h.1) h1 h2 h3 h4
    · cases h
  | store sz x' y' =>
    simp only [chkOp] at h
    split at h
    · simp only [Bool.and_eq_true] at h
      obtain ⟨i, h1, h2⟩ := szIs_spec h.2.2
      exact .store (by assumption) (chkOpd_co h.1) (chkOpd_co h.2.1) h1 h2
    · cases h
  | arith op x' y' =>
    simp only [chkOp] at h
    split at h
    · simp only [Bool.and_eq_true, decide_eq_true_eq] at h
      obtain ⟨rfl, h1, h2, h3, h4⟩ := h
      exact .arith (by assumption) (chkOpd_co h1) (chkOpd_co h2) ⟨h3, h4⟩
    · cases h
  | not x' =>
    simp only [chkOp] at h
    split at h
    · exact .not (by assumption) (chkOpd_co h)
    · cases h
  | field off fsz ag x' =>
    simp only [chkOp] at h
    split at h
    · rename_i hop
      split at h
      · rename_i hf
        simp only [Bool.and_eq_true, decide_eq_true_eq, beq_iff_eq] at h
        obtain ⟨h1, rfl, h2, h3⟩ := h
        obtain ⟨fs, f1, f2⟩ := fldOf_spec hf
        obtain ⟨i, g1, g2⟩ := szIs_spec h2
        exact .field hop (chkOpd_co h1) f1 f2 g1 g2 h3
      · cases h
    · cases h
  | fieldv off fsz ag x' =>
    simp only [chkOp] at h
    split at h
    · rename_i hop
      split at h
      · rename_i hf
        simp only [Bool.and_eq_true, beq_iff_eq] at h
        obtain ⟨h1, rfl, h2, h3⟩ := h
        obtain ⟨fs, f1, f2⟩ := fldOf_spec hf
        obtain ⟨i, g1, g2⟩ := szIs_spec h2
        obtain ⟨d, g3, g4⟩ := rowIs_spec h3
        exact .fieldv hop (chkOpd_co h1) f1 f2 g1 g2 g3 g4
      · cases h
    · cases h
  | index sz x' j' =>
    simp only [chkOp] at h
    split at h
    · rename_i hop
      split at h
      · rename_i he
        simp only [Bool.and_eq_true] at h
        obtain ⟨i, g1, g2⟩ := szIs_spec h.2.2
        exact .index hop (chkOpd_co h.1) (chkOpd_co h.2.1) (elemOf_spec he) g1 g2
      · cases h
    · cases h
  | indexA sz ag n x' j' =>
    simp only [chkOp] at h
    split at h
    · rename_i hop
      split at h
      · rename_i he
        simp only [Bool.and_eq_true, beq_iff_eq] at h
        obtain ⟨h1, h2, rfl, h3⟩ := h
        obtain ⟨i, g1, g2⟩ := szIs_spec h3
        exact .indexA hop (chkOpd_co h1) (chkOpd_co h2) (arrOf_spec he) g1 g2
      · cases h
    · cases h
  | slice sz x' lo' hi' =>
    simp only [chkOp] at h
    split at h
    · rename_i hop
      split at h
      · rename_i he
        simp only [Bool.and_eq_true] at h
        obtain ⟨i, g1, g2⟩ := szIs_spec h.2.2.2
        exact .slice hop (chkOpd_co h.1) (chkOpt_co h.2.1) (chkOpt_co h.2.2.1) (elemOf_spec he) g1 g2
      · cases h
    · cases h
  | sliceS x' lo' hi' =>
    simp only [chkOp] at h
    split at h
    · simp only [Bool.and_eq_true] at h
      exact .sliceS (by assumption) (chkOpd_co h.2.1) (chkOpt_co h.2.2.1) (chkOpt_co h.2.2.2) (isStr_spec h.1)
    · cases h
  | slice3 sz x' lo' hi' mx' =>
    simp only [chkOp] at h
    split at h
    · rename_i hop
      split at h
      · rename_i he
        simp only [Bool.and_eq_true] at h
        obtain ⟨i, g1, g2⟩ := szIs_spec h.2.2.2.2
        exact .slice3 hop (chkOpd_co h.1) (chkOpt_co h.2.1) (chkOpd_co h.2.2.1) (chkOpd_co h.2.2.2.1) (elemOf_spec he) g1 g2
      · cases h
    · cases h
  | len x' =>
    simp only [chkOp] at h
    split at h
    · rename_i hb
      simp only [Bool.and_eq_true] at h
      obtain ⟨e, he⟩ := Option.isSome_iff_exists.1 h.1
      exact .len (builtinOf_spec hb) (chkOpd_co h.2) (elemOf_spec he)
    · cases h
  | lenS x' =>
    simp only [chkOp] at h
    split at h
    · rename_i hb
      simp only [Bool.and_eq_true] at h
      exact .lenS (builtinOf_spec hb) (chkOpd_co h.2) (isStr_spec h.1)
    · cases h
  | append sz bytes x' y' =>
    simp only [chkOp] at h
    split at h
    · rename_i hb
      split at h
      · rename_i he
        split at h
        · rename_i hi
          split at h
          · rename_i hz
            simp only [Bool.and_eq_true, decide_eq_true_eq, beq_iff_eq] at h
            obtain ⟨rfl, h1, h2, h3, h4, h5, h6, h7⟩ := h
            exact .append (builtinOf_spec hb) (chkOpd_co h1) (chkOpd_co h2) (elemOf_spec he) hi h3 h4 hz h5 h6 h7
          · cases h
        · cases h
      · cases h
    · cases h
  | minmax mx x' y' =>
    simp only [chkOp] at h
    split at h
    · rename_i hb
      simp only [Bool.and_eq_true] at h
      obtain ⟨rfl, h1, h2⟩ := h
      exact .minmax (mx := true) (builtinOf_spec hb) (chkOpd_co h1) (chkOpd_co h2)
    · rename_i hb
      simp only [Bool.and_eq_true, Bool.not_eq_true'] at h
      obtain ⟨rfl, h1, h2⟩ := h
      exact .minmax (mx := false) (builtinOf_spec hb) (chkOpd_co h1) (chkOpd_co h2)
    · cases h
  | func f a b =>
    simp only [chkOp] at h
    split at h
    · rename_i hop
      simp only [Bool.and_eq_true, decide_eq_true_eq] at h
      obtain ⟨rfl, h1, h2⟩ := h
      exact .func hop (chkAll_all2 (fun _ _ h => chkOpd_co h) h1) (chkAll_all2 (fun _ _ h => chkOpd_co h) h2)
    · cases h
  | extract x' i =>
    simp only [chkOp] at h
    split at h
    · rename_i hop
      simp only [Bool.and_eq_true, beq_iff_eq] at h
      obtain ⟨rfl, h1⟩ := h
      exact .extract hop (chkOpd_co h1)
    · cases h
  | conv k x' =>
    simp only [chkOp] at h
    split at h
    · rename_i hop
      simp only [Bool.and_eq_true] at h
      obtain ⟨d, hd⟩ := Option.isSome_iff_exists.1 h.1
      exact .conv hop (chkOpd_co h.2.2) hd (isInt_spec h.2.1)
    · cases h
  | ifc t x' =>
    simp only [chkOp] at h
    split at h
    · rename_i hop
      simp only [Bool.and_eq_true, beq_iff_eq] at h
      obtain ⟨rfl, h1, h2⟩ := h
      obtain ⟨d, hd, hn⟩ := noIfc_spec h1
      exact .ifc hop (chkOpd_co h2) hd hn
    · cases h
  | ext k xs => exact .ext (chkX_cmp h)
end

end Go.Proofs.Ytbfjmachkbhfnaa.AL
end

section
namespace Go.Proofs.Ytbfjmachkbhfnaa.AL
open Go

/-- A call through a value. -/
def callOf (o : Op) : Option (Operand × List Operand) :=
  match o with
  | .call c => match c.callee with
    | .value f => some (f, c.args.toList)
    | _ => none
  | _ => none
def deferOf (o : Op) : Option (Operand × List Operand) :=
  match o with
  | .defer c => match c.callee with
    | .value f => some (f, c.args.toList)
    | _ => none
  | _ => none
theorem deferOf_spec {o : Op} {f : Operand} {args : List Operand} (h : deferOf o = some (f, args)) : ∃ ts, o = .defer { callee := .value f, args := args.toArray, argTypes := ts } := by
  unfold deferOf at h
  split at h
  · rename_i c
    split at h
    · rename_i f' hf
      simp only [Option.some.injEq, Prod.mk.injEq] at h
      obtain ⟨rfl, rfl⟩ := h
      cases c; simp at hf; subst hf; exact ⟨_, rfl⟩
    · cases h
  · cases h
theorem callOf_spec {o : Op} {f : Operand} {args : List Operand} (h : callOf o = some (f, args)) : ∃ ts, o = .call { callee := .value f, args := args.toArray, argTypes := ts } := by
  unfold callOf at h
  split at h
  · rename_i c
    split at h
    · rename_i f' hf
      simp only [Option.some.injEq, Prod.mk.injEq] at h
      obtain ⟨rfl, rfl⟩ := h
      cases c; simp at hf; subst hf; exact ⟨_, rfl⟩
    · cases h
  · cases h

def chkGuard (ops : Array Oper) : Option (Nat × Bool) → Option (Nat × Bool) → Bool
  | none, none => true
  | some (j, b), some (t, b') => b == b' && (match ops[j]? with | some o => o.dst == some t | none => false)
  | _, _ => false

def chkO (P : Program) (ops : Array Oper) (nt : Nat) (o : Oper) (ao : AOper) : Bool :=
  ao.dst == o.dst && ((match o.dst with | some d => decide (d < nt) | none => true) && (chkGuard ops o.guard ao.guard &&
    match ao.k with
    | .op x => chkOp P o.op x
    | .panic x' => match o.op with
      | .panic x => chkOpd x x'
      | _ => false
    | .defer f' args' => match deferOf o.op with
      | some (f, args) => chkOpd f f' && chkAll chkOpd args args'
      | none => false
    | .call f' args' | .icall f' args' | .ycall f' args' => match callOf o.op with
      | some (f, args) => chkOpd f f' && chkAll chkOpd args args'
      | none => false))

theorem chkO_cmp {P : Program} {ops : Array Oper} {nt : Nat} {o : Oper} {ao : AOper} (h : chkO P ops nt o ao = true) : CmpO P ops nt o ao := by
  unfold chkO at h
  simp only [Bool.and_eq_true, beq_iff_eq] at h
  obtain ⟨h1, h2, h3, h4⟩ := h
  refine ⟨h1, fun d hd => by rw [hd] at h2; simpa using h2, ?_, ?_⟩
  · unfold chkGuard at h3
    split at h3
    · rename_i e1 e2; exact .inl ⟨e1, e2⟩
    · rename_i j b t b' e1 e2
      simp only [Bool.and_eq_true, beq_iff_eq] at h3
      obtain ⟨rfl, h3⟩ := h3
      split at h3
      · rename_i o' ho'
        exact .inr ⟨j, b, t, e1, by rw [ho']; simpa using h3, e2⟩
      · cases h3
    · cases h3
  · split at h4
    · rename_i x hk; rw [hk]; exact chkOp_cmp h4
    · rename_i x' hk
      rw [hk]
      split at h4
      · exact ⟨_, by assumption, chkOpd_co h4⟩
      · cases h4
    · rename_i f' args' hk
      rw [hk]
      split at h4
      · rename_i f args hc
        simp only [Bool.and_eq_true] at h4
        obtain ⟨ts, ht⟩ := deferOf_spec hc
        exact ⟨f, args.toArray, ts, ht, chkOpd_co h4.1, chkAll_all2 (fun _ _ h => chkOpd_co h) h4.2⟩
      · cases h4
    · rename_i f' args' hk
      rw [hk]
      split at h4
      · rename_i f args hc
        simp only [Bool.and_eq_true] at h4
        obtain ⟨ts, ht⟩ := callOf_spec hc
        exact ⟨f, args.toArray, ts, ht, chkOpd_co h4.1, chkAll_all2 (fun _ _ h => chkOpd_co h) h4.2⟩
      · cases h4
    · rename_i f' args' hk
      rw [hk]
      split at h4
      · rename_i f args hc
        simp only [Bool.and_eq_true] at h4
        obtain ⟨ts, ht⟩ := callOf_spec hc
        exact ⟨f, args.toArray, ts, ht, chkOpd_co h4.1, chkAll_all2 (fun _ _ h => chkOpd_co h) h4.2⟩
      · cases h4
    · rename_i f' args' hk
      rw [hk]
      split at h4
      · rename_i f args hc
        simp only [Bool.and_eq_true] at h4
        obtain ⟨ts, ht⟩ := callOf_spec hc
        exact ⟨f, args.toArray, ts, ht, chkOpd_co h4.1, chkAll_all2 (fun _ _ h => chkOpd_co h) h4.2⟩
      · cases h4

/-- What must come before each operation. -/
def direct (o : Oper) : List Nat := (o.after.toList.filter fun e => Region.binds .any e).map (·.on)
def ded (n : Nat) (l : List Nat) : List Nat := (List.range n).filter fun x => l.contains x
theorem ded_mem {n : Nat} {l : List Nat} {x : Nat} (h : x ∈ ded n l) : x ∈ l := by
  have := (List.mem_filter.1 h).2
  simpa using this
def bfGo : List Oper → List (List Nat) → List (List Nat)
  | [], acc => acc
  | o :: r, acc => bfGo r (acc ++ [ded acc.length (direct o ++ (direct o).flatMap fun k => acc.getD k [])])
def bfOf (ops : List Oper) : List (List Nat) := bfGo ops []

theorem bfGo_reach {ops : Array Oper} : ∀ (l : List Oper) (acc : List (List Nat)), (∀ j o, l[j]? = some o → ops[acc.length + j]? = some o) → (∀ j i, i ∈ acc.getD j [] → Reach ops j i) → ∀ j i, i ∈ (bfGo l acc).getD j [] → Reach ops j i
  | [], acc, _, h, j, i, hi => h j i hi
  | o :: r, acc, hl, h, j, i, hi => by
    refine bfGo_reach r _ (fun j' o' hj => by
      have := hl (j' + 1) o' (by simpa using hj)
      rw [List.length_append, List.length_singleton, show acc.length + 1 + j' = acc.length + (j' + 1) by omega]; exact this) (fun j' i' hi' => ?_) j i hi
    have ho := hl 0 o rfl
    rw [Nat.add_zero] at ho
    have hdir : ∀ k, k ∈ direct o → Reach ops acc.length k := fun k hk => by
      simp only [direct, List.mem_map, List.mem_filter] at hk
      obtain ⟨e, ⟨he, hb⟩, rfl⟩ := hk
      exact .edge ho (by simpa using he) hb rfl
    by_cases hjl : j' < acc.length
    · rw [List.getD_eq_getElem?_getD, List.getElem?_append_left hjl, ← List.getD_eq_getElem?_getD] at hi'
      exact h j' i' hi'
    · by_cases hje : j' = acc.length
      · subst hje
        rw [List.getD_eq_getElem?_getD, List.getElem?_append_right (Nat.le_refl _)] at hi'
        simp only [Nat.sub_self, List.getElem?_cons_zero, Option.getD_some] at hi'
        have hi' := ded_mem hi'
        simp only [List.mem_append, List.mem_flatMap] at hi'
        rcases hi' with hi' | ⟨k, hk, hi'⟩
        · exact hdir i' hi'
        · exact .trans (hdir k hk) (h k i' hi')
      · rw [List.getD_eq_getElem?_getD, List.getElem?_eq_none (by simp; omega)] at hi'
        simp at hi'

def edgesOk : Nat → List Oper → Bool
  | _, [] => true
  | j, o :: r => (direct o).all (fun k => decide (k < j)) && edgesOk (j + 1) r
theorem edgesOk_spec : ∀ (l : List Oper) (k : Nat), edgesOk k l = true → ∀ j o, l[j]? = some o → ∀ e ∈ o.after, Region.binds .any e = true → e.on < k + j
  | [], k, _, j, o, h, _, _, _ => by simp at h
  | o' :: r, k, hk, j, o, h, e, he, hb => by
    simp only [edgesOk, Bool.and_eq_true] at hk
    cases j with
    | zero =>
      simp at h; subst h
      have := List.all_eq_true.1 hk.1 e.on (List.mem_map.2 ⟨e, List.mem_filter.2 ⟨by simpa using he, hb⟩, rfl⟩)
      simpa using this
    | succ j =>
      have := edgesOk_spec r (k + 1) hk.2 j o (by simpa using h) e he hb
      omega

def chkC (P : Program) (nt : Nat) : Code → AC → Bool
  | .skip, .skip => true
  | .region _ ops false, .region none aops => aops.length == ops.size && chkAll (chkO P ops nt) ops.toList aops
  | .region _ ops true, .region (some bf) aops => aops.length == ops.size && (chkAll (chkO P ops nt) ops.toList aops && (bf == bfOf ops.toList && edgesOk 0 ops.toList))
  | .region _ ops false, .sregion aops => aops.length == ops.size && chkAll (chkO P ops nt) ops.toList aops
  | .rangeFunc g ps asg b, .range g' ps' asg' b' => chkOpd g g' && (ps.toList == ps' && (ps'.all (fun p => decide (p < nt)) && (chkC P nt asg asg' && chkC P nt b b')))
  | .seq a b, .seq a' b' => chkC P nt a a' && chkC P nt b b'
  | .cond c a b, .cond c' a' b' => chkOpd c c' && (chkC P nt a a' && chkC P nt b b')
  | .block id b, .block id' b' => id == id' && chkC P nt b b'
  | .loop b, .loop b' => chkC P nt b b'
  | .exit id, .exit id' => id == id'
  | .ret, .ret => true
  | _, _ => false

theorem chkAll_get {P : Program} {ops : Array Oper} {nt : Nat} {aops : List AOper} (h : chkAll (chkO P ops nt) ops.toList aops = true) : ∀ (j : Nat) (ao : AOper), aops[j]? = some ao → ∃ o, ops[j]? = some o ∧ CmpO P ops nt o ao := fun j ao hj => by
  have h2 := chkAll_all2 (R := CmpO P ops nt) (fun _ _ h => chkO_cmp h) h
  obtain ⟨o, ho, hc⟩ := all2_get h2 hj
  exact ⟨o, by simpa using ho, hc⟩

theorem chkC_cmp {P : Program} {nt : Nat} (hm : P.follows .mixedOrders = true) : ∀ {c : Code} {ac : AC}, chkC P nt c ac = true → CmpC P nt c ac := by
  intro c
  induction c with
  | skip => intro ac h; cases ac <;> simp [chkC] at h; exact .skip
  | region id ops draw =>
    intro ac h
    cases ac <;> (try (cases draw <;> simp [chkC] at h; done))
    case sregion aops =>
      cases draw with
      | true => simp [chkC] at h
      | false =>
        simp only [chkC, Bool.and_eq_true, beq_iff_eq] at h
        exact .sregion h.1 (chkAll_get h.2)
    rename_i bf aops
    cases draw with
    | false =>
      cases bf with
      | some _ => simp [chkC] at h
      | none =>
        simp only [chkC, Bool.and_eq_true, beq_iff_eq] at h
        exact .region h.1 (chkAll_get h.2)
    | true =>
      cases bf with
      | none => simp [chkC] at h
      | some bf =>
        simp only [chkC, Bool.and_eq_true, beq_iff_eq] at h
        obtain ⟨h1, h2, rfl, h4⟩ := h
        refine .regionD hm h1 (chkAll_get h2) (bfGo_reach ops.toList [] (fun j o hj => by simpa using hj) (fun j i hi => by simp at hi)) (fun j o ho e he hb => ?_)
        have := edgesOk_spec ops.toList 0 h4 j o (by simpa using ho) e he hb
        omega
  | seq a b ih1 ih2 =>
    intro ac h
    cases ac <;> simp [chkC] at h
    exact .seq (ih1 h.1) (ih2 h.2)
  | cond c a b ih1 ih2 =>
    intro ac h
    cases ac <;> simp [chkC] at h
    exact .cond (chkOpd_co h.1) (ih1 h.2.1) (ih2 h.2.2)
  | block id b ih =>
    intro ac h
    cases ac <;> simp [chkC] at h
    obtain ⟨rfl, h⟩ := h
    exact .block (ih h)
  | loop b ih =>
    intro ac h
    cases ac <;> simp [chkC] at h
    exact .loop (ih h)
  | rangeFunc g ps asg b ih1 ih2 =>
    intro ac h
    cases ac <;> simp only [chkC, Bool.false_eq_true] at h
    simp only [Bool.and_eq_true, beq_iff_eq] at h
    obtain ⟨h1, h2, h3, h4, h5⟩ := h
    exact .range (chkOpd_co h1) h2 (fun p hp => by simpa using List.all_eq_true.1 h3 p hp) (ih1 h4) (ih2 h5)
  | exit id => intro ac h; cases ac <;> simp [chkC] at h; subst h; exact .exit
  | ret => intro ac h; cases ac <;> simp [chkC] at h; exact .ret
  | _ => intro ac h; cases ac <;> simp [chkC] at h

def chkR (P : Program) : ResultVar → RV → Bool
  | .tmp t, .tmp t' => t == t'
  | .cell a ty, .cell a' sz ag => a == a' && (szIs P ty sz && rowIs P ty ag)
  | _, _ => false
theorem chkR_cmp {P : Program} {r : ResultVar} {x : RV} (h : chkR P r x = true) : CmpR P r x := by
  unfold chkR at h
  split at h
  · obtain rfl := eq_of_beq h; exact .tmp
  · simp only [Bool.and_eq_true, beq_iff_eq] at h
    obtain ⟨rfl, h1, h2⟩ := h
    obtain ⟨i, g1, g2⟩ := szIs_spec h1
    obtain ⟨d, g3, g4⟩ := rowIs_spec h2
    exact .cell g1 g2 g3 g4
  · cases h

/-- The check of a function: by the kernel. -/
def chkF (P : Program) (F : Func) (fn : AF) : Bool :=
  !(F.name == "runtime.NumGoroutine") && (F.ntmps == fn.nt && (chkAll (chkR P) F.results.toList fn.res && match F.body with
    | some c => chkC P fn.nt c fn.body
    | none => false))
theorem chkF_cmp {P : Program} {f : FuncId} {F : Func} {fn : AF} (hf : P.funcs[f]? = some F) (hm : P.follows .mixedOrders = true) (h : chkF P F fn = true) : CmpF P f fn := by
  unfold chkF at h
  simp only [Bool.and_eq_true, Bool.not_eq_true', beq_iff_eq] at h
  obtain ⟨h1, h2, h3, h4⟩ := h
  cases hb : F.body with
  | none => rw [hb] at h4; cases h4
  | some c =>
    rw [hb] at h4
    exact ⟨F, c, hf, h1, hb, h2, chkC_cmp hm h4, chkAll_all2 (fun _ _ h => chkR_cmp h) h3⟩

def isRecover (o : Op) : Bool := match builtinOf o with
  | some (.recover, _, _) => true
  | _ => false
/-- The check of a function that begins with a recovery. -/
def chkRF (P : Program) (F : Func) (g : AR) : Bool :=
  !(F.name == "runtime.NumGoroutine") && (F.ntmps == g.nt && (chkAll (chkR P) F.results.toList g.res && match F.body with
    | some (.seq (.region _ ops false) c) => (match ops.toList with
      | [o0, o1] => isRecover o0.op && (o0.guard == none && (o0.dst == some g.ta && ((match o1.op with | .assign (.tmp t) | .move (.tmp t) => t == g.ta | _ => false) && (o1.guard == none && (o1.dst == some g.tb && (decide (g.ta < g.nt) && (decide (g.tb < g.nt) && chkC P g.nt c g.rest)))))))
      | _ => false)
    | _ => false))
theorem chkRF_cmp {P : Program} {f : FuncId} {F : Func} {g : AR} (hf : P.funcs[f]? = some F) (hm : P.follows .mixedOrders = true) (h : chkRF P F g = true) : CmpRF P f g := by
  unfold chkRF at h
  simp only [Bool.and_eq_true, Bool.not_eq_true', beq_iff_eq] at h
  obtain ⟨h1, h2, h3, h4⟩ := h
  split at h4
  · rename_i id ops c hb
    split at h4
    · rename_i o0 o1 hops
      simp only [Bool.and_eq_true, beq_iff_eq, decide_eq_true_eq] at h4
      obtain ⟨q1, q2, q3, q4, q5, q6, q7, q8, q9⟩ := h4
      unfold isRecover at q1
      split at q1
      · rename_i xs ts hbi
        have he := builtinOf_spec hbi
        have hops' : ops = #[o0, o1] := by apply Array.ext'; simpa using hops
        refine ⟨F, id, o0, o1, c, _, _, hf, h1, by rw [hb, hops'], h2, he, q2, q3, ?_, q5, q6, q7, q8, chkC_cmp hm q9, chkAll_all2 (fun _ _ h => chkR_cmp h) h3⟩
        split at q4
        · rename_i ho; rw [beq_iff_eq] at q4; subst q4; exact .inl ho
        · rename_i ho; rw [beq_iff_eq] at q4; subst q4; exact .inr ho
        · cases q4
      · cases q1
    · cases h4
  · cases h4

end Go.Proofs.Ytbfjmachkbhfnaa.AL
end
