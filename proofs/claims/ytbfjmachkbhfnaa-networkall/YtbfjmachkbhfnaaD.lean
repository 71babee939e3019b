/- Part of the proof: AL35, AL36, AL37, AL38, AL39, AL40, AL41, AL42. -/
import Derived.Deep.Slices
import Derived.DataReads
import Derived.Deep.Strs
import Derived.OpenShut
import Derived.ProofKit
import Derived.ChangeCalls
import Derived.Test.YtbfjmachkbhfnaaC
set_option linter.unnecessarySimpa false
set_option linter.unusedVariables false
set_option linter.unusedSimpArgs false
section
namespace Go.Proofs.Ytbfjmachkbhfnaa.AL
open Go
theorem leD_self (x : D) : LeD x x ↔ True := ⟨fun _ => trivial, fun _ => LeD.refl x⟩
theorem leD_nil (a b : Nat) : LeD (.nil a) (.sl b []) ↔ True := ⟨fun _ => trivial, fun _ => LeD.nil' a b⟩
theorem leD_of_eq {x y : D} (h : x = y) : LeD x y := h ▸ LeD.refl x
theorem cells_lit (v : Value) : (D.lit v).cells = [.lit v] := rfl
theorem cells_nil (n : Nat) : (D.nil n).cells = [.nil n] := rfl
theorem cells_sl (n : Nat) (es : List D) : (D.sl n es).cells = [.sl n es] := rfl
theorem cells_agg (cs : List D) : (D.agg cs).cells = cs := rfl
theorem cells_ip (x : D) : (D.ip x).cells = [.ip x] := rfl
theorem cells_fn (f : Fn) (a b : List D) : (D.fn f a b).cells = [.fn f a b] := rfl
theorem cells_ifc (t : TypeId) (x : D) : (D.ifc t x).cells = [.ifc t x] := rfl
theorem isAgg_lit (v : Value) : (D.lit v).isAgg = false := rfl
theorem isAgg_nil (n : Nat) : (D.nil n).isAgg = false := rfl
theorem isAgg_sl (n : Nat) (es : List D) : (D.sl n es).isAgg = false := rfl
theorem isAgg_agg (cs : List D) : (D.agg cs).isAgg = true := rfl
theorem isAgg_ip (x : D) : (D.ip x).isAgg = false := rfl
theorem isAgg_fn (f : Fn) (a b : List D) : (D.fn f a b).isAgg = false := rfl
theorem isAgg_ifc (t : TypeId) (x : D) : (D.ifc t x).isAgg = false := rfl
theorem one_lit (v : Value) : (D.lit v).one = true := rfl
theorem one_nil (n : Nat) : (D.nil n).one = true := rfl
theorem one_sl (n : Nat) (es : List D) : (D.sl n es).one = true := rfl
theorem one_agg (cs : List D) : (D.agg cs).one = false := rfl
theorem one_ip (x : D) : (D.ip x).one = true := rfl
theorem one_fn (f : Fn) (a b : List D) : (D.fn f a b).one = true := rfl
theorem one_ifc (t : TypeId) (x : D) : (D.ifc t x).one = true := rfl
theorem acells_d (x : D) : (AV.d x).cells = x.cells.map .d := rfl
theorem acells_own (r n : Nat) (es : List D) : (AV.own r n es).cells = [.own r n es] := rfl
theorem acells_agg (cs : List AV) : (AV.agg cs).cells = cs := rfl
theorem acells_ptr (n o : Nat) : (AV.ptr n o).cells = [.ptr n o] := rfl
theorem acells_bsl (a b c d e : Nat) : (AV.bsl a b c d e).cells = [.bsl a b c d e] := rfl
theorem acells_fn (f : Fn) (a b : List AV) : (AV.fn f a b).cells = [.fn f a b] := rfl
theorem aone_d (x : D) : (AV.d x).one = x.one := rfl
theorem aone_own (r n : Nat) (es : List D) : (AV.own r n es).one = true := rfl
theorem aone_agg (cs : List AV) : (AV.agg cs).one = false := rfl
theorem aone_ptr (n o : Nat) : (AV.ptr n o).one = true := rfl
theorem aone_bsl (a b c d e : Nat) : (AV.bsl a b c d e).one = true := rfl
theorem aone_fn (f : Fn) (a b : List AV) : (AV.fn f a b).one = true := rfl
theorem noTup_lit (v : Value) : (AV.d (.lit v)).noTup = true := rfl
theorem noTup_nil (n : Nat) : (AV.d (.nil n)).noTup = true := rfl
theorem noTup_sl (n : Nat) (es : List D) : (AV.d (.sl n es)).noTup = true := rfl
theorem noTup_dagg (cs : List D) : (AV.d (.agg cs)).noTup = true := rfl
theorem noTup_ip (x : D) : (AV.d (.ip x)).noTup = true := rfl
theorem noTup_dfn (f : Fn) (a b : List D) : (AV.d (.fn f a b)).noTup = true := rfl
theorem noTup_ifc (t : TypeId) (x : D) : (AV.d (.ifc t x)).noTup = true := rfl
theorem noTup_own (r n : Nat) (es : List D) : (AV.own r n es).noTup = true := rfl
theorem noTup_agg (cs : List AV) : (AV.agg cs).noTup = true := rfl
theorem noTup_ptr (n o : Nat) : (AV.ptr n o).noTup = true := rfl
theorem noTup_bsl (a b c d e : Nat) : (AV.bsl a b c d e).noTup = true := rfl
theorem noTup_fn (f : Fn) (a b : List AV) : (AV.fn f a b).noTup = true := rfl
attribute [simp] cells_lit cells_nil cells_sl cells_agg cells_ip cells_fn cells_ifc isAgg_lit isAgg_nil isAgg_sl isAgg_agg isAgg_ip isAgg_fn isAgg_ifc one_lit one_nil one_sl one_agg one_ip one_fn one_ifc
  acells_d acells_own acells_agg acells_ptr acells_bsl acells_fn aone_d aone_own aone_agg aone_ptr aone_bsl aone_fn noTup_lit noTup_nil noTup_sl noTup_dagg noTup_ip noTup_dfn noTup_ifc noTup_own noTup_agg noTup_ptr noTup_bsl noTup_fn
section
variable (P : Program) (cx : Cx) (Q : AE → St → Prop) (σ : St)
theorem vc_skip : vc P cx .skip Q σ = Q .normal σ := rfl
theorem vc_seq (a b : AC) : vc P cx (.seq a b) Q σ = vc P cx a (seqQ (vc P cx b Q) Q) σ := rfl
theorem vc_cond (c : Opd) (a b : AC) : vc P cx (.cond c a b) Q σ = (match evO σ.s c with
    | some (g, .d (.lit (.bool t))) => g = true ∧ (if t = true then vc P cx a Q σ else True) ∧ (if t = false then vc P cx b Q σ else True)
    | _ => False) := by
  rw [vc]
  split <;> simp_all
theorem vc_block (id : Nat) (b : AC) : vc P cx (.block id b) Q σ = vc P cx b (blockQ id Q) σ := rfl
theorem vc_exit (id : Nat) : vc P cx (.exit id) Q σ = Q (.exit id) σ := rfl
theorem vc_ret : vc P cx .ret Q σ = Q .ret σ := rfl
variable {P cx Q σ}
/-- A loop: states by a parameter, an invariant, a measure. -/
theorem vc_loop {b : AC} (X : Type) (st : X → St) (I : X → Prop) (μ : X → Nat) (x0 : X) (h0 : I x0) (hs : Sub cx.B σ (st x0)) (h : ∀ x, I x → vc P cx b (seqQ (fun σ' => ∃ x', I x' ∧ μ x' < μ x ∧ Sub cx.B σ' (st x')) Q) (st x)) : vc P cx (.loop b) Q σ :=
  ⟨X, st, I, μ, ⟨x0, h0, hs⟩, h⟩
end
theorem exV : ∃ f : (Program → Cx → AC → (AE → St → Prop) → St → Prop), f = vc := ⟨_, rfl⟩
/-- The verification condition, closed to the kernel's eye. -/
noncomputable def vcX : Program → Cx → AC → (AE → St → Prop) → St → Prop := Classical.choose exV
theorem vcX_eq : vcX = vc := Classical.choose_spec exV
theorem vcFun_eq (P : Program) (C : FuncId → List D → Out → Prop) (fn : AF) (args : List D) (out : Out) : vcFun P C fn args out = vcX P { C := C } fn.body (endH P C fn (retO out)) ⟨argA (args.map .d) 0, [], []⟩ := by rw [vcX_eq]; rfl
/-! The laws fire on states that are written out only: not below a binder. -/
section
variable {P : Program} {cx : Cx} {Q : AE → St → Prop} {K : St → Prop} {s : List (Nat × Bool × AV)} {h : List (Nat × HO)} {d : List DE}
theorem go_skip : vcX P cx .skip Q ⟨s, h, d⟩ = Q .normal ⟨s, h, d⟩ := by rw [vcX_eq]; rfl
theorem go_seq (a b : AC) : vcX P cx (.seq a b) Q ⟨s, h, d⟩ = vcX P cx a (seqQ (vcX P cx b Q) Q) ⟨s, h, d⟩ := by rw [vcX_eq]; rfl
theorem go_cond (c : Opd) (a b : AC) : vcX P cx (.cond c a b) Q ⟨s, h, d⟩ = (match evO s c with
    | some (g, .d (.lit (.bool t))) => g = true ∧ (if t = true then vcX P cx a Q ⟨s, h, d⟩ else True) ∧ (if t = false then vcX P cx b Q ⟨s, h, d⟩ else True)
    | _ => False) := by rw [vcX_eq]; exact vc_cond ..
theorem go_block (id : Nat) (b : AC) : vcX P cx (.block id b) Q ⟨s, h, d⟩ = vcX P cx b (blockQ id Q) ⟨s, h, d⟩ := by rw [vcX_eq]; rfl
theorem go_exit (id : Nat) : vcX P cx (.exit id) Q ⟨s, h, d⟩ = Q (.exit id) ⟨s, h, d⟩ := by rw [vcX_eq]; rfl
theorem go_ret : vcX P cx .ret Q ⟨s, h, d⟩ = Q .ret ⟨s, h, d⟩ := by rw [vcX_eq]; rfl
theorem seqQ_n : seqQ K Q .normal ⟨s, h, d⟩ = K ⟨s, h, d⟩ := rfl
theorem seqQ_e (i : Nat) : seqQ K Q (.exit i) ⟨s, h, d⟩ = Q (.exit i) ⟨s, h, d⟩ := rfl
theorem seqQ_r : seqQ K Q .ret ⟨s, h, d⟩ = Q .ret ⟨s, h, d⟩ := rfl
theorem seqQ_p (x : D) : seqQ K Q (.pan x) ⟨s, h, d⟩ = Q (.pan x) ⟨s, h, d⟩ := rfl
theorem blockQ_n (id : Nat) : blockQ id Q .normal ⟨s, h, d⟩ = Q .normal ⟨s, h, d⟩ := rfl
theorem blockQ_e (id i : Nat) : blockQ id Q (.exit i) ⟨s, h, d⟩ = if i = id then Q .normal ⟨s, h, d⟩ else Q (.exit i) ⟨s, h, d⟩ := rfl
theorem blockQ_r (id : Nat) : blockQ id Q .ret ⟨s, h, d⟩ = Q .ret ⟨s, h, d⟩ := rfl
theorem blockQ_p (id : Nat) (x : D) : blockQ id Q (.pan x) ⟨s, h, d⟩ = Q (.pan x) ⟨s, h, d⟩ := rfl
variable {C : FuncId → List D → Out → Prop}
theorem endH_n (fn : AF) (K : HOut → List (Nat × HO) → Prop) : endH P C fn K .normal ⟨s, h, d⟩ = leaveQ P C fn K none d s h := rfl
theorem endH_r (fn : AF) (K : HOut → List (Nat × HO) → Prop) : endH P C fn K .ret ⟨s, h, d⟩ = leaveQ P C fn K none d s h := rfl
theorem endH_p (fn : AF) (K : HOut → List (Nat × HO) → Prop) (x : D) : endH P C fn K (.pan x) ⟨s, h, d⟩ = leaveQ P C fn K (some x) d s h := rfl
theorem leaveQ_ret (fn : AF) (K : HOut → List (Nat × HO) → Prop) : leaveQ P C fn K none [] s h = (match retV ⟨s, h, []⟩ fn.res with
    | some (c, v) => c ∧ K (.ret v) h
    | none => False) := rfl
theorem leaveQ_pan (fn : AF) (K : HOut → List (Nat × HO) → Prop) (x : D) : leaveQ P C fn K (some x) [] s h = K (.pan x) h := rfl
theorem leaveQ_mark (fn : AF) (K : HOut → List (Nat × HO) → Prop) (u : Option D) (n : Nat) : leaveQ P C fn K u (.mark n :: d) s h = (look h n = some (.obj 0) ∧ leaveQ P C fn K u d s (setH h n .dead)) := by cases u <;> rfl
def leaveK (P : Program) (C : FuncId → List D → Out → Prop) (fn : AF) (K : HOut → List (Nat × HO) → Prop) (ds : List DE) (s : List (Nat × Bool × AV)) (u : Option D) (h : List (Nat × HO)) : Prop := leaveQ P C fn K u ds s h
theorem leaveK_eq (fn : AF) (K : HOut → List (Nat × HO) → Prop) (u : Option D) : leaveK P C fn K d s u h = leaveQ P C fn K u d s h := rfl
/-- A deferred call is met by its contract. -/
theorem leave_fn {fn : AF} {K : HOut → List (Nat × HO) → Prop} {u : Option D} {f : FuncId} {as caps : List AV} (T : Cx → List AV → Option D → List (Nat × HO) → (Option D → List (Nat × HO) → Prop) → Prop) (hT : DCall P f T)
    (hk : T { C := C, B := newName h } (as ++ caps) u h (leaveK P C fn K d s)) : leaveQ P C fn K u (.fn f as caps :: d) s h := by
  cases u <;> exact ⟨T, hT, hk⟩
theorem endD_n (res : List RV) (K : Option D → List (Nat × HO) → Prop) (u : Option D) : endD res K u .normal ⟨s, h, d⟩ = (d = [] ∧ (match retV ⟨s, h, []⟩ res with | some (c, _) => c | none => False) ∧ K u h) := rfl
theorem endD_r (res : List RV) (K : Option D → List (Nat × HO) → Prop) (u : Option D) : endD res K u .ret ⟨s, h, d⟩ = (d = [] ∧ (match retV ⟨s, h, []⟩ res with | some (c, _) => c | none => False) ∧ K u h) := rfl
theorem endD_p (res : List RV) (K : Option D → List (Nat × HO) → Prop) (u : Option D) (x : D) : endD res K u (.pan x) ⟨s, h, d⟩ = (d = [] ∧ u = none ∧ K (some x) h) := rfl
theorem endR_n (res : List RV) (K : Option D → List (Nat × HO) → Prop) (u : Option D) : endR res K u .normal ⟨s, h, d⟩ = (d = [] ∧ (match retV ⟨s, h, []⟩ res with | some (c, _) => c | none => False) ∧ K none h) := rfl
theorem endR_r (res : List RV) (K : Option D → List (Nat × HO) → Prop) (u : Option D) : endR res K u .ret ⟨s, h, d⟩ = (d = [] ∧ (match retV ⟨s, h, []⟩ res with | some (c, _) => c | none => False) ∧ K none h) := rfl
theorem endR_p (res : List RV) (K : Option D → List (Nat × HO) → Prop) (u : Option D) (x : D) : endR res K u (.pan x) ⟨s, h, d⟩ = (d = [] ∧ u = none ∧ K (some x) h) := rfl
theorem TD_eq {fn : AF} {all : List AV} {u : Option D} {K : Option D → List (Nat × HO) → Prop} : TD P fn cx all u h K = (all.length ≤ fn.nt ∧ vcX P cx fn.body (endD fn.res K u) ⟨argA all 0, h, []⟩) := by rw [vcX_eq]; rfl
theorem TR_eq {g : AR} {all : List AV} {u : Option D} {K : Option D → List (Nat × HO) → Prop} : TR P g cx all u h K = (all.length ≤ g.nt ∧ vcX P cx g.rest (endR g.res K u) ⟨(g.tb, true, .d (uD u)) :: (g.ta, true, .d (uD u)) :: argA all 0, h, []⟩) := by rw [vcX_eq]; rfl
theorem uD_n : uD none = .lit .nilIface := rfl
theorem uD_s (x : D) : uD (some x) = x := rfl
end
attribute [simp] go_skip go_seq go_cond go_block go_exit go_ret seqQ_n seqQ_e seqQ_r seqQ_p blockQ_n blockQ_e blockQ_r blockQ_p endH_n endH_r endH_p leaveQ_ret leaveQ_pan leaveQ_mark leaveK_eq endD_n endD_r endD_p endR_n endR_r endR_p TD_eq TR_eq uD_n uD_s
attribute [simp] vcFun_eq vcOps vcOp gEff evL evO stepV stepX AK.opds AOp.opds optL argA retO retV retL ret1 putS updH newName gcond allT ents arithV calleeA argsD argD argH allD1 AV.toD1 AV.elems AV.rowD subA subD mkAgg setAt List.getD D.fits bound toDs leD_self leD_nil

section
variable (ρ : Nat → Nat) (N : Nat → Option Nat) (ok : Nat → Bool) (k : Nat)
theorem leA_d (x y : D) : leA ρ N ok k (.d x) (.d y) = LeD x y := by cases k <;> simp [leA]
theorem leA_own (r sz : Nat) (es : List D) (r' sz' : Nat) (es' : List D) : leA ρ N ok k (.own r sz es) (.own r' sz' es') = (r = ρ r' ∧ sz = sz' ∧ es = es' ∧ ok r' = true ∧ N r' = none) := by cases k <;> simp [leA]
theorem leA_nil (sz r sz' : Nat) (es : List D) : leA ρ N ok k (.d (.nil sz)) (.own r sz' es) = (sz = sz' ∧ es = [] ∧ N r = some sz) := by cases k <;> simp [leA]
theorem leA_ownd (r sz : Nat) (es : List D) (y : D) : leA ρ N ok k (.own r sz es) (.d y) = LeD (.sl sz es) y := by cases k <;> simp [leA]
theorem leA_ptr (n o n' o' : Nat) : leA ρ N ok k (.ptr n o) (.ptr n' o') = (n = ρ n' ∧ o = o' ∧ ok n' = true) := by cases k <;> simp [leA]
theorem leA_bsl (n o z l c n' o' z' l' c' : Nat) : leA ρ N ok k (.bsl n o z l c) (.bsl n' o' z' l' c') = (n = ρ n' ∧ o = o' ∧ z = z' ∧ l = l' ∧ c = c' ∧ ok n' = true) := by cases k <;> simp [leA]
theorem leA_agg (cs cs' : List AV) : leA ρ N ok (k + 1) (.agg cs) (.agg cs') = (leA.leL ρ N ok k cs cs' ∧ ∀ c ∈ cs', c.one = true) := by simp only [leA]
theorem leA_aggd (cs : List AV) (ds : List D) : leA ρ N ok (k + 1) (.agg cs) (.d (.agg ds)) = (leA.leL ρ N ok k cs (ds.map .d) ∧ ∀ c ∈ ds, c.one = true) := by simp only [leA]
theorem leA_dagg (ds : List D) (cs : List AV) : leA ρ N ok (k + 1) (.d (.agg ds)) (.agg cs) = (leA.leL ρ N ok k (ds.map .d) cs ∧ ∀ c ∈ cs, c.one = true) := by simp only [leA]
theorem leA_tup (cs cs' : List AV) : leA ρ N ok (k + 1) (.tup cs) (.tup cs') = leA.leL ρ N ok k cs cs' := by simp only [leA]
theorem leA_tupd (cs : List AV) (ds : List D) : leA ρ N ok (k + 1) (.tup cs) (.d (.tup ds)) = leA.leL ρ N ok k cs (ds.map .d) := by simp only [leA]
theorem leA_fn (f f' : Fn) (a b a' b' : List AV) : leA ρ N ok (k + 1) (.fn f a b) (.fn f' a' b') = (f = f' ∧ leA.leL ρ N ok k a a' ∧ leA.leL ρ N ok k b b') := by simp only [leA]
theorem leA_fnd (f f' : Fn) (a b : List AV) (a' b' : List D) : leA ρ N ok (k + 1) (.fn f a b) (.d (.fn f' a' b')) = (f = f' ∧ leA.leL ρ N ok k a (a'.map .d) ∧ leA.leL ρ N ok k b (b'.map .d)) := by simp only [leA]
theorem leL_nil : leA.leL ρ N ok k [] [] = True := by simp only [leA.leL]
theorem leL_cons (c c' : AV) (r r' : List AV) : leA.leL ρ N ok k (c :: r) (c' :: r') = (leA ρ N ok k c c' ∧ leA.leL ρ N ok k r r') := by simp only [leA.leL]
end
theorem allD_nil : allD [] = some [] := rfl
theorem allD_d (x : D) (r : List AV) : allD (.d x :: r) = (allD r).map (x :: ·) := rfl
theorem allD_own (a b : Nat) (e : List D) (r : List AV) : allD (.own a b e :: r) = none := rfl
theorem allD_agg (cs : List AV) (r : List AV) : allD (.agg cs :: r) = none := rfl
theorem allD_tup (cs : List AV) (r : List AV) : allD (.tup cs :: r) = none := rfl
theorem allD_ptr (a b : Nat) (r : List AV) : allD (.ptr a b :: r) = none := rfl
theorem allD_bsl (a b c d e : Nat) (r : List AV) : allD (.bsl a b c d e :: r) = none := rfl
theorem allD_fn (f : Fn) (a b : List AV) (r : List AV) : allD (.fn f a b :: r) = none := rfl
attribute [simp] allD_nil allD_d allD_own allD_agg allD_tup allD_ptr allD_bsl allD_fn
theorem buildA_nil (z : List AV) : buildA z [] [] = z := rfl
theorem buildA_cons (z : List AV) (off sz : Nat) (o : Opd) (ps : List (Nat × Nat × Opd)) (v : AV) (vs : List AV) : buildA z ((off, sz, o) :: ps) (v :: vs) = buildA (setAt z off v.cells) ps vs := rfl
theorem buildC_nil (n : Nat) : buildC [] [] n = True := rfl
theorem buildC_cons (n : Nat) (off sz : Nat) (o : Opd) (ps : List (Nat × Nat × Opd)) (v : AV) (vs : List AV) : buildC ((off, sz, o) :: ps) (v :: vs) n = (v.cells.length = sz ∧ v.noTup = true ∧ off + sz ≤ n ∧ buildC ps vs n) := rfl
theorem eqC_nil : eqC [] [] [] = True := rfl
theorem eqC_int (k k1 k2 : IntKind) (a b : Int) (ks : List SK) (xs ys : List D) : eqC (.int k :: ks) (.lit (.int k1 a) :: xs) (.lit (.int k2 b) :: ys) = (k1 = k ∧ k2 = k ∧ eqC ks xs ys) := rfl
theorem eqC_bool (a b : Bool) (ks : List SK) (xs ys : List D) : eqC (.bool :: ks) (.lit (.bool a) :: xs) (.lit (.bool b) :: ys) = eqC ks xs ys := rfl
theorem eqC_str (a b : ByteArray) (ks : List SK) (xs ys : List D) : eqC (.str :: ks) (.lit (.string a) :: xs) (.lit (.string b) :: ys) = eqC ks xs ys := rfl
theorem eqB_nil : eqB [] [] = true := rfl
theorem eqB_int (k k' : IntKind) (a b : Int) (xs ys : List D) : eqB (.lit (.int k a) :: xs) (.lit (.int k' b) :: ys) = (a == b && eqB xs ys) := rfl
theorem eqB_bool (a b : Bool) (xs ys : List D) : eqB (.lit (.bool a) :: xs) (.lit (.bool b) :: ys) = (a == b && eqB xs ys) := rfl
theorem eqB_str (a b : ByteArray) (xs ys : List D) : eqB (.lit (.string a) :: xs) (.lit (.string b) :: ys) = (decide (a = b) && eqB xs ys) := rfl
attribute [simp] leA_d leA_own leA_nil leA_ownd leA_ptr leA_bsl leA_agg leA_aggd leA_dagg leA_tup leA_tupd leA_fn leA_fnd leL_nil leL_cons buildA_nil buildA_cons buildC_nil buildC_cons eqC_nil eqC_int eqC_bool eqC_str eqB_nil eqB_int eqB_bool eqB_str

theorem getS_nil (t : Nat) : getS [] t = none := by unfold getS; exact rfl
theorem getS_hit (t : Nat) (e : Bool × AV) (r : List (Nat × Bool × AV)) : getS ((t, e) :: r) t = some e := by
  have : ∀ t', t' = t → getS ((t', e) :: r) t = some e := fun t' h => by rw [getS]; exact if_pos h.symm
  exact this t rfl
theorem getS_miss {t t' : Nat} (h : (t == t') = false) (e : Bool × AV) (r : List (Nat × Bool × AV)) : getS ((t', e) :: r) t = getS r t := by
  rw [getS]; exact if_neg (by simpa using h)
theorem look_nil (n : Nat) : look [] n = none := by unfold look; exact rfl
theorem look_hit (n : Nat) (o : HO) (r : List (Nat × HO)) : look ((n, o) :: r) n = some o := by
  have : ∀ n', n' = n → look ((n', o) :: r) n = some o := fun n' h => by rw [look]; exact if_pos h.symm
  exact this n rfl
theorem look_miss {n n' : Nat} (h : (n == n') = false) (o : HO) (r : List (Nat × HO)) : look ((n', o) :: r) n = look r n := by
  rw [look]; exact if_neg (by simpa using h)
theorem setH_nil (n : Nat) (o : HO) : setH [] n o = [(n, o)] := by unfold setH; exact rfl
theorem setH_hit (n : Nat) (o x : HO) (r : List (Nat × HO)) : setH ((n, x) :: r) n o = (n, o) :: r := by
  have : ∀ n', n' = n → setH ((n', x) :: r) n o = (n', o) :: r := fun n' h => by subst h; rw [setH]; exact if_pos rfl
  exact this n rfl
theorem setH_miss {n n' : Nat} (h : (n == n') = false) (o x : HO) (r : List (Nat × HO)) : setH ((n', x) :: r) n o = (n', x) :: setH r n o := by
  rw [setH]; exact if_neg (by simpa using h)
attribute [simp] getS_nil getS_hit getS_miss look_nil look_hit look_miss setH_nil setH_hit setH_miss
theorem noC {P : Program} : ∀ (f : FuncId) (ds : List D) (out : Out), (fun (_ : FuncId) (_ : List D) (_ : Out) => False) f ds out → PCall P f ds out := fun _ _ _ h => h.elim
/-- The law of a search. -/
theorem findIdx_none {α : Type} {p : α → Bool} {l : List α} (h : ∀ j, (h : j < l.length) → p l[j] = false) : l.findIdx? p = none := by
  rw [List.findIdx?_eq_none_iff]
  intro x hx
  obtain ⟨j, hj, rfl⟩ := List.getElem_of_mem hx
  simp [h j hj]
theorem findIdx_some {α : Type} {p : α → Bool} {l : List α} {i : Nat} (hi : i < l.length) (hp : p l[i] = true) (h : ∀ j, (h : j < i) → p (l[j]'(by omega)) = false) : l.findIdx? p = some i := by
  rw [List.findIdx?_eq_some_iff_getElem]
  exact ⟨hi, hp, fun j hj => by simp [h j hj]⟩
theorem wrap64 {n : Int} (h : -9223372036854775808 ≤ n ∧ n ≤ 9223372036854775807) : IntKind.i64.wrap n = n := by
  simp [IntKind.wrap, IntKind.bits, IntKind.signed]; omega
def dI (n : Int) : D := .lit (.int .i64 n)
def dB (b : Bool) : D := .lit (.bool b)
def dU (b : UInt8) : D := .lit (.int .u8 b.toNat)
attribute [simp] dI dB
end Go.Proofs.Ytbfjmachkbhfnaa.AL
end

section
namespace Go.Proofs.Ytbfjmachkbhfnaa.AL
open Go

/-- A region whose calls' ends are told ahead. -/
def vcOpsO (C : FuncId → List D → Out → Prop) (Qp : D → St → Prop) (K : List Rec → St → Prop) : List Out → List AOper → St → List Rec → Prop
  | _, [], σ, recs => K recs σ
  | os, ao :: r, σ, recs => match ao.k with
    | .call f args => match os with
      | [] => False
      | o :: os' => match gEff σ.s ao.guard with
        | none => False
        | some (g, rs) => match evL σ.s (f :: args) with
          | some (gs, fv :: vs) => match calleeA fv vs with
            | some (fid, all) => match argsD σ.h all with
              | some (ds, snap) => (g = true → allT gs ∧ C fid ds o) ∧ match o with
                | .ret d => (snap = true → Free d) ∧ vcOpsO C Qp K os' r ⟨putS σ.s ao.dst (g, .d d), σ.h, σ.d⟩ (recs ++ [⟨ao.dst, rs ++ ents σ.s (f :: args), g, .d d, argH σ.h all, []⟩])
                | .pan d => g = true ∧ (snap = true → Free d) ∧ Qp d σ
              | none => False
            | none => False
          | _ => False
    | _ => vcOp C σ ao (fun d => Qp d σ) (fun rec σ' => vcOpsO C Qp K os r σ' (recs ++ [rec]))

theorem vcOpsO_imp {C : FuncId → List D → Out → Prop} {Qp : D → St → Prop} {K : List Rec → St → Prop} : ∀ {ops : List AOper} {os : List Out} {σ : St} {recs : List Rec}, vcOpsO C Qp K os ops σ recs → vcOps C Qp K ops σ recs
  | [], os, σ, recs, h => by cases os <;> exact h
  | ao :: r, os, σ, recs, h => by
    unfold vcOpsO at h
    unfold vcOps
    split at h
    · rename_i f args hk
      split at h
      · exact h.elim
      · rename_i o os'
        unfold vcOp
        split at h
        · exact h.elim
        · rename_i g rs hg
          simp only [hg, hk]
          split at h
          · rename_i gs fv vs hev
            simp only [hev]
            split at h
            · rename_i fid all hcal
              simp only [hcal]
              split at h
              · rename_i ds snap hargs
                simp only [hargs]
                refine ⟨o, h.1, ?_⟩
                have h2 := h.2
                cases o with
                | ret d => exact ⟨h2.1, vcOpsO_imp h2.2⟩
                | pan d => exact h2
              · exact h.elim
            · exact h.elim
          · exact h.elim
    · exact vcOp_mono (fun rec σ' h => vcOpsO_imp h) h

section
variable {P : Program} {cx : Cx} {Q : AE → St → Prop} {σ : St}
/-- A region with calls. -/
def regC (P : Program) (cx : Cx) (bf : Option (List (List Nat))) (ops : List AOper) (Q : AE → St → Prop) (σ : St) : Prop := vcX P cx (.region bf ops) Q σ
theorem vc_region' {ops : List AOper} : vc P cx (.region none ops) Q σ = if waits ops = true then regC P cx none ops Q σ else vcOpsP false cx.C (fun d σ => Q (.pan d) σ) (fun _ σ => Q .normal σ) [] (marks ops) σ [] := by
  by_cases h : waits ops = true <;> simp [h, regC, vcX_eq, vc]
theorem vc_regionD' {bf : List (List Nat)} {ops : List AOper} : vc P cx (.region (some bf) ops) Q σ = if waits ops = true then regC P cx (some bf) ops Q σ else vcOpsP true cx.C (fun _ _ => False) (fun R σ' => conflictR R bf = true ∧ Q .normal σ') [] (marks ops) σ [] := by
  by_cases h : waits ops = true <;> simp [h, regC, vcX_eq, vc]
theorem regC_W {ops : List AOper} (h : vcOpsW cx.C (fun d σ => Q (.pan d) σ) (fun _ σ => Q .normal σ) ops σ []) (hw : waits ops = true := by rfl) : regC P cx none ops Q σ := by
  unfold regC; rw [vcX_eq]; unfold vc; rw [if_pos hw]; exact h
theorem regC_WD {bf : List (List Nat)} {ops : List AOper} (h : vcOpsW cx.C (fun _ _ => False) (fun R σ' => conflictOk R bf = true ∧ Q .normal σ') ops σ []) (hw : waits ops = true := by rfl) : regC P cx (some bf) ops Q σ := by
  unfold regC; rw [vcX_eq]; unfold vc; rw [if_pos hw]; exact h
/-- A region with calls: how they end. -/
theorem vc_calls (os : List Out) {ops : List AOper} (h : vcOpsO cx.C (fun d σ => Q (.pan d) σ) (fun _ σ => Q .normal σ) os ops σ []) (hw : waits ops = true := by rfl) : regC P cx none ops Q σ := regC_W (vcOps_W (vcOpsO_imp h)) hw
theorem vc_callsD (os : List Out) {bf : List (List Nat)} {ops : List AOper} (h : vcOpsO cx.C (fun _ _ => False) (fun R σ' => conflictOk R bf = true ∧ Q .normal σ') os ops σ []) (hw : waits ops = true := by rfl) : regC P cx (some bf) ops Q σ := regC_WD (vcOps_W (vcOpsO_imp h)) hw
end
section
variable {P : Program} {cx : Cx} {Q : AE → St → Prop} {s : List (Nat × Bool × AV)} {h : List (Nat × HO)} {d : List DE}
theorem go_region {ops : List AOper} : vcX P cx (.region none ops) Q ⟨s, h, d⟩ = if waits ops = true then regC P cx none ops Q ⟨s, h, d⟩ else vcOpsX false cx.C (fun d σ => Q (.pan d) σ) (fun _ σ => Q .normal σ) [] (marks ops) ⟨s, h, d⟩ [] := by rw [vcOpsX_eq, vcX_eq]; exact vc_region'
theorem go_regionD {bf : List (List Nat)} {ops : List AOper} : vcX P cx (.region (some bf) ops) Q ⟨s, h, d⟩ = if waits ops = true then regC P cx (some bf) ops Q ⟨s, h, d⟩ else vcOpsX true cx.C (fun _ _ => False) (fun R σ' => conflictR R bf = true ∧ Q .normal σ') [] (marks ops) ⟨s, h, d⟩ [] := by rw [vcOpsX_eq, vcX_eq]; exact vc_regionD'
end
attribute [simp] waits vcOpsO go_region go_regionD
end Go.Proofs.Ytbfjmachkbhfnaa.AL
end

section
namespace Go.Proofs.Ytbfjmachkbhfnaa.AL
open Go

section
variable {P : Program} {cx : Cx} {Q : AE → St → Prop} {σ : St}
theorem vc_path (os : List Out) {ops : List AOper} (h : vcOpsX false cx.C (fun d σ => Q (.pan d) σ) (fun _ σ => Q .normal σ) os (marks ops) σ []) (hw : waits ops = true := by rfl) : regC P cx none ops Q σ := regC_W (vcOpsP_reg (by rw [vcOpsX_eq] at h; exact h)) hw
theorem vc_pathD (os : List Out) {bf : List (List Nat)} {ops : List AOper} (h : vcOpsX true cx.C (fun _ _ => False) (fun R σ' => conflictR R bf = true ∧ Q .normal σ') os (marks ops) σ []) (hw : waits ops = true := by rfl) : regC P cx (some bf) ops Q σ := regC_WD (vcOpsP_regD (by rw [vcOpsX_eq] at h; exact h)) hw

def keepS (s : List (Nat × Bool × AV)) : List Nat → List (Nat × Bool × AV)
  | [] => []
  | k :: ks => match getS s k with
    | some e => (k, e) :: keepS s ks
    | none => keepS s ks
def overH (h : List (Nat × HO)) : List (Nat × HO) → List (Nat × HO)
  | [] => h
  | (n, o) :: r => overH (setH h n o) r
/-- A loop: the slots that stay, the slots and boxes that change. -/
theorem vc_loopK {b : AC} (ks : List Nat) (X : Type) (sl : X → List (Nat × Bool × AV)) (hp : X → List (Nat × HO)) (I : X → Prop) (μ : X → Nat) (x0 : X) (h0 : I x0) (hs : Sub cx.B σ ⟨sl x0 ++ keepS σ.s ks, overH σ.h (hp x0), σ.d⟩)
    (h : ∀ x, I x → vcX P cx b (seqQ (fun σ' => ∃ x', I x' ∧ μ x' < μ x ∧ Sub cx.B σ' ⟨sl x' ++ keepS σ.s ks, overH σ.h (hp x'), σ.d⟩) Q) ⟨sl x ++ keepS σ.s ks, overH σ.h (hp x), σ.d⟩) : vcX P cx (.loop b) Q σ := by
  rw [vcX_eq] at h ⊢
  exact ⟨X, fun x => ⟨sl x ++ keepS σ.s ks, overH σ.h (hp x), σ.d⟩, I, μ, ⟨x0, h0, hs⟩, h⟩
theorem vc_loopX {b : AC} (X : Type) (st : X → St) (I : X → Prop) (μ : X → Nat) (x0 : X) (h0 : I x0) (hs : Sub cx.B σ (st x0)) (h : ∀ x, I x → vcX P cx b (seqQ (fun σ' => ∃ x', I x' ∧ μ x' < μ x ∧ Sub cx.B σ' (st x')) Q) (st x)) : vcX P cx (.loop b) Q σ := by
  rw [vcX_eq] at h ⊢
  exact ⟨X, st, I, μ, ⟨x0, h0, hs⟩, h⟩
end
section
variable {P : Program} {cx : Cx} {Q : AE → St → Prop} {σ σ' : St} {C : FuncId → List D → Out → Prop}
theorem vc_cg {c : AC} (h : σ = σ') : vcX P cx c Q σ = vcX P cx c Q σ' := by rw [h]
theorem regC_cg {bf : Option (List (List Nat))} {ops : List AOper} (h : σ = σ') : regC P cx bf ops Q σ = regC P cx bf ops Q σ' := by rw [h]
theorem seqQ_cg {K : St → Prop} {e e' : AE} (h : e = e') (h2 : σ = σ') : seqQ K Q e σ = seqQ K Q e' σ' := by rw [h, h2]
theorem blockQ_cg {id : Nat} {e e' : AE} (h : e = e') (h2 : σ = σ') : blockQ id Q e σ = blockQ id Q e' σ' := by rw [h, h2]
theorem endH_cg {fn : AF} {K : HOut → List (Nat × HO) → Prop} {e e' : AE} (h : e = e') (h2 : σ = σ') : endH P C fn K e σ = endH P C fn K e' σ' := by rw [h, h2]
theorem leaveQ_cg {fn : AF} {K : HOut → List (Nat × HO) → Prop} {u u' : Option D} {d d' : List DE} {s s' : List (Nat × Bool × AV)} {hp hp' : List (Nat × HO)} (h : u = u') (h2 : d = d') (h3 : s = s') (h4 : hp = hp') : leaveQ P C fn K u d s hp = leaveQ P C fn K u' d' s' hp' := by rw [h, h2, h3, h4]
theorem leaveK_cg {fn : AF} {K : HOut → List (Nat × HO) → Prop} {u u' : Option D} {d : List DE} {s : List (Nat × Bool × AV)} {hp hp' : List (Nat × HO)} (h : u = u') (h4 : hp = hp') : leaveK P C fn K d s u hp = leaveK P C fn K d s u' hp' := by rw [h, h4]
theorem endD_cg {res : List RV} {K : Option D → List (Nat × HO) → Prop} {u u' : Option D} {e e' : AE} (h0 : u = u') (h : e = e') (h2 : σ = σ') : endD res K u e σ = endD res K u' e' σ' := by rw [h0, h, h2]
theorem endR_cg {res : List RV} {K : Option D → List (Nat × HO) → Prop} {u u' : Option D} {e e' : AE} (h0 : u = u') (h : e = e') (h2 : σ = σ') : endR res K u e σ = endR res K u' e' σ' := by rw [h0, h, h2]
theorem vcOp_cg {ao : AOper} {Qp : D → Prop} {K : Rec → St → Prop} (h : σ = σ') : vcOp C σ ao Qp K = vcOp C σ' ao Qp K := by rw [h]
theorem vcOps_cg {ops : List AOper} {Qp : D → St → Prop} {K : List Rec → St → Prop} {R R' : List Rec} (h : σ = σ') (h2 : R = R') : vcOps C Qp K ops σ R = vcOps C Qp K ops σ' R' := by rw [h, h2]
theorem vcOpsO_cg {ops : List AOper} {Qp : D → St → Prop} {K : List Rec → St → Prop} {os os' : List Out} {R R' : List Rec} (h0 : os = os') (h : σ = σ') (h2 : R = R') : vcOpsO C Qp K os ops σ R = vcOpsO C Qp K os' ops σ' R' := by rw [h0, h, h2]
theorem vcOpsX_cg {dr : Bool} {ops ops' : List (Bool × AOper)} {Qp : D → St → Prop} {K : List Li → St → Prop} {os os' : List Out} {R R' : List Li} (h0 : os = os') (h1 : ops = ops') (h : σ = σ') (h2 : R = R') : vcOpsX dr C Qp K os ops σ R = vcOpsX dr C Qp K os' ops' σ' R' := by rw [h0, h1, h, h2]
end
attribute [congr] loopP_congr vc_cg regC_cg seqQ_cg blockQ_cg endH_cg leaveQ_cg leaveK_cg endD_cg endR_cg vcOp_cg vcOps_cg vcOpsO_cg vcOpsX_cg
theorem marks_nil : marks [] = [] := by rw [marks]
theorem marks_cons (o : AOper) (r : List AOper) : marks (o :: r) = (splitG o.dst r, o) :: marks r := by rw [marks]
attribute [simp] splitG marks_nil marks_cons vcOpsX_nil vcOpsX_cons addL keepS overH doms subS subH subDs rho assocN newN okN
end Go.Proofs.Ytbfjmachkbhfnaa.AL
end

section
namespace Go.Proofs.Ytbfjmachkbhfnaa.AL
open Go

/-! Regions with calls in sight of the boxes; ranges over functions. -/
theorem exS : ∃ f : (Program → Cx → (AE → St → Prop) → List Out → List (Bool × AOper) → St → Prop), f = vcSP := ⟨_, rfl⟩
/-- The same, closed to the kernel's eye. -/
noncomputable def vcSX : Program → Cx → (AE → St → Prop) → List Out → List (Bool × AOper) → St → Prop := Classical.choose exS
theorem vcSX_eq : vcSX = vcSP := Classical.choose_spec exS
/-- A region in the order of the text, that waits. -/
def regS (P : Program) (cx : Cx) (ops : List AOper) (Q : AE → St → Prop) (σ : St) : Prop := vcX P cx (.sregion ops) Q σ
theorem regS_path {P : Program} {cx : Cx} {ops : List AOper} {Q : AE → St → Prop} {σ : St} (os : List Out) (h : vcSX P cx Q os (marks ops) σ) : regS P cx ops Q σ := by
  unfold regS; rw [vcX_eq]; exact ⟨os, by rw [vcSX_eq] at h; exact h⟩
theorem vcSX_nil (P : Program) (cx : Cx) (Q : AE → St → Prop) (os : List Out) (s : List (Nat × Bool × AV)) (h : List (Nat × HO)) (d : List DE) : vcSX P cx Q os [] ⟨s, h, d⟩ = Q .normal ⟨s, h, d⟩ := by
  rw [vcSX_eq]; cases os <;> rw [vcSP]
theorem vcSX_cons (P : Program) (cx : Cx) (Q : AE → St → Prop) (os : List Out) (fl : Bool) (dst : Option Nat) (gd : Option (Nat × Bool)) (k : AK) (r : List (Bool × AOper)) (s : List (Nat × Bool × AV)) (h : List (Nat × HO)) (d : List DE) :
    vcSX P cx Q os ((fl, ⟨dst, gd, k⟩) :: r) ⟨s, h, d⟩ = (match gEff s gd with
    | none => False
    | some (false, _) => match k with
      | .call _ _ => vcSX P cx Q os.tail r ⟨putS s dst (false, .d (.lit (.bool false))), h, d⟩
      | .panic _ | .defer _ _ => False
      | _ => vcSX P cx Q os r ⟨putS s dst (false, .d (.lit (.bool false))), h, d⟩
    | some (true, _) => match k with
      | .call f args => match os with
        | [] => False
        | o :: os' => match evL s (f :: args) with
          | some (gs, fv :: vs) => match calleeA fv vs with
            | some (fid, all) => match argsD h all with
              | some (ds, snap) => (allT gs ∧ cx.C fid ds o) ∧ match o with
                | .ret d' => (snap = true → Free d') ∧ vcSX P cx Q os' r ⟨putS s dst (true, .d d'), h, d⟩
                | .pan d' => (snap = true → Free d') ∧ Q (.pan d') ⟨s, h, d⟩
              | none => False
            | none => False
          | _ => False
      | .op x => match evL s x.opds with
        | none => False
        | some (gs, vs) => match stepV h x vs with
          | none => False
          | some e => (gcond x gs vs ∧ e.c) ∧ match fl with
            | true => (match dst, e.v with
              | some t, .d (.lit (.bool c)) => (if c = true then vcSX P cx Q os r ⟨(t, true, .d (.lit (.bool true))) :: s, updH h e.up, d⟩ else True) ∧
                (if c = false then vcSX P cx Q os r ⟨(t, true, .d (.lit (.bool false))) :: s, updH h e.up, d⟩ else True)
              | _, _ => False)
            | false => vcSX P cx Q os r ⟨putS s dst (true, e.v), updH h e.up, d⟩
      | .icall f args => match evL s (f :: args) with
        | some (gs, fv :: vs) => allT gs ∧ match calleeA fv vs with
          | some (fid, all) => icallP P cx (vcSX P cx Q os r) Q dst s h d fid all
          | none => False
        | _ => False
      | .ycall f args => match evL s (f :: args) with
        | some (gs, .d (.fn (.yield l) [] []) :: vs) => allT gs ∧ l = cx.l ∧ cx.Y vs h (ycallK (vcSX P cx Q os r) dst s d)
        | _ => False
      | .panic x => gd = none ∧ match evO s x with
        | some (true, .d (.ifc t y)) => Q (.pan (.ifc t y)) ⟨s, h, d⟩
        | _ => False
      | .defer f args => gd = none ∧ dst = none ∧ cx.top = true ∧ match evL s (f :: args) with
        | some (gs, fv :: vs) => allT gs ∧ match deferA fv vs with
          | some de => vcSX P cx Q os r ⟨s, h, de :: d⟩
          | none => False
        | _ => False) := by
  simp only [vcSX_eq]
  conv => lhs; unfold vcSP
  rfl
def asgK (nl : Nat) (B : Nat → (AE → St → Prop) → St → Prop) (K : Bool → List (Nat × HO) → Prop) (h : List (Nat × HO)) : AE → St → Prop := fun e τ => match e with
  | .normal => look τ.h nl = some (.obj 1) ∧ B (newName h) (roundQ nl K) ⟨τ.s, setH τ.h nl (.obj 2), τ.d⟩
  | _ => False
section
variable {P : Program} {cx : Cx} {Q : AE → St → Prop} {s : List (Nat × Bool × AV)} {h : List (Nat × HO)} {d : List DE} {R : St → Prop}
theorem go_sregion' (ops : List AOper) : vcX P cx (.sregion ops) Q ⟨s, h, d⟩ = regS P cx ops Q ⟨s, h, d⟩ := rfl
theorem icallK_ret {dst : Option Nat} {v : AV} {h' : List (Nat × HO)} : icallK R Q dst s d (.ret v) h' = R ⟨putS s dst (true, v), h', d⟩ := rfl
theorem icallK_pan {dst : Option Nat} {x : D} {h' : List (Nat × HO)} : icallK R Q dst s d (.pan x) h' = Q (.pan x) ⟨s, h', d⟩ := rfl
theorem ycallK_eq {dst : Option Nat} {b : Bool} {h' : List (Nat × HO)} : ycallK R dst s d b h' = R ⟨putS s dst (true, .d (.lit (.bool b))), h', d⟩ := rfl
theorem regS_cg {ops : List AOper} {σ σ' : St} (h : σ = σ') : regS P cx ops Q σ = regS P cx ops Q σ' := by rw [h]
theorem icallP_cg {dst : Option Nat} {s s' : List (Nat × Bool × AV)} {h h' : List (Nat × HO)} {d d' : List DE} {fid : FuncId} {all all' : List AV} (e1 : s = s') (e2 : h = h') (e3 : d = d') (e4 : all = all') : icallP P cx R Q dst s h d fid all = icallP P cx R Q dst s' h' d' fid all' := by rw [e1, e2, e3, e4]
theorem vcSX_cg {ops ops' : List (Bool × AOper)} {os os' : List Out} {σ σ' : St} (h0 : os = os') (h1 : ops = ops') (h : σ = σ') : vcSX P cx Q os ops σ = vcSX P cx Q os' ops' σ' := by rw [h0, h1, h]
theorem yieldY_eq {ps : List Nat} {nl : Nat} {A B : Nat → (AE → St → Prop) → St → Prop} {args : List AV} {K : Bool → List (Nat × HO) → Prop} :
    yieldY ps nl s A B args h K = (look h nl = some (.obj 1) ∧ args.length = ps.length ∧ A (newName h) (asgK nl B K h) ⟨putSs s ps args, h, []⟩) := rfl
theorem asgK_n {nl : Nat} {B : Nat → (AE → St → Prop) → St → Prop} {K : Bool → List (Nat × HO) → Prop} {h0 : List (Nat × HO)} : asgK nl B K h0 .normal ⟨s, h, d⟩ = (look h nl = some (.obj 1) ∧ B (newName h0) (roundQ nl K) ⟨s, setH h nl (.obj 2), d⟩) := rfl
theorem roundQ_n {nl : Nat} {K : Bool → List (Nat × HO) → Prop} : roundQ nl K .normal ⟨s, h, d⟩ = (look h nl = some (.obj 2) ∧ K true (setH h nl (.obj 1))) := rfl
theorem roundQ_r {nl : Nat} {K : Bool → List (Nat × HO) → Prop} : roundQ nl K .ret ⟨s, h, d⟩ = (look h nl = some (.obj 2) ∧ K false (setH h nl (.obj 3))) := rfl
theorem roundQ_e {nl i : Nat} {K : Bool → List (Nat × HO) → Prop} : roundQ nl K (.exit i) ⟨s, h, d⟩ = (look h nl = some (.obj 2) ∧ K false (setH h nl (.obj (i + 4)))) := rfl
theorem rangeQ_pan {nd nl : Nat} {x : D} {h' : List (Nat × HO)} : rangeQ nd nl s d Q (.pan x) h' = Q (.pan x) ⟨s, h', .mark nd :: d⟩ := rfl
theorem rangeQ_ret {nd nl : Nat} {v : AV} {h' : List (Nat × HO)} : rangeQ nd nl s d Q (.ret v) h' = (match look h' nl with
    | some (.obj 1) => Q .normal ⟨s, setH h' nl .dead, .mark nd :: d⟩
    | some (.obj 3) => Q .ret ⟨s, setH h' nl .dead, .mark nd :: d⟩
    | some (.obj (id + 4)) => Q (.exit id) ⟨s, setH h' nl .dead, .mark nd :: d⟩
    | _ => False) := rfl
theorem vc_range {g : Opd} {ps : List Nat} {asg b : AC} (T : Cx → List AV → List (Nat × HO) → (HOut → List (Nat × HO) → Prop) → Prop) {fv : AV} {fid : FuncId} {all : Nat → List AV} (hT : HCall P fid T)
    (htop : cx.top = true) (hev : evO s g = some (true, fv)) (hc : ∀ l, calleeA fv [.d (.fn (.yield l) [] [])] = some (fid, all l))
    (hk : ∀ l, T { B := newName h + 2, top := true, l := l, C := cx.C, Y := yieldY ps (newName h + 1) s (fun B => vcX P { cx with B := B, top := false } asg) (fun B => vcX P { cx with B := B, top := false } b) }
      (all l) (setH (setH h (newName h) (.obj 0)) (newName h + 1) (.obj 1)) (rangeQ (newName h) (newName h + 1) s d Q)) : vcX P cx (.range g ps asg b) Q ⟨s, h, d⟩ := by
  rw [vcX_eq] at hk ⊢
  unfold vc
  refine ⟨htop, ?_⟩
  simp only [hev]
  intro l
  simp only [hc]
  exact ⟨T, hT, hk l⟩
theorem TF_eq {fn : AF} {all : List AV} {K : HOut → List (Nat × HO) → Prop} : TF P fn cx all h K = (all.length ≤ fn.nt ∧ vcX P cx fn.body (endH P cx.C fn K) ⟨argA all 0, h, []⟩) := by rw [vcX_eq]; rfl
end
attribute [congr] regS_cg icallP_cg vcSX_cg
attribute [simp] go_sregion' vcSX_nil vcSX_cons deferA icallK_ret icallK_pan ycallK_eq yieldY_eq asgK_n roundQ_n roundQ_r roundQ_e rangeQ_pan rangeQ_ret putSs TF_eq
end Go.Proofs.Ytbfjmachkbhfnaa.AL
end

section
namespace Go.Proofs.Ytbfjmachkbhfnaa.AL
open Go
/-- A part that waits. -/
def stop (l : List (Bool × AOper)) : List (Bool × AOper) := l
def cutS : Nat → List (Bool × AOper) → List (Bool × AOper)
  | _, [] => []
  | 0, x :: r => stop (x :: r)
  | k + 1, x :: r => x :: cutS k r
theorem cutS_eq : ∀ (k : Nat) (l : List (Bool × AOper)), cutS k l = l
  | 0, [] => rfl
  | _ + 1, [] => rfl
  | 0, _ :: _ => rfl
  | k + 1, x :: r => by rw [cutS, cutS_eq k r]
theorem stop_cut (k : Nat) (l : List (Bool × AOper)) : stop l = cutS k l := (cutS_eq k l).symm
theorem cutS_nil (k : Nat) : cutS k [] = [] := by cases k <;> rfl
theorem cutS_z (x : Bool × AOper) (r : List (Bool × AOper)) : cutS 0 (x :: r) = stop (x :: r) := rfl
theorem cutS_s (k : Nat) (x : Bool × AOper) (r : List (Bool × AOper)) : cutS (k + 1) (x :: r) = x :: cutS k r := rfl
attribute [simp] cutS_nil cutS_z cutS_s
section
variable {P : Program} {cx : Cx} {Q : AE → St → Prop} {σ : St}
theorem vc_pathK (k : Nat) (os : List Out) {ops : List AOper} (h : vcOpsX false cx.C (fun d σ => Q (.pan d) σ) (fun _ σ => Q .normal σ) os (cutS k (marks ops)) σ []) (hw : waits ops = true := by rfl) : regC P cx none ops Q σ := vc_path os (by rw [cutS_eq] at h; exact h) hw
theorem vc_pathDK (k : Nat) (os : List Out) {bf : List (List Nat)} {ops : List AOper} (h : vcOpsX true cx.C (fun _ _ => False) (fun R σ' => conflictR R bf = true ∧ Q .normal σ') os (cutS k (marks ops)) σ []) (hw : waits ops = true := by rfl) : regC P cx (some bf) ops Q σ := vc_pathD os (by rw [cutS_eq] at h; exact h) hw
end
end Go.Proofs.Ytbfjmachkbhfnaa.AL
end

section
namespace Go.Proofs.Ytbfjmachkbhfnaa.AL
open Go Go.Deep
/-! From the reading of an argument to a datum. -/
section
variable {H : Type} {enc : TypeId × Value → H} {P : Program} {w : World}
/-- All cells that there are. -/
def allI (w : World) : Addr → Prop := fun a => (w.cell? a).isSome = true
/-- The cells at hand stand for a datum of this kind. -/
def Shows {α : Type} (enc : TypeId × Value → H) (P : Program) (w : World) (t : TypeId) (f : α → D) : Prop :=
  ∀ (fuel : Nat) (cs : List Value) (x : DataW H × List MemPlace), DataW.trod enc P w 0 (fun _ => true) true fuel t cs = some x → ∃ y : α, RepL (allI w) w (f y).cells cs.toArray
theorem shows_slice {α : Type} {t e : TypeId} {f : α → D} {sz : Nat} (ht : P.underlying t = some (.slice e)) (hc : P.cellsOf e = sz) (hz : ∀ y, (f y).cells.length = sz) (h1 : ∀ y, ∀ c ∈ (f y).cells, c.one = true)
    (he : Shows enc P w e f) : Shows enc P w t (fun l : List α => .sl sz (l.map f)) := by
  intro fuel cs x h
  rcases open_slice ht h with ⟨rfl, _⟩ | ⟨a, len, cap, m, n, Dt, Pl, rfl, _, hlc, hcm, hm, _, hel⟩
  · refine ⟨[], ⟨rfl, fun k c v h1 h2 => ?_⟩⟩
    cases k with
    | zero =>
      simp [D.cells] at h1 h2
      subst h1; subst h2
      exact LeD.nil sz _ _ _ .nil
    | succ k => simp [D.cells] at h1
  · rw [if_pos rfl] at hm
    subst hm
    -- the elements
    have hel' : ∀ i : Fin len, ∃ y : α, ∀ j c, (f y).cells[j]? = some c → ∃ v, w.cell? ((a.add (i * sz)).add j) = some v ∧ Rep (allI w) w c v := by
      intro i
      obtain ⟨cs', h3, h4⟩ := hel i (by omega)
      obtain ⟨y, hy⟩ := he _ _ _ h4
      refine ⟨y, fun j c hj => ?_⟩
      have hlen : cs'.length = (f y).cells.length := by simpa using hy.1
      have hjlt : j < (f y).cells.length := by
        rcases Nat.lt_or_ge j (f y).cells.length with h' | h'
        · exact h'
        · rw [List.getElem?_eq_none h'] at hj; cases hj
      have hv : cs'[j]? = some (cs'[j]'(by omega)) := List.getElem?_eq_getElem (by omega)
      refine ⟨cs'[j]'(by omega), ?_, hy.2 j c _ hj (by simpa using hv)⟩
      rw [hc] at h3
      obtain ⟨_, h5, h6⟩ := World.cells?_some h3
      rw [h6 j (by rw [hz] at hjlt; omega), hv]
    let l : List α := List.ofFn fun i : Fin len => Classical.choose (hel' i)
    have hll : l.length = len := by simp [l]
    have hcell : ∀ i (hi : i < len) j c, (f (l[i]'(by omega))).cells[j]? = some c → ∃ v, w.cell? ((a.add (i * sz)).add j) = some v ∧ Rep (allI w) w c v := by
      intro i hi
      have := Classical.choose_spec (hel' ⟨i, hi⟩)
      simpa [l] using this
    have hzz : ∀ e ∈ l.map f, e.cells.length = sz := by
      intro e he
      obtain ⟨y, _, rfl⟩ := List.mem_map.1 he
      exact hz y
    have hone : ∀ c ∈ D.flat (l.map f), c.one = true := by
      intro c hc
      obtain ⟨e, he, hc⟩ := List.mem_flatMap.1 hc
      obtain ⟨y, _, rfl⟩ := List.mem_map.1 he
      exact h1 y c hc
    -- a cell of the flat row
    have hflat : ∀ k c, (D.flat (l.map f))[k]? = some c → ∃ v, w.cell? (a.add k) = some v ∧ Rep (allI w) w c v := by
      intro k c hk
      have hlen := flat_len hzz
      have hkl : k < (D.flat (l.map f)).length := by
        rcases Nat.lt_or_ge k (D.flat (l.map f)).length with h' | h'
        · exact h'
        · rw [List.getElem?_eq_none h'] at hk; cases hk
      rw [hlen, List.length_map, hll] at hkl
      have hsz : 0 < sz := by
        rcases Nat.eq_zero_or_pos sz with h0 | h0
        · rw [h0] at hkl; omega
        · exact h0
      have hi : k / sz < len := (Nat.div_lt_iff_lt_mul hsz).2 hkl
      have hj : k % sz < sz := Nat.mod_lt _ hsz
      have e1 : k / sz * sz + k % sz = k := by rw [Nat.mul_comm]; exact Nat.div_add_mod k sz
      have hget : (l.map f)[k / sz]? = some (f (l[k / sz]'(by omega))) := by simp [hll, hi]
      have := flat_get hzz hget (k % sz) hj
      rw [e1, hk] at this
      obtain ⟨v, h3, h4⟩ := hcell (k / sz) hi (k % sz) c this.symm
      rw [add_add, e1] at h3
      exact ⟨v, h3, h4⟩
    refine ⟨l, ⟨rfl, fun k c v hk hv => ?_⟩⟩
    cases k with
    | succ k => simp [D.cells] at hk
    | zero =>
      simp [D.cells] at hk hv
      subst hk; subst hv
      refine .sl a (fun k => (w.cell? (a.add k)).getD undef) (by simp [hll]) hlc (by unfold maxLen at hcm; omega) (.inl rfl) hzz hone (fun k c hk => ?_) (fun k c hk => ?_)
      · obtain ⟨v, h3, _⟩ := hflat k c hk
        exact ⟨by simp [allI, h3], by simp [h3]⟩
      · obtain ⟨v, h3, h4⟩ := hflat k c hk
        simpa [h3] using h4
end
end Go.Proofs.Ytbfjmachkbhfnaa.AL
end

section
namespace Go.Proofs.Ytbfjmachkbhfnaa.AL
open Go Go.Deep Go.ChangeShapes Go.WideShapes
section
variable {H : Type} {enc : TypeId × Value → H} {P : Program} {w : World}
theorem repL_one {I : Addr → Prop} {d : D} {v : Value} (h : Rep I w d v) : RepL I w [d] #[v] := ⟨rfl, fun k c u h1 h2 => by
  cases k with
  | zero => simp at h1 h2; subst h1; subst h2; exact h
  | succ k => simp at h1⟩
theorem shows_int {t : TypeId} {k : IntKind} (ht : P.underlying t = some (.int k)) : Shows enc P w t (fun n : Int => .lit (.int k n)) := by
  intro fuel cs x h
  obtain ⟨n, rfl, _, hw⟩ := DataW.trod_int ht h
  refine ⟨n, repL_one (.lit ?_)⟩
  simpa [Sc, Lit.wf] using hw
theorem shows_bool {t : TypeId} (ht : P.underlying t = some .bool) : Shows enc P w t (fun b : Bool => .lit (.bool b)) := by
  intro fuel cs x h
  obtain ⟨b, rfl, _⟩ := DataW.trod_bool ht h
  exact ⟨b, repL_one (.lit trivial)⟩
theorem shows_u8 {t : TypeId} (ht : P.underlying t = some (.int .u8)) : Shows enc P w t dU := by
  intro fuel cs x h
  obtain ⟨n, rfl, _, hw⟩ := DataW.trod_int ht h
  have hw' : 0 ≤ n ∧ n ≤ 255 := by simpa [Lit.wf, IntKind.min, IntKind.max, IntKind.signed, IntKind.bits] using hw
  refine ⟨UInt8.ofNat n.toNat, repL_one ?_⟩
  have e : ((UInt8.ofNat n.toNat).toNat : Int) = n := by
    rw [UInt8.toNat_ofNat']; omega
  unfold dU
  rw [e]
  exact .lit (by simpa [Sc, Lit.wf] using hw)
theorem shows_map {α β : Type} {t : TypeId} {f : α → D} {g : β → D} (h : Shows enc P w t f) (hg : ∀ y, ∃ z, g z = f y) : Shows enc P w t g := by
  intro fuel cs x hx
  obtain ⟨y, hy⟩ := h fuel cs x hx
  obtain ⟨z, hz⟩ := hg y
  exact ⟨z, by rw [hz]; exact hy⟩
theorem repL_append {I : Addr → Prop} {ds es : List D} {xs ys : List Value} (h : RepL I w ds xs.toArray) (k : RepL I w es ys.toArray) : RepL I w (ds ++ es) (xs ++ ys).toArray := by
  have hl : xs.length = ds.length := by simpa using h.1
  refine ⟨by simp [hl]; have := k.1; simpa using this, fun i c v h1 h2 => ?_⟩
  simp at h2
  rcases Nat.lt_or_ge i ds.length with hi | hi
  · rw [List.getElem?_append_left hi] at h1
    rw [List.getElem?_append_left (by omega)] at h2
    exact h.2 i c v h1 (by simpa using h2)
  · rw [List.getElem?_append_right hi] at h1
    rw [List.getElem?_append_right (by omega), hl] at h2
    exact k.2 _ c v h1 (by simpa using h2)
/-- A struct of two fields. -/
theorem shows_struct2 {α β : Type} {t t0 t1 : TypeId} {f0 f1 : Field} {f : α → D} {g : β → D} (ht : P.underlying t = some (.struct #[f0, f1])) (e0 : f0.type = t0) (e1 : f1.type = t1) (o0 : f0.offset = 0) (o1 : f1.offset = P.cellsOf t0) (hc : P.cellsOf t = P.cellsOf t0 + P.cellsOf t1)
    (h0 : Shows enc P w t0 f) (h1 : Shows enc P w t1 g) : Shows enc P w t (fun y : α × β => .agg ((f y.1).cells ++ (g y.2).cells)) := by
  intro fuel cs x h
  obtain ⟨y0, y1, n, _, hl, k0, k1⟩ := trod_struct2 ht h
  rw [e0, o0, List.drop_zero] at k0
  rw [e1, o1] at k1
  obtain ⟨a, ha⟩ := h0 _ _ _ k0
  obtain ⟨b, hb⟩ := h1 _ _ _ k1
  refine ⟨(a, b), ?_⟩
  have e : cs = cs.take (P.cellsOf t0) ++ (cs.drop (P.cellsOf t0)).take (P.cellsOf t1) := by
    rw [List.take_of_length_le (l := cs.drop (P.cellsOf t0)) (by rw [List.length_drop]; omega), List.take_append_drop]
  rw [e]
  exact repL_append ha hb
/-- A struct of three fields. -/
theorem shows_struct3 {α β γ : Type} {t t0 t1 t2 : TypeId} {f0 f1 f2 : Field} {f : α → D} {g : β → D} {k : γ → D} (ht : P.underlying t = some (.struct #[f0, f1, f2])) (e0 : f0.type = t0) (e1 : f1.type = t1) (e2 : f2.type = t2) (o0 : f0.offset = 0) (o1 : f1.offset = P.cellsOf t0) (o2 : f2.offset = P.cellsOf t0 + P.cellsOf t1)
    (hc : P.cellsOf t = P.cellsOf t0 + P.cellsOf t1 + P.cellsOf t2)
    (h0 : Shows enc P w t0 f) (h1 : Shows enc P w t1 g) (h2 : Shows enc P w t2 k) : Shows enc P w t (fun y : α × β × γ => .agg ((f y.1).cells ++ ((g y.2.1).cells ++ (k y.2.2).cells))) := by
  intro fuel cs x h
  obtain ⟨y0, y1, y2, n, _, hl, k0, k1, k2⟩ := trod_struct3 ht h
  rw [e0, o0, List.drop_zero] at k0
  rw [e1, o1] at k1
  rw [e2, o2] at k2
  obtain ⟨a, ha⟩ := h0 _ _ _ k0
  obtain ⟨b, hb⟩ := h1 _ _ _ k1
  obtain ⟨c, hc'⟩ := h2 _ _ _ k2
  refine ⟨(a, b, c), ?_⟩
  have e : cs = cs.take (P.cellsOf t0) ++ ((cs.drop (P.cellsOf t0)).take (P.cellsOf t1) ++ (cs.drop (P.cellsOf t0 + P.cellsOf t1)).take (P.cellsOf t2)) := by
    rw [List.take_of_length_le (l := cs.drop (P.cellsOf t0 + P.cellsOf t1)) (by rw [List.length_drop]; omega), ← List.drop_drop, List.take_append_drop, List.take_append_drop]
  rw [e]
  exact repL_append ha (repL_append hb hc')
/-- An array of two. -/
theorem shows_array2 {α : Type} {t e : TypeId} {f : α → D} (ht : P.underlying t = some (.array 2 e)) (hc : P.cellsOf t = P.cellsOf e + P.cellsOf e) (he : Shows enc P w e f) : Shows enc P w t (fun y : α × α => .agg ((f y.1).cells ++ (f y.2).cells)) := by
  intro fuel cs x h
  obtain ⟨xs, n, _, _, hl, hx, k⟩ := DataW.trod_array ht h
  match xs, hx with
  | [y0, y1], _ =>
    have k0 := k 0 (by omega)
    have k1 := k 1 (by omega)
    simp only [Nat.zero_mul, List.drop_zero, Nat.one_mul] at k0 k1
    obtain ⟨a, ha⟩ := he _ _ _ (by simpa using k0)
    obtain ⟨b, hb⟩ := he _ _ _ (by simpa using k1)
    refine ⟨(a, b), ?_⟩
    have e : cs = cs.take (P.cellsOf e) ++ (cs.drop (P.cellsOf e)).take (P.cellsOf e) := by
      rw [List.take_of_length_le (l := cs.drop (P.cellsOf e)) (by rw [List.length_drop]; omega), List.take_append_drop]
    rw [e]
    exact repL_append ha hb
/-- A run of fields. -/
def ShowsR {α : Type} (enc : TypeId × Value → H) (P : Program) (w : World) (fs : List Field) (off : Nat) (g : α → List D) : Prop :=
  ∀ (n : Nat) (cs : List Value), (∀ fd ∈ fs, ∃ x, DataW.trod enc P w 0 (fun _ => true) true n fd.type ((cs.drop fd.offset).take (P.cellsOf fd.type)) = some x) → cs.length = off + (fs.map fun fd => P.cellsOf fd.type).sum →
    ∃ y, RepL (allI w) w (g y) (cs.drop off).toArray
theorem showsR_nil {off : Nat} : ShowsR enc P w [] off (fun _ : Unit => []) := by
  intro n cs _ hl
  refine ⟨(), ⟨?_, fun k c v hk => by simp at hk⟩⟩
  have : cs.length = off := by simpa using hl
  simp; omega
theorem showsR_cons {α β : Type} {fd : Field} {fs : List Field} {off off' : Nat} {t : TypeId} {f : α → D} {g : β → List D} (ho : fd.offset = off) (ht : fd.type = t) (hs : off + P.cellsOf t = off') (h : Shows enc P w t f) (hr : ShowsR enc P w fs off' g) :
    ShowsR enc P w (fd :: fs) off (fun y : α × β => (f y.1).cells ++ g y.2) := by
  intro n cs hall hl
  obtain ⟨x, hx⟩ := hall fd (by simp)
  rw [ho, ht] at hx
  obtain ⟨a, ha⟩ := h _ _ _ hx
  obtain ⟨b, hb⟩ := hr n cs (fun fd hfd => hall fd (by simp [hfd])) (by rw [hl]; simp [ht]; omega)
  refine ⟨(a, b), ?_⟩
  have e : cs.drop off = (cs.drop off).take (P.cellsOf t) ++ cs.drop off' := by
    rw [← hs, ← List.drop_drop, List.take_append_drop]
  rw [e]
  exact repL_append ha hb
/-- A struct. -/
theorem shows_structN {α : Type} {t : TypeId} {fs : Array Field} {g : α → List D} (ht : P.underlying t = some (.struct fs)) (hc : P.cellsOf t = (fs.toList.map fun fd => P.cellsOf fd.type).sum) (h : ShowsR enc P w fs.toList 0 g) : Shows enc P w t (fun y => .agg (g y)) := by
  intro fuel cs x hx
  obtain ⟨xs, n, _, _, hl, hlen, hf⟩ := DataW.trod_struct ht hx
  obtain ⟨y, hy⟩ := h n cs (fun fd hfd => by
    obtain ⟨i, hi⟩ := List.getElem?_of_mem hfd
    have hlt : i < xs.length := by
      rw [hlen]
      rcases Nat.lt_or_ge i fs.size with h' | h'
      · exact h'
      · rw [List.getElem?_eq_none (by simpa using h')] at hi; cases hi
    exact ⟨xs[i], by simpa [hlt] using hf i fd (by simpa using hi)⟩) (by rw [hl, hc]; simp)
  exact ⟨y, by simpa [D.cells] using hy⟩
theorem shows_str {t : TypeId} (ht : P.underlying t = some .string) : Shows enc P w t (fun s : List UInt8 => .lit (.string ⟨s.toArray⟩)) := by
  intro fuel cs x h
  cases fuel with
  | zero => simp [DataW.trod] at h
  | succ fuel =>
    unfold DataW.trod at h
    rw [ht] at h
    match cs, h with
    | [.string s], h =>
      simp only at h
      split at h
      · rename_i hs
        refine ⟨s.data.toList, ⟨rfl, fun k c v hk hv => ?_⟩⟩
        cases k with
        | zero =>
          simp [D.cells] at hk hv
          subst hk; subst hv
          exact .lit hs
        | succ k => simp [D.cells] at hk
      · cases h
end
end Go.Proofs.Ytbfjmachkbhfnaa.AL
end

section
namespace Go.Proofs.Ytbfjmachkbhfnaa.AL
open Go Go.ChangeShapes Go.WideShapes Go.RowKit
/-! From the contract of a law to what a row asks. -/
/-- A value that is read at this type stands for a datum of this kind. -/
def Sees (P : Program) (t : TypeId) (K : D → Prop) : Prop := ∀ {H : Type} (enc : TypeId × Value → H) (W : World) (base : Nat) (v : Value) (d : DataW H) (p : List MemPlace),
  Value.okWide P W .any base t v → DataW.Trod enc P W 0 (fun _ => true) true t v d p → ∃ x, K x ∧ Rep (allI W) W x v
theorem sees_agg {α : Type} {P : Program} {t : TypeId} {f : α → D} (hr : (match P.underlying t with | some (.struct _) | some (.array _ _) => true | _ => false) = true) (hs : ∀ {H : Type} {enc : TypeId × Value → H} {w : World}, Shows enc P w t f)
    (hf : ∀ y, (f y).isAgg = true) (h1 : ∀ y, ∀ c ∈ (f y).cells, c.one = true) : Sees P t (fun x => ∃ y, x = f y) := by
  intro H enc W base v d p hv ht
  obtain ⟨fuel, ht⟩ := ht
  obtain ⟨y, hy⟩ := hs _ _ _ ht
  have hagg : ∃ cs, v = .agg cs := by
    unfold Value.okWide at hv
    cases h : P.underlying t with
    | none => rw [h] at hr; cases hr
    | some d =>
      rw [h] at hr hv
      cases d <;> first
        | (cases hr; done)
        | (obtain ⟨cs, e, _⟩ := hv; exact ⟨cs, e⟩)
  obtain ⟨cs, rfl⟩ := hagg
  refine ⟨f y, ⟨y, rfl⟩, ?_⟩
  have hy' : RepL (allI W) W (f y).cells cs := by simpa [Value.cells] using hy
  have hc := h1 y
  have hf' := hf y
  generalize f y = x at *
  cases x <;> simp [D.isAgg] at hf'
  exact .agg hy'.1 hc hy'.2
theorem sees_one {α : Type} {P : Program} {t : TypeId} {f : α → D} (hs : ∀ {H : Type} {enc : TypeId × Value → H} {w : World}, Shows enc P w t f) (hf : ∀ y, (f y).cells = [f y])
    (hv : ∀ (W : World) (base : Nat) (v : Value), Value.okWide P W .any base t v → v.cells = #[v]) : Sees P t (fun x => ∃ y, x = f y) := by
  intro H enc W base v d p hval ht
  obtain ⟨fuel, ht⟩ := ht
  obtain ⟨y, hy⟩ := hs _ _ _ ht
  refine ⟨f y, ⟨y, rfl⟩, ?_⟩
  rw [hf y, hv W base v hval] at hy
  exact hy.2 0 _ v rfl rfl
theorem sees_slice {α : Type} {P : Program} {t e : TypeId} {sz : Nat} {f : α → D} (hu : P.underlying t = some (.slice e)) (hs : ∀ {H : Type} {enc : TypeId × Value → H} {w : World}, Shows enc P w t (fun l : List α => .sl sz (l.map f))) :
    Sees P t (fun x => ∃ l : List α, x = .sl sz (l.map f)) :=
  sees_one hs (fun _ => rfl) (fun W base v hv => by
    unfold Value.okWide at hv
    rw [hu] at hv
    unfold Cell.okWide at hv
    rw [hu] at hv
    cases v <;> first
      | rfl
      | (exfalso; simp [Cell.ok, hu] at hv; done))
theorem sees_int {P : Program} {t : TypeId} {k : IntKind} (hu : P.underlying t = some (.int k)) : Sees P t (fun x => ∃ n : Int, (k.min ≤ n ∧ n ≤ k.max) ∧ x = .lit (.int k n)) := by
  intro H enc W base v d p hval ht
  obtain ⟨n, rfl, _, _, hwf⟩ := open_int hu hval ht
  have hr : k.min ≤ n ∧ n ≤ k.max := by simpa [Lit.wf] using hwf
  exact ⟨_, ⟨n, hr, rfl⟩, .lit hr⟩
theorem sees_bool {P : Program} {t : TypeId} (hu : P.underlying t = some .bool) : Sees P t (fun x => ∃ b : Bool, x = .lit (.bool b)) := by
  intro H enc W base v d p hval ht
  obtain ⟨b, rfl, _⟩ := open_bool hu hval ht
  exact ⟨_, ⟨b, rfl⟩, .lit trivial⟩

theorem trodAll_below {H : Type} {enc : TypeId × Value → H} {P : Program} (hl : laidOutB P = true) {W W' : World} (hb : Below W.heap.size W W') : ∀ {ts : List TypeId} {vs : List Value} {ds : List (DataW H)} {ps : List MemPlace}, (∀ t ∈ ts, P.readableRec t = true ∧ t < P.types.size) →
    DataW.TrodAll enc P W 0 (fun _ => true) true ts vs ds ps → (∀ x ∈ ps, x.block < W.heap.size) → DataW.TrodAll enc P W' 0 (fun b => decide (b < W.heap.size)) true ts vs ds ps
  | [], vs, ds, ps, _, h, _ => by
    obtain ⟨rfl, rfl, rfl⟩ := trodAll_nil h
    exact rfl
  | t :: ts, vs, ds, ps, hr, h, hlt => by
    obtain ⟨v, vs', d, ds', p, q, rfl, rfl, rfl, h1, h2⟩ := trodAll_cons h
    exact ⟨p, q, Below.trod hl (hr t (by simp)).1 (hr t (by simp)).2 h1 hb (fun x hx => hlt x (by simp [hx])), trodAll_below hl hb (fun t ht => hr t (by simp [ht])) h2 (fun x hx => hlt x (by simp [hx])), rfl⟩

theorem sees_all {H : Type} {enc : TypeId × Value → H} {P : Program} {W : World} {base : Nat} : ∀ {ts : List TypeId} {Ks : List (D → Prop)} {vs : List Value} {ds : List (DataW H)} {ps : List MemPlace}, All2 (fun t K => Sees P t K) ts Ks →
    (∀ (j : Nat) (t : TypeId) (v : Value), ts[j]? = some t → vs[j]? = some v → Value.okWide P W .any base t v) → DataW.TrodAll enc P W 0 (fun _ => true) true ts vs ds ps →
    ∃ xs : List D, All2 (fun (K : D → Prop) d => K d) Ks xs ∧ vs.length = xs.length ∧ ∀ (k : Nat) (c : D) (v : Value), xs[k]? = some c → vs[k]? = some v → Rep (allI W) W c v
  | [], [], vs, ds, ps, .nil, _, h => by
    obtain ⟨rfl, rfl, rfl⟩ := trodAll_nil h
    exact ⟨[], .nil, rfl, fun k c v hk => by simp at hk⟩
  | t :: ts, K :: Ks, vs, ds, ps, .cons h1 h2, hv, h => by
    obtain ⟨v, vs', d, ds', p, q, rfl, rfl, rfl, g1, g2⟩ := trodAll_cons h
    obtain ⟨x, hx, hr⟩ := h1 enc W base v d p (hv 0 t v rfl rfl) g1
    obtain ⟨xs, e1, e2, e3⟩ := sees_all h2 (fun j t v hj hv' => hv (j + 1) t v (by simpa using hj) (by simpa using hv')) g2
    refine ⟨x :: xs, .cons hx e1, by simp [e2], fun k c u hk hu => ?_⟩
    cases k with
    | zero => simp at hk hu; subst hk; subst hu; exact hr
    | succ k => exact e3 k c u (by simpa using hk) (by simpa using hu)

theorem below_of_grow {w w' : World} (h : Grow w w') : Below w.heap.size w w' := ⟨h.os, h.tape, h.output, h.size, h.block⟩

theorem law_contract {H : Type} {enc : TypeId × Value → H} {P : Program} {fid : FuncId} {F : Func} {s : ChangeSpec} {ts : List TypeId} {Ks : List (D → Prop)} {tb : TypeId} (hl : laidOutB P = true)
    (hparams : F.params.toList = ts) (hres : F.resultTypes.toList = [tb]) (hb : P.underlying tb = some .bool) (hvars : s.vars = [])
    (hfn : ∀ ds : List (DataW H), ds.length = ts.length → s.fn H ds = { results := [.lit (.bool true)], args := ds })
    (hread : (ts.all fun t => P.readableRec t && decide (t < P.types.size)) = true) (hS : All2 (fun t K => Sees P t K) ts Ks)
    (hP : ∀ ds, All2 (fun (K : D → Prop) d => K d) Ks ds → PCall P fid ds (.ret (dB true)))
    (W : World) (base : Nat) (args : Array Value) (ds gs : List (DataW H)) (before : List MemPlace)
    (hval : ∀ (j : Nat) t v, F.params[j]? = some t → args[j]? = some v → Value.okWide P W .any base t v)
    (hW : DataW.Whole enc P F.params.toList s.vars false W args.toList ds gs before) :
    Calls P fid args W fun e W' => ∃ v, e = .returned v ∧ s.post enc P F false true false false W args v W' := by
  have hW' := hW
  have hlt := fun x hx => hW'.lt x hx
  obtain ⟨p, q, hA, hV, rfl, _, _⟩ := hW
  rw [hvars] at hV
  obtain ⟨rfl, rfl⟩ := trodVars_none hV
  rw [hparams] at hA
  obtain ⟨xs, e1, e2, e3⟩ := sees_all hS (fun j t v hj hv => hval j t v (by rw [← hparams] at hj; simpa using hj) (by simpa using hv)) hA
  refine ((hP xs e1).2 (allI W) W args (fun a h => h) ⟨by simpa using e2, fun k c v hk hv => e3 k c v hk (by simpa using hv)⟩).mono fun e W' hR => ?_
  obtain ⟨I', v, _, _, _, hg, he, hv⟩ := hR
  have hbw := below_of_grow hg
  have hvb : v = .bool true := by cases hv; rfl
  subst hvb
  have hlen : ds.length = ts.length := (trodAll_length hA).2
  have hf := hfn ds hlen
  have hsz : F.resultTypes.size = 1 := by have := congrArg List.length hres; simpa using this
  refine ⟨_, he, ⟨ds, [], _, [], p, [], hW', ?_, ?_, ?_, hbw.frame _, fun h => by cases h⟩⟩
  · rw [List.append_nil, hf, hres, hsz]
    exact trodAll_mk1 (shut_bool hb true)
  · rw [List.append_nil, hf, hparams]
    exact trodAll_below hl hbw (fun t ht => by have := List.all_eq_true.1 hread t ht; simpa using this) hA (fun x hx => hlt x (by simp [hx]))
  · rw [List.append_nil, hf, hvars]; rfl
end Go.Proofs.Ytbfjmachkbhfnaa.AL
end
