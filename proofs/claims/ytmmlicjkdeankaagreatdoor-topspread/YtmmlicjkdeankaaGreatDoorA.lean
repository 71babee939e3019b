/- Part of the proof: AL1, AL2, AL3, AL4, AL5, AL6, AL7, AL8, AL9, AL10, AL23. -/
import Derived.RangeFuncOwn
import Derived.OrdersIn
import Derived.Laws.AppendOwn
import Derived.Laws.IdiomCopy
import Derived.Deep.MidRow
import Derived.Lib.DecodeNEq
import Derived.MapKept
import Derived.Laws.BytesArg
import Derived.Laws.Tables
import Derived.Great.BuildSlice
import Derived.DeepKeys
import Derived.Laws.StructEq
import Derived.Great.FillDense
set_option linter.unnecessarySimpa false
set_option linter.unusedVariables false
set_option linter.unusedSimpArgs false
namespace Go.Proofs.YtmmlicjkdeankaaGreatDoor.AL
open Go
section
inductive D where
 | lit (v:Value)
 | nil (sz:Nat)
 | sl (sz:Nat) (es:List D)
 | agg (cs:List D)
 | tup (ds:List D)
 | ip (x:D)
 | fn (f:Fn) (first caps:List D)
 | ifc (t:TypeId) (d:D)
 | any
 deriving Inhabited
def D.cells:D->List D
 | .agg cs=>cs
 | d=>[d]
def D.one:D->Bool
 | .agg _ | .tup _=>false
 | _=>true
def D.flat (es:List D):List D:=es.flatMap D.cells
def Sc:Value->Prop
 | .int k n=>k.min<=n∧n<=k.max
 | .bool _=>True
 | .string s=>s.size<=9223372036854775807
 | .pointer none | .nilFunc | .nilIface | .map none=>True
 | _=>False
inductive Rep (I:Addr->Prop) (w:World):D->Value->Prop
 | lit {v:Value}(h:Sc v):Rep I w (.lit v) v
 | nil {sz:Nat}:Rep I w (.nil sz) (.slice none 0 0)
 | sl {sz:Nat}{es:List D}{n:Nat}{A:Option Addr}{cap:Nat}(ad:Addr) (vs:Nat->Value) (hn:n=es.length) (hc:n<=cap) (hm:cap<=9223372036854775807)
   (hA:A=some ad∨es=[]) (hz:∀ e∈es,e.cells.length=sz) (h1:∀ c∈D.flat es,c.one=true)
   (hI:∀ k c,(D.flat es)[k]?=some c->I (ad.add k)∧w.cell? (ad.add k)=some (vs k))
   (hr:∀ k c,(D.flat es)[k]?=some c->Rep I w c (vs k)):Rep I w (.sl sz es) (.slice A n cap)
 | agg {cs:List D}{vs:Array Value}(hl:vs.size=cs.length) (h1:∀ c∈cs,c.one=true)
   (hr:∀ (k:Nat) (c:D) (v:Value),cs[k]?=some c->vs[k]?=some v->Rep I w c v):Rep I w (.agg cs) (.agg vs)
 | tup {cs:List D}{vs:Array Value}(hl:vs.size=cs.length)
   (hr:∀ (k:Nat) (c:D) (v:Value),cs[k]?=some c->vs[k]?=some v->Rep I w c v):Rep I w (.tup cs) (.tuple vs)
 | ip {x:D}(ad:Addr) (vs:Nat->Value) (h1:∀ c∈x.cells,c.one=true)
   (hI:∀ k c,x.cells[k]?=some c->I (ad.add k)∧w.cell? (ad.add k)=some (vs k))
   (hr:∀ (k:Nat) (c:D),x.cells[k]?=some c->Rep I w c (vs k)):Rep I w (.ip x) (.pointer (some ad))
 | fn {f:Fn}{first caps:List D}{a b:Array Value}(hl:a.size=first.length) (hl':b.size=caps.length)
   (hr:∀ (k:Nat) (c:D) (v:Value),first[k]?=some c->a[k]?=some v->Rep I w c v)
   (hr':∀ (k:Nat) (c:D) (v:Value),caps[k]?=some c->b[k]?=some v->Rep I w c v):Rep I w (.fn f first caps) (.func f a b)
 | ifc {t:TypeId}{d:D}{v:Value}(hr:Rep I w d v):Rep I w (.ifc t d) (.iface t v)
 | any {v:Value}(h:v.cells=#[v]∧v.oneCell'=true):Rep I w .any v
theorem Rep.mono{I I':Addr->Prop}{w w':World}{d:D}{v:Value}(h:Rep I w d v) (hk:∀ a,I a->I' a∧w'.cell? a=w.cell? a):Rep I' w' d v:=by
 induction h with
 | lit h=>exact .lit h
 | nil=>exact .nil
 | sl ad vs hn hc hm hA hz h1 hI hr ih=>exact .sl ad vs hn hc hm hA hz h1 (fun k c hkc=>⟨(hk _ (hI k c hkc).1).1,(hk _ (hI k c hkc).1).2.trans (hI k c hkc).2⟩) ih
 | agg hl h1 hr ih=>exact .agg hl h1 ih
 | tup hl hr ih=>exact .tup hl ih
 | ip ad vs h1 hI hr ih=>exact .ip ad vs h1 (fun k c hkc=>⟨(hk _ (hI k c hkc).1).1,(hk _ (hI k c hkc).1).2.trans (hI k c hkc).2⟩) ih
 | fn hl hl' hr hr' ih ih'=>exact .fn hl hl' ih ih'
 | ifc hr ih=>exact .ifc ih
 | any h=>exact .any h
def RepL (I:Addr->Prop) (w:World) (ds:List D) (vs:Array Value):Prop :=
 vs.size=ds.length∧∀ (k:Nat) (c:D) (v:Value),ds[k]?=some c->vs[k]?=some v->Rep I w c v
theorem RepL.mono{I I':Addr->Prop}{w w':World}{ds:List D}{vs:Array Value}(h:RepL I w ds vs) (hk:∀ a,I a->I' a∧w'.cell? a=w.cell? a):RepL I' w' ds vs :=
 ⟨h.1,fun k c v h1 h2=>(h.2 k c v h1 h2).mono hk⟩
theorem Rep.oneCell{I:Addr->Prop}{w:World}{d:D}{v:Value}(h:Rep I w d v) (h1:d.one=true):v.cells=#[v]∧v.oneCell'=true:=by
 cases h <;> simp [D.one] at h1 <;> try exact⟨rfl,rfl⟩
 ·rename_i hs
  cases v <;> simp [Sc] at hs <;> exact⟨rfl,rfl⟩
 ·assumption
theorem Rep.cells{I:Addr->Prop}{w:World}{d:D}{v:Value}(h:Rep I w d v) (ht:∀ ds,d≠.tup ds):RepL I w d.cells v.cells∧∀ c∈d.cells,c.one=true:=by
 cases hd:d.one with
 | true =>
  have hv:=(h.oneCell hd).1
  have hc:d.cells=[d]:=by cases d <;> first | rfl | simp [D.one] at hd
  rw [hv,hc]
  refine⟨⟨rfl,fun k c u h1 h2=>?_⟩,fun c hc'=>by simp at hc';rw [hc'];exact hd⟩
  cases k with
  | zero=>simp at h1 h2;subst h1;subst h2;exact h
  | succ k=>simp at h1
 | false =>
  cases h <;> simp [D.one] at hd
  ·rename_i cs vs hl h1 hr;exact⟨⟨hl,hr⟩,h1⟩
  ·exact absurd rfl (ht _)
inductive AV where
 | d (x:D)
 | own (r sz:Nat) (es:List D)
 | agg (cs:List AV)
 | tup (vs:List AV)
 | ptr (n o:Nat)
 | bsl (n o sz len cap:Nat)
 | fn (f:Fn) (first caps:List AV)
 | mp (n:Nat)
 | spare (r sz n:Nat)
 | e0 (sz:Nat)
 deriving Inhabited
def AV.cells:AV->List AV
 | .d x=>x.cells.map .d
 | .agg cs=>cs
 | v=>[v]
def AV.one:AV->Bool
 | .d x=>x.one
 | .agg _ | .tup _=>false
 | _=>true
inductive HO where
 | box (ag:Bool) (cs:List AV)
 | row
 | obj (s:Nat)
 | mapo (es:List (Value×AV))
 | dead
 deriving Inhabited
abbrev Hp:=Nat->Option HO
def Hp.upd (h:Hp):List (Nat×HO)->Hp
 | []=>h
 | (n,o)::r=>fun m=>if m=n then some o else Hp.upd h r m
theorem Hp.upd_ne{h:Hp}{n m:Nat}{o:HO}(e:¬ m=n):(h.upd [(n,o)]) m=h m:=by simp [Hp.upd,e]
structure Gh where
 I:Addr->Prop
 box:Nat->Option Nat
 row:Nat->Option (Option Addr×Nat×Nat×Nat)
 rc:Nat->Loop:=fun _=>default
inductive RepA (G:Gh) (w:World):AV->Value->Prop
 | d {x:D}{v:Value}(h:Rep G.I w x v):RepA G w (.d x) v
 | own {r sz:Nat}{es:List D}{A:Option Addr}{n cap:Nat}(hg:G.row r=some (A,n,cap,sz)) (h:Rep G.I w (.sl sz es) (.slice A n cap)):RepA G w (.own r sz es) (.slice A n cap)
 | agg {cs:List AV}{vs:Array Value}(hl:vs.size=cs.length) (h1:∀ c∈cs,c.one=true)
   (hr:∀ (k:Nat) (c:AV) (v:Value),cs[k]?=some c->vs[k]?=some v->RepA G w c v):RepA G w (.agg cs) (.agg vs)
 | tup {cs:List AV}{vs:Array Value}(hl:vs.size=cs.length)
   (hr:∀ (k:Nat) (c:AV) (v:Value),cs[k]?=some c->vs[k]?=some v->RepA G w c v):RepA G w (.tup cs) (.tuple vs)
 | ptr {n o b:Nat}(hg:G.box n=some b):RepA G w (.ptr n o) (.pointer (some ⟨b,o,none⟩))
 | bsl {n o z l c c' b:Nat}(hg:G.box n=some b) (hlc:l<=c) (hcc:c<=c') (hcm:c'<=9223372036854775807) (hrm:c'=c∨o+c'*z<=(G.rc n).defers):RepA G w (.bsl n o z l c) (.slice (some ⟨b,o,none⟩) l c')
 | fn {f:Fn}{first caps:List AV}{a b:Array Value}(hl:a.size=first.length) (hl':b.size=caps.length)
   (hr:∀ (k:Nat) (c:AV) (v:Value),first[k]?=some c->a[k]?=some v->RepA G w c v)
   (hr':∀ (k:Nat) (c:AV) (v:Value),caps[k]?=some c->b[k]?=some v->RepA G w c v):RepA G w (.fn f first caps) (.func f a b)
 | mp {n b:Nat}(hg:G.box n=some b):RepA G w (.mp n) (.map (some b))
 | e0 {sz:Nat}{A:Option Addr}:RepA G w (.e0 sz) (.slice A 0 0)
 | spare {r sz n cap:Nat}{A:Option Addr}(hg:G.row r=some (A,0,cap,sz)) (h1:n<=cap) (h2:cap<=9223372036854775807):RepA G w (.spare r sz n) (.slice A n cap)
structure GLe (G:Gh) (w:World) (G':Gh) (w':World):Prop where
 imm:∀ a,G.I a->G'.I a∧w'.cell? a=w.cell? a
 box:∀ n b,G.box n=some b->G'.box n=some b
 row:∀ n r,G.row n=some r->G'.row n=some r
 rc:∀ n b,G.box n=some b->G'.rc n=G.rc n
theorem GLe.refl(G:Gh) (w:World):GLe G w G w:=⟨fun _ h=>⟨h,rfl⟩,fun _ _ h=>h,fun _ _ h=>h,fun _ _ _=>rfl⟩
theorem GLe.trans{G G' G'':Gh}{w w' w'':World}(h:GLe G w G' w') (k:GLe G' w' G'' w''):GLe G w G'' w'' :=
 ⟨fun a ha=>⟨(k.imm a (h.imm a ha).1).1,(k.imm a (h.imm a ha).1).2.trans (h.imm a ha).2⟩,fun n b hb=>k.box n b (h.box n b hb),fun n r hr=>k.row n r (h.row n r hr),fun n b hb=>(k.rc n b (h.box n b hb)).trans (h.rc n b hb)⟩
theorem RepA.mono{G G':Gh}{w w':World}{x:AV}{v:Value}(h:RepA G w x v) (hk:GLe G w G' w'):RepA G' w' x v:=by
 induction h with
 | d h=>exact .d (h.mono hk.imm)
 | own hg h=>exact .own (hk.row _ _ hg) (h.mono hk.imm)
 | agg hl h1 hr ih=>exact .agg hl h1 ih
 | tup hl hr ih=>exact .tup hl ih
 | ptr hg=>exact .ptr (hk.box _ _ hg)
 | bsl hg h1 h2 h3 h4=>exact .bsl (hk.box _ _ hg) h1 h2 h3 (by rw [hk.rc _ _ hg];exact h4)
 | e0=>exact .e0
 | fn hl hl' hr hr' ih ih'=>exact .fn hl hl' ih ih'
 | mp hg=>exact .mp (hk.box _ _ hg)
 | spare hg h1 h2=>exact .spare (hk.row _ _ hg) h1 h2
theorem RepA.oneCell{G:Gh}{w:World}{x:AV}{v:Value}(h:RepA G w x v) (h1:x.one=true):v.cells=#[v]∧v.oneCell'=true:=by
 cases h <;> simp [AV.one] at h1 <;> try exact⟨rfl,rfl⟩
 rename_i h;exact h.oneCell h1
def RepAL (G:Gh) (w:World) (ds:List AV) (vs:Array Value):Prop :=
 vs.size=ds.length∧∀ (k:Nat) (c:AV) (v:Value),ds[k]?=some c->vs[k]?=some v->RepA G w c v
theorem RepAL.mono{G G':Gh}{w w':World}{ds:List AV}{vs:Array Value}(h:RepAL G w ds vs) (hk:GLe G w G' w'):RepAL G' w' ds vs :=
 ⟨h.1,fun k c v h1 h2=>(h.2 k c v h1 h2).mono hk⟩
def RepAP (G:Gh) (w:World) (ds:List AV) (vs:Array Value):Prop :=
 ds.length<=vs.size∧∀ (k:Nat) (c:AV) (v:Value),ds[k]?=some c->vs[k]?=some v->RepA G w c v
theorem RepAL.p{G:Gh}{w:World}{ds:List AV}{vs:Array Value}(h:RepAL G w ds vs):RepAP G w ds vs:=⟨Nat.le_of_eq h.1.symm,h.2⟩
theorem RepAP.mono{G G':Gh}{w w':World}{ds:List AV}{vs:Array Value}(h:RepAP G w ds vs) (hk:GLe G w G' w'):RepAP G' w' ds vs :=
 ⟨h.1,fun k c v h1 h2=>(h.2 k c v h1 h2).mono hk⟩
def AV.noTup:AV->Bool
 | .d (.tup _) | .tup _=>false
 | _=>true
theorem RepA.cells{G:Gh}{w:World}{x:AV}{v:Value}(h:RepA G w x v) (ht:x.noTup=true):RepAL G w x.cells v.cells∧∀ c∈x.cells,c.one=true:=by
 cases h with
 | d h =>
  rename_i y
  have hc:=h.cells (fun ds e=>by subst e;simp [AV.noTup] at ht)
  refine⟨⟨by simp [AV.cells,hc.1.1],fun k c v h1 h2=>?_⟩,fun c hc'=>?_⟩
  ·simp only [AV.cells,List.getElem?_map,Option.map_eq_some_iff] at h1
   obtain⟨e,he,rfl⟩:=h1
   exact .d (hc.1.2 k e v he h2)
  ·simp only [AV.cells,List.mem_map] at hc'
   obtain⟨e,he,rfl⟩:=hc'
   exact hc.2 e he
 | agg hl h1 hr=>exact⟨⟨hl,hr⟩,h1⟩
 | tup hl hr=>simp [AV.noTup] at ht
 | own hg h=>exact⟨⟨rfl,fun k c v h1 h2=>by
   cases k <;> simp [AV.cells,Value.cells] at h1 h2;subst h1;subst h2;exact .own hg h⟩,fun c hc=>by simp [AV.cells] at hc;subst hc;rfl⟩
 | ptr hg=>exact⟨⟨rfl,fun k c v h1 h2=>by
   cases k <;> simp [AV.cells,Value.cells] at h1 h2;subst h1;subst h2;exact .ptr hg⟩,fun c hc=>by simp [AV.cells] at hc;subst hc;rfl⟩
 | bsl hg q1 q2 q3 q4=>exact⟨⟨rfl,fun k c v h1 h2=>by
   cases k <;> simp [AV.cells,Value.cells] at h1 h2;subst h1;subst h2;exact .bsl hg q1 q2 q3 q4⟩,fun c hc=>by simp [AV.cells] at hc;subst hc;rfl⟩
 | fn hl hl' hr hr'=>exact⟨⟨rfl,fun k c v h1 h2=>by
   cases k <;> simp [AV.cells,Value.cells] at h1 h2;subst h1;subst h2;exact .fn hl hl' hr hr'⟩,fun c hc=>by simp [AV.cells] at hc;subst hc;rfl⟩
 | mp hg=>exact⟨⟨rfl,fun k c v h1 h2=>by
   cases k <;> simp [AV.cells,Value.cells] at h1 h2;subst h1;subst h2;exact .mp hg⟩,fun c hc=>by simp [AV.cells] at hc;subst hc;rfl⟩
 | e0=>exact⟨⟨rfl,fun k c v h1 h2=>by
   cases k <;> simp [AV.cells,Value.cells] at h1 h2;subst h1;subst h2;exact .e0⟩,fun c hc=>by simp [AV.cells] at hc;subst hc;rfl⟩
 | spare hg q1 q2=>exact⟨⟨rfl,fun k c v h1 h2=>by
   cases k <;> simp [AV.cells,Value.cells] at h1 h2;subst h1;subst h2;exact .spare hg q1 q2⟩,fun c hc=>by simp [AV.cells] at hc;subst hc;rfl⟩
def RepE0 (G:Gh) (w:World) (es:List (Value×AV)) (arr:Array MapEntry):Prop :=
 arr.size=es.length∧∀ (k:Nat) (e:Value×AV) (x:MapEntry),es[k]?=some e->arr[k]?=some x->x.key=e.1∧RepA G w e.2 x.val
theorem RepE0.mono{G G':Gh}{w w':World}{es:List (Value×AV)}{arr:Array MapEntry}(h:RepE0 G w es arr) (hk:GLe G w G' w'):RepE0 G' w' es arr :=
 ⟨h.1,fun k e x h1 h2=>⟨(h.2 k e x h1 h2).1,(h.2 k e x h1 h2).2.mono hk⟩⟩
def mkd:List (Value×AV)->Bool
 | (.tuple _,_)::_=>true
 | _=>false
theorem mkd_keys:∀ {a b:List (Value×AV)},a.map (·.1)=b.map (·.1)->mkd a=mkd b
 | [],[],_=>rfl
 | [],_::_,h=>by simp at h
 | _::_,[],h=>by simp at h
 | (k,v)::a,(k',v')::b,h=>by
  simp only [List.map_cons,List.cons.injEq] at h
  obtain⟨rfl,_⟩:=h
  cases k <;> rfl
@[simp] theorem mkd_nil:mkd []=false:=rfl
@[simp] theorem mkd_int {k:IntKind}{n:Int}{v:AV}{r:List (Value×AV)}:mkd ((.int k n,v)::r)=false:=rfl
@[simp] theorem mkd_str {s:ByteArray}{v:AV}{r:List (Value×AV)}:mkd ((.string s,v)::r)=false:=rfl
def RepE (G:Gh) (w:World) (es:List (Value×AV)) (arr:Array MapEntry) (ck:Nat):Prop :=
 MapKept.Stamped arr ck∧if mkd es=true then ∀ v,v∈es.tail.map (·.1)↔∃ x∈arr.toList,x.key=v else RepE0 G w es arr
theorem RepE.mono{G G':Gh}{w w':World}{es:List (Value×AV)}{arr:Array MapEntry}{ck:Nat}(h:RepE G w es arr ck) (hk:GLe G w G' w'):RepE G' w' es arr ck:=by
 refine⟨h.1,?_⟩
 have h2:=h.2
 by_cases hm:mkd es=true
 ·rw [if_pos hm] at h2 ⊢;exact h2
 ·rw [if_neg hm] at h2 ⊢;exact h2.mono hk
theorem RepE.pos{G:Gh}{w:World}{es:List (Value×AV)}{arr:Array MapEntry}{ck:Nat}(h:RepE G w es arr ck) (hm:mkd es=false):RepE0 G w es arr:=by
 have h2:=h.2
 rw [if_neg (by rw [hm];simp)] at h2
 exact h2
theorem RepE.mk0{G:Gh}{w:World}{es:List (Value×AV)}{arr:Array MapEntry}{ck:Nat}(hs:MapKept.Stamped arr ck) (h:RepE0 G w es arr) (hm:mkd es=false):RepE G w es arr ck:=⟨hs,by rw [if_neg (by rw [hm];simp)];exact h⟩
def glbTab:List (Nat×D):=[(1,.agg ((List.range 256).map fun c=>.lit (.int .u8 (Lib.firstT c)))),(2,.agg ((List.range 16).flatMap fun i=>[.lit (.int .u8 (Lib.accLo i)),.lit (.int .u8 (Lib.accHi i))]))]
def glbD (g:Nat):Option D:=(glbTab.find? fun p=>p.1 == g).map (·.2)
def GlOk (I:Addr->Prop) (w:World):Prop:=∀ p∈glbTab,Rep I w (.ip p.2) (.pointer (some ⟨p.1,0,none⟩))
theorem GlOk.mono{I I':Addr->Prop}{w w':World}(h:GlOk I w) (hk:∀ a,I a->I' a∧w'.cell? a=w.cell? a):GlOk I' w':=fun p hp=>(h p hp).mono hk
theorem GlOk.get{I:Addr->Prop}{w:World}(h:GlOk I w){g:Nat}{d:D}(hg:glbD g=some d):Rep I w (.ip d) (.pointer (some ⟨g,0,none⟩)):=by
 unfold glbD at hg
 simp only [Option.map_eq_some_iff] at hg
 obtain⟨p,hp,rfl⟩:=hg
 have h1:=List.mem_of_find?_eq_some hp
 have h2:=List.find?_some hp
 simp only [beq_iff_eq] at h2
 rw [<- h2]
 exact h p h1
structure Env where
 w0:World
 I0:Addr->Prop
 K:Nat->Prop
 B:Nat:=0
 Gb:Gh
 wb:World
 gl:GlOk I0 w0
 N:Nat->Prop:=fun b=>w0.heap.size<=b
 hN:∀ b,w0.heap.size<=b->N b:=by exact fun _ h=>h
def objOf (r:Loop):Nat->Obj
 | 0=>.deferred (some [])
 | 1=>.loop {r with state:=.ready,pending:=none}
 | 2=>.loop {r with state:=.busy,pending:=none}
 | 3=>.loop {r with state:=.done,pending:=some .ret}
 | s+4=>.loop {r with state:=.done,pending:=some (.exit s)}
def Tail (E:Env) (G:Gh) (w:World) (A:Option Addr) (n cap sz:Nat):Prop :=
 ∀ k,n*sz<=k->k<cap*sz->∃ ad,A=some ad∧(w.cell? (ad.add k)).isSome=true∧w.frozen? (ad.add k)=false∧¬ G.I (ad.add k)∧(¬ E.K ad.block∧E.N ad.block)∧(∀ m,G.box m≠some ad.block)
structure WRel (E:Env) (G:Gh) (h:Hp) (w:World):Prop where
 os:w.os=E.w0.os
 tape:w.tape=E.w0.tape
 output:w.output=E.w0.output
 size:E.w0.heap.size<=w.heap.size
 kept:∀ b,E.K b->b<E.w0.heap.size∧w.heap[b]?=E.w0.heap[b]?
 i0:∀ a,E.I0 a->G.I a∧w.cell? a=E.w0.cell? a
 inew:∀ a,G.I a->E.I0 a∨E.N a.block
 icell:∀ a,G.I a->(w.cell? a).isSome=true
 fresh:∀ n,h n=none->G.box n=none∧G.row n=none
 box:∀ n ag cs,h n=some (.box ag cs)->∃ b arr ty,G.box n=some b∧w.heap[b]?=some (.cells arr ty (0,0))∧RepAP G w cs arr∧(∀ c∈cs,c.one=true)∧(G.rc n).defers<=arr.size
 bown:∀ n b,G.box n=some b->b<w.heap.size∧¬ E.K b∧(h n≠some .dead->∀ a,a.block=b->¬ G.I a)∧E.N b
 binj:∀ n m b,G.box n=some b->G.box m=some b->h n≠some .dead->h m≠some .dead->n=m
 row:∀ r,h r=some .row->∃ A n cap sz,G.row r=some (A,n,cap,sz)∧Tail E G w A n cap sz
 rinj:∀ r r' A n cap sz A' n' cap' sz',h r=some .row->h r'=some .row->G.row r=some (A,n,cap,sz)->G.row r'=some (A',n',cap',sz') ->
  n*sz<cap*sz->n'*sz'<cap'*sz'->∀ ad ad',A=some ad->A'=some ad'->ad.block=ad'.block->r=r'
 obj:∀ n s,h n=some (.obj s)->∃ b,G.box n=some b∧w.heap[b]?=some (objOf (G.rc n) s)
 mapo:∀ n es,h n=some (.mapo es)->∃ b arr ck,G.box n=some b∧w.heap[b]?=some (.map arr ck)∧RepE G w es arr ck
 gb:GLe E.Gb E.wb G w
 gB:(∀ n b,E.Gb.box n=some b->n<E.B)∧∀ n r,E.Gb.row n=some r->n<E.B
theorem WRel.binj1{E:Env}{G:Gh}{h:Hp}{w:World}(H:WRel E G h w){m n b:Nat}{x y:HO}(h1:G.box m=some b) (h2:G.box n=some b) (e1:h m=some x) (d1:x≠.dead) (e2:h n=some y) (d2:y≠.dead):m=n :=
 H.binj m n b h1 h2 (fun q=>d1 (by rw [e1] at q;injection q)) (fun q=>d2 (by rw [e2] at q;injection q))
theorem WRel.binjV{E:Env}{G:Gh}{h:Hp}{w:World}(H:WRel E G h w){n:Nat}(hnd:h n≠some .dead) (y:HO):∀ k m b,G.box k=some b->G.box m=some b->(h.upd [(n,y)]) k≠some .dead->(h.upd [(n,y)]) m≠some .dead->k=m:=by
 have live:∀ k,(h.upd [(n,y)]) k≠some .dead->h k≠some .dead:=fun k q=>by
  by_cases e:k=n
  ·subst e;exact hnd
  ·rw [Hp.upd_ne e] at q;exact q
 exact fun k m b h1 h2 q1 q2=>H.binj k m b h1 h2 (live k q1) (live m q2)
theorem WRel.binjU{E:Env}{G:Gh}{h:Hp}{w:World}(H:WRel E G h w){n:Nat}{x:HO}(hn:h n=some x) (hx:x≠.dead) (y:HO):∀ k m b,G.box k=some b->G.box m=some b->(h.upd [(n,y)]) k≠some .dead->(h.upd [(n,y)]) m≠some .dead->k=m :=
 H.binjV (fun q=>hx (by rw [hn] at q;injection q)) y
theorem WRel.ilt{E:Env}{G:Gh}{h:Hp}{w:World}(H:WRel E G h w){a:Addr}(ha:G.I a):a.block<w.heap.size:=by
 obtain⟨v,hv⟩:=Option.isSome_iff_exists.1 (H.icell a ha)
 exact World.block_lt_of_cell? w a hv
theorem WRel.gl{E:Env}{G:Gh}{h:Hp}{w:World}(H:WRel E G h w):GlOk G.I w:=E.gl.mono H.i0
structure Grow (w w':World):Prop where
 os:w'.os=w.os
 tape:w'.tape=w.tape
 output:w'.output=w.output
 size:w.heap.size<=w'.heap.size
 block:∀ b,b<w.heap.size->w'.heap[b]?=w.heap[b]?
theorem Grow.refl(w:World):Grow w w:=⟨rfl,rfl,rfl,Nat.le_refl _,fun _ _=>rfl⟩
theorem Grow.alloc(w:World) (o:Obj):Grow w (w.alloc o):=⟨rfl,rfl,rfl,by simp,fun b hb=>by first | exact heap_alloc_old w o b hb | exact heap_alloc_old w o hb⟩
theorem Grow.drew{w w':World}(h:Grow w w'):Grow w w'.drew:=⟨h.os,h.tape,h.output,h.size,h.block⟩
theorem Grow.cell{w w':World}(g:Grow w w'){a:Addr}(ha:a.block<w.heap.size):w'.cell? a=w.cell? a:=World.cell?_of_block (g.block _ ha)
theorem Grow.frozen{w w':World}(g:Grow w w'){a:Addr}(ha:a.block<w.heap.size):w'.frozen? a=w.frozen? a:=World.frozen?_of_block (g.block _ ha)
theorem block_add(a:Addr) (n:Nat):(a.add n).block=a.block:=by unfold Addr.add;split <;> rfl
theorem add_add(a:Addr) (i j:Nat):(a.add i).add j=a.add (i+j):=by
 unfold Addr.add
 by_cases hi:i=0 <;> by_cases hj:j=0 <;> simp [hi,hj,Nat.add_assoc]
theorem add_mk(b o k:Nat):(⟨b,o,none⟩:Addr).add k=⟨b,o+k,none⟩:=Addr.add_mid b o k
theorem WRel.grow{E:Env}{G:Gh}{h:Hp}{w w':World}(H:WRel E G h w) (g:Grow w w') (I':Addr->Prop) (hI:∀ a,G.I a->I' a)
  (hn:∀ a,I' a->G.I a∨w.heap.size<=a.block) (hc:∀ a,I' a->(w'.cell? a).isSome=true) :
  GLe G w {G with I:=I'} w'∧WRel E {G with I:=I'} h w':=by
 have hle:GLe G w {G with I:=I'} w':=⟨fun a ha=>⟨hI a ha,g.cell (H.ilt ha)⟩,fun _ _ h=>h,fun _ _ h=>h,fun _ _ _=>rfl⟩
 refine⟨hle,⟨g.os.trans H.os,g.tape.trans H.tape,g.output.trans H.output,Nat.le_trans H.size g.size,fun b hb=>?_,fun a ha=>?_,fun a ha=>?_,hc,H.fresh,fun n ag cs hn'=>?_,fun n b hb=>?_,H.binj,fun r hr=>?_,H.rinj,fun n s hn'=>(by
  obtain⟨b,e1,e2⟩:=H.obj n s hn'
  exact⟨b,e1,(g.block b (H.bown n b e1).1).trans e2⟩),fun n es hn'=>(by
  obtain⟨b,arr,ck,e1,e2,e3⟩:=H.mapo n es hn'
  exact⟨b,arr,ck,e1,(g.block b (H.bown n b e1).1).trans e2,e3.mono hle⟩),H.gb.trans hle,H.gB⟩⟩
 ·obtain⟨h1,h2⟩:=H.kept b hb
  exact⟨h1,(g.block b (Nat.lt_of_lt_of_le h1 H.size)).trans h2⟩
 ·obtain⟨h1,h2⟩:=H.i0 a ha
  exact⟨hI a h1,(g.cell (H.ilt h1)).trans h2⟩
 ·rcases hn a ha with h1 | h1
  ·exact H.inew a h1
  ·exact .inr (E.hN _ (Nat.le_trans H.size h1))
 ·obtain⟨b,arr,ty,h1,h2,h3,h4⟩:=H.box n ag cs hn'
  exact⟨b,arr,ty,h1,(g.block b (H.bown n b h1).1).trans h2,h3.mono hle,h4⟩
 ·obtain⟨h1,h2,h3,h5⟩:=H.bown n b hb
  refine⟨Nat.lt_of_lt_of_le h1 g.size,h2,fun hd a e ha=>?_,h5⟩
  rcases hn a ha with h4 | h4
  ·exact h3 hd a e h4
  ·omega
 ·obtain⟨A,n,cap,sz,h1,h2⟩:=H.row r hr
  refine⟨A,n,cap,sz,h1,fun k hk hk'=>?_⟩
  obtain⟨ad,e,c1,c2,c3,c4,c5⟩:=h2 k hk hk'
  have hlt:(ad.add k).block<w.heap.size:=by
   obtain⟨v,hv⟩:=Option.isSome_iff_exists.1 c1
   exact World.block_lt_of_cell? w _ hv
  refine⟨ad,e,by rw [g.cell hlt];exact c1,by rw [g.frozen hlt];exact c2,fun hi=>?_,c4,c5⟩
  rcases hn _ hi with h4 | h4
  ·exact c3 h4
  ·omega
theorem WRel.growBox{E:Env}{G:Gh}{h:Hp}{w w':World}(H:WRel E G h w) (g:Grow w w'){N:Nat}(hN:w.heap.size<=N){n:Nat}(hn:h n=none) (ag:Bool){cs:List AV}{arr:Array Value}{ty:TypeId}(hh:w'.heap[N]?=some (.cells arr ty (0,0))) (hr:RepAP G w cs arr) (h1:∀ c∈cs,c.one=true) (r:Loop) (hd:r.defers<=arr.size) :
  GLe G w {G with box:=fun m=>if m=n then some N else G.box m,rc:=fun m=>if m=n then r else G.rc m} w' ∧
  WRel E {G with box:=fun m=>if m=n then some N else G.box m,rc:=fun m=>if m=n then r else G.rc m} (h.upd [(n,.box ag cs)]) w':=by
 obtain⟨hb0,hr0⟩:=H.fresh n hn
 have hle:GLe G w {G with box:=fun m=>if m=n then some N else G.box m,rc:=fun m=>if m=n then r else G.rc m} w' :=
  ⟨fun a ha=>⟨ha,g.cell (H.ilt ha)⟩,fun m b hb=>by
   dsimp only
   split
   ·rename_i e;subst e;rw [hb0] at hb;cases hb
   ·exact hb,fun _ _ h=>h,fun m b hb=>by
   dsimp only
   split
   ·rename_i e;subst e;rw [hb0] at hb;cases hb
   ·rfl⟩
 have hNlt:N<w'.heap.size:=(Array.getElem?_eq_some_iff.1 hh).1
 refine⟨hle,⟨g.os.trans H.os,g.tape.trans H.tape,g.output.trans H.output,Nat.le_trans H.size g.size,fun b hb=>?_,fun a ha=>?_,H.inew,fun a ha=>?_,fun m hm=>?_,fun m ag' cs' hm=>?_,fun m b hb=>?_,fun m m' b hm hm'=>?_,fun r hr'=>?_,fun r r' A k cap sz A' k' cap' sz' hr1 hr2=>?_,fun m s hm=>(by
  simp only [Hp.upd] at hm
  split at hm
  ·injection hm with hm;cases hm
  ·rename_i hne
   obtain⟨b,e1,e2⟩:=H.obj m s hm
   exact⟨b,by dsimp only;rw [if_neg hne];exact e1,by dsimp only;rw [if_neg hne];exact(g.block b (H.bown m b e1).1).trans e2⟩),fun m es hm=>(by
  simp only [Hp.upd] at hm
  split at hm
  ·injection hm with hm;cases hm
  ·rename_i hne
   obtain⟨b,arr',ck,e1,e2,e3⟩:=H.mapo m es hm
   exact⟨b,arr',ck,by dsimp only;rw [if_neg hne];exact e1,(g.block b (H.bown m b e1).1).trans e2,e3.mono hle⟩),H.gb.trans hle,H.gB⟩⟩
 ·obtain⟨h1,h2⟩:=H.kept b hb
  exact⟨h1,(g.block b (Nat.lt_of_lt_of_le h1 H.size)).trans h2⟩
 ·obtain⟨h1,h2⟩:=H.i0 a ha
  exact⟨h1,(g.cell (H.ilt h1)).trans h2⟩
 ·rw [g.cell (H.ilt ha)];exact H.icell a ha
 ·simp only [Hp.upd] at hm
  split at hm
  ·cases hm
  ·rename_i hne;dsimp only;rw [if_neg hne];exact H.fresh m hm
 ·simp only [Hp.upd] at hm
  dsimp only
  split at hm
  ·rename_i e
   injection hm with hm;injection hm with _ hm;subst hm
   rw [if_pos e,if_pos e]
   exact⟨N,arr,ty,rfl,hh,hr.mono hle,h1,hd⟩
  ·rename_i hne
   rw [if_neg hne,if_neg hne]
   obtain⟨b,arr',ty',e1,e2,e3,e4⟩:=H.box m ag' cs' hm
   exact⟨b,arr',ty',e1,(g.block b (H.bown m b e1).1).trans e2,e3.mono hle,e4⟩
 ·dsimp only at hb ⊢
  split at hb
  ·injection hb with hb;subst hb
   refine⟨hNlt,fun hk=>?_,fun _ a e ha=>?_,E.hN _ (Nat.le_trans H.size hN)⟩
   ·have:=(H.kept _ hk).1;have:=H.size;omega
   ·have:=H.ilt ha;omega
  ·rename_i hne
   obtain⟨e1,e2,e3,e4⟩:=H.bown m b hb
   exact⟨Nat.lt_of_lt_of_le e1 g.size,e2,fun hd=>e3 (fun he=>hd (by simp [Hp.upd,hne,he])),e4⟩
 ·intro q1 q2
  dsimp only at hm hm'
  split at hm
  ·split at hm'
   ·rename_i e e';rw [e,e']
   ·injection hm with hm;have:=(H.bown m' b hm').1;omega
  ·split at hm'
   ·injection hm' with hm';have:=(H.bown m b hm).1;omega
   ·rename_i e e'
    exact H.binj m m' b hm hm' (fun q=>q1 (by rw [Hp.upd_ne e];exact q)) (fun q=>q2 (by rw [Hp.upd_ne e'];exact q))
 ·simp only [Hp.upd] at hr'
  split at hr'
  ·injection hr' with hr';cases hr'
  ·obtain⟨A,k,cap,sz,e1,e2⟩:=H.row r hr'
   refine⟨A,k,cap,sz,e1,fun j hj hj'=>?_⟩
   obtain⟨ad,e,c1,c2,c3,c4,c5⟩:=e2 j hj hj'
   have hlt:(ad.add j).block<w.heap.size:=by
    obtain⟨v,hv⟩:=Option.isSome_iff_exists.1 c1
    exact World.block_lt_of_cell? w _ hv
   refine⟨ad,e,by rw [g.cell hlt];exact c1,by rw [g.frozen hlt];exact c2,c3,c4,fun m hm=>?_⟩
   dsimp only at hm
   split at hm
   ·injection hm with hm;rw [block_add] at hlt;omega
   ·exact c5 m hm
 ·simp only [Hp.upd] at hr1 hr2
  split at hr1
  ·injection hr1 with hr1;cases hr1
  ·split at hr2
   ·injection hr2 with hr2;cases hr2
   ·exact H.rinj r r' A k cap sz A' k' cap' sz' hr1 hr2
theorem WRel.newBoxP{E:Env}{G:Gh}{h:Hp}{w:World}(H:WRel E G h w){n:Nat}(hn:h n=none) (ag:Bool){cs:List AV}{arr:Array Value}(ty:TypeId) (hr:RepAP G w cs arr) (h1:∀ c∈cs,c.one=true) (r:Loop:=default) (hd:r.defers<=arr.size:=by exact Nat.zero_le _) :
  GLe G w {G with box:=fun m=>if m=n then some w.heap.size else G.box m,rc:=fun m=>if m=n then r else G.rc m} (w.alloc (.cells arr ty)) ∧
  WRel E {G with box:=fun m=>if m=n then some w.heap.size else G.box m,rc:=fun m=>if m=n then r else G.rc m} (h.upd [(n,.box ag cs)]) (w.alloc (.cells arr ty)) :=
 H.growBox (Grow.alloc w (.cells arr ty)) (Nat.le_refl _) hn ag (heap_alloc_new w _) hr h1 r hd
theorem WRel.newBox{E:Env}{G:Gh}{h:Hp}{w:World}(H:WRel E G h w){n:Nat}(hn:h n=none) (ag:Bool){cs:List AV}{arr:Array Value}(ty:TypeId) (hr:RepAL G w cs arr) (h1:∀ c∈cs,c.one=true) :
  GLe G w {G with box:=fun m=>if m=n then some w.heap.size else G.box m,rc:=fun m=>if m=n then default else G.rc m} (w.alloc (.cells arr ty)) ∧
  WRel E {G with box:=fun m=>if m=n then some w.heap.size else G.box m,rc:=fun m=>if m=n then default else G.rc m} (h.upd [(n,.box ag cs)]) (w.alloc (.cells arr ty)):=H.newBoxP hn ag ty hr.p h1
theorem upd_one(h:Hp) (n:Nat) (o:HO) (m:Nat):(h.upd [(n,o)]) m=if m=n then some o else h m:=rfl
theorem WRel.setBox{E:Env}{G:Gh}{h:Hp}{w:World}(H:WRel E G h w){n b o:Nat}{ag:Bool}{cs:List AV}(hn:h n=some (.box ag cs)) (hb:G.box n=some b)
  {c:AV}{v:Value}(hc:RepA G w c v) (h1:c.one=true) (ho:o<cs.length) :
  (w.cell? ⟨b,o,none⟩).isSome=true∧w.frozen? ⟨b,o,none⟩=false ∧
  GLe G w G (w.setCell ⟨b,o,none⟩ v)∧WRel E G (h.upd [(n,.box ag (cs.set o c))]) (w.setCell ⟨b,o,none⟩ v):=by
 obtain⟨b',arr,ty,e1,e2,e3,e4⟩:=H.box n ag cs hn
 have hbb:b'=b:=by rw [hb] at e1;injection e1 with e1;exact e1.symm
 subst hbb
 obtain⟨hlt,hK,hI',hge⟩:=H.bown n b' hb
 have hI:=hI' (by rw [hn];simp)
 have hsz:o<arr.size:=Nat.lt_of_lt_of_le ho e3.1
 have hblk:∀ k,k≠b'->(w.setCell ⟨b',o,none⟩ v).heap[k]?=w.heap[k]?:=fun k hk=>by
  simp only [World.setCell,Array.getElem?_modify]
  rw [if_neg (by omega)]
 have hnew:(w.setCell ⟨b',o,none⟩ v).heap[b']?=some (.cells (arr.setIfInBounds o v) ty (0,0)):=by
  simp [World.setCell,Array.getElem?_modify,e2]
 have hcellne:∀ a:Addr,a.block≠b'->(w.setCell ⟨b',o,none⟩ v).cell? a=w.cell? a:=fun a ha=>World.cell?_of_block (hblk _ ha)
 have hfrne:∀ a:Addr,a.block≠b'->(w.setCell ⟨b',o,none⟩ v).frozen? a=w.frozen? a:=fun a ha=>World.frozen?_of_block (hblk _ ha)
 have hIne:∀ a,G.I a->a.block≠b':=fun a ha e=>hI a e ha
 have hle:GLe G w G (w.setCell ⟨b',o,none⟩ v):=⟨fun a ha=>⟨ha,hcellne a (hIne a ha)⟩,fun _ _ h=>h,fun _ _ h=>h,fun _ _ _=>rfl⟩
 refine⟨by simp [World.cell?,e2,hsz],by simp [World.frozen?,e2],hle,⟨H.os,H.tape,H.output,by simpa [World.setCell] using H.size,fun k hk=>?_,fun a ha=>?_,H.inew,fun a ha=>?_,fun m hm=>?_,fun m ag' cs' hm=>?_,fun m b hb'=>?_,H.binjU hn (fun q=>by cases q) _,fun r hr=>?_,fun r r' A k cap sz A' k' cap' sz' hr1 hr2=>?_,fun m s hm=>(by
  simp only [Hp.upd] at hm
  split at hm
  ·injection hm with hm;cases hm
  ·rename_i hne
   obtain⟨b2,f1,f2⟩:=H.obj m s hm
   exact⟨b2,f1,(hblk b2 (fun e=>hne (H.binj1 (e ▸ f1) hb hm (fun q=>by cases q) hn (fun q=>by cases q)))).trans f2⟩),fun m es hm=>(by
  simp only [Hp.upd] at hm
  split at hm
  ·injection hm with hm;cases hm
  ·rename_i hne
   obtain⟨b2,arr2,ck,f1,f2,f3⟩:=H.mapo m es hm
   exact⟨b2,arr2,ck,f1,(hblk b2 (fun e=>hne (H.binj1 (e ▸ f1) hb hm (fun q=>by cases q) hn (fun q=>by cases q)))).trans f2,f3.mono hle⟩),H.gb.trans hle,H.gB⟩⟩
 ·obtain⟨h1',h2'⟩:=H.kept k hk
  exact⟨h1',(hblk k (fun e=>hK (e ▸ hk))).trans h2'⟩
 ·obtain⟨h1',h2'⟩:=H.i0 a ha
  exact⟨h1',(hcellne a (hIne a h1')).trans h2'⟩
 ·rw [hcellne a (hIne a ha)];exact H.icell a ha
 ·simp only [Hp.upd] at hm
  split at hm
  ·cases hm
  ·exact H.fresh m hm
 ·simp only [Hp.upd] at hm
  split at hm
  ·rename_i e
   injection hm with hm;injection hm with _ hm;subst hm;subst e
   refine⟨b',_,ty,hb,hnew,⟨by simpa using e3.1,fun k c' u hk hu=>?_⟩,fun c' hc'=>?_,by simpa using e4.2⟩
   ·simp only [List.getElem?_set] at hk
    simp only [Array.getElem?_setIfInBounds] at hu
    by_cases hko:o=k
    ·subst hko
     simp only [ho,hsz,if_true] at hk hu
     injection hk with hk;injection hu with hu;subst hk;subst hu
     exact hc.mono hle
    ·simp only [hko,if_false] at hk hu
     exact(e3.2 k c' u hk hu).mono hle
   ·rcases List.mem_or_eq_of_mem_set hc' with h' | h'
    ·exact e4.1 c' h'
    ·rw [h'];exact h1
  ·rename_i hne
   obtain⟨b2,arr',ty',f1,f2,f3,f4⟩:=H.box m ag' cs' hm
   refine⟨b2,arr',ty',f1,(hblk b2 (fun e=>hne (H.binj1 (e ▸ f1) hb hm (fun q=>by cases q) hn (fun q=>by cases q)))).trans f2,f3.mono hle,f4⟩
 ·obtain⟨f1,f2,f3,f4⟩:=H.bown m b hb'
  refine⟨by simpa [World.setCell] using f1,f2,fun hd=>f3 (fun he=>?_),f4⟩
  by_cases e:m=n
  ·subst e;rw [hn] at he;cases he
  ·exact hd (by simp [Hp.upd,e,he])
 ·simp only [Hp.upd] at hr
  split at hr
  ·injection hr with hr;cases hr
  ·obtain⟨A,k,cap,sz,f1,f2⟩:=H.row r hr
   refine⟨A,k,cap,sz,f1,fun j hj hj'=>?_⟩
   obtain⟨ad,e,c1,c2,c3,c4,c5⟩:=f2 j hj hj'
   have hne:(ad.add j).block≠b':=by rw [block_add];exact fun e=>c5 n (e ▸ hb)
   exact⟨ad,e,by rw [hcellne _ hne];exact c1,by rw [hfrne _ hne];exact c2,c3,c4,c5⟩
 ·simp only [Hp.upd] at hr1 hr2
  split at hr1
  ·injection hr1 with hr1;cases hr1
  ·split at hr2
   ·injection hr2 with hr2;cases hr2
   ·exact H.rinj r r' A k cap sz A' k' cap' sz' hr1 hr2
def setAt (cs:List AV) (o:Nat):List AV->List AV
 | []=>cs
 | c::r=>setAt (cs.set o c) (o+1) r
theorem upd_same(h:Hp) (n:Nat) (x y:HO):(h.upd [(n,x)]).upd [(n,y)]=h.upd [(n,y)]:=by
 funext m;simp only [Hp.upd];split <;> rfl
theorem WRel.setBoxes{E:Env}{G:Gh}{n b:Nat}{ag:Bool}(P:Program):∀ (news:List AV) (vs:List Value) (o i:Nat) (h:Hp) (w:World) (cs:List AV),WRel E G h w->h n=some (.box ag cs)->G.box n=some b ->
  vs.length=news.length->(∀ (k:Nat) (c:AV) (v:Value),news[k]?=some c->vs[k]?=some v->RepA G w c v∧c.one=true)->o+i+news.length<=cs.length ->
  ∃ w',(storeCells ⟨b,o,none⟩ vs i).run P w=.ok () w'∧GLe G w G w'∧WRel E G (h.upd [(n,.box ag (setAt cs (o+i) news))]) w'
 | [],vs,o,i,h,w,cs,H,hn,hb,hl,hr,ho=>by
  have:vs=[]:=List.eq_nil_of_length_eq_zero (by simpa using hl)
  subst this
  refine⟨w,rfl,GLe.refl G w,?_⟩
  have e:h.upd [(n,.box ag (setAt cs (o+i) []))]=h:=by
   funext m;simp only [Hp.upd,setAt];split
   ·rename_i e;subst e;exact hn.symm
   ·rfl
  rw [e];exact H
 | c::r,vs,o,i,h,w,cs,H,hn,hb,hl,hr,ho=>by
  cases vs with
  | nil=>simp at hl
  | cons v vr =>
   obtain⟨hc,h1⟩:=hr 0 c v rfl rfl
   simp only [List.length_cons] at ho hl
   obtain⟨s1,s2,s3,s4⟩:=H.setBox (o:=o+i) hn hb hc h1 (by omega)
   have hone:=(hc.oneCell h1).2
   have hst:(store ((⟨b,o,none⟩:Addr).add i) v).run P w=.ok () (w.setCell ⟨b,o+i,none⟩ v):=by
    rw [add_mk,run_store P w _ v _ hone]
    obtain⟨u,hu⟩:=Option.isSome_iff_exists.1 s1
    simp [hu,s2]
   obtain⟨w',e1,e2,e3⟩:=WRel.setBoxes (ag:=ag) P r vr o (i+1) (h.upd [(n,.box ag (cs.set (o+i) c))]) (w.setCell ⟨b,o+i,none⟩ v) (cs.set (o+i) c) s4 (by simp [Hp.upd]) hb (by omega)
    (fun k c' u hk hu=>⟨((hr (k+1) c' u hk hu).1).mono s3,(hr (k+1) c' u hk hu).2⟩) (by simp;omega)
   refine⟨w',?_,s3.trans e2,?_⟩
   ·simp only [storeCells,Sem.run_bind,hst,Result.andThen_ok,e1]
   ·rw [upd_same] at e3
    rw [show o+(i+1)=o+i+1 by omega] at e3
    exact e3
theorem WRel.readBox{E:Env}{G:Gh}{h:Hp}{w:World}(H:WRel E G h w){n b:Nat}{ag:Bool}{cs:List AV}(hn:h n=some (.box ag cs)) (hb:G.box n=some b) :
  ∃ arr:Array Value,RepAP G w cs arr∧(∀ c∈cs,c.one=true)∧∀ k,w.cell? ⟨b,k,none⟩=arr[k]?:=by
 obtain⟨b',arr,ty,e1,e2,e3,e4⟩:=H.box n ag cs hn
 have hbb:b'=b:=by rw [hb] at e1;injection e1 with e1;exact e1.symm
 subst hbb
 exact⟨arr,e3,e4.1,fun k=>by simp [World.cell?,e2]⟩
theorem WRel.freeze{E:Env}{G:Gh}{h:Hp}{w:World}(H:WRel E G h w){n b:Nat}{ag:Bool}{cs:List AV}(hn:h n=some (.box ag cs)) (hb:G.box n=some b) :
  GLe G w {G with I:=fun a=>G.I a∨(a.block=b∧(w.cell? a).isSome=true)} w∧WRel E {G with I:=fun a=>G.I a∨(a.block=b∧(w.cell? a).isSome=true)} (h.upd [(n,.dead)]) w:=by
 obtain⟨hlt,hK,_,hge⟩:=H.bown n b hb
 have hle:GLe G w {G with I:=fun a=>G.I a∨(a.block=b∧(w.cell? a).isSome=true)} w:=⟨fun a ha=>⟨.inl ha,rfl⟩,fun _ _ h=>h,fun _ _ h=>h,fun _ _ _=>rfl⟩
 refine⟨hle,⟨H.os,H.tape,H.output,H.size,H.kept,fun a ha=>?_,fun a ha=>?_,fun a ha=>?_,fun m hm=>?_,fun m ag' cs' hm=>?_,fun m b' hb'=>?_,H.binjU hn (fun q=>by cases q) _,fun r hr=>?_,fun r r' A k cap sz A' k' cap' sz' hr1 hr2=>?_,fun m s hm=>?_,fun m es hm=>?_,H.gb.trans hle,H.gB⟩⟩
 ·obtain⟨h1,h2⟩:=H.i0 a ha
  exact⟨.inl h1,h2⟩
 ·rcases ha with ha | ⟨ha,_⟩
  ·exact H.inew a ha
  ·exact .inr (by rw [ha];exact hge)
 ·rcases ha with ha | ⟨_,ha⟩
  ·exact H.icell a ha
  ·exact ha
 ·simp only [Hp.upd] at hm
  split at hm
  ·cases hm
  ·exact H.fresh m hm
 ·simp only [Hp.upd] at hm
  split at hm
  ·injection hm with hm;cases hm
  ·obtain⟨b2,arr,ty,f1,f2,f3,f4⟩:=H.box m ag' cs' hm
   exact⟨b2,arr,ty,f1,f2,f3.mono hle,f4⟩
 ·obtain⟨f1,f2,f3,f4⟩:=H.bown m b' hb'
  refine⟨f1,f2,fun hd a e ha=>?_,f4⟩
  by_cases em:m=n
  ·exact hd (by simp [Hp.upd,em])
  ·rcases ha with ha | ⟨ha,_⟩
   ·exact f3 (fun he=>hd (by simp [Hp.upd,em,he])) a e ha
   ·exact em (H.binj m n b' hb' (by rw [hb,<- ha,e]) (fun q=>hd (by rw [Hp.upd_ne em];exact q)) (fun q=>by rw [hn] at q;cases q))
 ·simp only [Hp.upd] at hr
  split at hr
  ·injection hr with hr;cases hr
  ·obtain⟨A,k,cap,sz,f1,f2⟩:=H.row r hr
   refine⟨A,k,cap,sz,f1,fun j hj hj'=>?_⟩
   obtain⟨ad,e,c1,c2,c3,c4,c5⟩:=f2 j hj hj'
   refine⟨ad,e,c1,c2,fun hi=>?_,c4,c5⟩
   rcases hi with hi | ⟨hi,_⟩
   ·exact c3 hi
   ·rw [block_add] at hi;exact c5 n (by rw [hb,hi])
 ·simp only [Hp.upd] at hr1 hr2
  split at hr1
  ·injection hr1 with hr1;cases hr1
  ·split at hr2
   ·injection hr2 with hr2;cases hr2
   ·exact H.rinj r r' A k cap sz A' k' cap' sz' hr1 hr2
 ·simp only [Hp.upd] at hm
  split at hm
  ·injection hm with hm;cases hm
  ·exact H.obj m s hm
 ·simp only [Hp.upd] at hm
  split at hm
  ·injection hm with hm;cases hm
  ·obtain⟨b2,arr,ck,f1,f2,f3⟩:=H.mapo m es hm
   exact⟨b2,arr,ck,f1,f2,f3.mono hle⟩
def allD:List AV->Option (List D)
 | []=>some []
 | .d x::r=>(allD r).map (x::·)
 | _::_=>none
def mkAgg (cs:List AV):AV :=
 match allD cs with
 | some ds=>.d (.agg ds)
 | none=>.agg cs
theorem allD_eq:∀ {cs:List AV}{ds:List D},allD cs=some ds->cs=ds.map .d
 | [],ds,h=>by simp [allD] at h;subst h;rfl
 | .d x::r,ds,h=>by
  simp only [allD,Option.map_eq_some_iff] at h
  obtain⟨e,he,rfl⟩:=h
  rw [List.map_cons,<- allD_eq he]
 | .own _ _ _::_,_,h=>by simp [allD] at h
 | .agg _::_,_,h=>by simp [allD] at h
 | .tup _::_,_,h=>by simp [allD] at h
 | .ptr _ _::_,_,h=>by simp [allD] at h
 | .bsl _ _ _ _ _::_,_,h=>by simp [allD] at h
 | .e0 _::_,_,h=>by simp [allD] at h
 | .fn _ _ _::_,_,h=>by simp [allD] at h
theorem RepA.of_d{G:Gh}{w:World}{x:D}{v:Value}(h:RepA G w (.d x) v):Rep G.I w x v:=by cases h;assumption
theorem repA_mkAgg{G:Gh}{w:World}{cs:List AV}{vs:Array Value}(h:RepAL G w cs vs) (h1:∀ c∈cs,c.one=true):RepA G w (mkAgg cs) (.agg vs):=by
 unfold mkAgg
 cases he:allD cs with
 | none=>exact .agg h.1 h1 h.2
 | some ds =>
  have e:=allD_eq he
  subst e
  refine .d (.agg (by simpa using h.1) (fun c hc=>h1 (.d c) (by simp;exact hc)) (fun k c v hk hv=>?_))
  exact(h.2 k (.d c) v (by simp [hk]) hv).of_d
theorem WRel.newAny{E:Env}{G:Gh}{h:Hp}{w:World}(H:WRel E G h w){n:Nat}(hn:h n=none) (r:Loop) (o:Obj) (x:HO)
  (hx:(∃ s,x=.obj s∧o=objOf r s)∨∃ es arr ck,x=.mapo es∧o=.map arr ck∧RepE G w es arr ck) :
  GLe G w {G with box:=fun m=>if m=n then some w.heap.size else G.box m,rc:=fun m=>if m=n then r else G.rc m} (w.alloc o) ∧
  WRel E {G with box:=fun m=>if m=n then some w.heap.size else G.box m,rc:=fun m=>if m=n then r else G.rc m} (h.upd [(n,x)]) (w.alloc o):=by
 have g:=Grow.alloc w o
 obtain⟨hb0,hr0⟩:=H.fresh n hn
 have hxb:∀ ag cs,x≠.box ag cs:=fun ag cs e=>by rcases hx with ⟨s,rfl,_⟩ | ⟨es,arr,ck,rfl,_⟩ <;> cases e
 have hxr:x≠.row:=fun e=>by rcases hx with ⟨s,rfl,_⟩ | ⟨es,arr,ck,rfl,_⟩ <;> cases e
 have hle:GLe G w {G with box:=fun m=>if m=n then some w.heap.size else G.box m,rc:=fun m=>if m=n then r else G.rc m} (w.alloc o) :=
  ⟨fun a ha=>⟨ha,g.cell (H.ilt ha)⟩,fun m b hb=>by
   dsimp only
   split
   ·rename_i e;subst e;rw [hb0] at hb;cases hb
   ·exact hb,fun _ _ h=>h,fun m b hb=>by
   dsimp only
   split
   ·rename_i e;subst e;rw [hb0] at hb;cases hb
   ·rfl⟩
 refine⟨hle,⟨H.os,H.tape,H.output,Nat.le_trans H.size g.size,fun b hb=>?_,fun a ha=>?_,H.inew,fun a ha=>?_,fun m hm=>?_,fun m ag' cs' hm=>?_,fun m b hb=>?_,fun m m' b hm hm'=>?_,fun r hr'=>?_,fun r r' A k cap sz A' k' cap' sz' hr1 hr2=>?_,fun m s' hm=>?_,fun m es hm=>?_,H.gb.trans hle,H.gB⟩⟩
 ·obtain⟨h1,h2⟩:=H.kept b hb
  exact⟨h1,(g.block b (Nat.lt_of_lt_of_le h1 H.size)).trans h2⟩
 ·obtain⟨h1,h2⟩:=H.i0 a ha
  exact⟨h1,(g.cell (H.ilt h1)).trans h2⟩
 ·rw [g.cell (H.ilt ha)];exact H.icell a ha
 ·simp only [Hp.upd] at hm
  split at hm
  ·cases hm
  ·rename_i hne;dsimp only;rw [if_neg hne];exact H.fresh m hm
 ·simp only [Hp.upd] at hm
  dsimp only
  split at hm
  ·injection hm with hm;exact absurd hm (hxb _ _)
  ·rename_i hne
   rw [if_neg hne]
   obtain⟨b,arr',ty',e1,e2,e3,e4⟩:=H.box m ag' cs' hm
   exact⟨b,arr',ty',e1,(g.block b (H.bown m b e1).1).trans e2,e3.mono hle,by rw [if_neg hne];exact e4⟩
 ·dsimp only at hb ⊢
  split at hb
  ·injection hb with hb;subst hb
   refine⟨by simp,fun hk=>?_,fun _ a e ha=>?_,E.hN _ H.size⟩
   ·have:=(H.kept _ hk).1;have:=H.size;omega
   ·have:=H.ilt ha;omega
  ·rename_i hne
   obtain⟨e1,e2,e3,e4⟩:=H.bown m b hb
   exact⟨by simp;omega,e2,fun hd=>e3 (fun he=>hd (by simp [Hp.upd,hne,he])),e4⟩
 ·intro q1 q2
  dsimp only at hm hm'
  split at hm
  ·split at hm'
   ·rename_i e e';rw [e,e']
   ·injection hm with hm;have:=(H.bown m' b hm').1;omega
  ·split at hm'
   ·injection hm' with hm';have:=(H.bown m b hm).1;omega
   ·rename_i e e'
    exact H.binj m m' b hm hm' (fun q=>q1 (by rw [Hp.upd_ne e];exact q)) (fun q=>q2 (by rw [Hp.upd_ne e'];exact q))
 ·simp only [Hp.upd] at hr'
  split at hr'
  ·injection hr' with hr';exact absurd hr' hxr
  ·obtain⟨A,k,cap,sz,e1,e2⟩:=H.row r hr'
   refine⟨A,k,cap,sz,e1,fun j hj hj'=>?_⟩
   obtain⟨ad,e,c1,c2,c3,c4,c5⟩:=e2 j hj hj'
   have hlt:(ad.add j).block<w.heap.size:=by
    obtain⟨v,hv⟩:=Option.isSome_iff_exists.1 c1
    exact World.block_lt_of_cell? w _ hv
   refine⟨ad,e,by rw [g.cell hlt];exact c1,by rw [g.frozen hlt];exact c2,c3,c4,fun m hm=>?_⟩
   dsimp only at hm
   split at hm
   ·injection hm with hm;rw [block_add] at hlt;omega
   ·exact c5 m hm
 ·simp only [Hp.upd] at hr1 hr2
  split at hr1
  ·injection hr1 with hr1;exact absurd hr1 hxr
  ·split at hr2
   ·injection hr2 with hr2;exact absurd hr2 hxr
   ·exact H.rinj r r' A k cap sz A' k' cap' sz' hr1 hr2
 ·simp only [Hp.upd] at hm
  dsimp only
  split at hm
  ·rename_i e
   injection hm with hm
   rcases hx with ⟨s,rfl,rfl⟩ | ⟨es,arr,ck,rfl,_⟩
   ·injection hm with hm;subst hm
    rw [if_pos e,if_pos e]
    exact⟨w.heap.size,rfl,heap_alloc_new w _⟩
   ·cases hm
  ·rename_i hne
   rw [if_neg hne,if_neg hne]
   obtain⟨b,e1,e2⟩:=H.obj m s' hm
   exact⟨b,e1,(g.block b (H.bown m b e1).1).trans e2⟩
 ·simp only [Hp.upd] at hm
  dsimp only
  split at hm
  ·rename_i e
   injection hm with hm
   rcases hx with ⟨s,rfl,rfl⟩ | ⟨es',arr,ck,rfl,rfl,he⟩
   ·cases hm
   ·injection hm with hm;subst hm
    rw [if_pos e]
    exact⟨w.heap.size,arr,ck,rfl,heap_alloc_new w _,he.mono hle⟩
  ·rename_i hne
   rw [if_neg hne]
   obtain⟨b,arr,ck,e1,e2,e3⟩:=H.mapo m es hm
   exact⟨b,arr,ck,e1,(g.block b (H.bown m b e1).1).trans e2,e3.mono hle⟩
theorem WRel.putAny{E:Env}{G:Gh}{h:Hp}{w:World}(H:WRel E G h w){n b:Nat}(hnd:h n≠some .dead) (hb:G.box n=some b) (o:Obj) (x:HO)
  (hx:x=.dead∨(∃ s',x=.obj s'∧o=objOf (G.rc n) s')∨∃ es arr ck,x=.mapo es∧o=.map arr ck∧RepE G w es arr ck) :
  GLe G w G (w.putObj b o)∧WRel E G (h.upd [(n,x)]) (w.putObj b o):=by
 obtain⟨hlt,hK,hI',hge⟩:=H.bown n b hb
 have hI:=hI' hnd
 have hblk:∀ k,k≠b->(w.putObj b o).heap[k]?=w.heap[k]?:=fun k hk=>World.putObj_heap_other hk
 have hcellne:∀ a:Addr,a.block≠b->(w.putObj b o).cell? a=w.cell? a:=fun a ha=>World.cell?_of_block (hblk _ ha)
 have hfrne:∀ a:Addr,a.block≠b->(w.putObj b o).frozen? a=w.frozen? a:=fun a ha=>World.frozen?_of_block (hblk _ ha)
 have hIne:∀ a,G.I a->a.block≠b:=fun a ha e=>hI a e ha
 have hle:GLe G w G (w.putObj b o):=⟨fun a ha=>⟨ha,hcellne a (hIne a ha)⟩,fun _ _ h=>h,fun _ _ h=>h,fun _ _ _=>rfl⟩
 have hbox:∀ m ag cs,(h.upd [(n,x)]) m=some (.box ag cs)->m≠n∧h m=some (.box ag cs):=fun m ag cs hm=>by
  simp only [Hp.upd] at hm
  split at hm
  ·rcases hx with rfl | ⟨s',rfl,_⟩ | ⟨es,arr,ck,rfl,_⟩ <;> (injection hm with hm;cases hm)
  ·rename_i hne;exact⟨hne,hm⟩
 have hrow:∀ m,(h.upd [(n,x)]) m=some .row->h m=some .row:=fun m hm=>by
  simp only [Hp.upd] at hm
  split at hm
  ·rcases hx with rfl | ⟨s',rfl,_⟩ | ⟨es,arr,ck,rfl,_⟩ <;> (injection hm with hm;cases hm)
  ·exact hm
 refine⟨hle,⟨H.os,H.tape,H.output,by simpa using H.size,fun k hk=>?_,fun a ha=>?_,H.inew,fun a ha=>?_,fun m hm=>?_,fun m ag' cs' hm=>?_,fun m b' hb'=>?_,H.binjV hnd _,fun r hr=>?_,fun r r' A k cap sz A' k' cap' sz' hr1 hr2=>H.rinj r r' A k cap sz A' k' cap' sz' (hrow _ hr1) (hrow _ hr2),fun m s' hm=>?_,fun m es hm=>?_,H.gb.trans hle,H.gB⟩⟩
 ·obtain⟨h1',h2'⟩:=H.kept k hk
  exact⟨h1',(hblk k (fun e=>hK (e ▸ hk))).trans h2'⟩
 ·obtain⟨h1',h2'⟩:=H.i0 a ha
  exact⟨h1',(hcellne a (hIne a h1')).trans h2'⟩
 ·rw [hcellne a (hIne a ha)];exact H.icell a ha
 ·simp only [Hp.upd] at hm
  split at hm
  ·cases hm
  ·exact H.fresh m hm
 ·obtain⟨hne,hm⟩:=hbox m ag' cs' hm
  obtain⟨b2,arr',ty',f1,f2,f3,f4⟩:=H.box m ag' cs' hm
  exact⟨b2,arr',ty',f1,(hblk b2 (fun e=>hne (H.binj m n b (e ▸ f1) hb (fun q=>by rw [hm] at q;cases q) hnd))).trans f2,f3.mono hle,f4⟩
 ·obtain⟨f1,f2,f3,f4⟩:=H.bown m b' hb'
  refine⟨by simpa using f1,f2,fun hd=>f3 (fun he=>?_),f4⟩
  by_cases e:m=n
  ·subst e;exact hnd he
  ·exact hd (by simp [Hp.upd,e,he])
 ·obtain⟨A,k,cap,sz,f1,f2⟩:=H.row r (hrow _ hr)
  refine⟨A,k,cap,sz,f1,fun j hj hj'=>?_⟩
  obtain⟨ad,e,c1,c2,c3,c4,c5⟩:=f2 j hj hj'
  have hne:(ad.add j).block≠b:=by rw [block_add];exact fun e'=>c5 n (by rw [hb,e'])
  exact⟨ad,e,by rw [hcellne _ hne];exact c1,by rw [hfrne _ hne];exact c2,c3,c4,c5⟩
 ·simp only [Hp.upd] at hm
  split at hm
  ·rename_i e;subst e
   rcases hx with rfl | ⟨s2,rfl,rfl⟩ | ⟨es,arr,ck,rfl,_⟩
   ·injection hm with hm;cases hm
   ·injection hm with hm;injection hm with hm;subst hm
    exact⟨b,hb,World.putObj_heap_same hlt⟩
   ·injection hm with hm;cases hm
  ·rename_i hne
   obtain⟨b2,f1,f2⟩:=H.obj m s' hm
   exact⟨b2,f1,(hblk b2 (fun e=>hne (H.binj m n b (e ▸ f1) hb (fun q=>by rw [hm] at q;cases q) hnd))).trans f2⟩
 ·simp only [Hp.upd] at hm
  split at hm
  ·rename_i e;subst e
   rcases hx with rfl | ⟨s2,rfl,rfl⟩ | ⟨es',arr,ck,rfl,rfl,he⟩
   ·injection hm with hm;cases hm
   ·injection hm with hm;cases hm
   ·injection hm with hm;injection hm with hm;subst hm
    exact⟨b,arr,ck,hb,World.putObj_heap_same hlt,he.mono hle⟩
  ·rename_i hne
   obtain⟨b2,arr,ck,f1,f2,f3⟩:=H.mapo m es hm
   exact⟨b2,arr,ck,f1,(hblk b2 (fun e=>hne (H.binj m n b (e ▸ f1) hb (fun q=>by rw [hm] at q;cases q) hnd))).trans f2,f3.mono hle⟩
inductive Opd where
 | tmp (t:Nat)
 | dat (d:D)
 | glob (g:Nat)
 deriving Inhabited
inductive CO:Operand->Opd->Prop
 | tmp (t:Nat):CO (.tmp t) (.tmp t)
 | dat (x:Operand) (d:D) (h:∀ (a:Act) (I:Addr->Prop) (w:World),Rep I w d (a.eval x)):CO x (.dat d)
 | glob (g:Nat):CO (.global g) (.glob g)
def EvO (G:Gh) (w:World) (a:Act) (x':Opd) (av:AV):Prop:=∀ x,CO x x'->RepA G w av (a.eval x)
inductive SK where
 | int (k:IntKind)
 | bool
 | str
 deriving Inhabited,DecidableEq
inductive Ext where
 | eqrow (neg:Bool) (ks:List SK)
 | sliceA (n sz:Nat)
 | bytesStr
 | eqBool (neg:Bool)
 | isNil (neg:Bool)
 | strIdx
 | shift (left:Bool)
 | uneg
 | tassert (t:TypeId) (z:D)
 | nilChk
 | mkmap
 | insert (sk:SK)
 | lookup (sk:SK) (ok:Bool) (z:D)
 | makeslice (sz bytes:Nat) (z:D)
 | idxV (sz:Nat) (ag:Bool) (n:Nat)
 | idxB (sz:Nat)
 | lenB
 | libClone (f:FuncId) (sz bytes:Nat)
 | libIns (f:FuncId) (sz bytes:Nat)
 | libDel (f:FuncId) (sz:Nat)
 | libInsW (f:FuncId) (sz bytes:Nat)
 | libDelW (f:FuncId) (sz:Nat)
 | mapClone (f:FuncId)
 | mapKeys (f g:FuncId)
 | mapCopy (f:FuncId) (sz:Nat)
 | sorted (f g:FuncId)
 | mkslW (sz:Nat)
 | strBytes
 | appendS (bytes:Nat)
 | tassert1 (t:TypeId)
 deriving Inhabited
inductive AOp where
 | mov (x:Opd)
 | pick (c a b:Opd)
 | alloc (ag:Bool) (z:List D)
 | box (ag:Bool) (x:Opd)
 | build (z:List D) (parts:List (Nat×Nat×Opd))
 | mkslice (sz:Nat) (parts:List Opd)
 | load (sz:Nat) (ag:Bool) (x:Opd)
 | store (sz:Nat) (x y:Opd)
 | arith (op:BinOp) (x y:Opd)
 | not (x:Opd)
 | field (off fsz:Nat) (ag:Bool) (x:Opd)
 | fieldv (off fsz:Nat) (ag:Bool) (x:Opd)
 | index (sz:Nat) (x i:Opd)
 | indexA (sz:Nat) (ag:Bool) (n:Nat) (x i:Opd)
 | slice (sz:Nat) (x:Opd) (lo hi:Option Opd)
 | slice3 (sz:Nat) (x:Opd) (lo:Option Opd) (hi mx:Opd)
 | len (x:Opd)
 | lenS (x:Opd)
 | append (sz bytes:Nat) (x y:Opd)
 | minmax (mx:Bool) (x y:Opd)
 | func (f:Fn) (first caps:List Opd)
 | extract (x:Opd) (i:Nat)
 | conv (k:IntKind) (x:Opd)
 | ifc (t:TypeId) (x:Opd)
 | sliceS (x:Opd) (lo hi:Option Opd)
 | ext (k:Ext) (xs:List Opd)
 deriving Inhabited
def optL {α:Type}:Option α->List α
 | none=>[]
 | some x=>[x]
def AOp.opds:AOp->List Opd
 | .mov x | .box _ x | .load _ _ x | .not x | .field _ _ _ x | .fieldv _ _ _ x | .len x | .lenS x | .extract x _ | .conv _ x | .ifc _ x=>[x]
 | .pick c a b=>[c,a,b]
 | .alloc _ _=>[]
 | .build _ ps=>ps.map (·.2.2)
 | .mkslice _ ps=>ps
 | .store _ x y | .arith _ x y | .index _ x y | .indexA _ _ _ x y | .append _ _ x y | .minmax _ x y=>[x,y]
 | .slice _ x lo hi | .sliceS x lo hi=>x::(optL lo++optL hi)
 | .slice3 _ x lo hi mx=>x::(optL lo++[hi,mx])
 | .func _ a b=>a++b
 | .ext _ xs=>xs
def subD (off sz:Nat) (ag:Bool) (x:D):D:=if ag then .agg ((x.cells.drop off).take sz) else x.cells.getD off default
def subA (off sz:Nat) (ag:Bool) (cs:List AV):AV:=if ag then mkAgg ((cs.drop off).take sz) else cs.getD off default
def D.isAgg:D->Bool
 | .agg _=>true
 | _=>false
def D.fits (sz:Nat) (ag:Bool) (x:D):Prop:=x.cells.length=sz∧x.isAgg=ag∧(ag=false->x.one=true)
def look (hl:List (Nat×HO)) (n:Nat):Option HO :=
 match hl with
 | []=>none
 | (m,o)::r=>if n=m then some o else look r n
def newName (hl:List (Nat×HO)):Nat :=
 match hl with
 | []=>0
 | (m,_)::r=>max (m+1) (newName r)
structure Eff where
 c:Prop
 v:AV
 hin:List (Nat×HO):=[]
 up:List (Nat×HO):=[]
def arithV (op:BinOp) (k:IntKind) (x y:Int):Option (Prop×Value) :=
 match op with
 | .add=>some (True,.int k (k.wrap (x+y)))
 | .sub=>some (True,.int k (k.wrap (x-y)))
 | .mul=>some (True,.int k (k.wrap (x*y)))
 | .quo=>some (y≠0,.int k (k.wrap (x.tdiv y)))
 | .rem=>some (y≠0,.int k (x.tmod y))
 | .eql=>some (True,.bool (x == y))
 | .neq=>some (True,.bool (x != y))
 | .lss=>some (True,.bool (decide (x<y)))
 | .leq=>some (True,.bool (decide (x<=y)))
 | .gtr=>some (True,.bool (decide (x>y)))
 | .geq=>some (True,.bool (decide (x ≥ y)))
 | .and=>some (True,.int k (k.wrap ((BitVec.ofInt k.bits x&&&BitVec.ofInt k.bits y).toNat:Int)))
 | .or=>some (True,.int k (k.wrap ((BitVec.ofInt k.bits x|||BitVec.ofInt k.bits y).toNat:Int)))
 | .xor=>some (True,.int k (k.wrap ((BitVec.ofInt k.bits x^^^BitVec.ofInt k.bits y).toNat:Int)))
 | .andNot=>some (True,.int k (k.wrap ((BitVec.ofInt k.bits x&&&~~~BitVec.ofInt k.bits y).toNat:Int)))
 | _=>none
def shiftV (left:Bool) (k:IntKind) (x y:Int):Value:=.int k (if left then k.wrap (x*2 ^ (min y.toNat k.bits)) else x.fdiv (2 ^ (min y.toNat k.bits)))
def strV (op:BinOp) (x y:ByteArray):Option (Prop×Value) :=
 match op with
 | .add=>some (x.size+y.size<=9223372036854775807,.string (x++y))
 | .eql=>some (True,.bool (x.toList == y.toList))
 | .neq=>some (True,.bool !(x.toList == y.toList))
 | .lss=>some (True,.bool (Op.bytesLess x.toList y.toList))
 | .leq=>some (True,.bool (Op.bytesLess x.toList y.toList||x.toList == y.toList))
 | .gtr=>some (True,.bool !(Op.bytesLess x.toList y.toList||x.toList == y.toList))
 | .geq=>some (True,.bool !(Op.bytesLess x.toList y.toList))
 | _=>none
def AV.elems:AV->Option (Nat×List D)
 | .d (.nil sz)=>some (sz,[])
 | .d (.sl sz es)=>some (sz,es)
 | .own _ sz es=>some (sz,es)
 | _=>none
def AV.toD0:AV->Option D
 | .d x=>some x
 | .own _ sz es=>some (.sl sz es)
 | _=>none
def toDs0:List AV->Option (List D)
 | []=>some []
 | v::r=>match v.toD0,toDs0 r with
  | some x,some l=>some (x::l)
  | _,_=>none
def AV.toD1:AV->Option D
 | .d x=>some x
 | .own _ sz es=>some (.sl sz es)
 | .agg cs=>(toDs0 cs).map .agg
 | _=>none
def toDs:List AV->Option (List D)
 | []=>some []
 | v::r=>match v.toD1,toDs r with
  | some x,some l=>some (x::l)
  | _,_=>none
def buildA (z:List AV):List (Nat×Nat×Opd)->List AV->List AV
 | (off,_,_)::ps,v::vs=>buildA (setAt z off v.cells) ps vs
 | _,_=>z
def buildC:List (Nat×Nat×Opd)->List AV->Nat->Prop
 | (off,sz,_)::ps,v::vs,n=>v.cells.length=sz∧v.noTup=true∧off+sz<=n∧buildC ps vs n
 | [],[],_=>True
 | _,_,_=>False
def bound:Option Opd->List AV->Nat->Option (Int×List AV)
 | none,vs,d=>some (d,vs)
 | some _,.d (.lit (.int _ i))::vs,_=>some (i,vs)
 | _,_,_=>none
def eqC:List SK->List D->List D->Prop
 | .int k::ks,.lit (.int k1 _)::xs,.lit (.int k2 _)::ys=>k1=k∧k2=k∧eqC ks xs ys
 | .bool::ks,.lit (.bool _)::xs,.lit (.bool _)::ys=>eqC ks xs ys
 | .str::ks,.lit (.string _)::xs,.lit (.string _)::ys=>eqC ks xs ys
 | [],[],[]=>True
 | _,_,_=>False
def eqB:List D->List D->Bool
 | .lit (.int _ a)::xs,.lit (.int _ b)::ys=>a == b&&eqB xs ys
 | .lit (.bool a)::xs,.lit (.bool b)::ys=>a == b&&eqB xs ys
 | .lit (.string a)::xs,.lit (.string b)::ys=>decide (a=b)&&eqB xs ys
 | [],[]=>true
 | _,_=>false
def AV.rowD:AV->Option (List D)
 | .d (.agg cs)=>some cs
 | .agg cs=>toDs cs
 | _=>none
def D.u8:D->Option Int
 | .lit (.int .u8 n)=>some n
 | _=>none
def D.num:D->Int
 | .lit (.int _ n)=>n
 | _=>0
def bytesOf (es:List D):ByteArray:=strOfNums (es.map D.num)
def kIs:SK->Value->Bool
 | .int k,.int k' _=>decide (k'=k)
 | .bool,.bool _=>true
 | .str,.string _=>true
 | _,_=>false
def kSame:Value->Value->Option Bool
 | .int k a,.int k' b=>if k=k' then some (a == b) else none
 | .string a,.string b=>some (a == b)
 | .bool a,.bool b=>some (a == b)
 | _,_=>none
def kFind (k:Value):List (Value×AV)->Option (Option AV)
 | []=>some none
 | e::es=>match kSame k e.1 with
  | some true=>some (some e.2)
  | some false=>kFind k es
  | none=>none
def kPut (k:Value) (v:AV):List (Value×AV)->List (Value×AV)
 | []=>[]
 | e::es=>match kSame k e.1 with
  | some true=>(e.1,v)::es
  | _=>e::kPut k v es
def keysOf (es:List (Value×AV)):List (Value×AV):=if mkd es=true then es.tail else es
def keyZ:Value×AV->Option Int
 | (.int _ t,_)=>some t
 | _=>none
def insU (x:Int):List Int->List Int
 | []=>[x]
 | y::r=>if x<y then x::y::r else if x=y then y::r else y::insU x r
def sortU (l:List Int):List Int:=l.foldr insU []
def lookV (ok:Bool) (v:AV) (b:Bool):AV:=if ok then .tup [v,.d (.lit (.bool b))] else v
def sliceR (x:AV) (sz:Nat) (es:List D):AV:=match x with
 | .d (.nil n)=>.d (.nil n)
 | _=>.d (.sl sz es)
def iceD:Bool->List D->D
 | true,es=>.agg es
 | false,es=>es.headD default
def chunkD (z:Nat):Nat->List D->List D
 | 0,_=>[]
 | n+1,ds=>.agg (ds.take z)::chunkD z n (ds.drop z)
def elsD (z len:Nat) (ds:List D):List D:=if z=1 then ds.take len else chunkD z len ds
theorem chunkD_len(z:Nat):∀ (n:Nat) (ds:List D),(chunkD z n ds).length=n
 | 0,_=>rfl
 | n+1,ds=>by simp [chunkD,chunkD_len z n]
theorem chunkD_cells{z:Nat}:∀ (n:Nat) (ds:List D),n*z<=ds.length->∀ e∈chunkD z n ds,e.cells.length=z
 | 0,_,_,e,he=>by simp [chunkD] at he
 | n+1,ds,h,e,he=>by
  rw [Nat.add_mul,Nat.one_mul] at h
  simp only [chunkD,List.mem_cons] at he
  rcases he with rfl | he
  ·simp [D.cells];omega
  ·exact chunkD_cells n (ds.drop z) (by rw [List.length_drop];omega) e he
theorem chunkD_flat{z:Nat}:∀ (n:Nat) (ds:List D),n*z<=ds.length->D.flat (chunkD z n ds)=ds.take (n*z)
 | 0,_,_=>by simp [chunkD,D.flat]
 | n+1,ds,h=>by
  rw [Nat.add_mul,Nat.one_mul] at h
  have ih:=chunkD_flat (z:=z) n (ds.drop z) (by rw [List.length_drop];omega)
  simp only [chunkD,D.flat,List.flatMap_cons,D.cells] at ih ⊢
  rw [ih,Nat.add_mul,Nat.one_mul,Nat.add_comm (n*z) z,List.take_add]
theorem flat_onesD:∀ l:List D,(∀ d∈l,d.one=true)->D.flat l=l:=fun l=>by
 induction l with
 | nil=>intro _;rfl
 | cons d l ih =>
  intro h1
  have hd:=h1 d (by simp)
  have hcells:d.cells=[d]:=by cases d <;> first | rfl | simp [D.one] at hd
  have:=ih (fun x hx=>h1 x (by simp [hx]))
  simp only [D.flat,List.flatMap_cons] at this ⊢
  rw [this,hcells];rfl
theorem elsD_spec{z len:Nat}{ds:List D}(h:len*z<=ds.length) (h1:∀ d∈ds,d.one=true):(elsD z len ds).length=len∧(∀ e∈elsD z len ds,e.cells.length=z)∧D.flat (elsD z len ds)=ds.take (len*z):=by
 unfold elsD
 by_cases hz:z=1
 ·subst hz
  rw [if_pos rfl,Nat.mul_one] at *
  have hone:∀ d∈ds.take len,d.one=true:=fun d hd=>h1 d (List.mem_of_mem_take hd)
  refine⟨by simp;omega,fun e he=>?_,flat_onesD _ hone⟩
  have h1':=hone e he
  cases e <;> first | rfl | simp [D.one] at h1'
 ·rw [if_neg hz]
  exact⟨chunkD_len z len ds,chunkD_cells len ds h,chunkD_flat len ds h⟩
def wr (es:List D):List AV:=(D.flat es).map .d
def strD (s:ByteArray):List D:=s.data.toList.map fun b=>.lit (.int .u8 (b.toNat:Int))
def fl:Bool->Option Opd
 | true=>some default
 | false=>none
def stepX (hl:List (Nat×HO)) (k:Ext) (vals:List AV):Option Eff :=
 match k with
 | .eqrow neg ks=>match vals with
  | [x,y]=>match x.rowD,y.rowD with
   | some xs,some ys=>some {c:=eqC ks xs ys,v:=.d (.lit (.bool (neg ^^ eqB xs ys)))}
   | _,_=>none
  | _=>none
 | .sliceA n sz=>match vals with
  | [.ptr b o]=>match look hl b with
   | some (.box ag cs)=>some {c:=True,v:=.bsl b o sz n n,hin:=[(b,.box ag cs)]}
   | _=>none
  | [.d (.ip x)]=>some {c:=sz=1∧x.cells.length=n∧x.isAgg=true,v:=.d (.sl 1 x.cells)}
  | _=>none
 | .bytesStr=>match vals with
  | [.bsl q o z l _]=>match look hl q with
   | some (.box ag cs)=>match allD cs with
    | some ds=>some {c:=z=1∧o+l<=ds.length∧∀ e∈elsD 1 l (ds.drop o),e.u8.isSome=true,v:=.d (.lit (.string (bytesOf (elsD 1 l (ds.drop o))))),hin:=[(q,.box ag cs)]}
    | none=>none
   | _=>none
  | [x]=>match x.elems with
   | some (sz,es)=>some {c:=(sz=1∨es=[])∧∀ e∈es,e.u8.isSome=true,v:=.d (.lit (.string (bytesOf es)))}
   | none=>none
  | _=>none
 | .eqBool neg=>match vals with
  | [.d (.lit (.bool a)),.d (.lit (.bool b))]=>some {c:=True,v:=.d (.lit (.bool (neg ^^ (a == b))))}
  | _=>none
 | .isNil neg=>match vals with
  | [.d (.lit .nilIface)]=>some {c:=True,v:=.d (.lit (.bool !neg))}
  | [.d (.ifc _ _)]=>some {c:=True,v:=.d (.lit (.bool neg))}
  | _=>none
 | .strIdx=>match vals with
  | [.d (.lit (.string s)),.d (.lit (.int _ i))]=>some {c:=0<=i∧i<s.data.toList.length,v:=.d (.lit (.int .u8 (s.data.toList.getD i.toNat 0).toNat))}
  | _=>none
 | .shift left=>match vals with
  | [.d (.lit (.int k a)),.d (.lit (.int _ b))]=>some {c:=0<=b,v:=.d (.lit (shiftV left k a b))}
  | _=>none
 | .uneg=>match vals with
  | [.d (.lit (.int k a))]=>some {c:=True,v:=.d (.lit (.int k (k.wrap (0-a))))}
  | _=>none
 | .tassert t z=>match vals with
  | [.d (.ifc ty d)]=>some {c:=True,v:=.d (.tup [if ty=t then d else z,.lit (.bool (decide (ty=t)))])}
  | [.d (.lit .nilIface)]=>some {c:=True,v:=.d (.tup [z,.lit (.bool false)])}
  | _=>none
 | .nilChk=>match vals with
  | [.ptr n o]=>some {c:=True,v:=.ptr n o}
  | [.d (.ip x)]=>some {c:=True,v:=.d (.ip x)}
  | _=>none
 | .mkmap=>match vals with
  | []=>some {c:=True,v:=.mp (newName hl),up:=[(newName hl,.mapo [])]}
  | _=>none
 | .insert sk=>match vals with
  | [.mp n,.d (.lit k),v]=>match look hl n with
   | some (.mapo es)=>match kFind k es with
    | some none=>some {c:=kIs sk k=true,v:=.tup [],hin:=[(n,.mapo es)],up:=[(n,.mapo (es++[(k,v)]))]}
    | some (some _)=>some {c:=kIs sk k=true,v:=.tup [],hin:=[(n,.mapo es)],up:=[(n,.mapo (kPut k v es))]}
    | _=>none
   | _=>none
  | _=>none
 | .lookup sk ok z=>match vals with
  | [.mp n,.d (.lit k)]=>match look hl n with
   | some (.mapo es)=>match kFind k es with
    | some (some v)=>some {c:=kIs sk k=true,v:=lookV ok v true,hin:=[(n,.mapo es)]}
    | some none=>some {c:=kIs sk k=true,v:=lookV ok (.d z) false,hin:=[(n,.mapo es)]}
    | none=>none
   | _=>none
  | [.d (.lit (.map none)),.d (.lit k)]=>some {c:=kIs sk k=true,v:=lookV ok (.d z) false}
  | _=>none
 | .idxB sz=>match vals with
  | [.bsl n o z l c,.d (.lit (.int _ i))]=>some {c:=z=sz∧0<=i∧i<l,v:=.ptr n (o+i.toNat*sz)}
  | _=>none
 | .libClone _ sz bytes=>match vals with
  | [y]=>match y.elems with
   | some (_,[])=>some {c:=True,v:=.e0 sz}
   | some (sy,y1::yr)=>some {c:=sy=sz∧(yr.length+1)*bytes<=140737488355328,v:=.bsl (newName hl) 0 sz (yr.length+1) (yr.length+1),up:=[(newName hl,.box true (wr (y1::yr)))]}
   | none=>none
  | _=>none
 | .libIns _ sz bytes=>match vals with
  | [.e0 _,.d (.lit (.int .i64 i)),.bsl q 0 z2 m _]=>match look hl q with
   | some (.box ag cv)=>match allD cv with
    | some dv=>some {c:=i=0∧z2=sz∧0<m∧m*sz<=dv.length∧m*bytes<=140737488355328,v:=.d (.sl sz (elsD sz m dv)),hin:=[(q,.box ag cv)]}
    | none=>none
   | _=>none
  | [.bsl n 0 z l c,.d (.lit (.int .i64 i)),.bsl q 0 z2 m _]=>match look hl n,look hl q with
   | some (.box ag cs),some (.box ag2 cv)=>match allD cs,allD cv with
    | some ds,some dv=>some {c:=(0<=i∧i<=l∧z=sz∧z2=sz∧c=l∧n≠q)∧(0<l∧0<m∧l*sz<=ds.length∧m*sz<=dv.length)∧(l+m)*bytes<=140737488355328∧l+m<=9223372036854775807,v:=.d (.sl sz ((elsD sz l ds).take i.toNat++elsD sz m dv++(elsD sz l ds).drop i.toNat)),hin:=[(n,.box ag cs),(q,.box ag2 cv)],up:=[(n,.dead)]}
    | _,_=>none
   | _,_=>none
  | _=>none
 | .libDel _ sz=>match vals with
  | [.bsl n 0 z l _,.d (.lit (.int .i64 i)),.d (.lit (.int .i64 j))]=>match look hl n with
   | some (.box ag cs)=>match allD cs with
    | some ds=>some {c:=(0<=i∧i<l∧j=i+1)∧z=sz∧l*sz<=ds.length,v:=.d (.sl sz ((elsD sz l ds).eraseIdx i.toNat)),hin:=[(n,.box ag cs)],up:=[(n,.dead)]}
    | none=>none
   | _=>none
  | _=>none
 | .libInsW _ sz bytes=>match vals with
  | [.d (.nil _),.d (.lit (.int .i64 i)),.bsl q 0 z2 m _]=>match look hl q with
   | some (.box ag cv)=>match allD cv with
    | some dv=>some {c:=i=0∧z2=sz∧0<m∧m*sz<=dv.length∧m*bytes<=140737488355328,v:=.bsl (newName hl) 0 sz m m,hin:=[(q,.box ag cv)],up:=[(newName hl,.box true (wr (elsD sz m dv)))]}
    | none=>none
   | _=>none
  | [.bsl n 0 z l c,.d (.lit (.int .i64 i)),.bsl q 0 z2 m _]=>match look hl n,look hl q with
   | some (.box ag cs),some (.box ag2 cv)=>match allD cs,allD cv with
    | some ds,some dv=>some {c:=(0<=i∧i<=l∧z=sz∧z2=sz∧c=l∧n≠q)∧(0<m∧l*sz<=ds.length∧m*sz<=dv.length)∧(l+m)*bytes<=140737488355328∧l+m<=9223372036854775807,v:=.bsl (newName hl) 0 sz (l+m) (l+m),hin:=[(n,.box ag cs),(q,.box ag2 cv)],up:=[(newName hl,.box ag (wr ((elsD sz l ds).take i.toNat++elsD sz m dv++(elsD sz l ds).drop i.toNat))),(n,.dead)]}
    | _,_=>none
   | _,_=>none
  | _=>none
 | .mapClone _=>match vals with
  | [.mp n]=>match look hl n with
   | some (.mapo es)=>some {c:=True,v:=.mp (newName hl),hin:=[(n,.mapo es)],up:=[(newName hl,.mapo es)]}
   | _=>none
  | _=>none
 | .mapKeys _ g=>match vals with
  | [.mp n]=>match look hl n with
   | some (.mapo es)=>some {c:=True,v:=.fn (.func g) [] [.ptr (newName hl) 0],hin:=[(n,.mapo es)],up:=[(newName hl,.box false [.mp n])]}
   | _=>none
  | _=>none
 | .mapCopy _ sz=>match vals with
  | [.mp n,.mp m]=>match look hl n,look hl m with
   | some (.mapo es),some (.mapo fs)=>some {c:=(n≠m∧mkd es=false∧mkd fs=false)∧(∀ e∈es++fs,∃ a,e.1=.int .i64 a∧-9223372036854775808<=a∧a<9223372036854775808)∧(∀ e∈fs,∃ cs,e.2=.d (.agg cs)∧cs.length=sz)∧es.length+fs.length<=1000000,v:=.d (.tup []),hin:=[(n,.mapo es),(m,.mapo fs)],up:=[(n,.mapo ((.tuple #[],.tup [])::(es++fs).map fun e=>(e.1,.tup [])))]}
   | _,_=>none
  | _=>none
 | .sorted _ g=>match vals with
  | [.fn (.func g') [] [.ptr q 0]]=>match look hl q with
   | some (.box ag [.mp n])=>match look hl n with
    | some (.mapo es)=>some {c:=g'=g∧(∀ e∈keysOf es,∃ a,e.1=.int .i64 a∧-9223372036854775808<=a∧a<9223372036854775808)∧(keysOf es).length<=1000000,v:=.d (.sl 1 ((sortU ((keysOf es).filterMap keyZ)).map fun t=>.lit (.int .i64 t))),hin:=[(q,.box ag [.mp n]),(n,.mapo es)]}
    | _=>none
   | _=>none
  | _=>none
 | .libDelW _ sz=>match vals with
  | [.bsl n 0 z l c,.d (.lit (.int .i64 i)),.d (.lit (.int .i64 j))]=>match look hl n with
   | some (.box ag cs)=>match allD cs with
    | some ds=>some {c:=(0<=i∧i<l∧j=i+1)∧(z=sz∧c=l)∧l*sz<=ds.length,v:=.bsl (newName hl) 0 sz (l-1) (l-1),hin:=[(n,.box ag cs)],up:=[(newName hl,.box ag (wr ((elsD sz l ds).eraseIdx i.toNat))),(n,.dead)]}
    | none=>none
   | _=>none
  | _=>none
 | .mkslW sz=>match toDs vals with
  | some es=>some {c:=((∀ e∈es,e.cells.length=sz∧(∀ ds,e≠.tup ds))∧es.length*sz<=16777216)∧es≠[],v:=.bsl (newName hl) 0 sz es.length es.length,up:=[(newName hl,.box true (wr es))]}
  | none=>none
 | .lenB=>match vals with
  | [.bsl n o z l c]=>some {c:=True,v:=.d (.lit (.int .i64 l))}
  | [x]=>match x.elems with
   | some (_,es)=>some {c:=True,v:=.d (.lit (.int .i64 es.length))}
   | none=>none
  | _=>none
 | .strBytes=>match vals with
  | [.d (.lit (.string s))]=>some {c:=True,v:=.d (.sl 1 (strD s))}
  | _=>none
 | .appendS bytes=>match vals with
  | [.own r sz' es,.d (.lit (.string s))]=>match look hl r with
   | some .row=>some {c:=sz'=1∧(es.length+(strD s).length)*bytes<=140737488355328∧es.length+(strD s).length<=9223372036854775807,v:=.own (newName hl) 1 (es++strD s),hin:=[(r,.row)],up:=[(newName hl,.row),(r,.dead)]}
   | _=>none
  | [.d (.nil _),.d (.lit (.string s))]=>some {c:=(strD s).length*bytes<=140737488355328∧(strD s).length<=9223372036854775807,v:=.own (newName hl) 1 (strD s),up:=[(newName hl,.row)]}
  | _=>none
 | .idxV sz ag n=>match vals with
  | [.d (.agg cs),.d (.lit (.int _ i))]=>some {c:=(0<=i∧i<n)∧i.toNat*sz+sz<=cs.length∧(ag=false->sz=1),v:=.d (subD (i.toNat*sz) sz ag (.agg cs))}
  | [.agg cs,.d (.lit (.int _ i))]=>some {c:=(0<=i∧i<n)∧i.toNat<cs.length∧sz=1∧ag=false,v:=cs.getD i.toNat default}
  | _=>none
 | .tassert1 t=>match vals with
  | [.d (.ifc ty d)]=>some {c:=ty=t,v:=.d d}
  | _=>none
 | .makeslice sz bytes z=>match vals with
  | [.d (.lit (.int _ a)),.d (.lit (.int _ b))]=>some {c:=a=b∧0<=a∧a.toNat*sz<=16777216∧a.toNat*bytes<=281474976710656∧a<=9223372036854775807,v:=.own (newName hl) sz (List.replicate a.toNat z),up:=[(newName hl,.row)]}
  | _=>none
def stepV (hl:List (Nat×HO)) (op:AOp) (vals:List AV):Option Eff :=
 match op with
 | .mov _=>match vals with
  | [v]=>some {c:=True,v:=v}
  | _=>none
 | .pick ..=>match vals with
  | [.d (.lit (.bool c)),.d (.lit (.bool x)),.d (.lit (.bool y))]=>some {c:=True,v:=.d (.lit (.bool (bif c then x else y)))}
  | _=>none
 | .alloc ag z=>match vals with
  | []=>some {c:=True,v:=.ptr (newName hl) 0,up:=[(newName hl,.box ag (z.map .d))]}
  | _=>none
 | .box ag _=>match vals with
  | [v]=>some {c:=v.noTup=true,v:=.ptr (newName hl) 0,up:=[(newName hl,.box ag v.cells)]}
  | _=>none
 | .build z ps=>some {c:=buildC ps vals z.length,v:=mkAgg (buildA (z.map .d) ps vals)}
 | .mkslice sz _=>match toDs vals with
  | some es=>some {c:=(∀ e∈es,e.cells.length=sz∧(∀ ds,e≠.tup ds))∧es.length*sz<=16777216,v:=.own (newName hl) sz es,up:=[(newName hl,.row)]}
  | none=>none
 | .load sz ag _=>match vals with
  | [.ptr n o]=>match look hl n with
   | some (.box ag' cs)=>some {c:=o+sz<=cs.length∧(ag=false->sz=1),v:=subA o sz ag cs,hin:=[(n,.box ag' cs)]}
   | _=>none
  | [.d (.ip x)]=>some {c:=x.fits sz ag∧(ag=false->sz=1),v:=.d x}
  | _=>none
 | .store sz _ _=>match vals with
  | [.ptr n o,v]=>match look hl n with
   | some (.box ag' cs)=>some {c:=v.cells.length=sz∧v.noTup=true∧o+sz<=cs.length,v:=.tup [],hin:=[(n,.box ag' cs)],up:=[(n,.box ag' (setAt cs o v.cells))]}
   | _=>none
  | _=>none
 | .arith op _ _=>match vals with
  | [.d (.lit (.int k a)),.d (.lit (.int k' b))]=>match arithV op k a b with
   | some (c,r)=>some {c:=k=k'∧c,v:=.d (.lit r)}
   | none=>none
  | [.d (.lit (.string a)),.d (.lit (.string b))]=>match strV op a b with
   | some (c,r)=>some {c:=c,v:=.d (.lit r)}
   | none=>none
  | _=>none
 | .not _=>match vals with
  | [.d (.lit (.bool b))]=>some {c:=True,v:=.d (.lit (.bool !b))}
  | _=>none
 | .field off fsz ag _=>match vals with
  | [.ptr n o]=>some {c:=True,v:=.ptr n (o+off)}
  | [.d (.ip x)]=>some {c:=off+fsz<=x.cells.length∧(ag=false->fsz=1),v:=.d (.ip (subD off fsz ag x))}
  | _=>none
 | .fieldv off fsz ag _=>match vals with
  | [.d (.agg cs)]=>some {c:=off+fsz<=cs.length∧(ag=false->fsz=1),v:=.d (subD off fsz ag (.agg cs))}
  | _=>none
 | .index sz _ _=>match vals with
  | [x,.d (.lit (.int _ i))]=>match x.elems with
   | some (sz',es)=>some {c:=sz'=sz∧0<=i∧i<es.length,v:=.d (.ip (es.getD i.toNat default))}
   | none=>none
  | _=>none
 | .indexA sz ag n _ _=>match vals with
  | [.ptr b o,.d (.lit (.int _ i))]=>some {c:=0<=i∧i<n,v:=.ptr b (o+i.toNat*sz)}
  | [.d (.ip x),.d (.lit (.int _ i))]=>some {c:=0<=i∧i<n∧i.toNat*sz+sz<=x.cells.length∧(ag=false->sz=1),v:=.d (.ip (subD (i.toNat*sz) sz ag x))}
  | _=>none
 | .sliceS _ lo hi=>match vals with
  | .d (.lit (.string s))::vs=>match bound lo vs 0 with
   | some (l,vs')=>match bound hi vs' s.data.toList.length with
    | some (h,[])=>some {c:=0<=l∧l<=h∧h<=s.data.toList.length,v:=.d (.lit (.string ⟨((s.data.toList.take h.toNat).drop l.toNat).toArray⟩))}
    | _=>none
   | none=>none
  | _=>none
 | .slice sz _ lo hi=>match lo,vals with
  | none,[.spare r z _,.d (.lit (.int _ i))]=>some {c:=z=sz∧i=0,v:=.own r z []}
  | lo,x::vs=>match x.elems with
   | some (sz',es)=>match bound lo vs 0 with
    | some (l,vs')=>match bound hi vs' es.length with
     | some (h,[])=>some {c:=sz'=sz∧0<=l∧l<=h∧h<=es.length,v:=sliceR x sz ((es.take h.toNat).drop l.toNat)}
     | _=>none
    | none=>none
   | none=>none
  | _,_=>none
 | .slice3 sz _ lo _ _=>match vals with
  | x::vs=>match x.elems with
   | some (sz',es)=>match bound lo vs 0 with
    | some (l,[.d (.lit (.int _ h)),.d (.lit (.int _ m))])=>some {c:=sz'=sz∧0<=l∧l<=h∧h<=es.length∧m=h,v:=.own (newName hl) sz ((es.take h.toNat).drop l.toNat),up:=[(newName hl,.row)]}
    | _=>none
   | none=>none
  | _=>none
 | .lenS _=>match vals with
  | [.d (.lit (.string s))]=>some {c:=True,v:=.d (.lit (.int .i64 s.size))}
  | _=>none
 | .len _=>match vals with
  | [x]=>match x.elems with
   | some (_,es)=>some {c:=True,v:=.d (.lit (.int .i64 es.length))}
   | none=>none
  | _=>none
 | .append sz bytes _ _=>match vals with
  | [.own r sz' es,y]=>match look hl r with
   | some .row=>match y.elems with
    | some (sy,ys)=>some {c:=sz'=sz∧(ys=[]∨sy=sz)∧(es.length+ys.length)*bytes<=140737488355328∧es.length+ys.length<=9223372036854775807,v:=.own (newName hl) sz (es++ys),hin:=[(r,.row)],up:=[(newName hl,.row),(r,.dead)]}
    | none=>none
   | _=>none
  | [.d (.nil _),y]=>match y.elems with
   | some (sy,ys)=>some {c:=(ys=[]∨sy=sz)∧ys.length*bytes<=140737488355328∧ys.length<=9223372036854775807,v:=.own (newName hl) sz ys,up:=[(newName hl,.row)]}
   | none=>none
  | _=>none
 | .minmax mx _ _=>match vals with
  | [.d (.lit (.int k a)),.d (.lit (.int k' b))]=>some {c:=k=k',v:=.d (.lit (.int k (if mx then (if b>a then b else a) else (if b<a then b else a))))}
  | _=>none
 | .func f a _=>some {c:=True,v:=.fn f (vals.take a.length) (vals.drop a.length)}
 | .extract _ i=>match vals with
  | [.tup vs]=>some {c:=i<vs.length,v:=vs.getD i default}
  | [.d (.tup vs)]=>some {c:=i<vs.length,v:=.d (vs.getD i default)}
  | _=>none
 | .conv k _=>match vals with
  | [.d (.lit (.int _ a))]=>some {c:=True,v:=.d (.lit (.int k (k.wrap a)))}
  | _=>none
 | .ifc t _=>match vals with
  | [.d x]=>some {c:=True,v:=.d (.ifc t x)}
  | _=>none
 | .ext k _=>stepX hl k vals
def Fr (ro:Option Nat):Fence:={Fence.wide with round:=ro}
section
variable {P:Program}{ro:Option Nat}{o:Oper}{a:Act}{w w':World}{K:Act->World->Prop}{Q:Exit->Act->World->Prop}
theorem wpIn_value(hd:∀ c,o.op≠.defer c){v:Value}(hr:(execOp a.eval o).run P w=.ok (.value v) w') (h:K (a.put o.dst v) w'):o.wpIn (Fr ro) 0 P a w K Q:=by
 refine⟨fun f _=>trivial,?_⟩
 show o.uponIn (Fr ro) 0 P a K Q ((o.semAt ro a.eval).run P w)
 rw [Oper.semAt_eq ro a.eval o hd,hr]
 exact h
theorem wpIn_skipv(hd:∀ c,o.op≠.defer c) (hr:(execOp a.eval o).run P w=.ok .skip w') (h:K (a.put o.dst undef) w'):o.wpIn (Fr ro) 0 P a w K Q:=by
 refine⟨fun f _=>trivial,?_⟩
 show o.uponIn (Fr ro) 0 P a K Q ((o.semAt ro a.eval).run P w)
 rw [Oper.semAt_eq ro a.eval o hd,hr]
 exact h
end
def Zero (z:List D) (vs:Array Value):Prop:=(∀ I w,RepL I w z vs)∧∀ c∈z,c.one=true
inductive All2 {α β:Type}(R:α->β->Prop):List α->List β->Prop
 | nil:All2 R [] []
 | cons {x:α}{y:β}{l:List α}{m:List β}(h:R x y) (t:All2 R l m):All2 R (x::l) (y::m)
inductive COopt:Option Operand->Option Opd->Prop
 | none:COopt none none
 | some {x:Operand}{x':Opd}(h:CO x x'):COopt (some x) (some x')
def kindsF (P:Program) (K:TypeId->Option (List SK)):Nat->List Field->Option (List SK)
 | _,[]=>some []
 | off,f::r=>match K f.type with
  | some ks=>if f.offset=off∧P.cellsOf f.type=ks.length then (kindsF P K (off+ks.length) r).map (ks++·) else none
  | none=>none
def kindsOf (P:Program):Nat->TypeId->Option (List SK)
 | 0,_=>none
 | m+1,t=>match P.underlying t with
  | some .bool=>some [.bool]
  | some (.int k)=>some [.int k]
  | some .string=>some [.str]
  | some (.array n e)=>match kindsOf P m e with
   | some ks=>if P.cellsOf e=ks.length∧P.cellsOf t=n*ks.length then some (List.replicate n ks).flatten else none
   | none=>none
  | some (.struct fs)=>match kindsF P (kindsOf P m) 0 fs.toList with
   | some ks=>if P.cellsOf t=ks.length∧fs.all (·.name != "_")=true then some ks else none
   | none=>none
  | _=>none
def SK.desc:SK->TypeDesc
 | .int k=>.int k
 | .bool=>.bool
 | .str=>.string
def Callable (P:Program) (f:FuncId):Prop:=∃ fn,P.funcs[f]?=some fn∧(fn.name == "runtime.NumGoroutine")=false∧fn.body.isNone=false
structure CloneOk (P:Program) (f:FuncId) (sz bytes:Nat):Prop where
 call:Callable P f
 pos:0<sz
 run:∀ (w:World) (A:Option Addr) (n c:Nat) (cs:List Value),n<=c->c<=9223372036854775807->cs.length=n*sz->(A=none->n=0)->(∀ ad,A=some ad->∀ (j:Nat) (u:Value),cs[j]?=some u->w.cell? (ad.add j)=some u)->(∀ u∈cs,u.oneCell'=true)->n*bytes<=140737488355328 ->
  Calls P f #[.slice A n c] w fun e w'=>Grow w w'∧((n=0∧∃ A',e=.returned (.slice A' 0 0))∨(0<n∧∃ (N ncap:Nat) (arr:Array Value) (ty:TypeId),e=.returned (.slice (some ⟨N,0,none⟩) n ncap)∧w.heap.size<=N∧w'.heap[N]?=some (.cells arr ty (0,0))∧n<=ncap∧ncap<=9223372036854775807∧ncap*sz<=arr.size∧∀ (j:Nat) (u:Value),cs[j]?=some u->arr[j]?=some u))
structure InsOk (P:Program) (f:FuncId) (sz bytes:Nat):Prop where
 call:Callable P f
 pos:0<sz
 grow:∀ (w:World) (A:Option Addr) (n c i vb m vc:Nat) (cs vs:List Value),i<=n->n<=c->c<n+m->0<m->cs.length=n*sz->vs.length=m*sz->(A=none->n=0∧c=0)->(0<n->∃ b,A=some ⟨b,0,none⟩∧∀ (j:Nat) (u:Value),cs[j]?=some u->w.cell? ⟨b,j,none⟩=some u) ->
  (∀ (j:Nat) (u:Value),vs[j]?=some u->w.cell? ⟨vb,j,none⟩=some u)->(∀ u∈cs,u.oneCell'=true)->(∀ u∈vs,u.oneCell'=true)->(n+m)*bytes<=140737488355328->n+m<=9223372036854775807 ->
  Calls P f #[.slice A n c,.int .i64 i,.slice (some ⟨vb,0,none⟩) m vc] w fun e w'=>Grow w w'∧∃ (N ncap:Nat) (arr:Array Value) (ty:TypeId),e=.returned (.slice (some ⟨N,0,none⟩) (n+m) ncap)∧w.heap.size<=N∧w'.heap[N]?=some (.cells arr ty (0,0))∧n+m<=ncap∧ncap<=9223372036854775807∧ncap*sz<=arr.size∧∀ (j:Nat) (u:Value),(cs.take (i*sz)++vs++cs.drop (i*sz))[j]?=some u->arr[j]?=some u
 place:∀ (w:World) (b n c i vb m vc:Nat) (cs vs:List Value) (arr:Array Value) (ty:TypeId) (arrv:Array Value) (tyv:TypeId),i<=n->n+m<=c->c<=9223372036854775807->0<m->vb≠b->w.heap[b]?=some (.cells arr ty (0,0))->c*sz<=arr.size->w.heap[vb]?=some (.cells arrv tyv (0,0))->cs.length=n*sz->vs.length=m*sz ->
  (∀ (j:Nat) (u:Value),cs[j]?=some u->arr[j]?=some u)->(∀ (j:Nat) (u:Value),vs[j]?=some u->arrv[j]?=some u)->(∀ u∈cs,u.oneCell'=true)->(∀ u∈vs,u.oneCell'=true) ->
  Calls P f #[.slice (some ⟨b,0,none⟩) n c,.int .i64 i,.slice (some ⟨vb,0,none⟩) m vc] w fun e w'=>e=.returned (.slice (some ⟨b,0,none⟩) (n+m) c)∧(w'.os=w.os∧w'.tape=w.tape∧w'.output=w.output∧w'.heap.size=w.heap.size)∧(∀ k,k≠b->w'.heap[k]?=w.heap[k]?) ∧
   ∃ arr':Array Value,w'.heap[b]?=some (.cells arr' ty (0,0))∧arr'.size=arr.size∧∀ (j:Nat) (u:Value),(cs.take (i*sz)++vs++cs.drop (i*sz))[j]?=some u->arr'[j]?=some u
structure DelOk (P:Program) (f:FuncId) (sz:Nat):Prop where
 call:Callable P f
 pos:0<sz
 run:∀ (w:World) (b n c i:Nat) (cs:List Value) (arr:Array Value) (ty:TypeId),i<n->n<=c->c<=9223372036854775807->w.heap[b]?=some (.cells arr ty (0,0))->cs.length=n*sz->n*sz<=arr.size->(∀ (j:Nat) (u:Value),cs[j]?=some u->arr[j]?=some u)->(∀ u∈cs,u.oneCell'=true) ->
  Calls P f #[.slice (some ⟨b,0,none⟩) n c,.int .i64 i,.int .i64 ((i:Int)+1)] w fun e w'=>e=.returned (.slice (some ⟨b,0,none⟩) (n-1) c)∧(w'.os=w.os∧w'.tape=w.tape∧w'.output=w.output∧w'.heap.size=w.heap.size)∧(∀ k,k≠b->w'.heap[k]?=w.heap[k]?) ∧
   ∃ arr':Array Value,w'.heap[b]?=some (.cells arr' ty (0,0))∧arr'.size=arr.size∧∀ (j:Nat) (u:Value),(cs.take (i*sz)++cs.drop ((i+1)*sz))[j]?=some u->arr'[j]?=some u
structure MapCloneOk (P:Program) (f:FuncId):Prop where
 call:Callable P f
 run:∀ (w:World) (b:Nat) (arr:Array MapEntry) (ck:Nat),w.heap[b]?=some (.map arr ck)->Calls P f #[.map (some b)] w fun e w'=>e=.returned (.map (some w.heap.size))∧w'=w.alloc (.map arr ck)
structure MapKeysOk (P:Program) (f g:FuncId):Prop where
 call:Callable P f
 run:∀ (w:World) (b:Nat),Calls P f #[.map (some b)] w fun e w'=>∃ ty,e=.returned (.func (.func g) #[] #[.pointer (some ⟨w.heap.size,0,none⟩)])∧w'=w.alloc (.cells #[.map (some b)] ty)
structure MapCopyOk (P:Program) (f:FuncId) (sz:Nat):Prop where
 call:Callable P f
 run:∀ (w:World) (b c:Nat) (arr:Array MapEntry) (ck:Nat) (brr:Array MapEntry) (dk:Nat),b≠c->w.heap[b]?=some (.map arr ck)->w.heap[c]?=some (.map brr dk)->MapKept.Stamped arr ck->MapKept.Stamped brr dk ->
  (∀ z∈arr.toList++brr.toList,∃ t,z.key=.int .i64 t∧-9223372036854775808<=t∧t<9223372036854775808)->(∀ z∈brr.toList,∃ vs:Array Value,z.val=.agg vs∧vs.size=sz∧∀ v∈vs.toList,v.oneCell'=true)->arr.size+brr.size<=1000000 ->
  Calls P f #[.map (some b),.map (some c)] w fun e w'=>e=.returned (.tuple #[])∧(w'.os=w.os∧w'.tape=w.tape∧w'.output=w.output∧w.heap.size<=w'.heap.size)∧(∀ k,k<w.heap.size->k≠b->w'.heap[k]?=w.heap[k]?) ∧
   ∃ (arr':Array MapEntry) (ck':Nat),w'.heap[b]?=some (.map arr' ck')∧MapKept.Stamped arr' ck'∧∀ v,(∃ x∈arr'.toList,x.key=v)↔(∃ x∈arr.toList,x.key=v)∨∃ x∈brr.toList,x.key=v
structure SortedOk (P:Program) (f g:FuncId):Prop where
 call:Callable P f
 run:∀ (w:World) (B b:Nat) (arr:Array MapEntry) (ck:Nat),w.cell? ⟨B,0,none⟩=some (.map (some b))->w.heap[b]?=some (.map arr ck)->MapKept.Stamped arr ck->(∀ z∈arr.toList,∃ t,z.key=.int .i64 t∧-9223372036854775808<=t∧t<9223372036854775808)->arr.size<=1000000 ->
  Calls P f #[.func (.func g) #[] #[.pointer (some ⟨B,0,none⟩)]] w fun e w'=>Grow w w'∧∃ ss:List Int,ss.Pairwise (· < ·)∧(∀ t,t∈ss↔∃ z∈arr.toList,z.key=.int .i64 t)∧((ss=[]∧e=.returned (.slice none 0 0)) ∨
   ∃ (N cap:Nat) (row:Array Value) (ty:TypeId),e=.returned (.slice (some ⟨N,0,none⟩) ss.length cap)∧w.heap.size<=N∧w'.heap[N]?=some (.cells row ty (0,0))∧ss.length<=cap∧cap<=9223372036854775807∧∀ (j:Nat) (u:Int),ss[j]?=some u->row[j]?=some (.int .i64 u))
inductive CmpX (P:Program) (o:Oper):Ext->List Opd->Prop
 | eqrow {neg t u x y x' y' ks} (h:o.op=.binOp (if neg then .neq else .eql) t x y u) (hx:CO x x') (hy:CO y y') (hk:kindsOf P 20 t=some ks) (hkey:P.keyTypeAt 20 t=true) (hg:P.eqGuardType P.depth t=false)
   (hc:P.cellsOf t=ks.length) (hr:(match P.underlying t with | some (.array _ _) | some (.struct _)=>true | _=>false)=true):CmpX P o (.eqrow neg ks) [x',y']
 | sliceA {t e n x x' i sz} (h:o.op=.slice t x none none none) (hx:CO x x') (hu:P.underlying t=some (.array n e)) (hi:P.info? e=some i) (hs:i.size=sz) (hm:n<=9223372036854775807):CmpX P o (.sliceA n sz) [x']
 | bytesStr {s t e x x'} (h:o.op=.convert s t x) (hx:CO x x') (hs:P.underlying s=some (.slice e)) (he:P.underlying e=some (.int .u8)) (ht:P.underlying t=some .string):CmpX P o .bytesStr [x']
 | eqBool {neg t u x y x' y'} (h:o.op=.binOp (if neg then .neq else .eql) t x y u) (hx:CO x x') (hy:CO y y') (hu:P.underlying t=some .bool):CmpX P o (.eqBool neg) [x',y']
 | isNil {neg t u x x' ms} (h:o.op=.binOp (if neg then .neq else .eql) t x (.const .nilIface) u) (hx:CO x x') (hu:P.underlying t=some (.interface ms)):CmpX P o (.isNil neg) [x']
 | strIdx {t x y x' y'} (h:o.op=.index t x y) (hx:CO x x') (hy:CO y y') (hu:P.underlying t=some .string):CmpX P o .strIdx [x',y']
 | shift {left t u x y x' y'} (h:o.op=.binOp (if left then .shl else .shr) t x y u) (hx:CO x x') (hy:CO y y'):CmpX P o (.shift left) [x',y']
 | uneg {t x x'} (h:o.op=.unOp .neg t x) (hx:CO x x'):CmpX P o .uneg [x']
 | tassert {x x' st t i zv z desc} (h:o.op=.typeAssert x st t true) (hx:CO x x') (hu:P.underlying t=some desc) (hd:∀ ms,desc≠.interface ms) (hi:P.info? t=some i) (hz:i.zero=some zv) (hzz:∀ I w,Rep I w z zv):CmpX P o (.tassert t z) [x']
 | tassert1 {x x' st t desc} (h:o.op=.typeAssert x st t false) (hx:CO x x') (hu:P.underlying t=some desc) (hd:∀ ms,desc≠.interface ms):CmpX P o (.tassert1 t) [x']
 | nilChk {x x'} (h:o.op=.nilCheck x) (hx:CO x x'):CmpX P o .nilChk [x']
 | mkmap {t} (h:o.op=.makeMap t none):CmpX P o .mkmap []
 | insert {mt kt et m k v m' k' v' sk} (h:o.op=.insert mt m k v∨o.op=.mapUpdate mt m k v) (hm:CO m m') (hk:CO k k') (hv:CO v v') (hu:P.underlying mt=some (.map kt et)) (hkt:P.underlying kt=some (SK.desc sk)):CmpX P o (.insert sk) [m',k',v']
 | lookup {mt kt et m k m' k' sk ok i zv z} (h:o.op=.lookup mt m k ok) (hm:CO m m') (hk:CO k k') (hu:P.underlying mt=some (.map kt et)) (hkt:P.underlying kt=some (SK.desc sk)) (hi:P.info? et=some i) (hz:i.zero=some zv) (hzz:∀ I w,Rep I w z zv):CmpX P o (.lookup sk ok z) [m',k']
 | makeslice {t e i l c l' c' zv z sz bytes} (h:o.op=.makeSlice t l c) (hl:CO l l') (hc:CO c c') (hu:P.underlying t=some (.slice e)) (hi:P.info? e=some i) (hs:i.size=sz) (hb:i.bytes=bytes) (hz:i.zero=some zv)
   (hzz:∀ I w,Rep I w z zv) (hzs:z.cells.length=sz) (hone:∀ ds,z≠.tup ds) (hs0:0<sz):CmpX P o (.makeslice sz bytes z) [l',c']
 | idxV {t e n i d sz ag x y x' y'} (h:o.op=.index t x y) (hx:CO x x') (hy:CO y y') (hu:P.underlying t=some (.array n e)) (hi:P.info? e=some i) (hs:i.size=sz) (hd:P.underlying e=some d) (hag:d.isRow=ag):CmpX P o (.idxV sz ag n) [x',y']
 | idxB {t e x j x' j' i sz} (h:o.op=.indexAddr t x j) (hx:CO x x') (hj:CO j j') (hu:P.underlying t=some (.slice e)) (hi:P.info? e=some i) (hs:i.size=sz):CmpX P o (.idxB sz) [x',j']
 | libClone {f x x' ts sz bytes} (h:o.op=.call {callee:=.value (.func f),args:=#[x],argTypes:=ts}) (hx:CO x x') (hl:CloneOk P f sz bytes):CmpX P o (.libClone f sz bytes) [x']
 | libIns {f x i y x' i' y' ts sz bytes} (h:o.op=.call {callee:=.value (.func f),args:=#[x,i,y],argTypes:=ts}) (hx:CO x x') (hi:CO i i') (hy:CO y y') (hl:InsOk P f sz bytes):CmpX P o (.libIns f sz bytes) [x',i',y']
 | libDel {f x i j x' i' j' ts sz} (h:o.op=.call {callee:=.value (.func f),args:=#[x,i,j],argTypes:=ts}) (hx:CO x x') (hi:CO i i') (hj:CO j j') (hl:DelOk P f sz):CmpX P o (.libDel f sz) [x',i',j']
 | libInsW {f x i y x' i' y' ts sz bytes} (h:o.op=.call {callee:=.value (.func f),args:=#[x,i,y],argTypes:=ts}) (hx:CO x x') (hi:CO i i') (hy:CO y y') (hl:InsOk P f sz bytes):CmpX P o (.libInsW f sz bytes) [x',i',y']
 | libDelW {f x i j x' i' j' ts sz} (h:o.op=.call {callee:=.value (.func f),args:=#[x,i,j],argTypes:=ts}) (hx:CO x x') (hi:CO i i') (hj:CO j j') (hl:DelOk P f sz):CmpX P o (.libDelW f sz) [x',i',j']
 | mapClone {f x x' ts} (h:o.op=.call {callee:=.value (.func f),args:=#[x],argTypes:=ts}) (hx:CO x x') (hl:MapCloneOk P f):CmpX P o (.mapClone f) [x']
 | mapKeys {f g x x' ts} (h:o.op=.call {callee:=.value (.func f),args:=#[x],argTypes:=ts}) (hx:CO x x') (hl:MapKeysOk P f g):CmpX P o (.mapKeys f g) [x']
 | mapCopy {f x y x' y' ts sz} (h:o.op=.call {callee:=.value (.func f),args:=#[x,y],argTypes:=ts}) (hx:CO x x') (hy:CO y y') (hl:MapCopyOk P f sz):CmpX P o (.mapCopy f sz) [x',y']
 | sorted {f g x x' ts} (h:o.op=.call {callee:=.value (.func f),args:=#[x],argTypes:=ts}) (hx:CO x x') (hl:SortedOk P f g):CmpX P o (.sorted f g) [x']
 | mkslW {t e i sz zv len parts ps} (h:o.op=.buildSlice t len parts) (hu:P.underlying t=some (.slice e)) (hi:P.info? e=some i) (hs:i.size=sz) (hs0:0<sz) (hz:i.zero=some zv) (hzs:zv.cells.size=sz)
   (hl:len=ps.length) (hps:∃ xs:List Operand,parts.toList=(xs.zipIdx 0).map (fun x=>(x.2,x.1))∧All2 CO xs ps):CmpX P o (.mkslW sz) ps
 | strBytes {s t e x x' u} (h:o.op=.convert s t x) (hx:CO x x') (hs:P.underlying s=some u) (ht:P.underlying t=some (.slice e)) (he:P.underlying e=some (.int .u8)):CmpX P o .strBytes [x']
 | appendS {t t2 e i zv x y x' y' bytes} (h:o.op=.call {callee:=.builtin .append,args:=#[x,y],argTypes:=#[t,t2]}) (hx:CO x x') (hy:CO y y') (hu:P.underlying t=some (.slice e)) (hu2:P.underlying t2=some .string)
   (hi:P.info? e=some i) (hs:i.size=1) (hb:i.bytes=bytes) (hz:i.zero=some zv) (hzs:zv.cells.size=1):CmpX P o (.appendS bytes) [x',y']
 | lenB {x x' t e} (h:o.op=.call {callee:=.builtin .len,args:=#[x],argTypes:=#[t]}) (hx:CO x x') (hu:P.underlying t=some (.slice e)):CmpX P o .lenB [x']
inductive Cmp (P:Program) (o:Oper):AOp->Prop
 | mov {x x'} (h:o.op=.move x∨o.op=.assign x) (hx:CO x x'):Cmp P o (.mov x')
 | pick {c a b c' a' b'} (h:o.op=.pick c a b) (hc:CO c c') (ha:CO a a') (hb:CO b b'):Cmp P o (.pick c' a' b')
 | alloc {t i zv ag z} (h:o.op=.alloc t) (hi:P.info? t=some i) (hz:i.zero=some zv) (hzz:Zero z zv.cells):Cmp P o (.alloc ag z)
 | box {t x x' ag} (h:o.op=.box t x) (hx:CO x x'):Cmp P o (.box ag x')
 | build {t i zv z parts ps} (h:o.op=.build t parts) (hi:P.info? t=some i) (hz:i.zero=some zv) (hzz:Zero z zv.cells)
   (place:Nat->Option (Nat×Nat)) (hp:∀ l,P.built t l=Instr.fill place zv.cells l)
   (hps:All2 (fun(p:Nat×Operand) (q:Nat×Nat×Opd)=>place p.1=some (q.1,q.2.1)∧CO p.2 q.2.2) parts.toList ps):Cmp P o (.build z ps)
 | mkslice {t e i sz zv len parts ps} (h:o.op=.buildSlice t len parts) (hu:P.underlying t=some (.slice e)) (hi:P.info? e=some i) (hs:i.size=sz) (hs0:0<sz) (hz:i.zero=some zv) (hzs:zv.cells.size=sz)
   (hl:len=ps.length) (hps:∃ xs:List Operand,parts.toList=(xs.zipIdx 0).map (fun x=>(x.2,x.1))∧All2 CO xs ps):Cmp P o (.mkslice sz ps)
 | load {t x x' i d sz ag} (h:o.op=.load t x) (hx:CO x x') (hi:P.info? t=some i) (hs:i.size=sz) (hu:P.underlying t=some d) (hag:d.isRow=ag):Cmp P o (.load sz ag x')
 | store {t x y x' y' i sz} (h:o.op=.store t x y) (hx:CO x x') (hy:CO y y') (hi:P.info? t=some i) (hs:i.size=sz):Cmp P o (.store sz x' y')
 | arith {op t u x y x' y'} (h:o.op=.binOp op t x y u) (hx:CO x x') (hy:CO y y') (hop:op≠.shl∧op≠.shr):Cmp P o (.arith op x' y')
 | not {t x x'} (h:o.op=.unOp .not t x) (hx:CO x x'):Cmp P o (.not x')
 | field {s x x' fs f fd i fsz ag} (h:o.op=.fieldAddr s x f) (hx:CO x x') (hu:P.underlying s=some (.struct fs)) (hf:fs[f]?=some fd) (hi:P.info? fd.type=some i) (hs:i.size=fsz) (hs0:fsz≠0):Cmp P o (.field fd.offset fsz ag x')
 | fieldv {s x x' fs f fd i d fsz ag} (h:o.op=.field s x f) (hx:CO x x') (hu:P.underlying s=some (.struct fs)) (hf:fs[f]?=some fd) (hi:P.info? fd.type=some i) (hs:i.size=fsz)
   (hd:P.underlying fd.type=some d) (hag:d.isRow=ag):Cmp P o (.fieldv fd.offset fsz ag x')
 | index {t e x j x' j' i sz} (h:o.op=.indexAddr t x j) (hx:CO x x') (hj:CO j j') (hu:P.underlying t=some (.slice e)) (hi:P.info? e=some i) (hs:i.size=sz):Cmp P o (.index sz x' j')
 | indexA {t e n x j x' j' i sz ag} (h:o.op=.indexAddr t x j) (hx:CO x x') (hj:CO j j') (hu:P.underlying t=some (.array n e)) (hi:P.info? e=some i) (hs:i.size=sz):Cmp P o (.indexA sz ag n x' j')
 | slice {t e x lo hi x' lo' hi' i sz} (h:o.op=.slice t x lo hi none) (hx:CO x x') (hlo:COopt lo lo') (hhi:COopt hi hi') (hu:P.underlying t=some (.slice e)) (hie:P.info? e=some i) (hs:i.size=sz):Cmp P o (.slice sz x' lo' hi')
 | sliceS {t x lo hi x' lo' hi'} (h:o.op=.slice t x lo hi none) (hx:CO x x') (hlo:COopt lo lo') (hhi:COopt hi hi') (hu:P.underlying t=some .string):Cmp P o (.sliceS x' lo' hi')
 | slice3 {t e x lo hi mx x' lo' hi' mx' i sz} (h:o.op=.slice t x lo (some hi) (some mx)) (hx:CO x x') (hlo:COopt lo lo') (hhi:CO hi hi') (hmx:CO mx mx') (hu:P.underlying t=some (.slice e)) (hie:P.info? e=some i) (hs:i.size=sz):Cmp P o (.slice3 sz x' lo' hi' mx')
 | len {x x' t e} (h:o.op=.call {callee:=.builtin .len,args:=#[x],argTypes:=#[t]}) (hx:CO x x') (hu:P.underlying t=some (.slice e)):Cmp P o (.len x')
 | lenS {x x' t} (h:o.op=.call {callee:=.builtin .len,args:=#[x],argTypes:=#[t]}) (hx:CO x x') (hu:P.underlying t=some .string):Cmp P o (.lenS x')
 | append {t e i zv x y x' y' sz bytes} (h:o.op=.call {callee:=.builtin .append,args:=#[x,y],argTypes:=#[t,t]}) (hx:CO x x') (hy:CO y y') (hu:P.underlying t=some (.slice e))
   (hi:P.info? e=some i) (hs:i.size=sz) (hb:i.bytes=bytes) (hz:i.zero=some zv) (hzs:zv.cells.size=sz) (hone:zv.cells.all (·.oneCell')=true) (hs0:0<sz):Cmp P o (.append sz bytes x' y')
 | minmax {x y x' y' ts mx} (h:o.op=.call {callee:=.builtin (if mx then .max else .min),args:=#[x,y],argTypes:=ts}) (hx:CO x x') (hy:CO y y'):Cmp P o (.minmax mx x' y')
 | func {f first caps first' caps'} (h:o.op=.makeFunc f first caps) (hf:All2 CO first.toList first') (hc:All2 CO caps.toList caps'):Cmp P o (.func f first' caps')
 | extract {x x' i} (h:o.op=.extract x i) (hx:CO x x'):Cmp P o (.extract x' i)
 | conv {s t x x' k d} (h:o.op=.convert s t x) (hx:CO x x') (hs:P.underlying s=some d) (ht:P.underlying t=some (.int k)):Cmp P o (.conv k x')
 | ifc {t x x' d} (h:o.op=.makeInterface t x) (hx:CO x x') (hu:P.underlying t=some d) (hd:∀ ms,d≠.interface ms):Cmp P o (.ifc t x')
 | ext {k xs} (h:CmpX P o k xs):Cmp P o (.ext k xs)
def OpLoc (E:Env) (P:Program) (ro:Option Nat) (o:Oper) (xs:List (Opd×AV)) (e:Eff):Prop :=
 ∀ (G:Gh) (a:Act) (w:World) (h:Hp),WRel E G h w->(∀ p∈xs,EvO G w a p.1 p.2)->(∀ p∈e.hin,h p.1=some p.2)->(∀ p∈e.up,h p.1=none∨∃ q∈e.hin,q.1=p.1) ->
  ∀ (K:Act->World->Prop) (Q:Exit->Act->World->Prop),(∀ val w' G',GLe G w G' w'->WRel E G' (h.upd e.up) w'->RepA G' w' e.v val->K (a.put o.dst val) w')->o.wpIn (Fr ro) 0 P a w K Q
section
variable {E:Env}{P:Program}{ro:Option Nat}{o:Oper}
theorem ev1{G:Gh}{w:World}{a:Act}{x':Opd}{v:AV}{x:Operand}(h:∀ p∈[(x',v)],EvO G w a p.1 p.2) (hx:CO x x'):RepA G w v (a.eval x):=h (x',v) (by simp) x hx
theorem ev2{G:Gh}{w:World}{a:Act}{x' y':Opd}{u v:AV}{x y:Operand}(h:∀ p∈[(x',u),(y',v)],EvO G w a p.1 p.2) (hx:CO x x') (hy:CO y y'):RepA G w u (a.eval x)∧RepA G w v (a.eval y) :=
 ⟨h (x',u) (by simp) x hx,h (y',v) (by simp) y hy⟩
theorem opLoc_pure{xs:List (Opd×AV)}{c:Prop}{v:AV}(hd:∀ c,o.op≠.defer c)
  (h:∀ (G:Gh) (a:Act) (w:World) (h:Hp),WRel E G h w->(∀ p∈xs,EvO G w a p.1 p.2)->∃ val,(execOp a.eval o).run P w=.ok (.value val) w∧RepA G w v val):OpLoc E P ro o xs {c:=c,v:=v}:=by
 intro G a w hp H hx _ _ K Q hK
 obtain⟨val,h1,h2⟩:=h G a w hp H hx
 exact wpIn_value hd h1 (hK val w G (GLe.refl G w) H h2)
theorem repBool{G:Gh}{w:World}(b:Bool):RepA G w (.d (.lit (.bool b))) (.bool b):=.d (.lit trivial)
theorem wrap_range(k:IntKind) (n:Int):k.min<=k.wrap n∧k.wrap n<=k.max:=by
 cases k <;> simp [IntKind.wrap,IntKind.min,IntKind.max,IntKind.bits,IntKind.signed] <;> (try split) <;> omega
theorem RepA.lit{G:Gh}{w:World}{x v:Value}(h:RepA G w (.d (.lit x)) v):v=x∧Sc x:=by
 cases h;rename_i h;cases h;exact⟨rfl,by assumption⟩
theorem sound_mov{x':Opd}{v:AV}{x:Operand}(h:o.op=.move x∨o.op=.assign x) (hx:CO x x') (c:Prop):OpLoc E P ro o [(x',v)] {c:=c,v:=v} :=
 opLoc_pure (by rcases h with h | h <;> simp [h]) fun G a w hp H hv=>⟨a.eval x,by rcases h with h | h <;> simp [execOp,h],ev1 hv hx⟩
theorem sound_pick{c' a' b':Opd}{c x y:Bool}{oc oa ob:Operand}(h:o.op=.pick oc oa ob) (hc:CO oc c') (ha:CO oa a') (hb:CO ob b') (p:Prop) :
  OpLoc E P ro o [(c',.d (.lit (.bool c))),(a',.d (.lit (.bool x))),(b',.d (.lit (.bool y)))] {c:=p,v:=.d (.lit (.bool (bif c then x else y)))} :=
 opLoc_pure (by simp [h]) fun G a w hp H hv=>by
  have e1:=(RepA.lit (hv (c',.d (.lit (.bool c))) (by simp) oc hc)).1
  have e2:=(RepA.lit (hv (a',.d (.lit (.bool x))) (by simp) oa ha)).1
  have e3:=(RepA.lit (hv (b',.d (.lit (.bool y))) (by simp) ob hb)).1
  refine⟨.bool (bif c then x else y),?_,repBool _⟩
  cases c <;> simp [execOp,h,e1,e2,e3,asBool]
theorem zero_repA{z:List D}{vs:Array Value}(h:Zero z vs) (G:Gh) (w:World):RepAL G w (z.map .d) vs∧∀ c∈z.map AV.d,c.one=true:=by
 refine⟨⟨by simpa using (h.1 G.I w).1,fun k c v hk hv=>?_⟩,fun c hc=>?_⟩
 ·simp only [List.getElem?_map,Option.map_eq_some_iff] at hk
  obtain⟨d,hd,rfl⟩:=hk
  exact .d ((h.1 G.I w).2 k d v hd hv)
 ·obtain⟨d,hd,rfl⟩:=List.mem_map.1 hc
  exact h.2 d hd
theorem sound_newbox{xs:List (Opd×AV)}{n:Nat}{ag:Bool}{cs:List AV}{c:Prop}{t:TypeId}(hd:∀ c,o.op≠.defer c)
  (h:∀ (G:Gh) (a:Act) (w:World) (h:Hp),WRel E G h w->(∀ p∈xs,EvO G w a p.1 p.2)->∃ arr,(execOp a.eval o).run P w=.ok (.value (.pointer (some ⟨w.heap.size,0,none⟩))) (w.alloc (.cells arr t))∧RepAL G w cs arr∧∀ c∈cs,c.one=true) :
  OpLoc E P ro o xs {c:=c,v:=.ptr n 0,up:=[(n,.box ag cs)]}:=by
 intro G a w hp H hx _ hn K Q hK
 obtain⟨arr,h1,h2,h3⟩:=h G a w hp H hx
 have hfr:hp n=none:=by
  rcases hn (n,.box ag cs) (by simp) with h | ⟨q,hq,_⟩
  ·exact h
  ·simp at hq
 obtain⟨l1,l2⟩:=H.newBox hfr ag t h2 h3
 exact wpIn_value hd h1 (hK _ _ _ l1 l2 (.ptr (by simp)))
theorem sound_alloc{n:Nat}{t i zv ag z} (h:o.op=.alloc t) (hi:P.info? t=some i) (hz:i.zero=some zv) (hzz:Zero z zv.cells) (c:Prop) :
  OpLoc E P ro o [] {c:=c,v:=.ptr n 0,up:=[(n,.box ag (z.map .d))]} :=
 sound_newbox (t:=t) (by simp [h]) fun G a w hp H hv=>⟨zv.cells,by simp [execOp,h,Instr.alloc,zeroValue,typeInfo,hi,hz,newVar,newRow],zero_repA hzz G w⟩
theorem sound_box{n:Nat}{t x x' ag} {v:AV}(h:o.op=.box t x) (hx:CO x x') (hv:v.noTup=true) (c:Prop) :
  OpLoc E P ro o [(x',v)] {c:=c,v:=.ptr n 0,up:=[(n,.box ag v.cells)]} :=
 sound_newbox (t:=t) (by simp [h]) fun G a w hp H hvs=>by
  have hr:=(ev1 hvs hx).cells hv
  exact⟨(a.eval x).cells,by simp [execOp,h,Instr.box,newVar,newRow],hr⟩
end
theorem length_setAt:∀ (news:List AV) (cs:List AV) (o:Nat),(setAt cs o news).length=cs.length
 | [],cs,o=>rfl
 | c::r,cs,o=>by rw [setAt,length_setAt r];simp
theorem get_setAt:∀ (news:List AV) (cs:List AV) (o k:Nat),(setAt cs o news)[k]?=if o<=k∧k<o+news.length∧k<cs.length then news[k-o]? else cs[k]?
 | [],cs,o,k=>by rw [setAt,if_neg (by simp;omega)]
 | c::r,cs,o,k=>by
  rw [setAt,get_setAt r]
  simp only [List.length_set,List.length_cons,List.getElem?_set]
  by_cases hk:o=k
  ·subst hk
   rw [if_neg (by omega)]
   by_cases hs:o<cs.length
   ·simp [hs]
   ·simp [hs]
  ·by_cases hin:o+1<=k∧k<o+1+r.length∧k<cs.length
   ·rw [if_pos hin,if_pos (by omega)]
    have e:k-o=(k-(o+1))+1:=by omega
    rw [e,List.getElem?_cons_succ]
   ·rw [if_neg hin,if_neg hk,if_neg (by omega)]
theorem one_setAt:∀ (news:List AV) (cs:List AV) (o:Nat),(∀ c∈cs,c.one=true)->(∀ c∈news,c.one=true)->∀ c∈setAt cs o news,c.one=true
 | [],cs,o,h,_=>h
 | c::r,cs,o,h,h'=>by
  rw [setAt]
  refine one_setAt r _ _ (fun x hx=>?_) (fun x hx=>h' x (by simp [hx]))
  rcases List.mem_or_eq_of_mem_set hx with e | e
  ·exact h x e
  ·rw [e];exact h' c (by simp)
section
variable {E:Env}{P:Program}{ro:Option Nat}{o:Oper}
theorem fill_sound{place:Nat->Option (Nat×Nat)}{G:Gh}{w:World}{a:Act}:∀ (ps:List (Nat×Nat×Opd)) (vs:List AV) (parts:List (Nat×Operand)) (cells:Array Value) (A:List AV),RepAL G w A cells->(∀ c∈A,c.one=true) ->
  All2 (fun(p:Nat×Operand) (q:Nat×Nat×Opd)=>place p.1=some (q.1,q.2.1)∧CO p.2 q.2.2) parts ps ->
  (∀ p∈(ps.map (·.2.2)).zip vs,EvO G w a p.1 p.2)->buildC ps vs A.length ->
  ∃ cells',Instr.fill place cells (parts.map fun p=>(p.1,a.eval p.2))=some cells'∧RepAL G w (buildA A ps vs) cells'∧∀ c∈buildA A ps vs,c.one=true
 | [],vs,parts,cells,A,hA,h1,h2,hv,hc=>by
  cases h2
  cases vs with
  | nil=>exact⟨cells,rfl,hA,h1⟩
  | cons _ _=>simp [buildC] at hc
 | (off,sz,x')::ps,vs,parts,cells,A,hA,h1,h2,hv,hc=>by
  cases h2
  rename_i p parts h t
  obtain⟨i,x⟩:=p
  obtain⟨hpl,hx⟩:=h
  cases vs with
  | nil=>simp [buildC] at hc
  | cons v vs =>
   simp only [buildC] at hc
   obtain⟨c1,c2,c3,c4⟩:=hc
   have hr:=(hv (x',v) (by simp) x hx).cells c2
   have hsz:(a.eval x).cells.size=sz:=by rw [hr.1.1,c1]
   obtain⟨g1,g2⟩:=Great.foldl_set off (a.eval x).cells.toList 0 cells
   have hA':RepAL G w (setAt A off v.cells) (((a.eval x).cells.toList.zipIdx 0).foldl (fun cs (x:Value×Nat)=>cs.setIfInBounds (off+x.2) x.1) cells):=by
    refine⟨by rw [g1,length_setAt];exact hA.1,fun k c u hk hu=>?_⟩
    rw [get_setAt] at hk
    rw [g2 k] at hu
    simp only [Nat.add_zero,Array.length_toList,hsz] at hu
    rw [c1,<- hA.1] at hk
    by_cases hin:off<=k∧k<off+sz∧k<cells.size
    ·rw [if_pos hin] at hk hu
     exact hr.1.2 _ c u hk (by simpa using hu)
    ·rw [if_neg hin] at hk hu
     exact hA.2 k c u hk hu
   have h1':=one_setAt v.cells A off h1 hr.2
   obtain⟨cells',e1,e2,e3⟩:=fill_sound ps vs parts _ (setAt A off v.cells) hA' h1' t (fun p hp=>hv p (by simp at hp ⊢;exact .inr hp)) (by rw [length_setAt];exact c4)
   refine⟨cells',?_,e2,e3⟩
   simp only [List.map_cons]
   unfold Instr.fill
   simp only [hpl]
   rw [if_neg (by simp [hsz];rw [hA.1];omega)]
   rw [<- e1]
   congr 1
   rw [<- Array.foldl_toList,Array.toList_zipIdx]
theorem sound_build{t z parts ps vs} {zv:Value}(h:o.op=.build t parts) (hzz:Zero z zv.cells)
  (place:Nat->Option (Nat×Nat)) (hp:∀ l,P.built t l=Instr.fill place zv.cells l)
  (hps:All2 (fun(p:Nat×Operand) (q:Nat×Nat×Opd)=>place p.1=some (q.1,q.2.1)∧CO p.2 q.2.2) parts.toList ps) (hc:buildC ps vs z.length) (c:Prop) :
  OpLoc E P ro o ((ps.map (·.2.2)).zip vs) {c:=c,v:=mkAgg (buildA (z.map .d) ps vs)} :=
 opLoc_pure (by simp [h]) fun G a w hp' H hv=>by
  obtain⟨z1,z2⟩:=zero_repA hzz G w
  obtain⟨cells,e1,e2,e3⟩:=fill_sound ps vs parts.toList zv.cells (z.map .d) z1 z2 hps hv (by simpa using hc)
  refine⟨.agg cells,?_,repA_mkAgg e2 e3⟩
  have hb:P.built t (parts.map fun(i,x)=>(i,a.eval x)).toList=some cells:=by
   rw [hp,<- e1,Array.toList_map]
  simp only [execOp,h,Sem.run_bind,run_build w t _ cells hb,Result.andThen_ok,Sem.run_pure]
theorem run_loadAt'{t:TypeId}{ad:Addr}{cs:List Value}{w:World}{i:TypeInfo}{d:TypeDesc}(hc:∀ j v,cs[j]?=some v->w.cell? (ad.add j)=some v)
  (hi:P.info? t=some i) (hs:i.size=cs.length) (hu:P.underlying t=some d) (h1:d.isRow=false->cs.length=1) :
  (Instr.loadAt t (.pointer (some ad))).run P w=.ok (if d.isRow then .agg cs.toArray else cs.headD undef) w:=by
 have hagg:(isAgg t).run P w=.ok d.isRow w:=by
  unfold isAgg
  rw [Sem.run_bind,run_underlying hu w]
  cases d <;> simp [TypeDesc.isRow]
 have hl:(loadCells ad cs.length).run P w=.ok cs.toArray w:=run_loadCells_list (P:=P) w ad cs hc
 cases hd:d.isRow with
 | true =>
  rw [hd] at hagg
  simp [Instr.loadAt,Instr.sureAddr,loadVar,Sem.run_bind,hagg,sizeOf,typeInfo,hi,hs,hl]
 | false =>
  rw [hd] at hagg
  have hl1:=h1 hd
  match cs,hl1 with
  | [v],_ =>
   have h0:=hc 0 v rfl
   have e0:ad.add 0=ad:=by simp [Addr.add]
   rw [e0] at h0
   simp [Instr.loadAt,Instr.sureAddr,loadVar,Sem.run_bind,hagg,h0]
theorem sound_load_box{t x x' i d sz ag n off ag'} {cs:List AV}(h:o.op=.load t x) (hx:CO x x') (hi:P.info? t=some i) (hs:i.size=sz) (hu:P.underlying t=some d) (hag:d.isRow=ag)
  (hc1:off+sz<=cs.length) (hc2:ag=false->sz=1) (c:Prop) :
  OpLoc E P ro o [(x',.ptr n off)] {c:=c,v:=subA off sz ag cs,hin:=[(n,.box ag' cs)]}:=by
 intro G a w hp H hx' hn _ K Q hK
 have hr:=ev1 hx' hx
 cases he:a.eval x <;> rw [he] at hr <;> try (cases hr;done)
 cases hr
 rename_i b hb
 obtain⟨arr,e1,e2,e3⟩:=H.readBox (hn (n,.box ag' cs) (by simp)) hb
 have hlen:((arr.toList.drop off).take sz).length=sz:=by simp;have:=e1.1;omega
 have hrun:=run_loadAt' (P:=P) (t:=t) (ad:=⟨b,off,none⟩) (cs:=(arr.toList.drop off).take sz) (w:=w) (i:=i) (d:=d) (fun j v hj=>by
  rw [add_mk,e3]
  rw [List.getElem?_take] at hj
  split at hj
  ·simpa using hj
  ·cases hj) hi (by rw [hlen,hs]) hu (fun hf=>by rw [hlen];exact hc2 (by rw [<- hag,hf]))
 refine wpIn_value (by simp [h]) (v:=if d.isRow then .agg ((arr.toList.drop off).take sz).toArray else ((arr.toList.drop off).take sz).headD undef) (w':=w) (by simp only [execOp,h,Sem.run_bind,he,hrun,Result.andThen_ok,Sem.run_pure]) ?_
 refine hK _ w G (GLe.refl G w) ?_ ?_
 ·simpa [Hp.upd] using H
 ·have hsub:RepAL G w ((cs.drop off).take sz) ((arr.toList.drop off).take sz).toArray:=by
   refine⟨by simp;have:=e1.1;omega,fun k c u hk hu=>?_⟩
   rw [List.getElem?_take] at hk
   simp only [List.getElem?_toArray,List.getElem?_take] at hu
   split at hk
   ·rename_i hlt
    rw [if_pos hlt] at hu
    rw [List.getElem?_drop] at hk hu
    exact e1.2 _ c u hk (by simpa using hu)
   ·cases hk
  cases hag':ag with
  | true =>
   rw [hag'] at hag
   simp only [hag,if_true,subA]
   exact repA_mkAgg hsub (fun c hc=>e2 c (List.mem_of_mem_drop (List.mem_of_mem_take hc)))
  | false =>
   rw [hag'] at hag
   have h1:=hc2 hag'
   subst h1
   simp only [hag,Bool.false_eq_true,if_false,subA]
   have ho:off<cs.length:=by omega
   have ho':off<arr.size:=Nat.lt_of_lt_of_le ho e1.1
   have q1:((arr.toList.drop off).take 1).headD undef=arr[off]:=by
    rw [List.drop_eq_getElem_cons (by simpa using ho')]
    simp
   rw [q1]
   exact e1.2 off _ _ (by simp [List.getD,List.getElem?_eq_getElem ho]) (by simp [ho'])
theorem Rep.fits{I:Addr->Prop}{w:World}{x:D}{v:Value}(vs:List Value) (ag:Bool) (hl:vs.length=x.cells.length) (h1:∀ c∈x.cells,c.one=true) (hag:x.isAgg=ag) (ho:ag=false->x.one=true)
  (hr:∀ (k:Nat) (c:D) (u:Value),x.cells[k]?=some c->vs[k]?=some u->Rep I w c u) (hv:v=if ag then .agg vs.toArray else vs.headD undef):Rep I w x v:=by
 subst hv
 cases ag with
 | true =>
  cases x <;> simp [D.isAgg] at hag
  rename_i cs
  exact .agg (by rw [List.size_toArray];exact hl) h1 (fun k c u hk hu=>hr k c u hk (by simpa using hu))
 | false =>
  have e:x.cells=[x]:=by cases x <;> first | rfl | simp [D.isAgg] at hag
  rw [e] at hl hr
  match vs,hl with
  | [u],_=>exact hr 0 x u rfl rfl
theorem sound_load_ip{t x x' i d sz ag} {y:D}(h:o.op=.load t x) (hx:CO x x') (hi:P.info? t=some i) (hs:i.size=sz) (hu:P.underlying t=some d) (hag:d.isRow=ag)
  (hc1:y.fits sz ag) (hc2:ag=false->sz=1) (c:Prop) :
  OpLoc E P ro o [(x',.d (.ip y))] {c:=c,v:=.d y} :=
 opLoc_pure (by simp [h]) fun G a w hp H hx'=>by
  have hr:=(ev1 hx' hx).of_d
  generalize he:a.eval x=u at hr
  obtain⟨f1,f2,f3⟩:=hc1
  cases hr
  rename_i ad vs h1 hI hr
  have hvl:((List.range sz).map vs).length=sz:=by simp
  have hrun:=run_loadAt' (P:=P) (t:=t) (ad:=ad) (cs:=(List.range sz).map vs) (w:=w) (i:=i) (d:=d) (fun j v hj=>by
   simp only [List.getElem?_map,Option.map_eq_some_iff] at hj
   obtain⟨k,hk,rfl⟩:=hj
   have hjs:j<sz:=by
    rcases Nat.lt_or_ge j sz with hlt | hge
    ·exact hlt
    ·rw [List.getElem?_eq_none (by simpa using hge)] at hk;cases hk
   rw [List.getElem?_range hjs] at hk
   injection hk with hk;subst hk
   exact(hI j _ (List.getElem?_eq_getElem (by rw [f1];exact hjs))).2) hi (by rw [hvl,hs]) hu (fun hf=>by rw [hvl];exact hc2 (by rw [<- hag,hf]))
  refine⟨if d.isRow then .agg ((List.range sz).map vs).toArray else ((List.range sz).map vs).headD undef,by simp only [execOp,h,Sem.run_bind,he,hrun,Result.andThen_ok,Sem.run_pure],.d (Rep.fits ((List.range sz).map vs) ag (by rw [hvl,f1]) h1 f2 f3 (fun k c u hk hu=>?_) (by rw [<- hag]))⟩
  simp only [List.getElem?_map,Option.map_eq_some_iff] at hu
  obtain⟨k',hk',rfl⟩:=hu
  have hlt:k<sz:=by
   rcases Nat.lt_or_ge k sz with hlt | hge
   ·exact hlt
   ·rw [List.getElem?_eq_none (by simpa using hge)] at hk';cases hk'
  rw [List.getElem?_range hlt] at hk'
  injection hk' with hk';subst hk'
  exact hr k c hk
theorem sound_store{t x y x' y' i sz n off ag'} {cs:List AV}{v:AV}(h:o.op=.store t x y) (hx:CO x x') (hy:CO y y') (hi:P.info? t=some i) (hs:i.size=sz)
  (hc1:v.cells.length=sz) (hc2:v.noTup=true) (hc3:off+sz<=cs.length) (c:Prop) :
  OpLoc E P ro o [(x',.ptr n off),(y',v)] {c:=c,v:=.tup [],hin:=[(n,.box ag' cs)],up:=[(n,.box ag' (setAt cs off v.cells))]}:=by
 intro G a w hp H hx' hn _ K Q hK
 obtain⟨hr,hr2⟩:=ev2 hx' hx hy
 cases he:a.eval x <;> rw [he] at hr <;> try (cases hr;done)
 cases hr
 rename_i b hb
 obtain⟨hcl,hone⟩:=hr2.cells hc2
 obtain⟨w',e1,e2,e3⟩:=WRel.setBoxes (ag:=ag') P v.cells (a.eval y).cells.toList off 0 hp w cs H (hn (n,.box ag' cs) (by simp)) hb (by simp [hcl.1])
  (fun k c u hk hu=>⟨hcl.2 k c u hk (by simpa using hu),hone c (List.mem_of_getElem? hk)⟩) (by omega)
 have e1':(storeVar t ⟨b,off,none⟩ (a.eval y)).run P w=.ok () w':=by
  have:(a.eval y).cells.size=i.size:=by rw [hcl.1,hc1,hs]
  simp [storeVar,sizeOf,typeInfo,hi,this,e1]
 refine wpIn_skipv (by simp [h]) (w':=w') (by simp only [execOp,h,Sem.run_bind,he,Instr.storeAt,Instr.sureAddr,Sem.run_pure,Result.andThen_ok,e1']) ?_
 exact hK undef w' G e2 (by simpa using e3) (.tup rfl (fun k c v hk=>by simp at hk))
end
section
variable {E:Env}{P:Program}{ro:Option Nat}{o:Oper}
theorem eqGuard_int(P:Program) (w:World) (op:BinOp) (t:TypeId) (x y:Operand) (k k':IntKind) (a b:Int):(eqGuard op t x y (.int k a) (.int k' b)).run P w=.ok () w:=by
 unfold eqGuard;cases op <;> simp
theorem eqGuard_str(P:Program) (w:World) (op:BinOp) (t:TypeId) (x y:Operand) (a b:ByteArray):(eqGuard op t x y (.string a) (.string b)).run P w=.ok () w:=by
 unfold eqGuard;cases op <;> simp
theorem tmod_range{k:IntKind}{a b:Int}(ha:k.min<=a∧a<=k.max) (hb:k.min<=b∧b<=k.max) (_h0:b≠0):k.min<=a.tmod b∧a.tmod b<=k.max:=by
 have h1:(a.tmod b).natAbs<=a.natAbs:=by
  have:=Int.natAbs_tmod a b
  have h3:a.natAbs % b.natAbs<=a.natAbs:=Nat.mod_le _ _
  omega
 have h2:0<=a->0<=a.tmod b:=fun h=>Int.tmod_nonneg b h
 have h4:a<=0->a.tmod b<=0:=fun h=>by
  have:=Int.tmod_nonneg (a:=-a) b (by omega)
  rw [Int.neg_tmod] at this
  omega
 have hm:k.min<=0:=by cases k <;> simp [IntKind.min,IntKind.bits,IntKind.signed]
 have hM:0<=k.max:=by cases k <;> simp [IntKind.max,IntKind.bits,IntKind.signed]
 rcases Int.le_total 0 a with h | h
 ·have:=h2 h;omega
 ·have:=h4 h;omega
theorem sound_arith_int{op:BinOp}{t u x y x' y'} {k k':IntKind}{a b:Int}{c:Prop}{r:Value}(h:o.op=.binOp op t x y u) (hx:CO x x') (hy:CO y y') (hop:op≠.shl∧op≠.shr)
  (hr:arithV op k a b=some (c,r)) (hk:k=k') (hc:c) (p:Prop) :
  OpLoc E P ro o [(x',.d (.lit (.int k a))),(y',.d (.lit (.int k' b)))] {c:=p,v:=.d (.lit r)} :=
 opLoc_pure (by simp [h]) fun G ac w hp H hv=>by
  obtain⟨v1,v2⟩:=ev2 hv hx hy
  obtain⟨e1,s1⟩:=v1.lit
  obtain⟨e2,s2⟩:=v2.lit
  subst hk
  have hrun:(binOp op t (.int k a) (.int k b)).run P w=.ok r w∧Sc r:=by
   simp only [Sc] at s1 s2
   cases op <;> simp only [arithV,Option.some.injEq,Prod.mk.injEq,reduceCtorEq] at hr <;> obtain⟨rfl,rfl⟩:=hr <;> simp [binOp,Op.intArith,Op.intDiv,Op.intBits,Op.intCmp,Sc,wrap_range] at hc ⊢
   ·exact fun h=>absurd h hc
   ·exact⟨fun h=>absurd h hc,tmod_range s1 s2 hc⟩
  refine⟨r,?_,.d (.lit hrun.2)⟩
  simp only [execOp,h,Sem.run_bind,e1,e2,eqGuard_int,Result.andThen_ok,hrun.1,Sem.run_pure]
theorem sound_arith_str{op:BinOp}{t u x y x' y'} {a b:ByteArray}{c:Prop}{r:Value}(h:o.op=.binOp op t x y u) (hx:CO x x') (hy:CO y y')
  (hr:strV op a b=some (c,r)) (hc:c) (p:Prop) :
  OpLoc E P ro o [(x',.d (.lit (.string a))),(y',.d (.lit (.string b)))] {c:=p,v:=.d (.lit r)} :=
 opLoc_pure (by simp [h]) fun G ac w hp H hv=>by
  obtain⟨v1,v2⟩:=ev2 hv hx hy
  obtain⟨e1,s1⟩:=v1.lit
  obtain⟨e2,s2⟩:=v2.lit
  have hrun:(binOp op t (.string a) (.string b)).run P w=.ok r w∧Sc r:=by
   cases op <;> simp only [strV,Option.some.injEq,Prod.mk.injEq,reduceCtorEq] at hr <;> obtain⟨rfl,rfl⟩:=hr <;> simp [binOp,Op.stringOp,Sc] at hc ⊢
   exact⟨by omega,hc⟩
  refine⟨r,?_,.d (.lit hrun.2)⟩
  simp only [execOp,h,Sem.run_bind,e1,e2,eqGuard_str,Result.andThen_ok,hrun.1,Sem.run_pure]
theorem sound_not{t x x'} {b:Bool}(h:o.op=.unOp .not t x) (hx:CO x x') (p:Prop):OpLoc E P ro o [(x',.d (.lit (.bool b)))] {c:=p,v:=.d (.lit (.bool !b))} :=
 opLoc_pure (by simp [h]) fun G ac w hp H hv=>by
  have e1:=(ev1 hv hx).lit.1
  exact⟨.bool !b,by simp [execOp,h,e1,Op.unary],repBool _⟩
theorem run_fieldAt{s:TypeId}{fs:Array Field}{f:Nat}{fd:Field}{i:TypeInfo}{w:World}{ad:Addr}(hu:P.underlying s=some (.struct fs)) (hf:fs[f]?=some fd) (hi:P.info? fd.type=some i) (hs0:i.size≠0) :
  (Instr.fieldAt s (.pointer (some ad)) f).run P w=.ok (.pointer (some (ad.add fd.offset))) w:=by
 simp [Instr.fieldAt,run_underlying hu,hf,Instr.sureAddr,fieldPlace,sizeOf,typeInfo,hi,hs0]
theorem sound_field_box{s x x' fs f fd i fsz n off} (h:o.op=.fieldAddr s x f) (hx:CO x x') (hu:P.underlying s=some (.struct fs)) (hf:fs[f]?=some fd) (hi:P.info? fd.type=some i) (hs:i.size=fsz) (hs0:fsz≠0) (p:Prop) :
  OpLoc E P ro o [(x',.ptr n off)] {c:=p,v:=.ptr n (off+fd.offset)} :=
 opLoc_pure (by simp [h]) fun G ac w hp H hv=>by
  have hr:=ev1 hv hx
  cases he:ac.eval x <;> rw [he] at hr <;> try (cases hr;done)
  cases hr
  rename_i b hb
  exact⟨.pointer (some ⟨b,off+fd.offset,none⟩),by simp only [execOp,h,Sem.run_bind,he,run_fieldAt hu hf hi (by rw [hs];exact hs0),add_mk,Result.andThen_ok,Sem.run_pure],.ptr hb⟩
theorem subD_cells{x:D}{off fsz:Nat}{ag:Bool}(hc1:off+fsz<=x.cells.length) (hc2:ag=false->fsz=1) (h1:∀ c∈x.cells,c.one=true):(subD off fsz ag x).cells=(x.cells.drop off).take fsz:=by
 cases ag with
 | true=>rfl
 | false =>
  have:=hc2 rfl
  subst this
  have ho:off<x.cells.length:=by omega
  have e:subD off 1 false x=x.cells[off]:=by simp [subD,List.getD,List.getElem?_eq_getElem ho]
  rw [e,List.drop_eq_getElem_cons ho]
  have h1':=h1 _ (List.getElem_mem ho)
  simp only [List.take_succ_cons,List.take_zero]
  generalize x.cells[off]=y at h1' ⊢
  cases y <;> first | rfl | simp [D.one] at h1'
theorem rep_sub{I:Addr->Prop}{w:World}{x:D}{ad:Addr}{vs:Nat->Value}{off fsz:Nat}{ag:Bool}(h1:∀ c∈x.cells,c.one=true)
  (hI:∀ k c,x.cells[k]?=some c->I (ad.add k)∧w.cell? (ad.add k)=some (vs k)) (hr:∀ (k:Nat) (c:D),x.cells[k]?=some c->Rep I w c (vs k))
  (hc1:off+fsz<=x.cells.length) (hc2:ag=false->fsz=1):Rep I w (.ip (subD off fsz ag x)) (.pointer (some (ad.add off))):=by
 have hs:=subD_cells hc1 hc2 h1
 refine .ip (ad.add off) (fun k=>vs (off+k)) (fun c hc=>?_) (fun k c hk=>?_) (fun k c hk=>?_)
 ·rw [hs] at hc;exact h1 c (List.mem_of_mem_drop (List.mem_of_mem_take hc))
 ·rw [hs,List.getElem?_take] at hk
  split at hk
  ·rw [List.getElem?_drop] at hk;rw [add_add];exact hI _ c hk
  ·cases hk
 ·rw [hs,List.getElem?_take] at hk
  split at hk
  ·rw [List.getElem?_drop] at hk;exact hr _ c hk
  ·cases hk
theorem sound_field_ip{s x x' fs f fd i fsz ag} {y:D}(h:o.op=.fieldAddr s x f) (hx:CO x x') (hu:P.underlying s=some (.struct fs)) (hf:fs[f]?=some fd) (hi:P.info? fd.type=some i) (hs:i.size=fsz) (hs0:fsz≠0)
  (hc1:fd.offset+fsz<=y.cells.length) (hc2:ag=false->fsz=1) (p:Prop) :
  OpLoc E P ro o [(x',.d (.ip y))] {c:=p,v:=.d (.ip (subD fd.offset fsz ag y))} :=
 opLoc_pure (by simp [h]) fun G ac w hp H hv=>by
  have hr:=(ev1 hv hx).of_d
  generalize he:ac.eval x=u at hr
  cases hr
  rename_i ad vs h1 hI hr
  exact⟨.pointer (some (ad.add fd.offset)),by simp only [execOp,h,Sem.run_bind,he,run_fieldAt hu hf hi (by rw [hs];exact hs0),Result.andThen_ok,Sem.run_pure],.d (rep_sub h1 hI hr hc1 hc2)⟩
theorem run_part{t:TypeId}{i:TypeInfo}{d:TypeDesc}{w:World}{cs:Array Value}{off:Nat}(hi:P.info? t=some i) (hu:P.underlying t=some d) (hf:off+i.size<=cs.size) (h1:d.isRow=false->i.size=1) :
  (part t cs off).run P w=.ok (if d.isRow then .agg (cs.extract off (off+i.size)) else cs.getD off undef) w:=by
 have hagg:(isAgg t).run P w=.ok d.isRow w:=by
  unfold isAgg
  rw [Sem.run_bind,run_underlying hu w]
  cases d <;> simp [TypeDesc.isRow]
 cases hd:d.isRow with
 | true=>rw [hd] at hagg;simp [part,hagg,sizeOf,typeInfo,hi]
 | false =>
  rw [hd] at hagg
  have:=h1 hd
  have ho:off<cs.size:=by omega
  simp [part,hagg,ho]
theorem sound_fieldv{s x x' fs f fd i d fsz ag} {cs:List D}(h:o.op=.field s x f) (hx:CO x x') (hu:P.underlying s=some (.struct fs)) (hf:fs[f]?=some fd) (hi:P.info? fd.type=some i) (hs:i.size=fsz)
  (hd:P.underlying fd.type=some d) (hag:d.isRow=ag) (hc1:fd.offset+fsz<=cs.length) (hc2:ag=false->fsz=1) (p:Prop) :
  OpLoc E P ro o [(x',.d (.agg cs))] {c:=p,v:=.d (subD fd.offset fsz ag (.agg cs))} :=
 opLoc_pure (by simp [h]) fun G ac w hp H hv=>by
  have hr:=(ev1 hv hx).of_d
  generalize he:ac.eval x=u at hr
  cases hr
  rename_i vs hl h1 hr
  have hp:=run_part (P:=P) (w:=w) (cs:=vs) (off:=fd.offset) hi hd (by rw [hs,hl];exact hc1) (fun hf=>by rw [hs];exact hc2 (by rw [<- hag,hf]))
  refine⟨if d.isRow then .agg (vs.extract fd.offset (fd.offset+i.size)) else vs.getD fd.offset undef,by simp [execOp,h,he,Instr.field,run_underlying hu,hf,asAgg,hp],.d ?_⟩
  cases hag':ag with
  | true =>
   rw [hag'] at hag
   simp only [hag,if_true,subD,D.cells]
   refine .agg (by simp [hl,hs];omega) (fun c hc=>h1 c (List.mem_of_mem_drop (List.mem_of_mem_take hc))) (fun k c u hk hu=>?_)
   rw [List.getElem?_take] at hk
   split at hk
   ·rw [List.getElem?_drop] at hk
    rw [Array.getElem?_extract] at hu
    split at hu
    ·exact hr _ c u hk hu
    ·cases hu
   ·cases hk
  | false =>
   rw [hag'] at hag
   have:=hc2 hag'
   subst this
   have ho:fd.offset<cs.length:=by omega
   have ho':fd.offset<vs.size:=by omega
   simp only [hag,Bool.false_eq_true,if_false,subD,D.cells]
   exact hr fd.offset _ _ (by simp [List.getD,List.getElem?_eq_getElem ho]) (by simp [ho'])
theorem flat_len{sz:Nat}:∀ {es:List D},(∀ e∈es,e.cells.length=sz)->(D.flat es).length=es.length*sz
 | [],_=>by simp [D.flat]
 | e::es,h=>by
  have ih:=flat_len (es:=es) (fun x hx=>h x (by simp [hx]))
  simp only [D.flat,List.flatMap_cons,List.length_append,List.length_cons] at ih ⊢
  rw [ih,h e (by simp),Nat.add_mul];omega
theorem flat_get{sz:Nat}:∀ {es:List D}(_:∀ e∈es,e.cells.length=sz){i:Nat}{e:D},es[i]?=some e->∀ k,k<sz->(D.flat es)[i*sz+k]?=e.cells[k]?
 | [],_,i,e,he,k,hk=>by simp at he
 | x::es,h,0,e,he,k,hk=>by
  simp at he;subst he
  simp only [D.flat,List.flatMap_cons,Nat.zero_mul,Nat.zero_add]
  rw [List.getElem?_append_left (by rw [h x (by simp)];exact hk)]
 | x::es,h,i+1,e,he,k,hk=>by
  have ih:=flat_get (es:=es) (fun y hy=>h y (by simp [hy])) (i:=i) (e:=e) (by simpa using he) k hk
  have hx:=h x (by simp)
  simp only [D.flat,List.flatMap_cons] at ih ⊢
  rw [List.getElem?_append_right (by rw [hx,Nat.add_mul];omega),hx,<- ih]
  congr 1
  rw [Nat.add_mul];omega
theorem Rep.sl_inv{I:Addr->Prop}{w:World}{sz:Nat}{es:List D}{v:Value}(h:Rep I w (.sl sz es) v) :
  ∃ (n:Nat) (A:Option Addr) (cap:Nat) (ad:Addr) (vs:Nat->Value),v=.slice A n cap∧n=es.length∧n<=cap∧cap<=9223372036854775807∧(A=some ad∨es=[])∧(∀ e∈es,e.cells.length=sz)∧(∀ c∈D.flat es,c.one=true) ∧
   (∀ k c,(D.flat es)[k]?=some c->I (ad.add k)∧w.cell? (ad.add k)=some (vs k))∧(∀ k c,(D.flat es)[k]?=some c->Rep I w c (vs k)):=by
 cases h with
 | sl ad vs hn hc hm hA hz h1 hI hr=>exact⟨_,_,_,ad,vs,rfl,hn,hc,hm,hA,hz,h1,hI,hr⟩
theorem rep_elem{I:Addr->Prop}{w:World}{sz:Nat}{es:List D}{ad:Addr}{vs:Nat->Value}(hz:∀ e∈es,e.cells.length=sz) (h1:∀ c∈D.flat es,c.one=true)
  (hI:∀ k c,(D.flat es)[k]?=some c->I (ad.add k)∧w.cell? (ad.add k)=some (vs k)) (hr:∀ k c,(D.flat es)[k]?=some c->Rep I w c (vs k))
  {i:Nat}{e:D}(he:es[i]?=some e):Rep I w (.ip e) (.pointer (some (ad.add (i*sz)))):=by
 have hm:e∈es:=List.mem_of_getElem? he
 have hget:∀ k c,e.cells[k]?=some c->(D.flat es)[i*sz+k]?=some c:=fun k c hk=>by
  rw [flat_get hz he k (by
   have:=hz e hm
   rcases Nat.lt_or_ge k sz with h | h
   ·exact h
   ·rw [List.getElem?_eq_none (by omega)] at hk;cases hk)]
  exact hk
 refine .ip (ad.add (i*sz)) (fun k=>vs (i*sz+k)) (fun c hc=>h1 c (by simp only [D.flat,List.mem_flatMap];exact⟨e,hm,hc⟩)) (fun k c hk=>?_) (fun k c hk=>hr _ c (hget k c hk))
 rw [add_add]
 exact hI _ c (hget k c hk)
theorem sound_index_sl{t e x j x' j' i sz sz'} {k:IntKind}{es:List D}{ix:Int}{v:AV}(h:o.op=.indexAddr t x j) (hx:CO x x') (hj:CO j j') (hu:P.underlying t=some (.slice e)) (hi:P.info? e=some i) (hs:i.size=sz)
  (hv:∀ (G:Gh) (w:World) (u:Value),RepA G w v u->Rep G.I w (.sl sz' es) u) (hc:0<=ix∧ix<es.length) (hzz:sz'=sz) (p:Prop) :
  OpLoc E P ro o [(x',v),(j',.d (.lit (.int k ix)))] {c:=p,v:=.d (.ip (es.getD ix.toNat default))} :=
 opLoc_pure (by simp [h]) fun G ac w hp H hvv=>by
  obtain⟨v1,v2⟩:=ev2 hvv hx hj
  have hr:=hv G w _ v1
  have e2:=v2.lit.1
  generalize he:ac.eval x=u at hr
  obtain⟨n,A,cap,ad,vs,rfl,hn,hcap,hm,hA,hz,h1,hI,hrr⟩:=hr.sl_inv
  have hne:es≠[]:=by rintro rfl;simp at hc;omega
  have hA':=hA.resolve_right hne
  subst hA'
  have hlt:ix.toNat<es.length:=by omega
  have hget:es[ix.toNat]?=some es[ix.toNat]:=List.getElem?_eq_getElem hlt
  subst hzz
  refine⟨.pointer (some (ad.add (ix.toNat*sz'))),?_,.d ?_⟩
  ·simp only [execOp,h,Sem.run_bind,he,e2,Instr.indexAt,asIntOf,Sem.run_pure,Result.andThen_ok,run_underlying hu]
   simp [sizeOf,typeInfo,hi,hs,hn,hc.1,hc.2]
  ·have:es.getD ix.toNat default=es[ix.toNat]:=by simp [List.getD,hget]
   rw [this]
   exact rep_elem hz h1 hI hrr hget
end
theorem addr_eta{a:Addr}{w:World}{v:Value}(h:w.cell? a=some v):a=⟨a.block,a.off,none⟩:=by
 obtain⟨b,o,s⟩:=a
 simp only [World.cell?] at h
 split at h
 ·cases s with
  | none=>rfl
  | some _=>simp at h
 ·cases h
theorem WRel.killRow{E:Env}{G:Gh}{h:Hp}{w:World}(H:WRel E G h w){r:Nat}(hr:h r=some .row):WRel E G (h.upd [(r,.dead)]) w:=by
 refine {H with binj:=H.binjU hr (fun q=>by cases q) _,bown:=(fun m b hb=>by
  obtain⟨f1,f2,f3,f4⟩:=H.bown m b hb
  refine⟨f1,f2,fun hd=>f3 (fun he=>hd ?_),f4⟩
  by_cases e:m=r
  ·simp [Hp.upd,e]
  ·simp [Hp.upd,e,he]),fresh:=fun n hn=>?_,box:=fun n ag cs hn=>?_,row:=fun r' hr'=>?_,rinj:=fun r1 r2 A n cap sz A' n' cap' sz' h1 h2=>?_,obj:=fun m s hm=>(by
  simp only [Hp.upd] at hm;split at hm
  ·injection hm with hm;cases hm
  ·exact H.obj m s hm),mapo:=fun m s hm=>(by
  simp only [Hp.upd] at hm;split at hm
  ·injection hm with hm;cases hm
  ·exact H.mapo m s hm)}
 ·simp only [Hp.upd] at hn;split at hn
  ·cases hn
  ·exact H.fresh n hn
 ·simp only [Hp.upd] at hn;split at hn
  ·injection hn with hn;cases hn
  ·exact H.box n ag cs hn
 ·simp only [Hp.upd] at hr';split at hr'
  ·injection hr' with hr';cases hr'
  ·exact H.row r' hr'
 ·simp only [Hp.upd] at h1 h2
  split at h1
  ·injection h1 with h1;cases h1
  ·split at h2
   ·injection h2 with h2;cases h2
   ·exact H.rinj r1 r2 A n cap sz A' n' cap' sz' h1 h2
theorem WRel.addRow{E:Env}{G:Gh}{h:Hp}{w:World}(H:WRel E G h w){q:Nat}(hq:h q=none){A:Option Addr}{n cap sz:Nat}(ht:Tail E G w A n cap sz)
  (hd:n*sz<cap*sz->∀ r' A' n' cap' sz',h r'=some .row->G.row r'=some (A',n',cap',sz')->n'*sz'<cap'*sz'->∀ ad ad',A=some ad->A'=some ad'->ad.block≠ad'.block) :
  GLe G w {G with row:=fun m=>if m=q then some (A,n,cap,sz) else G.row m} w ∧
  WRel E {G with row:=fun m=>if m=q then some (A,n,cap,sz) else G.row m} (h.upd [(q,.row)]) w:=by
 obtain⟨hb0,hr0⟩:=H.fresh q hq
 have hle:GLe G w {G with row:=fun m=>if m=q then some (A,n,cap,sz) else G.row m} w:=⟨fun a ha=>⟨ha,rfl⟩,fun _ _ h=>h,fun m r hm=>by
  dsimp only;split
  ·rename_i e;subst e;rw [hr0] at hm;cases hm
  ·exact hm,fun _ _ _=>rfl⟩
 refine⟨hle,{H with gb:=H.gb.trans hle,obj:=fun m s hm=>(by
  simp only [Hp.upd] at hm;split at hm
  ·injection hm with hm;cases hm
  ·exact H.obj m s hm),mapo:=fun m s hm=>(by
  simp only [Hp.upd] at hm;split at hm
  ·injection hm with hm;cases hm
  ·obtain⟨b,arr,ck,f1,f2,f3⟩:=H.mapo m s hm
   exact⟨b,arr,ck,f1,f2,f3.mono hle⟩),i0:=H.i0,inew:=H.inew,icell:=H.icell,bown:=(fun m b hb=>by
  obtain⟨f1,f2,f3,f4⟩:=H.bown m b hb
  refine⟨f1,f2,fun hd=>f3 (fun he=>hd ?_),f4⟩
  by_cases e:m=q
  ·subst e;rw [hb0] at hb;cases hb
  ·simp [Hp.upd,e,he]),binj:=H.binjV (fun e=>by rw [hq] at e;cases e) _,fresh:=fun m hm=>?_,box:=fun m ag cs hm=>?_,row:=fun r hr=>?_,rinj:=fun r1 r2 A1 n1 c1 s1 A2 n2 c2 s2 h1 h2 g1 g2 l1 l2 a1 a2 e1 e2 eb=>?_}⟩
 ·simp only [Hp.upd] at hm;split at hm
  ·cases hm
  ·rename_i hne;dsimp only;rw [if_neg hne];exact H.fresh m hm
 ·simp only [Hp.upd] at hm;split at hm
  ·injection hm with hm;cases hm
  ·obtain⟨b,arr,ty,f1,f2,f3,f4⟩:=H.box m ag cs hm
   exact⟨b,arr,ty,f1,f2,f3.mono hle,f4⟩
 ·simp only [Hp.upd] at hr
  dsimp only
  split at hr
  ·rename_i e;rw [if_pos e];exact⟨A,n,cap,sz,rfl,ht⟩
  ·rename_i hne;rw [if_neg hne];exact H.row r hr
 ·simp only [Hp.upd] at h1 h2
  dsimp only at g1 g2
  split at h1
  ·rename_i q1
   rw [if_pos q1] at g1;injection g1 with g1;injection g1 with x1 x2;injection x2 with x2 x3;injection x3 with x3 x4
   subst x1;subst x2;subst x3;subst x4
   split at h2
   ·rename_i q2;rw [q1,q2]
   ·rename_i q2;rw [if_neg q2] at g2
    exact absurd eb (hd l1 r2 A2 n2 c2 s2 h2 g2 l2 a1 a2 e1 e2)
  ·rename_i q1
   rw [if_neg q1] at g1
   split at h2
   ·rename_i q2;rw [if_pos q2] at g2;injection g2 with g2;injection g2 with x1 x2;injection x2 with x2 x3;injection x3 with x3 x4
    subst x1;subst x2;subst x3;subst x4
    exact absurd eb.symm (hd l2 r1 A1 n1 c1 s1 h1 g1 l1 a2 a1 e2 e1)
   ·rename_i q2;rw [if_neg q2] at g2
    exact H.rinj r1 r2 A1 n1 c1 s1 A2 n2 c2 s2 h1 h2 g1 g2 l1 l2 a1 a2 e1 e2 eb
theorem setCells_heap_ne(b:Nat):∀ (vs:List Value) (o:Nat) (w:World) (k:Nat),k≠b->(w.setCells b o vs).heap[k]?=w.heap[k]?
 | [],_,_,_,_=>rfl
 | v::r,o,w,k,h=>by rw [World.setCells,setCells_heap_ne b r _ _ k h];exact RowKit.Below.heap_setCell w _ v k h
theorem setCells_parts(b:Nat):∀ (vs:List Value) (o:Nat) (w:World),(w.setCells b o vs).os=w.os∧(w.setCells b o vs).tape=w.tape∧(w.setCells b o vs).output=w.output∧(w.setCells b o vs).heap.size=w.heap.size
 | [],_,_=>⟨rfl,rfl,rfl,rfl⟩
 | v::r,o,w=>by
  obtain⟨h1,h2,h3,h4⟩:=setCells_parts b r (o+1) (w.setCell ⟨b,o,none⟩ v)
  exact⟨h1,h2,h3,by rw [World.setCells,h4];simp [World.setCell]⟩
theorem setCells_cell_out(b:Nat):∀ (vs:List Value) (o:Nat) (w:World) (a:Addr),(a.block=b->a.off<o∨o+vs.length<=a.off)->(w.setCells b o vs).cell? a=w.cell? a
 | [],_,_,_,_=>rfl
 | v::r,o,w,a,h=>by
  rw [World.setCells,setCells_cell_out b r (o+1) _ a (fun e=>by have:=h e;simp at this;omega),World.cell?_setCell_other _ _ _ _ (fun e=>by
   subst e;have:=h rfl;simp at this;omega)]
theorem WRel.fill{E:Env}{G:Gh}{h:Hp}{w:World}(H:WRel E G h w){b o:Nat}{vs:List Value}(hc:∀ k,k<vs.length->(w.cell? ⟨b,o+k,none⟩).isSome=true)
  (hI:∀ k,k<vs.length->¬ G.I ⟨b,o+k,none⟩) (hK:¬ E.K b) (hb:∀ m,G.box m≠some b) (hE:E.N b)
  (hd:∀ r A n cap sz,h r=some .row->G.row r=some (A,n,cap,sz)->n*sz<cap*sz->∀ ad,A=some ad->ad.block≠b) :
  GLe G w {G with I:=fun a=>G.I a∨(∃ k,k<vs.length∧a=⟨b,o+k,none⟩)} (w.setCells b o vs) ∧
  WRel E {G with I:=fun a=>G.I a∨(∃ k,k<vs.length∧a=⟨b,o+k,none⟩)} h (w.setCells b o vs):=by
 obtain⟨p1,p2,p3,p4⟩:=setCells_parts b vs o w
 have hin:∀ a,G.I a->(w.setCells b o vs).cell? a=w.cell? a:=fun a ha=>setCells_cell_out b vs o w a (fun e=>by
  obtain⟨v,hv⟩:=Option.isSome_iff_exists.1 (H.icell a ha)
  have he:=addr_eta hv
  rcases Nat.lt_or_ge a.off o with h1 | h1
  ·exact .inl h1
  ·rcases Nat.lt_or_ge a.off (o+vs.length) with h2 | h2
   ·exfalso
    refine hI (a.off-o) (by omega) ?_
    rw [he] at ha
    rw [show o+(a.off-o)=a.off by omega,<- e]
    exact ha
   ·exact .inr h2)
 have hle:GLe G w {G with I:=fun a=>G.I a∨(∃ k,k<vs.length∧a=⟨b,o+k,none⟩)} (w.setCells b o vs):=⟨fun a ha=>⟨.inl ha,hin a ha⟩,fun _ _ h=>h,fun _ _ h=>h,fun _ _ _=>rfl⟩
 refine⟨hle,⟨p1.trans H.os,p2.trans H.tape,p3.trans H.output,by rw [p4];exact H.size,fun k hk=>?_,fun a ha=>?_,fun a ha=>?_,fun a ha=>?_,H.fresh,fun n ag cs hn=>?_,fun n c hn=>?_,H.binj,fun r hr=>?_,H.rinj,fun n s hn=>(by
  obtain⟨c,f1,f2⟩:=H.obj n s hn
  exact⟨c,f1,(setCells_heap_ne b vs o w c (fun e=>hb n (e ▸ f1))).trans f2⟩),fun n es hn=>(by
  obtain⟨c,arr,ck,f1,f2,f3⟩:=H.mapo n es hn
  exact⟨c,arr,ck,f1,(setCells_heap_ne b vs o w c (fun e=>hb n (e ▸ f1))).trans f2,f3.mono hle⟩),H.gb.trans hle,H.gB⟩⟩
 ·obtain⟨h1,h2⟩:=H.kept k hk
  exact⟨h1,(setCells_heap_ne b vs o w k (fun e=>hK (e ▸ hk))).trans h2⟩
 ·obtain⟨h1,h2⟩:=H.i0 a ha
  exact⟨.inl h1,(hin a h1).trans h2⟩
 ·rcases ha with ha | ⟨k,hk,rfl⟩
  ·exact H.inew a ha
  ·exact .inr hE
 ·rcases ha with ha | ⟨k,hk,rfl⟩
  ·rw [hin a ha];exact H.icell a ha
  ·rw [World.cell?_setCells_in b vs o w hc k hk]
   simp [hk]
 ·obtain⟨c,arr,ty,f1,f2,f3,f4⟩:=H.box n ag cs hn
  exact⟨c,arr,ty,f1,(setCells_heap_ne b vs o w c (fun e=>hb n (e ▸ f1))).trans f2,f3.mono hle,f4⟩
 ·obtain⟨f1,f2,f3,f4⟩:=H.bown n c hn
  refine⟨by rw [p4];exact f1,f2,fun hd a e ha=>?_,f4⟩
  rcases ha with ha | ⟨k,hk,rfl⟩
  ·exact f3 hd a e ha
  ·exact hb n (by rw [hn];exact congrArg some e.symm)
 ·obtain⟨A,n,cap,sz,f1,f2⟩:=H.row r hr
  refine⟨A,n,cap,sz,f1,fun k hk hk'=>?_⟩
  obtain⟨ad,e,c1,c2,c3,c4,c5⟩:=f2 k hk hk'
  have hne:ad.block≠b:=hd r A n cap sz hr f1 (by omega) ad e
  have hne':(ad.add k).block≠b:=by rw [block_add];exact hne
  refine⟨ad,e,by rw [setCells_cell_out b vs o w _ (fun e=>absurd e hne')];exact c1,by rw [World.frozen?_setCells];exact c2,fun hi=>?_,c4,c5⟩
  rcases hi with hi | ⟨j,hj,hi⟩
  ·exact c3 hi
  ·rw [hi] at hne';exact hne' rfl
section
variable {E:Env}{P:Program}{ro:Option Nat}{o:Oper}
theorem elems_rep{v:AV}{sz:Nat}{es:List D}(h:v.elems=some (sz,es)) (G:Gh) (w:World) (u:Value) (hr:RepA G w v u):Rep G.I w (.sl sz es) u:=by
 unfold AV.elems at h
 split at h <;> simp only [Option.some.injEq,Prod.mk.injEq,reduceCtorEq] at h
 ·obtain⟨rfl,rfl⟩:=h
  have:=hr.of_d
  cases this
  exact .sl ⟨0,0,none⟩ (fun _=>undef) rfl (by simp) (by simp) (.inr rfl) (by simp) (by simp [D.flat]) (by simp [D.flat]) (by simp [D.flat])
 ·obtain⟨rfl,rfl⟩:=h
  exact hr.of_d
 ·obtain⟨rfl,rfl⟩:=h
  cases hr;assumption
theorem sound_index_elems{t e x j x' j' i sz sz'} {k:IntKind}{es:List D}{ix:Int}{v:AV}(h:o.op=.indexAddr t x j) (hx:CO x x') (hj:CO j j') (hu:P.underlying t=some (.slice e)) (hi:P.info? e=some i) (hs:i.size=sz)
  (hv:v.elems=some (sz',es)) (hc:sz'=sz∧0<=ix∧ix<es.length) (p:Prop) :
  OpLoc E P ro o [(x',v),(j',.d (.lit (.int k ix)))] {c:=p,v:=.d (.ip (es.getD ix.toNat default))} :=
 sound_index_sl h hx hj hu hi hs (fun G w u hr=>elems_rep hv G w u hr) hc.2 hc.1 p
theorem run_indexAt_arr{t e:TypeId}{n:Nat}{i:TypeInfo}{w:World}{ad:Addr}{k:IntKind}{ix:Int}(hu:P.underlying t=some (.array n e)) (hi:P.info? e=some i) (hc:0<=ix∧ix<n) :
  (Instr.indexAt t (.pointer (some ad)) (.int k ix)).run P w=.ok (.pointer (some (ad.add (ix.toNat*i.size)))) w:=by
 simp [Instr.indexAt,asIntOf,run_underlying hu,Instr.sureAddr,sizeOf,typeInfo,hi,hc.1,hc.2]
theorem sound_indexA_box{t e n x j x' j' i sz b off} {k:IntKind}{ix:Int}(h:o.op=.indexAddr t x j) (hx:CO x x') (hj:CO j j') (hu:P.underlying t=some (.array n e)) (hi:P.info? e=some i) (hs:i.size=sz)
  (hc:0<=ix∧ix<n) (p:Prop) :
  OpLoc E P ro o [(x',.ptr b off),(j',.d (.lit (.int k ix)))] {c:=p,v:=.ptr b (off+ix.toNat*sz)} :=
 opLoc_pure (by simp [h]) fun G ac w hp H hv=>by
  obtain⟨v1,v2⟩:=ev2 hv hx hj
  have e2:=v2.lit.1
  generalize he:ac.eval x=u at v1
  cases v1
  rename_i bk hb
  exact⟨.pointer (some ⟨bk,off+ix.toNat*sz,none⟩),by simp only [execOp,h,Sem.run_bind,he,e2,run_indexAt_arr hu hi hc,add_mk,hs,Result.andThen_ok,Sem.run_pure],.ptr hb⟩
theorem sound_indexA_ip{t e n x j x' j' i sz ag} {k:IntKind}{ix:Int}{y:D}(h:o.op=.indexAddr t x j) (hx:CO x x') (hj:CO j j') (hu:P.underlying t=some (.array n e)) (hi:P.info? e=some i) (hs:i.size=sz)
  (hc:0<=ix∧ix<n∧ix.toNat*sz+sz<=y.cells.length∧(ag=false->sz=1)) (p:Prop) :
  OpLoc E P ro o [(x',.d (.ip y)),(j',.d (.lit (.int k ix)))] {c:=p,v:=.d (.ip (subD (ix.toNat*sz) sz ag y))} :=
 opLoc_pure (by simp [h]) fun G ac w hp H hv=>by
  obtain⟨v1,v2⟩:=ev2 hv hx hj
  have e2:=v2.lit.1
  have v1:=v1.of_d
  generalize he:ac.eval x=u at v1
  cases v1
  rename_i ad vs h1 hI hr
  exact⟨.pointer (some (ad.add (ix.toNat*sz))),by simp only [execOp,h,Sem.run_bind,he,e2,run_indexAt_arr hu hi ⟨hc.1,hc.2.1⟩,hs,Result.andThen_ok,Sem.run_pure],.d (rep_sub h1 hI hr hc.2.2.1 hc.2.2.2)⟩
theorem flat_take_drop{sz:Nat}{es:List D}(hz:∀ e∈es,e.cells.length=sz) (l h:Nat):∀ k c,(D.flat ((es.take h).drop l))[k]?=some c->(D.flat es)[l*sz+k]?=some c:=by
 intro k c hk
 have hz':∀ e∈(es.take h).drop l,e.cells.length=sz:=fun e he=>hz e (List.mem_of_mem_take (List.mem_of_mem_drop he))
 have hlen:=flat_len hz'
 have hlt:k<((es.take h).drop l).length*sz:=by
  rw [<- hlen]
  rcases Nat.lt_or_ge k (D.flat ((es.take h).drop l)).length with h' | h'
  ·exact h'
  ·rw [List.getElem?_eq_none h'] at hk;cases hk
 have hpos:0<sz:=by
  rcases Nat.eq_zero_or_pos sz with h0 | h0
  ·rw [h0] at hlt;omega
  ·exact h0
 have hi:k / sz<((es.take h).drop l).length:=(Nat.div_lt_iff_lt_mul hpos).2 hlt
 have hg:((es.take h).drop l)[k / sz]?=some ((es.take h).drop l)[k / sz]:=List.getElem?_eq_getElem hi
 have hg2:es[l+k / sz]?=some ((es.take h).drop l)[k / sz]:=by
  rw [List.getElem?_drop,List.getElem?_take] at hg
  split at hg
  ·exact hg
  ·cases hg
 have hm:=Nat.mod_lt k hpos
 have e1:k=k / sz*sz+k % sz:=by have:=Nat.div_add_mod k sz;rw [Nat.mul_comm] at this;omega
 rw [e1,flat_get hz' hg _ hm] at hk
 rw [show l*sz+k=(l+k / sz)*sz+k % sz by rw [Nat.add_mul];omega,flat_get hz hg2 _ hm]
 exact hk
theorem rep_slice{I:Addr->Prop}{w:World}{sz:Nat}{es:List D}{A:Option Addr}{n cap l h m:Nat}(hr:Rep I w (.sl sz es) (.slice A n cap)) (hl:l<=h) (hh:h<=es.length) (hm:h<=m) (hm2:m<=cap) :
  Rep I w (.sl sz ((es.take h).drop l)) (.slice (if m=l then A else A.map (·.add (l*sz))) (h-l) (m-l)):=by
 obtain⟨n',A',cap',ad,vs,e,hn,hc,hcm,hA,hz,h1,hI,hrr⟩:=hr.sl_inv
 injection e with e1 e2 e3
 subst e1;subst e2;subst e3
 have hlen:((es.take h).drop l).length=h-l:=by simp;omega
 refine .sl (ad.add (l*sz)) (fun k=>vs (l*sz+k)) hlen.symm (by omega) (by omega) ?_ (fun e he=>hz e (List.mem_of_mem_take (List.mem_of_mem_drop he))) (fun c hc=>?_) (fun k c hk=>?_) (fun k c hk=>hrr _ c (flat_take_drop hz l h k c hk))
 ·by_cases hlh:l=h
  ·right;apply List.eq_nil_of_length_eq_zero;omega
  ·left
   rw [if_neg (by omega)]
   rcases hA with hA | hA
   ·rw [hA];rfl
   ·subst hA;simp at hh;omega
 ·obtain⟨k,hk⟩:=List.getElem?_of_mem hc
  exact h1 c (List.mem_of_getElem? (flat_take_drop hz l h k c hk))
 ·rw [add_add];exact hI _ c (flat_take_drop hz l h k c hk)
theorem run_slice{t e:TypeId}{i:TypeInfo}{w:World}{A:Option Addr}{n cap:Nat}{lo hi:Option Value}{l h:Nat}(hu:P.underlying t=some (.slice e)) (hi':P.info? e=some i)
  (hlo:(lo=none∧l=0)∨∃ k,lo=some (.int k (l:Int))) (hhi:(hi=none∧h=n)∨∃ k,hi=some (.int k (h:Int))) (hlh:l<=h) (hn:h<=cap) :
  (Instr.sliceAt t (.slice A n cap) lo hi none).run P w=.ok (.slice (if cap=l then A else A.map (·.add (l*i.size))) (h-l) (cap-l)) w:=by
 rcases hlo with ⟨rfl,rfl⟩ | ⟨k,rfl⟩ <;> rcases hhi with ⟨rfl,rfl⟩ | ⟨k',rfl⟩ <;>
  simp [Instr.sliceAt,run_underlying hu,Instr.slice,Instr.sliceBounds,Instr.sliceBound,asIntOf,sizeOf,typeInfo,hi',hn,hlh]
theorem run_slice3{t e:TypeId}{i:TypeInfo}{w:World}{A:Option Addr}{n cap:Nat}{lo:Option Value}{l h m:Nat}{k1 k2:IntKind}(hu:P.underlying t=some (.slice e)) (hi':P.info? e=some i)
  (hlo:(lo=none∧l=0)∨∃ k,lo=some (.int k (l:Int))) (hlh:l<=h) (hhm:h<=m) (hn:m<=cap) :
  (Instr.sliceAt t (.slice A n cap) lo (some (.int k1 (h:Int))) (some (.int k2 (m:Int)))).run P w=.ok (.slice (if m=l then A else A.map (·.add (l*i.size))) (h-l) (m-l)) w:=by
 rcases hlo with ⟨rfl,rfl⟩ | ⟨k,rfl⟩ <;>
  simp [Instr.sliceAt,run_underlying hu,Instr.slice,Instr.sliceBounds,Instr.sliceBound,asIntOf,sizeOf,typeInfo,hi',hn,hlh,hhm]
theorem sc_len{n:Nat}(h:n<=9223372036854775807):Sc (.int .i64 (n:Int)):=by refine⟨?_,?_⟩ <;> simp only [IntKind.min,IntKind.max,IntKind.bits,IntKind.signed] <;> simp <;> omega
theorem sound_len{x x' t e} {v:AV}{sz:Nat}{es:List D}(h:o.op=.call {callee:=.builtin .len,args:=#[x],argTypes:=#[t]}) (hx:CO x x') (hu:P.underlying t=some (.slice e))
  (hv:v.elems=some (sz,es)) (p:Prop):OpLoc E P ro o [(x',v)] {c:=p,v:=.d (.lit (.int .i64 es.length))} :=
 opLoc_pure (by simp [h]) fun G a w hp H hvv=>by
  have hr:=elems_rep hv G w _ (ev1 hvv hx)
  obtain⟨n,A,cap,ad,vs,e1,hn,hc,hm,_⟩:=hr.sl_inv
  refine⟨.int .i64 n,by simp [execOp,h,resolve,invoke,builtin,e1,Builtin.len_,run_underlying hu,goInt],?_⟩
  rw [hn];exact .d (.lit (sc_len (by omega)))
theorem sound_lenS{x x' t} {s:ByteArray}(h:o.op=.call {callee:=.builtin .len,args:=#[x],argTypes:=#[t]}) (hx:CO x x') (hu:P.underlying t=some .string)
  (p:Prop):OpLoc E P ro o [(x',.d (.lit (.string s)))] {c:=p,v:=.d (.lit (.int .i64 s.size))} :=
 opLoc_pure (by simp [h]) fun G a w hp H hvv=>by
  obtain⟨e1,s1⟩:=(ev1 hvv hx).lit
  exact⟨.int .i64 s.size,by simp [execOp,h,resolve,invoke,builtin,e1,Builtin.len_,run_underlying hu,goInt],.d (.lit (sc_len s1))⟩
theorem bound_ev{a:Act}{G:Gh}{w:World}{lo:Option Operand}{lo':Option Opd}(hlo:COopt lo lo'){vs:List AV}{d:Nat}{l:Int}{vs':List AV}{rest:List Opd}(hb:bound lo' vs d=some (l,vs'))
  (hv:∀ p∈(optL lo'++rest).zip vs,EvO G w a p.1 p.2):((lo.map a.eval=none∧l=d)∨∃ k,lo.map a.eval=some (.int k l))∧∀ p∈rest.zip vs',EvO G w a p.1 p.2:=by
 cases hlo with
 | none =>
  simp only [bound,Option.some.injEq,Prod.mk.injEq] at hb
  obtain⟨rfl,rfl⟩:=hb
  exact⟨.inl ⟨rfl,rfl⟩,hv⟩
 | some h =>
  unfold bound at hb
  split at hb <;> simp only [Option.some.injEq,Prod.mk.injEq,reduceCtorEq] at hb
  ·rename_i heq;cases heq
  ·obtain⟨rfl,rfl⟩:=hb
   rename_i y k i _ heq
   injection heq with heq
   refine⟨.inr ⟨k,?_⟩,fun p hp=>hv p (by simp [optL];exact .inr hp)⟩
   have:=(hv (_,.d (.lit (.int k i))) (by simp [optL]) _ h).lit.1
   simp [this]
theorem sound_slice{t e x lo hi x' lo' hi' i sz sz'} {v:AV}{vs vs':List AV}{es:List D}{l h:Int}(ho:o.op=.slice t x lo hi none) (hx:CO x x') (hlo:COopt lo lo') (hhi:COopt hi hi') (hu:P.underlying t=some (.slice e)) (hie:P.info? e=some i) (hs:i.size=sz)
  (hv:v.elems=some (sz',es)) (hb1:bound lo' vs 0=some (l,vs')) (hb2:bound hi' vs' es.length=some (h,[])) (hc:sz'=sz∧0<=l∧l<=h∧h<=es.length) (p:Prop) :
  OpLoc E P ro o ((x'::(optL lo'++optL hi')).zip (v::vs)) {c:=p,v:=sliceR v sz ((es.take h.toNat).drop l.toNat)} :=
 opLoc_pure (by simp [ho]) fun G a w hp H hvv=>by
  obtain⟨c1,c2,c3,c4⟩:=hc
  subst c1
  have hr:=elems_rep hv G w _ (hvv (x',v) (by simp) x hx)
  obtain⟨g1,g2⟩:=bound_ev hlo hb1 (fun p hp=>hvv p (by simp;exact .inr hp)) (rest:=optL hi')
  obtain⟨g3,_⟩:=bound_ev hhi hb2 (rest:=[]) (by simpa using g2)
  obtain⟨l,rfl⟩:=Int.eq_ofNat_of_zero_le c2
  obtain⟨h,rfl⟩:=Int.eq_ofNat_of_zero_le (Int.le_trans c2 c3)
  obtain⟨n,A,cap,ad,us,e1,hn,hcap,hm,_⟩:=hr.sl_inv
  have hrun:=run_slice (P:=P) (w:=w) (A:=A) (n:=n) (cap:=cap) (l:=l) (h:=h) hu hie (by
   rcases g1 with ⟨q1,q2⟩ | q
   ·exact .inl ⟨q1,by simpa using q2⟩
   ·exact .inr q) (by
   rcases g3 with ⟨q1,q2⟩ | q
   ·exact .inl ⟨q1,by omega⟩
   ·exact .inr q) (by omega) (by omega)
  have hv0:=hvv (x',v) (by simp) x hx
  rw [e1] at hr
  refine⟨.slice (if cap=l then A else A.map (·.add (l*i.size))) (h-l) (cap-l),by simp only [execOp,ho,Sem.run_bind,e1,Option.map_none,hrun,Result.andThen_ok,Sem.run_pure],?_⟩
  have hrep:=rep_slice (l:=l) (h:=h) (m:=cap) hr (by omega) (by omega) (by omega) (by omega)
  unfold sliceR
  split
  ·have hv1:=hv0.of_d
   rw [e1] at hv1
   cases hv1
   have h0:l=0∧h=0:=by omega
   obtain⟨rfl,rfl⟩:=h0
   exact .d (by rw [if_pos rfl];exact .nil)
  ·rw [hs];exact .d hrep
theorem sound_slice_spare{t e x hi x' hi' i r z n k} (ho:o.op=.slice t x none (some hi) none) (hx:CO x x') (hhi:CO hi hi') (hu:P.underlying t=some (.slice e)) (hie:P.info? e=some i) (p:Prop) :
  OpLoc E P ro o [(x',.spare r z n),(hi',.d (.lit (.int k 0)))] {c:=p,v:=.own r z []} :=
 opLoc_pure (by simp [ho]) fun G a w hp H hvv=>by
  obtain⟨v1,v2⟩:=ev2 hvv hx hhi
  obtain⟨e2,_⟩:=v2.lit
  generalize he:a.eval x=u at v1
  obtain⟨cap,A,rfl,hg,h1,h2⟩:∃ cap A,u=.slice A n cap∧G.row r=some (A,0,cap,z)∧n<=cap∧cap<=9223372036854775807:=by
   cases v1 with
   | spare hg h1 h2=>exact⟨_,_,rfl,hg,h1,h2⟩
  have hrun:=run_slice (P:=P) (w:=w) (A:=A) (n:=n) (cap:=cap) (l:=0) (h:=0) (lo:=none) (hi:=some (.int k 0)) hu hie (.inl ⟨rfl,rfl⟩) (.inr ⟨k,rfl⟩) (by omega) (by omega)
  have hA:(if cap=0 then A else A.map (·.add (0*i.size)))=A:=by
   split
   ·rfl
   ·cases A <;> simp [Addr.add]
  rw [hA] at hrun
  refine⟨.slice A 0 cap,by simp only [execOp,ho,Sem.run_bind,he,e2,Option.map_some,Option.map_none,hrun,Result.andThen_ok,Sem.run_pure,Nat.sub_zero],.own hg ?_⟩
  exact .sl ⟨0,0,none⟩ (fun _=>undef) rfl (by simp) h2 (.inr rfl) (by simp) (by simp [D.flat]) (by simp [D.flat]) (by simp [D.flat])
theorem sound_newrow{xs:List (Opd×AV)}{q:Nat}{sz:Nat}{es:List D}{c:Prop}(hd:∀ c,o.op≠.defer c)
  (h:∀ (G:Gh) (a:Act) (w:World) (h:Hp),WRel E G h w->(∀ p∈xs,EvO G w a p.1 p.2)->∃ A n w' G',(execOp a.eval o).run P w=.ok (.value (.slice A n n)) w'∧GLe G w G' w'∧WRel E G' h w'∧Rep G'.I w' (.sl sz es) (.slice A n n)) :
  OpLoc E P ro o xs {c:=c,v:=.own q sz es,up:=[(q,.row)]}:=by
 intro G a w hp H hx _ hn K Q hK
 obtain⟨A,n,w',G',h1,h2,h3,h4⟩:=h G a w hp H hx
 have hfr:hp q=none:=by
  rcases hn (q,.row) (by simp) with h | ⟨q,hq,_⟩
  ·exact h
  ·simp at hq
 obtain⟨l1,l2⟩:=h3.addRow hfr (A:=A) (n:=n) (cap:=n) (sz:=sz) (fun k hk hk'=>by omega) (fun hlt=>by omega)
 exact wpIn_value hd h1 (hK _ _ _ (h2.trans l1) l2 (.own (by simp) (h4.mono l1.imm)))
theorem sound_slice3{t e x lo hi mx x' lo' hi' mx' i sz sz' q} {v:AV}{vs:List AV}{es:List D}{l h m:Int}{k1 k2:IntKind}(ho:o.op=.slice t x lo (some hi) (some mx)) (hx:CO x x') (hlo:COopt lo lo') (hhi:CO hi hi') (hmx:CO mx mx') (hu:P.underlying t=some (.slice e)) (hie:P.info? e=some i) (hs:i.size=sz)
  (hv:v.elems=some (sz',es)) (hb1:bound lo' vs 0=some (l,[.d (.lit (.int k1 h)),.d (.lit (.int k2 m))])) (hc:sz'=sz∧0<=l∧l<=h∧h<=es.length∧m=h) (p:Prop) :
  OpLoc E P ro o ((x'::(optL lo'++[hi',mx'])).zip (v::vs)) {c:=p,v:=.own q sz ((es.take h.toNat).drop l.toNat),up:=[(q,.row)]} :=
 sound_newrow (by simp [ho]) fun G a w hp H hvv=>by
  obtain⟨c1,c2,c3,c4,c5⟩:=hc
  subst c1;subst c5
  have hr:=elems_rep hv G w _ (hvv (x',v) (by simp) x hx)
  obtain⟨g1,g2⟩:=bound_ev hlo hb1 (fun p hp=>hvv p (by simp;exact .inr hp)) (rest:=[hi',mx'])
  have g3:=(g2 (hi',.d (.lit (.int k1 m))) (by simp) hi hhi).lit.1
  have g4:=(g2 (mx',.d (.lit (.int k2 m))) (by simp) mx hmx).lit.1
  obtain⟨l,rfl⟩:=Int.eq_ofNat_of_zero_le c2
  obtain⟨m,rfl⟩:=Int.eq_ofNat_of_zero_le (Int.le_trans c2 c3)
  obtain⟨n,A,cap,ad,us,e1,hn,hcap,hm,_⟩:=hr.sl_inv
  have hrun:=run_slice3 (P:=P) (w:=w) (A:=A) (n:=n) (cap:=cap) (l:=l) (h:=m) (m:=m) (k1:=k1) (k2:=k2) hu hie (by
   rcases g1 with ⟨q1,q2⟩ | q
   ·exact .inl ⟨q1,by simpa using q2⟩
   ·exact .inr q) (by omega) (by omega) (by omega)
  rw [e1] at hr
  refine⟨if m=l then A else A.map (·.add (l*i.size)),m-l,w,G,by simp only [execOp,ho,Sem.run_bind,e1,Option.map_some,g3,g4,hrun,Result.andThen_ok,Sem.run_pure],GLe.refl G w,H,?_⟩
  have:=rep_slice (l:=l) (h:=m) (m:=m) hr (by omega) (by omega) (by omega) (by omega)
  rw [hs];exact this
end
section
variable {E:Env}{P:Program}{ro:Option Nat}{o:Oper}
theorem toD0_rep{v:AV}{x:D}(h:v.toD0=some x){G:Gh}{w:World}{u:Value}(hr:RepA G w v u):Rep G.I w x u:=by
 unfold AV.toD0 at h
 split at h <;> simp only [Option.some.injEq,reduceCtorEq] at h
 ·subst h;exact hr.of_d
 ·subst h;cases hr;assumption
theorem toD0_one{v:AV}{x:D}(h:v.toD0=some x) (h1:v.one=true):x.one=true:=by
 unfold AV.toD0 at h
 split at h <;> simp only [Option.some.injEq,reduceCtorEq] at h
 ·subst h;exact h1
 ·subst h;rfl
theorem toDs0_spec:∀ {cs:List AV}{ds:List D},toDs0 cs=some ds->ds.length=cs.length∧∀ (k:Nat) (d:D),ds[k]?=some d->∃ c:AV,cs[k]?=some c∧c.toD0=some d
 | [],ds,h=>by simp [toDs0] at h;subst h;simp
 | c::cs,ds,h=>by
  simp only [toDs0] at h
  cases h1:c.toD0 with
  | none=>simp [h1] at h
  | some x =>
   cases h2:toDs0 cs with
   | none=>simp [h1,h2] at h
   | some l =>
    simp [h1,h2] at h
    subst h
    obtain⟨i1,i2⟩:=toDs0_spec h2
    refine⟨by simp [i1],fun k d hk=>?_⟩
    cases k with
    | zero=>simp at hk;subst hk;exact⟨c,rfl,h1⟩
    | succ k=>simpa using i2 k d (by simpa using hk)
theorem toD1_rep{v:AV}{x:D}(h:v.toD1=some x){G:Gh}{w:World}{u:Value}(hr:RepA G w v u):Rep G.I w x u:=by
 unfold AV.toD1 at h
 split at h <;> simp only [Option.some.injEq,Option.map_eq_some_iff,reduceCtorEq] at h
 ·subst h;exact hr.of_d
 ·subst h;cases hr;assumption
 ·obtain⟨ds,h0,rfl⟩:=h
  obtain⟨i1,i2⟩:=toDs0_spec h0
  cases hr with
  | agg hl h1 hrr =>
   refine .agg (by rw [hl,i1]) (fun d hd=>?_) (fun k d u hk hu=>?_)
   ·obtain⟨k,hk⟩:=List.getElem?_of_mem hd
    obtain⟨c,hc,hcd⟩:=i2 k d hk
    exact toD0_one hcd (h1 c (List.mem_of_getElem? hc))
   ·obtain⟨c,hc,hcd⟩:=i2 k d hk
    exact toD0_rep hcd (hrr k c u hc hu)
theorem toDs_spec{G:Gh}{w:World}{a:Act}:∀ (ps:List Opd) (vs:List AV) (es:List D) (xs:List Operand),toDs vs=some es->All2 CO xs ps->vs.length=ps.length->(∀ p∈ps.zip vs,EvO G w a p.1 p.2) ->
  es.length=ps.length∧∀ (k:Nat) (e:D) (x:Operand),es[k]?=some e->xs[k]?=some x->Rep G.I w e (a.eval x)
 | [],vs,es,xs,h,h2,hl,hv=>by
  cases h2
  have:vs=[]:=List.eq_nil_of_length_eq_zero (by simpa using hl)
  subst this
  simp [toDs] at h;subst h
  exact⟨rfl,fun k e x hk=>by simp at hk⟩
 | p::ps,vs,es,xs,h,h2,hl,hv=>by
  cases h2
  rename_i x xs hx t
  cases vs with
  | nil=>simp at hl
  | cons v vs =>
   unfold toDs at h
   cases h1:v.toD1 with
   | none=>simp [h1] at h
   | some y =>
    cases h3:toDs vs with
    | none=>simp [h1,h3] at h
    | some l =>
     simp [h1,h3] at h
     subst h
     obtain⟨i1,i2⟩:=toDs_spec ps vs l xs h3 t (by simpa using hl) (fun p hp=>hv p (by simp;exact .inr hp))
     refine⟨by simp [i1],fun k e u hk hu=>?_⟩
     cases k with
     | zero=>simp at hk hu;subst hk;subst hu;exact toD1_rep h1 (hv (p,v) (by simp) x hx)
     | succ k=>exact i2 k e u (by simpa using hk) (by simpa using hu)
theorem all2_len{α β:Type}{R:α->β->Prop}{l:List α}{m:List β}(h:All2 R l m):l.length=m.length:=by
 induction h with
 | nil=>rfl
 | cons _ _ ih=>simp [ih]
theorem sound_mkslice{t e i sz zv len parts ps q} {vs:List AV}{es:List D}(h:o.op=.buildSlice t len parts) (hu:P.underlying t=some (.slice e)) (hi:P.info? e=some i) (hs:i.size=sz) (hs0:0<sz) (hz:i.zero=some zv) (_hzs:zv.cells.size=sz)
  (hl:len=ps.length) (hps:∃ xs:List Operand,parts.toList=(xs.zipIdx 0).map (fun x=>(x.2,x.1))∧All2 CO xs ps) (hvl:vs.length=ps.length)
  (hes:toDs vs=some es) (hc:(∀ e∈es,e.cells.length=sz∧(∀ ds,e≠.tup ds))∧es.length*sz<=16777216) (p:Prop) :
  OpLoc E P ro o (ps.zip vs) {c:=p,v:=.own q sz es,up:=[(q,.row)]} :=
 sound_newrow (by simp [h]) fun G a w hp H hvv=>by
  obtain⟨xs,hx1,hx2⟩:=hps
  obtain⟨d1,d2⟩:=toDs_spec ps vs es xs hes hx2 hvl hvv
  have hxl:=all2_len hx2
  have hcells:∀ (k:Nat) (e:D) (x:Operand),es[k]?=some e->xs[k]?=some x->RepL G.I w e.cells (a.eval x).cells∧∀ c∈e.cells,c.one=true:=fun k e x he hx=>(d2 k e x he hx).cells (hc.1 e (List.mem_of_getElem? he)).2
  have hsz:∀ v∈xs.map a.eval,v.cells.size=sz:=fun v hv=>by
   obtain⟨k,hk⟩:=List.getElem?_of_mem hv
   simp only [List.getElem?_map,Option.map_eq_some_iff] at hk
   obtain⟨x,hx,rfl⟩:=hk
   have hklt:k<xs.length:=by
    rcases Nat.lt_or_ge k xs.length with h' | h'
    ·exact h'
    ·rw [List.getElem?_eq_none h'] at hx;cases hx
   have hek:es[k]?=some es[k]:=List.getElem?_eq_getElem (by omega)
   rw [(hcells k _ x hek hx).1.1]
   exact(hc.1 _ (List.mem_of_getElem? hek)).1
  by_cases hpos:len*i.size=0
  ·have hl0:len=0:=by
    rcases Nat.mul_eq_zero.1 hpos with h' | h'
    ·exact h'
    ·omega
   have he0:es=[]:=List.eq_nil_of_length_eq_zero (by omega)
   have hx0:xs=[]:=List.eq_nil_of_length_eq_zero (by omega)
   subst he0;subst hx0
   have hpz:parts=#[]:=by simpa using hx1
   refine⟨some ⟨w.heap.size,0,none⟩,0,w.alloc (.cells #[] e),G,?_,?_⟩
   ·simp [execOp,h,Instr.buildSlice,run_underlying hu,sizeOf,typeInfo,hi,hl0,hpz,Instr.fill,newRow]
    rw [show Array.range 0=#[] from Array.eq_empty_of_size_eq_zero (by simp),Array.map_empty]
   ·obtain⟨l1,l2⟩:=H.grow (Grow.alloc w (.cells #[] e)) G.I (fun _ h=>h) (fun _ h=>.inl h) (fun a' ha'=>by rw [(Grow.alloc w _).cell (H.ilt ha')];exact H.icell a' ha')
    exact⟨l1,l2,.sl ⟨w.heap.size,0,none⟩ (fun _=>undef) rfl (by simp) (by simp) (.inr rfl) (by simp) (by simp [D.flat]) (by simp [D.flat]) (by simp [D.flat])⟩
  ·have hfill:=Great.fill_whole (s:=i.size) (by omega) (xs.map a.eval) ((Array.range (len*i.size)).map (zv.cells[· % zv.cells.size]!)) (fun v hv=>by rw [hs];exact hsz v hv) (by rw [List.length_map,Array.size_map,Array.size_range,hxl,hl])
   have hsmall:¬ len*i.size>2 ^ 24:=by
    have h1:len*i.size=es.length*sz:=by rw [hl,<- d1,hs]
    have:=hc.2
    omega
   have hrun:=run_buildSlice (P:=P) w t e len (parts.map fun(i,x)=>(i,a.eval x)) _ i zv hu hi hz hsmall hpos (by
    rw [Array.toList_map,hx1,List.map_map]
    have:(xs.zipIdx 0).map ((fun(p:Nat×Operand)=>(p.1,a.eval p.2))∘fun x=>(x.2,x.1))=((xs.map a.eval).zipIdx 0).map fun x=>(x.2,x.1):=by
     rw [List.zipIdx_map,List.map_map];rfl
    exact(congrArg _ this).trans hfill)
   generalize harr:((xs.map a.eval).flatMap fun v=>v.cells.toList)=arr at hrun
   have harrl:arr.length=es.length*sz:=by
    have hh:∀ (l:List Value),(∀ v∈l,v.cells.size=sz)->(l.flatMap fun v=>v.cells.toList).length=l.length*sz:=by
     intro l
     induction l with
     | nil=>simp
     | cons v l ih =>
      intro hv
      rw [List.flatMap_cons,List.length_append,ih (fun u hu=>hv u (by simp [hu])),List.length_cons,Nat.add_mul,Array.length_toList,hv v (by simp)];omega
    rw [<- harr,hh _ hsz,List.length_map,hxl,d1]
   have hget:∀ k c,(D.flat es)[k]?=some c->∃ v,arr[k]?=some v∧Rep G.I w c v∧c.one=true:=fun k c hk=>by
    have hzz:∀ e∈es,e.cells.length=sz:=fun e he=>(hc.1 e he).1
    have hlt:k<es.length*sz:=by
     rw [<- flat_len hzz]
     rcases Nat.lt_or_ge k (D.flat es).length with h' | h'
     ·exact h'
     ·rw [List.getElem?_eq_none h'] at hk;cases hk
    have hi':k / sz<es.length:=(Nat.div_lt_iff_lt_mul hs0).2 hlt
    have hm:=Nat.mod_lt k hs0
    have hg:es[k / sz]?=some es[k / sz]:=List.getElem?_eq_getElem hi'
    have hgx:xs[k / sz]?=some (xs[k / sz]'(by omega)):=List.getElem?_eq_getElem (by omega)
    have e1:k=k / sz*sz+k % sz:=by have:=Nat.div_add_mod k sz;rw [Nat.mul_comm] at this;omega
    have hk2:es[k / sz].cells[k % sz]?=some c:=by
     rw [<- hk];conv=>rhs;rw [e1]
     exact(flat_get hzz hg _ hm).symm
    obtain⟨c1,c2⟩:=hcells _ _ _ hg hgx
    have ha:arr[k]?=(a.eval (xs[k / sz]'(by omega))).cells[k % sz]?:=by
     rw [<- harr,Great.flat_get hs0 _ hsz k,List.getElem?_map,hgx];rfl
    have hlt2:k % sz<(a.eval (xs[k / sz]'(by omega))).cells.size:=by rw [c1.1,hzz _ (List.mem_of_getElem? hg)];exact hm
    refine⟨(a.eval (xs[k / sz]'(by omega))).cells[k % sz],by rw [ha];exact Array.getElem?_eq_getElem hlt2,c1.2 _ c _ hk2 (Array.getElem?_eq_getElem hlt2),c2 c (List.mem_of_getElem? hk2)⟩
   have hg:=Grow.alloc w (.cells arr.toArray e)
   have hcell:∀ k,(w.alloc (.cells arr.toArray e)).cell? ⟨w.heap.size,k,none⟩=arr[k]?:=fun k=>by
    have:=cell_of_row (w.alloc (.cells arr.toArray e)) w.heap.size k arr.toArray e (0,0) (heap_alloc_new w _)
    rw [this];simp
   obtain⟨l1,l2⟩:=H.grow hg (fun a'=>G.I a'∨(a'.block=w.heap.size∧a'.spot=none∧a'.off<arr.length)) (fun _ h=>.inl h) (fun a' ha'=>by
     rcases ha' with h' | h'
     ·exact .inl h'
     ·exact .inr (by omega)) (fun a' ha'=>by
     rcases ha' with h' | ⟨h1',h2',h3'⟩
     ·rw [hg.cell (H.ilt h')];exact H.icell a' h'
     ·have:a'=⟨w.heap.size,a'.off,none⟩:=by cases a';simp_all
      rw [this,hcell];simp [h3'])
   refine⟨some ⟨w.heap.size,0,none⟩,len,_,_,by simp only [execOp,h,Sem.run_bind,hrun,Result.andThen_ok,Sem.run_pure],l1,l2,?_⟩
   refine .sl ⟨w.heap.size,0,none⟩ (fun k=>arr.getD k undef) (by omega) (by omega) (by have:=hc.2;have:=Nat.le_mul_of_pos_right es.length hs0;omega) (.inl rfl) (fun e he=>(hc.1 e he).1) (fun c hc'=>?_) (fun k c hk=>?_) (fun k c hk=>?_)
   ·obtain⟨k,hk⟩:=List.getElem?_of_mem hc'
    obtain⟨v,_,_,h3'⟩:=hget k c hk
    exact h3'
   ·obtain⟨v,h1',_,_⟩:=hget k c hk
    rw [add_mk,Nat.zero_add,hcell,h1']
    refine⟨.inr ⟨rfl,rfl,?_⟩,by simp [List.getD,h1']⟩
    rcases Nat.lt_or_ge k arr.length with h' | h'
    ·exact h'
    ·rw [List.getElem?_eq_none h'] at h1';cases h1'
   ·obtain⟨v,h1',h2',_⟩:=hget k c hk
    have:arr.getD k undef=v:=by simp [List.getD,h1']
    rw [this]
    exact h2'.mono l1.imm
theorem sound_minmax{x y x' y' ts} {mx:Bool}{k k':IntKind}{i j:Int}(h:o.op=.call {callee:=.builtin (if mx then .max else .min),args:=#[x,y],argTypes:=ts}) (hx:CO x x') (hy:CO y y') (hk:k=k') (p:Prop) :
  OpLoc E P ro o [(x',.d (.lit (.int k i))),(y',.d (.lit (.int k' j)))] {c:=p,v:=.d (.lit (.int k (if mx then (if j>i then j else i) else (if j<i then j else i))))} :=
 opLoc_pure (by simp [h]) fun G a w hp H hv=>by
  subst hk
  obtain⟨v1,v2⟩:=ev2 hv hx hy
  obtain⟨e1,s1⟩:=v1.lit
  obtain⟨e2,s2⟩:=v2.lit
  refine⟨.int k (if mx then (if j>i then j else i) else (if j<i then j else i)),?_,.d (.lit ?_)⟩
  ·cases mx <;> simp [execOp,h,resolve,invoke,builtin,e1,e2,Builtin.max_,Builtin.min_,Builtin.max2,Builtin.min2]
  ·simp only [Sc] at s1 s2 ⊢
   cases mx <;> simp <;> split <;> omega
theorem evs_list{G:Gh}{w:World}{a:Act}:∀ (xs:List Operand) (ps:List Opd) (vs:List AV),All2 CO xs ps->vs.length=ps.length->(∀ p∈ps.zip vs,EvO G w a p.1 p.2) ->
  ∀ (k:Nat) (c:AV) (u:Value),vs[k]?=some c->(xs.map a.eval)[k]?=some u->RepA G w c u
 | _,_,vs,.nil,hl,_,k,c,u,hk,_=>by
  have:vs=[]:=List.eq_nil_of_length_eq_zero (by simpa using hl)
  subst this;simp at hk
 | x::xs,p::ps,vs,.cons h t,hl,hv,k,c,u,hk,hu=>by
  cases vs with
  | nil=>simp at hl
  | cons v vs =>
   cases k with
   | zero=>simp at hk hu;subst hk;subst hu;exact hv (p,v) (by simp) x h
   | succ k=>exact evs_list xs ps vs t (by simpa using hl) (fun q hq=>hv q (by simp;exact .inr hq)) k c u (by simpa using hk) (by simpa using hu)
theorem sound_func{f first caps first' caps'} {vs:List AV}(h:o.op=.makeFunc f first caps) (hf:All2 CO first.toList first') (hc:All2 CO caps.toList caps') (hl:vs.length=(first'++caps').length) (p:Prop) :
  OpLoc E P ro o ((first'++caps').zip vs) {c:=p,v:=.fn f (vs.take first'.length) (vs.drop first'.length)} :=
 opLoc_pure (by simp [h]) fun G a w hp H hv=>by
  have l1:=all2_len hf
  have l2:=all2_len hc
  simp only [List.length_append] at hl
  refine⟨.func f (first.map a.eval) (caps.map a.eval),by simp [execOp,h,Instr.makeFunc],.fn (by simp at l1 ⊢;omega) (by simp at l2 ⊢;omega) (fun k c u hk hu=>?_) (fun k c u hk hu=>?_)⟩
  ·refine evs_list first.toList first' (vs.take first'.length) hf (by simp;omega) (fun q hq=>hv q ?_) k c u hk (by simpa using hu)
   have:(first'++caps').zip vs=first'.zip (vs.take first'.length)++caps'.zip (vs.drop first'.length):=by
    conv=>lhs;rw [<- List.take_append_drop first'.length vs]
    rw [List.zip_append (by simp;omega)]
   rw [this];exact List.mem_append_left _ hq
  ·refine evs_list caps.toList caps' (vs.drop first'.length) hc (by simp;omega) (fun q hq=>hv q ?_) k c u hk (by simpa using hu)
   have:(first'++caps').zip vs=first'.zip (vs.take first'.length)++caps'.zip (vs.drop first'.length):=by
    conv=>lhs;rw [<- List.take_append_drop first'.length vs]
    rw [List.zip_append (by simp;omega)]
   rw [this];exact List.mem_append_right _ hq
theorem sound_extract{x x' i} {vs:List AV}(h:o.op=.extract x i) (hx:CO x x') (hi:i<vs.length) (p:Prop) :
  OpLoc E P ro o [(x',.tup vs)] {c:=p,v:=vs.getD i default} :=
 opLoc_pure (by simp [h]) fun G a w hp H hv=>by
  have hr:=ev1 hv hx
  generalize he:a.eval x=u at hr
  cases hr
  rename_i us hl hr
  have hiu:i<us.size:=by omega
  exact⟨us[i],by simp [execOp,h,he,Instr.extract,hiu],hr i _ _ (by simp [List.getD,List.getElem?_eq_getElem hi]) (Array.getElem?_eq_getElem hiu)⟩
theorem sound_extract_d{x x' i} {vs:List D}(h:o.op=.extract x i) (hx:CO x x') (hi:i<vs.length) (p:Prop) :
  OpLoc E P ro o [(x',.d (.tup vs))] {c:=p,v:=.d (vs.getD i default)} :=
 opLoc_pure (by simp [h]) fun G a w hp H hv=>by
  have hr:=(ev1 hv hx).of_d
  generalize he:a.eval x=u at hr
  cases hr
  rename_i us hl hr
  have hiu:i<us.size:=by omega
  exact⟨us[i],by simp [execOp,h,he,Instr.extract,hiu],.d (hr i _ _ (by simp [List.getD,List.getElem?_eq_getElem hi]) (Array.getElem?_eq_getElem hiu))⟩
theorem sound_conv{s t x x' k d} {k':IntKind}{i:Int}(h:o.op=.convert s t x) (hx:CO x x') (hs:P.underlying s=some d) (ht:P.underlying t=some (.int k)) (p:Prop) :
  OpLoc E P ro o [(x',.d (.lit (.int k' i)))] {c:=p,v:=.d (.lit (.int k (k.wrap i)))} :=
 opLoc_pure (by simp [h]) fun G a w hp H hv=>by
  have e1:=(ev1 hv hx).lit.1
  exact⟨.int k (k.wrap i),by simp [execOp,h,convert,run_underlying hs,run_underlying ht,e1,Conv.intToInt],.d (.lit (wrap_range k i))⟩
theorem sound_ifc{t x x' d} {y:D}(h:o.op=.makeInterface t x) (hx:CO x x') (hu:P.underlying t=some d) (hd:∀ ms,d≠.interface ms) (p:Prop) :
  OpLoc E P ro o [(x',.d y)] {c:=p,v:=.d (.ifc t y)} :=
 opLoc_pure (by simp [h]) fun G a w hp H hv=>by
  have hr:=(ev1 hv hx).of_d
  refine⟨.iface t (a.eval x),?_,.d (.ifc hr)⟩
  cases d <;> simp_all [execOp,Instr.makeInterface,run_underlying hu]
end
section
variable {E:Env}{P:Program}{ro:Option Nat}{o:Oper}
theorem slice_cells{I:Addr->Prop}{w:World}{sz n cap:Nat}{es:List D}{A:Option Addr}(h:Rep I w (.sl sz es) (.slice A n cap)) :
  ∃ cs:List Value,cs.length=n*sz∧(∀ u∈cs,u.oneCell'=true)∧(∀ ad,A=some ad->∀ j u,cs[j]?=some u->w.cell? (ad.add j)=some u∧I (ad.add j)) ∧
   (∀ (j:Nat) (c:D) (u:Value),(D.flat es)[j]?=some c->cs[j]?=some u->Rep I w c u)∧n=es.length∧(∀ e∈es,e.cells.length=sz)∧(∀ c∈D.flat es,c.one=true)∧(A=none->es=[])∧n<=cap∧cap<=9223372036854775807:=by
 obtain⟨n',A',cap',ad,vs,e,hn,hc,hm,hA,hz,h1,hI,hr⟩:=h.sl_inv
 injection e with e1 e2 e3
 subst e1;subst e2;subst e3
 have hl:=flat_len hz
 refine⟨(List.range (n*sz)).map vs,by simp,fun u hu=>?_,fun ad' he j u hj=>?_,fun j c u hj hu=>?_,hn,hz,h1,fun he=>?_,hc,hm⟩
 ·obtain⟨k,hk,rfl⟩:=List.mem_map.1 hu
  have hk':k<(D.flat es).length:=by rw [hl,<- hn];exact List.mem_range.1 hk
  have hg:=List.getElem?_eq_getElem hk'
  exact((hr k _ hg).oneCell (h1 _ (List.getElem_mem hk'))).2
 ·simp only [List.getElem?_map,Option.map_eq_some_iff] at hj
  obtain⟨k,hk,rfl⟩:=hj
  have hjl:j<n*sz:=by
   rcases Nat.lt_or_ge j (n*sz) with h' | h'
   ·exact h'
   ·rw [List.getElem?_eq_none (by simpa using h')] at hk;cases hk
  rw [List.getElem?_range hjl] at hk;injection hk with hk;subst hk
  have hk':j<(D.flat es).length:=by rw [hl,<- hn];exact hjl
  rcases hA with hA | hA
  ·rw [hA] at he;injection he with he;subst he
   exact⟨(hI j _ (List.getElem?_eq_getElem hk')).2,(hI j _ (List.getElem?_eq_getElem hk')).1⟩
  ·subst hA;simp [D.flat] at hk'
 ·simp only [List.getElem?_map,Option.map_eq_some_iff] at hu
  obtain⟨k,hk,rfl⟩:=hu
  have hjl:j<n*sz:=by
   rcases Nat.lt_or_ge j (n*sz) with h' | h'
   ·exact h'
   ·rw [List.getElem?_eq_none (by simpa using h')] at hk;cases hk
  rw [List.getElem?_range hjl] at hk;injection hk with hk;subst hk
  exact hr j c hj
 ·rcases hA with hA | hA
  ·rw [hA] at he;cases he
  ·exact hA
theorem rep_joined{I:Addr->Prop}{w:World}{sz cap:Nat}{es ys:List D}{b o:Nat}{cs ds:List Value}(hes:∀ e∈es,e.cells.length=sz) (hys:∀ e∈ys,e.cells.length=sz)
  (h1:∀ c∈D.flat es,c.one=true) (h2:∀ c∈D.flat ys,c.one=true) (hl1:cs.length=es.length*sz) (hl2:ds.length=ys.length*sz)
  (hc:∀ j u,(cs++ds)[j]?=some u->w.cell? ⟨b,o+j,none⟩=some u∧I ⟨b,o+j,none⟩)
  (r1:∀ (j:Nat) (c:D) (u:Value),(D.flat es)[j]?=some c->cs[j]?=some u->Rep I w c u) (r2:∀ (j:Nat) (c:D) (u:Value),(D.flat ys)[j]?=some c->ds[j]?=some u->Rep I w c u)
  (hcap:es.length+ys.length<=cap) (hm:cap<=9223372036854775807):Rep I w (.sl sz (es++ys)) (.slice (some ⟨b,o,none⟩) (es.length+ys.length) cap):=by
 have hfl:D.flat (es++ys)=D.flat es++D.flat ys:=by simp [D.flat]
 have hfe:=flat_len hes
 have hfy:=flat_len hys
 have hget:∀ k c,(D.flat (es++ys))[k]?=some c->∃ u,(cs++ds)[k]?=some u∧Rep I w c u:=fun k c hk=>by
  rw [hfl] at hk
  by_cases hlt:k<(D.flat es).length
  ·rw [List.getElem?_append_left hlt] at hk
   have:k<cs.length:=by omega
   exact⟨cs[k],by rw [List.getElem?_append_left this];exact List.getElem?_eq_getElem this,r1 k c _ hk (List.getElem?_eq_getElem this)⟩
  ·rw [List.getElem?_append_right (by omega)] at hk
   have hlt2:k-(D.flat es).length<(D.flat ys).length:=by
    rcases Nat.lt_or_ge (k-(D.flat es).length) (D.flat ys).length with h' | h'
    ·exact h'
    ·rw [List.getElem?_eq_none h'] at hk;cases hk
   have h3:k-cs.length<ds.length:=by omega
   refine⟨ds[k-cs.length],by rw [List.getElem?_append_right (by omega)];exact List.getElem?_eq_getElem h3,r2 (k-cs.length) c _ (by rw [hl1,<- hfe];exact hk) (List.getElem?_eq_getElem h3)⟩
 refine .sl ⟨b,o,none⟩ (fun k=>(cs++ds).getD k undef) (by simp) hcap hm (.inl rfl) (fun e he=>?_) (fun c hc'=>?_) (fun k c hk=>?_) (fun k c hk=>?_)
 ·rcases List.mem_append.1 he with h | h
  ·exact hes e h
  ·exact hys e h
 ·rw [hfl] at hc'
  rcases List.mem_append.1 hc' with h | h
  ·exact h1 c h
  ·exact h2 c h
 ·obtain⟨u,hu,_⟩:=hget k c hk
  obtain⟨q1,q2⟩:=hc k u hu
  rw [add_mk]
  exact⟨q2,by rw [q1];simp [List.getD,hu]⟩
 ·obtain⟨u,hu,hr⟩:=hget k c hk
  have:(cs++ds).getD k undef=u:=by simp [List.getD,hu]
  rw [this];exact hr
theorem run_append_zero{t ty e:TypeId}{i:TypeInfo}{w:World}{A A':Option Addr}{n cap c:Nat}(ht:P.underlying t=some (.slice e)) (hi:P.info? e=some i) (hn:n<=cap) :
  (Builtin.append_ #[t,t] ty #[.slice A n cap,.slice A' 0 c]).run P w=.ok (.slice A n cap) w:=by
 cases A <;> cases A' <;> simp [Builtin.append_,run_underlying ht,sizeOf,typeInfo,hi,Builtin.lenOf,Builtin.firstCells,hn,storeCells,loadCells,loadCellsFrom]
theorem run_append_fit{t ty e:TypeId}{i:TypeInfo}{w:World}{b off n cap m c:Nat}{a':Addr}{news:List Value}(ht:P.underlying t=some (.slice e)) (hi:P.info? e=some i) (hl:news.length=m*i.size)
  (hnews:∀ j u,news[j]?=some u->w.cell? (a'.add j)=some u) (h1:∀ u∈news,u.oneCell'=true) (hroom:n+m<=cap)
  (hc:∀ j,j<news.length->(w.cell? ⟨b,off+n*i.size+j,none⟩).isSome=true) (hf:∀ j,j<news.length->w.frozen? ⟨b,off+n*i.size+j,none⟩=false) :
  (Builtin.append_ #[t,t] ty #[.slice (some ⟨b,off,none⟩) n cap,.slice (some a') m c]).run P w=.ok (.slice (some ⟨b,off,none⟩) (n+m) cap) (w.setCells b (off+n*i.size) news):=by
 have hfc:=run_firstCells_some (P:=P) w i.size m a' m c news hl hnews
 have hst:=run_storeCells_cells (P:=P) b (off+n*i.size) news 0 w (by simpa using hc) (by simpa using hf) h1
 simp only [Nat.add_zero] at hst
 simp [Builtin.append_,run_underlying ht,sizeOf,typeInfo,hi,Builtin.lenOf,hroom,hfc,add_mk,hst]
theorem append_core{G:Gh}{h:Hp}{w:World}(H:WRel E G h w){t ty e:TypeId}{i:TypeInfo}{zv:Value}{sz bytes:Nat}(ht:P.underlying t=some (.slice e)) (hi:P.info? e=some i) (hs:i.size=sz) (hb:i.bytes=bytes)
  (hz:i.zero=some zv) (hzs:zv.cells.size=sz) (hone:zv.cells.all (·.oneCell')=true) (hs0:0<sz){A:Option Addr}{n cap:Nat}{es:List D}{u:Value}{sy:Nat}{ys:List D}
  (hx:Rep G.I w (.sl sz es) (.slice A n cap)) (hT:Tail E G w A n cap sz) (hy:Rep G.I w (.sl sy ys) u) (hsy:ys=[]∨sy=sz)
  (hd:n*sz<cap*sz->∀ r' A' n' cap' sz',h r'=some .row->G.row r'=some (A',n',cap',sz')->n'*sz'<cap'*sz'->∀ ad ad',A=some ad->A'=some ad'->ad.block≠ad'.block)
  (hbytes:(es.length+ys.length)*bytes<=140737488355328) (h63:es.length+ys.length<=9223372036854775807){q:Nat}(hq:h q=none) :
  ∃ val w' G',(Builtin.append_ #[t,t] ty #[.slice A n cap,u]).run P w=.ok val w'∧GLe G w G' w'∧WRel E G' (h.upd [(q,.row)]) w'∧RepA G' w' (.own q sz (es++ys)) val:=by
 obtain⟨cs,k1,k2,k3,k4,k5,k6,k7,k8,k9,k10⟩:=slice_cells hx
 obtain⟨m,By,cy,ady,vsy,e1,hm,hcy,hmy,_⟩:=hy.sl_inv
 subst e1
 obtain⟨ds,d1,d2,d3,d4,d5,d6,d7,d8,d9,d10⟩:=slice_cells hy
 rcases Nat.eq_zero_or_pos m with hm0 | hm0
 ·
  subst hm0
  have hy0:ys=[]:=List.eq_nil_of_length_eq_zero (by omega)
  subst hy0
  obtain⟨l1,l2⟩:=H.addRow hq hT hd
  refine⟨.slice A n cap,w,_,run_append_zero ht hi k9,l1,l2,?_⟩
  rw [List.append_nil]
  exact .own (by simp) (hx.mono l1.imm)
 ·have hyne:ys≠[]:=by rintro rfl;simp at hm;omega
  have hsyz:sy=sz:=hsy.resolve_left hyne
  subst hsyz
  obtain⟨ay,hay⟩:∃ ay,By=some ay:=by
   cases By with
   | none=>exact absurd (d8 rfl) hyne
   | some x=>exact⟨x,rfl⟩
  subst hay
  by_cases hroom:n+m<=cap
  ·
   have hlt:n*sy<cap*sy:=Nat.mul_lt_mul_of_pos_right (by omega) hs0
   obtain⟨ad,rfl,t1,t2,t3,t4,t5⟩:=hT (n*sy) (Nat.le_refl _) hlt
   obtain⟨v0,hv0⟩:=Option.isSome_iff_exists.1 t1
   have hmn:n*sy+m*sy<=cap*sy:=by rw [<- Nat.add_mul];exact Nat.mul_le_mul_right _ hroom
   have hadeta:ad=⟨ad.block,ad.off,none⟩:=by
    have e:=addr_eta hv0
    unfold Addr.add at e
    split at e
    ·exact e
    ·rename_i hne
     have hn0:0<n:=by
      rcases Nat.eq_zero_or_pos n with h0 | h0
      ·rw [h0] at hne;simp at hne
      ·exact h0
     have hc0:0<cs.length:=by rw [k1];exact Nat.mul_pos hn0 hs0
     have:=(k3 ad rfl 0 cs[0] (List.getElem?_eq_getElem hc0)).1
     have e0:ad.add 0=ad:=by simp [Addr.add]
     rw [e0] at this
     exact addr_eta this
   generalize hbk:ad.block=b at *
   generalize hof:ad.off=off at *
   subst hadeta
   have hTc:∀ j,j<ds.length->(w.cell? ⟨b,off+n*sy+j,none⟩).isSome=true∧w.frozen? ⟨b,off+n*sy+j,none⟩=false∧¬ G.I ⟨b,off+n*sy+j,none⟩:=fun j hj=>by
    obtain⟨ad',e',q1,q2,q3,_,_⟩:=hT (n*sy+j) (by omega) (by omega)
    injection e' with e';subst e'
    rw [add_mk,<- Nat.add_assoc] at q1 q2 q3
    exact⟨q1,q2,q3⟩
   have hrun:=run_append_fit (P:=P) (ty:=ty) (w:=w) (b:=b) (off:=off) (n:=n) (cap:=cap) (m:=m) (c:=cy) (a':=ay) (news:=ds) ht hi (by rw [hs,d1]) (fun j u hj=>(d3 ay rfl j u hj).1) d2 hroom (by rw [hs];exact fun j hj=>(hTc j hj).1) (by rw [hs];exact fun j hj=>(hTc j hj).2.1)
   rw [hs] at hrun
   have hmk:∀ (x:Addr),x=(⟨b,off,none⟩:Addr)->x.block=b:=fun x hx=>by rw [hx]
   obtain⟨f1,f2⟩:=H.fill (b:=b) (o:=off+n*sy) (vs:=ds) (fun k hk=>(hTc k hk).1) (fun k hk=>(hTc k hk).2.2) t4.1 t5 t4.2 (fun r A' n' cap' sz' hr' g' l' ad' e' hbb=>hd hlt r A' n' cap' sz' hr' g' l' ⟨b,off,none⟩ ad' rfl e' hbb.symm)
   have hin:∀ j u,(cs++ds)[j]?=some u->(w.setCells b (off+n*sy) ds).cell? ⟨b,off+j,none⟩=some u∧(G.I ⟨b,off+j,none⟩∨∃ k,k<ds.length∧(⟨b,off+j,none⟩:Addr)=⟨b,off+n*sy+k,none⟩):=fun j u hj=>by
    by_cases hjl:j<cs.length
    ·rw [List.getElem?_append_left hjl] at hj
     have hq':=k3 _ rfl j u hj
     rw [add_mk] at hq'
     refine⟨?_,.inl hq'.2⟩
     rw [(f1.imm _ hq'.2).2];exact hq'.1
    ·rw [List.getElem?_append_right (by omega)] at hj
     have hjd:j-cs.length<ds.length:=by
      rcases Nat.lt_or_ge (j-cs.length) ds.length with h' | h'
      ·exact h'
      ·rw [List.getElem?_eq_none h'] at hj;cases hj
     have hjj:off+j=off+n*sy+(j-cs.length):=by omega
     rw [hjj]
     refine⟨?_,.inr ⟨j-cs.length,hjd,rfl⟩⟩
     rw [World.cell?_setCells_in b ds (off+n*sy) w (fun k hk=>(hTc k hk).1) _ hjd]
     rw [List.getElem?_eq_getElem hjd] at hj;exact hj
   have hT':Tail E {G with I:=fun a=>G.I a∨(∃ k,k<ds.length∧a=⟨b,off+n*sy+k,none⟩)} (w.setCells b (off+n*sy) ds) (some ⟨b,off,none⟩) (n+m) cap sy:=fun k hk hk'=>by
    rw [Nat.add_mul] at hk
    obtain⟨ad',e',q1,q2,q3,q4,q5⟩:=hT k (by omega) hk'
    injection e' with e';subst e'
    rw [add_mk] at q1 q2 q3
    refine⟨_,rfl,?_,?_,?_,q4,q5⟩
    ·rw [add_mk,setCells_cell_out b ds _ w _ (fun _=>.inr (by simp only;omega))];exact q1
    ·rw [add_mk,World.frozen?_setCells];exact q2
    ·rw [add_mk]
     rintro(hi' | ⟨j,hj,hi'⟩)
     ·exact q3 hi'
     ·injection hi' with _ hi' _;omega
   obtain⟨l1,l2⟩:=f2.addRow hq hT' (fun hlt'=>hd hlt)
   refine⟨_,_,_,hrun,f1.trans l1,l2,?_⟩
   have hrep:=rep_joined (I:=fun a=>G.I a∨(∃ k,k<ds.length∧a=⟨b,off+n*sy+k,none⟩)) (w:=w.setCells b (off+n*sy) ds) (cap:=cap) (b:=b) (o:=off) (cs:=cs) (ds:=ds) k6 d6 k7 d7 (by rw [k1,k5]) (by rw [d1,d5]) hin
    (fun j c u hj hu=>(k4 j c u hj hu).mono f1.imm) (fun j c u hj hu=>(d4 j c u hj hu).mono f1.imm) (by omega) k10
   rw [<- k5,<- d5] at hrep
   exact .own (by simp) hrep
  ·
   have hbytes':(n+m)*i.bytes<=140737488355328:=by rw [hb,k5,d5];exact hbytes
   have hrun:∃ oldc,(Builtin.append_ #[t,t] ty #[.slice A n cap,.slice (some ay) m cy]).run P w=.ok (.slice (some ⟨w.heap.size,0,none⟩) (n+m) (grownCap w (n+m) oldc e))
     (w.drew.alloc (.cells (cs.toArray++ds.toArray++Builtin.zeroCells zv.cells (grownCap w (n+m) oldc e-(n+m))) e)):=by
    cases A with
    | none =>
     have he0:=k8 rfl
     subst he0
     have hn0:n=0:=by simpa using k5
     subst hn0
     have hcs:cs=[]:=List.eq_nil_of_length_eq_zero (by omega)
     subst hcs
     have hcap:cap=0:=by
      rcases Nat.eq_zero_or_pos cap with h0 | h0
      ·exact h0
      ·obtain⟨ad,e',_⟩:=hT 0 (by simp) (Nat.mul_pos h0 hs0);cases e'
     subst hcap
     have:=run_append_nil (P:=P) w t ty e i zv ht hi hz ay m cy ds (by rw [hs,d1]) (fun j u hj=>(d3 ay rfl j u hj).1) hm0 (by omega) (by simp at hbytes';omega)
     exact⟨0,by simpa using this⟩
    | some ad =>
     exact⟨cap,run_append_grow (P:=P) w t ty e i zv ht hi hz ad n cap cs (by rw [hs,k1]) (fun j u hj=>(k3 ad rfl j u hj).1) ay m cy ds (by rw [hs,d1]) (fun j u hj=>(d3 ay rfl j u hj).1) (by omega) (by omega) (growslice_fits (by omega) hbytes')⟩
   obtain⟨oldc,hrun⟩:=hrun
   generalize hcapv:grownCap w (n+m) oldc e=ncap at hrun
   have hge:n+m<=ncap:=by rw [<- hcapv];exact grownCap_ge w (n+m) oldc e
   have hle':ncap<=9223372036854775807:=by rw [<- hcapv];exact grownCap_le_maxLen w (n+m) oldc e (by simp only [maxLen];omega)
   generalize hzr:Builtin.zeroCells zv.cells (ncap-(n+m))=zr at hrun
   have hzl:zr.size=(ncap-(n+m))*sy:=by rw [<- hzr,size_zeroCells,hzs]
   have hg:Grow w (w.drew.alloc (.cells (cs.toArray++ds.toArray++zr) e)):=⟨rfl,rfl,rfl,by simp,fun b hb=>by first | exact heap_alloc_old w.drew _ b hb | exact heap_alloc_old w.drew _ hb⟩
   have hcell:∀ k,(w.drew.alloc (.cells (cs.toArray++ds.toArray++zr) e)).cell? ⟨w.heap.size,k,none⟩=(cs.toArray++ds.toArray++zr)[k]?:=fun k =>
    cell_of_row (w.drew.alloc (.cells (cs.toArray++ds.toArray++zr) e)) w.heap.size k _ e (0,0) (heap_alloc_new w.drew _)
   have hcl:cs.length+ds.length=(n+m)*sy:=by rw [k1,d1,Nat.add_mul]
   have hcell1:∀ k u,(cs++ds)[k]?=some u->(w.drew.alloc (.cells (cs.toArray++ds.toArray++zr) e)).cell? ⟨w.heap.size,k,none⟩=some u:=fun k u hk=>by
    have hlt:k<(cs++ds).length:=by
     rcases Nat.lt_or_ge k (cs++ds).length with h' | h'
     ·exact h'
     ·rw [List.getElem?_eq_none h'] at hk;cases hk
    rw [hcell,Array.getElem?_append_left (by simpa using hlt),<- hk]
    simp
   obtain⟨l1,l2⟩:=H.grow hg (fun a'=>G.I a'∨(a'.block=w.heap.size∧a'.spot=none∧a'.off<(n+m)*sy)) (fun _ h=>.inl h) (fun a' ha'=>by
     rcases ha' with h' | h'
     ·exact .inl h'
     ·exact .inr (by omega)) (fun a' ha'=>by
     rcases ha' with h' | ⟨h1',h2',h3'⟩
     ·rw [hg.cell (H.ilt h')];exact H.icell a' h'
     ·have ea:a'=⟨w.heap.size,a'.off,none⟩:=by cases a';simp_all
      have hlt:a'.off<(cs++ds).length:=by simp;omega
      rw [ea,hcell1 a'.off _ (List.getElem?_eq_getElem hlt)];rfl)
   have hT':Tail E {G with I:=fun a'=>G.I a'∨(a'.block=w.heap.size∧a'.spot=none∧a'.off<(n+m)*sy)} (w.drew.alloc (.cells (cs.toArray++ds.toArray++zr) e)) (some ⟨w.heap.size,0,none⟩) (n+m) ncap sy:=fun k hk hk'=>by
    refine⟨_,rfl,?_,?_,?_,⟨fun hk''=>?_,E.hN _ H.size⟩,fun m' hm'=>?_⟩
    ·rw [add_mk,Nat.zero_add,hcell]
     have hmul:(n+m)*sy<=ncap*sy:=Nat.mul_le_mul_right _ hge
     have hlt:k<(cs.toArray++ds.toArray++zr).size:=by
      simp only [Array.size_append,List.size_toArray,hzl,Nat.sub_mul]
      omega
     exact Option.isSome_iff_exists.2 ⟨_,Array.getElem?_eq_getElem hlt⟩
    ·rw [add_mk]
     have hh:=heap_alloc_new w.drew (.cells (cs.toArray++ds.toArray++zr) e)
     unfold World.frozen?
     simp only
     rw [show w.heap.size=w.drew.heap.size from rfl,hh]
     simp
    ·rw [add_mk]
     rintro(hi' | ⟨_,_,hi'⟩)
     ·have:=H.ilt hi';simp at this
     ·simp at hi';omega
    ·have h1':=(H.kept _ hk'').1;have h2':=H.size;simp only at h1';omega
    ·have:=(H.bown m' _ hm').1;simp at this
   obtain⟨r1,r2⟩:=l2.addRow hq hT' (fun _ r' A' n' cap' sz' hr' g' l' ad ad' e1 e2=>by
    injection e1 with e1;subst e1;subst e2
    obtain⟨A2,n2,cap2,sz2,g2,T2⟩:=H.row r' hr'
    have g':G.row r'=some (some ad',n',cap',sz'):=g'
    rw [g2] at g'
    injection g' with g';injection g' with x1 x2;injection x2 with x2 x3;injection x3 with x3 x4
    subst x1;subst x2;subst x3;subst x4
    obtain⟨ad3,e3,q1,_⟩:=T2 (n2*sz2) (Nat.le_refl _) l'
    injection e3 with e3;subst e3
    obtain⟨v3,hv3⟩:=Option.isSome_iff_exists.1 q1
    have:=World.block_lt_of_cell? w _ hv3
    rw [block_add] at this
    intro hh;simp at hh;omega)
   refine⟨_,_,_,hrun,l1.trans r1,r2,?_⟩
   have hrep:=rep_joined (I:=fun a'=>G.I a'∨(a'.block=w.heap.size∧a'.spot=none∧a'.off<(n+m)*sy)) (w:=w.drew.alloc (.cells (cs.toArray++ds.toArray++zr) e)) (cap:=ncap) (b:=w.heap.size) (o:=0) (cs:=cs) (ds:=ds) k6 d6 k7 d7 (by rw [k1,k5]) (by rw [d1,d5])
    (fun j u hj=>by
     rw [Nat.zero_add]
     refine⟨hcell1 j u hj,.inr ⟨rfl,rfl,?_⟩⟩
     rcases Nat.lt_or_ge j (cs++ds).length with h' | h'
     ·simp at h';simp;omega
     ·rw [List.getElem?_eq_none h'] at hj;cases hj)
    (fun j c u hj hu=>(k4 j c u hj hu).mono l1.imm) (fun j c u hj hu=>(d4 j c u hj hu).mono l1.imm) (by omega) hle'
   rw [<- k5,<- d5] at hrep
   exact .own (by simp) hrep
end
theorem run_callFunc{P:Program}{f:FuncId}(hf:Callable P f) (args:Array Value) (w:World):(callFunc f args).run P w=.ok (.enter f args) w:=by
 obtain⟨fn,h1,h2,h3⟩:=hf
 have h2':fn.name ≠ "runtime.NumGoroutine" := by simpa using h2
 have h3':fn.body≠none:=by intro e;rw [e] at h3;simp at h3
 simp [callFunc,h1,h2',h3']
theorem wpIn_call{P:Program}{ro:Option Nat}{o:Oper}{a:Act}{w:World}{K:Act->World->Prop}{Q:Exit->Act->World->Prop}{f:Operand}{args:Array Operand}{ts:Array TypeId}(ho:o.op=.call {callee:=.value f,args:=args,argTypes:=ts})
  {fid:FuncId}{x y:Array Value}(hf:a.eval f=.func (.func fid) x y) (hcl:Callable P fid){R:Ending->World->Prop}(hc:Calls P fid (x.toList++(args.toList.map a.eval++y.toList)).toArray w R)
  (h1:∀ v w',R (.returned v) w'->K (a.put o.dst v) w') (h2:∀ ch w',R (.panicked ch) w'->Q (.panic ch) a w') (h3:∀ w',¬ R .outgrown w'):o.wpIn (Fr ro) 0 P a w K Q:=by
 refine⟨fun f _=>trivial,?_⟩
 show o.uponIn (Fr ro) 0 P a K Q ((o.semAt ro a.eval).run P w)
 rw [Oper.semAt_eq ro a.eval o (by simp [ho])]
 have hrun:(execOp a.eval o).run P w=.ok (.enter fid (x.toList++(args.toList.map a.eval++y.toList)).toArray) w:=by
  have e:x++Array.map a.eval args++y=(x.toList++(args.toList.map a.eval++y.toList)).toArray:=by
   apply Array.ext';simp
  simp only [execOp,ho,resolve,hf,Deferred.ofValue,Sem.run_bind,Sem.run_pure,Result.andThen_ok,invoke]
  rw [e]
  exact run_callFunc hcl _ w
 rw [hrun]
 refine⟨fun hd=>by simp [Fr,Fence.wide] at hd,?_⟩
 refine(callsIn_wide (n:=0-1)).2 (hc.mono fun e w' hR=>?_)
 cases e with
 | returned v=>exact h1 v w' hR
 | panicked ch=>exact h2 ch w' hR
 | outgrown=>exact absurd hR (h3 w')
theorem WRel.setWhole{E:Env}{G:Gh}{h:Hp}{w w':World}(H:WRel E G h w){n b:Nat}{ag:Bool}{cs cs':List AV}(hn:h n=some (.box ag cs)) (hb:G.box n=some b){arr arr':Array Value}{ty ty':TypeId}
  (ho:w.heap[b]?=some (.cells arr ty (0,0))) (hw:w'.os=w.os∧w'.tape=w.tape∧w'.output=w.output∧w'.heap.size=w.heap.size) (hblk:∀ k,k≠b->w'.heap[k]?=w.heap[k]?) (hnew:w'.heap[b]?=some (.cells arr' ty' (0,0))) (hsz:arr'.size=arr.size)
  (hr:cs'.length<=arr'.size∧∀ (k:Nat) (c:AV) (v:Value),cs'[k]?=some c->arr'[k]?=some v->RepA G w c v) (h1:∀ c∈cs',c.one=true) :
  GLe G w G w'∧WRel E G (h.upd [(n,.box ag cs')]) w':=by
 obtain⟨b',arr0,ty0,e1,e2,e3,e4⟩:=H.box n ag cs hn
 have hbb:b'=b:=by rw [hb] at e1;injection e1 with e1;exact e1.symm
 subst hbb
 have hae:arr0=arr:=by rw [ho] at e2;injection e2 with e2;injection e2 with e2;exact e2.symm
 subst hae
 obtain⟨hlt,hK,hI',hge⟩:=H.bown n b' hb
 have hI:=hI' (by rw [hn];simp)
 have hcellne:∀ a:Addr,a.block≠b'->w'.cell? a=w.cell? a:=fun a ha=>World.cell?_of_block (hblk _ ha)
 have hfrne:∀ a:Addr,a.block≠b'->w'.frozen? a=w.frozen? a:=fun a ha=>World.frozen?_of_block (hblk _ ha)
 have hIne:∀ a,G.I a->a.block≠b':=fun a ha e=>hI a e ha
 have hle:GLe G w G w':=⟨fun a ha=>⟨ha,hcellne a (hIne a ha)⟩,fun _ _ h=>h,fun _ _ h=>h,fun _ _ _=>rfl⟩
 refine⟨hle,⟨hw.1.trans H.os,hw.2.1.trans H.tape,hw.2.2.1.trans H.output,by rw [hw.2.2.2];exact H.size,fun k hk=>?_,fun a ha=>?_,H.inew,fun a ha=>?_,fun m hm=>?_,fun m ag' cs2 hm=>?_,fun m b hb'=>?_,H.binjU hn (fun q=>by cases q) _,fun r hr=>?_,fun r r' A k cap sz A' k' cap' sz' hr1 hr2=>?_,fun m s hm=>(by
  simp only [Hp.upd] at hm
  split at hm
  ·injection hm with hm;cases hm
  ·rename_i hne
   obtain⟨b2,f1,f2⟩:=H.obj m s hm
   exact⟨b2,f1,(hblk b2 (fun e=>hne (H.binj1 (e ▸ f1) hb hm (fun q=>by cases q) hn (fun q=>by cases q)))).trans f2⟩),fun m es hm=>(by
  simp only [Hp.upd] at hm
  split at hm
  ·injection hm with hm;cases hm
  ·rename_i hne
   obtain⟨b2,arr2,ck,f1,f2,f3⟩:=H.mapo m es hm
   exact⟨b2,arr2,ck,f1,(hblk b2 (fun e=>hne (H.binj1 (e ▸ f1) hb hm (fun q=>by cases q) hn (fun q=>by cases q)))).trans f2,f3.mono hle⟩),H.gb.trans hle,H.gB⟩⟩
 ·obtain⟨h1',h2'⟩:=H.kept k hk
  exact⟨h1',(hblk k (fun e=>hK (e ▸ hk))).trans h2'⟩
 ·obtain⟨h1',h2'⟩:=H.i0 a ha
  exact⟨h1',(hcellne a (hIne a h1')).trans h2'⟩
 ·rw [hcellne a (hIne a ha)];exact H.icell a ha
 ·simp only [Hp.upd] at hm
  split at hm
  ·cases hm
  ·exact H.fresh m hm
 ·simp only [Hp.upd] at hm
  split at hm
  ·rename_i e
   injection hm with hm;injection hm with _ hm;subst hm;subst e
   exact⟨b',arr',ty',hb,hnew,⟨hr.1,fun k c v hk hv=>(hr.2 k c v hk hv).mono hle⟩,h1,by rw [hsz];exact e4.2⟩
  ·rename_i hne
   obtain⟨b2,arr',ty',f1,f2,f3,f4⟩:=H.box m ag' cs2 hm
   exact⟨b2,arr',ty',f1,(hblk b2 (fun e=>hne (H.binj1 (e ▸ f1) hb hm (fun q=>by cases q) hn (fun q=>by cases q)))).trans f2,f3.mono hle,f4⟩
 ·obtain⟨f1,f2,f3,f4⟩:=H.bown m b hb'
  refine⟨by rw [hw.2.2.2];exact f1,f2,fun hd=>f3 (fun he=>?_),f4⟩
  by_cases e:m=n
  ·subst e;rw [hn] at he;cases he
  ·exact hd (by simp [Hp.upd,e,he])
 ·simp only [Hp.upd] at hr
  split at hr
  ·injection hr with hr;cases hr
  ·obtain⟨A,k,cap,sz,f1,f2⟩:=H.row r hr
   refine⟨A,k,cap,sz,f1,fun j hj hj'=>?_⟩
   obtain⟨ad,e,c1,c2,c3,c4,c5⟩:=f2 j hj hj'
   have hne:(ad.add j).block≠b':=by rw [block_add];exact fun e=>c5 n (e ▸ hb)
   exact⟨ad,e,by rw [hcellne _ hne];exact c1,by rw [hfrne _ hne];exact c2,c3,c4,c5⟩
 ·simp only [Hp.upd] at hr1 hr2
  split at hr1
  ·injection hr1 with hr1;cases hr1
  ·split at hr2
   ·injection hr2 with hr2;cases hr2
   ·exact H.rinj r r' A k cap sz A' k' cap' sz' hr1 hr2
theorem flat_take'{sz:Nat}:∀ (es:List D) (i:Nat),(∀ e∈es,e.cells.length=sz)->D.flat (es.take i)=(D.flat es).take (i*sz)∧D.flat (es.drop i)=(D.flat es).drop (i*sz)
 | [],i,_=>by simp [D.flat]
 | e::es,0,_=>by simp [D.flat]
 | e::es,i+1,h=>by
  obtain⟨h1,h2⟩:=flat_take' es i (fun x hx=>h x (by simp [hx]))
  have he:=h e (by simp)
  simp only [D.flat,List.take_succ_cons,List.drop_succ_cons,List.flatMap_cons] at h1 h2 ⊢
  have e1:(i+1)*sz=e.cells.length+i*sz:=by rw [he,Nat.add_mul,Nat.one_mul,Nat.add_comm]
  rw [h1,h2,e1,List.take_length_add_append,List.drop_length_add_append]
  exact⟨rfl,rfl⟩
end

end Go.Proofs.YtmmlicjkdeankaaGreatDoor.AL
