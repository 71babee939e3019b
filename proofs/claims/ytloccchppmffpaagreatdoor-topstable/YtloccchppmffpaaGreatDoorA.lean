/- Part of the proof. -/
import Derived.RangeFuncOwn
import Derived.OrdersIn
import Derived.Laws.AppendOwn
import Derived.Laws.IdiomCopy
import Derived.Deep.MidRow
import Derived.Lib.DecodeNEq
import Derived.MapKept
import Derived.Laws.BytesArg
import Derived.Lib.SlicesCompact
import Derived.Laws.Tables
import Derived.Great.BuildSlice
import Derived.DeepKeys
import Derived.Laws.StructEq
import Derived.DeepKeys3
import Derived.WideKeyMaps
import Derived.Great.FillDense
set_option linter.unnecessarySimpa false
set_option linter.unusedVariables false
set_option linter.unusedSimpArgs false
set_option linter.defProp false
set_option maxRecDepth 20000
set_option maxHeartbeats 8000000
namespace Go.Proofs.YtloccchppmffpaaGreatDoor.AL
open Go
def ab:=@if_neg
def aj:=@if_pos
def aI:=@List.getElem?_eq_getElem
def aL:=@Option.some.injEq
def aS:=@List.mem_map
def bb:=@Array.getElem?_eq_getElem
def bj:=@Nat.le_refl
def bo:=@List.map_cons
def bp:=@Nat.zero_le
def bB:=@Nat.lt_or_ge
def bC:=@Nat.zero_add
def bG:=@List.getElem?_map
def bN:=@List.length_cons
def bZ:=@Option.map_eq_some_iff
def b_:=@List.mem_cons
def cb:=@List.getElem?_eq_none
def cN:=@List.getElem_mem
def cV:=@List.mem_append
def c':=@Go.Sem.run_bind
def da:=@List.length_append
def db:=@List.length_map
def dg:=@beq_iff_eq
def dh:=@List.mem_of_getElem?
def di:=@List.mem_range
def dm:=@Go.run_underlying
def dt:=@Go.Result.andThen_ok
def dA:=@List.map_map
def dV:=@Go.Sem.run_pure
def d_:=@Go.World.block_lt_of_cell?
def ee:=@Prod.mk.injEq
def eh:=@List.getElem?_take
def eA:=@if_true
def eI:=@Option.isSome_iff_exists
def eJ:=@List.getElem?_append_right
def eM:=@if_false
def eN:=@List.append_nil
def eX:=@Nat.le_trans
def eY:=@List.getElem?_append_left
def fx:=@Nat.lt_of_lt_of_le
def fD:=@List.getElem?_drop
def fF:=@List.drop_eq_getElem_cons
def gh:=@Nat.add_mul
def hq:=@Bool.false_eq_true
def hs:=@List.getElem?_of_mem
def ht:=@Int.eq_ofNat_of_zero_le
def hV:=@List.eq_nil_of_length_eq_zero
def hW:=@Go.cell_of_row
def hX:=@List.mem_append_left
def ir:=@List.mem_of_mem_take
def iK:=@Go.heap_alloc_new
def iL:=@List.mem_of_mem_drop
def jj:=@List.length_drop
def jk:=@List.mem_append_right
def kl:=@Nat.add_zero
def ll:=@List.flatMap_cons
def ln:=@Nat.mul_le_mul_right
def lT:=@Array.getElem?_eq_some_iff
def lU:=@Option.map_some
def mM:=@List.size_toArray
def mP:=@List.take_append_drop
def n_:=@Nat.eq_zero_or_pos
def pz:=@Go.heap_alloc_old
def pA:=@Go.size_zeroCells
def pC:=@Array.getElem?_append_left
def qV:=@List.getElem?_toArray
def qW:=@Nat.mod_lt
def qX:=@Nat.mul_comm
def sU:=@Go.World.cell?_of_block
def sV:=@List.getElem?_range
def sW:=@Array.size_append
def uV:=@List.mem_or_eq_of_mem_set
def uW:=@List.take_succ_cons
def uX:=@List.mem_flatMap
def uY:=@Nat.div_lt_iff_lt_mul
def uZ:=@Nat.div_add_mod
def u_:=@Go.grownCap_ge
def u':=@Go.grownCap_le_maxLen
def va:=@Array.ext'
def xy:=@List.cons.injEq
def xz:=@Go.World.frozen?_of_block
def xA:=@Array.getElem?_modify
def xB:=@List.getElem?_set
def Ax:=@List.mem_of_find?_eq_some
def Ay:=@Nat.add_assoc
def Az:=@Go.Oper.semAt_eq
def AA:=@Array.length_toList
def AB:=@Int.le_trans
def AD:=@Array.eq_empty_of_size_eq_zero
def AG:=@Nat.mul_pos
def AH:=@Go.run_append_grow
def AI:=@Go.growslice_fits
def GX:=@Nat.one_mul
def GY:=@List.length_set
def GZ:=@List.getElem?_cons_succ
def G_:=@Array.toList_map
def Ha:=@Go.World.cell?_setCells_in
def Hb:=@Option.map_none
def Pl:=@List.find?_some
def Pm:=@Int.tmod_nonneg
def Pn:=@List.take_zero
def Po:=@Go.World.frozen?_setCells
def Pp:=@Go.Great.fill_whole
def Pq:=@Array.size_map
def Pr:=@Array.size_range
def Ps:=@List.zipIdx_map
def ahN:=@Nat.le_mul_of_pos_right
def ahO:=@Nat.mul_lt_mul_of_pos_right
section
inductive D where
 | lit (v:Value)
 | nil (sz:Nat)
 | sl (sz:Nat) (es:List D)
 | agg (cs:List D)
 | af (ds:List D)
 | ip (x:D)
 | fn (f:Fn) (first az:List D)
 | cQ (t:TypeId) (d:D)
 | any
 deriving Inhabited
def D.cells:D->List D
 | .agg a=>a
 | d=>[d]
def D.one:D->Bool
 | .agg _ | .af _=>false
 | _=>true
def D.flat(a:List D):List D:=a.flatMap D.cells
def Sc:Value->Prop
 | .int k n=>k.min<=n/\n<=k.max
 | .bool _=>True
 | .string s=>s.size<=9223372036854775807
 | .pointer none | .nilFunc | .nilIface | .map none=>True
 | _=>False
inductive au (I:Addr->Prop) (w:World):D->Value->Prop
 | lit {v:Value}(h:Sc v):au I w (.lit v) v
 | nil {sz:Nat}:au I w (.nil sz) (.slice none 0 0)
 | sl {sz:Nat}{es:List D}{n:Nat}{A:Option Addr}{cap:Nat}(ad:Addr) (vs:Nat->Value) (hn:n=es.length) (hc:n<=cap) (hm:cap<=9223372036854775807)
   (hA:A=some ad\/es=[]) (hz:∀ e∈es,e.cells.length=sz) (h1:∀ c∈D.flat es,c.one=true)
   (hI:∀ k c,(D.flat es)[k]?=some c->I (ad.add k)/\w.cell? (ad.add k)=some (vs k))
   (hr:∀ k c,(D.flat es)[k]?=some c->au I w c (vs k)):au I w (.sl sz es) (.slice A n cap)
 | agg {cs:List D}{vs:Array Value}(hl:vs.size=cs.length) (h1:∀ c∈cs,c.one=true)
   (hr:∀ (k:Nat) (c:D) (v:Value),cs[k]?=some c->vs[k]?=some v->au I w c v):au I w (.agg cs) (.agg vs)
 | af {cs:List D}{vs:Array Value}(hl:vs.size=cs.length)
   (hr:∀ (k:Nat) (c:D) (v:Value),cs[k]?=some c->vs[k]?=some v->au I w c v):au I w (.af cs) (.tuple vs)
 | ip {x:D}(ad:Addr) (vs:Nat->Value) (h1:∀ c∈x.cells,c.one=true)
   (hI:∀ k c,x.cells[k]?=some c->I (ad.add k)/\w.cell? (ad.add k)=some (vs k))
   (hr:∀ (k:Nat) (c:D),x.cells[k]?=some c->au I w c (vs k)):au I w (.ip x) (.pointer (some ad))
 | fn {f:Fn}{first az:List D}{a b:Array Value}(hl:a.size=first.length) (hl':b.size=az.length)
   (hr:∀ (k:Nat) (c:D) (v:Value),first[k]?=some c->a[k]?=some v->au I w c v)
   (hr':∀ (k:Nat) (c:D) (v:Value),az[k]?=some c->b[k]?=some v->au I w c v):au I w (.fn f first az) (.func f a b)
 | cQ {t:TypeId}{d:D}{v:Value}(hr:au I w d v):au I w (.cQ t d) (.iface t v)
 | any {v:Value}(h:v.cells=#[v]/\v.oneCell'=true):au I w .any v
theorem au.mono{I o:Addr->Prop}{w p:World}{d:D}{v:Value}(h:au I w d v)(l:∀ a,I a->o a/\p.cell? a=w.cell? a):au o p d v:=by
 induction h with
 | lit h=>exact .lit h
 | nil=>exact .nil
 | sl m n q r s t u g e i b=>exact .sl m n q r s t u g (fun k c f=>⟨(l _ (e k c f).1).1,(l _ (e k c f).1).2.trans (e k c f).2⟩) b
 | agg j g i b=>exact .agg j g b
 | af j i b=>exact .af j b
 | ip m n g e i b=>exact .ip m n g (fun k c f=>⟨(l _ (e k c f).1).1,(l _ (e k c f).1).2.trans (e k c f).2⟩) b
 | fn j x i z b y=>exact .fn j x b y
 | cQ i b=>exact .cQ b
 | any h=>exact .any h
def gX(I:Addr->Prop)(w:World)(a:List D)(b:Array Value):Prop :=
 b.size=a.length/\∀ (k:Nat) (c:D) (v:Value),a[k]?=some c->b[k]?=some v->au I w c v
theorem gX.mono{I b:Addr->Prop}{w d:World}{e:List D}{f:Array Value}(h:gX I w e f)(g:∀ a,I a->b a/\d.cell? a=w.cell? a):gX b d e f :=
 ⟨h.1,fun k c v i j=>(h.2 k c v i j).mono g⟩
theorem au.pJ{I:Addr->Prop}{w:World}{d:D}{v:Value}(h:au I w d v)(a:d.one=true):v.cells=#[v]/\v.oneCell'=true:=by
 cases h <;> simp [D.one] at a <;> try exact⟨rfl,rfl⟩
 ·rename_i b;cases v <;> simp [Sc] at b <;> exact⟨rfl,rfl⟩
 ·assumption
theorem au.cells{I:Addr->Prop}{w:World}{d:D}{v:Value}(h:au I w d v)(g:∀ i,d≠.af i):gX I w d.cells v.cells/\∀ c∈d.cells,c.one=true:=by
 cases b:d.one with
 | true =>
  have j:=(h.pJ b).1;have l:d.cells=[d]:=by cases d <;> first | rfl | simp [D.one] at b
  rw [j,l];refine⟨⟨rfl,fun k c u a e=>?_⟩,fun c f=>by simp at f;rw [f];exact b⟩;cases k with
  | zero=>simp at a e;subst a;subst e;exact h
  | succ k=>simp at a
 | false =>
  cases h <;> simp [D.one] at b
  ·rename_i o p m a n;exact⟨⟨m,n⟩,a⟩
  ·exact absurd rfl (g _)
inductive AV where
 | d (x:D)
 | own (r sz:Nat) (es:List D)
 | agg (cs:List AV)
 | af (vs:List AV)
 | ptr (n o:Nat)
 | aE (n o sz len cap:Nat)
 | fn (f:Fn) (first az:List AV)
 | mp (n:Nat)
 | spare (r sz n:Nat)
 | e0 (sz:Nat)
 deriving Inhabited
def AV.cells:AV->List AV
 | .d x=>x.cells.map .d
 | .agg a=>a
 | v=>[v]
def AV.one:AV->Bool
 | .d x=>x.one
 | .agg _ | .af _=>false
 | _=>true
inductive HO where
 | box (ag:Bool) (cs:List AV)
 | row
 | obj (s:Nat)
 | aA (es:List (Value×AV))
 | dead
 deriving Inhabited
abbrev Hp:=Nat->Option HO
def Hp.ar(h:Hp):List (Nat×HO)->Hp
 | []=>h
 | (n,o)::r=>fun m=>if m=n then some o else Hp.ar h r m
theorem Hp.hx{h:Hp}{n m:Nat}{o:HO}(e:¬ m=n):(h.ar [(n,o)]) m=h m:=by simp [Hp.ar,e]
structure Gh where
 I:Addr->Prop
 box:Nat->Option Nat
 row:Nat->Option (Option Addr×Nat×Nat×Nat)
 rc:Nat->Loop:=fun _=>default
inductive aC (G:Gh) (w:World):AV->Value->Prop
 | d {x:D}{v:Value}(h:au G.I w x v):aC G w (.d x) v
 | own {r sz:Nat}{es:List D}{A:Option Addr}{n cap:Nat}(hg:G.row r=some (A,n,cap,sz)) (h:au G.I w (.sl sz es) (.slice A n cap)):aC G w (.own r sz es) (.slice A n cap)
 | agg {cs:List AV}{vs:Array Value}(hl:vs.size=cs.length) (h1:∀ c∈cs,c.one=true)
   (hr:∀ (k:Nat) (c:AV) (v:Value),cs[k]?=some c->vs[k]?=some v->aC G w c v):aC G w (.agg cs) (.agg vs)
 | af {cs:List AV}{vs:Array Value}(hl:vs.size=cs.length)
   (hr:∀ (k:Nat) (c:AV) (v:Value),cs[k]?=some c->vs[k]?=some v->aC G w c v):aC G w (.af cs) (.tuple vs)
 | ptr {n o b:Nat}(hg:G.box n=some b):aC G w (.ptr n o) (.pointer (some ⟨b,o,none⟩))
 | aE {n o z l c c' b:Nat}(hg:G.box n=some b) (hlc:l<=c) (hcc:c<=c') (hcm:c'<=9223372036854775807) (hrm:c'=c\/o+c'*z<=(G.rc n).defers):aC G w (.aE n o z l c) (.slice (some ⟨b,o,none⟩) l c')
 | fn {f:Fn}{first az:List AV}{a b:Array Value}(hl:a.size=first.length) (hl':b.size=az.length)
   (hr:∀ (k:Nat) (c:AV) (v:Value),first[k]?=some c->a[k]?=some v->aC G w c v)
   (hr':∀ (k:Nat) (c:AV) (v:Value),az[k]?=some c->b[k]?=some v->aC G w c v):aC G w (.fn f first az) (.func f a b)
 | mp {n b:Nat}(hg:G.box n=some b):aC G w (.mp n) (.map (some b))
 | e0 {sz:Nat}{A:Option Addr}:aC G w (.e0 sz) (.slice A 0 0)
 | spare {r sz n cap:Nat}{A:Option Addr}(hg:G.row r=some (A,0,cap,sz)) (h1:n<=cap) (h2:cap<=9223372036854775807):aC G w (.spare r sz n) (.slice A n cap)
structure aW (G:Gh) (w:World) (G':Gh) (w':World):Prop where
 ef:∀ a,G.I a->G'.I a/\w'.cell? a=w.cell? a
 box:∀ n b,G.box n=some b->G'.box n=some b
 row:∀ n r,G.row n=some r->G'.row n=some r
 rc:∀ n b,G.box n=some b->G'.rc n=G.rc n
theorem aW.refl(G:Gh)(w:World):aW G w G w:=⟨fun _ h=>⟨h,rfl⟩,fun _ _ h=>h,fun _ _ h=>h,fun _ _ _=>rfl⟩
theorem aW.trans{G e f:Gh}{w g i:World}(h:aW G w e g)(k:aW e g f i):aW G w f i :=
 ⟨fun a d=>⟨(k.ef a (h.ef a d).1).1,(k.ef a (h.ef a d).1).2.trans (h.ef a d).2⟩,fun n b c=>k.box n b (h.box n b c),fun n r j=>k.row n r (h.row n r j),fun n b c=>(k.rc n b (h.box n b c)).trans (h.rc n b c)⟩
theorem aC.mono{G i:Gh}{w j:World}{x:AV}{v:Value}(h:aC G w x v)(b:aW G w i j):aC i j x v:=by
 induction h with
 | d h=>exact .d (h.mono b.ef)
 | own a h=>exact .own (b.row _ _ a) (h.mono b.ef)
 | agg c e k f=>exact .agg c e f
 | af c k f=>exact .af c f
 | ptr a=>exact .ptr (b.box _ _ a)
 | aE a e g l m=>exact .aE (b.box _ _ a) e g l (by rw [b.rc _ _ a];exact m)
 | e0=>exact .e0
 | fn c n k p f o=>exact .fn c n f o
 | mp a=>exact .mp (b.box _ _ a)
 | spare a e g=>exact .spare (b.row _ _ a) e g
theorem aC.pJ{G:Gh}{w:World}{x:AV}{v:Value}(h:aC G w x v)(a:x.one=true):v.cells=#[v]/\v.oneCell'=true:=by
 cases h <;> simp [AV.one] at a <;> try exact⟨rfl,rfl⟩
 rename_i h;exact h.pJ a
def gi(G:Gh)(w:World)(a:List AV)(b:Array Value):Prop :=
 b.size=a.length/\∀ (k:Nat) (c:AV) (v:Value),a[k]?=some c->b[k]?=some v->aC G w c v
theorem gi.mono{G a:Gh}{w b:World}{d:List AV}{e:Array Value}(h:gi G w d e)(f:aW G w a b):gi a b d e :=
 ⟨h.1,fun k c v g i=>(h.2 k c v g i).mono f⟩
def og(G:Gh)(w:World)(a:List AV)(b:Array Value):Prop :=
 a.length<=b.size/\∀ (k:Nat) (c:AV) (v:Value),a[k]?=some c->b[k]?=some v->aC G w c v
theorem gi.p{G:Gh}{w:World}{a:List AV}{b:Array Value}(h:gi G w a b):og G w a b:=⟨Nat.le_of_eq h.1.symm,h.2⟩
theorem og.mono{G a:Gh}{w b:World}{d:List AV}{e:Array Value}(h:og G w d e)(f:aW G w a b):og a b d e :=
 ⟨h.1,fun k c v g i=>(h.2 k c v g i).mono f⟩
def AV.cg:AV->Bool
 | .d (.af _) | .af _=>false
 | _=>true
theorem aC.cells{G:Gh}{w:World}{x:AV}{v:Value}(h:aC G w x v)(n:x.cg=true):gi G w x.cells v.cells/\∀ c∈x.cells,c.one=true:=by
 cases h with
 | d h =>
  rename_i y;have b:=h.cells (fun t e=>by subst e;simp [AV.cg] at n);refine⟨⟨by simp [AV.cells,b.1.1],fun k c v a f=>?_⟩,fun c o=>?_⟩
  ·simp only [AV.cells,bG,bZ] at a;obtain⟨e,l,rfl⟩:=a;exact .d (b.1.2 k e v l f)
  ·simp only [AV.cells,aS] at o;obtain⟨e,l,rfl⟩:=o;exact b.2 e l
 | agg i a j=>exact⟨⟨i,j⟩,a⟩
 | af i j=>simp [AV.cg] at n
 | own g h=>exact⟨⟨rfl,fun k c v a f=>by cases k <;> simp [AV.cells,Value.cells] at a f;subst a;subst f;exact .own g h⟩,fun c b=>by simp [AV.cells] at b;subst b;rfl⟩
 | ptr g=>exact⟨⟨rfl,fun k c v a f=>by cases k <;> simp [AV.cells,Value.cells] at a f;subst a;subst f;exact .ptr g⟩,fun c b=>by simp [AV.cells] at b;subst b;rfl⟩
 | aE g q1 m p q=>exact⟨⟨rfl,fun k c v a f=>by cases k <;> simp [AV.cells,Value.cells] at a f;subst a;subst f;exact .aE g q1 m p q⟩,fun c b=>by simp [AV.cells] at b;subst b;rfl⟩
 | fn i r j s=>exact⟨⟨rfl,fun k c v a f=>by cases k <;> simp [AV.cells,Value.cells] at a f;subst a;subst f;exact .fn i r j s⟩,fun c b=>by simp [AV.cells] at b;subst b;rfl⟩
 | mp g=>exact⟨⟨rfl,fun k c v a f=>by cases k <;> simp [AV.cells,Value.cells] at a f;subst a;subst f;exact .mp g⟩,fun c b=>by simp [AV.cells] at b;subst b;rfl⟩
 | e0=>exact⟨⟨rfl,fun k c v a f=>by cases k <;> simp [AV.cells,Value.cells] at a f;subst a;subst f;exact .e0⟩,fun c b=>by simp [AV.cells] at b;subst b;rfl⟩
 | spare g q1 m=>exact⟨⟨rfl,fun k c v a f=>by cases k <;> simp [AV.cells,Value.cells] at a f;subst a;subst f;exact .spare g q1 m⟩,fun c b=>by simp [AV.cells] at b;subst b;rfl⟩
def rb(G:Gh)(w:World)(a:List (Value×AV))(b:Array MapEntry):Prop :=
 b.size=a.length/\∀ (k:Nat) (e:Value×AV) (x:MapEntry),a[k]?=some e->b[k]?=some x->x.key=e.1/\aC G w e.2 x.val
theorem rb.mono{G a:Gh}{w b:World}{c:List (Value×AV)}{d:Array MapEntry}(h:rb G w c d)(i:aW G w a b):rb a b c d :=
 ⟨h.1,fun k e x f g=>⟨(h.2 k e x f g).1,(h.2 k e x f g).2.mono i⟩⟩
def eB:List (Value×AV)->Bool
 | (.tuple _,_)::_=>true
 | _=>false
theorem vq:∀ {a b:List (Value×AV)},a.map (·.1)=b.map (·.1)->eB a=eB b
 | [],[],_=>rfl
 | [],_::_,h=>by simp at h
 | _::_,[],h=>by simp at h
 | (k,v)::a,(c,d)::b,h=>by simp only [bo,xy] at h;obtain⟨rfl,_⟩:=h;cases k <;> rfl
@[simp] theorem ahV:eB []=false:=rfl
@[simp] theorem ahW{k:IntKind}{n:Int}{v:AV}{r:List (Value×AV)}:eB ((.int k n,v)::r)=false:=rfl
@[simp] theorem ahX{s:ByteArray}{v:AV}{r:List (Value×AV)}:eB ((.string s,v)::r)=false:=rfl
def fS(G:Gh)(w:World)(a:List (Value×AV))(b:Array MapEntry)(ck:Nat):Prop :=
 MapKept.Stamped b ck/\if eB a=true then ∀ v,v∈a.tail.map (·.1)↔∃ x∈b.toList,x.key=v else rb G w a b
theorem fS.mono{G c:Gh}{w d:World}{b:List (Value×AV)}{e:Array MapEntry}{ck:Nat}(h:fS G w b e ck)(g:aW G w c d):fS c d b e ck:=by
 refine⟨h.1,?_⟩;have a:=h.2;by_cases f:eB b=true
 ·rw [aj f] at a |-;exact a
 ·rw [ab f] at a |-;exact a.mono g
theorem fS.pos{G:Gh}{w:World}{a:List (Value×AV)}{b:Array MapEntry}{ck:Nat}(h:fS G w a b ck)(d:eB a=false):rb G w a b:=by have c:=h.2;rw [ab (by rw [d];simp)] at c;exact c
theorem fS.pK{G:Gh}{w:World}{a:List (Value×AV)}{b:Array MapEntry}{ck:Nat}(c:MapKept.Stamped b ck)(h:rb G w a b)(d:eB a=false):fS G w a b ck:=⟨c,by rw [ab (by rw [d];simp)];exact h⟩
def ti:List (Nat×D):=[(0,.agg ((List.range 256).map fun c=>.lit (.int .u8 (Lib.firstT c)))),(1,.agg ((List.range 16).flatMap fun i=>[.lit (.int .u8 (Lib.accLo i)),.lit (.int .u8 (Lib.accHi i))])),(3,.agg ((List.range 256).map fun c=>.lit (.int .u8 (if 9<=c/\c<=13\/c=32 then 1 else 0))))]
def AX(g:Nat):Option D:=(ti.find? fun p=>p.1 == g).map (·.2)
def jH(I:Addr->Prop)(w:World):Prop:=∀ p∈ti,au I w (.ip p.2) (.pointer (some ⟨p.1,0,none⟩))
theorem jH.mono{I b:Addr->Prop}{w c:World}(h:jH I w)(d:∀ a,I a->b a/\c.cell? a=w.cell? a):jH b c:=fun p e=>(h p e).mono d
theorem jH.get{I:Addr->Prop}{w:World}(h:jH I w){g:Nat}{d:D}(a:AX g=some d):au I w (.ip d) (.pointer (some ⟨g,0,none⟩)):=by unfold AX at a;simp only [bZ] at a;obtain⟨p,b,rfl⟩:=a;have e:=Ax b;have c:=Pl b;simp only [dg] at c;rw [<- c];exact h p e
structure Env where
 w0:World
 I0:Addr->Prop
 K:Nat->Prop
 B:Nat:=0
 Gb:Gh
 wb:World
 gl:jH I0 w0
 N:Nat->Prop:=fun b=>w0.heap.size<=b
 hN:∀ b,w0.heap.size<=b->N b:=by exact fun _ h=>h
def jI(r:Loop):Nat->Obj
 | 0=>.deferred (some [])
 | 1=>.loop {r with state:=.ready,pending:=none}
 | 2=>.loop {r with state:=.busy,pending:=none}
 | 3=>.loop {r with state:=.done,pending:=some .ret}
 | s+4=>.loop {r with state:=.done,pending:=some (.exit s)}
def lq(E:Env)(G:Gh)(w:World)(A:Option Addr)(n c b:Nat):Prop :=
 ∀ k,n*b<=k->k<c*b->∃ a,A=some a/\(w.cell? (a.add k)).isSome=true/\w.frozen? (a.add k)=false/\¬ G.I (a.add k)/\(¬ E.K a.block/\E.N a.block)/\(∀ m,G.box m≠some a.block)
structure aD (E:Env) (G:Gh) (h:Hp) (w:World):Prop where
 os:w.os=E.w0.os
 tape:w.tape=E.w0.tape
 output:w.output=E.w0.output
 size:E.w0.heap.size<=w.heap.size
 kept:∀ b,E.K b->b<E.w0.heap.size/\w.heap[b]?=E.w0.heap[b]?
 i0:∀ a,E.I0 a->G.I a/\w.cell? a=E.w0.cell? a
 eo:∀ a,G.I a->E.I0 a\/E.N a.block
 cu:∀ a,G.I a->(w.cell? a).isSome=true
 fresh:∀ n,h n=none->G.box n=none/\G.row n=none
 box:∀ n ag cs,h n=some (.box ag cs)->∃ b arr ty,G.box n=some b/\w.heap[b]?=some (.cells arr ty (0,0))/\og G w cs arr/\(∀ c∈cs,c.one=true)/\(G.rc n).defers<=arr.size
 bJ:∀ n b,G.box n=some b->b<w.heap.size/\¬ E.K b/\(h n≠some .dead->∀ a,a.block=b->¬ G.I a)/\E.N b
 eC:∀ n m b,G.box n=some b->G.box m=some b->h n≠some .dead->h m≠some .dead->n=m
 row:∀ r,h r=some .row->∃ A n cap sz,G.row r=some (A,n,cap,sz)/\lq E G w A n cap sz
 eZ:∀ r r' A n cap sz A' n' cap' sz',h r=some .row->h r'=some .row->G.row r=some (A,n,cap,sz)->G.row r'=some (A',n',cap',sz') ->n*sz<cap*sz->n'*sz'<cap'*sz'->∀ ad ad',A=some ad->A'=some ad'->ad.block=ad'.block->r=r'
 obj:∀ n s,h n=some (.obj s)->∃ b,G.box n=some b/\w.heap[b]?=some (jI (G.rc n) s)
 aA:∀ n es,h n=some (.aA es)->∃ b arr ck,G.box n=some b/\w.heap[b]?=some (.map arr ck)/\fS G w es arr ck
 gb:aW E.Gb E.wb G w
 gB:(∀ n b,E.Gb.box n=some b->n<E.B)/\∀ n r,E.Gb.row n=some r->n<E.B
theorem aD.tj{E:Env}{G:Gh}{h:Hp}{w:World}(H:aD E G h w){m n b:Nat}{x y:HO}(a:G.box m=some b)(c:G.box n=some b)(d:h m=some x)(e:x≠.dead)(f:h n=some y)(g:y≠.dead):m=n :=
 H.eC m n b a c (fun q=>e (by rw [d] at q;injection q)) (fun q=>g (by rw [f] at q;injection q))
theorem aD.AY{E:Env}{G:Gh}{h:Hp}{w:World}(H:aD E G h w){n:Nat}(c:h n≠some .dead)(y:HO):∀ k m b,G.box k=some b->G.box m=some b->(h.ar [(n,y)]) k≠some .dead->(h.ar [(n,y)]) m≠some .dead->k=m:=by
 have a:∀ k,(h.ar [(n,y)]) k≠some .dead->h k≠some .dead:=fun k q=>by
  by_cases e:k=n
  ·subst e;exact c
  ·rw [Hp.hx e] at q;exact q
 exact fun k m b d f q1 g=>H.eC k m b d f (a k q1) (a m g)
theorem aD.vr{E:Env}{G:Gh}{h:Hp}{w:World}(H:aD E G h w){n:Nat}{x:HO}(a:h n=some x)(c:x≠.dead)(y:HO):∀ k m b,G.box k=some b->G.box m=some b->(h.ar [(n,y)]) k≠some .dead->(h.ar [(n,y)]) m≠some .dead->k=m :=
 H.AY (fun q=>c (by rw [a] at q;injection q)) y
theorem aD.e_{E:Env}{G:Gh}{h:Hp}{w:World}(H:aD E G h w){a:Addr}(b:G.I a):a.block<w.heap.size:=by obtain⟨v,c⟩:=eI.1 (H.cu a b);exact d_ w a c
theorem aD.gl{E:Env}{G:Gh}{h:Hp}{w:World}(H:aD E G h w):jH G.I w:=E.gl.mono H.i0
structure ct (w w':World):Prop where
 os:w'.os=w.os
 tape:w'.tape=w.tape
 output:w'.output=w.output
 size:w.heap.size<=w'.heap.size
 block:∀ b,b<w.heap.size->w'.heap[b]?=w.heap[b]?
theorem ct.refl(w:World):ct w w:=⟨rfl,rfl,rfl,bj _,fun _ _=>rfl⟩
theorem ct.alloc(w:World)(o:Obj):ct w (w.alloc o):=⟨rfl,rfl,rfl,by simp,fun b a=>by first | exact pz w o b a | exact pz w o a⟩
theorem ct.drew{w a:World}(h:ct w a):ct w a.drew:=⟨h.os,h.tape,h.output,h.size,h.block⟩
theorem ct.cell{w b:World}(g:ct w b){a:Addr}(c:a.block<w.heap.size):b.cell? a=w.cell? a:=sU (g.block _ c)
theorem ct.frozen{w b:World}(g:ct w b){a:Addr}(c:a.block<w.heap.size):b.frozen? a=w.frozen? a:=xz (g.block _ c)
theorem block_add(a:Addr)(n:Nat):(a.add n).block=a.block:=by unfold Addr.add;split <;> rfl
theorem add_add(a:Addr)(i j:Nat):(a.add i).add j=a.add (i+j):=by unfold Addr.add;by_cases b:i=0 <;> by_cases c:j=0 <;> simp [b,c,Ay]
theorem cc(b o k:Nat):(⟨b,o,none⟩:Addr).add k=⟨b,o+k,none⟩:=Addr.add_mid b o k
theorem aD.grow{E:Env}{G:Gh}{h:Hp}{w w':World}(H:aD E G h w)(g:ct w w')(j:Addr->Prop)(y:∀ a,G.I a->j a)(p:∀ a,j a->G.I a\/w.heap.size<=a.block)(D:∀ a,j a->(w'.cell? a).isSome=true) :
  aW G w {G with I:=j} w'/\aD E {G with I:=j} h w':=by
 have o:aW G w {G with I:=j} w':=⟨fun a f=>⟨y a f,g.cell (H.e_ f)⟩,fun _ _ h=>h,fun _ _ h=>h,fun _ _ _=>rfl⟩;refine⟨o,⟨g.os.trans H.os,g.tape.trans H.tape,g.output.trans H.output,eX H.size g.size,fun b q=>?_,fun a f=>?_,fun a f=>?_,D,H.fresh,fun n F J l=>?_,fun n b q=>?_,H.eC,fun r K=>?_,H.eZ,fun n s l=>(by
  obtain⟨b,m,t⟩:=H.obj n s l;exact⟨b,m,(g.block b (H.bJ n b m).1).trans t⟩),fun n L l=>(by
  obtain⟨b,u,ck,m,t,M⟩:=H.aA n L l;exact⟨b,u,ck,m,(g.block b (H.bJ n b m).1).trans t,M.mono o⟩),H.gb.trans o,H.gB⟩⟩
 ·obtain⟨c,d⟩:=H.kept b q;exact⟨c,(g.block b (fx c H.size)).trans d⟩
 ·obtain⟨c,d⟩:=H.i0 a f;exact⟨y a c,(g.cell (H.e_ c)).trans d⟩
 ·rcases p a f with c | c
  ·exact H.eo a c
  ·exact .inr (E.hN _ (eX H.size c))
 ·obtain⟨b,u,N,c,d,x,i⟩:=H.box n F J l;exact⟨b,u,N,c,(g.block b (H.bJ n b c).1).trans d,x.mono o,i⟩
 ·obtain⟨c,d,x,O⟩:=H.bJ n b q;refine⟨fx c g.size,d,fun P a e f=>?_,O⟩;rcases p a f with i | i
  ·exact x P a e i
  ·omega
 ·obtain⟨A,n,Q,R,c,d⟩:=H.row r K;refine⟨A,n,Q,R,c,fun k S T=>?_⟩;obtain⟨z,e,B,U,c3,c4,c5⟩:=d k S T;have C:(z.add k).block<w.heap.size:=by obtain⟨v,V⟩:=eI.1 B;exact d_ w _ V
  refine⟨z,e,by rw [g.cell C];exact B,by rw [g.frozen C];exact U,fun W=>?_,c4,c5⟩;rcases p _ W with i | i
  ·exact c3 i
  ·omega
theorem aD.HD{E:Env}{G:Gh}{h:Hp}{w x:World}(H:aD E G h w)(g:ct w x){N:Nat}(X:w.heap.size<=N){n:Nat}(Y:h n=none)(Z:Bool){cs:List AV}{F:Array Value}{R:TypeId}(S:x.heap[N]?=some (.cells F R (0,0)))(hr:og G w cs F)(t:∀ c∈cs,c.one=true)(r:Loop)(I:r.defers<=F.size) :
  aW G w {G with box:=fun m=>if m=n then some N else G.box m,rc:=fun m=>if m=n then r else G.rc m} x /\aD E {G with box:=fun m=>if m=n then some N else G.box m,rc:=fun m=>if m=n then r else G.rc m} (h.ar [(n,.box Z cs)]) x:=by
 obtain⟨T,b9⟩:=H.fresh n Y;have C:aW G w {G with box:=fun m=>if m=n then some N else G.box m,rc:=fun m=>if m=n then r else G.rc m} x :=
  ⟨fun a o=>⟨o,g.cell (H.e_ o)⟩,fun m b f=>by
   dsimp only;split
   ·rename_i e;subst e;rw [T] at f;cases f
   ·exact f,fun _ _ h=>h,fun m b f=>by
   dsimp only;split
   ·rename_i e;subst e;rw [T] at f;cases f
   ·rfl⟩
 have a0:N<x.heap.size:=(lT.1 S).1;refine⟨C,⟨g.os.trans H.os,g.tape.trans H.tape,g.output.trans H.output,eX H.size g.size,fun b f=>?_,fun a o=>?_,H.eo,fun a o=>?_,fun m d=>?_,fun m a1 a2 d=>?_,fun m b f=>?_,fun m U b d u=>?_,fun r y=>?_,fun r b0 A k J K A' b1 b2 b3 z B=>?_,fun m s d=>(by
  simp only [Hp.ar] at d;split at d
  ·injection d with d;cases d
  ·rename_i l;obtain⟨b,i,p⟩:=H.obj m s d;exact⟨b,by dsimp only;rw [ab l];exact i,by dsimp only;rw [ab l];exact(g.block b (H.bJ m b i).1).trans p⟩),fun m es d=>(by
  simp only [Hp.ar] at d;split at d
  ·injection d with d;cases d
  ·rename_i l;obtain⟨b,L,ck,i,p,D⟩:=H.aA m es d;exact⟨b,L,ck,by dsimp only;rw [ab l];exact i,(g.block b (H.bJ m b i).1).trans p,D.mono C⟩),H.gb.trans C,H.gB⟩⟩
 ·obtain⟨t,M⟩:=H.kept b f;exact⟨t,(g.block b (fx t H.size)).trans M⟩
 ·obtain⟨t,M⟩:=H.i0 a o;exact⟨t,(g.cell (H.e_ t)).trans M⟩
 ·rw [g.cell (H.e_ o)];exact H.cu a o
 ·simp only [Hp.ar] at d;split at d
  ·cases d
  ·rename_i l;dsimp only;rw [ab l];exact H.fresh m d
 ·simp only [Hp.ar] at d;dsimp only;split at d
  ·rename_i e;injection d with d;injection d with _ d;subst d
   rw [aj e,aj e];exact⟨N,F,R,rfl,S,hr.mono C,t,I⟩
  ·rename_i l;rw [ab l,ab l];obtain⟨b,L,b4,i,p,D,O⟩:=H.box m a1 a2 d;exact⟨b,L,b4,i,(g.block b (H.bJ m b i).1).trans p,D.mono C,O⟩
 ·dsimp only at f |-;split at f
  ·injection f with f;subst f
   refine⟨a0,fun b5=>?_,fun _ a e o=>?_,E.hN _ (eX H.size X)⟩
   ·have:=(H.kept _ b5).1;have:=H.size;omega
   ·have:=H.e_ o;omega
  ·rename_i l;obtain⟨i,p,D,O⟩:=H.bJ m b f;exact⟨fx i g.size,p,fun I=>D (fun he=>I (by simp [Hp.ar,l,he])),O⟩
 ·intro q1 q2;dsimp only at d u;split at d
  ·split at u
   ·rename_i e P;rw [e,P]
   ·injection d with d;have:=(H.bJ U b u).1;omega
  ·split at u
   ·injection u with u;have:=(H.bJ m b d).1;omega
   ·rename_i e P;exact H.eC m U b d u (fun q=>q1 (by rw [Hp.hx e];exact q)) (fun q=>q2 (by rw [Hp.hx P];exact q))
 ·simp only [Hp.ar] at y;split at y
  ·injection y with y;cases y
  ·obtain⟨A,k,J,K,i,p⟩:=H.row r y;refine⟨A,k,J,K,i,fun j b6 b7=>?_⟩;obtain⟨V,e,W,c2,c3,c4,c5⟩:=p j b6 b7;have Q:(V.add j).block<w.heap.size:=by obtain⟨v,b8⟩:=eI.1 W;exact d_ w _ b8
   refine⟨V,e,by rw [g.cell Q];exact W,by rw [g.frozen Q];exact c2,c3,c4,fun m d=>?_⟩;dsimp only at d;split at d
   ·injection d with d;rw [block_add] at Q;omega
   ·exact c5 m d
 ·simp only [Hp.ar] at z B;split at z
  ·injection z with z;cases z
  ·split at B
   ·injection B with B;cases B
   ·exact H.eZ r b0 A k J K A' b1 b2 b3 z B
theorem aD.re{E:Env}{G:Gh}{h:Hp}{w:World}(H:aD E G h w){n:Nat}(d:h n=none)(b:Bool){cs:List AV}{arr:Array Value}(a:TypeId)(e:og G w cs arr)(f:∀ c∈cs,c.one=true)(r:Loop:=default)(g:r.defers<=arr.size:=by exact bp _) :
  aW G w {G with box:=fun m=>if m=n then some w.heap.size else G.box m,rc:=fun m=>if m=n then r else G.rc m} (w.alloc (.cells arr a)) /\aD E {G with box:=fun m=>if m=n then some w.heap.size else G.box m,rc:=fun m=>if m=n then r else G.rc m} (h.ar [(n,.box b cs)]) (w.alloc (.cells arr a)) :=
 H.HD (ct.alloc w (.cells arr a)) (bj _) d b (iK w _) e f r g
theorem aD.Qa{E:Env}{G:Gh}{h:Hp}{w:World}(H:aD E G h w){n:Nat}(f:h n=none)(e:Bool){a:List AV}{b:Array Value}(d:TypeId)(g:gi G w a b)(i:∀ c∈a,c.one=true) :
  aW G w {G with box:=fun m=>if m=n then some w.heap.size else G.box m,rc:=fun m=>if m=n then default else G.rc m} (w.alloc (.cells b d)) /\aD E {G with box:=fun m=>if m=n then some w.heap.size else G.box m,rc:=fun m=>if m=n then default else G.rc m} (h.ar [(n,.box e a)]) (w.alloc (.cells b d)):=H.re f e d g.p i
theorem vt(h:Hp)(n:Nat)(o:HO)(m:Nat):(h.ar [(n,o)]) m=if m=n then some o else h m:=rfl
theorem aD.Qb{E:Env}{G:Gh}{h:Hp}{w:World}(H:aD E G h w){n b o:Nat}{P:Bool}{L:List AV}(y:h n=some (.box P L))(z:G.box n=some b){c:AV}{v:Value}(b0:aC G w c v)(h1:c.one=true)(ho:o<L.length) :
  (w.cell? ⟨b,o,none⟩).isSome=true/\w.frozen? ⟨b,o,none⟩=false /\aW G w G (w.setCell ⟨b,o,none⟩ v)/\aD E G (h.ar [(n,.box P (L.set o c))]) (w.setCell ⟨b,o,none⟩ v):=by
 obtain⟨f,a0,ty,M,Q,R,e4⟩:=H.box n P L y;have b1:f=b:=by rw [z] at M;injection M with M;exact M.symm
 subst b1;obtain⟨e0,b3,b4,e5⟩:=H.bJ n f z;have b5:=b4 (by rw [y];simp);have a1:o<a0.size:=fx ho R.1;have C:∀ k,k≠f->(w.setCell ⟨f,o,none⟩ v).heap[k]?=w.heap[k]?:=fun k l=>by simp only [World.setCell,xA];rw [ab (by omega)]
 have b6:(w.setCell ⟨f,o,none⟩ v).heap[f]?=some (.cells (a0.setIfInBounds o v) ty (0,0)):=by simp [World.setCell,xA,Q]
 have N:∀ a:Addr,a.block≠f->(w.setCell ⟨f,o,none⟩ v).cell? a=w.cell? a:=fun a g=>sU (C _ g)
 have b7:∀ a:Addr,a.block≠f->(w.setCell ⟨f,o,none⟩ v).frozen? a=w.frozen? a:=fun a g=>xz (C _ g)
 have S:∀ a,G.I a->a.block≠f:=fun a g e=>b5 a e g
 have D:aW G w G (w.setCell ⟨f,o,none⟩ v):=⟨fun a g=>⟨g,N a (S a g)⟩,fun _ _ h=>h,fun _ _ h=>h,fun _ _ _=>rfl⟩;refine⟨by simp [World.cell?,Q,a1],by simp [World.frozen?,Q],D,⟨H.os,H.tape,H.output,by simpa [World.setCell] using H.size,fun k l=>?_,fun a g=>?_,H.eo,fun a g=>?_,fun m d=>?_,fun m b8 b9 d=>?_,fun m b c0=>?_,H.vr y (fun q=>by cases q) _,fun r F=>?_,fun r d0 A k T U A' d1 d2 d3 I J=>?_,fun m s d=>(by
  simp only [Hp.ar] at d;split at d
  ·injection d with d;cases d
  ·rename_i t;obtain⟨x,i,p⟩:=H.obj m s d;exact⟨x,i,(C x (fun e=>t (H.tj (e ▸ i) z d (fun q=>by cases q) y (fun q=>by cases q)))).trans p⟩),fun m es d=>(by
  simp only [Hp.ar] at d;split at d
  ·injection d with d;cases d
  ·rename_i t;obtain⟨x,d4,ck,i,p,K⟩:=H.aA m es d;exact⟨x,d4,ck,i,(C x (fun e=>t (H.tj (e ▸ i) z d (fun q=>by cases q) y (fun q=>by cases q)))).trans p,K.mono D⟩),H.gb.trans D,H.gB⟩⟩
 ·obtain⟨O,V⟩:=H.kept k l;exact⟨O,(C k (fun e=>b3 (e ▸ l))).trans V⟩
 ·obtain⟨O,V⟩:=H.i0 a g;exact⟨O,(N a (S a O)).trans V⟩
 ·rw [N a (S a g)];exact H.cu a g
 ·simp only [Hp.ar] at d;split at d
  ·cases d
  ·exact H.fresh m d
 ·simp only [Hp.ar] at d;split at d
  ·rename_i e;injection d with d;injection d with _ d;subst d;subst e
   refine⟨f,_,ty,z,b6,⟨by simpa using R.1,fun k W u l B=>?_⟩,fun W d5=>?_,by simpa using e4.2⟩
   ·simp only [xB] at l;simp only [Array.getElem?_setIfInBounds] at B;by_cases a2:o=k
    ·subst a2;simp only [ho,a1,eA] at l B;injection l with l;injection B with B;subst l;subst B
     exact b0.mono D
    ·simp only [a2,eM] at l B;exact(R.2 k W u l B).mono D
   ·rcases uV d5 with X | X
    ·exact e4.1 W X
    ·rw [X];exact h1
  ·rename_i t;obtain⟨x,d6,d7,i,p,K,Y⟩:=H.box m b8 b9 d;refine⟨x,d6,d7,i,(C x (fun e=>t (H.tj (e ▸ i) z d (fun q=>by cases q) y (fun q=>by cases q)))).trans p,K.mono D,Y⟩
 ·obtain⟨i,p,K,Y⟩:=H.bJ m b c0;refine⟨by simpa [World.setCell] using i,p,fun hd=>K (fun Z=>?_),Y⟩;by_cases e:m=n
  ·subst e;rw [y] at Z;cases Z
  ·exact hd (by simp [Hp.ar,e,Z])
 ·simp only [Hp.ar] at F;split at F
  ·injection F with F;cases F
  ·obtain⟨A,k,T,U,i,p⟩:=H.row r F;refine⟨A,k,T,U,i,fun j d8 d9=>?_⟩;obtain⟨ad,e,c1,c2,c3,c4,c5⟩:=p j d8 d9;have t:(ad.add j).block≠f:=by rw [block_add];exact fun e=>c5 n (e ▸ z)
   exact⟨ad,e,by rw [N _ t];exact c1,by rw [b7 _ t];exact c2,c3,c4,c5⟩
 ·simp only [Hp.ar] at I J;split at I
  ·injection I with I;cases I
  ·split at J
   ·injection J with J;cases J
   ·exact H.eZ r d0 A k T U A' d1 d2 d3 I J
def setAt(a:List AV)(o:Nat):List AV->List AV
 | []=>a
 | c::r=>setAt (a.set o c) (o+1) r
theorem HE(h:Hp)(n:Nat)(x y:HO):(h.ar [(n,x)]).ar [(n,y)]=h.ar [(n,y)]:=by funext m;simp only [Hp.ar];split <;> rfl
theorem aD.AZ{E:Env}{G:Gh}{n b:Nat}{ag:Bool}(P:Program):∀ (j:List AV) (f:List Value) (a i:Nat) (h:Hp) (w:World) (d:List AV),aD E G h w->h n=some (.box ag d)->G.box n=some b ->f.length=j.length->(∀ (k:Nat) (c:AV) (v:Value),j[k]?=some c->f[k]?=some v->aC G w c v/\c.one=true)->a+i+j.length<=d.length ->∃ g,(storeCells ⟨b,a,none⟩ f i).run P w=.ok () g/\aW G w G g/\aD E G (h.ar [(n,.box ag (setAt d (a+i) j))]) g
 | [],f,a,i,h,w,d,H,s,t,l,p,y=>by
  have:f=[]:=hV (by simpa using l);subst this;refine⟨w,rfl,aW.refl G w,?_⟩;have e:h.ar [(n,.box ag (setAt d (a+i) []))]=h:=by
   funext m;simp only [Hp.ar,setAt];split
   ·rename_i e;subst e;exact s.symm
   ·rfl
  rw [e];exact H
 | c::r,f,a,i,h,w,d,H,s,t,l,p,y=>by
  cases f with
  | nil=>simp at l
  | cons v F =>
   obtain⟨z,A⟩:=p 0 c v rfl rfl;simp only [bN] at y l;obtain⟨I,J,B,K⟩:=H.Qb (o:=a+i) s t z A (by omega);have L:=(z.pJ A).2;have M:(store ((⟨b,a,none⟩:Addr).add i) v).run P w=.ok () (w.setCell ⟨b,a+i,none⟩ v):=by rw [cc,run_store P w _ v _ L];obtain⟨u,q⟩:=eI.1 I;simp [q,J]
   obtain⟨g,N,O,x⟩:=aD.AZ (ag:=ag) P r F a (i+1) (h.ar [(n,.box ag (d.set (a+i) c))]) (w.setCell ⟨b,a+i,none⟩ v) (d.set (a+i) c) K (by simp [Hp.ar]) t (by omega)
    (fun k C u D q=>⟨((p (k+1) C u D q).1).mono B,(p (k+1) C u D q).2⟩) (by simp;omega)
   refine⟨g,?_,B.trans O,?_⟩
   ·simp only [storeCells,c',M,dt,N]
   ·rw [HE] at x;rw [show a+(i+1)=a+i+1 by omega] at x;exact x
theorem aD.A_{E:Env}{G:Gh}{h:Hp}{w:World}(H:aD E G h w){n b:Nat}{f:Bool}{a:List AV}(g:h n=some (.box f a))(i:G.box n=some b) :
  ∃ d:Array Value,og G w a d/\(∀ c∈a,c.one=true)/\∀ k,w.cell? ⟨b,k,none⟩=d[k]?:=by
 obtain⟨j,d,q,e,l,m,o⟩:=H.box n f a g;have p:j=b:=by rw [i] at e;injection e with e;exact e.symm
 subst p;exact⟨d,m,o.1,fun k=>by simp [World.cell?,l]⟩
theorem aD.freeze{E:Env}{G:Gh}{h:Hp}{w:World}(H:aD E G h w){n b:Nat}{ag:Bool}{cs:List AV}(F:h n=some (.box ag cs))(v:G.box n=some b) :
  aW G w {G with I:=fun a=>G.I a\/(a.block=b/\(w.cell? a).isSome=true)} w/\aD E {G with I:=fun a=>G.I a\/(a.block=b/\(w.cell? a).isSome=true)} (h.ar [(n,.dead)]) w:=by
 obtain⟨a0,a1,_,L⟩:=H.bJ n b v;have u:aW G w {G with I:=fun a=>G.I a\/(a.block=b/\(w.cell? a).isSome=true)} w:=⟨fun a d=>⟨.inl d,rfl⟩,fun _ _ h=>h,fun _ _ h=>h,fun _ _ _=>rfl⟩;refine⟨u,⟨H.os,H.tape,H.output,H.size,H.kept,fun a d=>?_,fun a d=>?_,fun a d=>?_,fun m c=>?_,fun m M N c=>?_,fun m J K=>?_,H.vr F (fun q=>by cases q) _,fun r i=>?_,fun r O A k x y P Q R S l o=>?_,fun m s c=>?_,fun m T c=>?_,H.gb.trans u,H.gB⟩⟩
 ·obtain⟨U,V⟩:=H.i0 a d;exact⟨.inl U,V⟩
 ·rcases d with d | ⟨d,_⟩
  ·exact H.eo a d
  ·exact .inr (by rw [d];exact L)
 ·rcases d with d | ⟨_,d⟩
  ·exact H.cu a d
  ·exact d
 ·simp only [Hp.ar] at c;split at c
  ·cases c
  ·exact H.fresh m c
 ·simp only [Hp.ar] at c;split at c
  ·injection c with c;cases c
  ·obtain⟨z,B,W,f,g,t,C⟩:=H.box m M N c;exact⟨z,B,W,f,g,t.mono u,C⟩
 ·obtain⟨f,g,t,C⟩:=H.bJ m J K;refine⟨f,g,fun D a e d=>?_,C⟩;by_cases em:m=n
  ·exact D (by simp [Hp.ar,em])
  ·rcases d with d | ⟨d,_⟩
   ·exact t (fun X=>D (by simp [Hp.ar,em,X])) a e d
   ·exact em (H.eC m n J K (by rw [v,<- d,e]) (fun q=>D (by rw [Hp.hx em];exact q)) (fun q=>by rw [F] at q;cases q))
 ·simp only [Hp.ar] at i;split at i
  ·injection i with i;cases i
  ·obtain⟨A,k,x,y,f,g⟩:=H.row r i;refine⟨A,k,x,y,f,fun j Y Z=>?_⟩;obtain⟨ad,e,c1,c2,c3,c4,c5⟩:=g j Y Z;refine⟨ad,e,c1,c2,fun p=>?_,c4,c5⟩;rcases p with p | ⟨p,_⟩
   ·exact c3 p
   ·rw [block_add] at p;exact c5 n (by rw [v,p])
 ·simp only [Hp.ar] at l o;split at l
  ·injection l with l;cases l
  ·split at o
   ·injection o with o;cases o
   ·exact H.eZ r O A k x y P Q R S l o
 ·simp only [Hp.ar] at c;split at c
  ·injection c with c;cases c
  ·exact H.obj m s c
 ·simp only [Hp.ar] at c;split at c
  ·injection c with c;cases c
  ·obtain⟨z,B,ck,f,g,t⟩:=H.aA m T c;exact⟨z,B,ck,f,g,t.mono u⟩
def cq:List AV->Option (List D)
 | []=>some []
 | .d x::r=>(cq r).map (x::·)
 | _::_=>none
def tl(a:List AV):AV :=
 match cq a with
 | some b=>.d (.agg b)
 | none=>.agg a
theorem oh:∀ {b:List AV}{a:List D},cq b=some a->b=a.map .d
 | [],a,h=>by simp [cq] at h;subst h;rfl
 | .d x::r,a,h=>by simp only [cq,bZ] at h;obtain⟨e,c,rfl⟩:=h;rw [bo,<- oh c]
 | .own _ _ _::_,_,h=>by simp [cq] at h
 | .agg _::_,_,h=>by simp [cq] at h
 | .af _::_,_,h=>by simp [cq] at h
 | .ptr _ _::_,_,h=>by simp [cq] at h
 | .aE _ _ _ _ _::_,_,h=>by simp [cq] at h
 | .e0 _::_,_,h=>by simp [cq] at h
 | .fn _ _ _::_,_,h=>by simp [cq] at h
theorem aC.cw{G:Gh}{w:World}{x:D}{v:Value}(h:aC G w (.d x) v):au G.I w x v:=by cases h;assumption
theorem Ba{G:Gh}{w:World}{a:List AV}{b:Array Value}(h:gi G w a b)(d:∀ c∈a,c.one=true):aC G w (tl a) (.agg b):=by
 unfold tl;cases f:cq a with
 | none=>exact .agg h.1 d h.2
 | some l =>have e:=oh f;subst e;refine .d (.agg (by simpa using h.1) (fun c g=>d (.d c) (by simp;exact g)) (fun k c v i j=>?_));exact(h.2 k (.d c) v (by simp [i]) j).cw
theorem aD.HF{E:Env}{G:Gh}{h:Hp}{w:World}(H:aD E G h w){n:Nat}(Y:h n=none)(r:Loop)(o:Obj)(x:HO)(J:(∃ s,x=.obj s/\o=jI r s)\/∃ u l ck,x=.aA u/\o=.map l ck/\fS G w u l ck) :
  aW G w {G with box:=fun m=>if m=n then some w.heap.size else G.box m,rc:=fun m=>if m=n then r else G.rc m} (w.alloc o) /\aD E {G with box:=fun m=>if m=n then some w.heap.size else G.box m,rc:=fun m=>if m=n then r else G.rc m} (h.ar [(n,x)]) (w.alloc o):=by
 have g:=ct.alloc w o;obtain⟨S,c0⟩:=H.fresh n Y;have Z:∀ T U,x≠.box T U:=fun T U e=>by rcases J with ⟨s,rfl,_⟩ | ⟨u,l,ck,rfl,_⟩ <;> cases e
 have K:x≠.row:=fun e=>by rcases J with ⟨s,rfl,_⟩ | ⟨u,l,ck,rfl,_⟩ <;> cases e
 have D:aW G w {G with box:=fun m=>if m=n then some w.heap.size else G.box m,rc:=fun m=>if m=n then r else G.rc m} (w.alloc o) :=
  ⟨fun a p=>⟨p,g.cell (H.e_ p)⟩,fun m b d=>by
   dsimp only;split
   ·rename_i e;subst e;rw [S] at d;cases d
   ·exact d,fun _ _ h=>h,fun m b d=>by
   dsimp only;split
   ·rename_i e;subst e;rw [S] at d;cases d
   ·rfl⟩
 refine⟨D,⟨H.os,H.tape,H.output,eX H.size g.size,fun b d=>?_,fun a p=>?_,H.eo,fun a p=>?_,fun m c=>?_,fun m a0 a1 c=>?_,fun m b d=>?_,fun m V b c y=>?_,fun r z=>?_,fun r a2 A k L M A' b0 b1 b2 B C=>?_,fun m b3 c=>?_,fun m u c=>?_,H.gb.trans D,H.gB⟩⟩
 ·obtain⟨F,N⟩:=H.kept b d;exact⟨F,(g.block b (fx F H.size)).trans N⟩
 ·obtain⟨F,N⟩:=H.i0 a p;exact⟨F,(g.cell (H.e_ F)).trans N⟩
 ·rw [g.cell (H.e_ p)];exact H.cu a p
 ·simp only [Hp.ar] at c;split at c
  ·cases c
  ·rename_i f;dsimp only;rw [ab f];exact H.fresh m c
 ·simp only [Hp.ar] at c;dsimp only;split at c
  ·injection c with c;exact absurd c (Z _ _)
  ·rename_i f;rw [ab f];obtain⟨b,b4,b5,i,t,I,O⟩:=H.box m a0 a1 c;exact⟨b,b4,b5,i,(g.block b (H.bJ m b i).1).trans t,I.mono D,by rw [ab f];exact O⟩
 ·dsimp only at d |-;split at d
  ·injection d with d;subst d
   refine⟨by simp,fun b6=>?_,fun _ a e p=>?_,E.hN _ H.size⟩
   ·have:=(H.kept _ b6).1;have:=H.size;omega
   ·have:=H.e_ p;omega
  ·rename_i f;obtain⟨i,t,I,O⟩:=H.bJ m b d;exact⟨by simp;omega,t,fun hd=>I (fun P=>hd (by simp [Hp.ar,f,P])),O⟩
 ·intro q1 q2;dsimp only at c y;split at c
  ·split at y
   ·rename_i e Q;rw [e,Q]
   ·injection c with c;have:=(H.bJ V b y).1;omega
  ·split at y
   ·injection y with y;have:=(H.bJ m b c).1;omega
   ·rename_i e Q;exact H.eC m V b c y (fun q=>q1 (by rw [Hp.hx e];exact q)) (fun q=>q2 (by rw [Hp.hx Q];exact q))
 ·simp only [Hp.ar] at z;split at z
  ·injection z with z;exact absurd z K
  ·obtain⟨A,k,L,M,i,t⟩:=H.row r z;refine⟨A,k,L,M,i,fun j b7 b8=>?_⟩;obtain⟨W,e,X,c2,c3,c4,c5⟩:=t j b7 b8;have R:(W.add j).block<w.heap.size:=by obtain⟨v,b9⟩:=eI.1 X;exact d_ w _ b9
   refine⟨W,e,by rw [g.cell R];exact X,by rw [g.frozen R];exact c2,c3,c4,fun m c=>?_⟩;dsimp only at c;split at c
   ·injection c with c;rw [block_add] at R;omega
   ·exact c5 m c
 ·simp only [Hp.ar] at B C;split at B
  ·injection B with B;exact absurd B K
  ·split at C
   ·injection C with C;exact absurd C K
   ·exact H.eZ r a2 A k L M A' b0 b1 b2 B C
 ·simp only [Hp.ar] at c;dsimp only;split at c
  ·rename_i e;injection c with c
   rcases J with ⟨s,rfl,rfl⟩ | ⟨u,l,ck,rfl,_⟩
   ·injection c with c;subst c
    rw [aj e,aj e];exact⟨w.heap.size,rfl,iK w _⟩
   ·cases c
  ·rename_i f;rw [ab f,ab f];obtain⟨b,i,t⟩:=H.obj m b3 c;exact⟨b,i,(g.block b (H.bJ m b i).1).trans t⟩
 ·simp only [Hp.ar] at c;dsimp only;split at c
  ·rename_i e;injection c with c
   rcases J with ⟨s,rfl,rfl⟩ | ⟨d0,l,ck,rfl,rfl,P⟩
   ·cases c
   ·injection c with c;subst c
    rw [aj e];exact⟨w.heap.size,l,ck,rfl,iK w _,P.mono D⟩
  ·rename_i f;rw [ab f];obtain⟨b,l,ck,i,t,I⟩:=H.aA m u c;exact⟨b,l,ck,i,(g.block b (H.bJ m b i).1).trans t,I.mono D⟩
theorem aD.vu{E:Env}{G:Gh}{h:Hp}{w:World}(H:aD E G h w){n b:Nat}(u:h n≠some .dead)(s:G.box n=some b)(o:Obj)(x:HO)(C:x=.dead\/(∃ v,x=.obj v/\o=jI (G.rc n) v)\/∃ t i ck,x=.aA t/\o=.map i ck/\fS G w t i ck) :
  aW G w G (w.putObj b o)/\aD E G (h.ar [(n,x)]) (w.putObj b o):=by
 obtain⟨S,W,X,d1⟩:=H.bJ n b s;have Y:=X u;have y:∀ k,k≠b->(w.putObj b o).heap[k]?=w.heap[k]?:=fun k D=>World.putObj_heap_other D
 have F:∀ a:Addr,a.block≠b->(w.putObj b o).cell? a=w.cell? a:=fun a d=>sU (y _ d)
 have Z:∀ a:Addr,a.block≠b->(w.putObj b o).frozen? a=w.frozen? a:=fun a d=>xz (y _ d)
 have K:∀ a,G.I a->a.block≠b:=fun a d e=>Y a e d
 have z:aW G w G (w.putObj b o):=⟨fun a d=>⟨d,F a (K a d)⟩,fun _ _ h=>h,fun _ _ h=>h,fun _ _ _=>rfl⟩;have a0:∀ m L M,(h.ar [(n,x)]) m=some (.box L M)->m≠n/\h m=some (.box L M):=fun m L M c=>by
  simp only [Hp.ar] at c;split at c
  ·rcases C with rfl | ⟨v,rfl,_⟩ | ⟨t,i,ck,rfl,_⟩ <;> (injection c with c;cases c)
  ·rename_i g;exact⟨g,c⟩
 have N:∀ m,(h.ar [(n,x)]) m=some .row->h m=some .row:=fun m c=>by
  simp only [Hp.ar] at c;split at c
  ·rcases C with rfl | ⟨v,rfl,_⟩ | ⟨t,i,ck,rfl,_⟩ <;> (injection c with c;cases c)
  ·exact c
 refine⟨z,⟨H.os,H.tape,H.output,by simpa using H.size,fun k D=>?_,fun a d=>?_,H.eo,fun a d=>?_,fun m c=>?_,fun m T U c=>?_,fun m a1 a2=>?_,H.AY u _,fun r hr=>?_,fun r b0 A k O P A' b1 b3 b4 b5 b6=>H.eZ r b0 A k O P A' b1 b3 b4 (N _ b5) (N _ b6),fun m v c=>?_,fun m t c=>?_,H.gb.trans z,H.gB⟩⟩
 ·obtain⟨I,Q⟩:=H.kept k D;exact⟨I,(y k (fun e=>W (e ▸ D))).trans Q⟩
 ·obtain⟨I,Q⟩:=H.i0 a d;exact⟨I,(F a (K a I)).trans Q⟩
 ·rw [F a (K a d)];exact H.cu a d
 ·simp only [Hp.ar] at c;split at c
  ·cases c
  ·exact H.fresh m c
 ·obtain⟨g,c⟩:=a0 m T U c;obtain⟨p,b7,b8,f,l,B,R⟩:=H.box m T U c;exact⟨p,b7,b8,f,(y p (fun e=>g (H.eC m n b (e ▸ f) s (fun q=>by rw [c] at q;cases q) u))).trans l,B.mono z,R⟩
 ·obtain⟨f,l,B,R⟩:=H.bJ m a1 a2;refine⟨by simpa using f,l,fun hd=>B (fun J=>?_),R⟩;by_cases e:m=n
  ·subst e;exact u J
  ·exact hd (by simp [Hp.ar,e,J])
 ·obtain⟨A,k,O,P,f,l⟩:=H.row r (N _ hr);refine⟨A,k,O,P,f,fun j b9 c0=>?_⟩;obtain⟨V,e,c1,c2,c3,c4,c5⟩:=l j b9 c0;have g:(V.add j).block≠b:=by rw [block_add];exact fun d0=>c5 n (by rw [s,d0])
  exact⟨V,e,by rw [F _ g];exact c1,by rw [Z _ g];exact c2,c3,c4,c5⟩
 ·simp only [Hp.ar] at c;split at c
  ·rename_i e;subst e;rcases C with rfl | ⟨s2,rfl,rfl⟩ | ⟨t,i,ck,rfl,_⟩
   ·injection c with c;cases c
   ·injection c with c;injection c with c;subst c
    exact⟨b,s,World.putObj_heap_same S⟩
   ·injection c with c;cases c
  ·rename_i g;obtain⟨p,f,l⟩:=H.obj m v c;exact⟨p,f,(y p (fun e=>g (H.eC m n b (e ▸ f) s (fun q=>by rw [c] at q;cases q) u))).trans l⟩
 ·simp only [Hp.ar] at c;split at c
  ·rename_i e;subst e;rcases C with rfl | ⟨s2,rfl,rfl⟩ | ⟨d2,i,ck,rfl,rfl,J⟩
   ·injection c with c;cases c
   ·injection c with c;cases c
   ·injection c with c;injection c with c;subst c
    exact⟨b,i,ck,s,World.putObj_heap_same S,J.mono z⟩
  ·rename_i g;obtain⟨p,i,ck,f,l,B⟩:=H.aA m t c;exact⟨p,i,ck,f,(y p (fun e=>g (H.eC m n b (e ▸ f) s (fun q=>by rw [c] at q;cases q) u))).trans l,B.mono z⟩
inductive aO where
 | tmp (t:Nat)
 | av (d:D)
 | lr (g:Nat)
 deriving Inhabited
inductive CO:Operand->aO->Prop
 | tmp (t:Nat):CO (.tmp t) (.tmp t)
 | av (x:Operand) (d:D) (h:∀ (a:Act) (I:Addr->Prop) (w:World),au I w d (a.eval x)):CO x (.av d)
 | lr (g:Nat):CO (.global g) (.lr g)
def iN(G:Gh)(w:World)(a:Act)(b:aO)(c:AV):Prop:=∀ x,CO x b->aC G w c (a.eval x)
inductive SK where
 | int (k:IntKind)
 | bool
 | str
 deriving Inhabited,DecidableEq
inductive Ext where
 | oi (neg:Bool) (ks:List SK)
 | rf (neg:Bool)
 | isNil (neg:Bool)
 | pL
 | shift (left:Bool)
 | lX (t:TypeId) (z:D)
 | eD
 | jl
 | insert (sk:SK)
 | lookup (sk:SK) (ok:Bool) (z:D)
 | mW
 | oj (sz bytes:Nat)
 | om (sz bytes:Nat) (z:D)
 | rh (sz:Nat) (ag:Bool) (n:Nat)
 | ls
 | ri (f:Fn)
 | rj (sz:Nat)
 | rm (sz bytes:Nat)
 | fG (sz:Nat)
 | iO
 | mX (f:FuncId) (sz bytes:Nat)
 | pM (sz:Nat)
 | sliceB (sz:Nat) (lo hi:Bool)
 | oo (sz bytes:Nat) (z:D)
 | pN
 | rp (sz bytes:Nat) (z:D)
 | gY (f:FuncId)
 | pO (f:FuncId) (sz bytes:Nat)
 | oq (ks:List SK)
 | ot (ks:List SK) (ok:Bool) (z:D)
 | pushB (sz bytes:Nat)
 | rq (f:FuncId)
 | ru (f:FuncId)
 | lY (sz:Nat)
 | rv (sz bytes:Nat) (z:D)
 deriving Inhabited
inductive ei where
 | ak (x:aO)
 | pick (c a b:aO)
 | alloc (ag:Bool) (z:List D)
 | box (ag:Bool) (x:aO)
 | build (z:List D) (parts:List (Nat×Nat×aO))
 | eg (sz:Nat) (parts:List aO)
 | load (sz:Nat) (ag:Bool) (x:aO)
 | store (sz:Nat) (x y:aO)
 | arith (op:BinOp) (x y:aO)
 | not (x:aO)
 | field (off fsz:Nat) (ag:Bool) (x:aO)
 | ou (off fsz:Nat) (ag:Bool) (x:aO)
 | index (sz:Nat) (x i:aO)
 | pP (sz:Nat) (ag:Bool) (n:Nat) (x i:aO)
 | slice (sz:Nat) (x:aO) (lo hi:Option aO)
 | slice3 (sz:Nat) (x:aO) (lo:Option aO) (hi mx:aO)
 | len (x:aO)
 | dH (x:aO)
 | append (sz bytes:Nat) (x y:aO)
 | hy (mx:Bool) (x y:aO)
 | func (f:Fn) (first az:List aO)
 | extract (x:aO) (i:Nat)
 | conv (k:IntKind) (x:aO)
 | cQ (t:TypeId) (x:aO)
 | ov (x:aO) (lo hi:Option aO)
 | ext (k:Ext) (xs:List aO)
 deriving Inhabited
def gz{a:Type}:Option a->List a
 | none=>[]
 | some x=>[x]
def ei.gA:ei->List aO
 | .ak x | .box _ x | .load _ _ x | .not x | .field _ _ _ x | .ou _ _ _ x | .len x | .dH x | .extract x _ | .conv _ x | .cQ _ x=>[x]
 | .pick c a b=>[c,a,b]
 | .alloc _ _=>[]
 | .build _ ps=>ps.map (·.2.2)
 | .eg _ ps=>ps
 | .store _ x y | .arith _ x y | .index _ x y | .pP _ _ _ x y | .append _ _ x y | .hy _ x y=>[x,y]
 | .slice _ x lo d | .ov x lo d=>x::(gz lo++gz d)
 | .slice3 _ x lo d e=>x::(gz lo++[d,e])
 | .func _ a b=>a++b
 | .ext _ f=>f
def iv(a b:Nat)(c:Bool)(x:D):D:=if c then .agg ((x.cells.drop a).take b) else x.cells.getD a default
def ow(a c:Nat)(d:Bool)(b:List AV):AV:=if d then tl ((b.drop a).take c) else b.getD a default
def D.isAgg:D->Bool
 | .agg _=>true
 | _=>false
def D.fits(b:Nat)(a:Bool)(x:D):Prop:=x.cells.length=b/\x.isAgg=a/\(a=false->x.one=true)
def look(a:List (Nat×HO))(n:Nat):Option HO :=
 match a with
 | []=>none
 | (m,o)::r=>if n=m then some o else look r n
def newName(a:List (Nat×HO)):Nat :=
 match a with
 | []=>0
 | (m,_)::r=>max (m+1) (newName r)
structure ry where
 c:Prop
 v:AV
 ao:List (Nat×HO):=[]
 up:List (Nat×HO):=[]
def xO(a:BinOp)(k:IntKind)(x y:Int):Option (Prop×Value) :=
 match a with
 | .add=>some (True,.int k (k.wrap (x+y)))
 | .sub=>some (True,.int k (k.wrap (x-y)))
 | .mul=>some (True,.int k (k.wrap (x*y)))
 | .quo=>some (y≠0,.int k (k.wrap (x.tdiv y)))
 | .rem=>some (y≠0,.int k (x.tmod y))
 | .eql=>some (True,.bool (x == y))
 | .neq=>some (True,.bool (x != y))
 | .lss=>some (True,.bool (decide (x<y)))
 | .leq=>some (True,.bool (decide (x<=y)))
 | .gtr=>some (True,.bool (decide (x>y)))
 | .geq=>some (True,.bool (decide (x ≥ y)))
 | .and=>some (True,.int k (k.wrap ((BitVec.ofInt k.bits x&&&BitVec.ofInt k.bits y).toNat:Int)))
 | .or=>some (True,.int k (k.wrap ((BitVec.ofInt k.bits x|||BitVec.ofInt k.bits y).toNat:Int)))
 | .xor=>some (True,.int k (k.wrap ((BitVec.ofInt k.bits x^^^BitVec.ofInt k.bits y).toNat:Int)))
 | .andNot=>some (True,.int k (k.wrap ((BitVec.ofInt k.bits x&&&~~~BitVec.ofInt k.bits y).toNat:Int)))
 | _=>none
def pQ(left:Bool)(k:IntKind)(x y:Int):Value:=.int k (if left then k.wrap (x*2 ^ (min y.toNat k.bits)) else x.fdiv (2 ^ (min y.toNat k.bits)))
def cA(a:BinOp)(x y:ByteArray):Option (Prop×Value) :=
 match a with
 | .add=>some (x.size+y.size<=9223372036854775807,.string (x++y))
 | .eql=>some (True,.bool (x.toList == y.toList))
 | .neq=>some (True,.bool !(x.toList == y.toList))
 | .lss=>some (True,.bool (Op.bytesLess x.toList y.toList))
 | .leq=>some (True,.bool (Op.bytesLess x.toList y.toList||x.toList == y.toList))
 | .gtr=>some (True,.bool !(Op.bytesLess x.toList y.toList||x.toList == y.toList))
 | .geq=>some (True,.bool !(Op.bytesLess x.toList y.toList))
 | _=>none
def AV.elems:AV->Option (Nat×List D)
 | .d (.nil a)=>some (a,[])
 | .d (.sl a b)=>some (a,b)
 | .own _ a b=>some (a,b)
 | _=>none
def AV.pR:AV->Option D
 | .d x=>some x
 | .own _ a b=>some (.sl a b)
 | _=>none
def rz:List AV->Option (List D)
 | []=>some []
 | v::r=>match v.pR,rz r with
  | some x,some l=>some (x::l)
  | _,_=>none
def AV.lu:AV->Option D
 | .d x=>some x
 | .own _ a b=>some (.sl a b)
 | .agg c=>(rz c).map .agg
 | _=>none
def iw:List AV->Option (List D)
 | []=>some []
 | v::r=>match v.lu,iw r with
  | some x,some l=>some (x::l)
  | _,_=>none
def pS(z:List AV):List (Nat×Nat×aO)->List AV->List AV
 | (a,_,_)::ps,v::b=>pS (setAt z a v.cells) ps b
 | _,_=>z
def mY:List (Nat×Nat×aO)->List AV->Nat->Prop
 | (b,a,_)::ps,v::c,n=>v.cells.length=a/\v.cg=true/\b+a<=n/\mY ps c n
 | [],[],_=>True
 | _,_,_=>False
def bound:Option aO->List AV->Nat->Option (Int×List AV)
 | none,a,d=>some (d,a)
 | some _,.d (.lit (.int _ i))::a,_=>some (i,a)
 | _,_,_=>none
def hz:List SK->List D->List D->Prop
 | .int k::a,.lit (.int k1 _)::b,.lit (.int k2 _)::c=>k1=k/\k2=k/\hz a b c
 | .bool::a,.lit (.bool _)::b,.lit (.bool _)::c=>hz a b c
 | .str::a,.lit (.string _)::b,.lit (.string _)::c=>hz a b c
 | [],[],[]=>True
 | _,_,_=>False
def gC:List D->List D->Bool
 | .lit (.int _ a)::c,.lit (.int _ b)::d=>a == b&&gC c d
 | .lit (.bool a)::c,.lit (.bool b)::d=>a == b&&gC c d
 | .lit (.string a)::c,.lit (.string b)::d=>decide (a=b)&&gC c d
 | [],[]=>true
 | _,_=>false
def AV.mZ:AV->Option (List D)
 | .d (.agg a)=>some a
 | .agg a=>iw a
 | _=>none
def D.u8:D->Option Int
 | .lit (.int .u8 n)=>some n
 | _=>none
def D.num:D->Int
 | .lit (.int _ n)=>n
 | _=>0
def fT:SK->Value->Bool
 | .int k,.int a _=>decide (a=k)
 | .bool,.bool _=>true
 | .str,.string _=>true
 | _,_=>false
def rA:Value->Value->Option Bool
 | .int k a,.int c b=>if k=c then some (a == b) else none
 | .string a,.string b=>some (a == b)
 | .bool a,.bool b=>some (a == b)
 | _,_=>none
def iy:List Value->List Value->Option Bool
 | [],[]=>some true
 | a::x,b::y=>match rA a b,iy x y with
  | some p,some q=>some (p&&q)
  | _,_=>none
 | _,_=>none
def hA:Value->Value->Option Bool
 | .int k a,.int c b=>if k=c then some (a == b) else none
 | .string a,.string b=>some (a == b)
 | .bool a,.bool b=>some (a == b)
 | .agg a,.agg b=>iy a.toList b.toList
 | _,_=>none
def dJ(k:Value):List (Value×AV)->Option (Option AV)
 | []=>some none
 | e::a=>match hA k e.1 with
  | some true=>some (some e.2)
  | some false=>dJ k a
  | none=>none
def fj(k:Value)(v:AV):List (Value×AV)->List (Value×AV)
 | []=>[]
 | e::a=>match hA k e.1 with
  | some true=>(e.1,v)::a
  | _=>e::fj k v a
def pT:List D->Option (List Value)
 | []=>some []
 | .lit v::r=>(pT r).map (v::·)
 | _=>none
def pU(v:AV):Option Value:=match v.mZ with
 | some a=>(pT a).map fun l=>.agg l.toArray
 | none=>none
def kp:List SK->List Value->Prop
 | .int k::a,.int c n::b=>(c=k/\k.min<=n/\n<=k.max)/\kp a b
 | .str::a,.string s::b=>s.size<=9223372036854775807/\kp a b
 | .bool::a,.bool _::b=>kp a b
 | [],[]=>True
 | _,_=>False
def dN(a:List SK):Value->Prop
 | .agg b=>kp a b.toList
 | _=>False
def gI(l:List Int):List Int:=l.mergeSort fun x y=>decide (x<=y)
def gj(l:List Int):List Int:=Lib.compact l
def m_(a:Bool)(v:AV)(b:Bool):AV:=if a then .af [v,.d (.lit (.bool b))] else v
def rB(x:AV)(a:Nat)(b:List D):AV:=match x with
 | .d (.nil n)=>.d (.nil n)
 | _=>.d (.sl a b)
def tm:Bool->List D->D
 | true,a=>.agg a
 | false,a=>a.headD default
def jJ(z:Nat):Nat->List D->List D
 | 0,_=>[]
 | n+1,a=>.agg (a.take z)::jJ z n (a.drop z)
def e'(z a:Nat)(b:List D):List D:=if z=1 then b.take a else jJ z a b
theorem HG(z:Nat):∀ (n:Nat) (a:List D),(jJ z n a).length=n
 | 0,_=>rfl
 | n+1,a=>by simp [jJ,HG z n]
theorem HH{z:Nat}:∀ (n:Nat) (b:List D),n*z<=b.length->∀ e∈jJ z n b,e.cells.length=z
 | 0,_,_,e,a=>by simp [jJ] at a
 | n+1,b,h,e,a=>by
  rw [gh,GX] at h;simp only [jJ,b_] at a;rcases a with rfl | a
  ·simp [D.cells];omega
  ·exact HH n (b.drop z) (by rw [jj];omega) e a
theorem HI{z:Nat}:∀ (n:Nat) (a:List D),n*z<=a.length->D.flat (jJ z n a)=a.take (n*z)
 | 0,_,_=>by simp [jJ,D.flat]
 | n+1,a,h=>by rw [gh,GX] at h;have b:=HI (z:=z) n (a.drop z) (by rw [jj];omega);simp only [jJ,D.flat,ll,D.cells] at b |-;rw [b,gh,GX,Nat.add_comm (n*z) z,List.take_add]
theorem lv:∀ l:List D,(∀ d∈l,d.one=true)->D.flat l=l:=fun l=>by
 induction l with
 | nil=>intro _;rfl
 | cons d l b =>
  intro a;have c:=a d (by simp);have e:d.cells=[d]:=by cases d <;> first | rfl | simp [D.one] at c
  have:=b (fun x f=>a x (by simp [f]));simp only [D.flat,ll] at this |-;rw [this,e];rfl
theorem xP{z len:Nat}{ds:List D}(h:len*z<=ds.length)(c:∀ d∈ds,d.one=true):(e' z len ds).length=len/\(∀ e∈e' z len ds,e.cells.length=z)/\D.flat (e' z len ds)=ds.take (len*z):=by
 unfold e';by_cases a:z=1
 ·subst a;rw [aj rfl,Nat.mul_one] at *;have b:∀ d∈ds.take len,d.one=true:=fun d f=>c d (ir f)
  refine⟨by simp;omega,fun e g=>?_,lv _ b⟩;have i:=b e g;cases e <;> first | rfl | simp [D.one] at i
 ·rw [ab a];exact⟨HG z len ds,HH len ds h,HI len ds h⟩
def wr(a:List D):List AV:=(D.flat a).map .d
def fl:Bool->Option aO
 | true=>some default
 | false=>none
def fy(n o z l c:Nat):AV:=if c=0 then .d (.sl z []) else .aE n o z l c
def dC(p:List (Nat×HO))(k:Ext)(u:List AV):Option ry :=
 match k with
 | .oi K H=>match u with
  | [x,y]=>match x.mZ,y.mZ with
   | some R,some E=>some {c:=hz H R E,v:=.d (.lit (.bool (K ^^ gC R E)))}
   | _,_=>none
  | _=>none
 | .rf K=>match u with
  | [.d (.lit (.bool a)),.d (.lit (.bool b))]=>some {c:=True,v:=.d (.lit (.bool (K ^^ (a == b))))}
  | _=>none
 | .isNil K=>match u with
  | [.d (.lit .nilIface)]=>some {c:=True,v:=.d (.lit (.bool !K))}
  | [.d (.cQ _ _)]=>some {c:=True,v:=.d (.lit (.bool K))}
  | _=>none
 | .pL=>match u with
  | [.d (.lit (.string s)),.d (.lit (.int _ i))]=>some {c:=0<=i/\i<s.data.toList.length,v:=.d (.lit (.int .u8 (s.data.toList.getD i.toNat 0).toNat))}
  | _=>none
 | .shift left=>match u with
  | [.d (.lit (.int k a)),.d (.lit (.int _ b))]=>some {c:=0<=b,v:=.d (.lit (pQ left k a b))}
  | _=>none
 | .lX t z=>match u with
  | [.d (.cQ S d)]=>some {c:=True,v:=.d (.af [if S=t then d else z,.lit (.bool (decide (S=t)))])}
  | [.d (.lit .nilIface)]=>some {c:=True,v:=.d (.af [z,.lit (.bool false)])}
  | _=>none
 | .eD=>match u with
  | [.ptr n o]=>some {c:=True,v:=.ptr n o}
  | [.d (.ip x)]=>some {c:=True,v:=.d (.ip x)}
  | _=>none
 | .jl=>match u with
  | []=>some {c:=True,v:=.mp (newName p),up:=[(newName p,.aA [])]}
  | _=>none
 | .insert L=>match u with
  | [.mp n,.d (.lit k),I]=>match look p n with
   | some (.aA j)=>match dJ k j with
    | some none=>some {c:=fT L k=true,v:=.af [],ao:=[(n,.aA j)],up:=[(n,.aA (j++[(k,I)]))]}
    | some (some _)=>some {c:=fT L k=true,v:=.af [],ao:=[(n,.aA j)],up:=[(n,.aA (fj k I j))]}
    | _=>none
   | _=>none
  | _=>none
 | .lookup L M z=>match u with
  | [.mp n,.d (.lit k)]=>match look p n with
   | some (.aA j)=>match dJ k j with
    | some (some I)=>some {c:=fT L k=true,v:=m_ M I true,ao:=[(n,.aA j)]}
    | some none=>some {c:=fT L k=true,v:=m_ M (.d z) false,ao:=[(n,.aA j)]}
    | none=>none
   | _=>none
  | [.d (.lit (.map none)),.d (.lit k)]=>some {c:=fT L k=true,v:=m_ M (.d z) false}
  | _=>none
 | .mW=>match u with
  | [.d (.nil _)]=>some {c:=True,v:=.d (.lit (.int .i64 0))}
  | _=>none
 | .oj g bytes=>match u with
  | [.d (.nil _),.d (.lit (.int _ n))]=>some {c:=0<n/\n.toNat*bytes<=140737488355328/\n<=9223372036854775807,v:=.spare (newName p) g n.toNat,up:=[(newName p,.row)]}
  | _=>none
 | .rv g bytes z=>match u with
  | [.d (.nil _),.d (.lit (.int _ n))]=>some {c:=0<n/\n.toNat*bytes<=140737488355328/\n<=9223372036854775807,v:=.aE (newName p) 0 g n.toNat n.toNat,up:=[(newName p,.box true (wr (List.replicate n.toNat z)))]}
  | _=>none
 | .ls=>match u with
  | [.d x]=>some {c:=(AV.d x).cg=true,v:=.d (.ip x)}
  | _=>none
 | .ri f=>match u with
  | .ptr n 0::r=>match look p n,cq r with
   | some (.box B w),some C=>match cq w with
    | some j=>some {c:=B=true\/j.length=1,v:=.d (.fn f [] (.ip (tm B j)::C)),ao:=[(n,.box B w)],up:=[(n,.dead)]}
    | none=>none
   | _,_=>none
  | _=>none
 | .rj g=>match u with
  | []=>some {c:=True,v:=.e0 g}
  | _=>none
 | .rm g bytes=>match u with
  | [.e0 _,y]=>match y.elems with
   | some (G,E)=>some {c:=E≠[]/\G=g/\E.length*bytes<=140737488355328/\E.length<=9223372036854775807,v:=.aE (newName p) 0 g E.length E.length,up:=[(newName p,.box true (wr E))]}
   | none=>none
  | [.own r N j,.aE q o z m _]=>match look p r,look p q with
   | some .row,some (.box B T)=>match cq T with
    | some U=>some {c:=(N=g/\z=g)/\0<m/\o+m*g<=U.length/\(j.length+m)*bytes<=140737488355328/\j.length+m<=9223372036854775807,v:=.own (newName p) g (j++e' g m (U.drop o)),ao:=[(r,.row),(q,.box B T)],up:=[(newName p,.row),(r,.dead)]}
    | none=>none
   | _,_=>none
  | _=>none
 | .fG g=>match u with
  | [.aE n o z l F,.d (.lit (.int _ i))]=>some {c:=z=g/\0<=i/\i<l,v:=.ptr n (o+i.toNat*g)}
  | _=>none
 | .mX _ g bytes=>match u with
  | [y]=>match y.elems with
   | some (_,[])=>some {c:=True,v:=.e0 g}
   | some (G,J::A)=>some {c:=G=g/\(A.length+1)*bytes<=140737488355328,v:=.aE (newName p) 0 g (A.length+1) (A.length+1),up:=[(newName p,.box true (wr (J::A)))]}
   | none=>none
  | _=>none
 | .pM g=>match iw u with
  | some j=>some {c:=((∀ e∈j,e.cells.length=g/\(∀ C,e≠.af C))/\j.length*g<=16777216)/\j≠[],v:=.aE (newName p) 0 g j.length j.length,up:=[(newName p,.box true (wr j))]}
  | none=>some {c:=(g=1/\∀ I∈u,I.one=true)/\u.length<=16777216/\u≠[],v:=.aE (newName p) 0 1 u.length u.length,up:=[(newName p,.box true u)]}
 | .iO=>match u with
  | [.aE n o z l F]=>some {c:=True,v:=.d (.lit (.int .i64 l))}
  | [.e0 _]=>some {c:=True,v:=.d (.lit (.int .i64 0))}
  | [x]=>match x.elems with
   | some (_,j)=>some {c:=True,v:=.d (.lit (.int .i64 j.length))}
   | none=>none
  | _=>none
 | .sliceB g lo V=>match u with
  | .aE b o z Y W::O=>match bound (fl lo) O 0 with
   | some (l,P)=>match bound (fl V) P Y with
    | some (h,[])=>some {c:=z=g/\0<=l/\l<=h/\h<=W,v:=fy b (o+l.toNat*z) z (h.toNat-l.toNat) (W-l.toNat)}
    | _=>none
   | none=>none
  | x::O=>match x.elems with
   | some (N,j)=>match bound (fl lo) O 0 with
    | some (l,P)=>match bound (fl V) P j.length with
     | some (h,[])=>some {c:=N=g/\0<=l/\l<=h/\h<=j.length,v:=rB x g ((j.take h.toNat).drop l.toNat)}
     | _=>none
    | none=>none
   | none=>none
  | _=>none
 | .oo g bytes z=>match u with
  | [.d (.lit (.int _ a)),.d (.lit (.int _ b))]=>some {c:=0<=a/\a<=b/\b.toNat*g<=16777216/\b.toNat*bytes<=281474976710656/\b<=9223372036854775807,v:=.aE (newName p) 0 g a.toNat b.toNat,up:=[(newName p,.box true (wr (List.replicate b.toNat z)))]}
  | _=>none
 | .rh g B n=>match u with
  | [.d (.agg w),.d (.lit (.int _ i))]=>some {c:=(0<=i/\i<n)/\i.toNat*g+g<=w.length/\(B=false->g=1),v:=.d (iv (i.toNat*g) g B (.agg w))}
  | [.agg w,.d (.lit (.int _ i))]=>some {c:=(0<=i/\i<n)/\i.toNat<w.length/\g=1/\B=false,v:=w.getD i.toNat default}
  | _=>none
 | .pN=>match u with
  | [.mp n]=>match look p n with
   | some (.aA j)=>some {c:=eB j=false/\j.length<=9223372036854775807,v:=.d (.lit (.int .i64 j.length)),ao:=[(n,.aA j)]}
   | _=>none
  | _=>none
 | .gY f=>match u with
  | [.fn (.func Z) [] [.ptr X 0],pl]=>match look p X,pl.mZ with
   | some (.box a0 [.aE n o z l F]),some [.lit (.int .i64 i),.lit (.int .i64 k)]=>match look p n with
    | some (.box B w)=>match w.getD (o+i.toNat) default with
     | .aE m a1 a2 b0 b1=>some {c:=(Z=f/\z=1/\a2=1/\o+i.toNat<w.length)/\(0<=i/\i<l)/\0<=k/\k<b0,v:=.ptr m (a1+k.toNat),ao:=[(X,.box a0 [.aE n o z l F]),(n,.box B w)]}
     | _=>none
    | _=>none
   | _,_=>none
  | _=>none
 | .pO _ g bytes=>match u with
  | [.aE n 0 z l _]=>match look p n with
   | some (.box B w)=>match cq w with
    | some C=>some {c:=(z=1/\g=1/\∀ d∈C,d.one=true)/\l<=C.length/\l*bytes<=140737488355328,v:=.own (newName p) g (C.take l),ao:=[(n,.box B w)],up:=[(newName p,.row)]}
    | none=>none
   | _=>none
  | [.e0 _]=>some {c:=True,v:=.own (newName p) g [],up:=[(newName p,.row)]}
  | [y]=>match y.elems with
   | some (G,E)=>some {c:=(G=g\/E=[])/\E.length*bytes<=140737488355328,v:=.own (newName p) g E,up:=[(newName p,.row)]}
   | none=>none
  | _=>none
 | .oq H=>match u with
  | [.mp n,Q,I]=>match look p n,pU Q with
   | some (.aA j),some k=>match dJ k j with
    | some none=>some {c:=dN H k/\∀ e∈j,dN H e.1,v:=.af [],ao:=[(n,.aA j)],up:=[(n,.aA (j++[(k,I)]))]}
    | some (some _)=>some {c:=dN H k/\∀ e∈j,dN H e.1,v:=.af [],ao:=[(n,.aA j)],up:=[(n,.aA (fj k I j))]}
    | none=>none
   | _,_=>none
  | _=>none
 | .ot H M z=>match u with
  | [.mp n,Q]=>match look p n,pU Q with
   | some (.aA j),some k=>match dJ k j with
    | some (some I)=>some {c:=dN H k/\∀ e∈j,dN H e.1,v:=m_ M I true,ao:=[(n,.aA j)]}
    | some none=>some {c:=dN H k/\∀ e∈j,dN H e.1,v:=m_ M (.d z) false,ao:=[(n,.aA j)]}
    | none=>none
   | _,_=>none
  | _=>none
 | .pushB g bytes=>match u with
  | [.aE n 0 z l F,y]=>match look p n,y.elems with
   | some (.box B w),some (G,J::A)=>if l+(A.length+1)<=F then some {c:=(z=g/\G=g)/\F*g<=w.length,v:=.aE n 0 g (l+(A.length+1)) F,ao:=[(n,.box B w)],up:=[(n,.box B (setAt w (l*g) (wr (J::A))))]}
    else match cq (w.take (l*g)) with
     | some C=>some {c:=(z=g/\G=g/\F*g<=w.length/\l<=F)/\(l+(A.length+1))*bytes<=140737488355328/\l+(A.length+1)<=9223372036854775807,v:=.aE (newName p) 0 g (l+(A.length+1)) (l+(A.length+1)),ao:=[(n,.box B w)],up:=[(newName p,.box true (C.map .d++wr (J::A))),(n,.dead)]}
     | none=>none
   | some (.box B w),some (_,[])=>some {c:=z=g/\l<=F,v:=.aE n 0 z l F,ao:=[(n,.box B w)]}
   | _,_=>none
  | [.d (.nil _),y]=>match y.elems with
   | some (G,J::A)=>some {c:=G=g/\(A.length+1)*bytes<=140737488355328/\A.length+1<=9223372036854775807,v:=.aE (newName p) 0 g (A.length+1) (A.length+1),up:=[(newName p,.box true (wr (J::A)))]}
   | _=>none
  | [.e0 _,y]=>match y.elems with
   | some (G,J::A)=>some {c:=G=g/\(A.length+1)*bytes<=140737488355328/\A.length+1<=9223372036854775807,v:=.aE (newName p) 0 g (A.length+1) (A.length+1),up:=[(newName p,.box true (wr (J::A)))]}
   | _=>none
  | _=>none
 | .lY g=>match iw u with
  | some j=>some {c:=(∀ e∈j,e.cells.length=g/\(∀ C,e≠.af C))/\j.length*g<=16777216,v:=.d (.sl g j)}
  | none=>none
 | .rq _=>match u with
  | [.aE n 0 z l F]=>match look p n with
   | some (.box B w)=>match cq w with
    | some C=>some {c:=(z=1/\l<=1000)/\l<=C.length/\∀ d∈C.take l,∃ a:Int,d=.lit (.int .i64 a),v:=.d (.af []),ao:=[(n,.box B w)],up:=[(n,.box B (((gI ((C.take l).map D.num)).map fun a=>.d (.lit (.int .i64 a)))++(C.drop l).map .d))]}
    | none=>none
   | _=>none
  | _=>none
 | .ru _=>match u with
  | [.aE n 0 z l F]=>match look p n with
   | some (.box B w)=>match cq w with
    | some C=>some {c:=(z=1/\l<=1000)/\l<=C.length/\∀ d∈C.take l,∃ a:Int,d=.lit (.int .i64 a),v:=.d (.sl 1 ((gj ((C.take l).map D.num)).map fun a=>.lit (.int .i64 a))),ao:=[(n,.box B w)],up:=[(n,.dead)]}
    | none=>none
   | _=>none
  | _=>none
 | .rp g bytes z=>match u with
  | [.d (.lit (.int _ a)),.d (.lit (.int _ b))]=>some {c:=a=b/\0<=a/\a.toNat*g<=16777216/\a.toNat*bytes<=281474976710656/\a<=9223372036854775807,v:=.d (.sl g (List.replicate a.toNat z))}
  | _=>none
 | .om g bytes z=>match u with
  | [.d (.lit (.int _ a)),.d (.lit (.int _ b))]=>some {c:=a=b/\0<=a/\a.toNat*g<=16777216/\a.toNat*bytes<=281474976710656/\a<=9223372036854775807,v:=.own (newName p) g (List.replicate a.toNat z),up:=[(newName p,.row)]}
  | _=>none
def dY(q:List (Nat×HO))(G:ei)(g:List AV):Option ry :=
 match G with
 | .ak _=>match g with
  | [B]=>some {c:=True,v:=B}
  | _=>none
 | .pick ..=>match g with
  | [.d (.lit (.bool F)),.d (.lit (.bool x)),.d (.lit (.bool y))]=>some {c:=True,v:=.d (.lit (.bool (bif F then x else y)))}
  | _=>none
 | .alloc p z=>match g with
  | []=>some {c:=True,v:=.ptr (newName q) 0,up:=[(newName q,.box p (z.map .d))]}
  | _=>none
 | .box p _=>match g with
  | [B]=>some {c:=B.cg=true,v:=.ptr (newName q) 0,up:=[(newName q,.box p B.cells)]}
  | _=>none
 | .build z ps=>some {c:=mY ps g z.length,v:=tl (pS (z.map .d) ps g)}
 | .eg d _=>match iw g with
  | some j=>some {c:=(∀ e∈j,e.cells.length=d/\(∀ M,e≠.af M))/\j.length*d<=16777216,v:=.own (newName q) d j,up:=[(newName q,.row)]}
  | none=>none
 | .load d p _=>match g with
  | [.ptr n o]=>match look q n with
   | some (.box H w)=>some {c:=o+d<=w.length/\(p=false->d=1),v:=ow o d p w,ao:=[(n,.box H w)]}
   | _=>none
  | [.d (.ip x)]=>some {c:=x.fits d p/\(p=false->d=1),v:=.d x}
  | _=>none
 | .store d _ _=>match g with
  | [.ptr n o,B]=>match look q n with
   | some (.box H w)=>some {c:=B.cells.length=d/\B.cg=true/\o+d<=w.length,v:=.af [],ao:=[(n,.box H w)],up:=[(n,.box H (setAt w o B.cells))]}
   | _=>none
  | _=>none
 | .arith G _ _=>match g with
  | [.d (.lit (.int k a)),.d (.lit (.int I b))]=>match xO G k a b with
   | some (F,r)=>some {c:=k=I/\F,v:=.d (.lit r)}
   | none=>none
  | [.d (.lit (.string a)),.d (.lit (.string b))]=>match cA G a b with
   | some (F,r)=>some {c:=F,v:=.d (.lit r)}
   | none=>none
  | _=>none
 | .not _=>match g with
  | [.d (.lit (.bool b))]=>some {c:=True,v:=.d (.lit (.bool !b))}
  | _=>none
 | .field E C p _=>match g with
  | [.ptr n o]=>some {c:=True,v:=.ptr n (o+E)}
  | [.d (.ip x)]=>some {c:=E+C<=x.cells.length/\(p=false->C=1),v:=.d (.ip (iv E C p x))}
  | _=>none
 | .ou E C p _=>match g with
  | [.d (.agg w)]=>some {c:=E+C<=w.length/\(p=false->C=1),v:=.d (iv E C p (.agg w))}
  | _=>none
 | .index d _ _=>match g with
  | [x,.d (.lit (.int _ i))]=>match x.elems with
   | some (D,j)=>some {c:=D=d/\0<=i/\i<j.length,v:=.d (.ip (j.getD i.toNat default))}
   | none=>none
  | _=>none
 | .pP d p n _ _=>match g with
  | [.ptr b o,.d (.lit (.int _ i))]=>some {c:=0<=i/\i<n,v:=.ptr b (o+i.toNat*d)}
  | [.d (.ip x),.d (.lit (.int _ i))]=>some {c:=0<=i/\i<n/\i.toNat*d+d<=x.cells.length/\(p=false->d=1),v:=.d (.ip (iv (i.toNat*d) d p x))}
  | _=>none
 | .ov _ lo J=>match g with
  | .d (.lit (.string s))::u=>match bound lo u 0 with
   | some (l,K)=>match bound J K s.data.toList.length with
    | some (h,[])=>some {c:=0<=l/\l<=h/\h<=s.data.toList.length,v:=.d (.lit (.string ⟨((s.data.toList.take h.toNat).drop l.toNat).toArray⟩))}
    | _=>none
   | none=>none
  | _=>none
 | .slice d _ lo J=>match lo,g with
  | none,[.spare r z _,.d (.lit (.int _ i))]=>some {c:=z=d/\i=0,v:=.own r z []}
  | lo,x::u=>match x.elems with
   | some (D,j)=>match bound lo u 0 with
    | some (l,K)=>match bound J K j.length with
     | some (h,[])=>some {c:=D=d/\0<=l/\l<=h/\h<=j.length,v:=rB x d ((j.take h.toNat).drop l.toNat)}
     | _=>none
    | none=>none
   | none=>none
  | _,_=>none
 | .slice3 d _ lo _ _=>match g with
  | x::u=>match x.elems with
   | some (D,j)=>match bound lo u 0 with
    | some (l,[.d (.lit (.int _ h)),.d (.lit (.int _ m))])=>some {c:=D=d/\0<=l/\l<=h/\h<=j.length/\m=h,v:=.own (newName q) d ((j.take h.toNat).drop l.toNat),up:=[(newName q,.row)]}
    | _=>none
   | none=>none
  | _=>none
 | .dH _=>match g with
  | [.d (.lit (.string s))]=>some {c:=True,v:=.d (.lit (.int .i64 s.size))}
  | _=>none
 | .len _=>match g with
  | [x]=>match x.elems with
   | some (_,j)=>some {c:=True,v:=.d (.lit (.int .i64 j.length))}
   | none=>none
  | _=>none
 | .append d bytes _ _=>match g with
  | [.own r D j,y]=>match look q r with
   | some .row=>match y.elems with
    | some (L,A)=>some {c:=D=d/\(A=[]\/L=d)/\(j.length+A.length)*bytes<=140737488355328/\j.length+A.length<=9223372036854775807,v:=.own (newName q) d (j++A),ao:=[(r,.row)],up:=[(newName q,.row),(r,.dead)]}
    | none=>none
   | _=>none
  | [.d (.nil _),y]=>match y.elems with
   | some (L,A)=>some {c:=(A=[]\/L=d)/\A.length*bytes<=140737488355328/\A.length<=9223372036854775807,v:=.own (newName q) d A,up:=[(newName q,.row)]}
   | none=>none
  | _=>none
 | .hy N _ _=>match g with
  | [.d (.lit (.int k a)),.d (.lit (.int I b))]=>some {c:=k=I,v:=.d (.lit (.int k (if N then (if b>a then b else a) else (if b<a then b else a))))}
  | _=>none
 | .func f a _=>some {c:=True,v:=.fn f (g.take a.length) (g.drop a.length)}
 | .extract _ i=>match g with
  | [.af u]=>some {c:=i<u.length,v:=u.getD i default}
  | [.d (.af u)]=>some {c:=i<u.length,v:=.d (u.getD i default)}
  | _=>none
 | .conv k _=>match g with
  | [.d (.lit (.int _ a))]=>some {c:=True,v:=.d (.lit (.int k (k.wrap a)))}
  | _=>none
 | .cQ t _=>match g with
  | [.d x]=>some {c:=True,v:=.d (.cQ t x)}
  | _=>none
 | .ext k _=>dC q k g
def Fr(a:Option Nat):Fence:={Fence.wide with round:=a}
section
variable {P:Program}{ro:Option Nat}{o:Oper}{a:Act}{w w':World}{K:Act->World->Prop}{Q:Exit->Act->World->Prop}
theorem fk(b:∀ c,o.op≠.defer c){v:Value}(d:(execOp a.eval o).run P w=.ok (.value v) w')(h:K (a.put o.dst v) w'):o.wpIn (Fr ro) 0 P a w K Q:=by refine⟨fun f _=>trivial,?_⟩;show o.uponIn (Fr ro) 0 P a K Q ((o.semAt ro a.eval).run P w);rw [Az ro a.eval o b,d];exact h
theorem vv(b:∀ c,o.op≠.defer c)(d:(execOp a.eval o).run P w=.ok .skip w')(h:K (a.put o.dst undef) w'):o.wpIn (Fr ro) 0 P a w K Q:=by refine⟨fun f _=>trivial,?_⟩;show o.uponIn (Fr ro) 0 P a K Q ((o.semAt ro a.eval).run P w);rw [Az ro a.eval o b,d];exact h
end
def Zero(z:List D)(a:Array Value):Prop:=(∀ I w,gX I w z a)/\∀ c∈z,c.one=true
inductive bH {α β:Type}(R:α->β->Prop):List α->List β->Prop
 | nil:bH R [] []
 | cons {x:α}{y:β}{l:List α}{m:List β}(h:R x y) (t:bH R l m):bH R (x::l) (y::m)
inductive gZ:Option Operand->Option aO->Prop
 | none:gZ none none
 | some {x:Operand}{x':aO}(h:CO x x'):gZ (some x) (some x')
def vw(P:Program)(K:TypeId->Option (List SK)):Nat->List Field->Option (List SK)
 | _,[]=>some []
 | off,f::r=>match K f.type with
  | some a=>if f.offset=off/\P.cellsOf f.type=a.length then (vw P K (off+a.length) r).map (a++·) else none
  | none=>none
def hB(P:Program):Nat->TypeId->Option (List SK)
 | 0,_=>none
 | m+1,t=>match P.underlying t with
  | some .bool=>some [.bool]
  | some (.int k)=>some [.int k]
  | some .string=>some [.str]
  | some (.array n e)=>match hB P m e with
   | some a=>if P.cellsOf e=a.length/\P.cellsOf t=n*a.length then some (List.replicate n a).flatten else none
   | none=>none
  | some (.struct b)=>match vw P (hB P m) 0 b.toList with
   | some a=>if P.cellsOf t=a.length/\b.all (·.name != "_")=true then some a else none
   | none=>none
  | _=>none
def ox(P:Program)(t:TypeId):Bool:=P.keyType t&&(P.keyTypeAt 20 t&&(P.tiled 20 t&&((match P.underlying t with | some (.array _ _) | some (.struct _)=>true | _=>false)&&decide (P.cellsOf t=((hB P (P.types.size+1) t).getD []).length))))
def SK.desc:SK->TypeDesc
 | .int k=>.int k
 | .bool=>.bool
 | .str=>.string
def m'(P:Program)(f:FuncId):Prop:=∃ a,P.funcs[f]?=some a/\(a.name == "runtime.NumGoroutine")=false/\a.body.isNone=false
structure iz (P:Program) (f:FuncId) (sz bytes:Nat):Prop where
 call:m' P f
 pos:0<sz
 run:∀ (w:World) (A:Option Addr) (n c:Nat) (cs:List Value),n<=c->c<=9223372036854775807->cs.length=n*sz->(A=none->n=0)->(∀ ad,A=some ad->∀ (j:Nat) (u:Value),cs[j]?=some u->w.cell? (ad.add j)=some u)->(∀ u∈cs,u.oneCell'=true)->n*bytes<=140737488355328 ->Calls P f #[.slice A n c] w fun e w'=>ct w w'/\((n=0/\∃ A',e=.returned (.slice A' 0 0))\/(0<n/\∃ (N ncap:Nat) (arr:Array Value) (ty:TypeId),e=.returned (.slice (some ⟨N,0,none⟩) n ncap)/\w.heap.size<=N/\w'.heap[N]?=some (.cells arr ty (0,0))/\n<=ncap/\ncap<=9223372036854775807/\ncap*sz<=arr.size/\∀ (j:Nat) (u:Value),cs[j]?=some u->arr[j]?=some u))
structure xQ (P:Program) (f:FuncId):Prop where
 call:m' P f
 run:∀ (w:World) (b0 b1 b2 o1 o2 l1 c1 l2 c2 i k:Nat),w.cell? ⟨b0,0,none⟩=some (.slice (some ⟨b1,o1,none⟩) l1 c1)->i<l1->w.cell? ⟨b1,o1+i,none⟩=some (.slice (some ⟨b2,o2,none⟩) l2 c2)->k<l2 ->Calls P f #[.agg #[.int .i64 i,.int .i64 k],.pointer (some ⟨b0,0,none⟩)] w fun e w'=>e=.returned (.pointer (some ⟨b2,o2+k,none⟩))/\ct w w'
structure xR (P:Program) (f:FuncId):Prop where
 call:m' P f
 run:∀ (w:World) (b n c:Nat) (cs:List Int) (arr:Array Value) (ty:TypeId),cs.length=n->n<=1000->n<=c->c<=9223372036854775807->w.heap[b]?=some (.cells arr ty (0,0))->n<=arr.size->(∀ (j:Nat) (a:Int),cs[j]?=some a->arr[j]?=some (.int .i64 a))->(∀ a∈cs,-9223372036854775808<=a/\a<=9223372036854775807) ->Calls P f #[.slice (some ⟨b,0,none⟩) n c] w fun e w'=>e=.returned (.tuple #[])/\(w'.os=w.os/\w'.tape=w.tape/\w'.output=w.output/\w.heap.size<=w'.heap.size)/\(∀ k,k<w.heap.size->k≠b->w'.heap[k]?=w.heap[k]?) /\∃ arr':Array Value,w'.heap[b]?=some (.cells arr' ty (0,0))/\arr'.size=arr.size/\(∀ (j:Nat) (a:Int),(gI cs)[j]?=some a->arr'[j]?=some (.int .i64 a))/\∀ j,n<=j->arr'[j]?=arr[j]?
structure xS (P:Program) (f:FuncId):Prop where
 call:m' P f
 run:∀ (w:World) (b n c:Nat) (cs:List Int) (arr:Array Value) (ty:TypeId),cs.length=n->n<=1000->n<=c->c<=9223372036854775807->w.heap[b]?=some (.cells arr ty (0,0))->n<=arr.size->(∀ (j:Nat) (a:Int),cs[j]?=some a->arr[j]?=some (.int .i64 a))->(∀ a∈cs,-9223372036854775808<=a/\a<=9223372036854775807) ->Calls P f #[.slice (some ⟨b,0,none⟩) n c] w fun e w'=>(∃ c',e=.returned (.slice (some ⟨b,0,none⟩) (gj cs).length c')/\(gj cs).length<=c'/\c'<=9223372036854775807/\(gj cs).length<=n)/\(w'.os=w.os/\w'.tape=w.tape/\w'.output=w.output/\w.heap.size<=w'.heap.size)/\(∀ k,k<w.heap.size->k≠b->w'.heap[k]?=w.heap[k]?) /\∃ arr':Array Value,w'.heap[b]?=some (.cells arr' ty (0,0))/\arr'.size=arr.size/\(∀ (j:Nat) (a:Int),(gj cs)[j]?=some a->arr'[j]?=some (.int .i64 a))/\∀ a∈gj cs,a∈cs
inductive dD (P:Program) (o:Oper):Ext->List aO->Prop
 | oi {neg t u x y x' y' ks} (h:o.op=.binOp (if neg then .neq else .eql) t x y u) (hx:CO x x') (hy:CO y y') (hk:hB P 20 t=some ks) (hkey:P.keyTypeAt 20 t=true) (hg:P.eqGuardType P.depth t=false)
   (hc:P.cellsOf t=ks.length) (hr:(match P.underlying t with | some (.array _ _) | some (.struct _)=>true | _=>false)=true):dD P o (.oi neg ks) [x',y']
 | rf {neg t u x y x' y'} (h:o.op=.binOp (if neg then .neq else .eql) t x y u) (hx:CO x x') (hy:CO y y') (hu:P.underlying t=some .bool):dD P o (.rf neg) [x',y']
 | isNil {neg t u x x' ms} (h:o.op=.binOp (if neg then .neq else .eql) t x (.const .nilIface) u) (hx:CO x x') (hu:P.underlying t=some (.interface ms)):dD P o (.isNil neg) [x']
 | pL {t x y x' y'} (h:o.op=.index t x y) (hx:CO x x') (hy:CO y y') (hu:P.underlying t=some .string):dD P o .pL [x',y']
 | shift {left t u x y x' y'} (h:o.op=.binOp (if left then .shl else .shr) t x y u) (hx:CO x x') (hy:CO y y'):dD P o (.shift left) [x',y']
 | lX {x x' st t i zv z desc} (h:o.op=.typeAssert x st t true) (hx:CO x x') (hu:P.underlying t=some desc) (hd:∀ ms,desc≠.interface ms) (hi:P.info? t=some i) (hz:i.zero=some zv) (hzz:∀ I w,au I w z zv):dD P o (.lX t z) [x']
 | pN {x x' t k e} (h:o.op=.call {callee:=.builtin .len,args:=#[x],argTypes:=#[t]}) (hx:CO x x') (hu:P.underlying t=some (.map k e)):dD P o .pN [x']
 | eD {x x'} (h:o.op=.nilCheck x) (hx:CO x x'):dD P o .eD [x']
 | jl {t} (h:o.op=.makeMap t none):dD P o .jl []
 | insert {mt kt et m k v m' k' v' sk} (h:o.op=.insert mt m k v\/o.op=.mapUpdate mt m k v) (hm:CO m m') (hk:CO k k') (hv:CO v v') (hu:P.underlying mt=some (.map kt et)) (hkt:P.underlying kt=some (SK.desc sk)):dD P o (.insert sk) [m',k',v']
 | lookup {mt kt et m k m' k' sk ok i zv z} (h:o.op=.lookup mt m k ok) (hm:CO m m') (hk:CO k k') (hu:P.underlying mt=some (.map kt et)) (hkt:P.underlying kt=some (SK.desc sk)) (hi:P.info? et=some i) (hz:i.zero=some zv) (hzz:∀ I w,au I w z zv):dD P o (.lookup sk ok z) [m',k']
 | mW {x x' t e} (h:o.op=.call {callee:=.builtin .cap,args:=#[x],argTypes:=#[t]}) (hx:CO x x') (hu:P.underlying t=some (.slice e)):dD P o .mW [x']
 | oj {t tn e i zv x y x' y' sz bytes kn} (h:o.op=.call {callee:=.builtin .append,args:=#[x,y],argTypes:=#[t,tn]}) (hx:CO x x') (hy:CO y y') (hu:P.underlying t=some (.slice e)) (htn:P.underlying tn=some (.int kn))
   (hi:P.info? e=some i) (hs:i.size=sz) (hb:i.bytes=bytes) (hz:i.zero=some zv) (hzs:zv.cells.size=sz) (hs0:0<sz):dD P o (.oj sz bytes) [x',y']
 | rv {t tn e i zv z x y x' y' sz bytes kn} (h:o.op=.call {callee:=.builtin .append,args:=#[x,y],argTypes:=#[t,tn]}) (hx:CO x x') (hy:CO y y') (hu:P.underlying t=some (.slice e)) (htn:P.underlying tn=some (.int kn))
   (hi:P.info? e=some i) (hs:i.size=sz) (hb:i.bytes=bytes) (hz:i.zero=some zv) (hzz:∀ I w,au I w z zv) (hzs:z.cells.length=sz) (hone:∀ ds,z≠.af ds) (hs0:0<sz):dD P o (.rv sz bytes z) [x',y']
 | om {t e i l c l' c' zv z sz bytes} (h:o.op=.makeSlice t l c) (hl:CO l l') (hc:CO c c') (hu:P.underlying t=some (.slice e)) (hi:P.info? e=some i) (hs:i.size=sz) (hb:i.bytes=bytes) (hz:i.zero=some zv)
   (hzz:∀ I w,au I w z zv) (hzs:z.cells.length=sz) (hone:∀ ds,z≠.af ds) (hs0:0<sz):dD P o (.om sz bytes z) [l',c']
 | rh {t e n i d sz ag x y x' y'} (h:o.op=.index t x y) (hx:CO x x') (hy:CO y y') (hu:P.underlying t=some (.array n e)) (hi:P.info? e=some i) (hs:i.size=sz) (hd:P.underlying e=some d) (hag:d.isRow=ag):dD P o (.rh sz ag n) [x',y']
 | ls {t x x'} (h:o.op=.box t x) (hx:CO x x'):dD P o .ls [x']
 | rj {t e i sz parts} (h:o.op=.buildSlice t 0 parts) (hu:P.underlying t=some (.slice e)) (hi:P.info? e=some i) (hp:parts=#[]):dD P o (.rj sz) []
 | rm {t e i zv x y x' y' sz bytes} (h:o.op=.call {callee:=.builtin .append,args:=#[x,y],argTypes:=#[t,t]}) (hx:CO x x') (hy:CO y y') (hu:P.underlying t=some (.slice e))
   (hi:P.info? e=some i) (hs:i.size=sz) (hb:i.bytes=bytes) (hz:i.zero=some zv) (hzs:zv.cells.size=sz) (hs0:0<sz):dD P o (.rm sz bytes) [x',y']
 | fG {t e x j x' j' i sz} (h:o.op=.indexAddr t x j) (hx:CO x x') (hj:CO j j') (hu:P.underlying t=some (.slice e)) (hi:P.info? e=some i) (hs:i.size=sz):dD P o (.fG sz) [x',j']
 | mX {f x x' ts sz bytes} (h:o.op=.call {callee:=.value (.func f),args:=#[x],argTypes:=ts}) (hx:CO x x') (hl:iz P f sz bytes):dD P o (.mX f sz bytes) [x']
 | lY {t e i sz zv len parts ps} (h:o.op=.buildSlice t len parts) (hu:P.underlying t=some (.slice e)) (hi:P.info? e=some i) (hs:i.size=sz) (hs0:0<sz) (hz:i.zero=some zv) (hzs:zv.cells.size=sz)
   (hl:len=ps.length) (hps:∃ xs:List Operand,parts.toList=(xs.zipIdx 0).map (fun x=>(x.2,x.1))/\bH CO xs ps):dD P o (.lY sz) ps
 | rp {sz bytes z xs} (h:dD P o (.om sz bytes z) xs):dD P o (.rp sz bytes z) xs
 | gY {f g x g' x' ts} (h:o.op=.call {callee:=.value g,args:=#[x],argTypes:=ts}) (hg:CO g g') (hx:CO x x') (hl:xQ P f):dD P o (.gY f) [g',x']
 | pO {f x x' ts sz bytes} (h:o.op=.call {callee:=.value (.func f),args:=#[x],argTypes:=ts}) (hx:CO x x') (hl:iz P f sz bytes):dD P o (.pO f sz bytes) [x']
 | oq {mt kt et m k v m' k' v' ks} (h:o.op=.insert mt m k v\/o.op=.mapUpdate mt m k v) (hm:CO m m') (hk:CO k k') (hv:CO v v') (hu:P.underlying mt=some (.map kt et)) (hks:hB P (P.types.size+1) kt=some ks) (hkt:ox P kt=true):dD P o (.oq ks) [m',k',v']
 | ot {mt kt et m k m' k' ks ok i zv z} (h:o.op=.lookup mt m k ok) (hm:CO m m') (hk:CO k k') (hu:P.underlying mt=some (.map kt et)) (hks:hB P (P.types.size+1) kt=some ks) (hkt:ox P kt=true) (hi:P.info? et=some i) (hz:i.zero=some zv) (hzz:∀ I w,au I w z zv):dD P o (.ot ks ok z) [m',k']
 | pushB {t e i zv x y x' y' sz bytes} (h:o.op=.call {callee:=.builtin .append,args:=#[x,y],argTypes:=#[t,t]}) (hx:CO x x') (hy:CO y y') (hu:P.underlying t=some (.slice e))
   (hi:P.info? e=some i) (hs:i.size=sz) (hb:i.bytes=bytes) (hz:i.zero=some zv) (hzs:zv.cells.size=sz) (hs0:0<sz):dD P o (.pushB sz bytes) [x',y']
 | rq {f x x' ts} (h:o.op=.call {callee:=.value (.func f),args:=#[x],argTypes:=ts}) (hx:CO x x') (hl:xR P f):dD P o (.rq f) [x']
 | ru {f x x' ts} (h:o.op=.call {callee:=.value (.func f),args:=#[x],argTypes:=ts}) (hx:CO x x') (hl:xS P f):dD P o (.ru f) [x']
 | pM {t e i sz zv len parts ps} (h:o.op=.buildSlice t len parts) (hu:P.underlying t=some (.slice e)) (hi:P.info? e=some i) (hs:i.size=sz) (hs0:0<sz) (hz:i.zero=some zv) (hzs:zv.cells.size=sz)
   (hl:len=ps.length) (hps:∃ xs:List Operand,parts.toList=(xs.zipIdx 0).map (fun x=>(x.2,x.1))/\bH CO xs ps):dD P o (.pM sz) ps
 | sliceB {t e x lo hi x' lo' hi' i sz a b} (h:o.op=.slice t x lo hi none) (hx:CO x x') (hlo:gZ lo lo') (hhi:gZ hi hi') (hu:P.underlying t=some (.slice e)) (hie:P.info? e=some i) (hs:i.size=sz) (ha:a=lo'.isSome) (hb:b=hi'.isSome):dD P o (.sliceB sz a b) (x'::(gz lo'++gz hi'))
 | oo {t e i l c l' c' zv z sz bytes} (h:o.op=.makeSlice t l c) (hl:CO l l') (hc:CO c c') (hu:P.underlying t=some (.slice e)) (hi:P.info? e=some i) (hs:i.size=sz) (hb:i.bytes=bytes) (hz:i.zero=some zv)
   (hzz:∀ I w,au I w z zv) (hzs:z.cells.length=sz) (hone:∀ ds,z≠.af ds) (hs0:0<sz):dD P o (.oo sz bytes z) [l',c']
 | iO {x x' t e} (h:o.op=.call {callee:=.builtin .len,args:=#[x],argTypes:=#[t]}) (hx:CO x x') (hu:P.underlying t=some (.slice e)):dD P o .iO [x']
 | ri {f first az caps'} (h:o.op=.makeFunc f first az) (hf:first.toList=[]) (hc:bH CO az.toList caps'):dD P o (.ri f) caps'
inductive ep (P:Program) (o:Oper):ei->Prop
 | ak {x x'} (h:o.op=.move x\/o.op=.assign x) (hx:CO x x'):ep P o (.ak x')
 | pick {c a b c' a' b'} (h:o.op=.pick c a b) (hc:CO c c') (ha:CO a a') (hb:CO b b'):ep P o (.pick c' a' b')
 | alloc {t i zv ag z} (h:o.op=.alloc t) (hi:P.info? t=some i) (hz:i.zero=some zv) (hzz:Zero z zv.cells):ep P o (.alloc ag z)
 | box {t x x' ag} (h:o.op=.box t x) (hx:CO x x'):ep P o (.box ag x')
 | build {t i zv z parts ps} (h:o.op=.build t parts) (hi:P.info? t=some i) (hz:i.zero=some zv) (hzz:Zero z zv.cells)
   (place:Nat->Option (Nat×Nat)) (hp:∀ l,P.built t l=Instr.fill place zv.cells l)
   (hps:bH (fun(p:Nat×Operand) (q:Nat×Nat×aO)=>place p.1=some (q.1,q.2.1)/\CO p.2 q.2.2) parts.toList ps):ep P o (.build z ps)
 | eg {t e i sz zv len parts ps} (h:o.op=.buildSlice t len parts) (hu:P.underlying t=some (.slice e)) (hi:P.info? e=some i) (hs:i.size=sz) (hs0:0<sz) (hz:i.zero=some zv) (hzs:zv.cells.size=sz)
   (hl:len=ps.length) (hps:∃ xs:List Operand,parts.toList=(xs.zipIdx 0).map (fun x=>(x.2,x.1))/\bH CO xs ps):ep P o (.eg sz ps)
 | load {t x x' i d sz ag} (h:o.op=.load t x) (hx:CO x x') (hi:P.info? t=some i) (hs:i.size=sz) (hu:P.underlying t=some d) (hag:d.isRow=ag):ep P o (.load sz ag x')
 | store {t x y x' y' i sz} (h:o.op=.store t x y) (hx:CO x x') (hy:CO y y') (hi:P.info? t=some i) (hs:i.size=sz):ep P o (.store sz x' y')
 | arith {op t u x y x' y'} (h:o.op=.binOp op t x y u) (hx:CO x x') (hy:CO y y') (hop:op≠.shl/\op≠.shr):ep P o (.arith op x' y')
 | not {t x x'} (h:o.op=.unOp .not t x) (hx:CO x x'):ep P o (.not x')
 | field {s x x' fs f fd i fsz ag} (h:o.op=.fieldAddr s x f) (hx:CO x x') (hu:P.underlying s=some (.struct fs)) (hf:fs[f]?=some fd) (hi:P.info? fd.type=some i) (hs:i.size=fsz) (hs0:fsz≠0):ep P o (.field fd.offset fsz ag x')
 | ou {s x x' fs f fd i d fsz ag} (h:o.op=.field s x f) (hx:CO x x') (hu:P.underlying s=some (.struct fs)) (hf:fs[f]?=some fd) (hi:P.info? fd.type=some i) (hs:i.size=fsz)
   (hd:P.underlying fd.type=some d) (hag:d.isRow=ag):ep P o (.ou fd.offset fsz ag x')
 | index {t e x j x' j' i sz} (h:o.op=.indexAddr t x j) (hx:CO x x') (hj:CO j j') (hu:P.underlying t=some (.slice e)) (hi:P.info? e=some i) (hs:i.size=sz):ep P o (.index sz x' j')
 | pP {t e n x j x' j' i sz ag} (h:o.op=.indexAddr t x j) (hx:CO x x') (hj:CO j j') (hu:P.underlying t=some (.array n e)) (hi:P.info? e=some i) (hs:i.size=sz):ep P o (.pP sz ag n x' j')
 | slice {t e x lo hi x' lo' hi' i sz} (h:o.op=.slice t x lo hi none) (hx:CO x x') (hlo:gZ lo lo') (hhi:gZ hi hi') (hu:P.underlying t=some (.slice e)) (hie:P.info? e=some i) (hs:i.size=sz):ep P o (.slice sz x' lo' hi')
 | ov {t x lo hi x' lo' hi'} (h:o.op=.slice t x lo hi none) (hx:CO x x') (hlo:gZ lo lo') (hhi:gZ hi hi') (hu:P.underlying t=some .string):ep P o (.ov x' lo' hi')
 | slice3 {t e x lo hi mx x' lo' hi' mx' i sz} (h:o.op=.slice t x lo (some hi) (some mx)) (hx:CO x x') (hlo:gZ lo lo') (hhi:CO hi hi') (hmx:CO mx mx') (hu:P.underlying t=some (.slice e)) (hie:P.info? e=some i) (hs:i.size=sz):ep P o (.slice3 sz x' lo' hi' mx')
 | len {x x' t e} (h:o.op=.call {callee:=.builtin .len,args:=#[x],argTypes:=#[t]}) (hx:CO x x') (hu:P.underlying t=some (.slice e)):ep P o (.len x')
 | dH {x x' t} (h:o.op=.call {callee:=.builtin .len,args:=#[x],argTypes:=#[t]}) (hx:CO x x') (hu:P.underlying t=some .string):ep P o (.dH x')
 | append {t e i zv x y x' y' sz bytes} (h:o.op=.call {callee:=.builtin .append,args:=#[x,y],argTypes:=#[t,t]}) (hx:CO x x') (hy:CO y y') (hu:P.underlying t=some (.slice e))
   (hi:P.info? e=some i) (hs:i.size=sz) (hb:i.bytes=bytes) (hz:i.zero=some zv) (hzs:zv.cells.size=sz) (hone:zv.cells.all (·.oneCell')=true) (hs0:0<sz):ep P o (.append sz bytes x' y')
 | hy {x y x' y' ts mx} (h:o.op=.call {callee:=.builtin (if mx then .max else .min),args:=#[x,y],argTypes:=ts}) (hx:CO x x') (hy:CO y y'):ep P o (.hy mx x' y')
 | func {f first az first' caps'} (h:o.op=.makeFunc f first az) (hf:bH CO first.toList first') (hc:bH CO az.toList caps'):ep P o (.func f first' caps')
 | extract {x x' i} (h:o.op=.extract x i) (hx:CO x x'):ep P o (.extract x' i)
 | conv {s t x x' k d} (h:o.op=.convert s t x) (hx:CO x x') (hs:P.underlying s=some d) (ht:P.underlying t=some (.int k)):ep P o (.conv k x')
 | cQ {t x x' d} (h:o.op=.makeInterface t x) (hx:CO x x') (hu:P.underlying t=some d) (hd:∀ ms,d≠.interface ms):ep P o (.cQ t x')
 | ext {k xs} (h:dD P o k xs):ep P o (.ext k xs)
def a_(E:Env)(P:Program)(f:Option Nat)(o:Oper)(g:List (aO×AV))(e:ry):Prop :=
 ∀ (G:Gh) (a:Act) (w:World) (h:Hp),aD E G h w->(∀ p∈g,iN G w a p.1 p.2)->(∀ p∈e.ao,h p.1=some p.2)->(∀ p∈e.up,h p.1=none\/∃ q∈e.ao,q.1=p.1) ->∀ (K:Act->World->Prop) (Q:Exit->Act->World->Prop),(∀ d b c,aW G w c b->aD E c (h.ar e.up) b->aC c b e.v d->K (a.put o.dst d) b)->o.wpIn (Fr f) 0 P a w K Q
section
variable {E:Env}{P:Program}{ro:Option Nat}{o:Oper}
theorem eO{G:Gh}{w:World}{a:Act}{b:aO}{v:AV}{x:Operand}(h:∀ p∈[(b,v)],iN G w a p.1 p.2)(c:CO x b):aC G w v (a.eval x):=h (b,v) (by simp) x c
theorem fz{G:Gh}{w:World}{a:Act}{b c:aO}{u v:AV}{x y:Operand}(h:∀ p∈[(b,u),(c,v)],iN G w a p.1 p.2)(d:CO x b)(e:CO y c):aC G w u (a.eval x)/\aC G w v (a.eval y) :=
 ⟨h (b,u) (by simp) x d,h (c,v) (by simp) y e⟩
theorem dk{e:List (aO×AV)}{d:Prop}{f:AV}(g:∀ d,o.op≠.defer d)(h:∀ (G:Gh) (a:Act) (w:World) (h:Hp),aD E G h w->(∀ p∈e,iN G w a p.1 p.2)->∃ b,(execOp a.eval o).run P w=.ok (.value b) w/\aC G w f b):a_ E P ro o e {c:=d,v:=f}:=by intro G a w i H j _ _ K Q k;obtain⟨b,l,m⟩:=h G a w i H j;exact fk g l (k b w G (aW.refl G w) H m)
theorem lZ{G:Gh}{w:World}(b:Bool):aC G w (.d (.lit (.bool b))) (.bool b):=.d (.lit trivial)
theorem Bb(k:IntKind)(n:Int):k.min<=k.wrap n/\k.wrap n<=k.max:=by cases k <;> simp [IntKind.wrap,IntKind.min,IntKind.max,IntKind.bits,IntKind.signed] <;> (try split) <;> omega
theorem aC.lit{G:Gh}{w:World}{x v:Value}(h:aC G w (.d (.lit x)) v):v=x/\Sc x:=by cases h;rename_i h;cases h;exact⟨rfl,by assumption⟩
theorem Qc{b:aO}{d:AV}{x:Operand}(h:o.op=.move x\/o.op=.assign x)(e:CO x b)(f:Prop):a_ E P ro o [(b,d)] {c:=f,v:=d} :=
 dk (by rcases h with h | h <;> simp [h]) fun G a w i H g=>⟨a.eval x,by rcases h with h | h <;> simp [execOp,h],eO g e⟩
theorem Qd{d e f:aO}{b x y:Bool}{g i j:Operand}(h:o.op=.pick g i j)(l:CO g d)(m:CO i e)(n:CO j f)(p:Prop) :
  a_ E P ro o [(d,.d (.lit (.bool b))),(e,.d (.lit (.bool x))),(f,.d (.lit (.bool y)))] {c:=p,v:=.d (.lit (.bool (bif b then x else y)))} :=
 dk (by simp [h]) fun G a w t H k=>by have q:=(aC.lit (k (d,.d (.lit (.bool b))) (by simp) g l)).1;have r:=(aC.lit (k (e,.d (.lit (.bool x))) (by simp) i m)).1;have s:=(aC.lit (k (f,.d (.lit (.bool y))) (by simp) j n)).1;refine⟨.bool (bif b then x else y),?_,lZ _⟩;cases b <;> simp [execOp,h,q,r,s,asBool]
theorem HJ{z:List D}{b:Array Value}(h:Zero z b)(G:Gh)(w:World):gi G w (z.map .d) b/\∀ c∈z.map AV.d,c.one=true:=by
 refine⟨⟨by simpa using (h.1 G.I w).1,fun k c v e f=>?_⟩,fun c g=>?_⟩
 ·simp only [bG,bZ] at e;obtain⟨d,a,rfl⟩:=e;exact .d ((h.1 G.I w).2 k d v a f)
 ·obtain⟨d,a,rfl⟩:=aS.1 g;exact h.2 d a
theorem HK{g:List (aO×AV)}{n:Nat}{e:Bool}{d:List AV}{b:Prop}{t:TypeId}(j:∀ b,o.op≠.defer b)(h:∀ (G:Gh) (a:Act) (w:World) (h:Hp),aD E G h w->(∀ p∈g,iN G w a p.1 p.2)->∃ f,(execOp a.eval o).run P w=.ok (.value (.pointer (some ⟨w.heap.size,0,none⟩))) (w.alloc (.cells f t))/\gi G w d f/\∀ b∈d,b.one=true) :
  a_ E P ro o g {c:=b,v:=.ptr n 0,up:=[(n,.box e d)]}:=by
 intro G a w i H k _ l K Q m;obtain⟨f,r,s,u⟩:=h G a w i H k;have x:i n=none:=by
  rcases l (n,.box e d) (by simp) with h | ⟨q,y,_⟩
  ·exact h
  ·simp at y
 obtain⟨z,A⟩:=H.Qa x e t s u;exact fk j r (m _ _ _ z A (.ptr (by simp)))
theorem Qe{n:Nat}{b i d e z}(h:o.op=.alloc b)(f:P.info? b=some i)(g:i.zero=some d)(j:Zero z d.cells)(k:Prop) :
  a_ E P ro o [] {c:=k,v:=.ptr n 0,up:=[(n,.box e (z.map .d))]} :=
 HK (t:=b) (by simp [h]) fun G a w l H m=>⟨d.cells,by simp [execOp,h,Instr.alloc,zeroValue,typeInfo,f,g,newVar,newRow],HJ j G w⟩
theorem Qf{n:Nat}{d x e f}{b:AV}(h:o.op=.box d x)(g:CO x e)(i:b.cg=true)(j:Prop) :
  a_ E P ro o [(e,b)] {c:=j,v:=.ptr n 0,up:=[(n,.box f b.cells)]} :=
 HK (t:=d) (by simp [h]) fun G a w m H k=>by have l:=(eO k g).cells i;exact⟨(a.eval x).cells,by simp [execOp,h,Instr.box,newVar,newRow],l⟩
end
theorem Bc:∀ (b:List AV) (a:List AV) (o:Nat),(setAt a o b).length=a.length
 | [],a,o=>rfl
 | c::r,a,o=>by rw [setAt,Bc r];simp
theorem HL:∀ (b:List AV) (a:List AV) (o k:Nat),(setAt a o b)[k]?=if o<=k/\k<o+b.length/\k<a.length then b[k-o]? else a[k]?
 | [],a,o,k=>by rw [setAt,ab (by simp;omega)]
 | c::r,a,o,k=>by
  rw [setAt,HL r];simp only [GY,bN,xB];by_cases d:o=k
  ·subst d;rw [ab (by omega)];by_cases f:o<a.length
   ·simp [f]
   ·simp [f]
  ·by_cases g:o+1<=k/\k<o+1+r.length/\k<a.length
   ·rw [aj g,aj (by omega)];have e:k-o=(k-(o+1))+1:=by omega
    rw [e,GZ]
   ·rw [ab g,ab d,ab (by omega)]
theorem HM:∀ (d:List AV) (a:List AV) (o:Nat),(∀ c∈a,c.one=true)->(∀ c∈d,c.one=true)->∀ c∈setAt a o d,c.one=true
 | [],a,o,h,_=>h
 | c::r,a,o,h,f=>by
  rw [setAt];refine HM r _ _ (fun x b=>?_) (fun x b=>f x (by simp [b]));rcases uV b with e | e
  ·exact h x e
  ·rw [e];exact f c (by simp)
section
variable {E:Env}{P:Program}{ro:Option Nat}{o:Oper}
theorem HN{z:Nat->Option (Nat×Nat)}{G:Gh}{w:World}{a:Act}:∀ (ps:List (Nat×Nat×aO)) (b:List AV) (f:List (Nat×Operand)) (d:Array Value) (A:List AV),gi G w A d->(∀ c∈A,c.one=true) ->bH (fun(p:Nat×Operand) (q:Nat×Nat×aO)=>z p.1=some (q.1,q.2.1)/\CO p.2 q.2.2) f ps ->(∀ p∈(ps.map (·.2.2)).zip b,iN G w a p.1 p.2)->mY ps b A.length ->∃ n,Instr.fill z d (f.map fun p=>(p.1,a.eval p.2))=some n/\gi G w (pS A ps b) n/\∀ c∈pS A ps b,c.one=true
 | [],b,f,d,A,g,o,r,s,m=>by
  cases r;cases b with
  | nil=>exact⟨d,rfl,g,o⟩
  | cons _ _=>simp [mY] at m
 | (e,B,H)::ps,b,f,d,A,g,o,r,s,m=>by
  cases r;rename_i p f h t;obtain⟨i,x⟩:=p;obtain⟨I,J⟩:=h;cases b with
  | nil=>simp [mY] at m
  | cons v b =>
   simp only [mY] at m;obtain⟨C,K,c3,c4⟩:=m;have y:=(s (H,v) (by simp) x J).cells K;have D:(a.eval x).cells.size=B:=by rw [y.1.1,C]
   obtain⟨L,M⟩:=Great.foldl_set e (a.eval x).cells.toList 0 d;have N:gi G w (setAt A e v.cells) (((a.eval x).cells.toList.zipIdx 0).foldl (fun O (x:Value×Nat)=>O.setIfInBounds (e+x.2) x.1) d):=by
    refine⟨by rw [L,Bc];exact g.1,fun k c u j l=>?_⟩;rw [HL] at j;rw [M k] at l;simp only [kl,AA,D] at l;rw [C,<- g.1] at j;by_cases E:e<=k/\k<e+B/\k<d.size
    ·rw [aj E] at j l;exact y.1.2 _ c u j (by simpa using l)
    ·rw [ab E] at j l;exact g.2 k c u j l
   have P:=HM v.cells A e o y.2;obtain⟨n,Q,R,S⟩:=HN ps b f _ (setAt A e v.cells) N P t (fun p F=>s p (by simp at F |-;exact .inr F)) (by rw [Bc];exact c4);refine⟨n,?_,R,S⟩;simp only [bo];unfold Instr.fill;simp only [I];rw [ab (by simp [D];rw [g.1];omega)];rw [<- Q];congr 1;rw [<- Array.foldl_toList,Array.toList_zipIdx]
theorem Qg{t z b ps d}{e:Value}(h:o.op=.build t b)(j:Zero z e.cells)(g:Nat->Option (Nat×Nat))(k:∀ l,P.built t l=Instr.fill g e.cells l)(m:bH (fun(p:Nat×Operand) (q:Nat×Nat×aO)=>g p.1=some (q.1,q.2.1)/\CO p.2 q.2.2) b.toList ps)(n:mY ps d z.length)(r:Prop) :
  a_ E P ro o ((ps.map (·.2.2)).zip d) {c:=r,v:=tl (pS (z.map .d) ps d)} :=
 dk (by simp [h]) fun G a w F H s=>by
  obtain⟨u,y⟩:=HJ j G w;obtain⟨f,A,B,C⟩:=HN ps d b.toList e.cells (z.map .d) u y m s (by simpa using n);refine⟨.agg f,?_,Ba B C⟩;have D:P.built t (b.map fun(i,x)=>(i,a.eval x)).toList=some f:=by rw [k,<- A,G_]
  simp only [execOp,h,c',run_build w t _ f D,dt,dV]
theorem Bd{t:TypeId}{ad:Addr}{cs:List Value}{w:World}{i:TypeInfo}{d:TypeDesc}(c:∀ j v,cs[j]?=some v->w.cell? (ad.add j)=some v)(f:P.info? t=some i)(g:i.size=cs.length)(h:P.underlying t=some d)(k:d.isRow=false->cs.length=1) :
  (Instr.loadAt t (.pointer (some ad))).run P w=.ok (if d.isRow then .agg cs.toArray else cs.headD undef) w:=by
 have a:(isAgg t).run P w=.ok d.isRow w:=by unfold isAgg;rw [c',dm h w];cases d <;> simp [TypeDesc.isRow]
 have l:(loadCells ad cs.length).run P w=.ok cs.toArray w:=run_loadCells_list (P:=P) w ad cs c;cases b:d.isRow with
 | true =>rw [b] at a;simp [Instr.loadAt,Instr.sureAddr,loadVar,c',a,sizeOf,typeInfo,f,g,l]
 | false =>
  rw [b] at a;have m:=k b
  match cs,m with
  | [v],_ =>
   have e:=c 0 v rfl;have n:ad.add 0=ad:=by simp [Addr.add]
   rw [n] at e;simp [Instr.loadAt,Instr.sureAddr,loadVar,c',a,e]
theorem Qh{z x J D A f B n e L}{l:List AV}(h:o.op=.load z x)(T:CO x J)(U:P.info? z=some D)(V:D.size=f)(m:P.underlying z=some A)(p:A.isRow=B)(b2:e+f<=l.length)(M:B=false->f=1)(q:Prop) :
  a_ E P ro o [(J,.ptr n e)] {c:=q,v:=ow e f B l,ao:=[(n,.box L l)]}:=by
 intro G a r b3 H W X _ K Q Y;have F:=eO W T;cases N:a.eval x <;> rw [N] at F <;> try (cases F;done)
 cases F;rename_i b Z;obtain⟨g,s,e2,e3⟩:=H.A_ (X (n,.box L l) (by simp)) Z;have O:((g.toList.drop e).take f).length=f:=by simp;have:=s.1;omega
 have a0:=Bd (P:=P) (t:=z) (ad:=⟨b,e,none⟩) (cs:=(g.toList.drop e).take f) (w:=r) (i:=D) (d:=A) (fun j b4 C=>by
  rw [cc,e3];rw [eh] at C;split at C
  ·simpa using C
  ·cases C) U (by rw [O,V]) m (fun a1=>by rw [O];exact M (by rw [<- p,a1]))
 refine fk (by simp [h]) (v:=if A.isRow then .agg ((g.toList.drop e).take f).toArray else ((g.toList.drop e).take f).headD undef) (w':=r) (by simp only [execOp,h,c',N,a0,dt,dV]) ?_;refine Y _ r G (aW.refl G r) ?_ ?_
 ·simpa [Hp.ar] using H
 ·have a2:gi G r ((l.drop e).take f) ((g.toList.drop e).take f).toArray:=by
   refine⟨by simp;have:=s.1;omega,fun k q u y m=>?_⟩;rw [eh] at y;simp only [qV,eh] at m;split at y
   ·rename_i b0;rw [aj b0] at m;rw [fD] at y m;exact s.2 _ q u y (by simpa using m)
   ·cases y
  cases I:B with
  | true =>rw [I] at p;simp only [p,eA,ow];exact Ba a2 (fun q b1=>e2 q (iL (ir b1)))
  | false =>
   rw [I] at p;have h1:=M I;subst h1;simp only [p,hq,eM,ow];have R:e<l.length:=by omega
   have S:e<g.size:=fx R s.1;have q1:((g.toList.drop e).take 1).headD undef=g[e]:=by rw [fF (by simpa using S)];simp
   rw [q1];exact s.2 e _ _ (by simp [List.getD,aI R]) (by simp [S])
theorem au.fits{I:Addr->Prop}{w:World}{x:D}{v:Value}(a:List Value)(b:Bool)(d:a.length=x.cells.length)(h:∀ c∈x.cells,c.one=true)(g:x.isAgg=b)(m:b=false->x.one=true)(f:∀ (k:Nat) (c:D) (u:Value),x.cells[k]?=some c->a[k]?=some u->au I w c u)(i:v=if b then .agg a.toArray else a.headD undef):au I w x v:=by
 subst i;cases b with
 | true =>cases x <;> simp [D.isAgg] at g;rename_i n;exact .agg (by rw [mM];exact d) h (fun k c u j l=>f k c u j (by simpa using l))
 | false =>
  have e:x.cells=[x]:=by cases x <;> first | rfl | simp [D.isAgg] at g
  rw [e] at d f
  match a,d with
  | [u],_=>exact f 0 x u rfl rfl
theorem Qi{m x C s n b p}{y:D}(h:o.op=.load m x)(L:CO x C)(M:P.info? m=some s)(N:s.size=b)(q:P.underlying m=some n)(F:n.isRow=p)(O:y.fits b p)(Q:p=false->b=1)(z:Prop) :
  a_ E P ro o [(C,.d (.ip y))] {c:=z,v:=.d y} :=
 dk (by simp [h]) fun G a R a1 H S=>by
  have r:=(eO S L).cw;generalize T:a.eval x=u at r;obtain⟨I,U,V⟩:=O;cases r;rename_i W g X Y r;have A:((List.range b).map g).length=b:=by simp
  have Z:=Bd (P:=P) (t:=m) (ad:=W) (cs:=(List.range b).map g) (w:=R) (i:=s) (d:=n) (fun j a2 J=>by
   simp only [bG,bZ] at J;obtain⟨k,e,rfl⟩:=J;have K:j<b:=by
    rcases bB j b with l | B
    ·exact l
    ·rw [cb (by simpa using B)] at e;cases e
   rw [sV K] at e;injection e with e;subst e
   exact(Y j _ (aI (by rw [I];exact K))).2) M (by rw [A,N]) q (fun a0=>by rw [A];exact Q (by rw [<- F,a0]))
  refine⟨if n.isRow then .agg ((List.range b).map g).toArray else ((List.range b).map g).headD undef,by simp only [execOp,h,c',T,Z,dt,dV],.d (au.fits ((List.range b).map g) p (by rw [A,I]) X U V (fun k z u e q=>?_) (by rw [<- F]))⟩;simp only [bG,bZ] at q;obtain⟨b0,f,rfl⟩:=q;have l:k<b:=by
   rcases bB k b with l | B
   ·exact l
   ·rw [cb (by simpa using B)] at f;cases f
  rw [sV l] at f;injection f with f;subst f
  exact r k z e
theorem Qj{t x y s z i m n e j}{f:List AV}{d:AV}(h:o.op=.store t x y)(B:CO x s)(C:CO y z)(D:P.info? t=some i)(F:i.size=m)(I:d.cells.length=m)(J:d.cg=true)(Z:e+m<=f.length)(g:Prop) :
  a_ E P ro o [(s,.ptr n e),(z,d)] {c:=g,v:=.af [],ao:=[(n,.box j f)],up:=[(n,.box j (setAt f e d.cells))]}:=by
 intro G a w L H M N _ K Q O;obtain⟨p,R⟩:=fz M B C;cases A:a.eval x <;> rw [A] at p <;> try (cases p;done)
 cases p;rename_i b S;obtain⟨q,T⟩:=R.cells J;obtain⟨r,U,V,W⟩:=aD.AZ (ag:=j) P d.cells (a.eval y).cells.toList e 0 L w f H (N (n,.box j f) (by simp)) S (by simp [q.1])
  (fun k g u l X=>⟨q.2 k g u l (by simpa using X),T g (dh l)⟩) (by omega)
 have Y:(storeVar t ⟨b,e,none⟩ (a.eval y)).run P w=.ok () r:=by
  have:(a.eval y).cells.size=i.size:=by rw [q.1,I,F]
  simp [storeVar,sizeOf,typeInfo,D,this,U]
 refine vv (by simp [h]) (w':=r) (by simp only [execOp,h,c',A,Instr.storeAt,Instr.sureAddr,dV,dt,Y]) ?_;exact O undef r G V (by simpa using W) (.af rfl (fun k g d l=>by simp at l))
end
section
variable {E:Env}{P:Program}{ro:Option Nat}{o:Oper}
theorem HP(P:Program)(w:World)(c:BinOp)(t:TypeId)(x y:Operand)(k d:IntKind)(a b:Int):(eqGuard c t x y (.int k a) (.int d b)).run P w=.ok () w:=by unfold eqGuard;cases c <;> simp
theorem Qk(P:Program)(w:World)(c:BinOp)(t:TypeId)(x y:Operand)(a b:ByteArray):(eqGuard c t x y (.string a) (.string b)).run P w=.ok () w:=by unfold eqGuard;cases c <;> simp
theorem Ql{k:IntKind}{c b:Int}(f:k.min<=c/\c<=k.max)(g:k.min<=b/\b<=k.max)(i:b≠0):k.min<=c.tmod b/\c.tmod b<=k.max:=by
 have j:(c.tmod b).natAbs<=c.natAbs:=by have:=Int.natAbs_tmod c b;have l:c.natAbs % b.natAbs<=c.natAbs:=Nat.mod_le _ _;omega
 have d:0<=c->0<=c.tmod b:=fun h=>Pm b h
 have e:c<=0->c.tmod b<=0:=fun h=>by have:=Pm (a:=-c) b (by omega);rw [Int.neg_tmod] at this;omega
 have m:k.min<=0:=by cases k <;> simp [IntKind.min,IntKind.bits,IntKind.signed]
 have n:0<=k.max:=by cases k <;> simp [IntKind.max,IntKind.bits,IntKind.signed]
 rcases Int.le_total 0 c with h | h
 ·have:=d h;omega
 ·have:=e h;omega
theorem Qm{d:BinOp}{t u x y f g}{k i:IntKind}{a b:Int}{j:Prop}{r:Value}(h:o.op=.binOp d t x y u)(s:CO x f)(z:CO y g)(J:d≠.shl/\d≠.shr)(l:xO d k a b=some (j,r))(A:k=i)(e:j)(p:Prop) :
  a_ E P ro o [(f,.d (.lit (.int k a))),(g,.d (.lit (.int i b)))] {c:=p,v:=.d (.lit r)} :=
 dk (by simp [h]) fun G K w L H B=>by
  obtain⟨C,D⟩:=fz B s z;obtain⟨F,m⟩:=C.lit;obtain⟨I,n⟩:=D.lit;subst A;have q:(binOp d t (.int k a) (.int k b)).run P w=.ok r w/\Sc r:=by
   simp only [Sc] at m n;cases d <;> simp only [xO,aL,ee,reduceCtorEq] at l <;> obtain⟨rfl,rfl⟩:=l <;> simp [binOp,Op.intArith,Op.intDiv,Op.intBits,Op.intCmp,Sc,Bb] at e |-
   ·exact fun h=>absurd h e
   ·exact⟨fun h=>absurd h e,Ql m n e⟩
  refine⟨r,?_,.d (.lit q.2)⟩;simp only [execOp,h,c',F,I,HP,dt,q.1,dV]
theorem Qn{d:BinOp}{t u x y e f}{a b:ByteArray}{g:Prop}{r:Value}(h:o.op=.binOp d t x y u)(l:CO x e)(m:CO y f)(i:cA d a b=some (g,r))(j:g)(p:Prop) :
  a_ E P ro o [(e,.d (.lit (.string a))),(f,.d (.lit (.string b)))] {c:=p,v:=.d (.lit r)} :=
 dk (by simp [h]) fun G B w C H n=>by
  obtain⟨q,s⟩:=fz n l m;obtain⟨z,D⟩:=q.lit;obtain⟨A,F⟩:=s.lit;have k:(binOp d t (.string a) (.string b)).run P w=.ok r w/\Sc r:=by cases d <;> simp only [cA,aL,ee,reduceCtorEq] at i <;> obtain⟨rfl,rfl⟩:=i <;> simp [binOp,Op.stringOp,Sc] at j |-;exact⟨by omega,j⟩
  refine⟨r,?_,.d (.lit k.2)⟩;simp only [execOp,h,c',z,A,Qk,dt,k.1,dV]
theorem Qo{t x a}{b:Bool}(h:o.op=.unOp .not t x)(d:CO x a)(p:Prop):a_ E P ro o [(a,.d (.lit (.bool b)))] {c:=p,v:=.d (.lit (.bool !b))} :=
 dk (by simp [h]) fun G g w i H e=>by have f:=(eO e d).lit.1;exact⟨.bool !b,by simp [execOp,h,f,Op.unary],lZ _⟩
theorem HQ{s:TypeId}{b:Array Field}{f:Nat}{a:Field}{i:TypeInfo}{w:World}{c:Addr}(d:P.underlying s=some (.struct b))(e:b[f]?=some a)(g:P.info? a.type=some i)(h:i.size≠0) :
  (Instr.fieldAt s (.pointer (some c)) f).run P w=.ok (.pointer (some (c.add a.offset))) w:=by
 simp [Instr.fieldAt,dm d,e,Instr.sureAddr,fieldPlace,sizeOf,typeInfo,g,h]
theorem Qp{s x g j f a i k n d}(h:o.op=.fieldAddr s x f)(m:CO x g)(q:P.underlying s=some (.struct j))(r:j[f]?=some a)(t:P.info? a.type=some i)(u:i.size=k)(y:k≠0)(p:Prop) :
  a_ E P ro o [(g,.ptr n d)] {c:=p,v:=.ptr n (d+a.offset)} :=
 dk (by simp [h]) fun G z w C H A=>by
  have e:=eO A m;cases l:z.eval x <;> rw [l] at e <;> try (cases e;done)
  cases e;rename_i b B;exact⟨.pointer (some ⟨b,d+a.offset,none⟩),by simp only [execOp,h,c',l,HQ q r t (by rw [u];exact y),cc,dt,dV],.ptr B⟩
theorem Qq{x:D}{a b:Nat}{d:Bool}(j:a+b<=x.cells.length)(h:d=false->b=1)(i:∀ c∈x.cells,c.one=true):(iv a b d x).cells=(x.cells.drop a).take b:=by
 cases d with
 | true=>rfl
 | false =>
  have:=h rfl;subst this;have f:a<x.cells.length:=by omega
  have e:iv a 1 false x=x.cells[a]:=by simp [iv,List.getD,aI f]
  rw [e,fF f];have g:=i _ (cN f);simp only [uW,Pn];generalize x.cells[a]=y at g |-;cases y <;> first | rfl | simp [D.one] at g
theorem HR{I:Addr->Prop}{w:World}{x:D}{d:Addr}{e:Nat->Value}{b f:Nat}{h:Bool}(i:∀ c∈x.cells,c.one=true)(l:∀ k c,x.cells[k]?=some c->I (d.add k)/\w.cell? (d.add k)=some (e k))(m:∀ (k:Nat) (c:D),x.cells[k]?=some c->au I w c (e k))(n:b+f<=x.cells.length)(o:h=false->f=1):au I w (.ip (iv b f h x)) (.pointer (some (d.add b))):=by
 have g:=Qq n o i;refine .ip (d.add b) (fun k=>e (b+k)) (fun c j=>?_) (fun k c a=>?_) (fun k c a=>?_)
 ·rw [g] at j;exact i c (iL (ir j))
 ·rw [g,eh] at a;split at a
  ·rw [fD] at a;rw [add_add];exact l _ c a
  ·cases a
 ·rw [g,eh] at a;split at a
  ·rw [fD] at a;exact m _ c a
  ·cases a
theorem Qr{s x e g f a i b j}{y:D}(h:o.op=.fieldAddr s x f)(k:CO x e)(l:P.underlying s=some (.struct g))(m:g[f]?=some a)(n:P.info? a.type=some i)(q:i.size=b)(r:b≠0)(t:a.offset+b<=y.cells.length)(z:j=false->b=1)(p:Prop) :
  a_ E P ro o [(e,.d (.ip y))] {c:=p,v:=.d (.ip (iv a.offset b j y))} :=
 dk (by simp [h]) fun G A w K H B=>by have d:=(eO B k).cw;generalize C:A.eval x=u at d;cases d;rename_i F L I J d;exact⟨.pointer (some (F.add a.offset)),by simp only [execOp,h,c',C,HQ l m n (by rw [q];exact r),dt,dV],.d (HR I J d t z)⟩
theorem Be{t:TypeId}{i:TypeInfo}{d:TypeDesc}{w:World}{cs:Array Value}{off:Nat}(c:P.info? t=some i)(e:P.underlying t=some d)(h:off+i.size<=cs.size)(f:d.isRow=false->i.size=1) :
  (part t cs off).run P w=.ok (if d.isRow then .agg (cs.extract off (off+i.size)) else cs.getD off undef) w:=by
 have a:(isAgg t).run P w=.ok d.isRow w:=by unfold isAgg;rw [c',dm e w];cases d <;> simp [TypeDesc.isRow]
 cases b:d.isRow with
 | true=>rw [b] at a;simp [part,a,sizeOf,typeInfo,c]
 | false =>
  rw [b] at a;have:=f b;have g:off<cs.size:=by omega
  simp [part,a,g]
theorem Qs{s x A B f a i d l m}{n:List D}(h:o.op=.field s x f)(J:CO x A)(b:P.underlying s=some (.struct B))(r:B[f]?=some a)(K:P.info? a.type=some i)(t:i.size=l)(L:P.underlying a.type=some d)(e:d.isRow=m)(M:a.offset+l<=n.length)(C:m=false->l=1)(p:Prop) :
  a_ E P ro o [(A,.d (.agg n))] {c:=p,v:=.d (iv a.offset l m (.agg n))} :=
 dk (by simp [h]) fun G N O F H Q=>by
  have g:=(eO Q J).cw;generalize R:N.eval x=u at g;cases g;rename_i q I S g;have F:=Be (P:=P) (w:=O) (cs:=q) (off:=a.offset) K L (by rw [t,I];exact M) (fun r=>by rw [t];exact C (by rw [<- e,r]));refine⟨if d.isRow then .agg (q.extract a.offset (a.offset+i.size)) else q.getD a.offset undef,by simp [execOp,h,R,Instr.field,dm b,r,asAgg,F],.d ?_⟩;cases y:m with
  | true =>
   rw [y] at e;simp only [e,eA,iv,D.cells];refine .agg (by simp [I,t];omega) (fun z T=>S z (iL (ir T))) (fun k z u j b=>?_);rw [eh] at j;split at j
   ·rw [fD] at j;rw [Array.getElem?_extract] at b;split at b
    ·exact g _ z u j b
    ·cases b
   ·cases j
  | false =>
   rw [y] at e;have:=C y;subst this;have U:a.offset<n.length:=by omega
   have V:a.offset<q.size:=by omega
   simp only [e,hq,eM,iv,D.cells];exact g a.offset _ _ (by simp [List.getD,aI U]) (by simp [V])
theorem fU{sz:Nat}:∀ {es:List D},(∀ e∈es,e.cells.length=sz)->(D.flat es).length=es.length*sz
 | [],_=>by simp [D.flat]
 | e::es,h=>by have a:=fU (es:=es) (fun x b=>h x (by simp [b]));simp only [D.flat,ll,da,bN] at a |-;rw [a,h e (by simp),gh];omega
theorem flat_get{c:Nat}:∀ {es:List D}(_:∀ e∈es,e.cells.length=c){i:Nat}{e:D},es[i]?=some e->∀ k,k<c->(D.flat es)[i*c+k]?=e.cells[k]?
 | [],_,i,e,a,k,b=>by simp at a
 | x::es,h,0,e,a,k,b=>by simp at a;subst a;simp only [D.flat,ll,Nat.zero_mul,bC];rw [eY (by rw [h x (by simp)];exact b)]
 | x::es,h,i+1,e,a,k,b=>by have d:=flat_get (es:=es) (fun y g=>h y (by simp [g])) (i:=i) (e:=e) (by simpa using a) k b;have f:=h x (by simp);simp only [D.flat,ll] at d |-;rw [eJ (by rw [f,gh];omega),f,<- d];congr 1;rw [gh];omega
theorem au.gJ{I:Addr->Prop}{w:World}{g:Nat}{a:List D}{v:Value}(h:au I w (.sl g a) v) :
  ∃ (n:Nat) (A:Option Addr) (f:Nat) (b:Addr) (d:Nat->Value),v=.slice A n f/\n=a.length/\n<=f/\f<=9223372036854775807/\(A=some b\/a=[])/\(∀ e∈a,e.cells.length=g)/\(∀ c∈D.flat a,c.one=true) /\(∀ k c,(D.flat a)[k]?=some c->I (b.add k)/\w.cell? (b.add k)=some (d k))/\(∀ k c,(D.flat a)[k]?=some c->au I w c (d k)):=by
 cases h with
 | sl b d i j l m o p q r=>exact⟨_,_,_,b,d,rfl,i,j,l,m,o,p,q,r⟩
theorem Qt{I:Addr->Prop}{w:World}{d:Nat}{a:List D}{f:Addr}{g:Nat->Value}(j:∀ e∈a,e.cells.length=d)(o:∀ c∈D.flat a,c.one=true)(p:∀ k c,(D.flat a)[k]?=some c->I (f.add k)/\w.cell? (f.add k)=some (g k))(q:∀ k c,(D.flat a)[k]?=some c->au I w c (g k)){i:Nat}{e:D}(l:a[i]?=some e):au I w (.ip e) (.pointer (some (f.add (i*d)))):=by
 have m:e∈a:=dh l;have n:∀ k c,e.cells[k]?=some c->(D.flat a)[i*d+k]?=some c:=fun k c b=>by
  rw [flat_get j l k (by
   have:=j e m;rcases bB k d with h | h
   ·exact h
   ·rw [cb (by omega)] at b;cases b)]
  exact b
 refine .ip (f.add (i*d)) (fun k=>g (i*d+k)) (fun c r=>o c (by simp only [D.flat,uX];exact⟨e,m,r⟩)) (fun k c b=>?_) (fun k c b=>q _ c (n k c b));rw [add_add];exact p _ c (n k c b)
theorem Qu{t e x j g l i m d}{k:IntKind}{b:List D}{a:Int}{q:AV}(h:o.op=.indexAddr t x j)(y:CO x g)(z:CO j l)(B:P.underlying t=some (.slice e))(C:P.info? e=some i)(F:i.size=m)(I:∀ (G:Gh) (w:World) (u:Value),aC G w q u->au G.I w (.sl d b) u)(f:0<=a/\a<b.length)(J:d=m)(p:Prop) :
  a_ E P ro o [(g,q),(l,.d (.lit (.int k a)))] {c:=p,v:=.d (.ip (b.getD a.toNat default))} :=
 dk (by simp [h]) fun G K w a1 H L=>by
  obtain⟨M,N⟩:=fz L y z;have r:=I G w _ M;have O:=N.lit.1;generalize Q:K.eval x=u at r;obtain⟨n,A,a2,R,vs,rfl,S,b0,hm,T,U,V,W,X⟩:=r.gJ;have Y:b≠[]:=by rintro rfl;simp at f;omega
  have Z:=T.resolve_right Y;subst Z;have a0:a.toNat<b.length:=by omega
  have s:b[a.toNat]?=some b[a.toNat]:=aI a0;subst J;refine⟨.pointer (some (R.add (a.toNat*d))),?_,.d ?_⟩
  ·simp only [execOp,h,c',Q,O,Instr.indexAt,asIntOf,dV,dt,dm B];simp [sizeOf,typeInfo,C,F,S,f.1,f.2]
  ·have:b.getD a.toNat default=b[a.toNat]:=by simp [List.getD,s]
   rw [this];exact Qt U V W X s
end
theorem vx{a:Addr}{w:World}{v:Value}(h:w.cell? a=some v):a=⟨a.block,a.off,none⟩:=by
 obtain⟨b,o,s⟩:=a;simp only [World.cell?] at h;split at h
 ·cases s with
  | none=>rfl
  | some _=>simp at h
 ·cases h
theorem aD.HS{E:Env}{G:Gh}{h:Hp}{w:World}(H:aD E G h w){r:Nat}(i:h r=some .row):aD E G (h.ar [(r,.dead)]) w:=by
 refine {H with eC:=H.vr i (fun q=>by cases q) _,bJ:=(fun m b j=>by
  obtain⟨k,l,o,p⟩:=H.bJ m b j;refine⟨k,l,fun t=>o (fun u=>t ?_),p⟩;by_cases e:m=r
  ·simp [Hp.ar,e]
  ·simp [Hp.ar,e,u]),fresh:=fun n c=>?_,box:=fun n v x c=>?_,row:=fun y d=>?_,eZ:=fun z B A n C D F I J K f g=>?_,obj:=fun m s a=>(by
  simp only [Hp.ar] at a;split at a
  ·injection a with a;cases a
  ·exact H.obj m s a),aA:=fun m s a=>(by
  simp only [Hp.ar] at a;split at a
  ·injection a with a;cases a
  ·exact H.aA m s a)}
 ·simp only [Hp.ar] at c;split at c
  ·cases c
  ·exact H.fresh n c
 ·simp only [Hp.ar] at c;split at c
  ·injection c with c;cases c
  ·exact H.box n v x c
 ·simp only [Hp.ar] at d;split at d
  ·injection d with d;cases d
  ·exact H.row y d
 ·simp only [Hp.ar] at f g;split at f
  ·injection f with f;cases f
  ·split at g
   ·injection g with g;cases g
   ·exact H.eZ z B A n C D F I J K f g
theorem aD.na{E:Env}{G:Gh}{h:Hp}{w:World}(H:aD E G h w){q:Nat}(Q:h q=none){A:Option Addr}{n cap sz:Nat}(a0:lq E G w A n cap sz)(t:n*sz<cap*sz->∀ R S T U x,h R=some .row->G.row R=some (S,T,U,x)->T*x<U*x->∀ V W,A=some V->S=some W->V.block≠W.block) :
  aW G w {G with row:=fun m=>if m=q then some (A,n,cap,sz) else G.row m} w /\aD E {G with row:=fun m=>if m=q then some (A,n,cap,sz) else G.row m} (h.ar [(q,.row)]) w:=by
 obtain⟨b0,b1⟩:=H.fresh q Q;have u:aW G w {G with row:=fun m=>if m=q then some (A,n,cap,sz) else G.row m} w:=⟨fun a b2=>⟨b2,rfl⟩,fun _ _ h=>h,fun m r c=>by
  dsimp only;split
  ·rename_i e;subst e;rw [b1] at c;cases c
  ·exact c,fun _ _ _=>rfl⟩
 refine⟨u,{H with gb:=H.gb.trans u,obj:=fun m s c=>(by
  simp only [Hp.ar] at c;split at c
  ·injection c with c;cases c
  ·exact H.obj m s c),aA:=fun m s c=>(by
  simp only [Hp.ar] at c;split at c
  ·injection c with c;cases c
  ·obtain⟨b,y,ck,k,l,o⟩:=H.aA m s c;exact⟨b,y,ck,k,l,o.mono u⟩),i0:=H.i0,eo:=H.eo,cu:=H.cu,bJ:=(fun m b z=>by
  obtain⟨k,l,o,B⟩:=H.bJ m b z;refine⟨k,l,fun t=>o (fun he=>t ?_),B⟩;by_cases e:m=q
  ·subst e;rw [b0] at z;cases z
  ·simp [Hp.ar,e,he]),eC:=H.AY (fun e=>by rw [Q] at e;cases e) _,fresh:=fun m c=>?_,box:=fun m ag cs c=>?_,row:=fun r C=>?_,eZ:=fun X Y Z n1 c1 s1 A2 n2 c2 s2 v p f d D F I J K L M=>?_}⟩
 ·simp only [Hp.ar] at c;split at c
  ·cases c
  ·rename_i N;dsimp only;rw [ab N];exact H.fresh m c
 ·simp only [Hp.ar] at c;split at c
  ·injection c with c;cases c
  ·obtain⟨b,y,ty,k,l,o,B⟩:=H.box m ag cs c;exact⟨b,y,ty,k,l,o.mono u,B⟩
 ·simp only [Hp.ar] at C;dsimp only;split at C
  ·rename_i e;rw [aj e];exact⟨A,n,cap,sz,rfl,a0⟩
  ·rename_i N;rw [ab N];exact H.row r C
 ·simp only [Hp.ar] at v p;dsimp only at f d;split at v
  ·rename_i q1;rw [aj q1] at f;injection f with f;injection f with O g;injection g with g i;injection i with i P
   subst O;subst g;subst i;subst P;split at p
   ·rename_i j;rw [q1,j]
   ·rename_i j;rw [ab j] at d;exact absurd M (t D Y A2 n2 c2 s2 p d F I J K L)
  ·rename_i q1;rw [ab q1] at f;split at p
   ·rename_i j;rw [aj j] at d;injection d with d;injection d with O g;injection g with g i;injection i with i P
    subst O;subst g;subst i;subst P;exact absurd M.symm (t F X Z n1 c1 s1 v f D J I L K)
   ·rename_i j;rw [ab j] at d;exact H.eZ X Y Z n1 c1 s1 A2 n2 c2 s2 v p f d D F I J K L M
theorem tn(b:Nat):∀ (a:List Value) (o:Nat) (w:World) (k:Nat),k≠b->(w.setCells b o a).heap[k]?=w.heap[k]?
 | [],_,_,_,_=>rfl
 | v::r,o,w,k,h=>by rw [World.setCells,tn b r _ _ k h];exact RowKit.Below.heap_setCell w _ v k h
theorem Bf(b:Nat):∀ (a:List Value) (o:Nat) (w:World),(w.setCells b o a).os=w.os/\(w.setCells b o a).tape=w.tape/\(w.setCells b o a).output=w.output/\(w.setCells b o a).heap.size=w.heap.size
 | [],_,_=>⟨rfl,rfl,rfl,rfl⟩
 | v::r,o,w=>by obtain⟨c,d,e,f⟩:=Bf b r (o+1) (w.setCell ⟨b,o,none⟩ v);exact⟨c,d,e,by rw [World.setCells,f];simp [World.setCell]⟩
theorem tp(b:Nat):∀ (c:List Value) (o:Nat) (w:World) (a:Addr),(a.block=b->a.off<o\/o+c.length<=a.off)->(w.setCells b o c).cell? a=w.cell? a
 | [],_,_,_,_=>rfl
 | v::r,o,w,a,h=>by rw [World.setCells,tp b r (o+1) _ a (fun e=>by have:=h e;simp at this;omega),World.cell?_setCell_other _ _ _ _ (fun e=>by subst e;have:=h rfl;simp at this;omega)]
theorem aD.fill{E:Env}{G:Gh}{h:Hp}{w:World}(H:aD E G h w){b o:Nat}{vs:List Value}(O:∀ k,k<vs.length->(w.cell? ⟨b,o+k,none⟩).isSome=true)(P:∀ k,k<vs.length->¬ G.I ⟨b,o+k,none⟩)(Q:¬ E.K b)(B:∀ m,G.box m≠some b)(R:E.N b)(D:∀ r A n x t,h r=some .row->G.row r=some (A,n,x,t)->n*t<x*t->∀ p,A=some p->p.block≠b) :
  aW G w {G with I:=fun a=>G.I a\/(∃ k,k<vs.length/\a=⟨b,o+k,none⟩)} (w.setCells b o vs) /\aD E {G with I:=fun a=>G.I a\/(∃ k,k<vs.length/\a=⟨b,o+k,none⟩)} h (w.setCells b o vs):=by
 obtain⟨S,T,U,M⟩:=Bf b vs o w;have F:∀ a,G.I a->(w.setCells b o vs).cell? a=w.cell? a:=fun a d=>tp b vs o w a (fun e=>by
  obtain⟨v,V⟩:=eI.1 (H.cu a d);have W:=vx V;rcases bB a.off o with q | q
  ·exact .inl q
  ·rcases bB a.off (o+vs.length) with u | u
   ·exfalso;refine P (a.off-o) (by omega) ?_;rw [W] at d;rw [show o+(a.off-o)=a.off by omega,<- e];exact d
   ·exact .inr u)
 have C:aW G w {G with I:=fun a=>G.I a\/(∃ k,k<vs.length/\a=⟨b,o+k,none⟩)} (w.setCells b o vs):=⟨fun a d=>⟨.inl d,F a d⟩,fun _ _ h=>h,fun _ _ h=>h,fun _ _ _=>rfl⟩;refine⟨C,⟨S.trans H.os,T.trans H.tape,U.trans H.output,by rw [M];exact H.size,fun k g=>?_,fun a d=>?_,fun a d=>?_,fun a d=>?_,H.fresh,fun n X Y l=>?_,fun n c l=>?_,H.eC,fun r N=>?_,H.eZ,fun n s l=>(by
  obtain⟨c,f,i⟩:=H.obj n s l;exact⟨c,f,(tn b vs o w c (fun e=>B n (e ▸ f))).trans i⟩),fun n Z l=>(by
  obtain⟨c,J,ck,f,i,y⟩:=H.aA n Z l;exact⟨c,J,ck,f,(tn b vs o w c (fun e=>B n (e ▸ f))).trans i,y.mono C⟩),H.gb.trans C,H.gB⟩⟩
 ·obtain⟨q,u⟩:=H.kept k g;exact⟨q,(tn b vs o w k (fun e=>Q (e ▸ g))).trans u⟩
 ·obtain⟨q,u⟩:=H.i0 a d;exact⟨.inl q,(F a q).trans u⟩
 ·rcases d with d | ⟨k,g,rfl⟩
  ·exact H.eo a d
  ·exact .inr R
 ·rcases d with d | ⟨k,g,rfl⟩
  ·rw [F a d];exact H.cu a d
  ·rw [Ha b vs o w O k g];simp [g]
 ·obtain⟨c,J,ty,f,i,y,K⟩:=H.box n X Y l;exact⟨c,J,ty,f,(tn b vs o w c (fun e=>B n (e ▸ f))).trans i,y.mono C,K⟩
 ·obtain⟨f,i,y,K⟩:=H.bJ n c l;refine⟨by rw [M];exact f,i,fun D a e d=>?_,K⟩;rcases d with d | ⟨k,g,rfl⟩
  ·exact y D a e d
  ·exact B n (by rw [l];exact congrArg some e.symm)
 ·obtain⟨A,n,x,t,f,i⟩:=H.row r N;refine⟨A,n,x,t,f,fun k g a0=>?_⟩;obtain⟨p,e,c1,c2,c3,c4,c5⟩:=i k g a0;have a1:p.block≠b:=D r A n x t N f (by omega) p e;have L:(p.add k).block≠b:=by rw [block_add];exact a1
  refine⟨p,e,by rw [tp b vs o w _ (fun e=>absurd e L)];exact c1,by rw [Po];exact c2,fun z=>?_,c4,c5⟩;rcases z with z | ⟨j,a2,z⟩
  ·exact c3 z
  ·rw [z] at L;exact L rfl
section
variable {E:Env}{P:Program}{ro:Option Nat}{o:Oper}
theorem jK{v:AV}{b:Nat}{c:List D}(h:v.elems=some (b,c))(G:Gh)(w:World)(u:Value)(a:aC G w v u):au G.I w (.sl b c) u:=by
 unfold AV.elems at h;split at h <;> simp only [aL,ee,reduceCtorEq] at h
 ·obtain⟨rfl,rfl⟩:=h;have:=a.cw;cases this;exact .sl ⟨0,0,none⟩ (fun _=>undef) rfl (by simp) (by simp) (.inr rfl) (by simp) (by simp [D.flat]) (by simp [D.flat]) (by simp [D.flat])
 ·obtain⟨rfl,rfl⟩:=h;exact a.cw
 ·obtain⟨rfl,rfl⟩:=h;cases a;assumption
theorem Qv{t e x j d f i g l}{k:IntKind}{b:List D}{a:Int}{m:AV}(h:o.op=.indexAddr t x j)(q:CO x d)(r:CO j f)(s:P.underlying t=some (.slice e))(y:P.info? e=some i)(z:i.size=g)(A:m.elems=some (l,b))(n:l=g/\0<=a/\a<b.length)(p:Prop) :
  a_ E P ro o [(d,m),(f,.d (.lit (.int k a)))] {c:=p,v:=.d (.ip (b.getD a.toNat default))} :=
 Qu h q r s y z (fun G w u B=>jK A G w u B) n.2 n.1 p
theorem HT{t e:TypeId}{n:Nat}{i:TypeInfo}{w:World}{b:Addr}{k:IntKind}{a:Int}(d:P.underlying t=some (.array n e))(f:P.info? e=some i)(c:0<=a/\a<n) :
  (Instr.indexAt t (.pointer (some b)) (.int k a)).run P w=.ok (.pointer (some (b.add (a.toNat*i.size)))) w:=by
 simp [Instr.indexAt,asIntOf,dm d,Instr.sureAddr,sizeOf,typeInfo,f,c.1,c.2]
theorem Qw{t e n x j g l i d b f}{k:IntKind}{a:Int}(h:o.op=.indexAddr t x j)(q:CO x g)(r:CO j l)(s:P.underlying t=some (.array n e))(y:P.info? e=some i)(z:i.size=d)(A:0<=a/\a<n)(p:Prop) :
  a_ E P ro o [(g,.ptr b f),(l,.d (.lit (.int k a)))] {c:=p,v:=.ptr b (f+a.toNat*d)} :=
 dk (by simp [h]) fun G B w L H C=>by obtain⟨m,D⟩:=fz C q r;have F:=D.lit.1;generalize I:B.eval x=u at m;cases m;rename_i J K;exact⟨.pointer (some ⟨J,f+a.toNat*d,none⟩),by simp only [execOp,h,c',I,F,HT s y A,cc,z,dt,dV],.ptr K⟩
theorem Qx{t e n x j g l i a m}{k:IntKind}{b:Int}{y:D}(h:o.op=.indexAddr t x j)(q:CO x g)(r:CO j l)(s:P.underlying t=some (.array n e))(z:P.info? e=some i)(A:i.size=a)(d:0<=b/\b<n/\b.toNat*a+a<=y.cells.length/\(m=false->a=1))(p:Prop) :
  a_ E P ro o [(g,.d (.ip y)),(l,.d (.lit (.int k b)))] {c:=p,v:=.d (.ip (iv (b.toNat*a) a m y))} :=
 dk (by simp [h]) fun G B w O H C=>by obtain⟨f,F⟩:=fz C q r;have I:=F.lit.1;have f:=f.cw;generalize J:B.eval x=u at f;cases f;rename_i K Q L M N;exact⟨.pointer (some (K.add (b.toNat*a))),by simp only [execOp,h,c',J,I,HT s z ⟨d.1,d.2.1⟩,A,dt,dV],.d (HR L M N d.2.2.1 d.2.2.2)⟩
theorem Bg{a:Nat}{b:List D}(j:∀ e∈b,e.cells.length=a)(l h:Nat):∀ k c,(D.flat ((b.take h).drop l))[k]?=some c->(D.flat b)[l*a+k]?=some c:=by
 intro k c f;have m:∀ e∈(b.take h).drop l,e.cells.length=a:=fun e q=>j e (ir (iL q))
 have r:=fU m;have n:k<((b.take h).drop l).length*a:=by
  rw [<- r];rcases bB k (D.flat ((b.take h).drop l)).length with g | g
  ·exact g
  ·rw [cb g] at f;cases f
 have o:0<a:=by
  rcases n_ a with i | i
  ·rw [i] at n;omega
  ·exact i
 have s:k / a<((b.take h).drop l).length:=(uY o).2 n;have d:((b.take h).drop l)[k / a]?=some ((b.take h).drop l)[k / a]:=aI s;have t:b[l+k / a]?=some ((b.take h).drop l)[k / a]:=by
  rw [fD,eh] at d;split at d
  ·exact d
  ·cases d
 have p:=qW k o;have u:k=k / a*a+k % a:=by have:=uZ k a;rw [qX] at this;omega
 rw [u,flat_get m d _ p] at f;rw [show l*a+k=(l+k / a)*a+k % a by rw [gh];omega,flat_get j t _ p];exact f
theorem HU{I:Addr->Prop}{w:World}{a:Nat}{f:List D}{A:Option Addr}{n i l h m:Nat}(o:au I w (.sl a f) (.slice A n i))(C:l<=h)(p:h<=f.length)(E:h<=m)(F:m<=i) :
  au I w (.sl a ((f.take h).drop l)) (.slice (if m=l then A else A.map (·.add (l*a))) (h-l) (m-l)):=by
 obtain⟨G,H,J,q,r,e,K,j,L,b,g,s,t,u⟩:=o.gJ;injection e with v x y
 subst v;subst x;subst y;have z:((f.take h).drop l).length=h-l:=by simp;omega
 refine .sl (q.add (l*a)) (fun k=>r (l*a+k)) z.symm (by omega) (by omega) ?_ (fun e B=>g e (ir (iL B))) (fun c j=>?_) (fun k c d=>?_) (fun k c d=>u _ c (Bg g l h k c d))
 ·by_cases M:l=h
  ·right;apply hV;omega
  ·left;rw [ab (by omega)];rcases b with b | b
   ·rw [b];rfl
   ·subst b;simp at p;omega
 ·obtain⟨k,d⟩:=hs j;exact s c (dh (Bg g l h k c d))
 ·rw [add_add];exact t _ c (Bg g l h k c d)
theorem Bh{t e:TypeId}{i:TypeInfo}{w:World}{A:Option Addr}{n cap:Nat}{lo hi:Option Value}{l h:Nat}(a:P.underlying t=some (.slice e))(b:P.info? e=some i)(c:(lo=none/\l=0)\/∃ k,lo=some (.int k (l:Int)))(d:(hi=none/\h=n)\/∃ k,hi=some (.int k (h:Int)))(f:l<=h)(g:h<=cap) :
  (Instr.sliceAt t (.slice A n cap) lo hi none).run P w=.ok (.slice (if cap=l then A else A.map (·.add (l*i.size))) (h-l) (cap-l)) w:=by
 rcases c with ⟨rfl,rfl⟩ | ⟨k,rfl⟩ <;> rcases d with ⟨rfl,rfl⟩ | ⟨j,rfl⟩ <;>
  simp [Instr.sliceAt,dm a,Instr.slice,Instr.sliceBounds,Instr.sliceBound,asIntOf,sizeOf,typeInfo,b,g,f]
theorem Qy{t e:TypeId}{i:TypeInfo}{w:World}{A:Option Addr}{n cap:Nat}{lo:Option Value}{l h m:Nat}{k1 k2:IntKind}(a:P.underlying t=some (.slice e))(b:P.info? e=some i)(c:(lo=none/\l=0)\/∃ k,lo=some (.int k (l:Int)))(d:l<=h)(f:h<=m)(g:m<=cap) :
  (Instr.sliceAt t (.slice A n cap) lo (some (.int k1 (h:Int))) (some (.int k2 (m:Int)))).run P w=.ok (.slice (if m=l then A else A.map (·.add (l*i.size))) (h-l) (m-l)) w:=by
 rcases c with ⟨rfl,rfl⟩ | ⟨k,rfl⟩ <;>
  simp [Instr.sliceAt,dm a,Instr.slice,Instr.sliceBounds,Instr.sliceBound,asIntOf,sizeOf,typeInfo,b,g,d,f]
theorem vy{n:Nat}(h:n<=9223372036854775807):Sc (.int .i64 (n:Int)):=by refine⟨?_,?_⟩ <;> simp only [IntKind.min,IntKind.max,IntKind.bits,IntKind.signed] <;> simp <;> omega
theorem HV{x b t e}{d:AV}{g:Nat}{f:List D}(h:o.op=.call {callee:=.builtin .len,args:=#[x],argTypes:=#[t]})(i:CO x b)(j:P.underlying t=some (.slice e))(k:d.elems=some (g,f))(p:Prop):a_ E P ro o [(b,d)] {c:=p,v:=.d (.lit (.int .i64 f.length))} :=
 dk (by simp [h]) fun G a w s H l=>by have m:=jK k G w _ (eO l i);obtain⟨n,A,u,y,z,q,r,B,C,_⟩:=m.gJ;refine⟨.int .i64 n,by simp [execOp,h,resolve,invoke,builtin,q,Builtin.len_,dm j,goInt],?_⟩;rw [r];exact .d (.lit (vy (by omega)))
theorem Qz{x b t}{s:ByteArray}(h:o.op=.call {callee:=.builtin .len,args:=#[x],argTypes:=#[t]})(d:CO x b)(e:P.underlying t=some .string)(p:Prop):a_ E P ro o [(b,.d (.lit (.string s)))] {c:=p,v:=.d (.lit (.int .i64 s.size))} :=
 dk (by simp [h]) fun G a w j H f=>by obtain⟨g,i⟩:=(eO f d).lit;exact⟨.int .i64 s.size,by simp [execOp,h,resolve,invoke,builtin,g,Builtin.len_,dm e,goInt],.d (.lit (vy i))⟩
theorem rC{a:Act}{G:Gh}{w:World}{lo:Option Operand}{e:Option aO}(m:gZ lo e){g:List AV}{d:Nat}{l:Int}{j:List AV}{rest:List aO}(b:bound e g d=some (l,j))(f:∀ p∈(gz e++rest).zip g,iN G w a p.1 p.2):((lo.map a.eval=none/\l=d)\/∃ k,lo.map a.eval=some (.int k l))/\∀ p∈rest.zip j,iN G w a p.1 p.2:=by
 cases m with
 | none =>simp only [bound,aL,ee] at b;obtain⟨rfl,rfl⟩:=b;exact⟨.inl ⟨rfl,rfl⟩,f⟩
 | some h =>
  unfold bound at b;split at b <;> simp only [aL,ee,reduceCtorEq] at b
  ·rename_i c;cases c
  ·obtain⟨rfl,rfl⟩:=b;rename_i y k i _ c;injection c with c
   refine⟨.inr ⟨k,?_⟩,fun p n=>f p (by simp [gz];exact .inr n)⟩;have:=(f (_,.d (.lit (.int k i))) (by simp [gz]) _ h).lit.1;simp [this]
theorem HW{t e x lo F g s j i u I}{f:AV}{J K:List AV}{k:List D}{b d:Int}(L:o.op=.slice t x lo F none)(M:CO x g)(T:gZ lo s)(U:gZ F j)(V:P.underlying t=some (.slice e))(W:P.info? e=some i)(X:i.size=u)(Y:f.elems=some (I,k))(Z:bound s J 0=some (b,K))(a0:bound j K k.length=some (d,[]))(a1:I=u/\0<=b/\b<=d/\d<=k.length)(p:Prop) :
  a_ E P ro o ((g::(gz s++gz j)).zip (f::J)) {c:=p,v:=rB f u ((k.take d.toNat).drop b.toNat)} :=
 dk (by simp [L]) fun G a N O H y=>by
  obtain⟨c1,Q,c3,c4⟩:=a1;subst c1;have z:=jK Y G N _ (y (g,f) (by simp) x M);obtain⟨g1,g2⟩:=rC T Z (fun p O=>y p (by simp;exact .inr O)) (rest:=gz j);obtain⟨g3,_⟩:=rC U a0 (rest:=[]) (by simpa using g2);obtain⟨b,rfl⟩:=ht Q;obtain⟨d,rfl⟩:=ht (AB Q c3);obtain⟨a2,B,r,ad,us,C,b3,b4,hm,_⟩:=z.gJ;have b0:=Bh (P:=P) (w:=N) (A:=B) (n:=a2) (cap:=r) (l:=b) (h:=d) V W (by
   rcases g1 with ⟨q1,R⟩ | q
   ·exact .inl ⟨q1,by simpa using R⟩
   ·exact .inr q) (by
   rcases g3 with ⟨q1,R⟩ | q
   ·exact .inl ⟨q1,by omega⟩
   ·exact .inr q) (by omega) (by omega)
  have b1:=y (g,f) (by simp) x M;rw [C] at z;refine⟨.slice (if r=b then B else B.map (·.add (b*i.size))) (d-b) (r-b),by simp only [execOp,L,c',C,Hb,b0,dt,dV],?_⟩;have b2:=HU (l:=b) (h:=d) (m:=r) z (by omega) (by omega) (by omega) (by omega);unfold rB;split
  ·have S:=b1.cw;rw [C] at S;cases S;have h0:b=0/\d=0:=by omega
   obtain⟨rfl,rfl⟩:=h0;exact .d (by rw [aj rfl];exact .nil)
  ·rw [X];exact .d b2
theorem QA{t e x m q s i r z f k}(y:o.op=.slice t x none (some m) none)(I:CO x q)(J:CO m s)(K:P.underlying t=some (.slice e))(L:P.info? e=some i)(p:Prop) :
  a_ E P ro o [(q,.spare r z f),(s,.d (.lit (.int k 0)))] {c:=p,v:=.own r z []} :=
 dk (by simp [y]) fun G a M T H N=>by
  obtain⟨B,O⟩:=fz N I J;obtain⟨Q,_⟩:=O.lit;generalize R:a.eval x=u at B;obtain⟨d,b,rfl,g,C,j⟩:∃ d b,u=.slice b f d/\G.row r=some (b,0,d,z)/\f<=d/\d<=9223372036854775807:=by
   cases B with
   | spare g C j=>exact⟨_,_,rfl,g,C,j⟩
  have F:=Bh (P:=P) (w:=M) (A:=b) (n:=f) (cap:=d) (l:=0) (h:=0) (lo:=none) (hi:=some (.int k 0)) K L (.inl ⟨rfl,rfl⟩) (.inr ⟨k,rfl⟩) (by omega) (by omega);have S:(if d=0 then b else b.map (·.add (0*i.size)))=b:=by
   split
   ·rfl
   ·cases b <;> simp [Addr.add]
  rw [S] at F;refine⟨.slice b 0 d,by simp only [execOp,y,c',R,Q,lU,Hb,F,dt,dV,Nat.sub_zero],.own g ?_⟩;exact .sl ⟨0,0,none⟩ (fun _=>undef) rfl (by simp) j (.inr rfl) (by simp) (by simp [D.flat]) (by simp [D.flat]) (by simp [D.flat])
theorem Bi{j:List (aO×AV)}{q:Nat}{g:Nat}{l:List D}{i:Prop}(s:∀ i,o.op≠.defer i)(h:∀ (G:Gh) (a:Act) (w:World) (h:Hp),aD E G h w->(∀ p∈j,iN G w a p.1 p.2)->∃ e b d f,(execOp a.eval o).run P w=.ok (.value (.slice e b b)) d/\aW G w f d/\aD E f h d/\au f.I d (.sl g l) (.slice e b b)) :
  a_ E P ro o j {c:=i,v:=.own q g l,up:=[(q,.row)]}:=by
 intro G a w m H t _ u K Q x;obtain⟨e,b,d,f,y,z,B,C⟩:=h G a w m H t;have F:m q=none:=by
  rcases u (q,.row) (by simp) with h | ⟨q,I,_⟩
  ·exact h
  ·simp at I
 obtain⟨r,J⟩:=B.na F (A:=e) (n:=b) (cap:=b) (sz:=g) (fun k L M=>by omega) (fun N=>by omega);exact fk s y (x _ _ _ (z.trans r) J (.own (by simp) (C.mono r.ef)))
theorem QB{t e x lo r s u y g j i z J q}{B:AV}{K:List AV}{C:List D}{d f b:Int}{k1 k2:IntKind}(L:o.op=.slice t x lo (some r) (some s))(S:CO x u)(T:gZ lo y)(U:CO r g)(V:CO s j)(W:P.underlying t=some (.slice e))(X:P.info? e=some i)(Y:i.size=z)(Z:B.elems=some (J,C))(a0:bound y K 0=some (d,[.d (.lit (.int k1 f)),.d (.lit (.int k2 b))]))(a1:J=z/\0<=d/\d<=f/\f<=C.length/\b=f)(p:Prop) :
  a_ E P ro o ((u::(gz y++[g,j])).zip (B::K)) {c:=p,v:=.own q z ((C.take f.toNat).drop d.toNat),up:=[(q,.row)]} :=
 Bi (by simp [L]) fun G a k M H N=>by
  obtain⟨c1,O,c3,c4,c5⟩:=a1;subst c1;subst c5;have F:=jK Z G k _ (N (u,B) (by simp) x S);obtain⟨g1,Q⟩:=rC T a0 (fun p M=>N p (by simp;exact .inr M)) (rest:=[g,j]);have g3:=(Q (g,.d (.lit (.int k1 b))) (by simp) r U).lit.1;have g4:=(Q (j,.d (.lit (.int k2 b))) (by simp) s V).lit.1;obtain⟨d,rfl⟩:=ht O;obtain⟨b,rfl⟩:=ht (AB O c3);obtain⟨a2,I,b0,ad,us,R,b2,b3,hm,_⟩:=F.gJ;have b1:=Qy (P:=P) (w:=k) (A:=I) (n:=a2) (cap:=b0) (l:=d) (h:=b) (m:=b) (k1:=k1) (k2:=k2) W X (by
   rcases g1 with ⟨q1,q2⟩ | q
   ·exact .inl ⟨q1,by simpa using q2⟩
   ·exact .inr q) (by omega) (by omega) (by omega)
  rw [R] at F;refine⟨if b=d then I else I.map (·.add (d*i.size)),b-d,k,G,by simp only [execOp,L,c',R,lU,g3,g4,b1,dt,dV],aW.refl G k,H,?_⟩;have:=HU (l:=d) (h:=b) (m:=b) F (by omega) (by omega) (by omega) (by omega);rw [Y];exact this
end
section
variable {E:Env}{P:Program}{ro:Option Nat}{o:Oper}
theorem QC{v:AV}{x:D}(h:v.pR=some x){G:Gh}{w:World}{u:Value}(a:aC G w v u):au G.I w x u:=by
 unfold AV.pR at h;split at h <;> simp only [aL,reduceCtorEq] at h
 ·subst h;exact a.cw
 ·subst h;cases a;assumption
theorem QD{v:AV}{x:D}(h:v.pR=some x)(a:v.one=true):x.one=true:=by
 unfold AV.pR at h;split at h <;> simp only [aL,reduceCtorEq] at h
 ·subst h;exact a
 ·subst h;rfl
theorem HX:∀ {a:List AV}{b:List D},rz a=some b->b.length=a.length/\∀ (k:Nat) (d:D),b[k]?=some d->∃ c:AV,a[k]?=some c/\c.pR=some d
 | [],b,h=>by simp [rz] at h;subst h;simp
 | c::a,b,h=>by
  simp only [rz] at h;cases e:c.pR with
  | none=>simp [e] at h
  | some x =>
   cases f:rz a with
   | none=>simp [e,f] at h
   | some l =>
    simp [e,f] at h;subst h;obtain⟨i,j⟩:=HX f;refine⟨by simp [i],fun k d g=>?_⟩;cases k with
    | zero=>simp at g;subst g;exact⟨c,rfl,e⟩
    | succ k=>simpa using j k d (by simpa using g)
theorem Bj{v:AV}{x:D}(h:v.lu=some x){G:Gh}{w:World}{u:Value}(a:aC G w v u):au G.I w x u:=by
 unfold AV.lu at h;split at h <;> simp only [aL,bZ,reduceCtorEq] at h
 ·subst h;exact a.cw
 ·subst h;cases a;assumption
 ·obtain⟨q,i,rfl⟩:=h;obtain⟨j,g⟩:=HX i;cases a with
  | agg l m n =>
   refine .agg (by rw [l,j]) (fun d o=>?_) (fun k d u b p=>?_)
   ·obtain⟨k,b⟩:=hs o;obtain⟨c,e,f⟩:=g k d b;exact QD f (m c (dh e))
   ·obtain⟨c,e,f⟩:=g k d b;exact QC f (n k c u e p)
theorem Bk{G:Gh}{w:World}{a:Act}:∀ (ps:List aO) (b:List AV) (d:List D) (c:List Operand),iw b=some d->bH CO c ps->b.length=ps.length->(∀ p∈ps.zip b,iN G w a p.1 p.2) ->d.length=ps.length/\∀ (k:Nat) (e:D) (x:Operand),d[k]?=some e->c[k]?=some x->au G.I w e (a.eval x)
 | [],b,d,c,h,j,g,m=>by cases j;have:b=[]:=hV (by simpa using g);subst this;simp [iw] at h;subst h;exact⟨rfl,fun k e x f=>by simp at f⟩
 | p::ps,b,d,c,h,j,g,m=>by
  cases j;rename_i x c q t;cases b with
  | nil=>simp at g
  | cons v b =>
   unfold iw at h;cases i:v.lu with
   | none=>simp [i] at h
   | some y =>
    cases n:iw b with
    | none=>simp [i,n] at h
    | some l =>
     simp [i,n] at h;subst h;obtain⟨r,s⟩:=Bk ps b l c n t (by simpa using g) (fun p z=>m p (by simp;exact .inr z));refine⟨by simp [r],fun k e u f o=>?_⟩;cases k with
     | zero=>simp at f o;subst f;subst o;exact Bj i (m (p,v) (by simp) x q)
     | succ k=>exact s k e u (by simpa using f) (by simpa using o)
theorem gD{a b:Type}{R:a->b->Prop}{l:List a}{m:List b}(h:bH R l m):l.length=m.length:=by
 induction h with
 | nil=>rfl
 | cons _ _ c=>simp [c]
theorem HY{t e i b J r L ps}{M:List AV}{d:List D}(h:o.op=.buildSlice t r L)(N:P.underlying t=some (.slice e))(Y:P.info? e=some i)(Z:i.size=b)(O:0<b)(c0:i.zero=some J)(e9:J.cells.size=b)(hl:r=ps.length)(d0:∃ g:List Operand,L.toList=(g.zipIdx 0).map (fun x=>(x.2,x.1))/\bH CO g ps)(d3:M.length=ps.length)(d4:iw M=some d)(z:(∀ e∈d,e.cells.length=b/\(∀ ds,e≠.af ds))/\d.length*b<=16777216) :
  ∀ (G:Gh) (a:Act) (w:World) (h:Hp),aD E G h w->(∀ p∈ps.zip M,iN G w a p.1 p.2)->∃ A n Q S,(execOp a.eval o).run P w=.ok (.value (.slice A n n)) Q/\aW G w S Q/\aD E S h Q/\au S.I Q (.sl b d) (.slice A n n) :=
 fun G a w f0 H d5=>by
  obtain⟨g,a0,a1⟩:=d0;obtain⟨d1,d2⟩:=Bk ps M d g d4 a1 d3 d5;have a2:=gD a1;have b0:∀ (k:Nat) (e:D) (x:Operand),d[k]?=some e->g[k]?=some x->gX G.I w e.cells (a.eval x).cells/\∀ c∈e.cells,c.one=true:=fun k e x B K=>(d2 k e x B K).cells (z.1 e (dh B)).2
  have T:∀ v∈g.map a.eval,v.cells.size=b:=fun v C=>by
   obtain⟨k,j⟩:=hs C;simp only [bG,bZ] at j;obtain⟨x,K,rfl⟩:=j;have f1:k<g.length:=by
    rcases bB k g.length with f | f
    ·exact f
    ·rw [cb f] at K;cases K
   have b1:d[k]?=some d[k]:=aI (by omega);rw [(b0 k _ x b1 K).1.1];exact(z.1 _ (dh b1)).1
  by_cases b2:r*i.size=0
  ·have d6:r=0:=by
    rcases Nat.mul_eq_zero.1 b2 with f | f
    ·exact f
    ·omega
   have d7:d=[]:=hV (by omega);have d8:g=[]:=hV (by omega);subst d7;subst d8;have d9:L=#[]:=by simpa using a0
   refine⟨some ⟨w.heap.size,0,none⟩,0,w.alloc (.cells #[] e),G,?_,?_⟩
   ·simp [execOp,h,Instr.buildSlice,dm N,sizeOf,typeInfo,Y,d6,d9,Instr.fill,newRow];rw [show Array.range 0=#[] from AD (by simp),Array.map_empty]
   ·obtain⟨R,U⟩:=H.grow (ct.alloc w (.cells #[] e)) G.I (fun _ h=>h) (fun _ h=>.inl h) (fun m F=>by rw [(ct.alloc w _).cell (H.e_ F)];exact H.cu m F);exact⟨R,U,.sl ⟨w.heap.size,0,none⟩ (fun _=>undef) rfl (by simp) (by simp) (.inr rfl) (by simp) (by simp [D.flat]) (by simp [D.flat]) (by simp [D.flat])⟩
  ·have e0:=Pp (s:=i.size) (by omega) (g.map a.eval) ((Array.range (r*i.size)).map (J.cells[· % J.cells.size]!)) (fun v C=>by rw [Z];exact T v C) (by rw [db,Pq,Pr,a2,hl]);have e2:¬ r*i.size>2 ^ 24:=by
    have h1:r*i.size=d.length*b:=by rw [hl,<- d1,Z]
    have:=z.2;omega
   have b3:=run_buildSlice (P:=P) w t e r (L.map fun(i,x)=>(i,a.eval x)) _ i J N Y c0 e2 b2 (by
    rw [G_,a0,dA];have:(g.zipIdx 0).map ((fun(p:Nat×Operand)=>(p.1,a.eval p.2))∘fun x=>(x.2,x.1))=((g.map a.eval).zipIdx 0).map fun x=>(x.2,x.1):=by rw [Ps,dA];rfl
    exact(congrArg _ this).trans e0)
   generalize b4:((g.map a.eval).flatMap fun v=>v.cells.toList)=q at b3;have f2:q.length=d.length*b:=by
    have e3:∀ (l:List Value),(∀ v∈l,v.cells.size=b)->(l.flatMap fun v=>v.cells.toList).length=l.length*b:=by
     intro l
     induction l with
     | nil=>simp
     | cons v l e4 =>intro C;rw [ll,da,e4 (fun u N=>C u (by simp [N])),bN,gh,AA,C v (by simp)];omega
    rw [<- b4,e3 _ T,db,a2,d1]
   have V:∀ k c,(D.flat d)[k]?=some c->∃ v,q[k]?=some v/\au G.I w c v/\c.one=true:=fun k c j=>by
    have W:∀ e∈d,e.cells.length=b:=fun e B=>(z.1 e B).1
    have e5:k<d.length*b:=by
     rw [<- fU W];rcases bB k (D.flat d).length with f | f
     ·exact f
     ·rw [cb f] at j;cases j
    have e6:k / b<d.length:=(uY O).2 e5;have hm:=qW k O;have I:d[k / b]?=some d[k / b]:=aI e6;have b5:g[k / b]?=some (g[k / b]'(by omega)):=aI (by omega);have e1:k=k / b*b+k % b:=by have:=uZ k b;rw [qX] at this;omega
    have b6:d[k / b].cells[k % b]?=some c:=by
     rw [<- j];conv=>rhs;rw [e1]
     exact(flat_get W I _ hm).symm
    obtain⟨c1,c2⟩:=b0 _ _ _ I b5;have e7:q[k]?=(a.eval (g[k / b]'(by omega))).cells[k % b]?:=by rw [<- b4,Great.flat_get O _ T k,bG,b5];rfl
    have b7:k % b<(a.eval (g[k / b]'(by omega))).cells.size:=by rw [c1.1,W _ (dh I)];exact hm
    refine⟨(a.eval (g[k / b]'(by omega))).cells[k % b],by rw [e7];exact bb b7,c1.2 _ c _ b6 (bb b7),c2 c (dh b6)⟩
   have I:=ct.alloc w (.cells q.toArray e);have b8:∀ k,(w.alloc (.cells q.toArray e)).cell? ⟨w.heap.size,k,none⟩=q[k]?:=fun k=>by have:=hW (w.alloc (.cells q.toArray e)) w.heap.size k q.toArray e (0,0) (iK w _);rw [this];simp
   obtain⟨R,U⟩:=H.grow I (fun m=>G.I m\/(m.block=w.heap.size/\m.spot=none/\m.off<q.length)) (fun _ h=>.inl h) (fun m F=>by
     rcases F with f | f
     ·exact .inl f
     ·exact .inr (by omega)) (fun m F=>by
     rcases F with f | ⟨y,b9,X⟩
     ·rw [I.cell (H.e_ f)];exact H.cu m f
     ·have:m=⟨w.heap.size,m.off,none⟩:=by cases m;simp_all
      rw [this,b8];simp [X])
   refine⟨some ⟨w.heap.size,0,none⟩,r,_,_,by simp only [execOp,h,c',b3,dt,dV],R,U,?_⟩;refine .sl ⟨w.heap.size,0,none⟩ (fun k=>q.getD k undef) (by omega) (by omega) (by have:=z.2;have:=ahN d.length O;omega) (.inl rfl) (fun e B=>(z.1 e B).1) (fun c e8=>?_) (fun k c j=>?_) (fun k c j=>?_)
   ·obtain⟨k,j⟩:=hs e8;obtain⟨v,_,_,X⟩:=V k c j;exact X
   ·obtain⟨v,y,_,_⟩:=V k c j;rw [cc,bC,b8,y];refine⟨.inr ⟨rfl,rfl,?_⟩,by simp [List.getD,y]⟩;rcases bB k q.length with f | f
    ·exact f
    ·rw [cb f] at y;cases y
   ·obtain⟨v,y,b9,_⟩:=V k c j;have:q.getD k undef=v:=by simp [List.getD,y]
    rw [this];exact b9.mono R.ef
theorem QE{t e i a f g j ps q}{d:List AV}{b:List D}(h:o.op=.buildSlice t g j)(l:P.underlying t=some (.slice e))(m:P.info? e=some i)(n:i.size=a)(r:0<a)(s:i.zero=some f)(u:f.cells.size=a)(w:g=ps.length)(y:∃ k:List Operand,j.toList=(k.zipIdx 0).map (fun x=>(x.2,x.1))/\bH CO k ps)(z:d.length=ps.length)(A:iw d=some b)(B:(∀ e∈b,e.cells.length=a/\(∀ C,e≠.af C))/\b.length*a<=16777216)(p:Prop) :
  a_ E P ro o (ps.zip d) {c:=p,v:=.own q a b,up:=[(q,.row)]} :=
 Bi (by simp [h]) (HY h l m n r s u w y z A B)
theorem QF{t e i b g j k ps}{f:List AV}{d:List D}(h:o.op=.buildSlice t j k)(m:P.underlying t=some (.slice e))(q:P.info? e=some i)(r:i.size=b)(s:0<b)(u:i.zero=some g)(y:g.cells.size=b)(z:j=ps.length)(B:∃ l:List Operand,k.toList=(l.zipIdx 0).map (fun x=>(x.2,x.1))/\bH CO l ps)(C:f.length=ps.length)(F:iw f=some d)(I:(∀ e∈d,e.cells.length=b/\(∀ J,e≠.af J))/\d.length*b<=16777216)(p:Prop):a_ E P ro o (ps.zip f) {c:=p,v:=.d (.sl b d)}:=by intro G a w L H M _ U K Q N;obtain⟨A,n,V,W,O,R,S,T⟩:=HY h m q r s u y z B C F I G a w L H M;exact fk (by simp [h]) O (N _ _ _ R S (.d T))
theorem QG{x y d e g}{b:Bool}{k f:IntKind}{i j:Int}(h:o.op=.call {callee:=.builtin (if b then .max else .min),args:=#[x,y],argTypes:=g})(l:CO x d)(m:CO y e)(n:k=f)(p:Prop) :
  a_ E P ro o [(d,.d (.lit (.int k i))),(e,.d (.lit (.int f j)))] {c:=p,v:=.d (.lit (.int k (if b then (if j>i then j else i) else (if j<i then j else i))))} :=
 dk (by simp [h]) fun G a w B H q=>by
  subst n;obtain⟨r,s⟩:=fz q l m;obtain⟨t,u⟩:=r.lit;obtain⟨z,A⟩:=s.lit;refine⟨.int k (if b then (if j>i then j else i) else (if j<i then j else i)),?_,.d (.lit ?_)⟩
  ·cases b <;> simp [execOp,h,resolve,invoke,builtin,t,z,Builtin.max_,Builtin.min_,Builtin.max2,Builtin.min2]
  ·simp only [Sc] at u A |-;cases b <;> simp <;> split <;> omega
theorem jL{G:Gh}{w:World}{a:Act}:∀ (e:List Operand) (ps:List aO) (b:List AV),bH CO e ps->b.length=ps.length->(∀ p∈ps.zip b,iN G w a p.1 p.2) ->∀ (k:Nat) (c:AV) (u:Value),b[k]?=some c->(e.map a.eval)[k]?=some u->aC G w c u
 | _,_,b,.nil,f,_,k,c,u,d,_=>by have:b=[]:=hV (by simpa using f);subst this;simp at d
 | x::e,p::ps,b,.cons h t,f,i,k,c,u,d,g=>by
  cases b with
  | nil=>simp at f
  | cons v b =>
   cases k with
   | zero=>simp at d g;subst d;subst g;exact i (p,v) (by simp) x h
   | succ k=>exact jL e ps b t (by simpa using f) (fun q j=>i q (by simp;exact .inr j)) k c u (by simpa using d) (by simpa using g)
theorem QH{f first g b e}{d:List AV}(h:o.op=.makeFunc f first g)(n:bH CO first.toList b)(r:bH CO g.toList e)(t:d.length=(b++e).length)(p:Prop) :
  a_ E P ro o ((b++e).zip d) {c:=p,v:=.fn f (d.take b.length) (d.drop b.length)} :=
 dk (by simp [h]) fun G a w z H s=>by
  have x:=gD n;have y:=gD r;simp only [da] at t;refine⟨.func f (first.map a.eval) (g.map a.eval),by simp [execOp,h,Instr.makeFunc],.fn (by simp at x |-;omega) (by simp at y |-;omega) (fun k i u j l=>?_) (fun k i u j l=>?_)⟩
  ·refine jL first.toList b (d.take b.length) n (by simp;omega) (fun q m=>s q ?_) k i u j (by simpa using l)
   have:(b++e).zip d=b.zip (d.take b.length)++e.zip (d.drop b.length):=by
    conv=>lhs;rw [<- mP b.length d]
    rw [List.zip_append (by simp;omega)]
   rw [this];exact hX _ m
  ·refine jL g.toList e (d.drop b.length) r (by simp;omega) (fun q m=>s q ?_) k i u j (by simpa using l);have:(b++e).zip d=b.zip (d.take b.length)++e.zip (d.drop b.length):=by
    conv=>lhs;rw [<- mP b.length d]
    rw [List.zip_append (by simp;omega)]
   rw [this];exact jk _ m
theorem QI{x e i}{d:List AV}(h:o.op=.extract x i)(j:CO x e)(k:i<d.length)(p:Prop) :
  a_ E P ro o [(e,.af d)] {c:=p,v:=d.getD i default} :=
 dk (by simp [h]) fun G a w n H l=>by
  have b:=eO l j;generalize m:a.eval x=u at b;cases b;rename_i f q b;have g:i<f.size:=by omega
  exact⟨f[i],by simp [execOp,h,m,Instr.extract,g],b i _ _ (by simp [List.getD,aI k]) (bb g)⟩
theorem QJ{x e i}{d:List D}(h:o.op=.extract x i)(j:CO x e)(k:i<d.length)(p:Prop) :
  a_ E P ro o [(e,.d (.af d))] {c:=p,v:=.d (d.getD i default)} :=
 dk (by simp [h]) fun G a w n H l=>by
  have b:=(eO l j).cw;generalize m:a.eval x=u at b;cases b;rename_i f q b;have g:i<f.size:=by omega
  exact⟨f[i],by simp [execOp,h,m,Instr.extract,g],.d (b i _ _ (by simp [List.getD,aI k]) (bb g))⟩
theorem QK{s t x b k d}{e:IntKind}{i:Int}(h:o.op=.convert s t x)(f:CO x b)(g:P.underlying s=some d)(j:P.underlying t=some (.int k))(p:Prop) :
  a_ E P ro o [(b,.d (.lit (.int e i)))] {c:=p,v:=.d (.lit (.int k (k.wrap i)))} :=
 dk (by simp [h]) fun G a w n H l=>by have m:=(eO l f).lit.1;exact⟨.int k (k.wrap i),by simp [execOp,h,convert,dm g,dm j,m,Conv.intToInt],.d (.lit (Bb k i))⟩
theorem QL{t x b d}{y:D}(h:o.op=.makeInterface t x)(e:CO x b)(f:P.underlying t=some d)(k:∀ g,d≠.interface g)(p:Prop) :
  a_ E P ro o [(b,.d y)] {c:=p,v:=.d (.cQ t y)} :=
 dk (by simp [h]) fun G a w l H i=>by have j:=(eO i e).cw;refine⟨.iface t (a.eval x),?_,.d (.cQ j)⟩;cases d <;> simp_all [execOp,Instr.makeInterface,dm f]
end
section
variable {E:Env}{P:Program}{ro:Option Nat}{o:Oper}
theorem l_{I:Addr->Prop}{w:World}{d n s:Nat}{f:List D}{A:Option Addr}(h:au I w (.sl d f) (.slice A n s)) :
  ∃ m:List Value,m.length=n*d/\(∀ u∈m,u.oneCell'=true)/\(∀ o,A=some o->∀ j u,m[j]?=some u->w.cell? (o.add j)=some u/\I (o.add j)) /\(∀ (j:Nat) (c:D) (u:Value),(D.flat f)[j]?=some c->m[j]?=some u->au I w c u)/\n=f.length/\(∀ e∈f,e.cells.length=d)/\(∀ c∈D.flat f,c.one=true)/\(A=none->f=[])/\n<=s/\s<=9223372036854775807:=by
 obtain⟨L,M,N,o,C,e,t,E,F,b,v,x,y,z⟩:=h.gJ;injection e with G H J
 subst G;subst H;subst J;have B:=fU v;refine⟨(List.range (n*d)).map C,by simp,fun u p=>?_,fun O g j u q=>?_,fun j c u q p=>?_,t,v,x,fun g=>?_,E,F⟩
 ·obtain⟨k,a,rfl⟩:=aS.1 p;have l:k<(D.flat f).length:=by rw [B,<- t];exact di.1 a
  have K:=aI l;exact((z k _ K).pJ (x _ (cN l))).2
 ·simp only [bG,bZ] at q;obtain⟨k,a,rfl⟩:=q;have r:j<n*d:=by
   rcases bB j (n*d) with i | i
   ·exact i
   ·rw [cb (by simpa using i)] at a;cases a
  rw [sV r] at a;injection a with a;subst a
  have l:j<(D.flat f).length:=by rw [B,<- t];exact r
  rcases b with b | b
  ·rw [b] at g;injection g with g;subst g
   exact⟨(y j _ (aI l)).2,(y j _ (aI l)).1⟩
  ·subst b;simp [D.flat] at l
 ·simp only [bG,bZ] at p;obtain⟨k,a,rfl⟩:=p;have r:j<n*d:=by
   rcases bB j (n*d) with i | i
   ·exact i
   ·rw [cb (by simpa using i)] at a;cases a
  rw [sV r] at a;injection a with a;subst a
  exact z j c q
 ·rcases b with b | b
  ·rw [b] at g;cases g
  ·exact b
theorem xT{I:Addr->Prop}{w:World}{g cap:Nat}{a d:List D}{b o:Nat}{cs ds:List Value}(m:∀ e∈a,e.cells.length=g)(n:∀ e∈d,e.cells.length=g)(t:∀ c∈D.flat a,c.one=true)(v:∀ c∈D.flat d,c.one=true)(x:cs.length=a.length*g)(K:ds.length=d.length*g)(y:∀ j u,(cs++ds)[j]?=some u->w.cell? ⟨b,o+j,none⟩=some u/\I ⟨b,o+j,none⟩)(z:∀ (j:Nat) (c:D) (u:Value),(D.flat a)[j]?=some c->cs[j]?=some u->au I w c u)(A:∀ (j:Nat) (c:D) (u:Value),(D.flat d)[j]?=some c->ds[j]?=some u->au I w c u)(B:a.length+d.length<=cap)(C:cap<=9223372036854775807):au I w (.sl g (a++d)) (.slice (some ⟨b,o,none⟩) (a.length+d.length) cap):=by
 have p:D.flat (a++d)=D.flat a++D.flat d:=by simp [D.flat]
 have E:=fU m;have L:=fU n;have q:∀ k c,(D.flat (a++d))[k]?=some c->∃ u,(cs++ds)[k]?=some u/\au I w c u:=fun k c f=>by
  rw [p] at f;by_cases F:k<(D.flat a).length
  ·rw [eY F] at f;have:k<cs.length:=by omega
   exact⟨cs[k],by rw [eY this];exact aI this,z k c _ f (aI this)⟩
  ·rw [eJ (by omega)] at f;have M:k-(D.flat a).length<(D.flat d).length:=by
    rcases bB (k-(D.flat a).length) (D.flat d).length with l | l
    ·exact l
    ·rw [cb l] at f;cases f
   have r:k-cs.length<ds.length:=by omega
   refine⟨ds[k-cs.length],by rw [eJ (by omega)];exact aI r,A (k-cs.length) c _ (by rw [x,<- E];exact f) (aI r)⟩
 refine .sl ⟨b,o,none⟩ (fun k=>(cs++ds).getD k undef) (by simp) B C (.inl rfl) (fun e G=>?_) (fun c s=>?_) (fun k c f=>?_) (fun k c f=>?_)
 ·rcases cV.1 G with h | h
  ·exact m e h
  ·exact n e h
 ·rw [p] at s;rcases cV.1 s with h | h
  ·exact t c h
  ·exact v c h
 ·obtain⟨u,i,_⟩:=q k c f;obtain⟨q1,H⟩:=y k u i;rw [cc];exact⟨H,by rw [q1];simp [List.getD,i]⟩
 ·obtain⟨u,i,J⟩:=q k c f;have:(cs++ds).getD k undef=u:=by simp [List.getD,i]
  rw [this];exact J
theorem Bl{t ty e:TypeId}{i:TypeInfo}{w:World}{A A':Option Addr}{n cap c:Nat}(a:P.underlying t=some (.slice e))(b:P.info? e=some i)(d:n<=cap) :
  (Builtin.append_ #[t,t] ty #[.slice A n cap,.slice A' 0 c]).run P w=.ok (.slice A n cap) w:=by
 cases A <;> cases A' <;> simp [Builtin.append_,dm a,sizeOf,typeInfo,b,Builtin.lenOf,Builtin.firstCells,d,storeCells,loadCells,loadCellsFrom]
theorem Bm{t ty e:TypeId}{i:TypeInfo}{w:World}{b off n cap m c:Nat}{a':Addr}{news:List Value}(d:P.underlying t=some (.slice e))(f:P.info? e=some i)(g:news.length=m*i.size)(h:∀ j u,news[j]?=some u->w.cell? (a'.add j)=some u)(k:∀ u∈news,u.oneCell'=true)(l:n+m<=cap)(o:∀ j,j<news.length->(w.cell? ⟨b,off+n*i.size+j,none⟩).isSome=true)(p:∀ j,j<news.length->w.frozen? ⟨b,off+n*i.size+j,none⟩=false) :
  (Builtin.append_ #[t,t] ty #[.slice (some ⟨b,off,none⟩) n cap,.slice (some a') m c]).run P w=.ok (.slice (some ⟨b,off,none⟩) (n+m) cap) (w.setCells b (off+n*i.size) news):=by
 have q:=run_firstCells_some (P:=P) w i.size m a' m c news g h;have a:=run_storeCells_cells (P:=P) b (off+n*i.size) news 0 w (by simpa using o) (by simpa using p) k;simp only [kl] at a;simp [Builtin.append_,dm d,sizeOf,typeInfo,f,Builtin.lenOf,l,q,cc,a]
theorem HZ{G:Gh}{h:Hp}{d:World}(H:aD E G h d){t ty e:TypeId}{i:TypeInfo}{W:Value}{M bytes:Nat}(b6:P.underlying t=some (.slice e))(hi:P.info? e=some i)(X:i.size=M)(b7:i.bytes=bytes)(f0:i.zero=some W)(g7:W.cells.size=M)(j6:W.cells.all (·.oneCell')=true)(c0:0<M){A:Option Addr}{f F:Nat}{es:List D}{u:Value}{p:Nat}{Y:List D}(b8:au G.I d (.sl M es) (.slice A f F))(b2:lq E G d A f F M)(f3:au G.I d (.sl p Y) u)(g8:Y=[]\/p=M)(hd:f*M<F*M->∀ b3 A' a2 b0 Z,h b3=some .row->G.row b3=some (A',a2,b0,Z)->a2*Z<b0*Z->∀ J R,A=some J->A'=some R->J.block≠R.block)(g9:(es.length+Y.length)*bytes<=140737488355328)(j7:es.length+Y.length<=9223372036854775807){q:Nat}(c1:h q=none) :
  ∃ f4 w' G',(Builtin.append_ #[t,t] ty #[.slice A f F,u]).run P d=.ok f4 w'/\aW G d G' w'/\aD E G' (h.ar [(q,.row)]) w'/\aC G' w' (.own q M (es++Y)) f4:=by
 obtain⟨s,k1,k2,k3,k4,k5,k6,k7,k8,k9,h1⟩:=l_ b8;obtain⟨v,f5,cy,j8,j9,e1,hm,k0,l0,_⟩:=f3.gJ;subst e1;obtain⟨g,d1,d2,d3,d4,d5,d6,d7,d8,d9,l3⟩:=l_ f3;rcases n_ v with c2 | c2
 ·
  subst c2;have h2:Y=[]:=hV (by omega);subst h2;obtain⟨S,l2⟩:=H.na c1 b2 hd;refine⟨.slice A f F,d,_,Bl b6 hi k9,S,l2,?_⟩;rw [eN];exact .own (by simp) (b8.mono S.ef)
 ·have f6:Y≠[]:=by rintro rfl;simp at hm;omega
  have h3:p=M:=g8.resolve_left f6;subst h3;obtain⟨O,h4⟩:∃ O,f5=some O:=by
   cases f5 with
   | none=>exact absurd (d8 rfl) f6
   | some x=>exact⟨x,rfl⟩
  subst h4;by_cases f7:f+v<=F
  ·
   have Q:f*p<F*p:=ahO (by omega) c0;obtain⟨J,rfl,t1,t2,t3,t4,t5⟩:=b2 (f*p) (bj _) Q;obtain⟨v0,h5⟩:=eI.1 t1;have l4:f*p+v*p<=F*p:=by rw [<- gh];exact ln _ f7
   have h6:J=⟨J.block,J.off,none⟩:=by
    have e:=vx h5;unfold Addr.add at e;split at e
    ·exact e
    ·rename_i f8;have d0:0<f:=by
      rcases n_ f with h0 | h0
      ·rw [h0] at f8;simp at f8
      ·exact h0
     have h7:0<s.length:=by rw [k1];exact AG d0 c0
     have:=(k3 J rfl 0 s[0] (aI h7)).1;have e0:J.add 0=J:=by simp [Addr.add]
     rw [e0] at this;exact vx this
   generalize l5:J.block=y at *;generalize l6:J.off=B at *;subst h6;have b4:∀ j,j<g.length->(d.cell? ⟨y,B+f*p+j,none⟩).isSome=true/\d.frozen? ⟨y,B+f*p+j,none⟩=false/\¬ G.I ⟨y,B+f*p+j,none⟩:=fun j l=>by
    obtain⟨R,L,q1,q2,q3,_,_⟩:=b2 (f*p+j) (by omega) (by omega);injection L with L;subst L
    rw [cc,<- Ay] at q1 q2 q3;exact⟨q1,q2,q3⟩
   have T:=Bm (P:=P) (ty:=ty) (w:=d) (b:=y) (off:=B) (n:=f) (cap:=F) (m:=v) (c:=cy) (a':=O) (news:=g) b6 hi (by rw [X,d1]) (fun j u l=>(d3 O rfl j u l).1) d2 f7 (by rw [X];exact fun j l=>(b4 j l).1) (by rw [X];exact fun j l=>(b4 j l).2.1);rw [X] at T;have l7:∀ (x:Addr),x=(⟨y,B,none⟩:Addr)->x.block=y:=fun x b8=>by rw [b8]
   obtain⟨f1,f2⟩:=H.fill (b:=y) (o:=B+f*p) (vs:=g) (fun k K=>(b4 k K).1) (fun k K=>(b4 k K).2.2) t4.1 t5 t4.2 (fun r A' a2 b0 Z e4 U e5 R L h8=>hd Q r A' a2 b0 Z e4 U e5 ⟨y,B,none⟩ R rfl L h8.symm);have h9:∀ j u,(s++g)[j]?=some u->(d.setCells y (B+f*p) g).cell? ⟨y,B+j,none⟩=some u/\(G.I ⟨y,B+j,none⟩\/∃ k,k<g.length/\(⟨y,B+j,none⟩:Addr)=⟨y,B+f*p+k,none⟩):=fun j u l=>by
    by_cases i0:j<s.length
    ·rw [eY i0] at l;have b9:=k3 _ rfl j u l;rw [cc] at b9;refine⟨?_,.inl b9.2⟩;rw [(f1.ef _ b9.2).2];exact b9.1
    ·rw [eJ (by omega)] at l;have e6:j-s.length<g.length:=by
      rcases bB (j-s.length) g.length with C | C
      ·exact C
      ·rw [cb C] at l;cases l
     have i1:B+j=B+f*p+(j-s.length):=by omega
     rw [i1];refine⟨?_,.inr ⟨j-s.length,e6,rfl⟩⟩;rw [Ha y g (B+f*p) d (fun k K=>(b4 k K).1) _ e6];rw [aI e6] at l;exact l
   have e7:lq E {G with I:=fun a=>G.I a\/(∃ k,k<g.length/\a=⟨y,B+f*p+k,none⟩)} (d.setCells y (B+f*p) g) (some ⟨y,B,none⟩) (f+v) F p:=fun k K f9=>by
    rw [gh] at K;obtain⟨R,L,q1,q2,q3,q4,q5⟩:=b2 k (by omega) f9;injection L with L;subst L
    rw [cc] at q1 q2 q3;refine⟨_,rfl,?_,?_,?_,q4,q5⟩
    ·rw [cc,tp y g _ d _ (fun _=>.inr (by simp only;omega))];exact q1
    ·rw [cc,Po];exact q2
    ·rw [cc];rintro(V | ⟨j,l,V⟩)
     ·exact q3 V
     ·injection V with _ V _;omega
   obtain⟨S,l2⟩:=f2.na c1 e7 (fun l8=>hd Q);refine⟨_,_,_,T,f1.trans S,l2,?_⟩;have b5:=xT (I:=fun a=>G.I a\/(∃ k,k<g.length/\a=⟨y,B+f*p+k,none⟩)) (w:=d.setCells y (B+f*p) g) (cap:=F) (b:=y) (o:=B) (cs:=s) (ds:=g) k6 d6 k7 d7 (by rw [k1,k5]) (by rw [d1,d5]) h9
    (fun j a0 u l hu=>(k4 j a0 u l hu).mono f1.ef) (fun j a0 u l hu=>(d4 j a0 u l hu).mono f1.ef) (by omega) h1
   rw [<- k5,<- d5] at b5;exact .own (by simp) b5
  ·
   have g0:(f+v)*i.bytes<=140737488355328:=by rw [b7,k5,d5];exact g9
   have T:∃ b1,(Builtin.append_ #[t,t] ty #[.slice A f F,.slice (some O) v cy]).run P d=.ok (.slice (some ⟨d.heap.size,0,none⟩) (f+v) (grownCap d (f+v) b1 e))
     (d.drew.alloc (.cells (s.toArray++g.toArray++Builtin.zeroCells W.cells (grownCap d (f+v) b1 e-(f+v))) e)):=by
    cases A with
    | none =>
     have i2:=k8 rfl;subst i2;have d0:f=0:=by simpa using k5
     subst d0;have i3:s=[]:=hV (by omega);subst i3;have i4:F=0:=by
      rcases n_ F with h0 | h0
      ·exact h0
      ·obtain⟨J,L,_⟩:=b2 0 (by simp) (AG h0 c0);cases L
     subst i4;have:=run_append_nil (P:=P) d t ty e i W b6 hi f0 O v cy g (by rw [X,d1]) (fun j u l=>(d3 O rfl j u l).1) c2 (by omega) (by simp at g0;omega);exact⟨0,by simpa using this⟩
    | some J =>exact⟨F,AH (P:=P) d t ty e i W b6 hi f0 J f F s (by rw [X,k1]) (fun j u l=>(k3 J rfl j u l).1) O v cy g (by rw [X,d1]) (fun j u l=>(d3 O rfl j u l).1) (by omega) (by omega) (AI (by omega) g0)⟩
   obtain⟨b1,T⟩:=T;generalize g1:grownCap d (f+v) b1 e=a1 at T;have i5:f+v<=a1:=by rw [<- g1];exact u_ d (f+v) b1 e
   have i6:a1<=9223372036854775807:=by rw [<- g1];exact u' d (f+v) b1 e (by simp only [maxLen];omega)
   generalize i7:Builtin.zeroCells W.cells (a1-(f+v))=N at T;have i8:N.size=(a1-(f+v))*p:=by rw [<- i7,pA,g7]
   have g3:ct d (d.drew.alloc (.cells (s.toArray++g.toArray++N) e)):=⟨rfl,rfl,rfl,by simp,fun y b7=>by first | exact pz d.drew _ y b7 | exact pz d.drew _ b7⟩;have g4:∀ k,(d.drew.alloc (.cells (s.toArray++g.toArray++N) e)).cell? ⟨d.heap.size,k,none⟩=(s.toArray++g.toArray++N)[k]?:=fun k =>hW (d.drew.alloc (.cells (s.toArray++g.toArray++N) e)) d.heap.size k _ e (0,0) (iK d.drew _)
   have l9:s.length+g.length=(f+v)*p:=by rw [k1,d1,gh]
   have g5:∀ k u,(s++g)[k]?=some u->(d.drew.alloc (.cells (s.toArray++g.toArray++N) e)).cell? ⟨d.heap.size,k,none⟩=some u:=fun k u K=>by
    have Q:k<(s++g).length:=by
     rcases bB k (s++g).length with C | C
     ·exact C
     ·rw [cb C] at K;cases K
    rw [g4,pC (by simpa using Q),<- K];simp
   obtain⟨S,l2⟩:=H.grow g3 (fun z=>G.I z\/(z.block=d.heap.size/\z.spot=none/\z.off<(f+v)*p)) (fun _ h=>.inl h) (fun z e8=>by
     rcases e8 with C | C
     ·exact .inl C
     ·exact .inr (by omega)) (fun z e8=>by
     rcases e8 with C | ⟨g6,i9,m0⟩
     ·rw [g3.cell (H.e_ C)];exact H.cu z C
     ·have j0:z=⟨d.heap.size,z.off,none⟩:=by cases z;simp_all
      have Q:z.off<(s++g).length:=by simp;omega
      rw [j0,g5 z.off _ (aI Q)];rfl)
   have e7:lq E {G with I:=fun z=>G.I z\/(z.block=d.heap.size/\z.spot=none/\z.off<(f+v)*p)} (d.drew.alloc (.cells (s.toArray++g.toArray++N) e)) (some ⟨d.heap.size,0,none⟩) (f+v) a1 p:=fun k K f9=>by
    refine⟨_,rfl,?_,?_,?_,⟨fun j1=>?_,E.hN _ H.size⟩,fun j2 j3=>?_⟩
    ·rw [cc,bC,g4];have m1:(f+v)*p<=a1*p:=ln _ i5;have Q:k<(s.toArray++g.toArray++N).size:=by simp only [sW,mM,i8,Nat.sub_mul];omega
     exact eI.2 ⟨_,bb Q⟩
    ·rw [cc];have e9:=iK d.drew (.cells (s.toArray++g.toArray++N) e);unfold World.frozen?;simp only;rw [show d.heap.size=d.drew.heap.size from rfl,e9];simp
    ·rw [cc];rintro(V | ⟨_,_,V⟩)
     ·have:=H.e_ V;simp at this
     ·simp at V;omega
    ·have g6:=(H.kept _ j1).1;have i9:=H.size;simp only at g6;omega
    ·have:=(H.bJ j2 _ j3).1;simp at this
   obtain⟨r1,r2⟩:=l2.na c1 e7 (fun _ b3 A' a2 b0 Z e4 U e5 J R e1 e2=>by
    injection e1 with e1;subst e1;subst e2
    obtain⟨A2,n2,m2,j4,g2,T2⟩:=H.row b3 e4;have U:G.row b3=some (some R,a2,b0,Z):=U;rw [g2] at U;injection U with U;injection U with x1 x2;injection x2 with x2 x3;injection x3 with x3 x4
    subst x1;subst x2;subst x3;subst x4;obtain⟨m3,e3,q1,_⟩:=T2 (n2*j4) (bj _) e5;injection e3 with e3;subst e3
    obtain⟨v3,j5⟩:=eI.1 q1;have:=d_ d _ j5;rw [block_add] at this;intro e9;simp at e9;omega)
   refine⟨_,_,_,T,S.trans r1,r2,?_⟩;have b5:=xT (I:=fun z=>G.I z\/(z.block=d.heap.size/\z.spot=none/\z.off<(f+v)*p)) (w:=d.drew.alloc (.cells (s.toArray++g.toArray++N) e)) (cap:=a1) (b:=d.heap.size) (o:=0) (cs:=s) (ds:=g) k6 d6 k7 d7 (by rw [k1,k5]) (by rw [d1,d5])
    (fun j u l=>by
     rw [bC];refine⟨g5 j u l,.inr ⟨rfl,rfl,?_⟩⟩;rcases bB j (s++g).length with C | C
     ·simp at C;simp;omega
     ·rw [cb C] at l;cases l)
    (fun j a0 u l hu=>(k4 j a0 u l hu).mono S.ef) (fun j a0 u l hu=>(d4 j a0 u l hu).mono S.ef) (by omega) i6
   rw [<- k5,<- d5] at b5;exact .own (by simp) b5
end
theorem Bn{P:Program}{f:FuncId}(d:m' P f)(a:Array Value)(w:World):(callFunc f a).run P w=.ok (.enter f a) w:=by
 obtain⟨b,g,h,c⟩:=d;have i:b.name ≠ "runtime.NumGoroutine" := by simpa using h
 have j:b.body≠none:=by intro e;rw [e] at c;simp at c
 simp [callFunc,g,i,j]
theorem jM{P:Program}{d:Option Nat}{o:Oper}{a:Act}{w:World}{K:Act->World->Prop}{Q:Exit->Act->World->Prop}{f:Operand}{c:Array Operand}{k:Array TypeId}(j:o.op=.call {callee:=.value f,args:=c,argTypes:=k}){g:FuncId}{x y:Array Value}(l:a.eval f=.func (.func g) x y)(m:m' P g){R:Ending->World->Prop}(p:Calls P g (x.toList++(c.toList.map a.eval++y.toList)).toArray w R)(q:∀ v b,R (.returned v) b->K (a.put o.dst v) b)(r:∀ h b,R (.panicked h) b->Q (.panic h) a b)(s:∀ b,¬ R .outgrown b):o.wpIn (Fr d) 0 P a w K Q:=by
 refine⟨fun f _=>trivial,?_⟩;show o.uponIn (Fr d) 0 P a K Q ((o.semAt d a.eval).run P w);rw [Az d a.eval o (by simp [j])];have t:(execOp a.eval o).run P w=.ok (.enter g (x.toList++(c.toList.map a.eval++y.toList)).toArray) w:=by
  have e:x++Array.map a.eval c++y=(x.toList++(c.toList.map a.eval++y.toList)).toArray:=by apply va;simp
  simp only [execOp,j,resolve,l,Deferred.ofValue,c',dV,dt,invoke];rw [e];exact Bn m _ w
 rw [t];refine⟨fun u=>by simp [Fr,Fence.wide] at u,?_⟩;refine(callsIn_wide (n:=0-1)).2 (p.mono fun e b i=>?_);cases e with
 | returned v=>exact q v b i
 | panicked h=>exact r h b i
 | outgrown=>exact absurd i (s b)
theorem aD.H_{E:Env}{G:Gh}{h:Hp}{w w':World}(H:aD E G h w){n b:Nat}{N:Bool}{V cs':List AV}(t:h n=some (.box N V))(u:G.box n=some b){O arr':Array Value}{X ty':TypeId}(Y:w.heap[b]?=some (.cells O X (0,0)))(D:w'.os=w.os/\w'.tape=w.tape/\w'.output=w.output/\w'.heap.size=w.heap.size)(y:∀ k,k≠b->w'.heap[k]?=w.heap[k]?)(Z:w'.heap[b]?=some (.cells arr' ty' (0,0)))(a0:arr'.size=O.size)(i:cs'.length<=arr'.size/\∀ (k:Nat) (c:AV) (v:Value),cs'[k]?=some c->arr'[k]?=some v->aC G w c v)(h1:∀ c∈cs',c.one=true) :
  aW G w G w'/\aD E G (h.ar [(n,.box N cs')]) w':=by
 obtain⟨x,a1,d6,J,z,e3,e4⟩:=H.box n N V t;have a2:x=b:=by rw [u] at J;injection J with J;exact J.symm
 subst a2;have b0:a1=O:=by rw [Y] at z;injection z with z;injection z with z;exact z.symm
 subst b0;obtain⟨d7,b1,b3,d8⟩:=H.bJ n x u;have b4:=b3 (by rw [t];simp);have K:∀ a:Addr,a.block≠x->w'.cell? a=w.cell? a:=fun a f=>sU (y _ f)
 have b5:∀ a:Addr,a.block≠x->w'.frozen? a=w.frozen? a:=fun a f=>xz (y _ f)
 have P:∀ a,G.I a->a.block≠x:=fun a f e=>b4 a e f
 have F:aW G w G w':=⟨fun a f=>⟨f,K a (P a f)⟩,fun _ _ h=>h,fun _ _ h=>h,fun _ _ _=>rfl⟩;refine⟨F,⟨D.1.trans H.os,D.2.1.trans H.tape,D.2.2.1.trans H.output,by rw [D.2.2.2];exact H.size,fun k L=>?_,fun a f=>?_,H.eo,fun a f=>?_,fun m d=>?_,fun m b6 b7 d=>?_,fun m b b8=>?_,H.vr t (fun q=>by cases q) _,fun r i=>?_,fun r b9 A k Q R A' c0 d0 d1 B C=>?_,fun m s d=>(by
  simp only [Hp.ar] at d;split at d
  ·injection d with d;cases d
  ·rename_i o;obtain⟨p,g,l⟩:=H.obj m s d;exact⟨p,g,(y p (fun e=>o (H.tj (e ▸ g) u d (fun q=>by cases q) t (fun q=>by cases q)))).trans l⟩),fun m es d=>(by
  simp only [Hp.ar] at d;split at d
  ·injection d with d;cases d
  ·rename_i o;obtain⟨p,d2,ck,g,l,I⟩:=H.aA m es d;exact⟨p,d2,ck,g,(y p (fun e=>o (H.tj (e ▸ g) u d (fun q=>by cases q) t (fun q=>by cases q)))).trans l,I.mono F⟩),H.gb.trans F,H.gB⟩⟩
 ·obtain⟨M,S⟩:=H.kept k L;exact⟨M,(y k (fun e=>b1 (e ▸ L))).trans S⟩
 ·obtain⟨M,S⟩:=H.i0 a f;exact⟨M,(K a (P a M)).trans S⟩
 ·rw [K a (P a f)];exact H.cu a f
 ·simp only [Hp.ar] at d;split at d
  ·cases d
  ·exact H.fresh m d
 ·simp only [Hp.ar] at d;split at d
  ·rename_i e;injection d with d;injection d with _ d;subst d;subst e
   exact⟨x,arr',ty',u,Z,⟨i.1,fun k c v L d3=>(i.2 k c v L d3).mono F⟩,h1,by rw [a0];exact e4.2⟩
  ·rename_i o;obtain⟨p,arr',ty',g,l,I,T⟩:=H.box m b6 b7 d;exact⟨p,arr',ty',g,(y p (fun e=>o (H.tj (e ▸ g) u d (fun q=>by cases q) t (fun q=>by cases q)))).trans l,I.mono F,T⟩
 ·obtain⟨g,l,I,T⟩:=H.bJ m b b8;refine⟨by rw [D.2.2.2];exact g,l,fun hd=>I (fun U=>?_),T⟩;by_cases e:m=n
  ·subst e;rw [t] at U;cases U
  ·exact hd (by simp [Hp.ar,e,U])
 ·simp only [Hp.ar] at i;split at i
  ·injection i with i;cases i
  ·obtain⟨A,k,Q,R,g,l⟩:=H.row r i;refine⟨A,k,Q,R,g,fun j d4 d5=>?_⟩;obtain⟨W,e,c1,c2,c3,c4,c5⟩:=l j d4 d5;have o:(W.add j).block≠x:=by rw [block_add];exact fun e=>c5 n (e ▸ u)
   exact⟨W,e,by rw [K _ o];exact c1,by rw [b5 _ o];exact c2,c3,c4,c5⟩
 ·simp only [Hp.ar] at B C;split at B
  ·injection B with B;cases B
  ·split at C
   ·injection C with C;cases C
   ·exact H.eZ r b9 A k Q R A' c0 d0 d1 B C
end

end Go.Proofs.YtloccchppmffpaaGreatDoor.AL
