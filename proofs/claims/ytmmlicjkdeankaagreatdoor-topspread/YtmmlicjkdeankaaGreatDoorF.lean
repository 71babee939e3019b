/- Part of the proof: S210, S211, S212, S213, S214, S608, S609, S607, S1p1, S1p2, S1p3. -/
import Derived.Test.YtmmlicjkdeankaaGreatDoorProg
import Derived.KernelRfl
import Derived.Shelf.Spec.SlicesInsertGrow
import Derived.Shelf.Slices.Delete
import Derived.Shelf.LaySoft
import Derived.Shelf.SlMaps.Clone
import Derived.Shelf.SlIterI.Nil
import Derived.Shelf.SortM.Plain
import Derived.Shelf.SortM.SortNone
import Derived.Ground.GgzProg
import Derived.Ground.SlgmProg
import Derived.Ground.SlmcProg
import Derived.Shelf.SlMaps.Copy
import Derived.Test.YtmmlicjkdeankaaGreatDoorE
set_option linter.unnecessarySimpa false
set_option linter.unusedVariables false
set_option linter.unusedSimpArgs false
namespace Go.Proofs.YtmmlicjkdeankaaGreatDoor
open Go Go.Proofs.YtmmlicjkdeankaaGreatDoor.AL
section
open Go Go.Proofs.YtmmlicjkdeankaaGreatDoor.AL Go.Shelf Go.RowKit Go.Lib
theorem mixed0:Tryz.prog.follows .mixedOrders=true:=by kernel_rfl
theorem uI:Tryz.prog.underlying 3=some (.int .i64):=by kernel_rfl
theorem run_copy'{P:Program}(w:World) (dT sT ty elem:TypeId) (b o dLen dCap:Nat) (a:Addr) (sLen sCap:Nat) (cs:List Value){i:TypeInfo}
  (hu:P.underlying dT=some (.slice elem)) (hi:P.info? elem=some i) (hn:cs.length=Nat.min sLen dLen*i.size)
  (hsrc:∀ j v,cs[j]?=some v->w.cell? (a.add j)=some v) (hc:∀ j,j<cs.length->(w.cell? ⟨b,o+j,none⟩).isSome=true) (hf:∀ j,j<cs.length->w.frozen? ⟨b,o+j,none⟩=false) (h1:∀ v∈cs,v.oneCell'=true) :
  (Builtin.copy_ #[dT,sT] ty #[.slice (some ⟨b,o,none⟩) dLen dCap,.slice (some a) sLen sCap]).run P w=.ok (goInt (Nat.min sLen dLen)) (w.setCells b o cs):=by
 have hl:=run_loadCells_list (P:=P) w a cs hsrc
 have hst:=run_storeCells_cells (P:=P) b o cs 0 w (by simpa using hc) (by simpa using hf) h1
 simp [Builtin.copy_,run_underlying hu,Builtin.lenOf,Builtin.firstCells,sizeOf,typeInfo,hi,<- hn,hl,hst]
theorem isSome_set(b:Nat) (vs:List Value) (o:Nat) (w:World) (h:∀ j,j<vs.length->(w.cell? ⟨b,o+j,none⟩).isSome=true) (k:Nat) (hk:(w.cell? ⟨b,k,none⟩).isSome=true):((w.setCells b o vs).cell? ⟨b,k,none⟩).isSome=true:=isSome_setCells b vs o w h k hk
theorem size_zc(z:Array Value) (n:Nat):(Builtin.zeroCells z n).size=n*z.size:=size_zeroCells z n
theorem set1(b:Nat):∀ (vs:List Value) (o:Nat) (w:World) (arr:Array Value) (ty:TypeId),w.heap[b]?=some (.cells arr ty (0,0))->o+vs.length<=arr.size ->
  ∃ arr':Array Value,(w.setCells b o vs).heap[b]?=some (.cells arr' ty (0,0))∧arr'.size=arr.size∧(∀ k,(k<o∨o+vs.length<=k)->arr'[k]?=arr[k]?)∧(∀ (j:Nat) (u:Value),vs[j]?=some u->arr'[o+j]?=some u) ∧
   ((w.setCells b o vs).os=w.os∧(w.setCells b o vs).tape=w.tape∧(w.setCells b o vs).output=w.output∧(w.setCells b o vs).heap.size=w.heap.size)∧∀ k,k≠b->(w.setCells b o vs).heap[k]?=w.heap[k]?
 | [],o,w,arr,ty,hh,_=>⟨arr,hh,rfl,fun _ _=>rfl,fun j u hj=>by simp at hj,⟨rfl,rfl,rfl,rfl⟩,fun _ _=>rfl⟩
 | v::r,o,w,arr,ty,hh,hl=>by
  simp only [List.length_cons] at hl
  have hnew:(w.setCell ⟨b,o,none⟩ v).heap[b]?=some (.cells (arr.setIfInBounds o v) ty (0,0)):=by
   simp [World.setCell,Array.getElem?_modify,hh]
  obtain⟨arr',h1,h2,h3,h4,⟨h5,h6,h7,h8⟩,h9⟩:=set1 b r (o+1) (w.setCell ⟨b,o,none⟩ v) _ ty hnew (by simp;omega)
  refine⟨arr',by rw [World.setCells];exact h1,by rw [h2];simp,fun k hk=>?_,fun j u hj=>?_,⟨by rw [World.setCells];exact h5,by rw [World.setCells];exact h6,by rw [World.setCells];exact h7,by rw [World.setCells,h8];simp [World.setCell]⟩,fun k hk=>?_⟩
  ·simp only [List.length_cons] at hk
   rw [h3 k (by omega),Array.getElem?_setIfInBounds]
   rw [if_neg (by omega)]
  ·cases j with
   | zero =>
    simp at hj;subst hj
    rw [Nat.add_zero,h3 o (by omega),Array.getElem?_setIfInBounds,if_pos rfl,if_pos (by omega)]
   | succ j =>
    have:=h4 j u (by simpa using hj)
    rw [show o+(j+1)=o+1+j by omega];exact this
  ·rw [World.setCells,h9 k hk]
   simp only [World.setCell,Array.getElem?_modify]
   rw [if_neg (by omega)]
theorem list3{α:Type}(a b c:List α) (j:Nat) (u:α) (h:(a++b++c)[j]?=some u):(j<a.length∧a[j]?=some u)∨(∃ k,j=a.length+k∧b[k]?=some u)∨∃ k,j=a.length+b.length+k∧c[k]?=some u:=by
 by_cases h1:j<a.length
 ·left;refine⟨h1,?_⟩
  rw [List.append_assoc,List.getElem?_append_left h1] at h;exact h
 ·rw [List.append_assoc,List.getElem?_append_right (by omega)] at h
  by_cases h2:j-a.length<b.length
  ·rw [List.getElem?_append_left h2] at h
   exact .inr (.inl ⟨j-a.length,by omega,h⟩)
  ·rw [List.getElem?_append_right (by omega)] at h
   exact .inr (.inr ⟨j-a.length-b.length,by omega,h⟩)
theorem uP_Spot:Tryz.prog.underlying 44=some (.slice 41):=by kernel_rfl
theorem iP_Spot:∃ i0:TypeInfo,Tryz.prog.info? 41=some i0∧i0.size=3∧i0.bytes=32∧∃ zv,i0.zero=some zv∧zv.cells.size=3:=by
 have h:(match Tryz.prog.info? 41 with | some i=>(i.size == 3)&&((i.bytes == 32)&&(match i.zero with | some zv=>zv.cells.size == 3 | none=>false)) | none=>false)=true:=by kernel_rfl
 split at h
 ·rename_i i hi
  simp only [Bool.and_eq_true,beq_iff_eq] at h
  obtain⟨h1,h2,h3⟩:=h
  split at h3
  ·rename_i zv hz
   exact⟨i,hi,h1,h2,zv,hz,by simpa using h3⟩
  ·cases h3
 ·cases h
set_option maxHeartbeats 4000000 in
set_option maxRecDepth 100000 in
theorem clone_nil_Spot(c:Nat) (w:World):Calls Tryz.prog 28 #[.slice none 0 c] w fun e w'=>e=.returned (.slice none 0 0)∧w'=w:=by
 have mixed:=mixed0
 have q22:∀ (w:World) (a:Option Addr) (n c n' c':Nat),(binOp .eql 44 (.slice a n c) (.slice none n' c')).run Tryz.prog w=.ok (.bool a.isNone) w:=fun w a n c n' c'=>Lib.run_eql_slice_nil w _ _ a n c n' c' uP_Spot
 go_enter Tryz.func28,Tryz.ntmps28
 go_wp2
 go_ret
 exact⟨rfl,rfl⟩
set_option maxHeartbeats 4000000 in
set_option maxRecDepth 100000 in
theorem clone_some_Spot(ad:Addr) (n c:Nat) (w w2:World) (v2:Value) (hrun:∀ ty,(Builtin.append_ #[44,44] ty #[.slice (some ⟨w.heap.size,0,none⟩) 0 0,.slice (some ad) n c]).run Tryz.prog (w.alloc (.cells #[] 41))=.ok v2 w2) :
  Calls Tryz.prog 28 #[.slice (some ad) n c] w fun e w'=>e=.returned v2∧w'=w2:=by
 have mixed:=mixed0
 have q22:∀ (w:World) (a:Option Addr) (n c n' c':Nat),(binOp .eql 44 (.slice a n c) (.slice none n' c')).run Tryz.prog w=.ok (.bool a.isNone) w:=fun w a n c n' c'=>Lib.run_eql_slice_nil w _ _ a n c n' c' uP_Spot
 go_enter Tryz.func28,Tryz.ntmps28
 go_wp2_with (at_builtin;refine Lib.wpList_append_run _ rfl _ _ _ _ rfl _ _ rfl rfl _ _ (hrun _) ?_)
 go_ret
 exact⟨rfl,rfl⟩
theorem call68_Spot:Callable Tryz.prog 28:=⟨_,Tryz.func28,by kernel_rfl,by kernel_rfl⟩
theorem clone68_Spot:CloneOk Tryz.prog 28 3 32:=by
 obtain⟨i0,hi0,hz,hby,zv,hz0,hzs⟩:=iP_Spot
 refine⟨call68_Spot,by decide,fun w A n c cs hnc hc hl hA hcs h1 hb=>?_⟩
 cases A with
 | none =>
  have h0:=hA rfl
  subst h0
  exact(clone_nil_Spot c w).mono fun e w' ⟨he,hw⟩=>by subst hw;exact⟨Grow.refl w',.inl ⟨rfl,none,he⟩⟩
 | some ad =>
  have g1:Grow w (w.alloc (.cells #[] 41)):=Grow.alloc w _
  rcases Nat.eq_zero_or_pos n with h0 | h0
  ·subst h0
   have hrun:=fun ty=>run_append_zero (P:=Tryz.prog) (t:=44) (ty:=ty) (w:=w.alloc (.cells #[] 41)) (A:=some ⟨w.heap.size,0,none⟩) (A':=some ad) (n:=0) (cap:=0) (c:=c) uP_Spot hi0 (Nat.le_refl 0)
   exact(clone_some_Spot ad 0 c w _ _ hrun).mono fun e w' ⟨he,hw⟩=>by subst hw;exact⟨g1,.inl ⟨rfl,_,he⟩⟩
  ·have hcell:∀ j u,cs[j]?=some u->(w.alloc (.cells #[] 41)).cell? (ad.add j)=some u:=fun j u hj=>by
    have h:=hcs ad rfl j u hj
    have hlt:=World.block_lt_of_cell? w _ (by rw [h])
    rw [g1.cell hlt];exact h
   have hb':(0+n)*i0.bytes<=140737488355328:=by rw [hby,Nat.zero_add];exact hb
   have hrun:=fun ty=>run_append_grow (P:=Tryz.prog) (w.alloc (.cells #[] 41)) 44 ty 41 i0 zv uP_Spot hi0 hz0 ⟨w.heap.size,0,none⟩ 0 0 [] (by simp) (by simp) ad n c cs (by rw [hl,hz]) hcell (by omega) (by omega) (growslice_fits (by omega) hb')
   refine(clone_some_Spot ad n c w _ _ hrun).mono fun e w' ⟨he,hw⟩=>?_
   generalize hG:grownCap (w.alloc (.cells #[] 41)) (0+n) 0 41=ncap at he hw
   have hge:0+n<=ncap:=by rw [<- hG];exact grownCap_ge _ _ _ _
   have hle:ncap<=9223372036854775807:=by rw [<- hG];exact grownCap_le_maxLen _ _ _ _ (by simp only [maxLen];omega)
   subst hw
   refine⟨⟨rfl,rfl,rfl,by simp;omega,fun b hb=>?_⟩,.inr ⟨h0,(w.alloc (.cells #[] 41)).heap.size,ncap,_,41,by simpa using he,by simp,heap_alloc_new (w.alloc (.cells #[] 41)).drew _,by omega,hle,?_,fun j u hj=>?_⟩⟩
   ·have e1:=g1.block b hb
    rw [<- e1]
    have hlt:b<(w.alloc (.cells #[] 41)).drew.heap.size:=by simp;omega
    first | exact heap_alloc_old (w.alloc (.cells #[] 41)).drew _ b hlt | exact heap_alloc_old (w.alloc (.cells #[] 41)).drew _ hlt
   ·simp only [Array.size_append,List.size_toArray,size_zc,hzs,List.length_nil,hl]
    have:ncap*3=n*3+(ncap-(0+n))*3:=by omega
    omega
   ·have hlt:=(List.getElem?_eq_some_iff.1 hj).1
    rw [Array.getElem?_append_left (by simp;exact hlt)]
    simpa using hj
set_option maxHeartbeats 4000000 in
set_option maxRecDepth 100000 in
theorem ins_end_Spot(n c m vc:Nat) (A B:Option Addr) (w w2:World) (v2:Value) (hm:0<m) (hnc:n<=c)
  (hrun:∀ ty,(Builtin.append_ #[44,44] ty #[.slice A n c,.slice B m vc]).run Tryz.prog w=.ok v2 w2) :
  Calls Tryz.prog 61 #[.slice A n c,.int .i64 n,.slice B m vc] w fun e w'=>e=.returned v2∧w'=w2:=by
 have mixed:=mixed0
 have hz1:¬ ((m:Int)=0):=by omega
 go_enter Tryz.func61,Tryz.ntmps61
 cases A with
 | none =>
  go_wp2_with (at_builtin;refine Lib.wpList_append_run _ rfl _ _ _ _ rfl _ _ rfl rfl _ _ (hrun _) ?_)
  go_ret
  exact⟨rfl,rfl⟩
 | some a =>
  obtain⟨ab,ao,asp⟩:=a
  go_wp2_with (at_builtin;refine Lib.wpList_append_run _ rfl _ _ _ _ rfl _ _ rfl rfl _ _ (hrun _) ?_)
  all_goals (go_ret;exact⟨rfl,rfl⟩)
set_option maxHeartbeats 4000000 in
set_option maxRecDepth 100000 in
theorem ins_shift_Spot(i0:TypeInfo) (hi0:Tryz.prog.info? 41=some i0) (hz:i0.size=3) (b off n c i vb voff m vc:Nat) (cs vs:List Value) (w:World) (hi:i<n) (hm:0<m) (hroom:n+m<=c) (hc63:c<=9223372036854775807) (hvb:vb≠b)
  (hcl:cs.length=n*3) (hvl:vs.length=m*3)
  (hcs:∀ j v,cs[j]?=some v->w.cell? ⟨b,off+j,none⟩=some v) (hsp:∀ j,j<(n+m)*3->(w.cell? ⟨b,off+j,none⟩).isSome=true) (hfz:∀ j,j<(n+m)*3->w.frozen? ⟨b,off+j,none⟩=false)
  (hvs:∀ j v,vs[j]?=some v->w.cell? ⟨vb,voff+j,none⟩=some v) (h1c:∀ v∈cs,v.oneCell'=true) (h1v:∀ v∈vs,v.oneCell'=true)
  (tA tB:TypeId) (kA kB:Nat) (hsa:w.shape? vb=some (tA,kA)) (hsb:w.shape? b=some (tB,kB)) (hkB:kB≠0) (hfa:w.frozen? ⟨vb,voff,none⟩=false) (hfe:w.frozen? ⟨vb,kA,none⟩=false) :
  Calls Tryz.prog 61 #[.slice (some ⟨b,off,none⟩) n c,.int .i64 i,.slice (some ⟨vb,voff,none⟩) m vc] w fun e w' =>
   e=.returned (.slice (some ⟨b,off,none⟩) (n+m) c)∧w'=(w.drew.setCells b (off+(i+m)*3) (cs.drop (i*3))).setCells b (off+i*3) vs:=by
 have mixed:=mixed0
 have hz1:¬ ((m:Int)=0):=by omega
 have hz2:¬ ((i:Int)=(n:Int)):=by omega
 have hov:∀ lb cb,(callFunc 103 #[.slice (some ⟨vb,voff,none⟩) m vc,.slice (some ⟨b,off+(i+m)*3,none⟩) lb cb]).run Tryz.prog w=.ok (.value (.bool false)) w:=fun lb cb=>by
  rw [run_callFunc_extern Tryz.func103 (by kernel_rfl) (by kernel_rfl) (by kernel_rfl) (e:=Extern.SlicesOverlaps.overlaps #[44,44] #[4]) (by kernel_rfl),
   Lib.run_overlaps_apart w 44 4 41 uP_Spot 3 (fun w=>by simp [sizeOf,typeInfo,hi0,hz]) ⟨vb,voff,none⟩ ⟨b,off+(i+m)*3,none⟩ m vc lb cb hvb tA tB kA kB hsa hsb hkB hfa hfe]
  rfl
 have hdl:(cs.drop (i*3)).length=(n-i)*3:=by rw [List.length_drop,hcl,Nat.sub_mul]
 have hmul:(n+m)*3=i*3+(n-i)*3+m*3:=by rw [<- Nat.add_mul,<- Nat.add_mul];congr 1;omega
 have hmul2:(i+m)*3=i*3+m*3:=Nat.add_mul _ _ _
 have hw1:IntKind.i64.wrap ((i:Int)+(m:Int))=(i:Int)+(m:Int):=by rw [IntKind.wrap_i64];omega
 have hb1:(0:Int)<=(i:Int)+(m:Int):=by omega
 have hin:i<=n:=by omega
 have htn:((i:Int)+(m:Int)).toNat=i+m:=by omega
 have hb2:¬ (c=i+m):=by omega
 have hb3:(i:Int)<=(n:Int)+(m:Int):=by omega
 have hb4:¬ (c=i):=by omega
 have hcp1:∀ ty dc sc,(Builtin.copy_ #[44,44] ty #[.slice (some ⟨b,off+(i+m)*3,none⟩) (n+m-(i+m)) dc,.slice (some ⟨b,off+i*3,none⟩) (n+m-i) sc]).run Tryz.prog w.drew=.ok (goInt (Nat.min (n+m-i) (n+m-(i+m)))) (w.drew.setCells b (off+(i+m)*3) (cs.drop (i*3))):=fun ty dc sc =>
  run_copy' w.drew _ _ ty 41 b (off+(i+m)*3) (n+m-(i+m)) dc ⟨b,off+i*3,none⟩ (n+m-i) sc (cs.drop (i*3)) uP_Spot hi0 (by rw [hdl,hz];congr 1;simp only [Nat.min_def];split <;> omega)
   (fun j v hj=>by rw [Addr.add_lit,Nat.add_assoc];exact hcs (i*3+j) v (by rwa [List.getElem?_drop] at hj))
   (fun j hj=>by rw [Nat.add_assoc];exact hsp _ (by rw [hdl] at hj;omega)) (fun j hj=>by rw [Nat.add_assoc];exact hfz _ (by rw [hdl] at hj;omega)) (fun v hv=>h1c v (List.mem_of_mem_drop hv))
 obtain⟨W1,hW1⟩:∃ W1,W1=w.drew.setCells b (off+(i+m)*3) (cs.drop (i*3)):=⟨_,rfl⟩
 have hsp1:∀ k,k<(n+m)*3->(W1.cell? ⟨b,off+k,none⟩).isSome=true:=fun k hk=>by
  rw [hW1]
  exact isSome_set b _ _ _ (fun j hj=>by rw [Nat.add_assoc];exact hsp _ (by rw [hdl] at hj;omega)) _ (hsp k hk)
 have hcp2:∀ (W:World),(∀ x,W.cell? x=W1.cell? x)->(∀ x,W.frozen? x=W1.frozen? x)->∀ ty dc,(Builtin.copy_ #[44,44] ty #[.slice (some ⟨b,off+i*3,none⟩) (n+m-i) dc,.slice (some ⟨vb,voff,none⟩) m vc]).run Tryz.prog W=.ok (goInt (Nat.min m (n+m-i))) (W.setCells b (off+i*3) vs):=fun W hWc hWf ty dc =>
  run_copy' W _ _ ty 41 b (off+i*3) (n+m-i) dc ⟨vb,voff,none⟩ m vc vs uP_Spot hi0 (by rw [hvl,hz];congr 1;simp only [Nat.min_def];split <;> omega)
   (fun j v hj=>by
    rw [Addr.add_lit,hWc,hW1,World.cell?_setCells_out b _ _ _ _ (fun h _=>absurd h hvb)]
    exact hvs j v hj)
   (fun j hj=>by rw [hWc,Nat.add_assoc];exact hsp1 _ (by rw [hvl] at hj;omega)) (fun j hj=>by rw [hWf,hW1,World.frozen?_setCells,Nat.add_assoc];exact hfz _ (by rw [hvl] at hj;omega)) h1v
 rw [<- hW1] at hcp1
 have hsz6:(sizeOf 41).run Tryz.prog w=.ok 3 w:=by simp [sizeOf,typeInfo,hi0,hz]
 clear hmul hmul2 hdl hcl hvl
 go_enter Tryz.func61,Tryz.ntmps61
 go_wp2_with (simp only [hov])
 go_region_law_o (refine step_copy_runI rfl _ _ 44 44 rfl _ _ (by simp [Act.eval,Act.put]) (by simp [Act.eval,Act.put]) (hcp1 _ _ _) ?_)
 go_wp2_with (at_builtin;refine wpList_copy_runI _ rfl _ _ 44 44 rfl _ _ rfl rfl (hcp2 _ (fun _=>rfl) (fun _=>rfl) _ _) ?_)
 go_ret
 first | exact⟨rfl,rfl⟩ | exact⟨rfl,by rw [hW1]⟩
set_option maxHeartbeats 4000000 in
set_option maxRecDepth 100000 in
theorem ins_grow_Spot(i0:TypeInfo) (hi0:Tryz.prog.info? 41=some i0) (hz:i0.size=3) (zv:Value) (hz0:i0.zero=some zv) (hzs:zv.cells.size=3) (b off n c i vb voff m vc:Nat) (cs vs:List Value) (w:World) (hi:i<n) (hm:0<m) (hnc:n<=c) (hroom:c<n+m)
  (hbig:(n+m)*i0.bytes<=140737488355328) (h63:n+m<=9223372036854775807)
  (hcl:cs.length=n*3) (hvl:vs.length=m*3)
  (hcs:∀ j v,cs[j]?=some v->w.cell? ⟨b,off+j,none⟩=some v)
  (hvs:∀ j v,vs[j]?=some v->w.cell? ⟨vb,voff+j,none⟩=some v) (h1c:∀ v∈cs,v.oneCell'=true) (h1v:∀ v∈vs,v.oneCell'=true) :
  Calls Tryz.prog 61 #[.slice (some ⟨b,off,none⟩) n c,.int .i64 i,.slice (some ⟨vb,voff,none⟩) m vc] w fun e w' =>
   ∃ G,n+m<=G∧G<=9223372036854775807∧e=.returned (.slice (some ⟨w.heap.size,0,none⟩) (n+m) G) ∧
   w'=(((w.alloc (.cells ((cs.take (i*3)).toArray++Builtin.zeroCells zv.cells (n+m-i)++Builtin.zeroCells zv.cells (G-(n+m))) 41)).drew.setCells w.heap.size (i*3) vs).drew).setCells w.heap.size ((i+m)*3) (cs.drop (i*3)):=by
 have mixed:=mixed0
 have hz1:¬ ((m:Int)=0):=by omega
 have hz2:¬ ((i:Int)=(n:Int)):=by omega
 have hz3:(c:Int)<(n:Int)+(m:Int):=by omega
 have hbw:b<w.heap.size:=block_lt_of_cell (hcs 0 _ (List.getElem?_eq_getElem (by omega)))
 have hvw:vb<w.heap.size:=block_lt_of_cell (hvs 0 _ (List.getElem?_eq_getElem (by omega)))
 have hkk:(n:Int)+(m:Int)-(i:Int)=((n+m-i:Nat):Int):=by omega
 have hik:i+(n+m-i)=n+m:=by omega
 have hold:(Builtin.firstCells i0.size i (.slice (some ⟨b,off,none⟩) i c)).run Tryz.prog w.drew=.ok (cs.take (i*3)).toArray w.drew:=by
  rw [hz]
  exact run_firstCells_some w.drew 3 i ⟨b,off,none⟩ i c (cs.take (i*3)) (by rw [List.length_take];omega) (fun j v hj=>by
   rw [Addr.add_lit]
   rw [List.getElem?_take] at hj
   split at hj
   ·exact hcs j v hj
   ·cases hj)
 have hb6:(n+m-i)*i0.bytes<=(n+m)*i0.bytes:=Nat.mul_le_mul_right _ (by omega)
 have hrz:∀ ty,(Builtin.append_ #[44,3] ty #[.slice (some ⟨b,off,none⟩) i c,.int .i64 ((n:Int)+(m:Int)-(i:Int))]).run Tryz.prog w =
   .ok (.slice (some ⟨w.heap.size,0,none⟩) (n+m) (grownCap w (n+m) c 41)) (w.drew.alloc (.cells ((cs.take (i*3)).toArray++Builtin.zeroCells zv.cells (n+m-i)++Builtin.zeroCells zv.cells (grownCap w (n+m) c 41-(n+m))) 41)):=fun ty=>by
  have h:=Lib.run_append_grow_zeros w 44 3 ty 41 i0 _ .i64 .i64 uP_Spot uI hi0 hz0 (some ⟨b,off,none⟩) i c (cs.take (i*3)) hold (n+m-i) (by omega) (by omega) (by omega) (by omega) (by omega) (by rw [hik];exact growslice_fits hroom hbig)
  rw [hik] at h
  rw [hkk]
  exact h
 obtain⟨G,hG⟩:∃ G,G=grownCap w (n+m) c 41:=⟨_,rfl⟩
 obtain⟨ROW,hROW⟩:∃ ROW:Array Value,ROW=(cs.take (i*3)).toArray++Builtin.zeroCells zv.cells (n+m-i)++Builtin.zeroCells zv.cells (G-(n+m)):=⟨_,rfl⟩
 rw [<- hG] at hrz
 rw [<- hROW] at hrz
 have hRl:(n+m)*3<=ROW.size:=by
  rw [hROW]
  simp only [Array.size_append,List.size_toArray,List.length_take,size_zc,hzs]
  omega
 obtain⟨W1,hW1⟩:∃ W1,W1=w.drew.alloc (.cells ROW 41):=⟨_,rfl⟩
 rw [<- hW1] at hrz
 have hN:∀ j,j<(n+m)*3->(W1.cell? ⟨w.heap.size,j,none⟩).isSome=true:=fun j hj=>by
  rw [hW1,World.cell?_alloc_at (w:=w.drew) ROW _ w.heap.size j rfl,Array.getElem?_eq_getElem (by omega)];rfl
 have hNf:∀ j,W1.frozen? ⟨w.heap.size,j,none⟩=false:=fun j=>by rw [hW1];exact World.frozen?_alloc_at (w:=w.drew) ROW _ w.heap.size j rfl
 have hOb:∀ j v,w.cell? ⟨b,j,none⟩=some v->W1.cell? ⟨b,j,none⟩=some v:=fun j v h=>by rw [hW1,World.cell?_alloc_past (w:=w.drew) _ b j hbw];exact h
 have hOv:∀ j v,w.cell? ⟨vb,j,none⟩=some v->W1.cell? ⟨vb,j,none⟩=some v:=fun j v h=>by rw [hW1,World.cell?_alloc_past (w:=w.drew) _ vb j hvw];exact h
 have hcpA:∀ (W:World),(∀ x,W.cell? x=W1.cell? x)->(∀ x,W.frozen? x=W1.frozen? x)->∀ ty dc,(Builtin.copy_ #[44,44] ty #[.slice (some ⟨w.heap.size,i*3,none⟩) (n+m-i) dc,.slice (some ⟨vb,voff,none⟩) m vc]).run Tryz.prog W=.ok (goInt (Nat.min m (n+m-i))) (W.setCells w.heap.size (i*3) vs):=fun W hWc hWf ty dc =>
  run_copy' W _ _ ty 41 w.heap.size (i*3) (n+m-i) dc ⟨vb,voff,none⟩ m vc vs uP_Spot hi0 (by rw [hvl,hz];congr 1;simp only [Nat.min_def];split <;> omega)
   (fun j v hj=>by rw [Addr.add_lit,hWc];exact hOv _ v (hvs j v hj))
   (fun j hj=>by rw [hWc];exact hN _ (by omega)) (fun j hj=>by rw [hWf];exact hNf _) h1v
 have hGn:n+m<=G:=by rw [hG];exact grownCap_ge w _ _ _
 have hG63:G<=9223372036854775807:=by
  have:=grownCap_le_maxLen w (n+m) c 41 (by unfold maxLen;omega)
  rw [<- hG] at this
  unfold maxLen at this
  omega
 have hGi:¬ (G=i):=by omega
 have hGim:¬ (G=i+m):=by omega
 have hci:¬ (c=i):=by omega
 have hbN:b≠w.heap.size:=by omega
 have hdl:(cs.drop (i*3)).length=(n-i)*3:=by rw [List.length_drop];omega
 have hcpB:∀ (W:World),(∀ x,W.cell? x=(W1.setCells w.heap.size (i*3) vs).cell? x)->(∀ x,W.frozen? x=(W1.setCells w.heap.size (i*3) vs).frozen? x)->∀ ty dc sc,(Builtin.copy_ #[44,44] ty #[.slice (some ⟨w.heap.size,(i+m)*3,none⟩) (n+m-(i+m)) dc,.slice (some ⟨b,off+i*3,none⟩) (n-i) sc]).run Tryz.prog W=.ok (goInt (Nat.min (n-i) (n+m-(i+m)))) (W.setCells w.heap.size ((i+m)*3) (cs.drop (i*3))):=fun W hWc hWf ty dc sc =>
  run_copy' W _ _ ty 41 w.heap.size ((i+m)*3) (n+m-(i+m)) dc ⟨b,off+i*3,none⟩ (n-i) sc (cs.drop (i*3)) uP_Spot hi0 (by rw [hdl,hz];congr 1;simp only [Nat.min_def];split <;> omega)
   (fun j v hj=>by
    rw [Addr.add_lit,hWc,World.cell?_setCells_out _ _ _ _ _ (fun h _=>absurd h hbN),Nat.add_assoc]
    exact hOb _ v (hcs (i*3+j) v (by rwa [List.getElem?_drop] at hj)))
   (fun j hj=>by rw [hWc];exact isSome_set _ _ _ _ (fun t ht=>hN _ (by omega)) _ (hN _ (by rw [hdl] at hj;omega)))
   (fun j hj=>by rw [hWf,World.frozen?_setCells];exact hNf _) (fun v hv=>h1c v (List.mem_of_mem_drop hv))
 subst hW1
 have hE1:∀ x,((w.alloc (.cells ROW 41)).drew).cell? x=(w.drew.alloc (.cells ROW 41)).cell? x:=fun x=>rfl
 have hE2:∀ x,((w.alloc (.cells ROW 41)).drew).frozen? x=(w.drew.alloc (.cells ROW 41)).frozen? x:=fun x=>rfl
 have hF1:∀ x,(((w.alloc (.cells ROW 41)).drew.setCells w.heap.size (i*3) vs).drew).cell? x=((w.drew.alloc (.cells ROW 41)).setCells w.heap.size (i*3) vs).cell? x:=fun x=>rfl
 have hF2:∀ x,(((w.alloc (.cells ROW 41)).drew.setCells w.heap.size (i*3) vs).drew).frozen? x=((w.drew.alloc (.cells ROW 41)).setCells w.heap.size (i*3) vs).frozen? x:=fun x=>rfl
 have hw1:IntKind.i64.wrap ((i:Int)+(m:Int))=(i:Int)+(m:Int):=by rw [IntKind.wrap_i64];omega
 have hb1:(0:Int)<=(i:Int)+(m:Int):=by omega
 have hin:i<=n:=by omega
 have htn:((i:Int)+(m:Int)).toNat=i+m:=by omega
 have hb3:(i:Int)<=(n:Int):=by omega
 suffices hmain:Calls Tryz.prog 61 #[.slice (some ⟨b,off,none⟩) n c,.int .i64 i,.slice (some ⟨vb,voff,none⟩) m vc] w fun e w' =>
   e=.returned (.slice (some ⟨w.heap.size,0,none⟩) (n+m) G)∧w'=(((w.alloc (.cells ROW 41)).drew.setCells w.heap.size (i*3) vs).drew).setCells w.heap.size ((i+m)*3) (cs.drop (i*3)) by
  refine hmain.mono fun e w' ⟨h1,h2⟩=>⟨G,hGn,hG63,h1,by rw [h2,hROW]⟩
 clear hkk hik hold hROW hG hRl hcl hvl hdl hb6 hbig hzs hz
 go_enter Tryz.func61,Tryz.ntmps61
 go_wp2_with (first
  | (at_builtin;refine Lib.wpList_append_run _ rfl _ _ _ _ rfl _ _ rfl rfl _ _ (hrz _) ?_)
  | (at_builtin;refine wpList_copy_runI _ rfl _ _ 44 44 rfl _ _ rfl rfl (hcpA _ hE1 hE2 _ _) ?_)
  | (at_builtin;refine wpList_copy_runI _ rfl _ _ 44 44 rfl _ _ rfl rfl (hcpB _ (fun _=>rfl) (fun _=>rfl) _ _ _) ?_))
 go_region_law_o (refine step_copy_runI rfl _ _ 44 44 rfl (.slice (some ⟨w.heap.size,(i+m)*3,none⟩) (n+m-(i+m)) (G-(i+m))) (.slice (some ⟨b,off+i*3,none⟩) (n-i) (c-i)) (by simp [Act.eval,Act.put]) (by simp [Act.eval,Act.put]) (hcpB _ hF1 hF2 3 (G-(i+m)) (c-i)) ?_)
 go_wp2
 go_ret
 exact⟨rfl,rfl⟩
theorem call67_Spot:Callable Tryz.prog 61:=⟨_,Tryz.func61,by kernel_rfl,by kernel_rfl⟩
set_option maxRecDepth 100000 in
theorem ins67_Spot:InsOk Tryz.prog 61 3 32:=by
 obtain⟨i0,hi0,hz,hby,zv,hz0,hzs⟩:=iP_Spot
 refine⟨call67_Spot,by decide,fun w A n c i vb m vc cs vs hin hnc hroom hm hcl hvl hn0 hA hvs h1c h1v hb h63=>?_,fun w b n c i vb m vc cs vs arr ty arrv tyv hin hroom hc63 hm hne hh hcap hhv hcl hvl hca hva h1c h1v=>?_⟩
 ·have hb':(n+m)*i0.bytes<=140737488355328:=by rw [hby];exact hb
  have hvs':∀ j u,vs[j]?=some u->w.cell? ((⟨vb,0,none⟩:Addr).add j)=some u:=fun j u hj=>by rw [Addr.add_lit,Nat.zero_add];exact hvs j u hj
  by_cases hie:i=n
  ·
   subst hie
   have hrun:∃ oldc,∀ ty,(Builtin.append_ #[44,44] ty #[.slice A i c,.slice (some ⟨vb,0,none⟩) m vc]).run Tryz.prog w=.ok (.slice (some ⟨w.heap.size,0,none⟩) (i+m) (grownCap w (i+m) oldc 41))
     (w.drew.alloc (.cells (cs.toArray++vs.toArray++Builtin.zeroCells zv.cells (grownCap w (i+m) oldc 41-(i+m))) 41)):=by
    cases A with
    | none =>
     have hi0':i=0:=by
      rcases Nat.eq_zero_or_pos i with h | h
      ·exact h
      ·obtain⟨b,hb,_⟩:=hA h;cases hb
     subst hi0'
     have hc0:=(hn0 rfl).2
     subst hc0
     have hcs0:cs=[]:=List.eq_nil_of_length_eq_zero (by omega)
     subst hcs0
     refine⟨0,fun ty=>?_⟩
     have:=run_append_nil (P:=Tryz.prog) w 44 ty 41 i0 zv uP_Spot hi0 hz0 ⟨vb,0,none⟩ m vc vs (by rw [hvl,hz]) hvs' hm (by omega) (by rw [Nat.zero_add] at hb';omega)
     simpa using this
    | some ad =>
     refine⟨c,fun ty=>?_⟩
     have hcs':∀ j u,cs[j]?=some u->w.cell? (ad.add j)=some u:=fun j u hj=>by
      have hlt:=(List.getElem?_eq_some_iff.1 hj).1
      obtain⟨b,hb,hcell⟩:=hA (by omega)
      injection hb with hb;subst hb
      rw [Addr.add_lit,Nat.zero_add];exact hcell j u hj
     exact run_append_grow (P:=Tryz.prog) w 44 ty 41 i0 zv uP_Spot hi0 hz0 ad i c cs (by rw [hcl,hz]) hcs' ⟨vb,0,none⟩ m vc vs (by rw [hvl,hz]) hvs' hroom (by omega) (growslice_fits hroom hb')
   obtain⟨oldc,hrun⟩:=hrun
   refine(ins_end_Spot i c m vc A (some ⟨vb,0,none⟩) w _ _ hm hnc hrun).mono fun e w' ⟨he,hw⟩=>?_
   generalize hG:grownCap w (i+m) oldc 41=ncap at he hw
   have hge:i+m<=ncap:=by rw [<- hG];exact grownCap_ge _ _ _ _
   have hle:ncap<=9223372036854775807:=by rw [<- hG];exact grownCap_le_maxLen _ _ _ _ (by simp only [maxLen];omega)
   subst hw
   refine⟨⟨rfl,rfl,rfl,by simp,fun b hb=>by first | exact heap_alloc_old w.drew _ b hb | exact heap_alloc_old w.drew _ hb⟩,w.heap.size,ncap,_,41,he,Nat.le_refl _,heap_alloc_new w.drew _,hge,hle,by simp [size_zc,hzs,hcl,hvl];omega,fun j u hj=>?_⟩
   have e1:cs.take (i*3)=cs:=List.take_of_length_le (by omega)
   have e2:cs.drop (i*3)=[]:=List.drop_eq_nil_of_le (by omega)
   rw [e1,e2,List.append_nil] at hj
   have hlt:=(List.getElem?_eq_some_iff.1 hj).1
   rw [Array.getElem?_append_left (by simpa using hlt),<- hj]
   simp
  ·have hlt:i<n:=by omega
   obtain⟨b,hAb,hcell⟩:=hA (by omega)
   subst hAb
   refine(ins_grow_Spot i0 hi0 hz zv hz0 hzs b 0 n c i vb 0 m vc cs vs w hlt hm hnc hroom hb' h63 hcl hvl (fun j v hj=>by rw [Nat.zero_add];exact hcell j v hj) (fun j v hj=>by rw [Nat.zero_add];exact hvs j v hj) h1c h1v).mono fun e w' ⟨G,hG1,hG2,he,hw⟩=>?_
   generalize hR:(cs.take (i*3)).toArray++Builtin.zeroCells zv.cells (n+m-i)++Builtin.zeroCells zv.cells (G-(n+m))=ROW at hw
   have hRs:ROW.size=G*3-0:=by
    rw [<- hR]
    simp only [Array.size_append,List.size_toArray,List.length_take,size_zc,hzs]
    omega
   have hdl:(cs.drop (i*3)).length=(n-i)*3:=by rw [List.length_drop];omega
   have g1:Grow w (w.alloc (.cells ROW 41)).drew:=⟨rfl,rfl,rfl,by simp,fun b hb=>by first | exact heap_alloc_old w _ b hb | exact heap_alloc_old w _ hb⟩
   have hh0:(w.alloc (.cells ROW 41)).drew.heap[w.heap.size]?=some (.cells ROW 41 (0,0)):=heap_alloc_new w _
   obtain⟨a1,p1,p2,p3,p4,⟨p5,p6,p7,p8⟩,p9⟩:=set1 w.heap.size vs (i*3) _ ROW 41 hh0 (by rw [hvl];omega)
   obtain⟨a2,s1,s2,s3,s4,⟨s5,s6,s7,s8⟩,s9⟩:=set1 w.heap.size (cs.drop (i*3)) ((i+m)*3) ((w.alloc (.cells ROW 41)).drew.setCells w.heap.size (i*3) vs).drew a1 41 p1 (by rw [hdl,p2];omega)
   rw [<- hw] at s1 s5 s6 s7 s8 s9
   refine⟨⟨by rw [s5];exact p5.trans g1.os,by rw [s6];exact p6.trans g1.tape,by rw [s7];exact p7.trans g1.output,by rw [s8];show w.heap.size<=((w.alloc (.cells ROW 41)).drew.setCells w.heap.size (i*3) vs).heap.size;rw [p8];exact g1.size,fun b hb=>?_⟩,w.heap.size,G,a2,41,he,Nat.le_refl _,s1,hG1,hG2,by rw [s2,p2,hRs];omega,fun j u hj=>?_⟩
   ·rw [s9 b (by omega)]
    show ((w.alloc (.cells ROW 41)).drew.setCells w.heap.size (i*3) vs).heap[b]?=_
    rw [p9 b (by omega)]
    exact g1.block b hb
   ·have htl:(cs.take (i*3)).length=i*3:=by rw [List.length_take];omega
    rcases list3 _ _ _ j u hj with ⟨q1,q2⟩ | ⟨k,rfl,q2⟩ | ⟨k,rfl,q2⟩
    ·rw [htl] at q1
     rw [s3 j (by omega),p3 j (by omega),<- hR,Array.append_assoc,Array.getElem?_append_left (by simp only [List.size_toArray,htl];exact q1)]
     simpa using q2
    ·have hk:=(List.getElem?_eq_some_iff.1 q2).1
     rw [htl,s3 _ (by omega)]
     exact p4 k u q2
    ·rw [htl,hvl,show i*3+m*3+k=(i+m)*3+k by omega]
     exact s4 k u q2
 ·have hvs':∀ j u,vs[j]?=some u->w.cell? ⟨vb,0+j,none⟩=some u:=fun j u hj=>by
   rw [Nat.zero_add,cell_of_row w vb j arrv tyv (0,0) hhv];exact hva j u hj
  have hcs':∀ j u,cs[j]?=some u->w.cell? ⟨b,0+j,none⟩=some u:=fun j u hj=>by
   rw [Nat.zero_add,cell_of_row w b j arr ty (0,0) hh];exact hca j u hj
  have hfr:∀ k,w.frozen? ⟨b,k,none⟩=false:=fun k=>by simp [World.frozen?,hh]
  have hfrv:∀ k,w.frozen? ⟨vb,k,none⟩=false:=fun k=>by simp [World.frozen?,hhv]
  have hsome:∀ k,k<arr.size->(w.cell? ⟨b,k,none⟩).isSome=true:=fun k hk=>by
   rw [cell_of_row w b k arr ty (0,0) hh,Array.getElem?_eq_getElem hk];rfl
  by_cases hie:i=n
  ·subst hie
   have hrun:=fun ty'=>run_append_fit (P:=Tryz.prog) (ty:=ty') (w:=w) (b:=b) (off:=0) (n:=i) (cap:=c) (m:=m) (c:=vc) (a':=⟨vb,0,none⟩) (news:=vs) uP_Spot hi0 (by rw [hvl,hz]) (fun j u hj=>by rw [Addr.add_lit];exact hvs' j u hj) h1v hroom
    (fun j hj=>by rw [hz];exact hsome _ (by rw [hvl] at hj;omega)) (fun j hj=>hfr _)
   refine(ins_end_Spot i c m vc (some ⟨b,0,none⟩) (some ⟨vb,0,none⟩) w _ _ hm (by omega) hrun).mono fun e w' ⟨he,hw⟩=>?_
   rw [hz,Nat.zero_add] at hw
   obtain⟨a1,p1,p2,p3,p4,p5,p9⟩:=set1 b vs (i*3) w arr ty hh (by rw [hvl];omega)
   subst hw
   refine⟨he,p5,p9,a1,p1,p2,fun j u hj=>?_⟩
   have e1:cs.take (i*3)=cs:=List.take_of_length_le (by omega)
   have e2:cs.drop (i*3)=[]:=List.drop_eq_nil_of_le (by omega)
   rw [e1,e2] at hj
   rcases list3 _ _ _ j u hj with ⟨q1,q2⟩ | ⟨k,rfl,q2⟩ | ⟨k,rfl,q2⟩
   ·rw [p3 j (by omega)];exact hca j u q2
   ·rw [hcl];exact p4 k u q2
   ·simp at q2
  ·have hlt:i<n:=by omega
   have hdl:(cs.drop (i*3)).length=(n-i)*3:=by rw [List.length_drop];omega
   refine(ins_shift_Spot i0 hi0 hz b 0 n c i vb 0 m vc cs vs w hlt hm hroom hc63 hne hcl hvl hcs' (fun j hj=>by rw [Nat.zero_add];exact hsome _ (by omega)) (fun j hj=>hfr _) hvs' h1c h1v tyv ty arrv.size arr.size (by simp [World.shape?,hhv]) (by simp [World.shape?,hh]) (by omega) (hfrv _) (hfrv _)).mono fun e w' ⟨he,hw⟩=>?_
   rw [Nat.zero_add,Nat.zero_add] at hw
   obtain⟨a1,p1,p2,p3,p4,⟨p5,p6,p7,p8⟩,p9⟩:=set1 b (cs.drop (i*3)) ((i+m)*3) w.drew arr ty hh (by rw [hdl];omega)
   obtain⟨a2,s1,s2,s3,s4,⟨s5,s6,s7,s8⟩,s9⟩:=set1 b vs (i*3) _ a1 ty p1 (by rw [hvl,p2];omega)
   subst hw
   refine⟨he,⟨s5.trans p5,s6.trans p6,s7.trans p7,s8.trans p8⟩,fun k hk=>(s9 k hk).trans (p9 k hk),a2,s1,s2.trans p2,fun j u hj=>?_⟩
   have htl:(cs.take (i*3)).length=i*3:=by rw [List.length_take];omega
   rcases list3 _ _ _ j u hj with ⟨q1,q2⟩ | ⟨k,rfl,q2⟩ | ⟨k,rfl,q2⟩
   ·rw [htl] at q1
    rw [List.getElem?_take,if_pos q1] at q2
    rw [s3 j (by omega),p3 j (by omega)];exact hca j u q2
   ·have hk:=(List.getElem?_eq_some_iff.1 q2).1
    rw [htl]
    exact s4 k u q2
   ·have hk:=(List.getElem?_eq_some_iff.1 q2).1
    rw [htl,hvl,s3 _ (by rw [hvl];omega),show i*3+m*3+k=(i+m)*3+k by omega]
    exact p4 k u q2
theorem uP_Note:Tryz.prog.underlying 54=some (.slice 49):=by kernel_rfl
theorem iP_Note:∃ i0:TypeInfo,Tryz.prog.info? 49=some i0∧i0.size=7∧i0.bytes=64∧∃ zv,i0.zero=some zv∧zv.cells.size=7:=by
 have h:(match Tryz.prog.info? 49 with | some i=>(i.size == 7)&&((i.bytes == 64)&&(match i.zero with | some zv=>zv.cells.size == 7 | none=>false)) | none=>false)=true:=by kernel_rfl
 split at h
 ·rename_i i hi
  simp only [Bool.and_eq_true,beq_iff_eq] at h
  obtain⟨h1,h2,h3⟩:=h
  split at h3
  ·rename_i zv hz
   exact⟨i,hi,h1,h2,zv,hz,by simpa using h3⟩
  ·cases h3
 ·cases h
set_option maxHeartbeats 4000000 in
set_option maxRecDepth 100000 in
theorem clone_nil_Note(c:Nat) (w:World):Calls Tryz.prog 107 #[.slice none 0 c] w fun e w'=>e=.returned (.slice none 0 0)∧w'=w:=by
 have mixed:=mixed0
 have q22:∀ (w:World) (a:Option Addr) (n c n' c':Nat),(binOp .eql 54 (.slice a n c) (.slice none n' c')).run Tryz.prog w=.ok (.bool a.isNone) w:=fun w a n c n' c'=>Lib.run_eql_slice_nil w _ _ a n c n' c' uP_Note
 go_enter Tryz.func107,Tryz.ntmps107
 go_wp2
 go_ret
 exact⟨rfl,rfl⟩
set_option maxHeartbeats 4000000 in
set_option maxRecDepth 100000 in
theorem clone_some_Note(ad:Addr) (n c:Nat) (w w2:World) (v2:Value) (hrun:∀ ty,(Builtin.append_ #[54,54] ty #[.slice (some ⟨w.heap.size,0,none⟩) 0 0,.slice (some ad) n c]).run Tryz.prog (w.alloc (.cells #[] 49))=.ok v2 w2) :
  Calls Tryz.prog 107 #[.slice (some ad) n c] w fun e w'=>e=.returned v2∧w'=w2:=by
 have mixed:=mixed0
 have q22:∀ (w:World) (a:Option Addr) (n c n' c':Nat),(binOp .eql 54 (.slice a n c) (.slice none n' c')).run Tryz.prog w=.ok (.bool a.isNone) w:=fun w a n c n' c'=>Lib.run_eql_slice_nil w _ _ a n c n' c' uP_Note
 go_enter Tryz.func107,Tryz.ntmps107
 go_wp2_with (at_builtin;refine Lib.wpList_append_run _ rfl _ _ _ _ rfl _ _ rfl rfl _ _ (hrun _) ?_)
 go_ret
 exact⟨rfl,rfl⟩
theorem call68_Note:Callable Tryz.prog 107:=⟨_,Tryz.func107,by kernel_rfl,by kernel_rfl⟩
theorem clone68_Note:CloneOk Tryz.prog 107 7 64:=by
 obtain⟨i0,hi0,hz,hby,zv,hz0,hzs⟩:=iP_Note
 refine⟨call68_Note,by decide,fun w A n c cs hnc hc hl hA hcs h1 hb=>?_⟩
 cases A with
 | none =>
  have h0:=hA rfl
  subst h0
  exact(clone_nil_Note c w).mono fun e w' ⟨he,hw⟩=>by subst hw;exact⟨Grow.refl w',.inl ⟨rfl,none,he⟩⟩
 | some ad =>
  have g1:Grow w (w.alloc (.cells #[] 49)):=Grow.alloc w _
  rcases Nat.eq_zero_or_pos n with h0 | h0
  ·subst h0
   have hrun:=fun ty=>run_append_zero (P:=Tryz.prog) (t:=54) (ty:=ty) (w:=w.alloc (.cells #[] 49)) (A:=some ⟨w.heap.size,0,none⟩) (A':=some ad) (n:=0) (cap:=0) (c:=c) uP_Note hi0 (Nat.le_refl 0)
   exact(clone_some_Note ad 0 c w _ _ hrun).mono fun e w' ⟨he,hw⟩=>by subst hw;exact⟨g1,.inl ⟨rfl,_,he⟩⟩
  ·have hcell:∀ j u,cs[j]?=some u->(w.alloc (.cells #[] 49)).cell? (ad.add j)=some u:=fun j u hj=>by
    have h:=hcs ad rfl j u hj
    have hlt:=World.block_lt_of_cell? w _ (by rw [h])
    rw [g1.cell hlt];exact h
   have hb':(0+n)*i0.bytes<=140737488355328:=by rw [hby,Nat.zero_add];exact hb
   have hrun:=fun ty=>run_append_grow (P:=Tryz.prog) (w.alloc (.cells #[] 49)) 54 ty 49 i0 zv uP_Note hi0 hz0 ⟨w.heap.size,0,none⟩ 0 0 [] (by simp) (by simp) ad n c cs (by rw [hl,hz]) hcell (by omega) (by omega) (growslice_fits (by omega) hb')
   refine(clone_some_Note ad n c w _ _ hrun).mono fun e w' ⟨he,hw⟩=>?_
   generalize hG:grownCap (w.alloc (.cells #[] 49)) (0+n) 0 49=ncap at he hw
   have hge:0+n<=ncap:=by rw [<- hG];exact grownCap_ge _ _ _ _
   have hle:ncap<=9223372036854775807:=by rw [<- hG];exact grownCap_le_maxLen _ _ _ _ (by simp only [maxLen];omega)
   subst hw
   refine⟨⟨rfl,rfl,rfl,by simp;omega,fun b hb=>?_⟩,.inr ⟨h0,(w.alloc (.cells #[] 49)).heap.size,ncap,_,49,by simpa using he,by simp,heap_alloc_new (w.alloc (.cells #[] 49)).drew _,by omega,hle,?_,fun j u hj=>?_⟩⟩
   ·have e1:=g1.block b hb
    rw [<- e1]
    have hlt:b<(w.alloc (.cells #[] 49)).drew.heap.size:=by simp;omega
    first | exact heap_alloc_old (w.alloc (.cells #[] 49)).drew _ b hlt | exact heap_alloc_old (w.alloc (.cells #[] 49)).drew _ hlt
   ·simp only [Array.size_append,List.size_toArray,size_zc,hzs,List.length_nil,hl]
    have:ncap*7=n*7+(ncap-(0+n))*7:=by omega
    omega
   ·have hlt:=(List.getElem?_eq_some_iff.1 hj).1
    rw [Array.getElem?_append_left (by simp;exact hlt)]
    simpa using hj
set_option maxHeartbeats 4000000 in
set_option maxRecDepth 100000 in
theorem ins_end_Note(n c m vc:Nat) (A B:Option Addr) (w w2:World) (v2:Value) (hm:0<m) (hnc:n<=c)
  (hrun:∀ ty,(Builtin.append_ #[54,54] ty #[.slice A n c,.slice B m vc]).run Tryz.prog w=.ok v2 w2) :
  Calls Tryz.prog 106 #[.slice A n c,.int .i64 n,.slice B m vc] w fun e w'=>e=.returned v2∧w'=w2:=by
 have mixed:=mixed0
 have hz1:¬ ((m:Int)=0):=by omega
 go_enter Tryz.func106,Tryz.ntmps106
 cases A with
 | none =>
  go_wp2_with (at_builtin;refine Lib.wpList_append_run _ rfl _ _ _ _ rfl _ _ rfl rfl _ _ (hrun _) ?_)
  go_ret
  exact⟨rfl,rfl⟩
 | some a =>
  obtain⟨ab,ao,asp⟩:=a
  go_wp2_with (at_builtin;refine Lib.wpList_append_run _ rfl _ _ _ _ rfl _ _ rfl rfl _ _ (hrun _) ?_)
  all_goals (go_ret;exact⟨rfl,rfl⟩)
set_option maxHeartbeats 4000000 in
set_option maxRecDepth 100000 in
theorem ins_shift_Note(i0:TypeInfo) (hi0:Tryz.prog.info? 49=some i0) (hz:i0.size=7) (b off n c i vb voff m vc:Nat) (cs vs:List Value) (w:World) (hi:i<n) (hm:0<m) (hroom:n+m<=c) (hc63:c<=9223372036854775807) (hvb:vb≠b)
  (hcl:cs.length=n*7) (hvl:vs.length=m*7)
  (hcs:∀ j v,cs[j]?=some v->w.cell? ⟨b,off+j,none⟩=some v) (hsp:∀ j,j<(n+m)*7->(w.cell? ⟨b,off+j,none⟩).isSome=true) (hfz:∀ j,j<(n+m)*7->w.frozen? ⟨b,off+j,none⟩=false)
  (hvs:∀ j v,vs[j]?=some v->w.cell? ⟨vb,voff+j,none⟩=some v) (h1c:∀ v∈cs,v.oneCell'=true) (h1v:∀ v∈vs,v.oneCell'=true)
  (tA tB:TypeId) (kA kB:Nat) (hsa:w.shape? vb=some (tA,kA)) (hsb:w.shape? b=some (tB,kB)) (hkB:kB≠0) (hfa:w.frozen? ⟨vb,voff,none⟩=false) (hfe:w.frozen? ⟨vb,kA,none⟩=false) :
  Calls Tryz.prog 106 #[.slice (some ⟨b,off,none⟩) n c,.int .i64 i,.slice (some ⟨vb,voff,none⟩) m vc] w fun e w' =>
   e=.returned (.slice (some ⟨b,off,none⟩) (n+m) c)∧w'=(w.drew.setCells b (off+(i+m)*7) (cs.drop (i*7))).setCells b (off+i*7) vs:=by
 have mixed:=mixed0
 have hz1:¬ ((m:Int)=0):=by omega
 have hz2:¬ ((i:Int)=(n:Int)):=by omega
 have hov:∀ lb cb,(callFunc 131 #[.slice (some ⟨vb,voff,none⟩) m vc,.slice (some ⟨b,off+(i+m)*7,none⟩) lb cb]).run Tryz.prog w=.ok (.value (.bool false)) w:=fun lb cb=>by
  rw [run_callFunc_extern Tryz.func131 (by kernel_rfl) (by kernel_rfl) (by kernel_rfl) (e:=Extern.SlicesOverlaps.overlaps #[54,54] #[4]) (by kernel_rfl),
   Lib.run_overlaps_apart w 54 4 49 uP_Note 7 (fun w=>by simp [sizeOf,typeInfo,hi0,hz]) ⟨vb,voff,none⟩ ⟨b,off+(i+m)*7,none⟩ m vc lb cb hvb tA tB kA kB hsa hsb hkB hfa hfe]
  rfl
 have hdl:(cs.drop (i*7)).length=(n-i)*7:=by rw [List.length_drop,hcl,Nat.sub_mul]
 have hmul:(n+m)*7=i*7+(n-i)*7+m*7:=by rw [<- Nat.add_mul,<- Nat.add_mul];congr 1;omega
 have hmul2:(i+m)*7=i*7+m*7:=Nat.add_mul _ _ _
 have hw1:IntKind.i64.wrap ((i:Int)+(m:Int))=(i:Int)+(m:Int):=by rw [IntKind.wrap_i64];omega
 have hb1:(0:Int)<=(i:Int)+(m:Int):=by omega
 have hin:i<=n:=by omega
 have htn:((i:Int)+(m:Int)).toNat=i+m:=by omega
 have hb2:¬ (c=i+m):=by omega
 have hb3:(i:Int)<=(n:Int)+(m:Int):=by omega
 have hb4:¬ (c=i):=by omega
 have hcp1:∀ ty dc sc,(Builtin.copy_ #[54,54] ty #[.slice (some ⟨b,off+(i+m)*7,none⟩) (n+m-(i+m)) dc,.slice (some ⟨b,off+i*7,none⟩) (n+m-i) sc]).run Tryz.prog w.drew=.ok (goInt (Nat.min (n+m-i) (n+m-(i+m)))) (w.drew.setCells b (off+(i+m)*7) (cs.drop (i*7))):=fun ty dc sc =>
  run_copy' w.drew _ _ ty 49 b (off+(i+m)*7) (n+m-(i+m)) dc ⟨b,off+i*7,none⟩ (n+m-i) sc (cs.drop (i*7)) uP_Note hi0 (by rw [hdl,hz];congr 1;simp only [Nat.min_def];split <;> omega)
   (fun j v hj=>by rw [Addr.add_lit,Nat.add_assoc];exact hcs (i*7+j) v (by rwa [List.getElem?_drop] at hj))
   (fun j hj=>by rw [Nat.add_assoc];exact hsp _ (by rw [hdl] at hj;omega)) (fun j hj=>by rw [Nat.add_assoc];exact hfz _ (by rw [hdl] at hj;omega)) (fun v hv=>h1c v (List.mem_of_mem_drop hv))
 obtain⟨W1,hW1⟩:∃ W1,W1=w.drew.setCells b (off+(i+m)*7) (cs.drop (i*7)):=⟨_,rfl⟩
 have hsp1:∀ k,k<(n+m)*7->(W1.cell? ⟨b,off+k,none⟩).isSome=true:=fun k hk=>by
  rw [hW1]
  exact isSome_set b _ _ _ (fun j hj=>by rw [Nat.add_assoc];exact hsp _ (by rw [hdl] at hj;omega)) _ (hsp k hk)
 have hcp2:∀ (W:World),(∀ x,W.cell? x=W1.cell? x)->(∀ x,W.frozen? x=W1.frozen? x)->∀ ty dc,(Builtin.copy_ #[54,54] ty #[.slice (some ⟨b,off+i*7,none⟩) (n+m-i) dc,.slice (some ⟨vb,voff,none⟩) m vc]).run Tryz.prog W=.ok (goInt (Nat.min m (n+m-i))) (W.setCells b (off+i*7) vs):=fun W hWc hWf ty dc =>
  run_copy' W _ _ ty 49 b (off+i*7) (n+m-i) dc ⟨vb,voff,none⟩ m vc vs uP_Note hi0 (by rw [hvl,hz];congr 1;simp only [Nat.min_def];split <;> omega)
   (fun j v hj=>by
    rw [Addr.add_lit,hWc,hW1,World.cell?_setCells_out b _ _ _ _ (fun h _=>absurd h hvb)]
    exact hvs j v hj)
   (fun j hj=>by rw [hWc,Nat.add_assoc];exact hsp1 _ (by rw [hvl] at hj;omega)) (fun j hj=>by rw [hWf,hW1,World.frozen?_setCells,Nat.add_assoc];exact hfz _ (by rw [hvl] at hj;omega)) h1v
 rw [<- hW1] at hcp1
 have hsz6:(sizeOf 49).run Tryz.prog w=.ok 7 w:=by simp [sizeOf,typeInfo,hi0,hz]
 clear hmul hmul2 hdl hcl hvl
 go_enter Tryz.func106,Tryz.ntmps106
 go_wp2_with (simp only [hov])
 go_region_law_o (refine step_copy_runI rfl _ _ 54 54 rfl _ _ (by simp [Act.eval,Act.put]) (by simp [Act.eval,Act.put]) (hcp1 _ _ _) ?_)
 go_wp2_with (at_builtin;refine wpList_copy_runI _ rfl _ _ 54 54 rfl _ _ rfl rfl (hcp2 _ (fun _=>rfl) (fun _=>rfl) _ _) ?_)
 go_ret
 first | exact⟨rfl,rfl⟩ | exact⟨rfl,by rw [hW1]⟩
set_option maxHeartbeats 4000000 in
set_option maxRecDepth 100000 in
theorem ins_grow_Note(i0:TypeInfo) (hi0:Tryz.prog.info? 49=some i0) (hz:i0.size=7) (zv:Value) (hz0:i0.zero=some zv) (hzs:zv.cells.size=7) (b off n c i vb voff m vc:Nat) (cs vs:List Value) (w:World) (hi:i<n) (hm:0<m) (hnc:n<=c) (hroom:c<n+m)
  (hbig:(n+m)*i0.bytes<=140737488355328) (h63:n+m<=9223372036854775807)
  (hcl:cs.length=n*7) (hvl:vs.length=m*7)
  (hcs:∀ j v,cs[j]?=some v->w.cell? ⟨b,off+j,none⟩=some v)
  (hvs:∀ j v,vs[j]?=some v->w.cell? ⟨vb,voff+j,none⟩=some v) (h1c:∀ v∈cs,v.oneCell'=true) (h1v:∀ v∈vs,v.oneCell'=true) :
  Calls Tryz.prog 106 #[.slice (some ⟨b,off,none⟩) n c,.int .i64 i,.slice (some ⟨vb,voff,none⟩) m vc] w fun e w' =>
   ∃ G,n+m<=G∧G<=9223372036854775807∧e=.returned (.slice (some ⟨w.heap.size,0,none⟩) (n+m) G) ∧
   w'=(((w.alloc (.cells ((cs.take (i*7)).toArray++Builtin.zeroCells zv.cells (n+m-i)++Builtin.zeroCells zv.cells (G-(n+m))) 49)).drew.setCells w.heap.size (i*7) vs).drew).setCells w.heap.size ((i+m)*7) (cs.drop (i*7)):=by
 have mixed:=mixed0
 have hz1:¬ ((m:Int)=0):=by omega
 have hz2:¬ ((i:Int)=(n:Int)):=by omega
 have hz3:(c:Int)<(n:Int)+(m:Int):=by omega
 have hbw:b<w.heap.size:=block_lt_of_cell (hcs 0 _ (List.getElem?_eq_getElem (by omega)))
 have hvw:vb<w.heap.size:=block_lt_of_cell (hvs 0 _ (List.getElem?_eq_getElem (by omega)))
 have hkk:(n:Int)+(m:Int)-(i:Int)=((n+m-i:Nat):Int):=by omega
 have hik:i+(n+m-i)=n+m:=by omega
 have hold:(Builtin.firstCells i0.size i (.slice (some ⟨b,off,none⟩) i c)).run Tryz.prog w.drew=.ok (cs.take (i*7)).toArray w.drew:=by
  rw [hz]
  exact run_firstCells_some w.drew 7 i ⟨b,off,none⟩ i c (cs.take (i*7)) (by rw [List.length_take];omega) (fun j v hj=>by
   rw [Addr.add_lit]
   rw [List.getElem?_take] at hj
   split at hj
   ·exact hcs j v hj
   ·cases hj)
 have hb6:(n+m-i)*i0.bytes<=(n+m)*i0.bytes:=Nat.mul_le_mul_right _ (by omega)
 have hrz:∀ ty,(Builtin.append_ #[54,3] ty #[.slice (some ⟨b,off,none⟩) i c,.int .i64 ((n:Int)+(m:Int)-(i:Int))]).run Tryz.prog w =
   .ok (.slice (some ⟨w.heap.size,0,none⟩) (n+m) (grownCap w (n+m) c 49)) (w.drew.alloc (.cells ((cs.take (i*7)).toArray++Builtin.zeroCells zv.cells (n+m-i)++Builtin.zeroCells zv.cells (grownCap w (n+m) c 49-(n+m))) 49)):=fun ty=>by
  have h:=Lib.run_append_grow_zeros w 54 3 ty 49 i0 _ .i64 .i64 uP_Note uI hi0 hz0 (some ⟨b,off,none⟩) i c (cs.take (i*7)) hold (n+m-i) (by omega) (by omega) (by omega) (by omega) (by omega) (by rw [hik];exact growslice_fits hroom hbig)
  rw [hik] at h
  rw [hkk]
  exact h
 obtain⟨G,hG⟩:∃ G,G=grownCap w (n+m) c 49:=⟨_,rfl⟩
 obtain⟨ROW,hROW⟩:∃ ROW:Array Value,ROW=(cs.take (i*7)).toArray++Builtin.zeroCells zv.cells (n+m-i)++Builtin.zeroCells zv.cells (G-(n+m)):=⟨_,rfl⟩
 rw [<- hG] at hrz
 rw [<- hROW] at hrz
 have hRl:(n+m)*7<=ROW.size:=by
  rw [hROW]
  simp only [Array.size_append,List.size_toArray,List.length_take,size_zc,hzs]
  omega
 obtain⟨W1,hW1⟩:∃ W1,W1=w.drew.alloc (.cells ROW 49):=⟨_,rfl⟩
 rw [<- hW1] at hrz
 have hN:∀ j,j<(n+m)*7->(W1.cell? ⟨w.heap.size,j,none⟩).isSome=true:=fun j hj=>by
  rw [hW1,World.cell?_alloc_at (w:=w.drew) ROW _ w.heap.size j rfl,Array.getElem?_eq_getElem (by omega)];rfl
 have hNf:∀ j,W1.frozen? ⟨w.heap.size,j,none⟩=false:=fun j=>by rw [hW1];exact World.frozen?_alloc_at (w:=w.drew) ROW _ w.heap.size j rfl
 have hOb:∀ j v,w.cell? ⟨b,j,none⟩=some v->W1.cell? ⟨b,j,none⟩=some v:=fun j v h=>by rw [hW1,World.cell?_alloc_past (w:=w.drew) _ b j hbw];exact h
 have hOv:∀ j v,w.cell? ⟨vb,j,none⟩=some v->W1.cell? ⟨vb,j,none⟩=some v:=fun j v h=>by rw [hW1,World.cell?_alloc_past (w:=w.drew) _ vb j hvw];exact h
 have hcpA:∀ (W:World),(∀ x,W.cell? x=W1.cell? x)->(∀ x,W.frozen? x=W1.frozen? x)->∀ ty dc,(Builtin.copy_ #[54,54] ty #[.slice (some ⟨w.heap.size,i*7,none⟩) (n+m-i) dc,.slice (some ⟨vb,voff,none⟩) m vc]).run Tryz.prog W=.ok (goInt (Nat.min m (n+m-i))) (W.setCells w.heap.size (i*7) vs):=fun W hWc hWf ty dc =>
  run_copy' W _ _ ty 49 w.heap.size (i*7) (n+m-i) dc ⟨vb,voff,none⟩ m vc vs uP_Note hi0 (by rw [hvl,hz];congr 1;simp only [Nat.min_def];split <;> omega)
   (fun j v hj=>by rw [Addr.add_lit,hWc];exact hOv _ v (hvs j v hj))
   (fun j hj=>by rw [hWc];exact hN _ (by omega)) (fun j hj=>by rw [hWf];exact hNf _) h1v
 have hGn:n+m<=G:=by rw [hG];exact grownCap_ge w _ _ _
 have hG63:G<=9223372036854775807:=by
  have:=grownCap_le_maxLen w (n+m) c 49 (by unfold maxLen;omega)
  rw [<- hG] at this
  unfold maxLen at this
  omega
 have hGi:¬ (G=i):=by omega
 have hGim:¬ (G=i+m):=by omega
 have hci:¬ (c=i):=by omega
 have hbN:b≠w.heap.size:=by omega
 have hdl:(cs.drop (i*7)).length=(n-i)*7:=by rw [List.length_drop];omega
 have hcpB:∀ (W:World),(∀ x,W.cell? x=(W1.setCells w.heap.size (i*7) vs).cell? x)->(∀ x,W.frozen? x=(W1.setCells w.heap.size (i*7) vs).frozen? x)->∀ ty dc sc,(Builtin.copy_ #[54,54] ty #[.slice (some ⟨w.heap.size,(i+m)*7,none⟩) (n+m-(i+m)) dc,.slice (some ⟨b,off+i*7,none⟩) (n-i) sc]).run Tryz.prog W=.ok (goInt (Nat.min (n-i) (n+m-(i+m)))) (W.setCells w.heap.size ((i+m)*7) (cs.drop (i*7))):=fun W hWc hWf ty dc sc =>
  run_copy' W _ _ ty 49 w.heap.size ((i+m)*7) (n+m-(i+m)) dc ⟨b,off+i*7,none⟩ (n-i) sc (cs.drop (i*7)) uP_Note hi0 (by rw [hdl,hz];congr 1;simp only [Nat.min_def];split <;> omega)
   (fun j v hj=>by
    rw [Addr.add_lit,hWc,World.cell?_setCells_out _ _ _ _ _ (fun h _=>absurd h hbN),Nat.add_assoc]
    exact hOb _ v (hcs (i*7+j) v (by rwa [List.getElem?_drop] at hj)))
   (fun j hj=>by rw [hWc];exact isSome_set _ _ _ _ (fun t ht=>hN _ (by omega)) _ (hN _ (by rw [hdl] at hj;omega)))
   (fun j hj=>by rw [hWf,World.frozen?_setCells];exact hNf _) (fun v hv=>h1c v (List.mem_of_mem_drop hv))
 subst hW1
 have hE1:∀ x,((w.alloc (.cells ROW 49)).drew).cell? x=(w.drew.alloc (.cells ROW 49)).cell? x:=fun x=>rfl
 have hE2:∀ x,((w.alloc (.cells ROW 49)).drew).frozen? x=(w.drew.alloc (.cells ROW 49)).frozen? x:=fun x=>rfl
 have hF1:∀ x,(((w.alloc (.cells ROW 49)).drew.setCells w.heap.size (i*7) vs).drew).cell? x=((w.drew.alloc (.cells ROW 49)).setCells w.heap.size (i*7) vs).cell? x:=fun x=>rfl
 have hF2:∀ x,(((w.alloc (.cells ROW 49)).drew.setCells w.heap.size (i*7) vs).drew).frozen? x=((w.drew.alloc (.cells ROW 49)).setCells w.heap.size (i*7) vs).frozen? x:=fun x=>rfl
 have hw1:IntKind.i64.wrap ((i:Int)+(m:Int))=(i:Int)+(m:Int):=by rw [IntKind.wrap_i64];omega
 have hb1:(0:Int)<=(i:Int)+(m:Int):=by omega
 have hin:i<=n:=by omega
 have htn:((i:Int)+(m:Int)).toNat=i+m:=by omega
 have hb3:(i:Int)<=(n:Int):=by omega
 suffices hmain:Calls Tryz.prog 106 #[.slice (some ⟨b,off,none⟩) n c,.int .i64 i,.slice (some ⟨vb,voff,none⟩) m vc] w fun e w' =>
   e=.returned (.slice (some ⟨w.heap.size,0,none⟩) (n+m) G)∧w'=(((w.alloc (.cells ROW 49)).drew.setCells w.heap.size (i*7) vs).drew).setCells w.heap.size ((i+m)*7) (cs.drop (i*7)) by
  refine hmain.mono fun e w' ⟨h1,h2⟩=>⟨G,hGn,hG63,h1,by rw [h2,hROW]⟩
 clear hkk hik hold hROW hG hRl hcl hvl hdl hb6 hbig hzs hz
 go_enter Tryz.func106,Tryz.ntmps106
 go_wp2_with (first
  | (at_builtin;refine Lib.wpList_append_run _ rfl _ _ _ _ rfl _ _ rfl rfl _ _ (hrz _) ?_)
  | (at_builtin;refine wpList_copy_runI _ rfl _ _ 54 54 rfl _ _ rfl rfl (hcpA _ hE1 hE2 _ _) ?_)
  | (at_builtin;refine wpList_copy_runI _ rfl _ _ 54 54 rfl _ _ rfl rfl (hcpB _ (fun _=>rfl) (fun _=>rfl) _ _ _) ?_))
 go_region_law_o (refine step_copy_runI rfl _ _ 54 54 rfl (.slice (some ⟨w.heap.size,(i+m)*7,none⟩) (n+m-(i+m)) (G-(i+m))) (.slice (some ⟨b,off+i*7,none⟩) (n-i) (c-i)) (by simp [Act.eval,Act.put]) (by simp [Act.eval,Act.put]) (hcpB _ hF1 hF2 3 (G-(i+m)) (c-i)) ?_)
 go_wp2
 go_ret
 exact⟨rfl,rfl⟩
theorem call67_Note:Callable Tryz.prog 106:=⟨_,Tryz.func106,by kernel_rfl,by kernel_rfl⟩
set_option maxRecDepth 100000 in
theorem ins67_Note:InsOk Tryz.prog 106 7 64:=by
 obtain⟨i0,hi0,hz,hby,zv,hz0,hzs⟩:=iP_Note
 refine⟨call67_Note,by decide,fun w A n c i vb m vc cs vs hin hnc hroom hm hcl hvl hn0 hA hvs h1c h1v hb h63=>?_,fun w b n c i vb m vc cs vs arr ty arrv tyv hin hroom hc63 hm hne hh hcap hhv hcl hvl hca hva h1c h1v=>?_⟩
 ·have hb':(n+m)*i0.bytes<=140737488355328:=by rw [hby];exact hb
  have hvs':∀ j u,vs[j]?=some u->w.cell? ((⟨vb,0,none⟩:Addr).add j)=some u:=fun j u hj=>by rw [Addr.add_lit,Nat.zero_add];exact hvs j u hj
  by_cases hie:i=n
  ·
   subst hie
   have hrun:∃ oldc,∀ ty,(Builtin.append_ #[54,54] ty #[.slice A i c,.slice (some ⟨vb,0,none⟩) m vc]).run Tryz.prog w=.ok (.slice (some ⟨w.heap.size,0,none⟩) (i+m) (grownCap w (i+m) oldc 49))
     (w.drew.alloc (.cells (cs.toArray++vs.toArray++Builtin.zeroCells zv.cells (grownCap w (i+m) oldc 49-(i+m))) 49)):=by
    cases A with
    | none =>
     have hi0':i=0:=by
      rcases Nat.eq_zero_or_pos i with h | h
      ·exact h
      ·obtain⟨b,hb,_⟩:=hA h;cases hb
     subst hi0'
     have hc0:=(hn0 rfl).2
     subst hc0
     have hcs0:cs=[]:=List.eq_nil_of_length_eq_zero (by omega)
     subst hcs0
     refine⟨0,fun ty=>?_⟩
     have:=run_append_nil (P:=Tryz.prog) w 54 ty 49 i0 zv uP_Note hi0 hz0 ⟨vb,0,none⟩ m vc vs (by rw [hvl,hz]) hvs' hm (by omega) (by rw [Nat.zero_add] at hb';omega)
     simpa using this
    | some ad =>
     refine⟨c,fun ty=>?_⟩
     have hcs':∀ j u,cs[j]?=some u->w.cell? (ad.add j)=some u:=fun j u hj=>by
      have hlt:=(List.getElem?_eq_some_iff.1 hj).1
      obtain⟨b,hb,hcell⟩:=hA (by omega)
      injection hb with hb;subst hb
      rw [Addr.add_lit,Nat.zero_add];exact hcell j u hj
     exact run_append_grow (P:=Tryz.prog) w 54 ty 49 i0 zv uP_Note hi0 hz0 ad i c cs (by rw [hcl,hz]) hcs' ⟨vb,0,none⟩ m vc vs (by rw [hvl,hz]) hvs' hroom (by omega) (growslice_fits hroom hb')
   obtain⟨oldc,hrun⟩:=hrun
   refine(ins_end_Note i c m vc A (some ⟨vb,0,none⟩) w _ _ hm hnc hrun).mono fun e w' ⟨he,hw⟩=>?_
   generalize hG:grownCap w (i+m) oldc 49=ncap at he hw
   have hge:i+m<=ncap:=by rw [<- hG];exact grownCap_ge _ _ _ _
   have hle:ncap<=9223372036854775807:=by rw [<- hG];exact grownCap_le_maxLen _ _ _ _ (by simp only [maxLen];omega)
   subst hw
   refine⟨⟨rfl,rfl,rfl,by simp,fun b hb=>by first | exact heap_alloc_old w.drew _ b hb | exact heap_alloc_old w.drew _ hb⟩,w.heap.size,ncap,_,49,he,Nat.le_refl _,heap_alloc_new w.drew _,hge,hle,by simp [size_zc,hzs,hcl,hvl];omega,fun j u hj=>?_⟩
   have e1:cs.take (i*7)=cs:=List.take_of_length_le (by omega)
   have e2:cs.drop (i*7)=[]:=List.drop_eq_nil_of_le (by omega)
   rw [e1,e2,List.append_nil] at hj
   have hlt:=(List.getElem?_eq_some_iff.1 hj).1
   rw [Array.getElem?_append_left (by simpa using hlt),<- hj]
   simp
  ·have hlt:i<n:=by omega
   obtain⟨b,hAb,hcell⟩:=hA (by omega)
   subst hAb
   refine(ins_grow_Note i0 hi0 hz zv hz0 hzs b 0 n c i vb 0 m vc cs vs w hlt hm hnc hroom hb' h63 hcl hvl (fun j v hj=>by rw [Nat.zero_add];exact hcell j v hj) (fun j v hj=>by rw [Nat.zero_add];exact hvs j v hj) h1c h1v).mono fun e w' ⟨G,hG1,hG2,he,hw⟩=>?_
   generalize hR:(cs.take (i*7)).toArray++Builtin.zeroCells zv.cells (n+m-i)++Builtin.zeroCells zv.cells (G-(n+m))=ROW at hw
   have hRs:ROW.size=G*7-0:=by
    rw [<- hR]
    simp only [Array.size_append,List.size_toArray,List.length_take,size_zc,hzs]
    omega
   have hdl:(cs.drop (i*7)).length=(n-i)*7:=by rw [List.length_drop];omega
   have g1:Grow w (w.alloc (.cells ROW 49)).drew:=⟨rfl,rfl,rfl,by simp,fun b hb=>by first | exact heap_alloc_old w _ b hb | exact heap_alloc_old w _ hb⟩
   have hh0:(w.alloc (.cells ROW 49)).drew.heap[w.heap.size]?=some (.cells ROW 49 (0,0)):=heap_alloc_new w _
   obtain⟨a1,p1,p2,p3,p4,⟨p5,p6,p7,p8⟩,p9⟩:=set1 w.heap.size vs (i*7) _ ROW 49 hh0 (by rw [hvl];omega)
   obtain⟨a2,s1,s2,s3,s4,⟨s5,s6,s7,s8⟩,s9⟩:=set1 w.heap.size (cs.drop (i*7)) ((i+m)*7) ((w.alloc (.cells ROW 49)).drew.setCells w.heap.size (i*7) vs).drew a1 49 p1 (by rw [hdl,p2];omega)
   rw [<- hw] at s1 s5 s6 s7 s8 s9
   refine⟨⟨by rw [s5];exact p5.trans g1.os,by rw [s6];exact p6.trans g1.tape,by rw [s7];exact p7.trans g1.output,by rw [s8];show w.heap.size<=((w.alloc (.cells ROW 49)).drew.setCells w.heap.size (i*7) vs).heap.size;rw [p8];exact g1.size,fun b hb=>?_⟩,w.heap.size,G,a2,49,he,Nat.le_refl _,s1,hG1,hG2,by rw [s2,p2,hRs];omega,fun j u hj=>?_⟩
   ·rw [s9 b (by omega)]
    show ((w.alloc (.cells ROW 49)).drew.setCells w.heap.size (i*7) vs).heap[b]?=_
    rw [p9 b (by omega)]
    exact g1.block b hb
   ·have htl:(cs.take (i*7)).length=i*7:=by rw [List.length_take];omega
    rcases list3 _ _ _ j u hj with ⟨q1,q2⟩ | ⟨k,rfl,q2⟩ | ⟨k,rfl,q2⟩
    ·rw [htl] at q1
     rw [s3 j (by omega),p3 j (by omega),<- hR,Array.append_assoc,Array.getElem?_append_left (by simp only [List.size_toArray,htl];exact q1)]
     simpa using q2
    ·have hk:=(List.getElem?_eq_some_iff.1 q2).1
     rw [htl,s3 _ (by omega)]
     exact p4 k u q2
    ·rw [htl,hvl,show i*7+m*7+k=(i+m)*7+k by omega]
     exact s4 k u q2
 ·have hvs':∀ j u,vs[j]?=some u->w.cell? ⟨vb,0+j,none⟩=some u:=fun j u hj=>by
   rw [Nat.zero_add,cell_of_row w vb j arrv tyv (0,0) hhv];exact hva j u hj
  have hcs':∀ j u,cs[j]?=some u->w.cell? ⟨b,0+j,none⟩=some u:=fun j u hj=>by
   rw [Nat.zero_add,cell_of_row w b j arr ty (0,0) hh];exact hca j u hj
  have hfr:∀ k,w.frozen? ⟨b,k,none⟩=false:=fun k=>by simp [World.frozen?,hh]
  have hfrv:∀ k,w.frozen? ⟨vb,k,none⟩=false:=fun k=>by simp [World.frozen?,hhv]
  have hsome:∀ k,k<arr.size->(w.cell? ⟨b,k,none⟩).isSome=true:=fun k hk=>by
   rw [cell_of_row w b k arr ty (0,0) hh,Array.getElem?_eq_getElem hk];rfl
  by_cases hie:i=n
  ·subst hie
   have hrun:=fun ty'=>run_append_fit (P:=Tryz.prog) (ty:=ty') (w:=w) (b:=b) (off:=0) (n:=i) (cap:=c) (m:=m) (c:=vc) (a':=⟨vb,0,none⟩) (news:=vs) uP_Note hi0 (by rw [hvl,hz]) (fun j u hj=>by rw [Addr.add_lit];exact hvs' j u hj) h1v hroom
    (fun j hj=>by rw [hz];exact hsome _ (by rw [hvl] at hj;omega)) (fun j hj=>hfr _)
   refine(ins_end_Note i c m vc (some ⟨b,0,none⟩) (some ⟨vb,0,none⟩) w _ _ hm (by omega) hrun).mono fun e w' ⟨he,hw⟩=>?_
   rw [hz,Nat.zero_add] at hw
   obtain⟨a1,p1,p2,p3,p4,p5,p9⟩:=set1 b vs (i*7) w arr ty hh (by rw [hvl];omega)
   subst hw
   refine⟨he,p5,p9,a1,p1,p2,fun j u hj=>?_⟩
   have e1:cs.take (i*7)=cs:=List.take_of_length_le (by omega)
   have e2:cs.drop (i*7)=[]:=List.drop_eq_nil_of_le (by omega)
   rw [e1,e2] at hj
   rcases list3 _ _ _ j u hj with ⟨q1,q2⟩ | ⟨k,rfl,q2⟩ | ⟨k,rfl,q2⟩
   ·rw [p3 j (by omega)];exact hca j u q2
   ·rw [hcl];exact p4 k u q2
   ·simp at q2
  ·have hlt:i<n:=by omega
   have hdl:(cs.drop (i*7)).length=(n-i)*7:=by rw [List.length_drop];omega
   refine(ins_shift_Note i0 hi0 hz b 0 n c i vb 0 m vc cs vs w hlt hm hroom hc63 hne hcl hvl hcs' (fun j hj=>by rw [Nat.zero_add];exact hsome _ (by omega)) (fun j hj=>hfr _) hvs' h1c h1v tyv ty arrv.size arr.size (by simp [World.shape?,hhv]) (by simp [World.shape?,hh]) (by omega) (hfrv _) (hfrv _)).mono fun e w' ⟨he,hw⟩=>?_
   rw [Nat.zero_add,Nat.zero_add] at hw
   obtain⟨a1,p1,p2,p3,p4,⟨p5,p6,p7,p8⟩,p9⟩:=set1 b (cs.drop (i*7)) ((i+m)*7) w.drew arr ty hh (by rw [hdl];omega)
   obtain⟨a2,s1,s2,s3,s4,⟨s5,s6,s7,s8⟩,s9⟩:=set1 b vs (i*7) _ a1 ty p1 (by rw [hvl,p2];omega)
   subst hw
   refine⟨he,⟨s5.trans p5,s6.trans p6,s7.trans p7,s8.trans p8⟩,fun k hk=>(s9 k hk).trans (p9 k hk),a2,s1,s2.trans p2,fun j u hj=>?_⟩
   have htl:(cs.take (i*7)).length=i*7:=by rw [List.length_take];omega
   rcases list3 _ _ _ j u hj with ⟨q1,q2⟩ | ⟨k,rfl,q2⟩ | ⟨k,rfl,q2⟩
   ·rw [htl] at q1
    rw [List.getElem?_take,if_pos q1] at q2
    rw [s3 j (by omega),p3 j (by omega)];exact hca j u q2
   ·have hk:=(List.getElem?_eq_some_iff.1 q2).1
    rw [htl]
    exact s4 k u q2
   ·have hk:=(List.getElem?_eq_some_iff.1 q2).1
    rw [htl,hvl,s3 _ (by rw [hvl];omega),show i*7+m*7+k=(i+m)*7+k by omega]
    exact p4 k u q2
theorem uP_Peer:Tryz.prog.underlying 27=some (.slice 56):=by kernel_rfl
theorem iP_Peer:∃ i0:TypeInfo,Tryz.prog.info? 56=some i0∧i0.size=1∧i0.bytes=24∧∃ zv,i0.zero=some zv∧zv.cells.size=1:=by
 have h:(match Tryz.prog.info? 56 with | some i=>(i.size == 1)&&((i.bytes == 24)&&(match i.zero with | some zv=>zv.cells.size == 1 | none=>false)) | none=>false)=true:=by kernel_rfl
 split at h
 ·rename_i i hi
  simp only [Bool.and_eq_true,beq_iff_eq] at h
  obtain⟨h1,h2,h3⟩:=h
  split at h3
  ·rename_i zv hz
   exact⟨i,hi,h1,h2,zv,hz,by simpa using h3⟩
  ·cases h3
 ·cases h
set_option maxHeartbeats 4000000 in
set_option maxRecDepth 100000 in
theorem clone_nil_Peer(c:Nat) (w:World):Calls Tryz.prog 35 #[.slice none 0 c] w fun e w'=>e=.returned (.slice none 0 0)∧w'=w:=by
 have mixed:=mixed0
 have q22:∀ (w:World) (a:Option Addr) (n c n' c':Nat),(binOp .eql 27 (.slice a n c) (.slice none n' c')).run Tryz.prog w=.ok (.bool a.isNone) w:=fun w a n c n' c'=>Lib.run_eql_slice_nil w _ _ a n c n' c' uP_Peer
 go_enter Tryz.func35,Tryz.ntmps35
 go_wp2
 go_ret
 exact⟨rfl,rfl⟩
set_option maxHeartbeats 4000000 in
set_option maxRecDepth 100000 in
theorem clone_some_Peer(ad:Addr) (n c:Nat) (w w2:World) (v2:Value) (hrun:∀ ty,(Builtin.append_ #[27,27] ty #[.slice (some ⟨w.heap.size,0,none⟩) 0 0,.slice (some ad) n c]).run Tryz.prog (w.alloc (.cells #[] 56))=.ok v2 w2) :
  Calls Tryz.prog 35 #[.slice (some ad) n c] w fun e w'=>e=.returned v2∧w'=w2:=by
 have mixed:=mixed0
 have q22:∀ (w:World) (a:Option Addr) (n c n' c':Nat),(binOp .eql 27 (.slice a n c) (.slice none n' c')).run Tryz.prog w=.ok (.bool a.isNone) w:=fun w a n c n' c'=>Lib.run_eql_slice_nil w _ _ a n c n' c' uP_Peer
 go_enter Tryz.func35,Tryz.ntmps35
 go_wp2_with (at_builtin;refine Lib.wpList_append_run _ rfl _ _ _ _ rfl _ _ rfl rfl _ _ (hrun _) ?_)
 go_ret
 exact⟨rfl,rfl⟩
theorem call68_Peer:Callable Tryz.prog 35:=⟨_,Tryz.func35,by kernel_rfl,by kernel_rfl⟩
theorem clone68_Peer:CloneOk Tryz.prog 35 1 24:=by
 obtain⟨i0,hi0,hz,hby,zv,hz0,hzs⟩:=iP_Peer
 refine⟨call68_Peer,by decide,fun w A n c cs hnc hc hl hA hcs h1 hb=>?_⟩
 cases A with
 | none =>
  have h0:=hA rfl
  subst h0
  exact(clone_nil_Peer c w).mono fun e w' ⟨he,hw⟩=>by subst hw;exact⟨Grow.refl w',.inl ⟨rfl,none,he⟩⟩
 | some ad =>
  have g1:Grow w (w.alloc (.cells #[] 56)):=Grow.alloc w _
  rcases Nat.eq_zero_or_pos n with h0 | h0
  ·subst h0
   have hrun:=fun ty=>run_append_zero (P:=Tryz.prog) (t:=27) (ty:=ty) (w:=w.alloc (.cells #[] 56)) (A:=some ⟨w.heap.size,0,none⟩) (A':=some ad) (n:=0) (cap:=0) (c:=c) uP_Peer hi0 (Nat.le_refl 0)
   exact(clone_some_Peer ad 0 c w _ _ hrun).mono fun e w' ⟨he,hw⟩=>by subst hw;exact⟨g1,.inl ⟨rfl,_,he⟩⟩
  ·have hcell:∀ j u,cs[j]?=some u->(w.alloc (.cells #[] 56)).cell? (ad.add j)=some u:=fun j u hj=>by
    have h:=hcs ad rfl j u hj
    have hlt:=World.block_lt_of_cell? w _ (by rw [h])
    rw [g1.cell hlt];exact h
   have hb':(0+n)*i0.bytes<=140737488355328:=by rw [hby,Nat.zero_add];exact hb
   have hrun:=fun ty=>run_append_grow (P:=Tryz.prog) (w.alloc (.cells #[] 56)) 27 ty 56 i0 zv uP_Peer hi0 hz0 ⟨w.heap.size,0,none⟩ 0 0 [] (by simp) (by simp) ad n c cs (by rw [hl,hz]) hcell (by omega) (by omega) (growslice_fits (by omega) hb')
   refine(clone_some_Peer ad n c w _ _ hrun).mono fun e w' ⟨he,hw⟩=>?_
   generalize hG:grownCap (w.alloc (.cells #[] 56)) (0+n) 0 56=ncap at he hw
   have hge:0+n<=ncap:=by rw [<- hG];exact grownCap_ge _ _ _ _
   have hle:ncap<=9223372036854775807:=by rw [<- hG];exact grownCap_le_maxLen _ _ _ _ (by simp only [maxLen];omega)
   subst hw
   refine⟨⟨rfl,rfl,rfl,by simp;omega,fun b hb=>?_⟩,.inr ⟨h0,(w.alloc (.cells #[] 56)).heap.size,ncap,_,56,by simpa using he,by simp,heap_alloc_new (w.alloc (.cells #[] 56)).drew _,by omega,hle,?_,fun j u hj=>?_⟩⟩
   ·have e1:=g1.block b hb
    rw [<- e1]
    have hlt:b<(w.alloc (.cells #[] 56)).drew.heap.size:=by simp;omega
    first | exact heap_alloc_old (w.alloc (.cells #[] 56)).drew _ b hlt | exact heap_alloc_old (w.alloc (.cells #[] 56)).drew _ hlt
   ·simp only [Array.size_append,List.size_toArray,size_zc,hzs,List.length_nil,hl]
    have:ncap*1=n*1+(ncap-(0+n))*1:=by omega
    omega
   ·have hlt:=(List.getElem?_eq_some_iff.1 hj).1
    rw [Array.getElem?_append_left (by simp;exact hlt)]
    simpa using hj
theorem zeroCells_one(z:Array Value):(Builtin.zeroCells z 1).toList=z.toList:=by
 apply List.ext_getElem?
 intro k
 rw [Array.getElem?_toList,Array.getElem?_toList]
 have hs:=size_zc z 1
 by_cases h:k<z.size
 ·have:(Builtin.zeroCells z 1)[k]?=z[k]?:=by
   simp [Builtin.zeroCells,List.getElem?_range,Array.getElem?_range,h,Nat.mod_eq_of_lt h]
  exact this
 ·rw [Array.getElem?_eq_none (by omega),Array.getElem?_eq_none (by omega)]
theorem run_clear_one{P:Program}(w:World) (t e ty:TypeId) (z:Value) (ht:P.underlying t=some (.slice e)) (hv:∀ w,(zeroValue e).run P w=.ok z w) (h1:∀ v∈z.cells.toList,v.oneCell'=true) (b o n c:Nat) (hn:n=1)
  (hc:∀ j,j<z.cells.size->(w.cell? ⟨b,o+j,none⟩).isSome=true) (hf:∀ j,j<z.cells.size->w.frozen? ⟨b,o+j,none⟩=false) :
  (Builtin.clear_ #[t] ty #[.slice (some ⟨b,o,none⟩) n c]).run P w=.ok (.tuple #[]) (w.setCells b o z.cells.toList):=by
 subst hn
 have hst:=run_storeCells_cells (P:=P) b o z.cells.toList 0 w (by simpa using hc) (by simpa using hf) h1
 simp only [Nat.add_zero] at hst
 simp [Builtin.clear_,run_underlying ht,hv,zeroCells_one,hst]
set_option maxHeartbeats 4000000 in
set_option maxRecDepth 1000000 in
theorem del_run(i0:TypeInfo) (hi0:Tryz.prog.info? 41=some i0) (hz:i0.size=3) (zv:Value) (hzs:zv.cells.size=3) (hv:∀ w,(zeroValue 41).run Tryz.prog w=.ok zv w) (hz1:∀ v∈zv.cells.toList,v.oneCell'=true) (Z:List Value) (hZ:zv.cells.toList=Z)
  (blk cap n i j:Nat) (cs:List Value) (w:World) (hij:j=i+1) (hj:j<=n) (hcap:n<=cap) (hm:cap<=9223372036854775807) (hcl:cs.length=n*3) (hcs:∀ (t:Nat) (u:Value),cs[t]?=some u->w.cell? ⟨blk,t,none⟩=some u) (hfz:∀ t,w.frozen? ⟨blk,t,none⟩=false) (h1:∀ u∈cs,u.oneCell'=true) :
  Calls Tryz.prog 64 #[.slice (some ⟨blk,0,none⟩) n cap,.int .i64 i,.int .i64 j] w fun e w'=>e=.returned (.slice (some ⟨blk,0,none⟩) (i+(n-j)) cap)∧w'=(w.drew.setCells blk (i*3) (cs.drop (j*3))).setCells blk ((i+(n-j))*3) Z:=by
 have mixed:=mixed0
 have heq:¬ i=j:=by omega
 obtain⟨news,hnews⟩:∃ news,news=cs.drop (j*3):=⟨_,rfl⟩
 have hlen:news.length=(n-j)*3:=by rw [hnews,List.length_drop,hcl,Nat.sub_mul]
 have hget:∀ t u,news[t]?=some u->cs[j*3+t]?=some u:=fun t u h=>by rw [hnews,List.getElem?_drop] at h;exact h
 obtain⟨A,hA,hsrc⟩:∃ A:Addr,(if cap=j then some (⟨blk,0,none⟩:Addr) else some ⟨blk,j*3,none⟩)=some A∧Hid (∀ t u,news[t]?=some u->w.drew.cell? (A.add t)=some u):=by
  by_cases h:cap=j
  ·refine⟨⟨blk,0,none⟩,by simp [h],fun t u hu=>?_⟩
   have h0:news.length=0:=by rw [hlen];omega
   rw [List.length_eq_zero_iff.1 h0] at hu
   simp at hu
  ·refine⟨⟨blk,j*3,none⟩,by simp [h],fun t u hu=>?_⟩
   rw [Addr.add_lit]
   exact hcs _ _ (hget t u hu)
 have s1:Hid (news.length=(n-j)*3):=hlen
 have s2:Hid (∀ u∈news,u.oneCell'=true):=fun u hu=>h1 u (by rw [hnews] at hu;exact List.mem_of_mem_drop hu)
 have hsome:∀ t,t<n*3->(w.cell? ⟨blk,t,none⟩).isSome=true:=fun t ht=>by rw [hcs t _ (List.getElem?_eq_getElem (by rw [hcl];exact ht))];rfl
 have hb3:i*3+(n-j)*3<=n*3:=by omega
 have s3:Hid (∀ t,t<news.length->(w.drew.cell? ⟨blk,0+i*3+t,none⟩).isSome=true∧w.drew.frozen? ⟨blk,0+i*3+t,none⟩=false):=by
  intro t ht
  rw [hlen] at ht
  exact⟨hsome _ (by omega),hfz _⟩
 obtain⟨W1,hW1⟩:∃ W1,W1=w.drew.setCells blk (0+i*3) news:=⟨_,rfl⟩
 have hsome1:∀ t,t<n*3->(W1.cell? ⟨blk,t,none⟩).isSome=true:=fun t ht=>by
  rw [hW1]
  exact isSome_set blk _ _ _ (fun k hk=>(s3 k hk).1) _ (hsome t ht)
 have hfz1:∀ t,W1.frozen? ⟨blk,t,none⟩=false:=fun t=>by rw [hW1,World.frozen?_setCells];exact hfz t
 have hcl3:(i+(n-j))*3+3<=n*3:=by omega
 have hclr:∀ ty,(Builtin.clear_ #[44] ty #[.slice (some ⟨blk,(i+(n-j))*3,none⟩) (n-(i+(n-j))) (cap-(i+(n-j)))]).run Tryz.prog W1=.ok (.tuple #[]) (W1.setCells blk ((i+(n-j))*3) Z) :=
  fun ty=>hZ ▸ run_clear_one W1 _ _ ty zv uP_Spot hv hz1 blk ((i+(n-j))*3) _ _ (by omega) (fun t ht=>hsome1 _ (by omega)) (fun t ht=>hfz1 _)
 have hW:Hid (W1=w.drew.setCells blk (0+i*3) news):=hW1
 have X:Aside (W1=w.drew.setCells blk (i*3) (cs.drop (j*3))):=by
  have e:W1=w.drew.setCells blk (i*3) (cs.drop (j*3)):=by rw [hW1,hnews,Nat.zero_add]
  exact e
 have hic:i<=cap:=by omega
 have hjc:j<=cap:=by omega
 have hcl':cap-(i+(n-j))≠0:=by omega
 have hcn:¬ cap=i+(n-j):=by omega
 have uS:=uP_Spot
 have hi9:¬ cap=i:=by omega
 have hsz3:∀ w,(sizeOf 41).run Tryz.prog w=.ok 3 w:=fun w=>by simp [sizeOf,typeInfo,hi0,hz]
 have hin:i<=n:=by omega
 have hle:i<=j:=by omega
 have hj1:(0:Int)<=(i:Int):=by omega
 clear hW1 hnews hlen hget hsome hsome1 hfz1 hb3 hcl3 hcs hfz h1 hcl hij hv hz1 hzs hZ
 go_enter Tryz.func64,Tryz.ntmps64
 go_wp2_with fail
 go_region_law_o (refine step_append_room rfl (.tmp 22) (.tmp 25) 44 rfl 41 i0 3 uP_Spot hi0 hz blk 0 i cap (by simp [Act.eval,Act.put]) A (n-j) (cap-j) news (by simp [Act.eval,Act.put]) s1.out hsrc.out s2.out (by omega) s3.out ?_;rw [<- hW.out])
 go_wp2
 go_ret
 exact⟨rfl,by rw [<- X.out]⟩
theorem iZ_Spot:∃ (i0:TypeInfo) (zv:Value),Tryz.prog.info? 41=some i0∧i0.size=3∧i0.zero=some zv∧zv.cells.size=3∧∀ v∈zv.cells.toList,v.oneCell'=true:=by
 have h:(match Tryz.prog.info? 41 with | some i=>(i.size == 3)&&(match i.zero with | some zv=>(zv.cells.size == 3)&&zv.cells.toList.all (fun v=>v.oneCell') | none=>false) | none=>false)=true:=by kernel_rfl
 split at h
 ·rename_i i hi
  simp only [Bool.and_eq_true,beq_iff_eq] at h
  obtain⟨h1,h3⟩:=h
  split at h3
  ·rename_i zv hz
   simp only [Bool.and_eq_true,beq_iff_eq,List.all_eq_true] at h3
   exact⟨i,zv,hi,h1,hz,h3.1,h3.2⟩
  ·cases h3
 ·cases h
theorem callDel:Callable Tryz.prog 64:=⟨_,Tryz.func64,by kernel_rfl,by kernel_rfl⟩
theorem delSpot:DelOk Tryz.prog 64 3:=by
 obtain⟨i0,zv,hi0,hz,hzv,hzs,hz1⟩:=iZ_Spot
 refine⟨callDel,by decide,fun w b n c i cs arr ty hin hnc hc63 hh hcl harr hca h1c=>?_⟩
 have hv:∀ w,(zeroValue 41).run Tryz.prog w=.ok zv w:=fun w=>by simp [zeroValue,typeInfo,hi0,hzv]
 have hcs:∀ (t:Nat) (u:Value),cs[t]?=some u->w.cell? ⟨b,t,none⟩=some u:=fun t u h=>by rw [cell_of_row w b t arr ty (0,0) hh];exact hca t u h
 have hfz:∀ t,w.frozen? ⟨b,t,none⟩=false:=fun t=>by simp [World.frozen?,hh]
 have hrun:=del_run i0 hi0 hz zv hzs hv hz1 zv.cells.toList rfl b c n i (i+1) cs w rfl (by omega) hnc hc63 hcl hcs hfz h1c
 rw [show (((i+1:Nat):Int))=(i:Int)+1 by omega] at hrun
 refine hrun.mono fun e w' ⟨he,hw⟩=>?_
 have hdl:(cs.drop ((i+1)*3)).length=(n-(i+1))*3:=by rw [List.length_drop,hcl,Nat.sub_mul]
 have hzl:zv.cells.toList.length=3:=by simpa using hzs
 obtain⟨a1,p1,p2,p3,p4,⟨p5,p6,p7,p8⟩,p9⟩:=set1 b (cs.drop ((i+1)*3)) (i*3) w.drew arr ty hh (by rw [hdl];omega)
 obtain⟨a2,s1,s2,s3,s4,⟨s5,s6,s7,s8⟩,s9⟩:=set1 b zv.cells.toList ((i+(n-(i+1)))*3) _ a1 ty p1 (by rw [hzl,p2];omega)
 subst hw
 refine⟨by rw [he,show i+(n-(i+1))=n-1 by omega],⟨s5.trans p5,s6.trans p6,s7.trans p7,s8.trans p8⟩,fun k hk=>(s9 k hk).trans (p9 k hk),a2,s1,s2.trans p2,fun j u hj=>?_⟩
 have htl:(cs.take (i*3)).length=i*3:=by rw [List.length_take];omega
 have hlt:=(List.getElem?_eq_some_iff.1 hj).1
 rw [List.length_append,htl,hdl] at hlt
 rw [s3 j (by omega)]
 by_cases hji:j<i*3
 ·rw [List.getElem?_append_left (by rw [htl];exact hji),List.getElem?_take,if_pos hji] at hj
  rw [p3 j (by omega)];exact hca j u hj
 ·rw [List.getElem?_append_right (by rw [htl];omega),htl] at hj
  have:=p4 (j-i*3) u hj
  rwa [show i*3+(j-i*3)=j by omega] at this
end

section
section
open Go Go.Proofs.YtmmlicjkdeankaaGreatDoor.AL Go.Proofs Go.Shelf
def Tryz.mclone_ren : Go.Shelf.Ren := ⟨fun | 5 => 85 | 7 => 114 | n => n, fun | 23 => 159 | 25 => 3 | 3 => 41 | 4 => 4 | 20 => 20 | n => n, fun | n => n⟩
theorem Tryz.mclone : Go.Proofs.SlLaysW.n5 Tryz.prog Tryz.mclone_ren := {
  mixed := by kernel_rfl
  f5 := ⟨Tryz.f85.name, by decide, Tryz.func85.trans (congrArg some (by kernel_rfl))⟩
  f7 := Tryz.func114.trans (congrArg some (by kernel_rfl))
  t4 := Tryz.underlying4
  a4 := Tryz.isAgg4
  z4 := Tryz.sizeOf4
  v4 := Tryz.zeroValue4
  t20 := Tryz.underlying20
  a20 := Tryz.isAgg20
  z20 := Tryz.sizeOf20
  v20 := Tryz.zeroValue20
  t23 := Tryz.underlying159
  a23 := Tryz.isAgg159
  z23 := Tryz.sizeOf159
  v23 := Tryz.zeroValue159 }
def Tryz.mkeys_ren : Go.Shelf.Ren := ⟨fun | 7 => 88 | 10 => 117 | n => n, fun | 23 => 159 | 26 => 3 | 3 => 41 | 28 => 166 | 0 => 0 | 27 => 165 | 33 => 130 | 4 => 4 | n => n, fun | n => n⟩
theorem Tryz.mkeys : Go.Proofs.SlLaysZI.n7 Tryz.prog Tryz.mkeys_ren := {
  mixed := by kernel_rfl
  f7 := ⟨Tryz.f88.name, by decide, Tryz.func88.trans (congrArg some (by kernel_rfl))⟩
  f10 := ⟨Tryz.f117.name, by decide, Tryz.func117.trans (congrArg some (by kernel_rfl))⟩
  t0 := Tryz.underlying0
  a0 := Tryz.isAgg0
  z0 := Tryz.sizeOf0
  v0 := Tryz.zeroValue0
  t4 := Tryz.underlying4
  a4 := Tryz.isAgg4
  z4 := Tryz.sizeOf4
  v4 := Tryz.zeroValue4
  t23 := Tryz.underlying159
  a23 := Tryz.isAgg159
  z23 := Tryz.sizeOf159
  v23 := Tryz.zeroValue159
  t26 := Tryz.underlying3
  a26 := Tryz.isAgg3
  z26 := Tryz.sizeOf3
  v26 := Tryz.zeroValue3
  t27 := Tryz.underlying165
  a27 := Tryz.isAgg165
  z27 := Tryz.sizeOf165
  v27 := Tryz.zeroValue165
  t28 := Tryz.underlying166
  a28 := Tryz.isAgg166
  z28 := Tryz.sizeOf166
  v28 := Tryz.zeroValue166
  t33 := Tryz.underlying130
  a33 := Tryz.isAgg130
  z33 := Tryz.sizeOf130
  v33 := Tryz.zeroValue130 }
def Tryz.msorted_ren : Go.Shelf.Ren := ⟨fun | 6 => 87 | 8 => 115 | 9 => 116 | 11 => 136 | 13 => 138 | 12 => 137 | 23 => 168 | 24 => 169 | 14 => 159 | 15 => 160 | 16 => 161 | 17 => 162 | 18 => 163 | 19 => 164 | 20 => 165 | 21 => 166 | 22 => 167 | 25 => 179 | 26 => 180 | 27 => 181 | 28 => 182 | 29 => 183 | 30 => 119 | 31 => 186 | n => n, fun | 26 => 3 | 28 => 166 | 24 => 118 | 0 => 0 | 3 => 3 | 37 => 188 | 48 => 253 | 50 => 211 | 4 => 4 | 40 => 247 | 39 => 246 | 45 => 141 | 5 => 5 | 9 => 9 | 51 => 261 | 55 => 126 | 57 => 266 | 58 => 232 | 33 => 130 | n => n, fun | n => n⟩
theorem Tryz.msorted : Go.Proofs.SlLaysZI.n6 Tryz.prog Tryz.msorted_ren := {
  mixed := by kernel_rfl
  f6 := ⟨Tryz.f87.name, by decide, Tryz.func87.trans (congrArg some (by kernel_rfl))⟩
  f8 := ⟨Tryz.f115.name, by decide, Tryz.func115.trans (congrArg some (by kernel_rfl))⟩
  f11 := ⟨Tryz.f136.name, by decide, Tryz.func136.trans (congrArg some (by kernel_rfl))⟩
  t0 := Tryz.underlying0
  a0 := Tryz.isAgg0
  z0 := Tryz.sizeOf0
  v0 := Tryz.zeroValue0
  t24 := Tryz.underlying118
  a24 := Tryz.isAgg118
  z24 := Tryz.sizeOf118
  v24 := Tryz.zeroValue118
  t26 := Tryz.underlying3
  a26 := Tryz.isAgg3
  z26 := Tryz.sizeOf3
  v26 := Tryz.zeroValue3
  t28 := Tryz.underlying166
  a28 := Tryz.isAgg166
  z28 := Tryz.sizeOf166
  v28 := Tryz.zeroValue166
  i26 := by kernel_rfl }
def Tryz.msort_ren : Go.Shelf.Ren := ⟨fun | 5 => 116 | 8 => 138 | 7 => 137 | 19 => 168 | 20 => 169 | 10 => 159 | 11 => 160 | 12 => 161 | 13 => 162 | 14 => 163 | 15 => 164 | 16 => 165 | 17 => 166 | 18 => 167 | 30 => 179 | 31 => 180 | 32 => 181 | 33 => 182 | 34 => 183 | 35 => 119 | 40 => 186 | n => n, fun | 23 => 118 | 25 => 3 | 3 => 3 | 32 => 188 | 22 => 118 | 0 => 0 | 44 => 253 | 46 => 211 | 4 => 4 | 36 => 247 | 35 => 246 | 41 => 141 | 5 => 5 | 9 => 9 | 53 => 261 | 57 => 126 | 63 => 266 | 64 => 232 | n => n, fun | n => n⟩
theorem Tryz.msort : Go.Proofs.SlLaysM.n5 Tryz.prog Tryz.msort_ren := {
  mixed := by kernel_rfl
  f5 := ⟨Tryz.f116.name, by decide, Tryz.func116.trans (congrArg some (by kernel_rfl))⟩
  f7 := ⟨Tryz.f137.name, by decide, Tryz.func137.trans (congrArg some (by kernel_rfl))⟩
  f8 := Tryz.func138.trans (congrArg some (by kernel_rfl))
  f10 := ⟨Tryz.f159.name, by decide, Tryz.func159.trans (congrArg some (by kernel_rfl))⟩
  f11 := ⟨Tryz.f160.name, by decide, Tryz.func160.trans (congrArg some (by kernel_rfl))⟩
  f12 := ⟨Tryz.f161.name, by decide, Tryz.func161.trans (congrArg some (by kernel_rfl))⟩
  f13 := ⟨Tryz.f162.name, by decide, Tryz.func162.trans (congrArg some (by kernel_rfl))⟩
  f14 := ⟨Tryz.f163.name, by decide, Tryz.func163.trans (congrArg some (by kernel_rfl))⟩
  f15 := ⟨Tryz.f164.name, by decide, Tryz.func164.trans (congrArg some (by kernel_rfl))⟩
  f16 := ⟨Tryz.f165.name, by decide, Tryz.func165.trans (congrArg some (by kernel_rfl))⟩
  f17 := ⟨Tryz.f166.name, by decide, Tryz.func166.trans (congrArg some (by kernel_rfl))⟩
  f18 := ⟨Tryz.f167.name, by decide, Tryz.func167.trans (congrArg some (by kernel_rfl))⟩
  f19 := Tryz.func168.trans (congrArg some (by kernel_rfl))
  f20 := Tryz.func169.trans (congrArg some (by kernel_rfl))
  f30 := ⟨Tryz.f179.name, by decide, Tryz.func179.trans (congrArg some (by kernel_rfl))⟩
  f31 := Tryz.func180.trans (congrArg some (by kernel_rfl))
  f32 := Tryz.func181.trans (congrArg some (by kernel_rfl))
  f33 := ⟨Tryz.f182.name, by decide, Tryz.func182.trans (congrArg some (by kernel_rfl))⟩
  f34 := ⟨Tryz.f183.name, by decide, Tryz.func183.trans (congrArg some (by kernel_rfl))⟩
  f35 := ⟨Tryz.f119.name, by decide, Tryz.func119.trans (congrArg some (by kernel_rfl))⟩
  f40 := ⟨Tryz.f186.name, by decide, Tryz.func186.trans (congrArg some (by kernel_rfl))⟩
  t0 := Tryz.underlying0
  a0 := Tryz.isAgg0
  z0 := Tryz.sizeOf0
  v0 := Tryz.zeroValue0
  t3 := Tryz.underlying3
  a3 := Tryz.isAgg3
  z3 := Tryz.sizeOf3
  v3 := Tryz.zeroValue3
  t4 := Tryz.underlying4
  a4 := Tryz.isAgg4
  z4 := Tryz.sizeOf4
  v4 := Tryz.zeroValue4
  t5 := Tryz.underlying5
  a5 := Tryz.isAgg5
  z5 := Tryz.sizeOf5
  v5 := Tryz.zeroValue5
  t9 := Tryz.underlying9
  a9 := Tryz.isAgg9
  z9 := Tryz.sizeOf9
  v9 := Tryz.zeroValue9
  t22 := Tryz.underlying118
  a22 := Tryz.isAgg118
  z22 := Tryz.sizeOf118
  v22 := Tryz.zeroValue118
  t23 := Tryz.underlying118
  a23 := Tryz.isAgg118
  z23 := Tryz.sizeOf118
  v23 := Tryz.zeroValue118
  t25 := Tryz.underlying3
  a25 := Tryz.isAgg3
  z25 := Tryz.sizeOf3
  v25 := Tryz.zeroValue3
  t32 := Tryz.underlying188
  a32 := Tryz.isAgg188
  z32 := Tryz.sizeOf188
  v32 := Tryz.zeroValue188
  t35 := Tryz.underlying246
  a35 := Tryz.isAgg246
  z35 := Tryz.sizeOf246
  v35 := Tryz.zeroValue246
  t36 := Tryz.underlying247
  a36 := Tryz.isAgg247
  z36 := Tryz.sizeOf247
  v36 := Tryz.zeroValue247
  t41 := Tryz.underlying141
  a41 := Tryz.isAgg141
  z41 := Tryz.sizeOf141
  v41 := Tryz.zeroValue141
  t44 := Tryz.underlying253
  a44 := Tryz.isAgg253
  z44 := Tryz.sizeOf253
  v44 := Tryz.zeroValue253
  t46 := Tryz.underlying211
  a46 := Tryz.isAgg211
  z46 := Tryz.sizeOf211
  v46 := Tryz.zeroValue211
  t53 := Tryz.underlying261
  a53 := Tryz.isAgg261
  z53 := Tryz.sizeOf261
  v53 := Tryz.zeroValue261
  t57 := Tryz.underlying126
  a57 := Tryz.isAgg126
  z57 := Tryz.sizeOf126
  v57 := Tryz.zeroValue126
  t63 := Tryz.underlying266
  a63 := Tryz.isAgg266
  z63 := Tryz.sizeOf266
  v63 := Tryz.zeroValue266
  t64 := Tryz.underlying232
  a64 := Tryz.isAgg232
  z64 := Tryz.sizeOf232
  v64 := Tryz.zeroValue232 }
end
open Go Go.Proofs.YtmmlicjkdeankaaGreatDoor.AL Go.Shelf Go.RowKit Go.Maps
open Go.WideElems (Fit rd rg pl)
def anyR:Value->Option (DataW Unit×List MemPlace):=fun _=>some (.nil,[])
theorem uInt:Tryz.prog.underlying 3=some (.int .i64):=by kernel_rfl
def i64V (v:Value):Prop:=∃ t,v=.int .i64 t∧-9223372036854775808<=t∧t<9223372036854775808
theorem wf64{t:Int}(h:-9223372036854775808<=t∧t<9223372036854775808):(Lit.int .i64 t).wf=true:=by
 have h0:IntKind.i64.min=-9223372036854775808:=by decide
 simp only [Lit.wf,Bool.and_eq_true,decide_eq_true_eq]
 rw [h0]
 refine⟨h.1,?_⟩
 show t<=9223372036854775807
 omega
theorem rd_any{z:MapEntry}{t:Int}(h:z.key=.int .i64 t) (hr:-9223372036854775808<=t∧t<9223372036854775808):rd Tryz.prog 3 anyR z=some (.int .i64 t,.nil):=by
 unfold rd anyR
 rw [h]
 simp [keyOf,mapKey,uInt,wf64 hr]
theorem fit_any{arr:Array MapEntry}{ck:Nat}(hs:MapKept.Stamped arr ck) (hk:∀ z∈arr.toList,i64V z.key) (hn:arr.size<=1000000):Fit Tryz.prog 3 anyR arr ck :=
 ⟨by simp only [maxLen];omega,hs,fun x hx=>by obtain⟨t,e,hr⟩:=hk x hx;exact⟨_,rd_any e hr⟩⟩
theorem owns_any{w:World}{b:Nat}{arr:Array MapEntry}{ck:Nat}(hb:w.heap[b]?=some (.map arr ck)) (hs:MapKept.Stamped arr ck) (hk:∀ z∈arr.toList,i64V z.key) (hn:arr.size<=1000000) :
  w.ownsMap Tryz.prog 3 anyR b arr.size (.map ((arr.toList.map (rg Tryz.prog 3 anyR)).foldr DataW.insert [])):=⟨arr,ck,hb,fit_any hs hk hn,Nat.le_refl _,rfl⟩
theorem keys_any{arr:Array MapEntry}(hk:∀ z∈arr.toList,i64V z.key) (t:Int):t∈intKeys (.map ((arr.toList.map (rg Tryz.prog 3 anyR)).foldr DataW.insert []))↔∃ z∈arr.toList,z.key=.int .i64 t:=by
 unfold intKeys
 constructor
 ·intro h
  obtain⟨p,hp,e⟩:=List.mem_map.1 h
  rw [mem_sorted] at hp
  obtain⟨z,hz,ez⟩:=List.mem_map.1 hp
  obtain⟨u,hu,hr⟩:=hk z hz
  refine⟨z,hz,?_⟩
  have:rg Tryz.prog 3 anyR z=(.int .i64 u,.nil):=by unfold rg;rw [rd_any hu hr];rfl
  rw [this] at ez;subst ez
  simp only [intOf] at e;subst e;exact hu
 ·rintro⟨z,hz,hu⟩
  obtain⟨u,hu',hr⟩:=hk z hz
  have e:u=t:=by rw [hu] at hu';injection hu' with _ h;exact h.symm
  subst e
  have:rg Tryz.prog 3 anyR z=(.int .i64 u,.nil):=by unfold rg;rw [rd_any hu hr];rfl
  exact List.mem_map.2 ⟨_,mem_sorted.2 (List.mem_map.2 ⟨z,hz,this⟩),rfl⟩
def anyR3:Value->Option (DataW Unit×List MemPlace):=fun v=>match v with
 | .agg vs=>if vs.size=3∧(∀ u∈vs.toList,u.oneCell'=true) then some (.nil,[]) else none
 | _=>none
theorem anyR3_some{v:Value}{y:DataW Unit×List MemPlace}(h:anyR3 v=some y):∃ a b c:Value,v=.agg #[a,b,c]∧a.oneCell'=true∧b.oneCell'=true∧c.oneCell'=true∧y=(.nil,[]):=by
 unfold anyR3 at h
 split at h
 ·rename_i vs
  split at h
  ·rename_i hc
   obtain⟨h3,h1⟩:=hc
   obtain⟨l⟩:=vs
   match l,h3,h1 with
   | [a,b,c],_,h1 =>
    injection h with h
    exact⟨a,b,c,rfl,h1 a (by simp),h1 b (by simp),h1 c (by simp),h.symm⟩
  ·cases h
 ·cases h
theorem mclOk:MapCloneOk Tryz.prog 85:=⟨⟨_,Tryz.func85,by kernel_rfl,by kernel_rfl⟩,fun w b arr ck hb=>AnyW.maps_Clone Tryz.mclone b arr ck w hb⟩
theorem mkyOk:MapKeysOk Tryz.prog 88 117:=⟨⟨_,Tryz.func88,by kernel_rfl,by kernel_rfl⟩,fun w b =>
 (callsIn_wide (n:=5)).1 ((AnyZI.keys_in Tryz.mkeys Fence.wide 5 trivial rfl (some b) w).mono fun e w' ⟨h1,h2⟩=>⟨_,h1,h2⟩)⟩
theorem msorts(m:Nat):AnyZI.SortsIn Tryz.prog Tryz.msorted_ren Fence.wide m :=
 ⟨fun blk off cap ss W hH hblk hsz=>callsIn_wide.2 (AnyM.slices_Sort_int Tryz.msort blk off cap ss W hH hblk hsz),
  fun p cap W=>callsIn_wide.2 (AnyM.slices_Sort_int_none Tryz.msort p cap W)⟩
theorem sorted_lt{l:List Int}(hn:l.Nodup):(l.mergeSort fun x y=>decide (x<=y)).Pairwise (· < ·):=by
 have tr:∀ a b c:Int,decide (a<=b)=true->decide (b<=c)=true->decide (a<=c)=true:=fun a b c h1 h2=>by simp only [decide_eq_true_eq] at *;omega
 have to:∀ a b:Int,(decide (a<=b)||decide (b<=a))=true:=fun a b=>by simp only [Bool.or_eq_true,decide_eq_true_eq];omega
 have h1:=List.pairwise_mergeSort tr to l
 have h2:(l.mergeSort fun x y=>decide (x<=y)).Nodup:=(List.mergeSort_perm l _).nodup_iff.2 hn
 exact(h1.and h2).imp fun⟨a,b⟩=>by simp only [decide_eq_true_eq] at a;omega
set_option maxRecDepth 10000 in
theorem srtOk:SortedOk Tryz.prog 87 117:=by
 refine⟨⟨_,Tryz.func87,by kernel_rfl,by kernel_rfl⟩,fun w B b arr ck hB hb hs hk hn=>?_⟩
 have hown:=owns_any hb hs hk hn
 have hsize:Maps.size (.map ((arr.toList.map (rg Tryz.prog 3 anyR)).foldr DataW.insert []):DataW Unit)=arr.size:=by
  show ((arr.toList.map (rg Tryz.prog 3 anyR)).foldr DataW.insert []).length=arr.size
  rw [length_sorted];simp
 have hkeys:=keys_any (arr:=arr) hk
 have hnd:(intKeys (.map ((arr.toList.map (rg Tryz.prog 3 anyR)).foldr DataW.insert []:List (Lit×DataW Unit)))).Nodup:=by
  unfold intKeys
  have hp:=(MapKept.stamped_iff arr ck).1 hs
  have h0:(arr.toList.map (rg Tryz.prog 3 anyR)).Pairwise (fun p q=>p.1≠q.1):=by
   rw [List.pairwise_map]
   refine hp.2.2.imp_of_mem fun {x y} hx hy hne e=>hne ?_
   obtain⟨t,e1,r1⟩:=hk x hx
   obtain⟨u,e2,r2⟩:=hk y hy
   have a1:rg Tryz.prog 3 anyR x=(.int .i64 t,.nil):=by unfold rg;rw [rd_any e1 r1];rfl
   have a2:rg Tryz.prog 3 anyR y=(.int .i64 u,.nil):=by unfold rg;rw [rd_any e2 r2];rfl
   rw [a1,a2] at e
   injection e with _ e
   rw [e1,e2,e]
  have h1:(((arr.toList.map (rg Tryz.prog 3 anyR)).foldr DataW.insert []):List (Lit×DataW Unit)).Pairwise (fun p q=>p.1≠q.1) :=
   ((WideShapes.sorted_perm _).pairwise_iff fun {x y} h e=>h e.symm).2 h0
  rw [List.nodup_iff_pairwise_ne,List.pairwise_map]
  refine h1.imp_of_mem fun {x y} hx hy hne e=>hne ?_
  rw [mem_sorted] at hx hy
  obtain⟨x',hx',rfl⟩:=List.mem_map.1 hx
  obtain⟨y',hy',rfl⟩:=List.mem_map.1 hy
  obtain⟨t,e1,r1⟩:=hk x' hx'
  obtain⟨u,e2,r2⟩:=hk y' hy'
  have a1:rg Tryz.prog 3 anyR x'=(.int .i64 t,.nil):=by unfold rg;rw [rd_any e1 r1];rfl
  have a2:rg Tryz.prog 3 anyR y'=(.int .i64 u,.nil):=by unfold rg;rw [rd_any e2 r2];rfl
  rw [a1,a2] at e ⊢
  have e':t=u:=e
  rw [e']
 generalize (.map ((arr.toList.map (rg Tryz.prog 3 anyR)).foldr DataW.insert []):DataW Unit)=D0 at *
 have hBm:B<w.heap.size:=World.block_lt_of_cell? w ⟨B,0,none⟩ (by rw [hB])
 have hseq:SeqGives Fence.wide 2 Tryz.prog 117 #[.pointer (some ⟨B,0,none⟩)] encZ (fun ss=>ss.Perm (intKeys D0)) (Maps.size D0) w :=
  AnyZI.keys_gives (ρ:=Tryz.mkeys_ren) {Tryz.mkeys with} Fence.wide _ trivial rfl (by omega) B b arr.size D0 w hBm hB hown
 have cS:=AnyZI.sorted_in Tryz.msorted Fence.wide 5 trivial trivial trivial trivial rfl (by omega) (msorts _) (enters_of Tryz.func116 (by kernel_rfl) rfl) 117 #[.pointer (some ⟨B,0,none⟩)] trivial (enters_of Tryz.func117 (by kernel_rfl) rfl) _ _ (by simp only [maxLen];omega) (by omega) _ hseq
 refine((callsIn_wide (n:=5)).1 cS).mono fun e w' ⟨v,ss,he,hp,hrow,hnil,hb⟩=>⟨⟨hb.os,hb.tape,hb.output,hb.size,hb.block⟩,ss.mergeSort fun x y=>decide (x<=y),sorted_lt (hp.nodup_iff.2 hnd),fun t=>?_,?_⟩
 ·rw [(List.mergeSort_perm ss _).mem_iff,hp.mem_iff,hkeys]
 ·have hlen:(ss.mergeSort fun x y=>decide (x<=y)).length=ss.length:=(List.mergeSort_perm ss _).length_eq
  rcases hrow.2 with ⟨h1,h2⟩ | ⟨g,cap,cur,h1,h2,h3,h4,h5,h6,h7⟩
  ·left
   have:ss=[]:=hnil.1 h1
   subst this
   exact⟨by simp,by rw [he,h1]⟩
  ·right
   refine⟨g,cap,cur,_,by rw [he,h1,hlen],h2,h3,by omega,by simp only [maxLen] at h5;omega,fun j u hj=>?_⟩
   have hjl:j<(ss.mergeSort fun x y=>decide (x<=y)).length:=(List.getElem?_eq_some_iff.1 hj).1
   have h8:=congrArg (fun l=>l[j]?) h7
   simp only [Nat.mul_one] at h8
   rw [List.getElem?_take_of_lt (by omega),List.getElem?_map,hj,Array.getElem?_toList] at h8
   exact h8
end

section
open Go Go.Proofs.YtmmlicjkdeankaaGreatDoor.AL Go.Shelf Go.RowKit Go.Maps
theorem uMp:Tryz.prog.underlying 159=some (.map 3 41):=by kernel_rfl
set_option maxHeartbeats 4000000 in
set_option maxRecDepth 100000 in
theorem mcp_run(bd bs nd ns:Nat) (Dd Ds:DataW Unit) (w:World) (hd:w.ownsMap Tryz.prog 3 anyR bd nd Dd) (hs:w.ownsMap Tryz.prog 3 anyR3 bs ns Ds) (hne:bd≠bs) (hroom:nd+Maps.size Ds<=maxLen) :
  Calls Tryz.prog 86 #[.map (some bd),.map (some bs)] w fun e w'=>e=.returned (.tuple #[])∧(∃ Do,w'.ownsMap Tryz.prog 3 anyR bd (nd+Maps.size Ds) Do∧∀ k,has Do k=(has Dd k||has Ds k))∧w.grownBy w' (some bd):=by
 have mixed:=mixed0
 have K:Keyed Tryz.prog 3:=int_keyed uInt
 have hbd:=hd.lt
 have hbs:=hs.lt
 go_enter Tryz.func86,Tryz.ntmps86
 go_wp2_with (first
  | (at_range;refine wpList_range_own _ rfl _ 159 rfl 3 41 K uMp anyR3 bs ns _ rfl hs ?_;intro w0 hrg0 hg0 hs0)
  | go_in)
 go_frame
 go_loopw [8] (fun _ wr=>∃ (left:Lit->Bool) (cnt:Nat) (Dout:DataW Unit),wr.ranges Tryz.prog 3 anyR3 bs w.heap.size ns Ds left cnt∧cnt<=Maps.size Ds ∧
   wr.ownsMap Tryz.prog 3 anyR bd (nd+(Maps.size Ds-cnt)) Dout∧Merged Dout Dd Ds left∧w.grownBy wr (some bd))
  (fun _ wr=>wr.rangeLeft bs w.heap.size)
 case atStart =>
  exact⟨_,_,Dd,hrg0,Nat.le_refl _,(hd.kept hg0 (by simp)).mono (by omega),merged_start Dd Ds,hg0.but _⟩
 case round =>
  obtain⟨left,cnt,Dout,hrg,hcs,hout,hM,hgw⟩:=hrel
  go_wp2_with (first
   | (at_next;refine wpList_next_ranges _ rfl _ rfl 3 K anyR3 id id (fun key _ _=>⟨key,rfl⟩) (fun v _ _=>⟨v,rfl⟩) bs w.heap.size ns _ _ _ rfl hrg ?_ ?_)
   | go_in)
  ·intro hc0 hl0
   go_wp2
   go_end0
   subst hc0
   exact⟨rfl,⟨_,by simpa using hout,fun k=>by rw [hM.1 k,hl0 k];simp⟩,hgw⟩
  ·intro x c kl yd yp w1 cnt1 hkey hlx hv hat hrg1 hlt hg1 hs1 hen
   have hout1:=hout.kept hg1 (fun e=>by have:=Option.some.inj e;omega)
   obtain⟨a0,b0,c0,rfl,h1a,h1b,h1c,hy⟩:=anyR3_some hv
   have hv':anyR (.agg #[a0,b0,c0])=some (yd,yp):=by rw [hy];rfl
   have sa:∀ (W:World) (ad:Addr) (m:Mode),(store ad a0 m).run Tryz.prog W=stored Tryz.prog W ad a0 m:=fun W ad m=>run_store Tryz.prog W ad a0 m h1a
   have sb:∀ (W:World) (ad:Addr) (m:Mode),(store ad b0 m).run Tryz.prog W=stored Tryz.prog W ad b0 m:=fun W ad m=>run_store Tryz.prog W ad b0 m h1b
   have sc:∀ (W:World) (ad:Addr) (m:Mode),(store ad c0 m).run Tryz.prog W=stored Tryz.prog W ad c0 m:=fun W ad m=>run_store Tryz.prog W ad c0 m h1c
   have hga:w1.grownBy (w1.alloc (.cells #[a0,b0,c0] 41)) none:=World.grownBy_alloc w1 _ none
   have hout1':=hout1.alloc (.cells #[a0,b0,c0] 41)
   have hrg1':=hrg1.kept hga (by simp) (by simp)
   go_wp2_with (first
    | (at_mapUpdate;refine wpList_mapUpdate_own _ rfl _ _ _ 159 rfl 3 41 K uMp anyR bd _ _ rfl hout1' (by omega) _ _ _ rfl rfl hkey yd yp hv' ?_;intro w2 hout2 hg2;go_frame)
    | go_in)
   have hrg2:=hrg1'.kept hg2 (fun e=>hne (Option.some.inj e).symm) (fun e=>by have:=Option.some.inj e;omega)
   go_roundw
   case rel =>
    exact⟨_,cnt1,_,hrg2,by omega,hout2.mono (by omega),merged_step hM hout.isMap (K.key hkey) hat,((hgw.andThen hg1 (fun j hj=>.inl (by cases hj;exact Nat.le_refl _))).andThen hga (fun j hj=>by cases hj)).andThen hg2 (fun j hj=>.inr hj)⟩
   case measure=>rw [hrg2.left_eq,hrg.left_eq];exact hlt
theorem keysFit{arr:Array MapEntry}{ck:Nat}{R:Value->Option (DataW Unit×List MemPlace)}(F:WideElems.Fit Tryz.prog 3 R arr ck) (v:Value) :
  (∃ x∈arr.toList,x.key=v)↔∃ t,v=.int .i64 t∧has (.map ((arr.toList.map (WideElems.rg Tryz.prog 3 R)).foldr DataW.insert [])) (.int .i64 t)=true:=by
 have rgk:∀ x∈arr.toList,∃ t,x.key=.int .i64 t∧(WideElems.rg Tryz.prog 3 R x).1=.int .i64 t:=fun x hx=>by
  obtain⟨y,hy⟩:=F.reads x hx
  obtain⟨t,e1,e2,_⟩:=Maps.keyOf_i64 uInt (WideElems.rd_key hy)
  refine⟨t,e1,?_⟩
  unfold WideElems.rg
  rw [hy]
  exact e2
 constructor
 ·rintro⟨x,hx,rfl⟩
  obtain⟨t,e1,e2⟩:=rgk x hx
  refine⟨t,e1,?_⟩
  rw [has_eq,List.any_eq_true]
  refine⟨_,mem_sorted.2 (List.mem_map.2 ⟨x,hx,rfl⟩),?_⟩
  rw [e2];simp [Lit.sameKey]
 ·rintro⟨t,rfl,h⟩
  rw [has_eq,List.any_eq_true] at h
  obtain⟨p,hp,hk⟩:=h
  rw [mem_sorted] at hp
  obtain⟨x,hx,rfl⟩:=List.mem_map.1 hp
  obtain⟨u,e1,e2⟩:=rgk x hx
  rw [e2] at hk
  have:=Go.WideAt.sameKey_eq hk
  injection this with _ e
  exact⟨x,hx,by rw [e1,e]⟩
theorem rd_any3{R:Value->Option (DataW Unit×List MemPlace)}{z:MapEntry}{t:Int}{y:DataW Unit×List MemPlace}(h:z.key=.int .i64 t) (hr:-9223372036854775808<=t∧t<9223372036854775808) (hR:R z.val=some y):∃ q,WideElems.rd Tryz.prog 3 R z=some q:=by
 unfold WideElems.rd
 rw [h,hR]
 simp [keyOf,mapKey,uInt,wf64 hr]
theorem mcpOk:MapCopyOk Tryz.prog 86 3:=by
 refine⟨⟨_,Tryz.func86,by kernel_rfl,by kernel_rfl⟩,fun w b c arr ck brr dk hne hb hc hs hs2 hk hv hn=>?_⟩
 have hka:∀ z∈arr.toList,i64V z.key:=fun z hz=>hk z (List.mem_append.2 (.inl hz))
 have hkb:∀ z∈brr.toList,i64V z.key:=fun z hz=>hk z (List.mem_append.2 (.inr hz))
 have hRb:∀ z∈brr.toList,anyR3 z.val=some (.nil,[]):=fun z hz=>by
  obtain⟨vs,e,h3,h1⟩:=hv z hz
  unfold anyR3
  rw [e]
  simp only
  rw [if_pos ⟨h3,h1⟩]
 have Fa:=fit_any hs hka (by omega)
 have Fb:WideElems.Fit Tryz.prog 3 anyR3 brr dk:=⟨by simp only [maxLen];omega,hs2,fun z hz=>by
  obtain⟨t,e,hr⟩:=hkb z hz
  exact rd_any3 e hr (hRb z hz)⟩
 have hd:=owns_any hb hs hka (by omega)
 have ho:w.ownsMap Tryz.prog 3 anyR3 c brr.size (.map ((brr.toList.map (WideElems.rg Tryz.prog 3 anyR3)).foldr DataW.insert [])):=⟨brr,dk,hc,Fb,Nat.le_refl _,rfl⟩
 have hsz:Maps.size (.map ((brr.toList.map (WideElems.rg Tryz.prog 3 anyR3)).foldr DataW.insert []):DataW Unit)=brr.size:=by
  show ((brr.toList.map (WideElems.rg Tryz.prog 3 anyR3)).foldr DataW.insert []).length=brr.size
  rw [length_sorted];simp
 have ka:=keysFit Fa
 have kb:=keysFit Fb
 refine(mcp_run b c arr.size brr.size _ _ w hd ho hne (by rw [hsz];simp only [maxLen];omega)).mono fun e w' ⟨he,⟨Do,hDo,hhas⟩,hg⟩=>?_
 obtain⟨arr',ck',g1,F',_,hD'⟩:=hDo
 subst hD'
 have k':=keysFit F'
 refine⟨he,⟨hg.os,hg.tape,hg.output,hg.size⟩,fun k hk hne=>hg.block k hk (by intro e;injection e with e;exact hne e),arr',ck',g1,F'.stamped,fun v=>?_⟩
 rw [k',ka,kb]
 constructor
 ·rintro⟨t,rfl,h⟩
  rw [hhas] at h
  rcases (Bool.or_eq_true _ _).mp h with h | h
  ·exact .inl ⟨t,rfl,h⟩
  ·exact .inr ⟨t,rfl,h⟩
 ·rintro(⟨t,rfl,h⟩ | ⟨t,rfl,h⟩)
  ·exact⟨t,rfl,by rw [hhas,h];rfl⟩
  ·exact⟨t,rfl,by rw [hhas,h,Bool.or_true]⟩
end

section
open Go Go.Proofs.YtmmlicjkdeankaaGreatDoor.AL Go.Shelf Go.RowKit Go.Lib
def lib0:LibT Tryz.prog where
 cl:=[(35,1,24),(28,3,32),(107,7,64)]
 ins:=[(61,3,32),(106,7,64)]
 del:=[(64,3)]
 mcl:=[85]
 mky:=[(88,117)]
 mcp:=[(86,3)]
 srt:=[(87,117)]
 hcl:=by simp;exact⟨clone68_Peer,clone68_Spot,clone68_Note⟩
 hins:=by simp;exact⟨ins67_Spot,ins67_Note⟩
 hdel:=by simp;exact delSpot
 hmcl:=by simp;exact mclOk
 hmky:=by simp;exact mkyOk
 hmcp:=by simp;exact mcpOk
 hsrt:=by simp;exact srtOk
end

section
def T (n:Nat):Opd:=.tmp n
def Z (c:Int):Opd:=.dat (.lit (.int .i64 c))
def Y (b:Bool):Opd:=.dat (.lit (.bool b))
def U (f:FuncId):Opd:=.dat (.fn (.func f) [] [])
def F (a b:Nat)(c:Bool)(n:Nat):AOp:=.field a b c (.tmp n)
def L (a:Nat)(b:Bool)(n:Nat):AOp:=.load a b (.tmp n)
def N (n:Nat):AOp:=.len (.tmp n)
def E (n k:Nat):AOp:=.extract (.tmp n) k
def I (a m n:Nat):AOp:=.index a (.tmp m) (.tmp n)
def S (a m n:Nat):AOp:=.store a (.tmp m) (.tmp n)
def A (o:BinOp)(m n:Nat):AOp:=.arith o (.tmp m) (.tmp n)
def B (o:BinOp)(m:Nat)(c:Int):AOp:=.arith o (.tmp m) (.dat (.lit (.int .i64 c)))
def V (k n:Nat):AOper:=⟨some k,none,.op (.mov (.tmp n))⟩
def O (k:Nat)(x:AOp):AOper:=⟨some k,none,.op x⟩
def G (k g:Nat)(x:AOp):AOper:=⟨some k,some (g,false),.op x⟩
def H (k g:Nat)(x:AOp):AOper:=⟨some k,some (g,true),.op x⟩
def Q (x:AOp):AOper:=⟨none,none,.op x⟩
def C (k f:Nat)(l:List Opd):AOper:=⟨some k,none,.call (.dat (.fn (.func f) [] [])) l⟩
def J (l:List AOper):AC:=.region none l
def M (l:List AOper)(a:AC):AC:=.seq (.region none l) a
def K (n:Nat)(a b:AC):AC:=.cond (.tmp n) a b
def z0:D:=.lit (.int .i64 0)
attribute [simp] T Z Y U F L N E I S A B V O G H Q C J M K z0
theorem mixed:Tryz.prog.follows .mixedOrders=true:=by kernel_rfl
theorem ck{f:FuncId}{a:AF}(F:Func)(h:Tryz.prog.funcs[f]?=some F:=by kernel_rfl)(k:chkF Tryz.prog F a=true:=by kernel_rfl):CmpF Tryz.prog f a:=chkF_cmp h mixed k
def a3:AF:=
{nt:=451,body:=(M [O 12 (.mov (Y false))] (.seq (M ([O 56 (.build [.nil 1,.nil 3,.nil 2] []),C 57 4 [T 56],O 58 (B .eql 57 0)]) (K 58 (M [O 12 (.mov (Y false))] .ret) .skip)) (.seq (M ([V 59 0,O 60 (N 59),O 61 (B .gtr 60 8),V 62 61,G 63 62 (.mov (T 1)),G 64 62 (N 63),G 65 62 (B .gtr 64 8),O 66 (.pick (T 62) (Y true) (T 65)),V 67 66,G 68 67 (.mov (T 3)),G 69 67 (N 68),G 70 67 (B .gtr 69 100),O 71 (.pick (T 67) (Y true) (T 70)),V 72 71,G 73 72 (.mov (T 4)),G 74 72 (N 73),G 75 72 (B .gtr 74 20),O 76 (.pick (T 72) (Y true) (T 75)),V 77 76,G 78 77 (.mov (T 0)),⟨some 79,some (77,false),.call (U 5) [T 78]⟩,G 80 77 (B .neq 79 0),O 81 (.pick (T 77) (Y true) (T 80)),V 82 81,G 83 82 (.mov (T 1)),⟨some 84,some (82,false),.call (U 5) [T 83]⟩,G 85 82 (B .neq 84 0),O 86 (.pick (T 82) (Y true) (T 85))]) (K 86 (M [O 12 (.mov (Y true))] .ret) .skip)) (M [V 87 2,O 88 (.conv .i64 (T 87)),O 89 (B .rem 88 2),O 90 (.arith .add (Z 2) (T 89)),V 13 90] (M ([V 92 13,C 93 6 [T 92],V 91 93,O 94 (E 91 0),O 95 (E 91 1),O 14 (.alloc true [.nil 1,.nil 3,.nil 2]),Q (S 3 14 94),V 15 95]) (.seq (M [V 96 15,O 97 (B .neq 96 0),V 98 97,G 99 98 (F 0 1 false 14),G 100 98 (L 1 false 99),G 101 98 (N 100),G 102 98 (.mov (T 13)),G 103 98 (A .neq 101 102),O 104 (.pick (T 98) (Y true) (T 103))] (K 104 (M [O 12 (.mov (Y false))] .ret) .skip)) (M ([O 16 (.alloc true [.nil 1,.nil 1])]) (.seq (M ([V 105 0,V 106 1,O 107 (.build [.nil 5,.nil 5] [(0,1,(T 105)),(1,1,(T 106))]),O 108 (.mov (Z 0))]) (.block 0 (.loop (M [O 109 (B .lss 108 2)] (.seq (K 109 .skip (.exit 0)) (.seq (.block 1 (M ([V 110 108,O 111 (.ext (.idxV 1 false 2) [T 107,T 108]),V 17 110,V 18 111]) (M ([V 112 17,O 113 (.mkslice 1 [.dat (.nil 3)]),O 114 (.indexA 1 false 2 (T 16) (T 112)),Q (S 1 114 113)]) (M [V 115 18,O 116 (N 115),O 117 (.mov (Z 0))] (.block 2 (.loop (M [O 118 (A .lss 117 116)] (.seq (K 118 .skip (.exit 2)) (.seq (.block 3 (M ([V 119 117,O 120 (I 5 115 117),O 121 (L 5 true 120),O 20 (.alloc true [z0,z0,z0,z0,.lit (.string ⟨#[]⟩)]),V 19 119,Q (S 5 20 121)]) (.seq (.region (some [[],[0],[0,1],[],[0,1,2,3],[0,1,2,3,4],[],[0,1,2,3,4,5,6],[0,1,2,3,4,5,6,7],[0,1,2,3,4,5,6,7,8],[0,1,2,3,4,5,6,7,8],[0,1,2,3,4,5,6,7,8,9],[0,1,2,3,4,5,6,7,8,9,10,11]]) [V 123 17,O 124 (.indexA 1 false 2 (T 16) (T 123)),O 125 (L 1 false 124),V 126 19,O 127 (I 1 125 126),O 128 (L 1 false 127),O 129 (L 5 true 20),C 130 7 [T 128,T 129],V 122 130,O 131 (E 122 0),O 132 (E 122 1),V 21 131,V 22 132]) (.seq (M [V 133 22,O 134 (B .neq 133 0)] (K 134 (M [O 12 (.mov (Y true))] .ret) .skip)) (M ([V 135 17,V 136 17,O 137 (.indexA 1 false 2 (T 16) (T 136)),O 138 (L 1 false 137),V 139 21,O 140 (.mkslice 1 [T 139]),O 141 (.append 1 24 (T 138) (T 140)),O 142 (.indexA 1 false 2 (T 16) (T 135)),Q (S 1 142 141)]) (M ([O 144 (L 3 true 14),V 145 17,V 146 19,O 147 (L 5 true 20),O 148 (.build [z0,z0,z0,z0,z0,z0,.lit (.string ⟨#[]⟩)] [(0,1,(T 145)),(1,1,(T 146)),(2,5,(T 147))]),O 149 (.build [z0,z0,z0,z0,z0,z0,z0,z0,z0,z0,.lit (.string ⟨#[]⟩)] [(0,1,(Z 1)),(4,7,(T 148))]),C 150 8 [T 144,T 149],V 143 150,O 151 (E 143 0),O 152 (E 143 1),O 23 (.alloc true [.nil 1,.nil 3,.nil 2]),Q (S 3 23 151),V 24 152]) (.seq (M [V 153 24,O 154 (B .neq 153 0),V 155 154,G 156 155 (F 0 1 false 23),G 157 155 (L 1 false 156),G 158 155 (N 157),G 159 155 (.mov (T 13)),G 160 155 (A .neq 158 159),O 161 (.pick (T 155) (Y true) (T 160)),V 162 161,G 163 162 (F 1 2 true 23),G 164 162 (F 0 1 false 163),G 165 162 (L 1 false 164),G 166 162 (N 165),G 167 162 (B .gtr 166 200),O 168 (.pick (T 162) (Y true) (T 167))] (K 168 (M [O 12 (.mov (Y false))] .ret) .skip)) (M [O 169 (L 3 true 23),Q (S 3 14 169)] (M [V 170 17,O 171 (.arith .mul (Z 8) (T 170)),V 172 19,O 173 (A .add 171 172),V 25 173] (M [V 174 25,V 175 3,O 176 (N 175),O 177 (A .lss 174 176),V 178 177,H 179 178 (F 1 2 true 14),H 180 178 (F 0 1 false 179),H 181 178 (L 1 false 180),H 182 178 (N 181),H 183 178 (B .gtr 182 0),O 184 (.pick (T 178) (T 183) (Y false))] (K 184 (M ([O 185 (.build [z0,z0,z0,z0] [(0,1,(Z 3)),(1,1,(Z 4)),(2,1,(Z 5)),(3,1,(Z 3))]),V 186 3,V 187 25,O 188 (I 1 186 187),O 189 (L 1 false 188),O 190 (.arith .rem (T 189) (.dat (.lit (.int .u8 4)))),O 191 (.ext (.idxV 1 false 4) [T 185,T 190]),V 26 191]) (.seq (.region (some [[],[],[],[],[2,3],[2,3,4],[2,3,4,5],[],[7],[7,8],[7,8,9],[2,3,4,5,6,7,8,9,10],[1,2,3,4,5,6,7,8,9,10,11],[0,1,2,3,4,5,6,7,8,9,10,11,12],[0,1,2,3,4,5,6,7,8,9,10,11,12,13],[0,1,2,3,4,5,6,7,8,9,10,11,12,13,14],[0,1,2,3,4,5,6,7,8,9,10,11,12,13,14],[0,1,2,3,4,5,6,7,8,9,10,11,12,13,14,15],[0,1,2,3,4,5,6,7,8,9,10,11,12,13,14,15,16,17]]) [O 193 (L 3 true 14),V 194 26,V 195 3,V 196 25,O 197 (I 1 195 196),O 198 (L 1 false 197),O 199 (.conv .i64 (T 198)),O 200 (F 1 2 true 14),O 201 (F 0 1 false 200),O 202 (L 1 false 201),O 203 (N 202),O 204 (A .rem 199 203),O 205 (.build [z0,z0,z0,z0,z0,z0,z0,z0,z0,z0,.lit (.string ⟨#[]⟩)] [(0,1,(T 194)),(3,1,(T 204))]),C 206 8 [T 193,T 205],V 192 206,O 207 (E 192 0),O 208 (E 192 1),Q (S 3 23 207),V 24 208]) (.seq (M [V 209 24,O 210 (B .neq 209 0),V 211 210,G 212 211 (F 0 1 false 23),G 213 211 (L 1 false 212),G 214 211 (N 213),G 215 211 (.mov (T 13)),G 216 211 (A .neq 214 215),O 217 (.pick (T 211) (Y true) (T 216)),V 218 217,G 219 218 (F 1 2 true 23),G 220 218 (F 0 1 false 219),G 221 218 (L 1 false 220),G 222 218 (N 221),G 223 218 (B .gtr 222 200),O 224 (.pick (T 218) (Y true) (T 223))] (K 224 (M [O 12 (.mov (Y false))] .ret) .skip)) (J [O 225 (L 3 true 23),Q (S 3 14 225)])))) .skip))))))))))) (J [O 226 (B .add 117 1),V 117 226])))))))))) (J [O 227 (B .add 108 1),V 108 227]))))))) (M ([O 27 (.alloc true [.nil 3,.nil 3])]) (.seq (M [O 228 (F 0 1 false 14),O 229 (L 1 false 228),O 230 (N 229),O 231 (.mov (Z 0))] (.block 4 (.loop (M [O 232 (A .lss 231 230)] (.seq (K 232 .skip (.exit 4)) (.seq (.block 5 (M ([O 233 (I 1 229 231),O 234 (L 1 true 233),O 29 (.alloc true [.nil 7]),Q (S 1 29 234)]) (M [O 235 (.mov (Z 0))] (.block 6 (.loop (M [O 236 (B .lss 235 2)] (.seq (K 236 .skip (.exit 6)) (.seq (.block 7 (M [V 237 235,V 30 237] (M ([O 239 (L 1 true 29),V 240 30,C 241 9 [T 239,T 240],V 238 241,O 242 (E 238 0),O 243 (E 238 1),O 244 (E 238 2),V 31 242,V 32 243,V 33 244]) (.seq (M ([V 245 33,O 246 (B .neq 245 0),V 247 246,G 248 247 (.mov (T 32)),G 249 247 (B .lss 248 0),O 250 (.pick (T 247) (Y true) (T 249)),V 251 250,G 252 251 (.mov (T 32)),G 253 251 (.mov (T 30)),G 254 251 (.indexA 1 false 2 (T 16) (T 253)),G 255 251 (L 1 false 254),G 256 251 (N 255),G 257 251 (A .geq 252 256),O 258 (.pick (T 251) (Y true) (T 257)),V 259 258,G 260 259 (.mov (T 31)),G 261 259 (.mov (T 30)),G 262 259 (.indexA 1 false 2 (T 16) (T 261)),G 263 259 (L 1 false 262),G 264 259 (.mov (T 32)),G 265 259 (I 1 263 264),G 266 259 (L 1 false 265),⟨some 267,some (259,false),.call (U 10) [T 260,T 266]⟩,G 268 259 (.not (T 267)),O 269 (.pick (T 259) (Y true) (T 268))]) (K 269 (M [O 12 (.mov (Y false))] .ret) .skip)) (J [V 270 30,V 271 31,O 272 (.indexA 1 false 2 (T 27) (T 270)),Q (S 1 272 271)]))))) (J [O 273 (B .add 235 1),V 235 273]))))))))) (J [O 274 (B .add 231 1),V 231 274]))))))) (.seq (M [O 34 (.mov (Z 1))] (.block 8 (.loop (.seq (M [V 275 34,V 276 13,O 277 (A .lss 275 276)] (K 277 .skip (.exit 8))) (.seq (.block 9 (M ([O 281 (L 3 true 14),V 282 34,O 283 (.build [z0,z0,z0,z0,z0,z0,z0,z0,z0,z0,.lit (.string ⟨#[]⟩)] [(0,1,(Z 2)),(2,1,(T 282))]),C 284 8 [T 281,T 283],V 280 284,O 285 (E 280 0),O 286 (E 280 1),O 35 (.alloc true [.nil 1,.nil 3,.nil 2]),Q (S 3 35 285),V 36 286]) (.seq (M [V 287 36,O 288 (B .neq 287 0),V 289 288,G 290 289 (F 0 1 false 35),G 291 289 (L 1 false 290),G 292 289 (N 291),G 293 289 (.mov (T 13)),G 294 289 (A .neq 292 293),O 295 (.pick (T 289) (Y true) (T 294)),V 296 295,G 297 296 (F 1 2 true 35),G 298 296 (F 0 1 false 297),G 299 296 (L 1 false 298),G 300 296 (N 299),G 301 296 (B .gtr 300 400),O 302 (.pick (T 296) (Y true) (T 301))] (K 302 (M [O 12 (.mov (Y false))] .ret) .skip)) (J [O 303 (L 3 true 35),Q (S 3 14 303)])))) (J [V 278 34,O 279 (B .add 278 1),V 34 279])))))) (M ([O 305 (L 3 true 14),V 306 3,C 307 11 [T 305,T 306],V 304 307,O 308 (E 304 0),O 309 (E 304 1),Q (S 3 14 308),V 37 309]) (.seq (M [V 310 37,O 311 (.not (T 310)),V 312 311,G 313 312 (F 0 1 false 14),G 314 312 (L 1 false 313),G 315 312 (N 314),G 316 312 (.mov (T 13)),G 317 312 (A .neq 315 316),O 318 (.pick (T 312) (Y true) (T 317))] (K 318 (M [O 12 (.mov (Y false))] .ret) .skip)) (.seq (M ([V 319 0,V 320 1,O 321 (.build [.nil 5,.nil 5] [(0,1,(T 319)),(1,1,(T 320))]),O 322 (.mov (Z 0))]) (.block 10 (.loop (M [O 323 (B .lss 322 2)] (.seq (K 323 .skip (.exit 10)) (.seq (.block 11 (M ([V 324 322,O 325 (.ext (.idxV 1 false 2) [T 321,T 322]),V 38 324,V 39 325]) (M ([V 327 39,C 328 12 [T 327,Z 1099511627775],V 326 328,O 329 (E 326 0),O 330 (E 326 1),V 40 329,V 41 330]) (.seq (M ([V 331 41,O 332 (B .neq 331 0),V 333 332,G 334 333 (.mov (T 40)),G 335 333 (.mov (T 38)),G 336 333 (.indexA 1 false 2 (T 16) (T 335)),G 337 333 (L 1 false 336),G 338 333 (.mov (T 39)),G 339 333 (N 338),G 340 333 (I 1 337 339),G 341 333 (L 1 false 340),⟨some 342,some (333,false),.call (U 10) [T 334,T 341]⟩,G 343 333 (.not (T 342)),O 344 (.pick (T 333) (Y true) (T 343))]) (K 344 (M [O 12 (.mov (Y false))] .ret) .skip)) (.seq (M [O 345 (F 0 1 false 14),O 346 (L 1 false 345),O 347 (N 346),O 348 (.mov (Z 0))] (.block 12 (.loop (M [O 349 (A .lss 348 347)] (.seq (K 349 .skip (.exit 12)) (.seq (.block 13 (M ([O 350 (I 1 346 348),O 351 (L 1 true 350),O 43 (.alloc true [.nil 7]),Q (S 1 43 351)]) (M ([O 353 (L 1 true 43),V 354 38,C 355 9 [T 353,T 354],V 352 355,O 356 (E 352 0),O 357 (E 352 1),O 358 (E 352 2),V 44 356,V 45 357,V 46 358]) (.seq (.region (some [[],[0],[0,1],[0,1,2],[0,1,2],[0,1,2,4],[0,1,2,3,4,5],[0,1,2,3,4,5,6],[0,1,2,3,4,5,6,7],[0,1,2,3,4,5,6,7,8],[0,1,2,3,4,5,6,7,8],[0,1,2,3,4,5,6,7,8,9,10],[0,1,2,3,4,5,6,7,8,9,10,11],[0,1,2,3,4,5,6,7,8,9,10,11,12],[0,1,2,3,4,5,6,7,8,9,10,11,12,13],[0,1,2,3,4,5,6,7,8,9,10,11,12,13,14],[0,1,2,3,4,5,6,7,8,9,10,11,12,13,14,15],[0,1,2,3,4,5,6,7,8,9,10,11,12,13,14],[0,1,2,3,4,5,6,7,8,9,10,11,12,13,14,17],[0,1,2,3,4,5,6,7,8,9,10,11,12,13,14,17,18],[0,1,2,3,4,5,6,7,8,9,10,11,12,13,14,17,18,19],[0,1,2,3,4,5,6,7,8,9,10,11,12,13,14,17,18,19,20],[0,1,2,3,4,5,6,7,8,9,10,11,12,13,14,15,16,17,18,19,20,21],[0,1,2,3,4,5,6,7,8,9,10,11,12,13,14,15,16,17,18,19,20,21,22],[0,1,2,3,4,5,6,7,8,9,10,11,12,13,14,15,16,17,18,19,20,21,22,23]]) [V 359 46,O 360 (B .neq 359 0),V 361 360,G 362 361 (.mov (T 45)),G 363 361 (.mov (T 39)),G 364 361 (N 363),G 365 361 (A .neq 362 364),O 366 (.pick (T 361) (Y true) (T 365)),V 367 366,G 368 367 (.mov (T 44)),G 369 367 (.mov (T 40)),⟨some 370,some (367,false),.call (U 10) [T 368,T 369]⟩,G 371 367 (.not (T 370)),O 372 (.pick (T 367) (Y true) (T 371)),V 373 372,G 374 373 (F 0 1 false 43),G 375 373 (L 1 false 374),G 376 373 (F 0 1 false 14),G 377 373 (L 1 false 376),G 378 373 (.index 1 (T 377) (Z 0)),G 379 373 (F 0 1 false 378),G 380 373 (L 1 false 379),⟨some 381,some (373,false),.call (U 13) [T 375,T 380]⟩,G 382 373 (.not (T 381)),O 383 (.pick (T 373) (Y true) (T 382))]) (K 383 (M [O 12 (.mov (Y false))] .ret) .skip))))) (J [O 384 (B .add 348 1),V 348 384]))))))) (M ([V 386 38,O 387 (.indexA 1 false 2 (T 27) (T 386)),O 388 (L 1 false 387),V 389 40,C 390 14 [T 388,T 389,Z 1099511627775],V 385 390,O 391 (E 385 0),O 392 (E 385 1),V 47 391,V 48 392]) (.seq (M [V 393 48,O 394 (B .eql 393 510)] (K 394 (.exit 11) .skip)) (M ([V 396 38,O 397 (.indexA 1 false 2 (T 27) (T 396)),O 398 (L 1 false 397),V 399 47,C 400 15 [T 398,T 399],V 395 400,O 401 (E 395 0),O 402 (E 395 1),V 49 401,V 50 402]) (M ([V 404 39,C 405 16 [T 404,Z 1099511627775],V 403 405,O 406 (E 403 0),O 407 (E 403 1),V 51 406,V 52 407]) (.seq (M ([V 408 48,O 409 (B .neq 408 0),V 410 409,G 411 410 (.mov (T 50)),G 412 410 (B .neq 411 0),O 413 (.pick (T 410) (Y true) (T 412)),V 414 413,G 415 414 (.mov (T 52)),G 416 414 (B .neq 415 0),O 417 (.pick (T 414) (Y true) (T 416)),V 418 417,G 419 418 (.mov (T 49)),G 420 418 (.mov (T 40)),⟨some 421,some (418,false),.call (U 10) [T 419,T 420]⟩,G 422 418 (.not (T 421)),O 423 (.pick (T 418) (Y true) (T 422))]) (K 423 (M [O 12 (.mov (Y false))] .ret) .skip)) (M [O 53 (.mov (Z 0))] (.seq (M [V 424 47,O 425 (N 424),O 426 (.mov (Z 0))] (.block 14 (.loop (M [O 427 (A .lss 426 425)] (.seq (K 427 .skip (.exit 14)) (.seq (.block 15 (M ([O 428 (I 5 424 426),O 429 (L 5 true 428),O 55 (.alloc true [z0,z0,z0,z0,.lit (.string ⟨#[]⟩)]),Q (S 5 55 429)]) (M [O 430 (F 1 1 false 55),O 431 (L 1 false 430),O 432 (B .neq 431 1)] (K 432 (J [V 433 53,O 434 (B .add 433 1),V 53 434]) .skip)))) (J [O 435 (B .add 426 1),V 426 435]))))))) (M [V 436 53,V 437 51,O 438 (A .gtr 436 437)] (K 438 (M [O 12 (.mov (Y false))] .ret) .skip)))))))))))))) (J [O 439 (B .add 322 1),V 322 439]))))))) (M ([V 440 0,V 441 1,V 442 4,V 443 5,O 444 (F 0 1 false 14),O 445 (L 1 false 444),V 446 13,O 447 (B .sub 446 1),O 448 (I 1 445 447),O 449 (L 1 true 448),C 450 17 [T 440,T 441,T 442,T 443,T 449],V 12 450]) .ret))))))))))))))),res:=[.tmp 12]}
theorem c3:CmpF Tryz.prog 3 a3:=ck Tryz.f3
def a4:AF:=
{nt:=64,body:=(M [O 1 (.box true (T 0)),O 2 (.mov (Z 0))] (.seq (M ([O 9 (F 0 1 false 1),O 10 (L 1 false 9),O 11 (N 10),O 12 (B .lss 11 1),V 13 12,G 14 13 (F 0 1 false 1),G 15 13 (L 1 false 14),G 16 13 (N 15),G 17 13 (B .gtr 16 24),O 18 (.pick (T 13) (Y true) (T 17)),V 19 18,G 20 19 (F 1 2 true 1),G 21 19 (L 2 true 20),⟨some 22,some (19,false),.call (U 18) [T 21]⟩,G 23 19 (B .neq 22 0),O 24 (.pick (T 19) (Y true) (T 23))]) (K 24 (M [O 2 (.mov (Z 530))] .ret) .skip)) (.seq (M [O 25 (F 0 1 false 1),O 26 (L 1 false 25),O 27 (N 26),O 28 (.mov (Z 0))] (.block 0 (.loop (M [O 29 (A .lss 28 27)] (.seq (K 29 .skip (.exit 0)) (.seq (.block 1 (M ([O 30 (I 1 26 28),O 31 (L 1 true 30),O 4 (.alloc true [.nil 7]),Q (S 1 4 31)]) (M ([O 32 (L 1 true 4),C 33 19 [T 32],O 34 (.not (T 33))]) (K 34 (M [O 2 (.mov (Z 530))] .ret) .skip)))) (J [O 35 (B .add 28 1),V 28 35]))))))) (.seq (M [O 36 (F 1 2 true 1),O 37 (F 0 1 false 36),O 38 (L 1 false 37),O 39 (N 38),O 40 (.mov (Z 0))] (.block 2 (.loop (M [O 41 (A .lss 40 39)] (.seq (K 41 .skip (.exit 2)) (.seq (.block 3 (M ([O 42 (I 3 38 40),O 43 (L 3 true 42),O 6 (.alloc true [z0,z0,.nil 1]),Q (S 3 6 43)]) (M ([O 45 (F 2 1 false 6),O 46 (L 1 false 45),C 47 20 [T 46],V 44 47,O 48 (E 44 0),O 49 (E 44 1),O 7 (.alloc true [z0,z0,z0,z0,z0,z0,.lit (.string ⟨#[]⟩)]),Q (S 7 7 48),V 8 49]) (M [V 50 8,O 51 (.not (T 50)),V 52 51,G 53 52 (F 0 1 false 6),G 54 52 (L 1 false 53),G 55 52 (F 1 1 false 6),G 56 52 (L 1 false 55),G 57 52 (.minmax true (T 54) (T 56)),G 58 52 (F 0 1 false 1),G 59 52 (L 1 false 58),G 60 52 (N 59),G 61 52 (A .geq 57 60),O 62 (.pick (T 52) (Y true) (T 61))] (K 62 (M [O 2 (.mov (Z 530))] .ret) .skip))))) (J [O 63 (B .add 40 1),V 40 63]))))))) (M [O 2 (.mov (Z 0))] .ret))))),res:=[.tmp 2]}
theorem c4:CmpF Tryz.prog 4 a4:=ck Tryz.f4
def a5:AF:=
{nt:=37,body:=(M [O 2 (.mov (Z 0))] (.seq (M [V 4 0,O 5 (N 4),O 6 (B .gtr 5 4096)] (K 6 (M [O 2 (.mov (Z 2))] .ret) .skip)) (.seq (M [O 3 (.mov (Z 0))] (.block 0 (.loop (.seq (M [V 7 3,V 8 0,O 9 (N 8),O 10 (A .lss 7 9)] (K 10 .skip (.exit 0))) (.seq (.block 1 (.seq (.region (some [[],[],[0,1],[0,1,2],[0,1,2,3],[0,1,2,3,4],[0,1,2,3,4,5],[0,1,2,3,4,5,6],[0,1,2,3,4,5,6,7],[0,1,2,3,4,5,6,7,8],[0,1,2,3,4,5,6,7,8,9],[0,1,2,3,4,5,6,7,8,9],[0,1,2,3,4,5,6,7,8,9,10,11],[0,1,2,3,4,5,6,7,8,9,10,11,12],[0,1,2,3,4,5,6,7,8,9,10,11,12,13],[0,1,2,3,4,5,6,7,8,9],[0,1,2,3,4,5,6,7,8,9],[0,1,2,3,4,5,6,7,8,9,16],[0,1,2,3,4,5,6,7,8,9,15,16,17],[0,1,2,3,4,5,6,7,8,9,15,16,17,18],[0,1,2,3,4,5,6,7,8,9,15,16,17,18,19],[0,1,2,3,4,5,6,7,8,9,10,11,12,13,14,15,16,17,18,19,20],[0,1,2,3,4,5,6,7,8,9,10,11,12,13,14,15,16,17,18,19,20,21],[0,1,2,3,4,5,6,7,8,9,10,11,12,13,14,15,16,17,18,19,20,21,22]]) [V 13 0,V 14 3,O 15 (I 5 13 14),O 16 (L 5 true 15),C 17 21 [T 16],O 18 (.not (T 17)),V 19 18,G 20 19 (.mov (T 3)),G 21 19 (B .gtr 20 0),G 22 19 (.mov (T 21)),H 23 22 (.mov (T 0)),H 24 22 (.mov (T 3)),H 25 22 (I 5 23 24),H 26 22 (F 0 1 false 25),H 27 22 (L 1 false 26),H 28 22 (.mov (T 0)),H 29 22 (.mov (T 3)),H 30 22 (B .sub 29 1),H 31 22 (I 5 28 30),H 32 22 (F 0 1 false 31),H 33 22 (L 1 false 32),H 34 22 (A .lss 27 33),G 35 19 (.pick (T 22) (T 34) (Y false)),O 36 (.pick (T 19) (Y true) (T 35))]) (K 36 (M [O 2 (.mov (Z 490))] .ret) .skip))) (J [V 11 3,O 12 (B .add 11 1),V 3 12])))))) (M [O 2 (.mov (Z 0))] .ret)))),res:=[.tmp 2]}
theorem c5:CmpF Tryz.prog 5 a5:=ck Tryz.f5
def a6:AF:=
{nt:=15,body:=(M ([O 2 (.alloc true [.nil 1,.nil 3,.nil 2]),O 3 (.mov (Z 0))]) (.seq (M [V 4 0,O 5 (B .lss 4 1),V 6 5,G 7 6 (.mov (T 0)),G 8 6 (B .gtr 7 24),O 9 (.pick (T 6) (Y true) (T 8))] (K 9 (M [O 10 (L 3 true 2),Q (S 3 2 10),O 3 (.mov (Z 1))] .ret) .skip)) (.seq (.region (some [[],[0],[],[0,1,2],[0,1,2,3],[0,1,2,3,4]]) [V 11 0,O 12 (.ext (.makeslice 1 24 (.agg [.nil 7])) [T 11,T 11]),C 13 22 [],O 14 (.build [.nil 1,.nil 3,.nil 2] [(0,1,(T 12)),(1,2,(T 13))]),Q (S 3 2 14),O 3 (.mov (Z 0))]) .ret))),res:=[.cell 2 3 true,.tmp 3]}
theorem c6:CmpF Tryz.prog 6 a6:=ck Tryz.f6
def a7:AF:=
{nt:=18,body:=(M ([O 3 (.box true (T 1)),O 4 (.mov (.dat (.nil 3))),O 5 (.alloc false [z0])]) (.seq (.sregion [⟨none,none,.defer (U 23) [T 5]⟩]) (M ([V 7 0,C 8 24 [T 7]]) (M ([C 9 25 [],V 6 9]) (.seq (.sregion [O 10 (L 5 true 3),V 11 6,⟨some 12,none,.icall (U 26) [T 10,T 11]⟩]) (.seq (.dregion [[],[0],[],[],[0,1,2,3],[0,1,2,3,4],[0,1,2,3,4,5]] 4 [V 13 0,O 14 (.ext (.libClone 28 3 32) [T 13]),O 15 (L 5 true 3),V 16 6,⟨some 17,none,.icall (U 27) [T 14,T 15,T 16]⟩,V 4 17,Q (.store 1 (T 5) (Z 0))]) .ret)))))),res:=[.tmp 4,.cell 5 1 false]}
theorem c7:CmpF Tryz.prog 7 a7:=chkF_cmpL lib0 (F:=Tryz.f7) (by kernel_rfl) mixed (by kernel_rfl)
def a8:AF:=
{nt:=40,body:=(M ([O 2 (.box true (T 0)),O 3 (.box true (T 1)),O 4 (.alloc true [.nil 1,.nil 3,.nil 2]),O 5 (.alloc false [z0])]) (.seq (M ([O 10 (L 3 true 2),C 11 4 [T 10],V 6 11]) (M [V 12 6,O 13 (B .neq 12 0)] (K 13 (M [O 14 (L 3 true 4),V 15 6,Q (S 3 4 14),Q (S 1 5 15)] .ret) .skip))) (M ([O 17 (.ext .mkmap []),Q (.ext (.insert (.int .i64)) [T 17,Z 1,.dat (.fn (.func 29) [] [])]),Q (.ext (.insert (.int .i64)) [T 17,Z 2,.dat (.fn (.func 30) [] [])]),Q (.ext (.insert (.int .i64)) [T 17,Z 3,.dat (.fn (.func 31) [] [])]),Q (.ext (.insert (.int .i64)) [T 17,Z 4,.dat (.fn (.func 32) [] [])]),Q (.ext (.insert (.int .i64)) [T 17,Z 5,.dat (.fn (.func 33) [] [])]),V 18 17,O 19 (F 0 1 false 3),O 20 (L 1 false 19),O 21 (.ext (.lookup (.int .i64) true (.lit (.nilFunc))) [T 18,T 20]),V 16 21,O 22 (E 16 0),O 23 (E 16 1),V 7 22,V 8 23]) (.seq (M [V 24 8,O 25 (.not (T 24))] (K 25 (M [O 26 (L 3 true 4),Q (S 3 4 26),Q (.store 1 (T 5) (Z 1))] .ret) .skip)) (.seq (.sregion [O 27 (.func (.func 34) [] [T 4,T 5]),⟨none,none,.defer (T 27) []⟩]) (M ([O 28 (L 3 true 2),O 29 (.build [.nil 1,.nil 3,.nil 2] [(0,3,(T 28))]),O 9 (.alloc true [.nil 1,.nil 3,.nil 2]),Q (S 3 9 29)]) (M ([O 30 (F 0 1 false 2),O 31 (L 1 false 30),O 32 (.ext (.libClone 35 1 24) [T 31]),O 33 (F 0 3 true 9),O 34 (F 0 1 false 33),Q (S 1 34 32)]) (.seq (.sregion [V 35 7,O 36 (L 11 true 3),⟨some 37,none,.icall (T 35) [T 9,T 36]⟩]) (M [O 38 (F 0 3 true 9),O 39 (L 3 true 38),Q (S 3 4 39),Q (.store 1 (T 5) (Z 0))] .ret))))))))),res:=[.cell 4 3 true,.cell 5 1 false]}
theorem c8:CmpF Tryz.prog 8 a8:=chkF_cmpL lib0 (F:=Tryz.f8) (by kernel_rfl) mixed (by kernel_rfl)
def a9:AF:=
{nt:=36,body:=(M ([O 2 (.box true (T 0)),O 4 (.alloc false [.nil 3]),O 5 (.alloc false [z0]),O 6 (.mov (Z 0))]) (.seq (M ([O 10 (L 1 true 2),C 11 19 [T 10],O 12 (.not (T 11))]) (K 12 (M [Q (.store 1 (T 4) (.dat (.nil 3))),Q (.store 1 (T 5) (Z 0)),O 6 (.mov (Z 530))] .ret) .skip)) (.seq (M [V 13 1,O 14 (B .lss 13 0),V 15 14,G 16 15 (.mov (T 1)),G 17 15 (B .geq 16 32),O 18 (.pick (T 15) (Y true) (T 17))] (K 18 (M [Q (.store 1 (T 4) (.dat (.nil 3))),Q (.store 1 (T 5) (Z 0)),O 6 (.mov (Z 1))] .ret) .skip)) (.seq (M ([O 19 (L 1 true 2),V 20 1,C 21 36 [T 19,T 20]]) (.block 0 (.range (T 21) [22] (J [O 7 (.alloc true [z0,z0,z0,z0,.lit (.string ⟨#[]⟩)]),Q (S 5 7 22)]) (.block 1 (.seq (M ([O 24 (L 1 false 4),O 25 (L 5 true 7),C 26 7 [T 24,T 25],V 23 26,O 27 (E 23 0),O 28 (E 23 1),V 8 27,V 9 28]) (M [V 29 9,O 30 (B .eql 29 0)] (K 30 (J [V 31 8,Q (S 1 4 31)]) .skip))) (J [O 32 (L 1 false 5),O 33 (B .add 32 1),Q (S 1 5 33)])))))) (.seq (.region (some [[],[],[0],[0,1,2],[0,1,2,3]]) [O 34 (L 1 false 4),O 35 (L 1 false 5),Q (S 1 4 34),Q (S 1 5 35),O 6 (.mov (Z 0))]) .ret))))),res:=[.cell 4 1 false,.cell 5 1 false,.tmp 6]}
theorem c9:CmpF Tryz.prog 9 a9:=ck Tryz.f9
def a10:AF:=
{nt:=26,body:=(M [O 4 (.mov (Y false))] (.seq (M [V 6 0,O 7 (N 6),V 8 1,O 9 (N 8),O 10 (A .neq 7 9)] (K 10 (M [O 4 (.mov (Y false))] .ret) .skip)) (.seq (M [O 5 (.mov (Z 0))] (.block 0 (.loop (.seq (M [V 11 5,V 12 0,O 13 (N 12),O 14 (A .lss 11 13)] (K 14 .skip (.exit 0))) (.seq (.block 1 (.seq (.region (some [[],[],[0,1],[0,1,2],[],[],[4,5],[4,5,6],[0,1,2,3,4,5,6,7]]) [V 17 0,V 18 5,O 19 (I 3 17 18),O 20 (L 3 true 19),V 21 1,V 22 5,O 23 (I 3 21 22),O 24 (L 3 true 23),O 25 (.ext (.eqrow true [.int .i64,.int .i64,.str]) [T 20,T 24])]) (K 25 (M [O 4 (.mov (Y false))] .ret) .skip))) (J [V 15 5,O 16 (B .add 15 1),V 5 16])))))) (M [O 4 (.mov (Y true))] .ret)))),res:=[.tmp 4]}
theorem c10:CmpF Tryz.prog 10 a10:=ck Tryz.f10
def a11:AF:=
{nt:=65,body:=(M ([O 2 (.box true (T 0)),O 4 (.alloc true [.nil 1,.nil 3,.nil 2]),O 5 (.mov (Y false))]) (M [O 12 (F 0 1 false 2),O 13 (L 1 false 12),O 14 (N 13),V 6 14] (.seq (M [O 7 (.mov (Z 0))] (.block 0 (.loop (.seq (M [O 15 (F 1 2 true 2),O 16 (F 0 1 false 15),O 17 (L 1 false 16),O 18 (N 17),O 19 (B .gtr 18 0)] (K 19 .skip (.exit 0))) (.seq (.block 1 (M [O 8 (.mov (Z 0))] (.seq (M [V 22 7,V 23 1,O 24 (N 23),O 25 (A .lss 22 24)] (K 25 (J [V 26 1,V 27 7,O 28 (I 1 26 27),O 29 (L 1 false 28),O 30 (.conv .i64 (T 29)),V 8 30]) .skip)) (M [O 31 (F 1 2 true 2),O 32 (F 0 1 false 31),O 33 (L 1 false 32),O 34 (N 33),V 9 34] (.seq (.region (some [[],[],[],[1,2],[1,2,3],[0,1,2,3,4],[0,1,2,3,4,5],[0,1,2,3,4,5,6],[0,1,2,3,4,5,6],[],[0,1,2,3,4,5,6,7,9],[0,1,2,3,4,5,6,7,8,9,10]]) [O 36 (L 3 true 2),V 37 8,V 38 9,O 39 (A .rem 37 38),O 40 (.build [z0,z0,z0,z0,z0,z0,z0,z0,z0,z0,.lit (.string ⟨#[]⟩)] [(0,1,(Z 3)),(3,1,(T 39))]),C 41 8 [T 36,T 40],V 35 41,O 42 (E 35 0),O 43 (E 35 1),O 10 (.alloc true [.nil 1,.nil 3,.nil 2]),Q (S 3 10 42),V 11 43]) (.seq (M [V 44 11,O 45 (B .neq 44 0),V 46 45,G 47 46 (F 0 1 false 10),G 48 46 (L 1 false 47),G 49 46 (N 48),G 50 46 (.mov (T 6)),G 51 46 (A .neq 49 50),O 52 (.pick (T 46) (Y true) (T 51)),V 53 52,G 54 53 (F 1 2 true 10),G 55 53 (F 0 1 false 54),G 56 53 (L 1 false 55),G 57 53 (N 56),G 58 53 (.mov (T 9)),G 59 53 (B .sub 58 1),G 60 53 (A .neq 57 59),O 61 (.pick (T 53) (Y true) (T 60))] (K 61 (M [O 62 (L 3 true 2),Q (S 3 4 62),O 5 (.mov (Y false))] .ret) .skip)) (J [O 63 (L 3 true 10),Q (S 3 2 63)]))))))) (J [V 20 7,O 21 (B .add 20 1),V 7 21])))))) (M [O 64 (L 3 true 2),Q (S 3 4 64),O 5 (.mov (Y true))] .ret)))),res:=[.cell 4 3 true,.tmp 5]}
theorem c11:CmpF Tryz.prog 11 a11:=ck Tryz.f11
def a12:AF:=
{nt:=9,body:=(M ([O 4 (.mov (.dat (.nil 3))),O 5 (.alloc false [z0])]) (.seq (.sregion [⟨none,none,.defer (U 23) [T 5]⟩]) (.seq (.sregion [V 6 0,V 7 1,⟨some 8,none,.icall (U 37) [T 6,T 7,.dat (.fn (.func 38) [] [])]⟩,V 4 8,Q (.store 1 (T 5) (Z 0))]) .ret))),res:=[.tmp 4,.cell 5 1 false]}
theorem c12:CmpF Tryz.prog 12 a12:=ck Tryz.f12
def a13:AF:=
{nt:=26,body:=(M [O 4 (.mov (Y false))] (.seq (M [V 6 0,O 7 (N 6),V 8 1,O 9 (N 8),O 10 (A .neq 7 9)] (K 10 (M [O 4 (.mov (Y false))] .ret) .skip)) (.seq (M [O 5 (.mov (Z 0))] (.block 0 (.loop (.seq (M [V 11 5,V 12 0,O 13 (N 12),O 14 (A .lss 11 13)] (K 14 .skip (.exit 0))) (.seq (.block 1 (.seq (.region (some [[],[],[0,1],[0,1,2],[],[],[4,5],[4,5,6],[0,1,2,3,4,5,6,7]]) [V 17 0,V 18 5,O 19 (I 7 17 18),O 20 (L 7 true 19),V 21 1,V 22 5,O 23 (I 7 21 22),O 24 (L 7 true 23),O 25 (.ext (.eqrow true [.int .i64,.int .i64,.int .i64,.int .i64,.int .i64,.int .i64,.str]) [T 20,T 24])]) (K 25 (M [O 4 (.mov (Y false))] .ret) .skip))) (J [V 15 5,O 16 (B .add 15 1),V 5 16])))))) (M [O 4 (.mov (Y true))] .ret)))),res:=[.tmp 4]}
theorem c13:CmpF Tryz.prog 13 a13:=ck Tryz.f13
def a14:AF:=
{nt:=66,body:=(M ([O 5 (.box false (T 2)),O 6 (.alloc false [.nil 5]),O 7 (.alloc false [z0])]) (.seq (M ([V 10 0,C 11 39 [T 10],Q (S 1 7 11)]) (M [O 12 (L 1 false 7),O 13 (B .neq 12 0)] (K 13 (.seq (.region (some [[],[],[0,1]]) [O 14 (L 1 false 7),Q (.store 1 (T 6) (.dat (.nil 5))),Q (S 1 7 14)]) .ret) .skip))) (.seq (M ([V 15 1,C 16 39 [T 15],Q (S 1 7 16)]) (M [O 17 (L 1 false 7),O 18 (B .neq 17 0)] (K 18 (.seq (.region (some [[],[],[0,1]]) [O 19 (L 1 false 7),Q (.store 1 (T 6) (.dat (.nil 5))),Q (S 1 7 19)]) .ret) .skip))) (.seq (M [O 20 (L 1 false 5),O 21 (B .lss 20 0),V 22 21,G 23 22 (L 1 false 5),G 24 22 (B .geq 23 1099511627776),O 25 (.pick (T 22) (Y true) (T 24))] (K 25 (M [Q (.store 1 (T 6) (.dat (.nil 5))),Q (.store 1 (T 7) (Z 1))] .ret) .skip)) (M ([O 26 (.func (.func 40) [] [T 6,T 5]),O 8 (.alloc false [.lit (.nilFunc)]),Q (S 1 8 26)]) (.seq (M ([V 27 0,V 28 1,C 29 41 [T 27,T 28]]) (.block 0 (.range (T 29) [30] (J [O 9 (.alloc true [z0,z0,.lit (.string ⟨#[]⟩),z0,z0,.lit (.string ⟨#[]⟩),.lit (.bool false),.lit (.bool false)]),Q (S 8 9 30)]) (.block 1 (.block 2 (M [O 32 (F 7 1 false 9),O 33 (L 1 false 32),O 34 (.not (T 33)),V 31 34] (K 31 (.sregion [O 35 (L 1 false 8),O 36 (F 0 3 true 9),O 37 (L 3 true 36),⟨some 38,none,.icall (T 35) [Z 2,T 37]⟩]) (M [O 40 (F 6 1 false 9),O 41 (L 1 false 40),O 42 (.not (T 41)),V 39 42] (K 39 (.sregion [O 43 (L 1 false 8),O 44 (F 3 3 true 9),O 45 (L 3 true 44),⟨some 46,none,.icall (T 43) [Z 1,T 45]⟩]) (M [O 48 (F 0 3 true 9),O 49 (F 1 1 false 48),O 50 (L 1 false 49),O 51 (F 3 3 true 9),O 52 (F 1 1 false 51),O 53 (L 1 false 52),O 54 (A .neq 50 53),V 47 54] (K 47 (.sregion [O 55 (L 1 false 8),O 56 (F 3 3 true 9),O 57 (L 3 true 56),⟨some 58,none,.icall (T 55) [Z 3,T 57]⟩]) (M ([O 60 (F 0 3 true 9),O 61 (L 3 true 60),O 62 (F 3 3 true 9),O 63 (L 3 true 62),O 64 (.ext (.eqrow true [.int .i64,.int .i64,.str]) [T 61,T 63]),V 59 64]) (K 59 (M [Q (.store 1 (T 6) (.dat (.nil 5))),Q (.store 1 (T 7) (Z 510))] .ret) .skip))))))))))))) (M [O 65 (L 1 false 6),Q (S 1 6 65),Q (.store 1 (T 7) (Z 0))] .ret))))))),res:=[.cell 6 1 false,.cell 7 1 false]}
theorem c14:CmpF Tryz.prog 14 a14:=ck Tryz.f14
def a15:AF:=
{nt:=36,body:=(M [O 4 (.mov (.dat (.nil 3))),O 5 (.mov (Z 0))] (.seq (M ([V 8 0,C 9 39 [T 8],V 5 9]) (M [V 10 5,O 11 (B .neq 10 0)] (K 11 (M [V 12 5,O 4 (.mov (.dat (.nil 3))),V 5 12] .ret) .skip))) (.seq (M [V 13 1,O 14 (N 13),O 15 (B .gtr 14 4096)] (K 15 (M [O 4 (.mov (.dat (.nil 3))),O 5 (.mov (Z 2))] .ret) .skip)) (M [V 16 0,V 4 16] (.seq .skip (.seq (M [V 17 1,O 18 (N 17),O 19 (.mov (Z 0))] (.block 0 (.loop (M [O 20 (A .lss 19 18)] (.seq (K 20 .skip (.exit 0)) (.seq (.block 1 (M ([O 21 (I 5 17 19),O 22 (L 5 true 21),O 7 (.alloc true [z0,z0,z0,z0,.lit (.string ⟨#[]⟩)]),Q (S 5 7 22)]) (M ([V 24 4,O 25 (L 5 true 7),C 26 7 [T 24,T 25],V 23 26,O 27 (E 23 0),O 28 (E 23 1),V 4 27,V 5 28]) (M [V 29 5,O 30 (B .neq 29 0)] (K 30 (.exit 0) .skip))))) (J [O 31 (B .add 19 1),V 19 31]))))))) (.seq (M [V 32 5,O 33 (B .neq 32 0)] (K 33 (M [V 34 5,O 4 (.mov (.dat (.nil 3))),V 5 34] .ret) .skip)) (M [V 35 4,V 4 35,O 5 (.mov (Z 0))] .ret)))))))),res:=[.tmp 4,.tmp 5]}
theorem c15:CmpF Tryz.prog 15 a15:=ck Tryz.f15
def a16:AF:=
{nt:=12,body:=(M ([O 4 (.alloc false [z0]),O 5 (.alloc false [z0])]) (.seq (.sregion [O 6 (.func (.func 42) [] [T 5,T 4]),⟨none,none,.defer (T 6) []⟩]) (.seq (.sregion [⟨none,none,.defer (U 23) [T 5]⟩]) (.seq (.sregion [V 7 0,V 8 1,O 9 (.func (.func 43) [] [T 4]),⟨some 10,none,.icall (U 37) [T 7,T 8,T 9]⟩]) (M [O 11 (L 1 false 4),Q (S 1 4 11),Q (.store 1 (T 5) (Z 0))] .ret))))),res:=[.cell 4 1 false,.cell 5 1 false]}
theorem c16:CmpF Tryz.prog 16 a16:=ck Tryz.f16
def a17:AF:=
{nt:=114,body:=(M [O 9 (.box true (T 4)),O 10 (.mov (Y false))] (.seq (M ([V 25 2,C 26 44 [T 25],O 27 (B .neq 26 0),V 28 27,G 29 28 (.mov (T 3)),G 30 28 (B .lss 29 0),O 31 (.pick (T 28) (Y true) (T 30)),V 32 31,G 33 32 (.mov (T 3)),G 34 32 (B .geq 33 1099511627776),O 35 (.pick (T 32) (Y true) (T 34))]) (K 35 (M [O 10 (.mov (Y true))] .ret) .skip)) (.seq (M [V 36 2,O 37 (N 36),O 38 (.mov (Z 0))] (.block 0 (.loop (M [O 39 (A .lss 38 37)] (.seq (K 39 .skip (.exit 0)) (.seq (.block 1 (M ([O 40 (I 4 36 38),O 41 (L 4 true 40),O 12 (.alloc true [z0,z0,z0,z0]),Q (S 4 12 41)]) (M ([V 43 2,O 44 (F 1 1 false 12),O 45 (L 1 false 44),V 46 3,C 47 45 [T 43,T 45,T 46],V 42 47,O 48 (E 42 0),O 49 (E 42 1),O 50 (E 42 2),V 13 48,V 14 49,V 15 50]) (.seq (M [V 51 15,O 52 (B .neq 51 0)] (K 52 (M [O 10 (.mov (Y false))] .ret) .skip)) (.seq (M [V 53 14,O 54 (.not (T 53)),V 55 54,G 56 55 (.mov (T 13)),G 57 55 (B .gtr 56 1),O 58 (.pick (T 55) (Y true) (T 57))] (K 58 (.exit 1) .skip)) (M ([V 59 0,V 60 1,O 61 (.build [.nil 5,.nil 5] [(0,1,(T 59)),(1,1,(T 60))]),V 62 13,O 63 (.ext (.idxV 1 false 2) [T 61,T 62]),V 16 63]) (M ([V 65 16,V 66 3,C 67 12 [T 65,T 66],V 64 67,O 68 (E 64 0),O 69 (E 64 1),V 17 68,V 18 69]) (M [O 19 (.mov (.dat (.nil 7)))] (.seq (M [O 70 (F 0 1 false 9),O 71 (L 1 false 70),O 72 (N 71),O 73 (.mov (Z 0))] (.block 2 (.loop (M [O 74 (A .lss 73 72)] (.seq (K 74 .skip (.exit 2)) (.seq (.block 3 (M ([O 75 (I 7 71 73),O 76 (L 7 true 75),O 21 (.alloc true [z0,z0,z0,z0,z0,z0,.lit (.string ⟨#[]⟩)]),Q (S 7 21 76)]) (M [O 77 (F 0 1 false 21),O 78 (L 1 false 77),V 79 13,O 80 (A .eql 78 79),V 81 80,H 82 81 (F 2 5 true 21),H 83 81 (F 0 1 false 82),H 84 81 (L 1 false 83),H 85 81 (.mov (T 3)),H 86 81 (A .leq 84 85),O 87 (.pick (T 81) (T 86) (Y false))] (K 87 (J [V 88 19,O 89 (L 7 true 21),O 90 (.mkslice 7 [T 89]),O 91 (.append 7 64 (T 88) (T 90)),V 19 91]) .skip)))) (J [O 92 (B .add 73 1),V 73 92]))))))) (M ([V 94 19,O 95 (.build [.nil 7] [(0,1,(T 94))]),V 96 13,C 97 9 [T 95,T 96],V 93 97,O 98 (E 93 0),O 99 (E 93 1),O 100 (E 93 2),V 22 98,V 23 99,V 24 100]) (M ([V 101 18,O 102 (B .neq 101 0),V 103 102,G 104 103 (.mov (T 24)),G 105 103 (B .neq 104 0),O 106 (.pick (T 103) (Y true) (T 105)),V 107 106,G 108 107 (.mov (T 22)),G 109 107 (.mov (T 17)),⟨some 110,some (107,false),.call (U 10) [T 108,T 109]⟩,G 111 107 (.not (T 110)),O 112 (.pick (T 107) (Y true) (T 111))]) (K 112 (M [O 10 (.mov (Y false))] .ret) .skip)))))))))))) (J [O 113 (B .add 38 1),V 38 113]))))))) (M [O 10 (.mov (Y true))] .ret)))),res:=[.tmp 10]}
theorem c17:CmpF Tryz.prog 17 a17:=ck Tryz.f17
def a18:AF:=
{nt:=41,body:=(M [O 1 (.box true (T 0)),O 2 (.mov (Z 0))] (.seq (M ([O 5 (F 0 1 false 1),O 6 (L 1 false 5),O 7 (N 6),O 8 (B .gtr 7 4096),V 9 8,G 10 9 (F 0 1 false 1),G 11 9 (L 1 false 10),⟨some 12,some (9,false),.call (U 46) [T 11,.dat (.fn (.func 47) [] [])]⟩,O 13 (.pick (T 9) (Y true) (T 12))]) (K 13 (M [O 2 (.mov (Z 60))] .ret) .skip)) (.seq (M [O 14 (F 1 1 false 1),O 15 (L 1 false 14),O 16 (N 15),O 17 (.mov (Z 0))] (.block 0 (.loop (M [O 18 (A .lss 17 16)] (.seq (K 18 .skip (.exit 0)) (.seq (.block 1 (M ([V 19 17,O 20 (I 2 15 17),O 21 (L 2 true 20),O 4 (.alloc true [z0,z0]),V 3 19,Q (S 2 4 21)]) (.seq (.region (some [[],[0],[0,1],[0,1,2],[0,1,2,3],[0,1,2,3,4],[0,1,2,3,4,5],[0,1,2,3,4,5,6],[0,1,2,3,4,5,6,7],[0,1,2,3,4,5,6],[0,1,2,3,4,5,6,9],[0,1,2,3,4,5,6,7,8,9,10],[0,1,2,3,4,5,6,7,8,9,10,11],[0,1,2,3,4,5,6],[0,1,2,3,4,5,6,7,8,9,10,11,12,13],[0,1,2,3,4,5,6,7,8,9,10,11,12,13,14],[0,1,2,3,4,5,6,7,8,9,10,11,12,13,14,15],[0,1,2,3,4,5,6,7,8,9,10,11,12,13,14,15,16]]) [O 22 (L 2 true 4),C 23 49 [T 22],O 24 (.not (T 23)),V 25 24,G 26 25 (.mov (T 3)),G 27 25 (B .gtr 26 0),G 28 25 (.mov (T 27)),H 29 28 (F 1 1 false 1),H 30 28 (L 1 false 29),H 31 28 (.mov (T 3)),H 32 28 (B .sub 31 1),H 33 28 (I 2 30 32),H 34 28 (.ext (.sliceA 2 1) [T 33]),H 35 28 (.ext (.sliceA 2 1) [T 4]),⟨some 36,some (28,true),.call (U 50) [T 34,T 35]⟩,H 37 28 (B .geq 36 0),G 38 25 (.pick (T 28) (T 37) (Y false)),O 39 (.pick (T 25) (Y true) (T 38))]) (K 39 (M [O 2 (.mov (Z 60))] .ret) .skip)))) (J [O 40 (B .add 17 1),V 17 40]))))))) (M [O 2 (.mov (Z 0))] .ret)))),res:=[.tmp 2]}
theorem c18:CmpF Tryz.prog 18 a18:=ck Tryz.f18
def a19:AF:=
{nt:=36,body:=(M [O 1 (.box true (T 0)),O 2 (.mov (Y false))] (.seq (M [O 5 (F 0 1 false 1),O 6 (L 1 false 5),O 7 (N 6),O 8 (.mov (Z 0))] (.block 0 (.loop (M [O 9 (A .lss 8 7)] (.seq (K 9 .skip (.exit 0)) (.seq (.block 1 (M ([V 10 8,O 11 (I 7 6 8),O 12 (L 7 true 11),O 4 (.alloc true [z0,z0,z0,z0,z0,z0,.lit (.string ⟨#[]⟩)]),V 3 10,Q (S 7 4 12)]) (.seq (.region (some [[],[0],[0,1],[0,1,2],[0,1,2,3],[0,1,2,3,4],[0,1,2,3,4,5],[0,1,2,3,4,5,6],[0,1,2,3,4,5,6,7],[0,1,2,3,4,5,6],[0,1,2,3,4,5,6,9],[0,1,2,3,4,5,6,7,8,9,10],[0,1,2,3,4,5,6,7,8,9,10,11],[0,1,2,3,4,5,6],[0,1,2,3,4,5,6,7,8,9,10,11,12,13],[0,1,2,3,4,5,6,7,8,9,10,11,12,13,14],[0,1,2,3,4,5,6,7,8,9,10,11,12,13,14,15],[0,1,2,3,4,5,6,7,8,9,10,11,12,13,14,15,16]]) [O 13 (L 7 true 4),C 14 51 [T 13],O 15 (.not (T 14)),V 16 15,G 17 16 (.mov (T 3)),G 18 16 (B .gtr 17 0),G 19 16 (.mov (T 18)),H 20 19 (F 0 1 false 1),H 21 19 (L 1 false 20),H 22 19 (.mov (T 3)),H 23 19 (B .sub 22 1),H 24 19 (I 7 21 23),H 25 19 (L 7 true 24),H 26 19 (L 7 true 4),⟨some 27,some (19,true),.call (U 52) [T 25,T 26]⟩,H 28 19 (B .geq 27 0),G 29 16 (.pick (T 19) (T 28) (Y false)),O 30 (.pick (T 16) (Y true) (T 29))]) (K 30 (M [O 2 (.mov (Y false))] .ret) .skip)))) (J [O 31 (B .add 8 1),V 8 31]))))))) (M [O 32 (F 0 1 false 1),O 33 (L 1 false 32),O 34 (N 33),O 35 (B .leq 34 4096),V 2 35] .ret))),res:=[.tmp 2]}
theorem c19:CmpF Tryz.prog 19 a19:=ck Tryz.f19
def a20:AF:=
{nt:=70,body:=(M ([O 2 (.alloc true [z0,z0,z0,z0,z0,z0,.lit (.string ⟨#[]⟩)]),O 3 (.mov (Y false))]) (M ([V 10 0,C 11 53 [T 10],V 9 11,O 12 (E 9 0),O 13 (E 9 1),O 4 (.alloc true [z0,z0,.lit (.string ⟨#[]⟩),.nil 4]),Q (S 4 4 12),V 5 13]) (.seq (.sregion [⟨some 14,none,.icall (U 54) [T 2]⟩,O 6 (.alloc true [.lit (.pointer none),.lit (.pointer none),.lit (.pointer none),.lit (.pointer none),.lit (.pointer none),.lit (.pointer none)]),Q (S 6 6 14)]) (.seq (M [V 15 5,O 16 (B .neq 15 0),V 17 16,G 18 17 (F 0 1 false 4),G 19 17 (L 1 false 18),G 20 17 (B .neq 19 3),O 21 (.pick (T 17) (Y true) (T 20)),V 22 21,G 23 22 (F 3 1 false 4),G 24 22 (L 1 false 23),G 25 22 (N 24),G 26 22 (B .neq 25 7),O 27 (.pick (T 22) (Y true) (T 26)),V 28 27,G 29 28 (F 3 1 false 4),G 30 28 (L 1 false 29),G 31 28 (.index 4 (T 30) (Z 6)),G 32 28 (F 0 1 false 31),G 33 28 (L 1 false 32),G 34 28 (B .neq 33 2),O 35 (.pick (T 28) (Y true) (T 34))] (K 35 (M [O 36 (L 7 true 2),Q (S 7 2 36),O 3 (.mov (Y false))] .ret) .skip)) (.seq (M [O 37 (L 6 true 6),O 38 (.mov (Z 0))] (.block 0 (.loop (M [O 39 (B .lss 38 6)] (.seq (K 39 .skip (.exit 0)) (.seq (.block 1 (M ([V 40 38,O 41 (.ext (.idxV 1 false 6) [T 37,T 38]),V 7 40,V 8 41]) (.seq (M [O 42 (F 3 1 false 4),O 43 (L 1 false 42),V 44 7,O 45 (I 4 43 44),O 46 (F 0 1 false 45),O 47 (L 1 false 46),O 48 (B .neq 47 1)] (K 48 (M [O 49 (L 7 true 2),Q (S 7 2 49),O 3 (.mov (Y false))] .ret) .skip)) (J [V 50 8,O 51 (F 3 1 false 4),O 52 (L 1 false 51),V 53 7,O 54 (I 4 52 53),O 55 (F 1 1 false 54),O 56 (L 1 false 55),O 57 (.ext .nilChk [T 50]),Q (S 1 57 56)])))) (J [O 58 (B .add 38 1),V 38 58]))))))) (M [O 59 (F 3 1 false 4),O 60 (L 1 false 59),O 61 (.index 4 (T 60) (Z 6)),O 62 (F 2 1 false 61),O 63 (L 1 false 62),O 64 (F 2 5 true 2),O 65 (F 2 3 true 64),O 66 (F 2 1 false 65),Q (S 1 66 63)] (.seq (.region (some [[],[],[1],[0,1,2],[0,1,2,3]]) [O 67 (L 7 true 2),O 68 (L 7 true 2),C 69 51 [T 68],Q (S 7 2 67),V 3 69]) .ret))))))),res:=[.cell 2 7 true,.tmp 3]}
theorem c20:CmpF Tryz.prog 20 a20:=ck Tryz.f20
def a21:AF:=
{nt:=21,body:=(M [O 1 (.box true (T 0)),O 2 (.mov (Y false))] (M ([O 3 (F 0 1 false 1),O 4 (L 1 false 3),C 5 55 [T 4],V 6 5,H 7 6 (F 1 1 false 1),H 8 6 (L 1 false 7),H 9 6 (B .geq 8 1),O 10 (.pick (T 6) (T 9) (Y false)),V 11 10,H 12 11 (F 1 1 false 1),H 13 11 (L 1 false 12),H 14 11 (B .leq 13 3),O 15 (.pick (T 11) (T 14) (Y false)),V 16 15,H 17 16 (F 2 3 true 1),H 18 16 (L 3 true 17),⟨some 19,some (16,true),.call (U 56) [T 18]⟩,O 20 (.pick (T 16) (T 19) (Y false)),V 2 20]) .ret)),res:=[.tmp 2]}
theorem c21:CmpF Tryz.prog 21 a21:=ck Tryz.f21
def a22:AF:=
{nt:=2,body:=(M ([O 0 (.alloc true [.nil 3,.nil 2])]) (M [O 1 (L 2 true 0),Q (S 2 0 1)] .ret)),res:=[.cell 0 2 true]}
theorem c22:CmpF Tryz.prog 22 a22:=ck Tryz.f22
def a23:AR where
 nt:=19
 ta:=5
 tb:=2
 rest:=(.seq (.region none [
   ⟨(some 6),none,(.op (.mov (.tmp 2)))⟩,
   ⟨(some 7),none,(.op (.ext (.isNil true) [(.tmp 6)]))⟩])
  (.cond (.tmp 7)
   (.seq (.region none [
    ⟨(some 9),none,(.op (.mov (.tmp 2)))⟩,
    ⟨(some 10),none,(.op (.ext (.tassert 25 (.lit (.int .i64 0))) [(.tmp 9)]))⟩,
    ⟨(some 8),none,(.op (.mov (.tmp 10)))⟩,
    ⟨(some 11),none,(.op (.extract (.tmp 8) 0))⟩,
    ⟨(some 12),none,(.op (.extract (.tmp 8) 1))⟩,
    ⟨(some 3),none,(.op (.mov (.tmp 11)))⟩,
    ⟨(some 4),none,(.op (.mov (.tmp 12)))⟩])
   (.seq (.seq (.region none [
    ⟨(some 13),none,(.op (.mov (.tmp 4)))⟩,
    ⟨(some 14),none,(.op (.not (.tmp 13)))⟩])
   (.cond (.tmp 14)
    (.sregion [
     ⟨(some 15),none,(.op (.mov (.tmp 2)))⟩,
     ⟨none,none,(.panic (.tmp 15))⟩])
    .skip))
   (.region none [
    ⟨(some 16),none,(.op (.mov (.tmp 0)))⟩,
    ⟨(some 17),none,(.op (.mov (.tmp 3)))⟩,
    ⟨(some 18),none,(.op (.ext .nilChk [(.tmp 16)]))⟩,
    ⟨none,none,(.op (.store 1 (.tmp 18) (.tmp 17)))⟩])))
   .skip))
 res:=[]
theorem c23:CmpRF Tryz.prog 23 a23:=chkRF_cmp (F:=Tryz.f23) (by kernel_rfl) mixed (by kernel_rfl)
def a24:AF:=
{nt:=27,body:=(M ([V 5 0,O 6 (N 5),O 7 (B .leq 6 1024),C 8 57 [T 7,Z 2]]) (M [O 2 (.mov (Z (-1)))] (M [V 9 0,O 10 (N 9),O 11 (.mov (Z 0))] (.block 0 (.loop (M [O 12 (A .lss 11 10)] (.seq (K 12 .skip (.exit 0)) (.seq (.block 1 (M ([O 13 (I 3 9 11),O 14 (L 3 true 13),O 4 (.alloc true [z0,z0,.lit (.string ⟨#[]⟩)]),Q (S 3 4 14)]) (M ([O 15 (L 3 true 4),C 16 58 [T 15],V 17 16,H 18 17 (F 0 1 false 4),H 19 17 (L 1 false 18),H 20 17 (.mov (T 2)),H 21 17 (A .gtr 19 20),O 22 (.pick (T 17) (T 21) (Y false)),C 23 57 [T 22,Z 490]]) (J [O 24 (F 0 1 false 4),O 25 (L 1 false 24),V 2 25])))) (J [O 26 (B .add 11 1),V 11 26]))))))))),res:=[]}
theorem c24:CmpF Tryz.prog 24 a24:=ck Tryz.f24
def a25:AF:=
{nt:=6,body:=(M [O 0 (.mov (.dat (.lit (.map none))))] (M ([O 1 (.ext .mkmap []),O 2 (.build [.lit (.nilFunc),.lit (.nilFunc)] [(0,1,(U 59)),(1,1,(U 60))]),Q (.ext (.insert (.int .i64)) [T 1,Z 1,T 2]),O 3 (.build [.lit (.nilFunc),.lit (.nilFunc)] [(0,1,(U 62)),(1,1,(U 63))]),Q (.ext (.insert (.int .i64)) [T 1,Z 2,T 3]),O 4 (.build [.lit (.nilFunc),.lit (.nilFunc)] [(0,1,(U 65)),(1,1,(U 66))]),Q (.ext (.insert (.int .i64)) [T 1,Z 3,T 4]),V 5 1,V 0 5]) .ret)),res:=[.tmp 0]}
theorem c25:CmpF Tryz.prog 25 a25:=ck Tryz.f25
def a26:AF:=
{nt:=25,body:=(M [O 2 (.box true (T 0))] (M ([V 7 1,O 8 (F 1 1 false 2),O 9 (L 1 false 8),O 10 (.ext (.lookup (.int .i64) true (.agg [.lit (.nilFunc),.lit (.nilFunc)])) [T 7,T 9]),V 6 10,O 11 (E 6 0),O 12 (E 6 1),O 4 (.alloc true [.lit (.nilFunc),.lit (.nilFunc)]),Q (S 2 4 11),V 5 12]) (J [V 13 5,V 14 13,H 15 14 (F 0 1 false 2),H 16 14 (L 1 false 15),⟨some 17,some (14,true),.call (U 67) [T 16]⟩,O 18 (.pick (T 14) (T 17) (Y false)),V 19 18,H 20 19 (F 2 3 true 2),H 21 19 (L 3 true 20),⟨some 22,some (19,true),.call (U 58) [T 21]⟩,O 23 (.pick (T 19) (T 22) (Y false)),C 24 57 [T 23,Z 490]]))),res:=[]}
theorem c26:CmpF Tryz.prog 26 a26:=ck Tryz.f26
def a27:AF:=
{nt:=46,body:=(M [O 4 (.box true (T 1)),O 6 (.mov (.dat (.nil 3)))] (M ([V 11 2,O 12 (F 1 1 false 4),O 13 (L 1 false 12),O 14 (.ext (.lookup (.int .i64) false (.agg [.lit (.nilFunc),.lit (.nilFunc)])) [T 11,T 13]),O 7 (.alloc true [.lit (.nilFunc),.lit (.nilFunc)]),Q (S 2 7 14)]) (M ([V 16 0,O 17 (.build [] []),O 18 (F 2 3 true 4),O 19 (F 0 1 false 18),O 20 (L 1 false 19),O 21 (.func (.func 69) [T 20] []),C 22 68 [T 16,T 17,T 21],V 15 22,O 23 (E 15 0),O 24 (E 15 1),V 8 23,V 9 24]) (.seq (.sregion [O 25 (F 0 1 false 7),O 26 (L 1 false 25),V 27 0,V 28 8,V 29 9,O 30 (F 2 3 true 4),O 31 (L 3 true 30),⟨some 32,none,.icall (T 26) [T 27,T 28,T 29,T 31]⟩,C 33 57 [T 32,Z 490]]) (.seq (.sregion [O 34 (F 1 1 false 7),O 35 (L 1 false 34),V 36 0,V 37 8,O 38 (F 2 3 true 4),O 39 (L 3 true 38),⟨some 40,none,.icall (T 35) [T 36,T 37,T 39]⟩,V 10 40]) (M ([V 41 10,O 42 (.ext .lenB [T 41]),O 43 (B .leq 42 1024),C 44 57 [T 43,Z 2]]) (M [V 45 10,V 6 45] .ret))))))),res:=[.tmp 6]}
theorem c27:CmpF Tryz.prog 27 a27:=ck Tryz.f27
def a29:AF:=
{nt:=21,body:=(M [O 2 (.box false (T 0)),O 3 (.box true (T 1))] (.seq (.sregion [O 4 (L 1 false 2),O 5 (F 1 1 false 3),O 6 (L 1 false 5),⟨some 7,none,.icall (U 70) [T 4,T 6]⟩]) (M ([O 8 (F 4 7 true 3),O 9 (L 7 true 8),C 10 51 [T 9],C 11 71 [T 10,Z 530]]) (.seq (.sregion [O 12 (L 1 false 2),O 13 (F 1 1 false 3),O 14 (L 1 false 13),O 15 (F 4 7 true 3),O 16 (L 7 true 15),⟨some 17,none,.icall (U 72) [T 12,T 14,T 16]⟩]) (.sregion [O 18 (L 1 false 2),O 19 (.func (.func 74) [] [T 2,T 3]),⟨some 20,none,.icall (U 73) [T 18,T 19]⟩]))))),res:=[]}
theorem c29:CmpF Tryz.prog 29 a29:=ck Tryz.f29
def a30:AF:=
{nt:=21,body:=(M [O 2 (.box false (T 0)),O 3 (.box true (T 1))] (.seq (.sregion [O 4 (L 1 false 2),O 5 (F 1 1 false 3),O 6 (L 1 false 5),⟨some 7,none,.icall (U 70) [T 4,T 6]⟩]) (.seq (.sregion [O 8 (L 1 false 2),O 9 (F 2 1 false 3),O 10 (L 1 false 9),⟨some 11,none,.icall (U 70) [T 8,T 10]⟩]) (M ([O 12 (F 1 1 false 3),O 13 (L 1 false 12),O 14 (F 2 1 false 3),O 15 (L 1 false 14),O 16 (A .neq 13 15),C 17 71 [T 16,Z 1]]) (.sregion [O 18 (L 1 false 2),O 19 (.func (.func 76) [] [T 2,T 3]),⟨some 20,none,.icall (U 73) [T 18,T 19]⟩]))))),res:=[]}
theorem c30:CmpF Tryz.prog 30 a30:=ck Tryz.f30
def a31:AF:=
{nt:=46,body:=(M [O 3 (.box true (T 1))] (.seq (.region (some [[],[0],[0,1],[0,1,2],[0,1,2,3],[],[5],[0,1,2,3,4,5,6],[0,1,2,3,4,5,6,7],[0,1,2,3,4,5,6,7,8],[0,1,2,3,4,5,6,7,8],[0,1,2,3,4,5,6,7,8],[],[],[0,1,2,3,4,5,6,7,8,9,12,13],[0,1,2,3,4,5,6,7,8,9,10,12,13,14],[0,1,2,3,4,5,6,7,8,9,10,11,12,13,14,15]]) [V 10 0,O 11 (.ext .nilChk [T 10]),O 12 (F 0 3 true 11),O 13 (F 1 2 true 12),O 14 (L 2 true 13),O 15 (F 3 1 false 3),O 16 (L 1 false 15),C 17 77 [T 14,T 16],V 9 17,O 18 (E 9 0),O 19 (E 9 1),O 20 (E 9 2),O 4 (.alloc true [z0,z0,.nil 1]),O 5 (.alloc true [.nil 3,.nil 2]),Q (S 3 4 18),Q (S 2 5 19),V 6 20]) (M ([V 21 6,O 22 (B .eql 21 0),V 23 6,C 24 71 [T 22,T 23]]) (M ([V 25 0,O 26 (L 2 true 5),O 27 (.ext .nilChk [T 25]),O 28 (F 0 3 true 27),O 29 (F 1 2 true 28),Q (S 2 29 26)]) (M [O 30 (F 0 1 false 4),O 31 (L 1 false 30),O 32 (F 1 1 false 4),O 33 (L 1 false 32),O 34 (A .neq 31 33)] (K 34 (M ([O 36 (F 2 1 false 4),O 37 (L 1 false 36),C 38 20 [T 37],V 35 38,O 39 (E 35 0),O 40 (E 35 1),O 7 (.alloc true [z0,z0,z0,z0,z0,z0,.lit (.string ⟨#[]⟩)]),Q (S 7 7 39),V 8 40]) (.sregion [V 41 0,O 42 (F 1 1 false 4),O 43 (L 1 false 42),O 44 (L 7 true 7),⟨some 45,none,.icall (U 72) [T 41,T 43,T 44]⟩])) .skip)))))),res:=[]}
theorem c31:CmpF Tryz.prog 31 a31:=ck Tryz.f31
def a32:AF:=
{nt:=26,body:=(M [O 3 (.box true (T 1))] (.seq (.region (some [[],[0],[0,1],[0,1,2],[0,1,2,3],[],[5],[0,1,2,3,4,5,6],[0,1,2,3,4,5,6,7],[0,1,2,3,4,5,6,7,8],[0,1,2,3,4,5,6,7,8],[],[0,1,2,3,4,5,6,7,8,9,11],[0,1,2,3,4,5,6,7,8,9,10,11,12]]) [V 7 0,O 8 (.ext .nilChk [T 7]),O 9 (F 0 3 true 8),O 10 (F 1 2 true 9),O 11 (L 2 true 10),O 12 (F 3 1 false 3),O 13 (L 1 false 12),C 14 78 [T 11,T 13],V 6 14,O 15 (E 6 0),O 16 (E 6 1),O 4 (.alloc true [.nil 3,.nil 2]),Q (S 2 4 15),V 5 16]) (M ([V 17 5,O 18 (B .eql 17 0),V 19 5,C 20 71 [T 18,T 19]]) (J [V 21 0,O 22 (L 2 true 4),O 23 (.ext .nilChk [T 21]),O 24 (F 0 3 true 23),O 25 (F 1 2 true 24),Q (S 2 25 22)])))),res:=[]}
theorem c32:CmpF Tryz.prog 32 a32:=ck Tryz.f32
def a33:AF:=
{nt:=26,body:=(M [O 3 (.box true (T 1))] (.seq (.region (some [[],[0],[0,1],[0,1,2],[0,1,2,3],[],[5],[0,1,2,3,4,5,6],[0,1,2,3,4,5,6,7],[0,1,2,3,4,5,6,7,8],[0,1,2,3,4,5,6,7,8],[],[0,1,2,3,4,5,6,7,8,9,11],[0,1,2,3,4,5,6,7,8,9,10,11,12]]) [V 7 0,O 8 (.ext .nilChk [T 7]),O 9 (F 0 3 true 8),O 10 (F 1 2 true 9),O 11 (L 2 true 10),O 12 (F 3 1 false 3),O 13 (L 1 false 12),C 14 79 [T 11,T 13],V 6 14,O 15 (E 6 0),O 16 (E 6 1),O 4 (.alloc true [.nil 3,.nil 2]),Q (S 2 4 15),V 5 16]) (M ([V 17 5,O 18 (B .eql 17 0),V 19 5,C 20 71 [T 18,T 19]]) (J [V 21 0,O 22 (L 2 true 4),O 23 (.ext .nilChk [T 21]),O 24 (F 0 3 true 23),O 25 (F 1 2 true 24),Q (S 2 25 22)])))),res:=[]}
theorem c33:CmpF Tryz.prog 33 a33:=ck Tryz.f33
def a34:AR where
 nt:=13
 ta:=5
 tb:=5
 rest:=(.block 0
   (.seq (.region none [
    ⟨(some 7),none,(.op (.ext (.isNil false) [(.tmp 5)]))⟩])
   (.cond (.tmp 7)
    (.region none [
     ⟨(some 2),none,(.op (.mov (.tmp 5)))⟩])
    (.seq (.region none [
     ⟨(some 8),none,(.op (.ext (.tassert 25 (.lit (.int .i64 0))) [(.tmp 5)]))⟩,
     ⟨(some 9),none,(.op (.extract (.tmp 8) 1))⟩,
     ⟨(some 10),none,(.op (.extract (.tmp 8) 0))⟩])
    (.cond (.tmp 9)
     (.seq (.region none [
      ⟨(some 3),none,(.op (.mov (.tmp 10)))⟩])
     (.region none [
      ⟨(some 11),none,(.op (.build [.nil 1,.nil 3,.nil 2] []))⟩,
      ⟨(some 12),none,(.op (.mov (.tmp 3)))⟩,
      ⟨none,none,(.op (.store 3 (.tmp 0) (.tmp 11)))⟩,
      ⟨none,none,(.op (.store 1 (.tmp 1) (.tmp 12)))⟩]))
     (.seq (.region none [
      ⟨(some 4),none,(.op (.mov (.tmp 5)))⟩])
     (.sregion [
      ⟨(some 6),none,(.op (.mov (.tmp 4)))⟩,
      ⟨none,none,(.panic (.tmp 6))⟩])))))))
 res:=[]
theorem c34:CmpRF1 Tryz.prog 34 a34:=chkRF1_cmp (F:=Tryz.f34) (by kernel_rfl) mixed (by kernel_rfl)
def a36:AF:=
{nt:=6,body:=(M [O 2 (.box true (T 0)),O 3 (.box false (T 1)),O 4 (.mov (.dat (.lit (.nilFunc))))] (M ([O 5 (.func (.func 80) [] [T 2,T 3]),V 4 5]) .ret)),res:=[.tmp 4]}
theorem c36:CmpF Tryz.prog 36 a36:=ck Tryz.f36
def a37:AF:=
{nt:=49,body:=(M ([O 5 (.box false (T 2)),O 6 (.alloc false [.nil 3])]) (M ([V 12 0,O 13 (N 12),O 14 (B .leq 13 4096),C 15 57 [T 14,Z 2]]) (M ([C 16 25 [],O 7 (.alloc false [.lit (.map none)]),Q (S 1 7 16)]) (M [O 8 (.mov (Z 0))] (.seq (M [V 17 0,O 18 (N 17),O 19 (.mov (Z 0))] (.block 0 (.loop (M [O 20 (A .lss 19 18)] (.seq (K 20 .skip (.exit 0)) (.seq (.block 1 (M ([O 21 (I 5 17 19),O 22 (L 5 true 21),O 10 (.alloc true [z0,z0,z0,z0,.lit (.string ⟨#[]⟩)]),Q (S 5 10 22)]) (.seq (.sregion [O 23 (L 5 true 10),O 24 (L 1 false 7),⟨some 25,none,.icall (U 26) [T 23,T 24]⟩]) (M ([O 26 (F 0 1 false 10),O 27 (L 1 false 26),V 28 8,O 29 (A .geq 27 28),C 30 57 [T 29,Z 490]]) (J [O 31 (F 0 1 false 10),O 32 (L 1 false 31),V 8 32]))))) (J [O 33 (B .add 19 1),V 19 33]))))))) (M ([V 34 1,C 35 67 [T 34],C 36 57 [T 35,Z 1]]) (.seq (M ([V 37 0,V 38 1,C 39 81 [T 37,T 38]]) (.block 2 (.range (T 39) [40] (J [O 11 (.alloc true [z0,z0,z0,z0,.lit (.string ⟨#[]⟩)]),Q (S 5 11 40)]) (.block 3 (.seq (.sregion [O 41 (L 1 false 6),O 42 (L 5 true 11),O 43 (L 1 false 7),⟨some 44,none,.icall (U 27) [T 41,T 42,T 43]⟩,Q (S 1 6 44)]) (.sregion [O 45 (L 1 false 5),O 46 (L 5 true 11),⟨some 47,none,.icall (T 45) [T 46]⟩])))))) (M [O 48 (L 1 false 6),Q (S 1 6 48)] .ret)))))))),res:=[.cell 6 1 false]}
theorem c37:CmpF Tryz.prog 37 a37:=ck Tryz.f37
def a38:AF:=
{nt:=2,body:=(J [O 1 (.box true (T 0))]),res:=[]}
theorem c38:CmpF Tryz.prog 38 a38:=ck Tryz.f38
def a39:AF:=
{nt:=5,body:=(M ([O 2 (.alloc false [z0])]) (.seq (.sregion [⟨none,none,.defer (U 23) [T 2]⟩]) (M ([V 3 0,C 4 24 [T 3]]) (M [Q (.store 1 (T 2) (Z 0))] .ret)))),res:=[.cell 2 1 false]}
theorem c39:CmpF Tryz.prog 39 a39:=ck Tryz.f39
def a40:AF:=
{nt:=13,body:=(M [O 5 (.box true (T 1))] (J [O 6 (L 1 false 2),O 7 (L 1 false 3),V 8 0,O 9 (L 3 true 5),O 10 (.build [z0,z0,z0,z0,.lit (.string ⟨#[]⟩)] [(0,1,(T 7)),(1,1,(T 8)),(2,3,(T 9))]),O 11 (.mkslice 5 [T 10]),O 12 (.append 5 48 (T 6) (T 11)),Q (S 1 2 12)])),res:=[]}
theorem c40:CmpF Tryz.prog 40 a40:=ck Tryz.f40
def a41:AF:=
{nt:=6,body:=(M [O 2 (.box false (T 0)),O 3 (.box false (T 1)),O 4 (.mov (.dat (.lit (.nilFunc))))] (M ([O 5 (.func (.func 82) [] [T 2,T 3]),V 4 5]) .ret)),res:=[.tmp 4]}
theorem c41:CmpF Tryz.prog 41 a41:=ck Tryz.f41
def a42:AF:=
{nt:=4,body:=(M [O 2 (L 1 false 0),O 3 (B .neq 2 0)] (K 3 (J [Q (.store 1 (T 1) (Z 0))]) .skip)),res:=[]}
theorem c42:CmpF Tryz.prog 42 a42:=ck Tryz.f42
def a43:AF:=
{nt:=8,body:=(M [O 2 (.box true (T 0))] (M [O 3 (F 1 1 false 2),O 4 (L 1 false 3),O 5 (B .neq 4 1)] (K 5 (J [O 6 (L 1 false 1),O 7 (B .add 6 1),Q (S 1 1 7)]) .skip))),res:=[]}
theorem c43:CmpF Tryz.prog 43 a43:=ck Tryz.f43
def a44:AF:=
{nt:=30,body:=(M [O 2 (.mov (Z 0))] (.seq (M [V 7 0,O 8 (N 7),O 9 (B .gtr 8 4096)] (K 9 (M [O 2 (.mov (Z 2))] .ret) .skip)) (M ([O 10 (.ext .mkmap []),V 3 10,O 4 (.mov (Z 0))]) (.seq (M [V 11 0,O 12 (N 11),O 13 (.mov (Z 0))] (.block 0 (.loop (M [O 14 (A .lss 13 12)] (.seq (K 14 .skip (.exit 0)) (.seq (.block 1 (M ([O 15 (I 4 11 13),O 16 (L 4 true 15),O 6 (.alloc true [z0,z0,z0,z0]),Q (S 4 6 16)]) (.seq (.seq (.sregion [O 17 (F 0 1 false 6),O 18 (L 1 false 17),V 19 4,O 20 (A .lss 18 19),V 21 20,G 22 21 (.mov (T 3)),G 23 21 (L 4 true 6),⟨some 24,some (21,false),.icall (U 89) [T 22,T 23]⟩,G 25 21 (.not (T 24)),O 26 (.pick (T 21) (Y true) (T 25))]) (K 26 (M [O 2 (.mov (Z 520))] .ret) .skip)) (J [O 27 (F 0 1 false 6),O 28 (L 1 false 27),V 4 28])))) (J [O 29 (B .add 13 1),V 13 29]))))))) (M [O 2 (.mov (Z 0))] .ret))))),res:=[.tmp 2]}
theorem c44:CmpF Tryz.prog 44 a44:=ck Tryz.f44
def a45:AF:=
{nt:=32,body:=(M [O 6 (.mov (Z 0)),O 7 (.mov (Y false)),O 8 (.mov (Z 0))] (.seq (M ([V 10 0,C 11 44 [T 10],V 8 11]) (M [V 12 8,O 13 (B .neq 12 0)] (K 13 (M [V 14 8,O 6 (.mov (Z 0)),O 7 (.mov (Y false)),V 8 14] .ret) .skip))) (.seq (M ([V 15 1,C 16 90 [T 15,Z 100000],O 17 (.not (T 16)),V 18 17,G 19 18 (.mov (T 2)),⟨some 20,some (18,false),.call (U 90) [T 19,Z 1099511627776]⟩,G 21 18 (.not (T 20)),O 22 (.pick (T 18) (Y true) (T 21))]) (K 22 (M [O 6 (.mov (Z 0)),O 7 (.mov (Y false)),O 8 (.mov (Z 1))] .ret) .skip)) (.seq (M ([V 23 0,V 24 2,C 25 91 [T 23,T 24],V 26 1,O 27 (.ext (.lookup (.int .i64) false (.agg [.lit (.bool false),z0])) [T 25,T 26]),O 9 (.alloc true [.lit (.bool false),z0]),Q (S 2 9 27)]) (M [O 28 (F 0 1 false 9),O 29 (L 1 false 28)] (K 29 (M [O 30 (F 1 1 false 9),O 31 (L 1 false 30),V 6 31,O 7 (.mov (Y true)),O 8 (.mov (Z 0))] .ret) .skip))) (M [O 6 (.mov (Z 0)),O 7 (.mov (Y false)),O 8 (.mov (Z 0))] .ret))))),res:=[.tmp 6,.tmp 7,.tmp 8]}
theorem c45:CmpF Tryz.prog 45 a45:=ck Tryz.f45
def a46:AF:=
{nt:=9,body:=(M [O 4 (.mov (Y false))] (M ([V 5 0,V 6 1,C 7 92 [T 5,T 6],O 8 (B .geq 7 0),V 4 8]) .ret)),res:=[.tmp 4]}
theorem c46:CmpF Tryz.prog 46 a46:=ck Tryz.f46
def a47:AF:=
{nt:=6,body:=(M [O 1 (.box true (T 0)),O 2 (.mov (Y false))] (M ([O 3 (L 3 true 1),C 4 48 [T 3],O 5 (.not (T 4)),V 2 5]) .ret)),res:=[.tmp 2]}
theorem c47:CmpF Tryz.prog 47 a47:=ck Tryz.f47
def a48:AF:=
{nt:=15,body:=(M [O 1 (.box true (T 0)),O 2 (.mov (Y false))] (M ([O 3 (F 0 1 false 1),O 4 (L 1 false 3),O 5 (F 1 1 false 1),O 6 (L 1 false 5),C 7 93 [T 4,T 6],C 8 49 [T 7],V 9 8,H 10 9 (F 2 1 false 1),H 11 9 (L 1 false 10),H 12 9 (N 11),H 13 9 (B .leq 12 1048576),O 14 (.pick (T 9) (T 13) (Y false)),V 2 14]) .ret)),res:=[.tmp 2]}
theorem c48:CmpF Tryz.prog 48 a48:=ck Tryz.f48
def a49:AF:=
{nt:=18,body:=(M [O 1 (.box true (T 0)),O 2 (.mov (Y false))] (M [O 3 (.indexA 1 false 2 (T 1) (Z 0)),O 4 (L 1 false 3),O 5 (B .geq 4 0),V 6 5,H 7 6 (.indexA 1 false 2 (T 1) (Z 0)),H 8 6 (L 1 false 7),H 9 6 (.indexA 1 false 2 (T 1) (Z 1)),H 10 6 (L 1 false 9),H 11 6 (A .lss 8 10),O 12 (.pick (T 6) (T 11) (Y false)),V 13 12,H 14 13 (.indexA 1 false 2 (T 1) (Z 1)),H 15 13 (L 1 false 14),H 16 13 (B .lss 15 24),O 17 (.pick (T 13) (T 16) (Y false)),V 2 17] .ret)),res:=[.tmp 2]}
theorem c49:CmpF Tryz.prog 49 a49:=ck Tryz.f49
def a50:AF:=
{nt:=36,body:=(M [O 4 (.mov (Z 0))] (.seq (M [V 9 0,O 10 (N 9),O 11 (.mov (Z 0))] (.block 0 (.loop (M [O 12 (A .lss 11 10)] (.seq (K 12 .skip (.exit 0)) (.seq (.block 1 (M [V 13 11,O 14 (I 1 9 11),O 15 (L 1 false 14),V 5 13,V 6 15] (.seq (M [V 16 5,V 17 1,O 18 (N 17),O 19 (A .geq 16 18)] (K 19 (M [O 4 (.mov (Z 1))] .ret) .skip)) (M [V 20 1,V 21 5,O 22 (I 1 20 21),O 23 (L 1 false 22),V 7 23] (M ([V 24 6,V 25 7,C 26 94 [T 24,T 25],V 8 26]) (M [V 27 8,O 28 (B .neq 27 0)] (K 28 (M [V 29 8,V 4 29] .ret) .skip))))))) (J [O 30 (B .add 11 1),V 11 30]))))))) (.seq (M [V 31 0,O 32 (N 31),V 33 1,O 34 (N 33),O 35 (A .lss 32 34)] (K 35 (M [O 4 (.mov (Z (-1)))] .ret) .skip)) (M [O 4 (.mov (Z 0))] .ret)))),res:=[.tmp 4]}
theorem c50:CmpF Tryz.prog 50 a50:=ck Tryz.f50
def a51:AF:=
{nt:=48,body:=(M [O 1 (.box true (T 0)),O 2 (.mov (Y false))] (M ([O 7 (F 2 5 true 1),O 8 (L 5 true 7),O 3 (.alloc true [z0,z0,z0,z0,.lit (.string ⟨#[]⟩)]),Q (S 5 3 8)]) (M [O 9 (F 1 1 false 3),O 10 (L 1 false 9),O 11 (B .geq 10 1),V 12 11,H 13 12 (F 1 1 false 3),H 14 12 (L 1 false 13),H 15 12 (B .leq 14 3),O 16 (.pick (T 12) (T 15) (Y false)),V 4 16] (M [O 17 (F 1 1 false 3),Q (.store 1 (T 17) (Z 1))] (M ([O 19 (L 5 true 3),C 20 7 [.dat (.nil 0),T 19],V 18 20,O 21 (E 18 0),O 22 (E 18 1),V 5 21,V 6 22]) (M [V 23 4,V 24 23,H 25 24 (.mov (T 6)),H 26 24 (B .eql 25 0),O 27 (.pick (T 24) (T 26) (Y false)),V 28 27,H 29 28 (F 0 1 false 1),H 30 28 (L 1 false 29),H 31 28 (B .geq 30 0),O 32 (.pick (T 28) (T 31) (Y false)),V 33 32,H 34 33 (F 0 1 false 1),H 35 33 (L 1 false 34),H 36 33 (B .lss 35 32),O 37 (.pick (T 33) (T 36) (Y false)),V 38 37,H 39 38 (F 1 1 false 1),H 40 38 (L 1 false 39),H 41 38 (B .geq 40 0),O 42 (.pick (T 38) (T 41) (Y false)),V 43 42,H 44 43 (F 1 1 false 1),H 45 43 (L 1 false 44),H 46 43 (B .leq 45 1048576),O 47 (.pick (T 43) (T 46) (Y false)),V 2 47] .ret)))))),res:=[.tmp 2]}
theorem c51:CmpF Tryz.prog 51 a51:=ck Tryz.f51
def a52:AF:=
{nt:=10,body:=(M [O 2 (.box true (T 0)),O 3 (.box true (T 1)),O 4 (.mov (Z 0))] (.seq (.region (some [[],[0],[],[0,1,2],[0,1,2,3],[0,1,2,3,4]]) [O 5 (L 7 true 2),C 6 75 [T 5],O 7 (L 7 true 3),C 8 75 [T 7],C 9 95 [T 6,T 8],V 4 9]) .ret)),res:=[.tmp 4]}
theorem c52:CmpF Tryz.prog 52 a52:=ck Tryz.f52
def a53:AF:=
{nt:=20,body:=(M ([O 2 (.alloc true [z0,z0,.lit (.string ⟨#[]⟩),.nil 4]),O 3 (.alloc false [z0])]) (.seq (.sregion [O 5 (.func (.func 96) [] [T 2,T 3]),⟨none,none,.defer (T 5) []⟩]) (M ([V 6 0,O 7 (.build [.nil 1] [(0,1,(T 6))]),O 8 (.box true (T 7)),V 4 8]) (.seq (.sregion [V 9 4,⟨some 10,none,.icall (U 97) [T 9,Z 0]⟩,Q (S 4 2 10)]) (M ([V 11 4,V 12 4,O 13 (.ext .nilChk [T 12]),O 14 (F 0 1 false 13),O 15 (L 1 false 14),O 16 (N 15),O 17 (B .eql 16 0),C 18 98 [T 11,T 17]]) (M [O 19 (L 4 true 2),Q (S 4 2 19),Q (.store 1 (T 3) (Z 0))] .ret)))))),res:=[.cell 2 4 true,.cell 3 1 false]}
theorem c53:CmpF Tryz.prog 53 a53:=ck Tryz.f53
def a54:AF:=
{nt:=28,body:=(M ([O 2 (.alloc true [.lit (.pointer none),.lit (.pointer none),.lit (.pointer none),.lit (.pointer none),.lit (.pointer none),.lit (.pointer none)])]) (M ([V 4 0,O 5 (.ext .nilChk [T 4]),O 6 (F 2 5 true 5),V 3 6]) (.seq (.region (some [[],[0],[0,1],[],[3],[3,4],[],[6],[6,7],[],[9],[9,10],[],[12],[12,13],[12,13,14],[],[16],[16,17],[16,17,18],[0,1,2,3,4,5,6,7,8,9,10,11,12,13,14,15,16,17,18,19],[0,1,2,3,4,5,6,7,8,9,10,11,12,13,14,15,16,17,18,19,20]]) [V 7 0,O 8 (.ext .nilChk [T 7]),O 9 (F 0 1 false 8),V 10 0,O 11 (.ext .nilChk [T 10]),O 12 (F 1 1 false 11),V 13 3,O 14 (.ext .nilChk [T 13]),O 15 (F 0 1 false 14),V 16 3,O 17 (.ext .nilChk [T 16]),O 18 (F 1 1 false 17),V 19 3,O 20 (.ext .nilChk [T 19]),O 21 (F 2 3 true 20),O 22 (F 0 1 false 21),V 23 3,O 24 (.ext .nilChk [T 23]),O 25 (F 2 3 true 24),O 26 (F 1 1 false 25),O 27 (.build [.lit (.pointer none),.lit (.pointer none),.lit (.pointer none),.lit (.pointer none),.lit (.pointer none),.lit (.pointer none)] [(0,1,(T 9)),(1,1,(T 12)),(2,1,(T 15)),(3,1,(T 18)),(4,1,(T 22)),(5,1,(T 26))]),Q (S 6 2 27)]) .ret))),res:=[.cell 2 6 true]}
theorem c54:CmpF Tryz.prog 54 a54:=ck Tryz.f54
def a55:AF:=
{nt:=9,body:=(M [O 2 (.mov (Y false))] (M [V 3 0,O 4 (B .geq 3 0),V 5 4,H 6 5 (.mov (T 0)),H 7 5 (B .lss 6 1099511627776),O 8 (.pick (T 5) (T 7) (Y false)),V 2 8] .ret)),res:=[.tmp 2]}
theorem c55:CmpF Tryz.prog 55 a55:=ck Tryz.f55
def a56:AF:=
{nt:=16,body:=(M [O 1 (.box true (T 0)),O 2 (.mov (Y false))] (M ([O 3 (F 0 1 false 1),O 4 (L 1 false 3),C 5 99 [T 4],V 6 5,H 7 6 (F 1 1 false 1),H 8 6 (L 1 false 7),⟨some 9,some (6,true),.call (U 99) [T 8]⟩,O 10 (.pick (T 6) (T 9) (Y false)),V 11 10,H 12 11 (F 2 1 false 1),H 13 11 (L 1 false 12),⟨some 14,some (11,true),.call (U 100) [T 13]⟩,O 15 (.pick (T 11) (T 14) (Y false)),V 2 15]) .ret)),res:=[.tmp 2]}
theorem c56:CmpF Tryz.prog 56 a56:=ck Tryz.f56
def a57:AF:=
{nt:=8,body:=(M [V 4 0,O 5 (.not (T 4))] (K 5 (.sregion [V 6 1,O 7 (.ifc 25 (T 6)),⟨none,none,.panic (T 7)⟩]) .skip)),res:=[]}
theorem c57:CmpF Tryz.prog 57 a57:=ck Tryz.f57
def a58:AF:=
{nt:=16,body:=(M [O 1 (.box true (T 0)),O 2 (.mov (Y false))] (M ([O 3 (F 0 1 false 1),O 4 (L 1 false 3),C 5 101 [T 4],V 6 5,H 7 6 (F 1 1 false 1),H 8 6 (L 1 false 7),⟨some 9,some (6,true),.call (U 101) [T 8]⟩,O 10 (.pick (T 6) (T 9) (Y false)),V 11 10,H 12 11 (F 2 1 false 1),H 13 11 (L 1 false 12),⟨some 14,some (11,true),.call (U 102) [T 13]⟩,O 15 (.pick (T 11) (T 14) (Y false)),V 2 15]) .ret)),res:=[.tmp 2]}
theorem c58:CmpF Tryz.prog 58 a58:=ck Tryz.f58
def a59:AF:=
{nt:=11,body:=(M [O 7 (.box true (T 3)),O 8 (.mov (Y false))] (M [V 9 2,O 10 (.not (T 9)),V 8 10] .ret)),res:=[.tmp 8]}
theorem c59:CmpF Tryz.prog 59 a59:=ck Tryz.f59
def a60:AF:=
{nt:=12,body:=(M [O 5 (.box true (T 2)),O 6 (.mov (.dat (.nil 3)))] (M ([V 7 0,V 8 1,O 9 (L 3 true 5),O 10 (.ext (.mkslW 3) [T 9]),O 11 (.ext (.libIns 61 3 32) [T 7,T 8,T 10]),V 6 11]) .ret)),res:=[.tmp 6]}
theorem c60:CmpF Tryz.prog 60 a60:=chkF_cmpL lib0 (F:=Tryz.f60) (by kernel_rfl) mixed (by kernel_rfl)
def aw60:AF where
 nt:=12
 body:=(.seq (.region none [
   ⟨(some 5),none,(.op (.box true (.tmp 2)))⟩,
   ⟨(some 6),none,(.op (.mov (.dat (.nil 3))))⟩])
  (.seq (.region none [
   ⟨(some 7),none,(.op (.mov (.tmp 0)))⟩,
   ⟨(some 8),none,(.op (.mov (.tmp 1)))⟩,
   ⟨(some 9),none,(.op (.load 3 true (.tmp 5)))⟩,
   ⟨(some 10),none,(.op (.ext (.mkslW 3) [(.tmp 9)]))⟩,
   ⟨(some 11),none,(.op (.ext (.libInsW 61 3 32) [(.tmp 7),(.tmp 8),(.tmp 10)]))⟩,
   ⟨(some 6),none,(.op (.mov (.tmp 11)))⟩])
  .ret))
 res:=[.tmp 6]
theorem cw60:CmpF Tryz.prog 60 aw60:=chkF_cmpL lib0 (F:=Tryz.f60) (by kernel_rfl) mixed (by kernel_rfl)
def a62:AF:=
{nt:=18,body:=(M [O 7 (.box true (T 3)),O 8 (.mov (Y false))] (.seq (.region (some [[],[0],[0,1],[0,1],[0,1,2,3],[0,1,2,3,4],[0,1],[0,1,2,3,4,5,6],[0,1,2,3,4,5,6,7],[0,1,2,3,4,5,6,7,8]]) [V 9 2,V 10 9,H 11 10 (.mov (T 0)),H 12 10 (.mov (T 1)),H 13 10 (.ext (.idxB 3) [T 11,T 12]),H 14 10 (L 3 true 13),H 15 10 (L 3 true 7),H 16 10 (.ext (.eqrow false [.int .i64,.int .i64,.str]) [T 14,T 15]),O 17 (.pick (T 10) (T 16) (Y false)),V 8 17]) .ret)),res:=[.tmp 8]}
theorem c62:CmpF Tryz.prog 62 a62:=ck Tryz.f62
def a63:AF:=
{nt:=12,body:=(M [O 5 (.box true (T 2)),O 6 (.mov (.dat (.nil 3)))] (M ([V 7 0,V 8 1,V 9 1,O 10 (B .add 9 1),O 11 (.ext (.libDel 64 3) [T 7,T 8,T 10]),V 6 11]) .ret)),res:=[.tmp 6]}
theorem c63:CmpF Tryz.prog 63 a63:=chkF_cmpL lib0 (F:=Tryz.f63) (by kernel_rfl) mixed (by kernel_rfl)
def aw63:AF where
 nt:=12
 body:=(.seq (.region none [
   ⟨(some 5),none,(.op (.box true (.tmp 2)))⟩,
   ⟨(some 6),none,(.op (.mov (.dat (.nil 3))))⟩])
  (.seq (.region none [
   ⟨(some 7),none,(.op (.mov (.tmp 0)))⟩,
   ⟨(some 8),none,(.op (.mov (.tmp 1)))⟩,
   ⟨(some 9),none,(.op (.mov (.tmp 1)))⟩,
   ⟨(some 10),none,(.op (.arith .add (.tmp 9) (.dat (.lit (.int .i64 1)))))⟩,
   ⟨(some 11),none,(.op (.ext (.libDelW 64 3) [(.tmp 7),(.tmp 8),(.tmp 10)]))⟩,
   ⟨(some 6),none,(.op (.mov (.tmp 11)))⟩])
  .ret))
 res:=[.tmp 6]
theorem cw63:CmpF Tryz.prog 63 aw63:=chkF_cmpL lib0 (F:=Tryz.f63) (by kernel_rfl) mixed (by kernel_rfl)
def a65:AF:=
{nt:=20,body:=(M [O 7 (.box true (T 3)),O 8 (.mov (Y false))] (.seq (.region (some [[],[0],[0,1],[0,1],[0,1,2,3],[0,1,2,3,4],[0,1,2,3,4,5],[0,1],[0,1,7],[0,1,2,3,4,5,6,7,8],[0,1,2,3,4,5,6,7,8,9],[0,1,2,3,4,5,6,7,8,9,10]]) [V 9 2,V 10 9,H 11 10 (.mov (T 0)),H 12 10 (.mov (T 1)),H 13 10 (.ext (.idxB 3) [T 11,T 12]),H 14 10 (F 1 1 false 13),H 15 10 (L 1 false 14),H 16 10 (F 1 1 false 7),H 17 10 (L 1 false 16),H 18 10 (A .neq 15 17),O 19 (.pick (T 10) (T 18) (Y false)),V 8 19]) .ret)),res:=[.tmp 8]}
theorem c65:CmpF Tryz.prog 65 a65:=ck Tryz.f65
def a66:AF:=
{nt:=12,body:=(M [O 5 (.box true (T 2)),O 6 (.mov (.dat (.nil 3)))] (M ([V 7 0,V 8 1,O 9 (L 3 true 5),O 10 (.ext (.idxB 3) [T 7,T 8]),Q (S 3 10 9)]) (M [V 11 0,V 6 11] .ret))),res:=[.tmp 6]}
theorem c66:CmpF Tryz.prog 66 a66:=ck Tryz.f66
def a67:AF:=
{nt:=9,body:=(M [O 2 (.mov (Y false))] (M [V 3 0,O 4 (B .geq 3 0),V 5 4,H 6 5 (.mov (T 0)),H 7 5 (B .lss 6 1099511627776),O 8 (.pick (T 5) (T 7) (Y false)),V 2 8] .ret)),res:=[.tmp 2]}
theorem c67:CmpF Tryz.prog 67 a67:=ck Tryz.f67
def a68:AF:=
{nt:=49,body:=(M [O 4 (.box true (T 1)),O 6 (.mov (Z 0)),O 7 (.mov (Y false))] (M [V 12 0,O 13 (N 12),V 8 13] (M [V 14 8,O 9 (.mov (Z 0)),V 10 14] (.seq (.block 0 (.loop (.seq (M [V 15 9,V 16 10,O 17 (A .lss 15 16)] (K 17 .skip (.exit 0))) (.block 1 (M ([V 18 9,V 19 10,O 20 (A .add 18 19),O 21 (.conv .u64 (T 20)),O 22 (.ext (.shift false) [T 21,.dat (.lit (.int .u64 1))]),O 23 (.conv .i64 (T 22)),V 11 23]) (.seq (.region (some [[],[],[],[1,2],[1,2,3],[],[0,1,2,3,4,5],[0,1,2,3,4,5,6]]) [V 24 2,V 25 0,V 26 11,O 27 (I 3 25 26),O 28 (L 3 true 27),O 29 (L 0 true 4),⟨some 30,none,.call (T 24) [T 28,T 29]⟩,O 31 (B .lss 30 0)]) (K 31 (J [V 32 11,O 33 (B .add 32 1),V 9 33]) (J [V 34 11,V 10 34])))))))) (.seq (.region (some [[],[],[],[1,2],[1,2,3],[1,2,3,4],[1,2,3,4],[1,2,3,4],[1,2,3,4,6,7],[1,2,3,4,6,7,8],[1,2,3,4],[1,2,3,4,5,6,7,8,9,10],[1,2,3,4,5,6,7,8,9,10,11],[1,2,3,4,5,6,7,8,9,10,11,12],[0,1,2,3,4,5,6,7,8,9,10,11],[0,1,2,3,4,5,6,7,8,9,10,11,12,13,14]]) [V 35 9,V 36 9,V 37 8,O 38 (A .lss 36 37),V 39 38,H 40 39 (.mov (T 2)),H 41 39 (.mov (T 0)),H 42 39 (.mov (T 9)),H 43 39 (I 3 41 42),H 44 39 (L 3 true 43),H 45 39 (L 0 true 4),⟨some 46,some (39,true),.call (T 40) [T 44,T 45]⟩,H 47 39 (B .eql 46 0),O 48 (.pick (T 39) (T 47) (Y false)),V 6 35,V 7 48]) .ret))))),res:=[.tmp 6,.tmp 7]}
theorem c68:CmpF Tryz.prog 68 a68:=ck Tryz.f68
def a69:AF:=
{nt:=11,body:=(M [O 4 (.box true (T 1)),O 5 (.box true (T 2)),O 6 (.mov (Z 0))] (M ([O 7 (F 0 1 false 4),O 8 (L 1 false 7),V 9 0,C 10 94 [T 8,T 9],V 6 10]) .ret)),res:=[.tmp 6]}
theorem c69:CmpF Tryz.prog 69 a69:=ck Tryz.f69
def a70:AF:=
{nt:=17,body:=(J [V 4 1,O 5 (B .geq 4 0),V 6 5,H 7 6 (.mov (T 1)),H 8 6 (.mov (T 0)),H 9 6 (.ext .nilChk [T 8]),H 10 6 (F 0 3 true 9),H 11 6 (F 0 1 false 10),H 12 6 (L 1 false 11),H 13 6 (.ext .lenB [T 12]),H 14 6 (A .lss 7 13),O 15 (.pick (T 6) (T 14) (Y false)),C 16 71 [T 15,Z 1]]),res:=[]}
theorem c70:CmpF Tryz.prog 70 a70:=ck Tryz.f70
def a71:AF:=
{nt:=8,body:=(M [V 4 0,O 5 (.not (T 4))] (K 5 (.sregion [V 6 1,O 7 (.ifc 25 (T 6)),⟨none,none,.panic (T 7)⟩]) .skip)),res:=[]}
theorem c71:CmpF Tryz.prog 71 a71:=ck Tryz.f71
def a72:AF:=
{nt:=45,body:=(M [O 5 (.box true (T 2))] (M ([V 9 0,O 10 (.ext .nilChk [T 9]),O 11 (F 0 3 true 10),O 12 (F 0 1 false 11),O 13 (L 1 false 12),V 14 1,O 15 (.ext (.idxB 1) [T 13,T 14]),V 6 15]) (.seq (.region (some [[],[0],[0,1],[0,1,2],[],[0,1,2,3,4],[0,1,2,3,4,5],[0,1,2,3,4,5,6],[0,1,2,3,4,5,6],[0,1,2,3,4,5,6,7],[0,1,2,3,4,5,6,7,8,9]]) [V 17 6,O 18 (.ext .nilChk [T 17]),O 19 (F 0 1 false 18),O 20 (L 1 false 19),O 21 (L 7 true 5),⟨some 22,none,.call (U 105) [T 20,T 21,.dat (.fn (.func 52) [] [])]⟩,V 16 22,O 23 (E 16 0),O 24 (E 16 1),V 7 23,V 8 24]) (.seq (M [V 25 8] (K 25 .ret .skip)) (M ([V 26 6,O 27 (.ext .nilChk [T 26]),O 28 (F 0 1 false 27),O 29 (L 1 false 28),O 30 (N 29),O 31 (B .lss 30 4096),C 32 71 [T 31,Z 2]]) (.region (some [[],[],[1],[1,2],[1,2,3],[1,2,3,4],[],[],[7],[1,2,3,4,5,6,7,8],[0,1,2,3,4,5,6,7,8,9],[0,1,2,3,4,5,6,7,8,9,10],[0,1,2,3,4,5,6,7,8,9,10,11]]) [V 33 6,V 34 6,O 35 (.ext .nilChk [T 34]),O 36 (F 0 1 false 35),O 37 (L 1 false 36),O 38 (.ext (.libClone 107 7 64) [T 37]),V 39 7,O 40 (L 7 true 5),O 41 (.ext (.mkslW 7) [T 40]),O 42 (.ext (.libIns 106 7 64) [T 38,T 39,T 41]),O 43 (.ext .nilChk [T 33]),O 44 (F 0 1 false 43),Q (S 1 44 42)])))))),res:=[]}
theorem c72:CmpF Tryz.prog 72 a72:=chkF_cmpL lib0 (F:=Tryz.f72) (by kernel_rfl) mixed (by kernel_rfl)
def a73:AF:=
{nt:=28,body:=(M [O 2 (.box false (T 0))] (M [V 7 1] (.block 0 (.range (T 7) [8] (J [O 4 (.alloc true [z0,z0,.nil 1]),Q (S 3 4 8)]) (.block 1 (.seq (.region (some [[],[0],[0,1],[0,1,2],[0,1,2,3],[],[0,1,2,3,4,5],[0,1,2,3,4,5,6],[0,1,2,3,4,5,6,7],[0,1,2,3,4,5,6,7],[],[0,1,2,3,4,5,6,7,8,10],[0,1,2,3,4,5,6,7,8,9,10,11]]) [O 10 (L 1 false 2),O 11 (.ext .nilChk [T 10]),O 12 (F 0 3 true 11),O 13 (F 1 2 true 12),O 14 (L 2 true 13),O 15 (L 3 true 4),C 16 108 [T 14,T 15],V 9 16,O 17 (E 9 0),O 18 (E 9 1),O 5 (.alloc true [.nil 3,.nil 2]),Q (S 2 5 17),V 6 18]) (M ([V 19 6,O 20 (B .eql 19 0),V 21 6,C 22 71 [T 20,T 21]]) (J [O 23 (L 1 false 2),O 24 (L 2 true 5),O 25 (.ext .nilChk [T 23]),O 26 (F 0 3 true 25),O 27 (F 1 2 true 26),Q (S 2 27 24)])))))))),res:=[]}
theorem c73:CmpF Tryz.prog 73 a73:=ck Tryz.f73
def a74:AF:=
{nt:=32,body:=(M ([O 5 (L 1 false 1),O 6 (.ext .nilChk [T 5]),O 7 (F 0 3 true 6),O 8 (F 0 1 false 7),O 9 (L 1 false 8),O 10 (.ext .lenB [T 9]),O 11 (.mov (Z 0))]) (.block 0 (.loop (M [O 12 (A .lss 11 10)] (.seq (K 12 .skip (.exit 0)) (.seq (.block 1 (M [V 13 11,V 4 13] (.seq (.dregion [[],[],[1],[0,1,2],[0,1,2,3],[0,1,2,3,4],[0,1,2,3,4],[0,1,2,3,4,6],[0,1,2,3,4],[0,1,2,3,4],[0,1,2,3,4,9],[0,1,2,3,4,9,10],[0,1,2,3,4,9,10,11],[0,1,2,3,4,6,7,8,9,10,11,12],[0,1,2,3,4,5,6,7,8,9,10,11,12,13],[0,1,2,3,4,5,6,7,8,9,10,11,12,13,14],[0,1,2,3,4,5,6,7,8,9,10,11,12,13,14,15]] 14 [V 14 4,O 15 (F 1 1 false 2),O 16 (L 1 false 15),O 17 (A .neq 14 16),V 18 17,H 19 18 (.mov (T 0)),H 20 18 (F 1 1 false 2),H 21 18 (L 1 false 20),H 22 18 (.mov (T 4)),H 23 18 (F 4 7 true 2),H 24 18 (L 7 true 23),⟨some 25,some (18,true),.call (U 75) [T 24]⟩,H 26 18 (.ext .strBytes [T 25]),H 27 18 (.build [z0,z0,.nil 1] [(0,1,(T 21)),(1,1,(T 22)),(2,1,(T 26))]),⟨some 28,some (18,true),.ycall (T 19) [T 27]⟩,H 29 18 (.not (T 28)),O 30 (.pick (T 18) (T 29) (Y false))]) (K 30 .ret .skip)))) (J [O 31 (B .add 11 1),V 11 31]))))))),res:=[]}
theorem c74:CmpF Tryz.prog 74 a74:=ck Tryz.f74
def a75:AF:=
{nt:=36,body:=(M ([O 1 (.box true (T 0)),O 2 (.mov (.dat (.lit (.string ⟨#[]⟩))))]) (M [O 3 (.mov (.dat (.nil 4)))] (.seq (.seq (.sregion [⟨some 8,none,.icall (U 54) [T 1]⟩,O 9 (.mov (Z 0))]) (.block 0 (.loop (M [O 10 (B .lss 9 6)] (.seq (K 10 .skip (.exit 0)) (.seq (.block 1 (M ([O 11 (.ext (.idxV 1 false 6) [T 8,T 9]),V 5 11]) (J [V 12 3,V 13 5,O 14 (.ext .nilChk [T 13]),O 15 (L 1 false 14),O 16 (.build [z0,z0,.lit (.string ⟨#[]⟩),.nil 4] [(0,1,(Z 1)),(1,1,(T 15))]),O 17 (.mkslice 4 [T 16]),O 18 (.append 4 56 (T 12) (T 17)),V 3 18]))) (J [O 19 (B .add 9 1),V 9 19]))))))) (M ([V 20 3,O 21 (F 2 5 true 1),O 22 (F 2 3 true 21),O 23 (F 2 1 false 22),O 24 (L 1 false 23),O 25 (.build [z0,z0,.lit (.string ⟨#[]⟩),.nil 4] [(0,1,(Z 2)),(2,1,(T 24))]),O 26 (.mkslice 4 [T 25]),O 27 (.append 4 56 (T 20) (T 26)),V 3 27]) (M ([V 29 3,O 30 (.build [z0,z0,.lit (.string ⟨#[]⟩),.nil 4] [(0,1,(Z 3)),(3,1,(T 29))]),C 31 109 [T 30],V 28 31,O 32 (E 28 0),O 33 (E 28 1),V 6 32,V 7 33]) (M ([V 34 6,O 35 (.ext .bytesStr [T 34]),V 2 35]) .ret)))))),res:=[.tmp 2]}
theorem c75:CmpF Tryz.prog 75 a75:=ck Tryz.f75
def a76:AF:=
{nt:=33,body:=(.seq (.region (some [[],[0],[0,1],[0,1,2],[0,1,2,3],[],[5],[0,1,2,3,4,5,6],[0,1,2,3,4,5,6,7],[0,1,2,3,4,5,6,7,8],[0,1,2,3,4,5,6,7,8,9],[]]) [O 6 (L 1 false 1),O 7 (.ext .nilChk [T 6]),O 8 (F 0 3 true 7),O 9 (F 0 1 false 8),O 10 (L 1 false 9),O 11 (F 1 1 false 2),O 12 (L 1 false 11),O 13 (.ext (.idxB 1) [T 10,T 12]),O 14 (F 0 1 false 13),O 15 (L 1 false 14),O 16 (N 15),O 17 (.mov (Z 0))]) (.block 0 (.loop (M [O 18 (A .lss 17 16)] (.seq (K 18 .skip (.exit 0)) (.seq (.block 1 (M ([O 19 (I 7 15 17),O 20 (L 7 true 19),O 5 (.alloc true [z0,z0,z0,z0,z0,z0,.lit (.string ⟨#[]⟩)]),Q (S 7 5 20)]) (.seq (.dregion [[],[],[1],[],[3],[],[5],[5,6],[1,2,3,4,5,6,7],[0,1,2,3,4,5,6,7,8],[0,1,2,3,4,5,6,7,8,9]] 9 [V 21 0,O 22 (F 1 1 false 2),O 23 (L 1 false 22),O 24 (F 2 1 false 2),O 25 (L 1 false 24),O 26 (L 7 true 5),C 27 75 [T 26],O 28 (.ext .strBytes [T 27]),O 29 (.build [z0,z0,.nil 1] [(0,1,(T 23)),(1,1,(T 25)),(2,1,(T 28))]),⟨some 30,none,.ycall (T 21) [T 29]⟩,O 31 (.not (T 30))]) (K 31 .ret .skip)))) (J [O 32 (B .add 17 1),V 17 32]))))))),res:=[]}
theorem c76:CmpF Tryz.prog 76 a76:=ck Tryz.f76
def a77:AF:=
{nt:=31,body:=(M ([O 2 (.box true (T 0)),O 4 (.alloc true [z0,z0,.nil 1]),O 5 (.alloc true [.nil 3,.nil 2]),O 6 (.mov (Z 0))]) (.seq (M ([O 8 (L 2 true 2),V 9 1,C 10 110 [T 8,T 9],V 7 10,O 11 (E 7 0),O 12 (E 7 1),Q (S 3 4 11),V 6 12]) (M [V 13 6,O 14 (B .neq 13 0)] (K 14 (.seq (.region (some [[],[],[],[0],[0,1,3],[0,1,2,3,4]]) [O 15 (L 3 true 4),O 16 (L 2 true 5),V 17 6,Q (S 3 4 15),Q (S 2 5 16),V 6 17]) .ret) .skip))) (.seq (.seq (.region (some [[],[0],[],[2],[],[4],[2,3,4,5],[0,1,2,3,4,5,6]]) [O 18 (F 1 1 false 2),O 19 (L 1 false 18),O 20 (F 0 1 false 4),O 21 (L 1 false 20),O 22 (F 1 1 false 4),O 23 (L 1 false 22),C 24 93 [T 21,T 23],C 25 111 [T 19,T 24]]) (K 25 (J [O 26 (.build [z0,z0,.nil 1] []),Q (S 3 4 26)]) .skip)) (.seq (.region (some [[],[],[],[1,2],[0,1,2,3],[0,1,2,3,4],[0,1,2,3,4,5]]) [O 27 (L 3 true 4),O 28 (L 2 true 2),V 29 1,C 30 112 [T 28,T 29],Q (S 3 4 27),Q (S 2 5 30),O 6 (.mov (Z 0))]) .ret)))),res:=[.cell 4 3 true,.cell 5 2 true,.tmp 6]}
theorem c77:CmpF Tryz.prog 77 a77:=ck Tryz.f77
def a78:AF:=
{nt:=19,body:=(M ([O 2 (.box true (T 0)),O 4 (.alloc true [.nil 3,.nil 2]),O 5 (.mov (Z 0))]) (.seq (M ([O 7 (L 2 true 2),V 8 1,C 9 110 [T 7,T 8],V 6 9,O 10 (E 6 0),O 11 (E 6 1),V 5 11]) (M [V 12 5,O 13 (B .neq 12 0)] (K 13 (M [O 14 (L 2 true 4),V 15 5,Q (S 2 4 14),V 5 15] .ret) .skip))) (M ([O 16 (L 2 true 2),V 17 1,C 18 112 [T 16,T 17],Q (S 2 4 18),O 5 (.mov (Z 0))]) .ret))),res:=[.cell 4 2 true,.tmp 5]}
theorem c78:CmpF Tryz.prog 78 a78:=ck Tryz.f78
def a79:AF:=
{nt:=22,body:=(M ([O 2 (.box true (T 0)),O 4 (.alloc true [.nil 3,.nil 2]),O 5 (.mov (Z 0))]) (M ([O 8 (L 2 true 2),V 9 1,C 10 110 [T 8,T 9],V 7 10,O 11 (E 7 0),O 12 (E 7 1),O 6 (.alloc true [z0,z0,.nil 1]),Q (S 3 6 11),V 5 12]) (.seq (M [V 13 5,O 14 (B .neq 13 0)] (K 14 (M [O 15 (L 2 true 4),V 16 5,Q (S 2 4 15),V 5 16] .ret) .skip)) (M ([O 17 (L 2 true 2),O 18 (L 3 true 6),C 19 108 [T 17,T 18],O 20 (E 19 0),O 21 (E 19 1),Q (S 2 4 20),V 5 21]) .ret)))),res:=[.cell 4 2 true,.tmp 5]}
theorem c79:CmpF Tryz.prog 79 a79:=ck Tryz.f79
def a80:AF:=
{nt:=57,body:=(M ([O 12 (.ext .mkmap []),V 4 12]) (.seq (M [O 13 (F 0 1 false 1),O 14 (L 1 false 13),O 15 (N 14),O 16 (.mov (Z 0))] (.block 0 (.loop (M [O 17 (A .lss 16 15)] (.seq (K 17 .skip (.exit 0)) (.seq (.block 1 (M ([O 18 (I 7 14 16),O 19 (L 7 true 18),O 6 (.alloc true [z0,z0,z0,z0,z0,z0,.lit (.string ⟨#[]⟩)]),Q (S 7 6 19)]) (M ([V 21 4,O 22 (F 1 1 false 6),O 23 (L 1 false 22),O 24 (.ext (.lookup (.int .i64) true (.agg [z0,z0,z0,z0,.lit (.string ⟨#[]⟩)])) [T 21,T 23]),V 20 24,O 25 (E 20 0),O 26 (E 20 1),O 7 (.alloc true [z0,z0,z0,z0,.lit (.string ⟨#[]⟩)]),Q (S 5 7 25),V 8 26]) (M [O 27 (F 0 1 false 6),O 28 (L 1 false 27),O 29 (L 1 false 2),O 30 (A .eql 28 29),V 31 30,H 32 31 (.mov (T 8)),H 33 31 (.not (T 32)),O 34 (.pick (T 31) (T 33) (Y false))] (K 34 (J [V 35 4,O 36 (F 1 1 false 6),O 37 (L 1 false 36),O 38 (F 2 5 true 6),O 39 (L 5 true 38),Q (.ext (.insert (.int .i64)) [T 35,T 37,T 39])]) .skip))))) (J [O 40 (B .add 16 1),V 16 40]))))))) (M [O 9 (.mov (Z 0))] (.block 2 (.loop (.seq (.block 3 (M ([V 44 4,V 45 9,O 46 (.ext (.lookup (.int .i64) true (.agg [z0,z0,z0,z0,.lit (.string ⟨#[]⟩)])) [T 44,T 45]),V 43 46,O 47 (E 43 0),O 48 (E 43 1),O 10 (.alloc true [z0,z0,z0,z0,.lit (.string ⟨#[]⟩)]),Q (S 5 10 47),V 11 48]) (.seq (.sregion [V 49 11,O 50 (.not (T 49)),V 51 50,G 52 51 (.mov (T 0)),G 53 51 (L 5 true 10),⟨some 54,some (51,false),.ycall (T 52) [T 53]⟩,G 55 51 (.not (T 54)),O 56 (.pick (T 51) (Y true) (T 55))]) (K 56 .ret .skip)))) (J [V 41 9,O 42 (B .add 41 1),V 9 42]))))))),res:=[]}
theorem c80:CmpF Tryz.prog 80 a80:=ck Tryz.f80
def a81:AF:=
{nt:=6,body:=(M [O 2 (.box false (T 0)),O 3 (.box false (T 1)),O 4 (.mov (.dat (.lit (.nilFunc))))] (M ([O 5 (.func (.func 113) [] [T 2,T 3]),V 4 5]) .ret)),res:=[.tmp 4]}
theorem c81:CmpF Tryz.prog 81 a81:=ck Tryz.f81
def a82:AF:=
{nt:=48,body:=(.seq (.region (some [[],[0],[],[0,1,2],[0,1,2,3],[0,1,2,3,4]]) [O 10 (L 1 false 1),⟨some 11,none,.call (U 83) [T 10,.dat (.fn (.func 84) [] [])]⟩,O 12 (L 1 false 2),⟨some 13,none,.call (U 83) [T 12,.dat (.fn (.func 84) [] [])]⟩,V 4 11,V 5 13]) (M ([V 14 4,O 15 (.ext (.mapClone 85) [T 14]),V 6 15]) (M ([V 16 6,V 17 5,O 18 (.ext (.mapCopy 86 3) [T 16,T 17])]) (M ([V 19 6,O 20 (.ext (.mapKeys 88 117) [T 19]),O 21 (.ext (.sorted 87 117) [T 20]),O 22 (N 21),O 23 (.mov (Z 0))]) (.block 0 (.loop (M [O 24 (A .lss 23 22)] (.seq (K 24 .skip (.exit 0)) (.seq (.block 1 (M [O 25 (I 1 21 23),O 26 (L 1 false 25),V 8 26] (M ([O 9 (.alloc true [z0,z0,.lit (.string ⟨#[]⟩),z0,z0,.lit (.string ⟨#[]⟩),.lit (.bool false),.lit (.bool false)])]) (M ([V 28 4,V 29 8,O 30 (.ext (.lookup (.int .i64) true (.agg [z0,z0,.lit (.string ⟨#[]⟩)])) [T 28,T 29]),V 27 30,O 31 (E 27 0),O 32 (E 27 1),O 33 (F 0 3 true 9),Q (S 3 33 31),O 34 (F 6 1 false 9),Q (S 1 34 32)]) (M ([V 36 5,V 37 8,O 38 (.ext (.lookup (.int .i64) true (.agg [z0,z0,.lit (.string ⟨#[]⟩)])) [T 36,T 37]),V 35 38,O 39 (E 35 0),O 40 (E 35 1),O 41 (F 3 3 true 9),Q (S 3 41 39),O 42 (F 7 1 false 9),Q (S 1 42 40)]) (.seq (.sregion [V 43 0,O 44 (L 8 true 9),⟨some 45,none,.ycall (T 43) [T 44]⟩,O 46 (.not (T 45))]) (K 46 .ret .skip))))))) (J [O 47 (B .add 23 1),V 23 47])))))))))),res:=[]}
theorem c82:CmpF Tryz.prog 82 a82:=chkF_cmpL lib0 (F:=Tryz.f82) (by kernel_rfl) mixed (by kernel_rfl)
def a83:AF:=
{nt:=22,body:=(M [O 4 (.mov (.dat (.lit (.map none))))] (M ([O 8 (.ext .mkmap []),V 5 8]) (.seq (M [V 9 0,O 10 (N 9),O 11 (.mov (Z 0))] (.block 0 (.loop (M [O 12 (A .lss 11 10)] (.seq (K 12 .skip (.exit 0)) (.seq (.block 1 (M ([O 13 (I 3 9 11),O 14 (L 3 true 13),O 7 (.alloc true [z0,z0,.lit (.string ⟨#[]⟩)]),Q (S 3 7 14)]) (.region (some [[],[],[],[1,2],[],[0,1,2,3,4]]) [V 15 5,V 16 1,O 17 (L 3 true 7),⟨some 18,none,.call (T 16) [T 17]⟩,O 19 (L 3 true 7),Q (.ext (.insert (.int .i64)) [T 15,T 18,T 19])]))) (J [O 20 (B .add 11 1),V 11 20]))))))) (M [V 21 5,V 4 21] .ret)))),res:=[.tmp 4]}
theorem c83:CmpF Tryz.prog 83 a83:=ck Tryz.f83
def a84:AF:=
{nt:=5,body:=(M [O 1 (.box true (T 0)),O 2 (.mov (Z 0))] (M [O 3 (F 0 1 false 1),O 4 (L 1 false 3),V 2 4] .ret)),res:=[.tmp 2]}
theorem c84:CmpF Tryz.prog 84 a84:=ck Tryz.f84
def a89:AF:=
{nt:=87,body:=(M [O 3 (.box true (T 1)),O 4 (.mov (Y false))] (.seq (.seq (.region (some [[],[0],[0,1],[0,1,2],[0,1,2,3],[0,1,2,3,4],[0,1,2,3,4,5],[0,1,2,3,4,5,6],[0,1,2,3,4,5,6,7],[0,1,2,3,4,5,6,7,8],[0,1,2,3,4,5,6,7,8,9],[0,1,2,3,4,5,6,7,8,9,10],[0,1,2,3,4,5,6,7,8,9,10,11],[0,1,2,3,4,5,6,7,8,9,10,11,12],[0,1,2,3,4,5,6,7,8,9,10],[0,1,2,3,4,5,6,7,8,9,10,14],[0,1,2,3,4,5,6,7,8,9,10,14,15],[0,1,2,3,4,5,6,7,8,9,10,11,12,13,14,15,16],[0,1,2,3,4,5,6,7,8,9,10,11,12,13,14,15,16,17],[0,1,2,3,4,5,6,7,8,9,10,11,12,13,14,15,16,17,18],[0,1,2,3,4,5,6,7,8,9,10,11,12,13,14,15,16,17,18,19],[0,1,2,3,4,5,6,7,8,9,10,11,12,13,14,15,16,17,18,19,20],[0,1,2,3,4,5,6,7,8,9,10,11,12,13,14,15,16,17,18,19,20,21],[0,1,2,3,4,5,6,7,8,9,10,11,12,13,14,15,16,17,18,19,20,21,22],[0,1,2,3,4,5,6,7,8,9,10,11,12,13,14,15,16,17,18,19,20,21,22,23],[0,1,2,3,4,5,6,7,8,9,10,11,12,13,14,15,16,17,18,19,20,21,22,23,24]]) [O 8 (F 0 1 false 3),O 9 (L 1 false 8),C 10 90 [T 9,Z 1099511627776],O 11 (.not (T 10)),V 12 11,G 13 12 (F 1 1 false 3),G 14 12 (L 1 false 13),⟨some 15,some (12,false),.call (U 90) [T 14,Z 100000]⟩,G 16 12 (.not (T 15)),O 17 (.pick (T 12) (Y true) (T 16)),V 18 17,G 19 18 (F 2 1 false 3),G 20 18 (L 1 false 19),G 21 18 (B .sub 20 1),⟨some 22,some (18,false),.call (U 118) []⟩,G 23 18 (.mov (Z 5)),G 24 18 (B .sub 23 1),⟨some 25,some (18,false),.call (U 90) [T 21,T 24]⟩,G 26 18 (.not (T 25)),O 27 (.pick (T 18) (Y true) (T 26)),V 28 27,G 29 28 (F 3 1 false 3),G 30 28 (L 1 false 29),⟨some 31,some (28,false),.call (U 90) [T 30,Z 32]⟩,G 32 28 (.not (T 31)),O 33 (.pick (T 28) (Y true) (T 32))]) (K 33 (M [O 4 (.mov (Y false))] .ret) .skip)) (M ([V 35 0,O 36 (F 1 1 false 3),O 37 (L 1 false 36),O 38 (.ext (.lookup (.int .i64) true (.agg [.lit (.bool false),z0])) [T 35,T 37]),V 34 38,O 39 (E 34 0),O 40 (E 34 1),O 5 (.alloc true [.lit (.bool false),z0]),Q (S 2 5 39),V 6 40]) (.seq (.region (some [[],[],[1],[0,1,2],[],[0,1,2,3,4]]) [C 41 118 [],O 42 (F 2 1 false 3),O 43 (L 1 false 42),O 44 (.ext (.idxV 5 true 5) [T 41,T 43]),O 7 (.alloc true [.lit (.bool false),.lit (.bool false),.lit (.bool false),.lit (.bool false),.lit (.nilFunc)]),Q (S 5 7 44)]) (.seq (M ([V 45 6,O 46 (F 0 1 false 7),O 47 (L 1 false 46),O 48 (.ext (.eqBool true) [T 45,T 47]),V 49 48,G 50 49 (F 0 1 false 5),G 51 49 (L 1 false 50),G 52 49 (.mov (T 51)),H 53 52 (F 2 1 false 7),H 54 52 (L 1 false 53),H 55 52 (.not (T 54)),G 56 49 (.pick (T 52) (T 55) (Y false)),O 57 (.pick (T 49) (Y true) (T 56)),V 58 57,G 59 58 (F 0 1 false 5),G 60 58 (L 1 false 59),G 61 58 (.not (T 60)),G 62 58 (.mov (T 61)),H 63 62 (F 1 1 false 7),H 64 62 (L 1 false 63),H 65 62 (.not (T 64)),G 66 58 (.pick (T 62) (T 65) (Y false)),O 67 (.pick (T 58) (Y true) (T 66)),V 68 67,G 69 68 (F 3 1 false 3),G 70 68 (L 1 false 69),G 71 68 (B .neq 70 0),G 72 68 (.mov (T 71)),H 73 72 (F 3 1 false 7),H 74 72 (L 1 false 73),H 75 72 (.not (T 74)),G 76 68 (.pick (T 72) (T 75) (Y false)),O 77 (.pick (T 68) (Y true) (T 76))]) (K 77 (M [O 4 (.mov (Y false))] .ret) .skip)) (.seq (.region (some [[],[],[1],[],[3],[],[],[6],[3,4,5,6,7],[0,1,2,3,4,5,6,7,8]]) [V 78 0,O 79 (F 1 1 false 3),O 80 (L 1 false 79),O 81 (F 4 1 false 7),O 82 (L 1 false 81),O 83 (L 2 true 5),O 84 (F 3 1 false 3),O 85 (L 1 false 84),⟨some 86,none,.call (T 82) [T 83,T 85]⟩,Q (.ext (.insert (.int .i64)) [T 78,T 80,T 86])]) (M [O 4 (.mov (Y true))] .ret))))))),res:=[.tmp 4]}
theorem c89:CmpF Tryz.prog 89 a89:=ck Tryz.f89
def a90:AF:=
{nt:=12,body:=(M [O 4 (.mov (Y false))] (M [V 5 0,O 6 (B .geq 5 0),V 7 6,H 8 7 (.mov (T 0)),H 9 7 (.mov (T 1)),H 10 7 (A .lss 8 9),O 11 (.pick (T 7) (T 10) (Y false)),V 4 11] .ret)),res:=[.tmp 4]}
theorem c90:CmpF Tryz.prog 90 a90:=ck Tryz.f90
def a91:AF:=
{nt:=24,body:=(M [O 4 (.mov (.dat (.lit (.map none))))] (M ([O 8 (.ext .mkmap []),V 5 8]) (.seq (M [V 9 0,O 10 (N 9),O 11 (.mov (Z 0))] (.block 0 (.loop (M [O 12 (A .lss 11 10)] (.seq (K 12 .skip (.exit 0)) (.seq (.block 1 (M ([O 13 (I 4 9 11),O 14 (L 4 true 13),O 7 (.alloc true [z0,z0,z0,z0]),Q (S 4 7 14)]) (.seq (M [O 15 (F 0 1 false 7),O 16 (L 1 false 15),V 17 1,O 18 (A .gtr 16 17)] (K 18 (.exit 0) .skip)) (.sregion [V 19 5,O 20 (L 4 true 7),⟨some 21,none,.icall (U 89) [T 19,T 20]⟩])))) (J [O 22 (B .add 11 1),V 11 22]))))))) (M [V 23 5,V 4 23] .ret)))),res:=[.tmp 4]}
theorem c91:CmpF Tryz.prog 91 a91:=ck Tryz.f91
def a92:AF:=
{nt:=19,body:=(M [O 4 (.mov (Z 0))] (.seq (M [V 6 0,O 7 (N 6),O 8 (.mov (Z 0))] (.block 0 (.loop (M [O 9 (A .lss 8 7)] (.seq (K 9 .skip (.exit 0)) (.seq (.block 1 (M [V 10 8,V 5 10] (M ([V 11 1,V 12 0,V 13 5,O 14 (I 3 12 13),O 15 (L 3 true 14),⟨some 16,none,.call (T 11) [T 15]⟩]) (K 16 (M [V 17 5,V 4 17] .ret) .skip)))) (J [O 18 (B .add 8 1),V 8 18]))))))) (M [O 4 (.mov (Z (-1)))] .ret))),res:=[.tmp 4]}
theorem c92:CmpF Tryz.prog 92 a92:=ck Tryz.f92
def a93:AF:=
{nt:=12,body:=(M ([O 4 (.alloc true [z0,z0])]) (M ([V 5 0,V 6 1,O 7 (.minmax false (T 5) (T 6)),V 8 0,V 9 1,O 10 (.minmax true (T 8) (T 9)),O 11 (.build [z0,z0] [(0,1,(T 7)),(1,1,(T 10))]),Q (S 2 4 11)]) .ret)),res:=[.cell 4 2 true]}
theorem c93:CmpF Tryz.prog 93 a93:=ck Tryz.f93
def a94:AF:=
{nt:=20,body:=(M [O 4 (.mov (Z 0))] (M ([V 7 0,C 8 119 [T 7],V 5 8]) (M ([V 9 1,C 10 119 [T 9],V 6 10]) (.seq (M [V 11 5] (K 11 (.seq (M [V 12 6] (K 12 (M [O 4 (.mov (Z 0))] .ret) .skip)) (M [O 4 (.mov (Z (-1)))] .ret)) .skip)) (.seq (M [V 13 6] (K 13 (M [O 4 (.mov (Z 1))] .ret) .skip)) (.seq (M [V 14 0,V 15 1,O 16 (A .lss 14 15)] (K 16 (M [O 4 (.mov (Z (-1)))] .ret) .skip)) (.seq (M [V 17 0,V 18 1,O 19 (A .gtr 17 18)] (K 19 (M [O 4 (.mov (Z 1))] .ret) .skip)) (M [O 4 (.mov (Z 0))] .ret)))))))),res:=[.tmp 4]}
theorem c94:CmpF Tryz.prog 94 a94:=ck Tryz.f94
def a95:AF:=
{nt:=8,body:=(M [O 4 (.mov (Z 0))] (M ([V 5 0,V 6 1,C 7 120 [T 5,T 6],V 4 7]) .ret)),res:=[.tmp 4]}
theorem c95:CmpF Tryz.prog 95 a95:=ck Tryz.f95
def a96:AR where
 nt:=9
 ta:=3
 tb:=2
 rest:=(.seq (.region none [
   ⟨(some 4),none,(.op (.mov (.tmp 2)))⟩,
   ⟨(some 5),none,(.op (.ext (.isNil true) [(.tmp 4)]))⟩])
  (.cond (.tmp 5)
   (.region (some [[],[],[1],[0],[0,1,2,3]]) [
    ⟨(some 6),none,(.op (.build [.lit (.int .i64 0),.lit (.int .i64 0),.lit (.string ⟨#[]⟩),.nil 4] []))⟩,
    ⟨(some 7),none,(.op (.mov (.tmp 2)))⟩,
    ⟨(some 8),none,(.op (.ext (.tassert1 25) [(.tmp 7)]))⟩,
    ⟨none,none,(.op (.store 4 (.tmp 0) (.tmp 6)))⟩,
    ⟨none,none,(.op (.store 1 (.tmp 1) (.tmp 8)))⟩])
   .skip))
 res:=[]
theorem c96:CmpRF Tryz.prog 96 a96:=chkRF_cmp (F:=Tryz.f96) (by kernel_rfl) mixed (by kernel_rfl)
def a97:AF:=
{nt:=50,body:=(M ([O 4 (.alloc true [z0,z0,.lit (.string ⟨#[]⟩),.nil 4])]) (.seq (.sregion [V 5 0,⟨some 6,none,.icall (U 121) [T 5,Z 1]⟩,O 7 (.index 1 (T 6) (Z 0)),O 8 (L 1 false 7),O 9 (.conv .i64 (T 8)),O 10 (F 0 1 false 4),Q (S 1 10 9)]) (.seq (M [O 11 (F 0 1 false 4),O 12 (L 1 false 11)] (.block 0 (M [O 16 (B .eql 12 1),V 15 16] (K 15 (.sregion [V 17 0,⟨some 18,none,.icall (U 123) [T 17]⟩,C 19 122 [T 18],O 20 (F 1 1 false 4),Q (S 1 20 19)]) (M [O 22 (B .eql 12 2),V 21 22] (K 21 (.sregion [V 23 0,V 24 0,⟨some 25,none,.icall (U 124) [T 24]⟩,⟨some 26,none,.icall (U 121) [T 23,T 25]⟩,O 27 (.ext .bytesStr [T 26]),O 28 (F 2 1 false 4),Q (S 1 28 27)]) (M [O 30 (B .eql 12 3),V 29 30] (K 29 (M ([V 31 0,V 32 1,O 33 (B .lss 32 16),C 34 98 [T 31,T 33]]) (.seq (.sregion [V 35 0,⟨some 36,none,.icall (U 124) [T 35]⟩,O 37 (.mov (Z 0))]) (.block 1 (.loop (M [O 38 (A .lss 37 36)] (.seq (K 38 .skip (.exit 1)) (.seq (.block 2 (.iregion [[],[0],[],[],[3],[2,3,4],[2,3,4,5],[0,1,2,3,4,5,6],[0,1,2,3,4,5,6,7],[0,1,2,3,4,5,6,7,8]] 6 7 [O 39 (F 3 1 false 4),O 40 (L 1 false 39),V 41 0,V 42 1,O 43 (B .add 42 1),⟨some 44,none,.icall (U 97) [T 41,T 43]⟩,O 45 (.mkslice 4 [T 44]),O 46 (.append 4 56 (T 40) (T 45)),O 47 (F 3 1 false 4),Q (S 1 47 46)])) (J [O 48 (B .add 37 1),V 37 48])))))))) (J [V 13 0,C 14 98 [T 13,Y false]]))))))))) (M [O 49 (L 4 true 4),Q (S 4 4 49)] .ret)))),res:=[.cell 4 4 true]}
theorem c97:CmpF Tryz.prog 97 a97:=ck Tryz.f97
def a98:AF:=
{nt:=7,body:=(M [V 4 1,O 5 (.not (T 4))] (K 5 (.sregion [O 6 (.ifc 25 (Z 10)),⟨none,none,.panic (T 6)⟩]) .skip)),res:=[]}
theorem c98:CmpF Tryz.prog 98 a98:=ck Tryz.f98
def a99:AF:=
{nt:=9,body:=(M [O 2 (.mov (Y false))] (M [V 3 0,O 4 (B .geq 3 0),V 5 4,H 6 5 (.mov (T 0)),H 7 5 (B .leq 6 1048576),O 8 (.pick (T 5) (T 7) (Y false)),V 2 8] .ret)),res:=[.tmp 2]}
theorem c99:CmpF Tryz.prog 99 a99:=ck Tryz.f99
def a100:AF:=
{nt:=32,body:=(M [O 2 (.mov (Y false))] (.seq (M [V 6 0,O 7 (.lenS (T 6)),O 8 (B .lss 7 1),V 9 8,G 10 9 (.mov (T 0)),G 11 9 (.lenS (T 10)),G 12 9 (B .gtr 11 64),O 13 (.pick (T 9) (Y true) (T 12))] (K 13 (M [O 2 (.mov (Y false))] .ret) .skip)) (M ([V 15 0,C 16 125 [T 15],V 14 16,O 17 (E 14 0),O 18 (E 14 1),V 3 17,V 4 18]) (.seq (M [V 19 4,O 20 (B .neq 19 0)] (K 20 (M [O 2 (.mov (Y false))] .ret) .skip)) (.seq (M [O 5 (.mov (Z 0))] (.block 0 (.loop (.seq (M [V 21 5,V 22 3,O 23 (N 22),O 24 (A .lss 21 23)] (K 24 .skip (.exit 0))) (.seq (.block 1 (M ([V 27 3,V 28 5,O 29 (I 1 27 28),O 30 (L 1 false 29),C 31 126 [T 30]]) (K 31 (M [O 2 (.mov (Y false))] .ret) .skip))) (J [V 25 5,O 26 (B .add 25 1),V 5 26])))))) (M [O 2 (.mov (Y true))] .ret)))))),res:=[.tmp 2]}
theorem c100:CmpF Tryz.prog 100 a100:=ck Tryz.f100
def a101:AF:=
{nt:=9,body:=(M [O 2 (.mov (Y false))] (M [V 3 0,O 4 (B .geq 3 0),V 5 4,H 6 5 (.mov (T 0)),H 7 5 (B .leq 6 1048576),O 8 (.pick (T 5) (T 7) (Y false)),V 2 8] .ret)),res:=[.tmp 2]}
theorem c101:CmpF Tryz.prog 101 a101:=ck Tryz.f101
def a102:AF:=
{nt:=31,body:=(M [O 2 (.mov (Y false))] (M ([V 6 0,C 7 127 [T 6],V 5 7,O 8 (E 5 0),O 9 (E 5 1),V 3 8,V 4 9]) (M ([V 10 4,O 11 (B .eql 10 0),V 12 11,H 13 12 (.mov (T 0)),H 14 12 (.lenS (T 13)),H 15 12 (B .gtr 14 0),O 16 (.pick (T 12) (T 15) (Y false)),V 17 16,H 18 17 (.mov (T 0)),H 19 17 (.lenS (T 18)),H 20 17 (B .leq 19 64),O 21 (.pick (T 17) (T 20) (Y false)),V 22 21,H 23 22 (.mov (T 3)),⟨some 24,some (22,true),.call (U 129) []⟩,H 25 22 (.index 2 (T 24) (Z 0)),H 26 22 (F 1 1 false 25),H 27 22 (L 1 false 26),⟨some 28,some (22,true),.call (U 128) [T 23,T 27]⟩,H 29 22 (.not (T 28)),O 30 (.pick (T 22) (T 29) (Y false)),V 2 30]) .ret))),res:=[.tmp 2]}
theorem c102:CmpF Tryz.prog 102 a102:=ck Tryz.f102
def a105:AF:=
{nt:=49,body:=(M [O 4 (.box true (T 1)),O 6 (.mov (Z 0)),O 7 (.mov (Y false))] (M [V 12 0,O 13 (N 12),V 8 13] (M [V 14 8,O 9 (.mov (Z 0)),V 10 14] (.seq (.block 0 (.loop (.seq (M [V 15 9,V 16 10,O 17 (A .lss 15 16)] (K 17 .skip (.exit 0))) (.block 1 (M ([V 18 9,V 19 10,O 20 (A .add 18 19),O 21 (.conv .u64 (T 20)),O 22 (.ext (.shift false) [T 21,.dat (.lit (.int .u64 1))]),O 23 (.conv .i64 (T 22)),V 11 23]) (.seq (.region (some [[],[],[],[1,2],[1,2,3],[],[0,1,2,3,4,5],[0,1,2,3,4,5,6]]) [V 24 2,V 25 0,V 26 11,O 27 (I 7 25 26),O 28 (L 7 true 27),O 29 (L 7 true 4),⟨some 30,none,.call (T 24) [T 28,T 29]⟩,O 31 (B .lss 30 0)]) (K 31 (J [V 32 11,O 33 (B .add 32 1),V 9 33]) (J [V 34 11,V 10 34])))))))) (.seq (.region (some [[],[],[],[1,2],[1,2,3],[1,2,3,4],[1,2,3,4],[1,2,3,4],[1,2,3,4,6,7],[1,2,3,4,6,7,8],[1,2,3,4],[1,2,3,4,5,6,7,8,9,10],[1,2,3,4,5,6,7,8,9,10,11],[1,2,3,4,5,6,7,8,9,10,11,12],[0,1,2,3,4,5,6,7,8,9,10,11],[0,1,2,3,4,5,6,7,8,9,10,11,12,13,14]]) [V 35 9,V 36 9,V 37 8,O 38 (A .lss 36 37),V 39 38,H 40 39 (.mov (T 2)),H 41 39 (.mov (T 0)),H 42 39 (.mov (T 9)),H 43 39 (I 7 41 42),H 44 39 (L 7 true 43),H 45 39 (L 7 true 4),⟨some 46,some (39,true),.call (T 40) [T 44,T 45]⟩,H 47 39 (B .eql 46 0),O 48 (.pick (T 39) (T 47) (Y false)),V 6 35,V 7 48]) .ret))))),res:=[.tmp 6,.tmp 7]}
theorem c105:CmpF Tryz.prog 105 a105:=ck Tryz.f105
def a108:AF:=
{nt:=34,body:=(M ([O 2 (.box true (T 0)),O 3 (.box true (T 1)),O 4 (.alloc true [.nil 3,.nil 2]),O 5 (.mov (Z 0))]) (.seq (M ([O 6 (L 2 true 2),C 7 18 [T 6],O 8 (B .neq 7 0),V 9 8,G 10 9 (L 3 true 3),⟨some 11,some (9,false),.call (U 48) [T 10]⟩,G 12 9 (.not (T 11)),O 13 (.pick (T 9) (Y true) (T 12))]) (K 13 (M [O 14 (L 2 true 4),Q (S 2 4 14),O 5 (.mov (Z 60))] .ret) .skip)) (.seq (M [O 15 (F 0 1 false 2),O 16 (L 1 false 15),O 17 (N 16),O 18 (B .eql 17 4096)] (K 18 (M [O 19 (L 2 true 4),Q (S 2 4 19),O 5 (.mov (Z 2))] .ret) .skip)) (.seq (.region (some [[],[0],[],[2],[2,3],[],[5],[5,6],[0,1,2,3,4,5,6,7],[],[9],[0,1,2,3,4,5,6,7,8,9,10],[0,1,2,3,4,5,6,7,8,9,10,11],[0,1,2,3,4,5,6,7,8,9,10,11,12]]) [O 20 (F 0 1 false 2),O 21 (L 1 false 20),O 22 (F 0 1 false 2),O 23 (L 1 false 22),O 24 (N 23),O 25 (F 0 1 false 2),O 26 (L 1 false 25),O 27 (N 26),O 28 (.slice3 3 (T 21) none (T 24) (T 27)),O 29 (L 3 true 3),O 30 (.mkslice 3 [T 29]),O 31 (.append 3 40 (T 28) (T 30)),O 32 (F 0 1 false 2),Q (S 1 32 31)]) (M [O 33 (L 2 true 2),Q (S 2 4 33),O 5 (.mov (Z 0))] .ret))))),res:=[.cell 4 2 true,.tmp 5]}
theorem c108:CmpF Tryz.prog 108 a108:=ck Tryz.f108
end

end Go.Proofs.YtmmlicjkdeankaaGreatDoor
