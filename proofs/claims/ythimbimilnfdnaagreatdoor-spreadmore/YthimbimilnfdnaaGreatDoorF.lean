/- Part of the proof: S210, S211, S212, S213, S214, S207, S1p1, S1p2. -/
import Derived.Test.YthimbimilnfdnaaGreatDoorProg
import Derived.KernelRfl
import Derived.Shelf.Spec.SlicesInsertGrow
import Derived.Shelf.Slices.Delete
import Derived.Test.YthimbimilnfdnaaGreatDoorE
set_option linter.unnecessarySimpa false
set_option linter.unusedVariables false
set_option linter.unusedSimpArgs false
namespace Go.Proofs.YthimbimilnfdnaaGreatDoor
open Go Go.Proofs.YthimbimilnfdnaaGreatDoor.AL
section
open Go Go.Proofs.YthimbimilnfdnaaGreatDoor.AL Go.Shelf Go.RowKit Go.Lib
theorem mixed0:Tryz.prog.follows .mixedOrders=true:=by kernel_rfl
theorem uI:Tryz.prog.underlying 3=some (.int .i64):=by kernel_rfl
theorem run_copy'{P:Program}(w:World) (dT sT ty elem:TypeId) (b o dLen dCap:Nat) (a:Addr) (sLen sCap:Nat) (cs:List Value){i:TypeInfo}
  (hu:P.underlying dT=some (.slice elem)) (hi:P.info? elem=some i) (hn:cs.length=Nat.min sLen dLen*i.size)
  (hsrc:∀ j v,cs[j]?=some v→w.cell? (a.add j)=some v) (hc:∀ j,j<cs.length→(w.cell? ⟨b,o+j,none⟩).isSome=true) (hf:∀ j,j<cs.length→w.frozen? ⟨b,o+j,none⟩=false) (h1:∀ v∈cs,v.oneCell'=true) :
  (Builtin.copy_ #[dT,sT] ty #[.slice (some ⟨b,o,none⟩) dLen dCap,.slice (some a) sLen sCap]).run P w=.ok (goInt (Nat.min sLen dLen)) (w.setCells b o cs):=by
 have hl:=run_loadCells_list (P:=P) w a cs hsrc
 have hst:=run_storeCells_cells (P:=P) b o cs 0 w (by simpa using hc) (by simpa using hf) h1
 simp [Builtin.copy_,run_underlying hu,Builtin.lenOf,Builtin.firstCells,sizeOf,typeInfo,hi,← hn,hl,hst]
theorem isSome_set(b:Nat) (vs:List Value) (o:Nat) (w:World) (h:∀ j,j<vs.length→(w.cell? ⟨b,o+j,none⟩).isSome=true) (k:Nat) (hk:(w.cell? ⟨b,k,none⟩).isSome=true):((w.setCells b o vs).cell? ⟨b,k,none⟩).isSome=true:=isSome_setCells b vs o w h k hk
theorem size_zc(z:Array Value) (n:Nat):(Builtin.zeroCells z n).size=n*z.size:=size_zeroCells z n
theorem set1(b:Nat):∀ (vs:List Value) (o:Nat) (w:World) (arr:Array Value) (ty:TypeId),w.heap[b]?=some (.cells arr ty (0,0))→o+vs.length≤arr.size →
  ∃ arr':Array Value,(w.setCells b o vs).heap[b]?=some (.cells arr' ty (0,0))∧arr'.size=arr.size∧(∀ k,(k<o∨o+vs.length≤k)→arr'[k]?=arr[k]?)∧(∀ (j:Nat) (u:Value),vs[j]?=some u→arr'[o+j]?=some u) ∧
   ((w.setCells b o vs).os=w.os∧(w.setCells b o vs).tape=w.tape∧(w.setCells b o vs).output=w.output∧(w.setCells b o vs).heap.size=w.heap.size)∧∀ k,k≠b→(w.setCells b o vs).heap[k]?=w.heap[k]?
 | [],o,w,arr,ty,hh,_=>⟨arr,hh,rfl,fun _ _=>rfl,fun j u hj=>by simp at hj,⟨rfl,rfl,rfl,rfl⟩,fun _ _=>rfl⟩
 | v::r,o,w,arr,ty,hh,hl=>by
  simp only [List.length_cons] at hl
  have hnew:(w.setCell ⟨b,o,none⟩ v).heap[b]?=some (.cells (arr.setIfInBounds o v) ty (0,0)):=by
   simp [World.setCell,Array.getElem?_modify,hh]
  obtain⟨arr',h1,h2,h3,h4,⟨h5,h6,h7,h8⟩,h9⟩:=set1 b r (o+1) (w.setCell ⟨b,o,none⟩ v) _ ty hnew (by simp;omega)
  refine⟨arr',by rw [World.setCells];exact h1,by rw [h2];simp,fun k hk=>?_,fun j u hj=>?_,⟨by rw [World.setCells];exact h5,by rw [World.setCells];exact h6,by rw [World.setCells];exact h7,by rw [World.setCells,h8];simp [World.setCell]⟩,fun k hk=>?_⟩
  ·simp only [List.length_cons] at hk
   rw [h3 k (by omega),Array.getElem?_setIfInBounds]
   rw [if_neg (by omega)]
  ·cases j with
   | zero =>
    simp at hj;subst hj
    rw [Nat.add_zero,h3 o (by omega),Array.getElem?_setIfInBounds,if_pos rfl,if_pos (by omega)]
   | succ j =>
    have:=h4 j u (by simpa using hj)
    rw [show o+(j+1)=o+1+j by omega];exact this
  ·rw [World.setCells,h9 k hk]
   simp only [World.setCell,Array.getElem?_modify]
   rw [if_neg (by omega)]
theorem list3{α:Type}(a b c:List α) (j:Nat) (u:α) (h:(a++b++c)[j]?=some u):(j<a.length∧a[j]?=some u)∨(∃ k,j=a.length+k∧b[k]?=some u)∨∃ k,j=a.length+b.length+k∧c[k]?=some u:=by
 by_cases h1:j<a.length
 ·left;refine⟨h1,?_⟩
  rw [List.append_assoc,List.getElem?_append_left h1] at h;exact h
 ·rw [List.append_assoc,List.getElem?_append_right (by omega)] at h
  by_cases h2:j-a.length<b.length
  ·rw [List.getElem?_append_left h2] at h
   exact .inr (.inl ⟨j-a.length,by omega,h⟩)
  ·rw [List.getElem?_append_right (by omega)] at h
   exact .inr (.inr ⟨j-a.length-b.length,by omega,h⟩)
theorem uP_Spot:Tryz.prog.underlying 49=some (.slice 30):=by kernel_rfl
theorem iP_Spot:∃ i0:TypeInfo,Tryz.prog.info? 30=some i0∧i0.size=3∧i0.bytes=32∧∃ zv,i0.zero=some zv∧zv.cells.size=3:=by
 have h:(match Tryz.prog.info? 30 with | some i=>(i.size == 3)&&((i.bytes == 32)&&(match i.zero with | some zv=>zv.cells.size == 3 | none=>false)) | none=>false)=true:=by kernel_rfl
 split at h
 ·rename_i i hi
  simp only [Bool.and_eq_true,beq_iff_eq] at h
  obtain⟨h1,h2,h3⟩:=h
  split at h3
  ·rename_i zv hz
   exact⟨i,hi,h1,h2,zv,hz,by simpa using h3⟩
  ·cases h3
 ·cases h
set_option maxHeartbeats 4000000 in
set_option maxRecDepth 100000 in
theorem clone_nil_Spot(c:Nat) (w:World):Calls Tryz.prog 62 #[.slice none 0 c] w fun e w'=>e=.returned (.slice none 0 0)∧w'=w:=by
 have mixed:=mixed0
 have q22:∀ (w:World) (a:Option Addr) (n c n' c':Nat),(binOp .eql 49 (.slice a n c) (.slice none n' c')).run Tryz.prog w=.ok (.bool a.isNone) w:=fun w a n c n' c'=>Lib.run_eql_slice_nil w _ _ a n c n' c' uP_Spot
 go_enter Tryz.func62,Tryz.ntmps62
 go_wp2
 go_ret
 exact⟨rfl,rfl⟩
set_option maxHeartbeats 4000000 in
set_option maxRecDepth 100000 in
theorem clone_some_Spot(ad:Addr) (n c:Nat) (w w2:World) (v2:Value) (hrun:∀ ty,(Builtin.append_ #[49,49] ty #[.slice (some ⟨w.heap.size,0,none⟩) 0 0,.slice (some ad) n c]).run Tryz.prog (w.alloc (.cells #[] 30))=.ok v2 w2) :
  Calls Tryz.prog 62 #[.slice (some ad) n c] w fun e w'=>e=.returned v2∧w'=w2:=by
 have mixed:=mixed0
 have q22:∀ (w:World) (a:Option Addr) (n c n' c':Nat),(binOp .eql 49 (.slice a n c) (.slice none n' c')).run Tryz.prog w=.ok (.bool a.isNone) w:=fun w a n c n' c'=>Lib.run_eql_slice_nil w _ _ a n c n' c' uP_Spot
 go_enter Tryz.func62,Tryz.ntmps62
 go_wp2_with (at_builtin;refine Lib.wpList_append_run _ rfl _ _ _ _ rfl _ _ rfl rfl _ _ (hrun _) ?_)
 go_ret
 exact⟨rfl,rfl⟩
theorem call68_Spot:Callable Tryz.prog 62:=⟨_,Tryz.func62,by kernel_rfl,by kernel_rfl⟩
theorem clone68_Spot:CloneOk Tryz.prog 62 3 32:=by
 obtain⟨i0,hi0,hz,hby,zv,hz0,hzs⟩:=iP_Spot
 refine⟨call68_Spot,by decide,fun w A n c cs hnc hc hl hA hcs h1 hb=>?_⟩
 cases A with
 | none =>
  have h0:=hA rfl
  subst h0
  exact(clone_nil_Spot c w).mono fun e w' ⟨he,hw⟩=>by subst hw;exact⟨Grow.refl w',.inl ⟨rfl,none,he⟩⟩
 | some ad =>
  have g1:Grow w (w.alloc (.cells #[] 30)):=Grow.alloc w _
  rcases Nat.eq_zero_or_pos n with h0 | h0
  ·subst h0
   have hrun:=fun ty=>run_append_zero (P:=Tryz.prog) (t:=49) (ty:=ty) (w:=w.alloc (.cells #[] 30)) (A:=some ⟨w.heap.size,0,none⟩) (A':=some ad) (n:=0) (cap:=0) (c:=c) uP_Spot hi0 (Nat.le_refl 0)
   exact(clone_some_Spot ad 0 c w _ _ hrun).mono fun e w' ⟨he,hw⟩=>by subst hw;exact⟨g1,.inl ⟨rfl,_,he⟩⟩
  ·have hcell:∀ j u,cs[j]?=some u→(w.alloc (.cells #[] 30)).cell? (ad.add j)=some u:=fun j u hj=>by
    have h:=hcs ad rfl j u hj
    have hlt:=World.block_lt_of_cell? w _ (by rw [h])
    rw [g1.cell hlt];exact h
   have hb':(0+n)*i0.bytes≤140737488355328:=by rw [hby,Nat.zero_add];exact hb
   have hrun:=fun ty=>run_append_grow (P:=Tryz.prog) (w.alloc (.cells #[] 30)) 49 ty 30 i0 zv uP_Spot hi0 hz0 ⟨w.heap.size,0,none⟩ 0 0 [] (by simp) (by simp) ad n c cs (by rw [hl,hz]) hcell (by omega) (by omega) (growslice_fits (by omega) hb')
   refine(clone_some_Spot ad n c w _ _ hrun).mono fun e w' ⟨he,hw⟩=>?_
   generalize hG:grownCap (w.alloc (.cells #[] 30)) (0+n) 0 30=ncap at he hw
   have hge:0+n≤ncap:=by rw [← hG];exact grownCap_ge _ _ _ _
   have hle:ncap≤9223372036854775807:=by rw [← hG];exact grownCap_le_maxLen _ _ _ _ (by simp only [maxLen];omega)
   subst hw
   refine⟨⟨rfl,rfl,rfl,by simp;omega,fun b hb=>?_⟩,.inr ⟨h0,(w.alloc (.cells #[] 30)).heap.size,ncap,_,30,by simpa using he,by simp,heap_alloc_new (w.alloc (.cells #[] 30)).drew _,by omega,hle,?_,fun j u hj=>?_⟩⟩
   ·have e1:=g1.block b hb
    rw [← e1]
    have hlt:b<(w.alloc (.cells #[] 30)).drew.heap.size:=by simp;omega
    first | exact heap_alloc_old (w.alloc (.cells #[] 30)).drew _ b hlt | exact heap_alloc_old (w.alloc (.cells #[] 30)).drew _ hlt
   ·simp only [Array.size_append,List.size_toArray,size_zc,hzs,List.length_nil,hl]
    have:ncap*3=n*3+(ncap-(0+n))*3:=by omega
    omega
   ·have hlt:=(List.getElem?_eq_some_iff.1 hj).1
    rw [Array.getElem?_append_left (by simp;exact hlt)]
    simpa using hj
set_option maxHeartbeats 4000000 in
set_option maxRecDepth 100000 in
theorem ins_end_Spot(n c m vc:Nat) (A B:Option Addr) (w w2:World) (v2:Value) (hm:0<m) (hnc:n≤c)
  (hrun:∀ ty,(Builtin.append_ #[49,49] ty #[.slice A n c,.slice B m vc]).run Tryz.prog w=.ok v2 w2) :
  Calls Tryz.prog 105 #[.slice A n c,.int .i64 n,.slice B m vc] w fun e w'=>e=.returned v2∧w'=w2:=by
 have mixed:=mixed0
 have hz1:¬ ((m:Int)=0):=by omega
 go_enter Tryz.func105,Tryz.ntmps105
 cases A with
 | none =>
  go_wp2_with (at_builtin;refine Lib.wpList_append_run _ rfl _ _ _ _ rfl _ _ rfl rfl _ _ (hrun _) ?_)
  go_ret
  exact⟨rfl,rfl⟩
 | some a =>
  obtain⟨ab,ao,asp⟩:=a
  go_wp2_with (at_builtin;refine Lib.wpList_append_run _ rfl _ _ _ _ rfl _ _ rfl rfl _ _ (hrun _) ?_)
  all_goals (go_ret;exact⟨rfl,rfl⟩)
set_option maxHeartbeats 4000000 in
set_option maxRecDepth 100000 in
theorem ins_shift_Spot(i0:TypeInfo) (hi0:Tryz.prog.info? 30=some i0) (hz:i0.size=3) (b off n c i vb voff m vc:Nat) (cs vs:List Value) (w:World) (hi:i<n) (hm:0<m) (hroom:n+m≤c) (hc63:c≤9223372036854775807) (hvb:vb≠b)
  (hcl:cs.length=n*3) (hvl:vs.length=m*3)
  (hcs:∀ j v,cs[j]?=some v→w.cell? ⟨b,off+j,none⟩=some v) (hsp:∀ j,j<(n+m)*3→(w.cell? ⟨b,off+j,none⟩).isSome=true) (hfz:∀ j,j<(n+m)*3→w.frozen? ⟨b,off+j,none⟩=false)
  (hvs:∀ j v,vs[j]?=some v→w.cell? ⟨vb,voff+j,none⟩=some v) (h1c:∀ v∈cs,v.oneCell'=true) (h1v:∀ v∈vs,v.oneCell'=true)
  (tA tB:TypeId) (kA kB:Nat) (hsa:w.shape? vb=some (tA,kA)) (hsb:w.shape? b=some (tB,kB)) (hkB:kB≠0) (hfa:w.frozen? ⟨vb,voff,none⟩=false) (hfe:w.frozen? ⟨vb,kA,none⟩=false) :
  Calls Tryz.prog 105 #[.slice (some ⟨b,off,none⟩) n c,.int .i64 i,.slice (some ⟨vb,voff,none⟩) m vc] w fun e w' =>
   e=.returned (.slice (some ⟨b,off,none⟩) (n+m) c)∧w'=(w.drew.setCells b (off+(i+m)*3) (cs.drop (i*3))).setCells b (off+i*3) vs:=by
 have mixed:=mixed0
 have hz1:¬ ((m:Int)=0):=by omega
 have hz2:¬ ((i:Int)=(n:Int)):=by omega
 have hov:∀ lb cb,(callFunc 138 #[.slice (some ⟨vb,voff,none⟩) m vc,.slice (some ⟨b,off+(i+m)*3,none⟩) lb cb]).run Tryz.prog w=.ok (.value (.bool false)) w:=fun lb cb=>by
  rw [run_callFunc_extern Tryz.func138 (by kernel_rfl) (by kernel_rfl) (by kernel_rfl) (e:=Extern.SlicesOverlaps.overlaps #[49,49] #[4]) (by kernel_rfl),
   Lib.run_overlaps_apart w 49 4 30 uP_Spot 3 (fun w=>by simp [sizeOf,typeInfo,hi0,hz]) ⟨vb,voff,none⟩ ⟨b,off+(i+m)*3,none⟩ m vc lb cb hvb tA tB kA kB hsa hsb hkB hfa hfe]
  rfl
 have hdl:(cs.drop (i*3)).length=(n-i)*3:=by rw [List.length_drop,hcl,Nat.sub_mul]
 have hmul:(n+m)*3=i*3+(n-i)*3+m*3:=by rw [← Nat.add_mul,← Nat.add_mul];congr 1;omega
 have hmul2:(i+m)*3=i*3+m*3:=Nat.add_mul _ _ _
 have hw1:IntKind.i64.wrap ((i:Int)+(m:Int))=(i:Int)+(m:Int):=by rw [IntKind.wrap_i64];omega
 have hb1:(0:Int)≤(i:Int)+(m:Int):=by omega
 have hin:i≤n:=by omega
 have htn:((i:Int)+(m:Int)).toNat=i+m:=by omega
 have hb2:¬ (c=i+m):=by omega
 have hb3:(i:Int)≤(n:Int)+(m:Int):=by omega
 have hb4:¬ (c=i):=by omega
 have hcp1:∀ ty dc sc,(Builtin.copy_ #[49,49] ty #[.slice (some ⟨b,off+(i+m)*3,none⟩) (n+m-(i+m)) dc,.slice (some ⟨b,off+i*3,none⟩) (n+m-i) sc]).run Tryz.prog w.drew=.ok (goInt (Nat.min (n+m-i) (n+m-(i+m)))) (w.drew.setCells b (off+(i+m)*3) (cs.drop (i*3))):=fun ty dc sc =>
  run_copy' w.drew _ _ ty 30 b (off+(i+m)*3) (n+m-(i+m)) dc ⟨b,off+i*3,none⟩ (n+m-i) sc (cs.drop (i*3)) uP_Spot hi0 (by rw [hdl,hz];congr 1;simp only [Nat.min_def];split <;> omega)
   (fun j v hj=>by rw [Addr.add_lit,Nat.add_assoc];exact hcs (i*3+j) v (by rwa [List.getElem?_drop] at hj))
   (fun j hj=>by rw [Nat.add_assoc];exact hsp _ (by rw [hdl] at hj;omega)) (fun j hj=>by rw [Nat.add_assoc];exact hfz _ (by rw [hdl] at hj;omega)) (fun v hv=>h1c v (List.mem_of_mem_drop hv))
 obtain⟨W1,hW1⟩:∃ W1,W1=w.drew.setCells b (off+(i+m)*3) (cs.drop (i*3)):=⟨_,rfl⟩
 have hsp1:∀ k,k<(n+m)*3→(W1.cell? ⟨b,off+k,none⟩).isSome=true:=fun k hk=>by
  rw [hW1]
  exact isSome_set b _ _ _ (fun j hj=>by rw [Nat.add_assoc];exact hsp _ (by rw [hdl] at hj;omega)) _ (hsp k hk)
 have hcp2:∀ (W:World),(∀ x,W.cell? x=W1.cell? x)→(∀ x,W.frozen? x=W1.frozen? x)→∀ ty dc,(Builtin.copy_ #[49,49] ty #[.slice (some ⟨b,off+i*3,none⟩) (n+m-i) dc,.slice (some ⟨vb,voff,none⟩) m vc]).run Tryz.prog W=.ok (goInt (Nat.min m (n+m-i))) (W.setCells b (off+i*3) vs):=fun W hWc hWf ty dc =>
  run_copy' W _ _ ty 30 b (off+i*3) (n+m-i) dc ⟨vb,voff,none⟩ m vc vs uP_Spot hi0 (by rw [hvl,hz];congr 1;simp only [Nat.min_def];split <;> omega)
   (fun j v hj=>by
    rw [Addr.add_lit,hWc,hW1,World.cell?_setCells_out b _ _ _ _ (fun h _=>absurd h hvb)]
    exact hvs j v hj)
   (fun j hj=>by rw [hWc,Nat.add_assoc];exact hsp1 _ (by rw [hvl] at hj;omega)) (fun j hj=>by rw [hWf,hW1,World.frozen?_setCells,Nat.add_assoc];exact hfz _ (by rw [hvl] at hj;omega)) h1v
 rw [← hW1] at hcp1
 have hsz6:(sizeOf 30).run Tryz.prog w=.ok 3 w:=by simp [sizeOf,typeInfo,hi0,hz]
 clear hmul hmul2 hdl hcl hvl
 go_enter Tryz.func105,Tryz.ntmps105
 go_wp2_with (simp only [hov])
 go_region_law_o (refine step_copy_runI rfl _ _ 49 49 rfl _ _ (by simp [Act.eval,Act.put]) (by simp [Act.eval,Act.put]) (hcp1 _ _ _) ?_)
 go_wp2_with (at_builtin;refine wpList_copy_runI _ rfl _ _ 49 49 rfl _ _ rfl rfl (hcp2 _ (fun _=>rfl) (fun _=>rfl) _ _) ?_)
 go_ret
 first | exact⟨rfl,rfl⟩ | exact⟨rfl,by rw [hW1]⟩
set_option maxHeartbeats 4000000 in
set_option maxRecDepth 100000 in
theorem ins_grow_Spot(i0:TypeInfo) (hi0:Tryz.prog.info? 30=some i0) (hz:i0.size=3) (zv:Value) (hz0:i0.zero=some zv) (hzs:zv.cells.size=3) (b off n c i vb voff m vc:Nat) (cs vs:List Value) (w:World) (hi:i<n) (hm:0<m) (hnc:n≤c) (hroom:c<n+m)
  (hbig:(n+m)*i0.bytes≤140737488355328) (h63:n+m≤9223372036854775807)
  (hcl:cs.length=n*3) (hvl:vs.length=m*3)
  (hcs:∀ j v,cs[j]?=some v→w.cell? ⟨b,off+j,none⟩=some v)
  (hvs:∀ j v,vs[j]?=some v→w.cell? ⟨vb,voff+j,none⟩=some v) (h1c:∀ v∈cs,v.oneCell'=true) (h1v:∀ v∈vs,v.oneCell'=true) :
  Calls Tryz.prog 105 #[.slice (some ⟨b,off,none⟩) n c,.int .i64 i,.slice (some ⟨vb,voff,none⟩) m vc] w fun e w' =>
   ∃ G,n+m≤G∧G≤9223372036854775807∧e=.returned (.slice (some ⟨w.heap.size,0,none⟩) (n+m) G) ∧
   w'=(((w.alloc (.cells ((cs.take (i*3)).toArray++Builtin.zeroCells zv.cells (n+m-i)++Builtin.zeroCells zv.cells (G-(n+m))) 30)).drew.setCells w.heap.size (i*3) vs).drew).setCells w.heap.size ((i+m)*3) (cs.drop (i*3)):=by
 have mixed:=mixed0
 have hz1:¬ ((m:Int)=0):=by omega
 have hz2:¬ ((i:Int)=(n:Int)):=by omega
 have hz3:(c:Int)<(n:Int)+(m:Int):=by omega
 have hbw:b<w.heap.size:=block_lt_of_cell (hcs 0 _ (List.getElem?_eq_getElem (by omega)))
 have hvw:vb<w.heap.size:=block_lt_of_cell (hvs 0 _ (List.getElem?_eq_getElem (by omega)))
 have hkk:(n:Int)+(m:Int)-(i:Int)=((n+m-i:Nat):Int):=by omega
 have hik:i+(n+m-i)=n+m:=by omega
 have hold:(Builtin.firstCells i0.size i (.slice (some ⟨b,off,none⟩) i c)).run Tryz.prog w.drew=.ok (cs.take (i*3)).toArray w.drew:=by
  rw [hz]
  exact run_firstCells_some w.drew 3 i ⟨b,off,none⟩ i c (cs.take (i*3)) (by rw [List.length_take];omega) (fun j v hj=>by
   rw [Addr.add_lit]
   rw [List.getElem?_take] at hj
   split at hj
   ·exact hcs j v hj
   ·cases hj)
 have hb6:(n+m-i)*i0.bytes≤(n+m)*i0.bytes:=Nat.mul_le_mul_right _ (by omega)
 have hrz:∀ ty,(Builtin.append_ #[49,3] ty #[.slice (some ⟨b,off,none⟩) i c,.int .i64 ((n:Int)+(m:Int)-(i:Int))]).run Tryz.prog w =
   .ok (.slice (some ⟨w.heap.size,0,none⟩) (n+m) (grownCap w (n+m) c 30)) (w.drew.alloc (.cells ((cs.take (i*3)).toArray++Builtin.zeroCells zv.cells (n+m-i)++Builtin.zeroCells zv.cells (grownCap w (n+m) c 30-(n+m))) 30)):=fun ty=>by
  have h:=Lib.run_append_grow_zeros w 49 3 ty 30 i0 _ .i64 .i64 uP_Spot uI hi0 hz0 (some ⟨b,off,none⟩) i c (cs.take (i*3)) hold (n+m-i) (by omega) (by omega) (by omega) (by omega) (by omega) (by rw [hik];exact growslice_fits hroom hbig)
  rw [hik] at h
  rw [hkk]
  exact h
 obtain⟨G,hG⟩:∃ G,G=grownCap w (n+m) c 30:=⟨_,rfl⟩
 obtain⟨ROW,hROW⟩:∃ ROW:Array Value,ROW=(cs.take (i*3)).toArray++Builtin.zeroCells zv.cells (n+m-i)++Builtin.zeroCells zv.cells (G-(n+m)):=⟨_,rfl⟩
 rw [← hG] at hrz
 rw [← hROW] at hrz
 have hRl:(n+m)*3≤ROW.size:=by
  rw [hROW]
  simp only [Array.size_append,List.size_toArray,List.length_take,size_zc,hzs]
  omega
 obtain⟨W1,hW1⟩:∃ W1,W1=w.drew.alloc (.cells ROW 30):=⟨_,rfl⟩
 rw [← hW1] at hrz
 have hN:∀ j,j<(n+m)*3→(W1.cell? ⟨w.heap.size,j,none⟩).isSome=true:=fun j hj=>by
  rw [hW1,World.cell?_alloc_at (w:=w.drew) ROW _ w.heap.size j rfl,Array.getElem?_eq_getElem (by omega)];rfl
 have hNf:∀ j,W1.frozen? ⟨w.heap.size,j,none⟩=false:=fun j=>by rw [hW1];exact World.frozen?_alloc_at (w:=w.drew) ROW _ w.heap.size j rfl
 have hOb:∀ j v,w.cell? ⟨b,j,none⟩=some v→W1.cell? ⟨b,j,none⟩=some v:=fun j v h=>by rw [hW1,World.cell?_alloc_past (w:=w.drew) _ b j hbw];exact h
 have hOv:∀ j v,w.cell? ⟨vb,j,none⟩=some v→W1.cell? ⟨vb,j,none⟩=some v:=fun j v h=>by rw [hW1,World.cell?_alloc_past (w:=w.drew) _ vb j hvw];exact h
 have hcpA:∀ (W:World),(∀ x,W.cell? x=W1.cell? x)→(∀ x,W.frozen? x=W1.frozen? x)→∀ ty dc,(Builtin.copy_ #[49,49] ty #[.slice (some ⟨w.heap.size,i*3,none⟩) (n+m-i) dc,.slice (some ⟨vb,voff,none⟩) m vc]).run Tryz.prog W=.ok (goInt (Nat.min m (n+m-i))) (W.setCells w.heap.size (i*3) vs):=fun W hWc hWf ty dc =>
  run_copy' W _ _ ty 30 w.heap.size (i*3) (n+m-i) dc ⟨vb,voff,none⟩ m vc vs uP_Spot hi0 (by rw [hvl,hz];congr 1;simp only [Nat.min_def];split <;> omega)
   (fun j v hj=>by rw [Addr.add_lit,hWc];exact hOv _ v (hvs j v hj))
   (fun j hj=>by rw [hWc];exact hN _ (by omega)) (fun j hj=>by rw [hWf];exact hNf _) h1v
 have hGn:n+m≤G:=by rw [hG];exact grownCap_ge w _ _ _
 have hG63:G≤9223372036854775807:=by
  have:=grownCap_le_maxLen w (n+m) c 30 (by unfold maxLen;omega)
  rw [← hG] at this
  unfold maxLen at this
  omega
 have hGi:¬ (G=i):=by omega
 have hGim:¬ (G=i+m):=by omega
 have hci:¬ (c=i):=by omega
 have hbN:b≠w.heap.size:=by omega
 have hdl:(cs.drop (i*3)).length=(n-i)*3:=by rw [List.length_drop];omega
 have hcpB:∀ (W:World),(∀ x,W.cell? x=(W1.setCells w.heap.size (i*3) vs).cell? x)→(∀ x,W.frozen? x=(W1.setCells w.heap.size (i*3) vs).frozen? x)→∀ ty dc sc,(Builtin.copy_ #[49,49] ty #[.slice (some ⟨w.heap.size,(i+m)*3,none⟩) (n+m-(i+m)) dc,.slice (some ⟨b,off+i*3,none⟩) (n-i) sc]).run Tryz.prog W=.ok (goInt (Nat.min (n-i) (n+m-(i+m)))) (W.setCells w.heap.size ((i+m)*3) (cs.drop (i*3))):=fun W hWc hWf ty dc sc =>
  run_copy' W _ _ ty 30 w.heap.size ((i+m)*3) (n+m-(i+m)) dc ⟨b,off+i*3,none⟩ (n-i) sc (cs.drop (i*3)) uP_Spot hi0 (by rw [hdl,hz];congr 1;simp only [Nat.min_def];split <;> omega)
   (fun j v hj=>by
    rw [Addr.add_lit,hWc,World.cell?_setCells_out _ _ _ _ _ (fun h _=>absurd h hbN),Nat.add_assoc]
    exact hOb _ v (hcs (i*3+j) v (by rwa [List.getElem?_drop] at hj)))
   (fun j hj=>by rw [hWc];exact isSome_set _ _ _ _ (fun t ht=>hN _ (by omega)) _ (hN _ (by rw [hdl] at hj;omega)))
   (fun j hj=>by rw [hWf,World.frozen?_setCells];exact hNf _) (fun v hv=>h1c v (List.mem_of_mem_drop hv))
 subst hW1
 have hE1:∀ x,((w.alloc (.cells ROW 30)).drew).cell? x=(w.drew.alloc (.cells ROW 30)).cell? x:=fun x=>rfl
 have hE2:∀ x,((w.alloc (.cells ROW 30)).drew).frozen? x=(w.drew.alloc (.cells ROW 30)).frozen? x:=fun x=>rfl
 have hF1:∀ x,(((w.alloc (.cells ROW 30)).drew.setCells w.heap.size (i*3) vs).drew).cell? x=((w.drew.alloc (.cells ROW 30)).setCells w.heap.size (i*3) vs).cell? x:=fun x=>rfl
 have hF2:∀ x,(((w.alloc (.cells ROW 30)).drew.setCells w.heap.size (i*3) vs).drew).frozen? x=((w.drew.alloc (.cells ROW 30)).setCells w.heap.size (i*3) vs).frozen? x:=fun x=>rfl
 have hw1:IntKind.i64.wrap ((i:Int)+(m:Int))=(i:Int)+(m:Int):=by rw [IntKind.wrap_i64];omega
 have hb1:(0:Int)≤(i:Int)+(m:Int):=by omega
 have hin:i≤n:=by omega
 have htn:((i:Int)+(m:Int)).toNat=i+m:=by omega
 have hb3:(i:Int)≤(n:Int):=by omega
 suffices hmain:Calls Tryz.prog 105 #[.slice (some ⟨b,off,none⟩) n c,.int .i64 i,.slice (some ⟨vb,voff,none⟩) m vc] w fun e w' =>
   e=.returned (.slice (some ⟨w.heap.size,0,none⟩) (n+m) G)∧w'=(((w.alloc (.cells ROW 30)).drew.setCells w.heap.size (i*3) vs).drew).setCells w.heap.size ((i+m)*3) (cs.drop (i*3)) by
  refine hmain.mono fun e w' ⟨h1,h2⟩=>⟨G,hGn,hG63,h1,by rw [h2,hROW]⟩
 clear hkk hik hold hROW hG hRl hcl hvl hdl hb6 hbig hzs hz
 go_enter Tryz.func105,Tryz.ntmps105
 go_wp2_with (first
  | (at_builtin;refine Lib.wpList_append_run _ rfl _ _ _ _ rfl _ _ rfl rfl _ _ (hrz _) ?_)
  | (at_builtin;refine wpList_copy_runI _ rfl _ _ 49 49 rfl _ _ rfl rfl (hcpA _ hE1 hE2 _ _) ?_)
  | (at_builtin;refine wpList_copy_runI _ rfl _ _ 49 49 rfl _ _ rfl rfl (hcpB _ (fun _=>rfl) (fun _=>rfl) _ _ _) ?_))
 go_region_law_o (refine step_copy_runI rfl _ _ 49 49 rfl (.slice (some ⟨w.heap.size,(i+m)*3,none⟩) (n+m-(i+m)) (G-(i+m))) (.slice (some ⟨b,off+i*3,none⟩) (n-i) (c-i)) (by simp [Act.eval,Act.put]) (by simp [Act.eval,Act.put]) (hcpB _ hF1 hF2 3 (G-(i+m)) (c-i)) ?_)
 go_wp2
 go_ret
 exact⟨rfl,rfl⟩
theorem call67_Spot:Callable Tryz.prog 105:=⟨_,Tryz.func105,by kernel_rfl,by kernel_rfl⟩
set_option maxRecDepth 100000 in
theorem ins67_Spot:InsOk Tryz.prog 105 3 32:=by
 obtain⟨i0,hi0,hz,hby,zv,hz0,hzs⟩:=iP_Spot
 refine⟨call67_Spot,by decide,fun w A n c i vb m vc cs vs hin hnc hroom hm hcl hvl hn0 hA hvs h1c h1v hb h63=>?_,fun w b n c i vb m vc cs vs arr ty arrv tyv hin hn hroom hc63 hm hne hh hcap hhv hcl hvl hca hva h1c h1v=>?_⟩
 ·have hb':(n+m)*i0.bytes≤140737488355328:=by rw [hby];exact hb
  have hvs':∀ j u,vs[j]?=some u→w.cell? ((⟨vb,0,none⟩:Addr).add j)=some u:=fun j u hj=>by rw [Addr.add_lit,Nat.zero_add];exact hvs j u hj
  by_cases hie:i=n
  ·
   subst hie
   have hrun:∃ oldc,∀ ty,(Builtin.append_ #[49,49] ty #[.slice A i c,.slice (some ⟨vb,0,none⟩) m vc]).run Tryz.prog w=.ok (.slice (some ⟨w.heap.size,0,none⟩) (i+m) (grownCap w (i+m) oldc 30))
     (w.drew.alloc (.cells (cs.toArray++vs.toArray++Builtin.zeroCells zv.cells (grownCap w (i+m) oldc 30-(i+m))) 30)):=by
    cases A with
    | none =>
     have hi0':i=0:=by
      rcases Nat.eq_zero_or_pos i with h | h
      ·exact h
      ·obtain⟨b,hb,_⟩:=hA h;cases hb
     subst hi0'
     have hc0:=hn0 rfl
     subst hc0
     have hcs0:cs=[]:=List.eq_nil_of_length_eq_zero (by omega)
     subst hcs0
     refine⟨0,fun ty=>?_⟩
     have:=run_append_nil (P:=Tryz.prog) w 49 ty 30 i0 zv uP_Spot hi0 hz0 ⟨vb,0,none⟩ m vc vs (by rw [hvl,hz]) hvs' hm (by omega) (by rw [Nat.zero_add] at hb';omega)
     simpa using this
    | some ad =>
     refine⟨c,fun ty=>?_⟩
     have hcs':∀ j u,cs[j]?=some u→w.cell? (ad.add j)=some u:=fun j u hj=>by
      have hlt:=(List.getElem?_eq_some_iff.1 hj).1
      obtain⟨b,hb,hcell⟩:=hA (by omega)
      injection hb with hb;subst hb
      rw [Addr.add_lit,Nat.zero_add];exact hcell j u hj
     exact run_append_grow (P:=Tryz.prog) w 49 ty 30 i0 zv uP_Spot hi0 hz0 ad i c cs (by rw [hcl,hz]) hcs' ⟨vb,0,none⟩ m vc vs (by rw [hvl,hz]) hvs' hroom (by omega) (growslice_fits hroom hb')
   obtain⟨oldc,hrun⟩:=hrun
   refine(ins_end_Spot i c m vc A (some ⟨vb,0,none⟩) w _ _ hm hnc hrun).mono fun e w' ⟨he,hw⟩=>?_
   generalize hG:grownCap w (i+m) oldc 30=ncap at he hw
   have hge:i+m≤ncap:=by rw [← hG];exact grownCap_ge _ _ _ _
   have hle:ncap≤9223372036854775807:=by rw [← hG];exact grownCap_le_maxLen _ _ _ _ (by simp only [maxLen];omega)
   subst hw
   refine⟨⟨rfl,rfl,rfl,by simp,fun b hb=>by first | exact heap_alloc_old w.drew _ b hb | exact heap_alloc_old w.drew _ hb⟩,w.heap.size,ncap,_,30,he,Nat.le_refl _,heap_alloc_new w.drew _,hge,hle,fun j u hj=>?_⟩
   have e1:cs.take (i*3)=cs:=List.take_of_length_le (by omega)
   have e2:cs.drop (i*3)=[]:=List.drop_eq_nil_of_le (by omega)
   rw [e1,e2,List.append_nil] at hj
   have hlt:=(List.getElem?_eq_some_iff.1 hj).1
   rw [Array.getElem?_append_left (by simpa using hlt),← hj]
   simp
  ·have hlt:i<n:=by omega
   obtain⟨b,hAb,hcell⟩:=hA (by omega)
   subst hAb
   refine(ins_grow_Spot i0 hi0 hz zv hz0 hzs b 0 n c i vb 0 m vc cs vs w hlt hm hnc hroom hb' h63 hcl hvl (fun j v hj=>by rw [Nat.zero_add];exact hcell j v hj) (fun j v hj=>by rw [Nat.zero_add];exact hvs j v hj) h1c h1v).mono fun e w' ⟨G,hG1,hG2,he,hw⟩=>?_
   generalize hR:(cs.take (i*3)).toArray++Builtin.zeroCells zv.cells (n+m-i)++Builtin.zeroCells zv.cells (G-(n+m))=ROW at hw
   have hRs:ROW.size=G*3-0:=by
    rw [← hR]
    simp only [Array.size_append,List.size_toArray,List.length_take,size_zc,hzs]
    omega
   have hdl:(cs.drop (i*3)).length=(n-i)*3:=by rw [List.length_drop];omega
   have g1:Grow w (w.alloc (.cells ROW 30)).drew:=⟨rfl,rfl,rfl,by simp,fun b hb=>by first | exact heap_alloc_old w _ b hb | exact heap_alloc_old w _ hb⟩
   have hh0:(w.alloc (.cells ROW 30)).drew.heap[w.heap.size]?=some (.cells ROW 30 (0,0)):=heap_alloc_new w _
   obtain⟨a1,p1,p2,p3,p4,⟨p5,p6,p7,p8⟩,p9⟩:=set1 w.heap.size vs (i*3) _ ROW 30 hh0 (by rw [hvl];omega)
   obtain⟨a2,s1,s2,s3,s4,⟨s5,s6,s7,s8⟩,s9⟩:=set1 w.heap.size (cs.drop (i*3)) ((i+m)*3) ((w.alloc (.cells ROW 30)).drew.setCells w.heap.size (i*3) vs).drew a1 30 p1 (by rw [hdl,p2];omega)
   rw [← hw] at s1 s5 s6 s7 s8 s9
   refine⟨⟨by rw [s5];exact p5.trans g1.os,by rw [s6];exact p6.trans g1.tape,by rw [s7];exact p7.trans g1.output,by rw [s8];show w.heap.size≤((w.alloc (.cells ROW 30)).drew.setCells w.heap.size (i*3) vs).heap.size;rw [p8];exact g1.size,fun b hb=>?_⟩,w.heap.size,G,a2,30,he,Nat.le_refl _,s1,hG1,hG2,fun j u hj=>?_⟩
   ·rw [s9 b (by omega)]
    show ((w.alloc (.cells ROW 30)).drew.setCells w.heap.size (i*3) vs).heap[b]?=_
    rw [p9 b (by omega)]
    exact g1.block b hb
   ·have htl:(cs.take (i*3)).length=i*3:=by rw [List.length_take];omega
    rcases list3 _ _ _ j u hj with ⟨q1,q2⟩ | ⟨k,rfl,q2⟩ | ⟨k,rfl,q2⟩
    ·rw [htl] at q1
     rw [s3 j (by omega),p3 j (by omega),← hR,Array.append_assoc,Array.getElem?_append_left (by simp only [List.size_toArray,htl];exact q1)]
     simpa using q2
    ·have hk:=(List.getElem?_eq_some_iff.1 q2).1
     rw [htl,s3 _ (by omega)]
     exact p4 k u q2
    ·rw [htl,hvl,show i*3+m*3+k=(i+m)*3+k by omega]
     exact s4 k u q2
 ·have hvs':∀ j u,vs[j]?=some u→w.cell? ⟨vb,0+j,none⟩=some u:=fun j u hj=>by
   rw [Nat.zero_add,cell_of_row w vb j arrv tyv (0,0) hhv];exact hva j u hj
  have hcs':∀ j u,cs[j]?=some u→w.cell? ⟨b,0+j,none⟩=some u:=fun j u hj=>by
   rw [Nat.zero_add,cell_of_row w b j arr ty (0,0) hh];exact hca j u hj
  have hfr:∀ k,w.frozen? ⟨b,k,none⟩=false:=fun k=>by simp [World.frozen?,hh]
  have hfrv:∀ k,w.frozen? ⟨vb,k,none⟩=false:=fun k=>by simp [World.frozen?,hhv]
  have hsome:∀ k,k<arr.size→(w.cell? ⟨b,k,none⟩).isSome=true:=fun k hk=>by
   rw [cell_of_row w b k arr ty (0,0) hh,Array.getElem?_eq_getElem hk];rfl
  by_cases hie:i=n
  ·subst hie
   have hrun:=fun ty'=>run_append_fit (P:=Tryz.prog) (ty:=ty') (w:=w) (b:=b) (off:=0) (n:=i) (cap:=c) (m:=m) (c:=vc) (a':=⟨vb,0,none⟩) (news:=vs) uP_Spot hi0 (by rw [hvl,hz]) (fun j u hj=>by rw [Addr.add_lit];exact hvs' j u hj) h1v hroom
    (fun j hj=>by rw [hz];exact hsome _ (by rw [hvl] at hj;omega)) (fun j hj=>hfr _)
   refine(ins_end_Spot i c m vc (some ⟨b,0,none⟩) (some ⟨vb,0,none⟩) w _ _ hm (by omega) hrun).mono fun e w' ⟨he,hw⟩=>?_
   rw [hz,Nat.zero_add] at hw
   obtain⟨a1,p1,p2,p3,p4,p5,p9⟩:=set1 b vs (i*3) w arr ty hh (by rw [hvl];omega)
   subst hw
   refine⟨he,p5,p9,a1,p1,p2,fun j u hj=>?_⟩
   have e1:cs.take (i*3)=cs:=List.take_of_length_le (by omega)
   have e2:cs.drop (i*3)=[]:=List.drop_eq_nil_of_le (by omega)
   rw [e1,e2] at hj
   rcases list3 _ _ _ j u hj with ⟨q1,q2⟩ | ⟨k,rfl,q2⟩ | ⟨k,rfl,q2⟩
   ·rw [p3 j (by omega)];exact hca j u q2
   ·rw [hcl];exact p4 k u q2
   ·simp at q2
  ·have hlt:i<n:=by omega
   have hdl:(cs.drop (i*3)).length=(n-i)*3:=by rw [List.length_drop];omega
   refine(ins_shift_Spot i0 hi0 hz b 0 n c i vb 0 m vc cs vs w hlt hm hroom hc63 hne hcl hvl hcs' (fun j hj=>by rw [Nat.zero_add];exact hsome _ (by omega)) (fun j hj=>hfr _) hvs' h1c h1v tyv ty arrv.size arr.size (by simp [World.shape?,hhv]) (by simp [World.shape?,hh]) (by omega) (hfrv _) (hfrv _)).mono fun e w' ⟨he,hw⟩=>?_
   rw [Nat.zero_add,Nat.zero_add] at hw
   obtain⟨a1,p1,p2,p3,p4,⟨p5,p6,p7,p8⟩,p9⟩:=set1 b (cs.drop (i*3)) ((i+m)*3) w.drew arr ty hh (by rw [hdl];omega)
   obtain⟨a2,s1,s2,s3,s4,⟨s5,s6,s7,s8⟩,s9⟩:=set1 b vs (i*3) _ a1 ty p1 (by rw [hvl,p2];omega)
   subst hw
   refine⟨he,⟨s5.trans p5,s6.trans p6,s7.trans p7,s8.trans p8⟩,fun k hk=>(s9 k hk).trans (p9 k hk),a2,s1,s2.trans p2,fun j u hj=>?_⟩
   have htl:(cs.take (i*3)).length=i*3:=by rw [List.length_take];omega
   rcases list3 _ _ _ j u hj with ⟨q1,q2⟩ | ⟨k,rfl,q2⟩ | ⟨k,rfl,q2⟩
   ·rw [htl] at q1
    rw [List.getElem?_take,if_pos q1] at q2
    rw [s3 j (by omega),p3 j (by omega)];exact hca j u q2
   ·have hk:=(List.getElem?_eq_some_iff.1 q2).1
    rw [htl]
    exact s4 k u q2
   ·have hk:=(List.getElem?_eq_some_iff.1 q2).1
    rw [htl,hvl,s3 _ (by rw [hvl];omega),show i*3+m*3+k=(i+m)*3+k by omega]
    exact p4 k u q2
theorem uP_Note:Tryz.prog.underlying 46=some (.slice 34):=by kernel_rfl
theorem iP_Note:∃ i0:TypeInfo,Tryz.prog.info? 34=some i0∧i0.size=7∧i0.bytes=64∧∃ zv,i0.zero=some zv∧zv.cells.size=7:=by
 have h:(match Tryz.prog.info? 34 with | some i=>(i.size == 7)&&((i.bytes == 64)&&(match i.zero with | some zv=>zv.cells.size == 7 | none=>false)) | none=>false)=true:=by kernel_rfl
 split at h
 ·rename_i i hi
  simp only [Bool.and_eq_true,beq_iff_eq] at h
  obtain⟨h1,h2,h3⟩:=h
  split at h3
  ·rename_i zv hz
   exact⟨i,hi,h1,h2,zv,hz,by simpa using h3⟩
  ·cases h3
 ·cases h
set_option maxHeartbeats 4000000 in
set_option maxRecDepth 100000 in
theorem clone_nil_Note(c:Nat) (w:World):Calls Tryz.prog 118 #[.slice none 0 c] w fun e w'=>e=.returned (.slice none 0 0)∧w'=w:=by
 have mixed:=mixed0
 have q22:∀ (w:World) (a:Option Addr) (n c n' c':Nat),(binOp .eql 46 (.slice a n c) (.slice none n' c')).run Tryz.prog w=.ok (.bool a.isNone) w:=fun w a n c n' c'=>Lib.run_eql_slice_nil w _ _ a n c n' c' uP_Note
 go_enter Tryz.func118,Tryz.ntmps118
 go_wp2
 go_ret
 exact⟨rfl,rfl⟩
set_option maxHeartbeats 4000000 in
set_option maxRecDepth 100000 in
theorem clone_some_Note(ad:Addr) (n c:Nat) (w w2:World) (v2:Value) (hrun:∀ ty,(Builtin.append_ #[46,46] ty #[.slice (some ⟨w.heap.size,0,none⟩) 0 0,.slice (some ad) n c]).run Tryz.prog (w.alloc (.cells #[] 34))=.ok v2 w2) :
  Calls Tryz.prog 118 #[.slice (some ad) n c] w fun e w'=>e=.returned v2∧w'=w2:=by
 have mixed:=mixed0
 have q22:∀ (w:World) (a:Option Addr) (n c n' c':Nat),(binOp .eql 46 (.slice a n c) (.slice none n' c')).run Tryz.prog w=.ok (.bool a.isNone) w:=fun w a n c n' c'=>Lib.run_eql_slice_nil w _ _ a n c n' c' uP_Note
 go_enter Tryz.func118,Tryz.ntmps118
 go_wp2_with (at_builtin;refine Lib.wpList_append_run _ rfl _ _ _ _ rfl _ _ rfl rfl _ _ (hrun _) ?_)
 go_ret
 exact⟨rfl,rfl⟩
theorem call68_Note:Callable Tryz.prog 118:=⟨_,Tryz.func118,by kernel_rfl,by kernel_rfl⟩
theorem clone68_Note:CloneOk Tryz.prog 118 7 64:=by
 obtain⟨i0,hi0,hz,hby,zv,hz0,hzs⟩:=iP_Note
 refine⟨call68_Note,by decide,fun w A n c cs hnc hc hl hA hcs h1 hb=>?_⟩
 cases A with
 | none =>
  have h0:=hA rfl
  subst h0
  exact(clone_nil_Note c w).mono fun e w' ⟨he,hw⟩=>by subst hw;exact⟨Grow.refl w',.inl ⟨rfl,none,he⟩⟩
 | some ad =>
  have g1:Grow w (w.alloc (.cells #[] 34)):=Grow.alloc w _
  rcases Nat.eq_zero_or_pos n with h0 | h0
  ·subst h0
   have hrun:=fun ty=>run_append_zero (P:=Tryz.prog) (t:=46) (ty:=ty) (w:=w.alloc (.cells #[] 34)) (A:=some ⟨w.heap.size,0,none⟩) (A':=some ad) (n:=0) (cap:=0) (c:=c) uP_Note hi0 (Nat.le_refl 0)
   exact(clone_some_Note ad 0 c w _ _ hrun).mono fun e w' ⟨he,hw⟩=>by subst hw;exact⟨g1,.inl ⟨rfl,_,he⟩⟩
  ·have hcell:∀ j u,cs[j]?=some u→(w.alloc (.cells #[] 34)).cell? (ad.add j)=some u:=fun j u hj=>by
    have h:=hcs ad rfl j u hj
    have hlt:=World.block_lt_of_cell? w _ (by rw [h])
    rw [g1.cell hlt];exact h
   have hb':(0+n)*i0.bytes≤140737488355328:=by rw [hby,Nat.zero_add];exact hb
   have hrun:=fun ty=>run_append_grow (P:=Tryz.prog) (w.alloc (.cells #[] 34)) 46 ty 34 i0 zv uP_Note hi0 hz0 ⟨w.heap.size,0,none⟩ 0 0 [] (by simp) (by simp) ad n c cs (by rw [hl,hz]) hcell (by omega) (by omega) (growslice_fits (by omega) hb')
   refine(clone_some_Note ad n c w _ _ hrun).mono fun e w' ⟨he,hw⟩=>?_
   generalize hG:grownCap (w.alloc (.cells #[] 34)) (0+n) 0 34=ncap at he hw
   have hge:0+n≤ncap:=by rw [← hG];exact grownCap_ge _ _ _ _
   have hle:ncap≤9223372036854775807:=by rw [← hG];exact grownCap_le_maxLen _ _ _ _ (by simp only [maxLen];omega)
   subst hw
   refine⟨⟨rfl,rfl,rfl,by simp;omega,fun b hb=>?_⟩,.inr ⟨h0,(w.alloc (.cells #[] 34)).heap.size,ncap,_,34,by simpa using he,by simp,heap_alloc_new (w.alloc (.cells #[] 34)).drew _,by omega,hle,?_,fun j u hj=>?_⟩⟩
   ·have e1:=g1.block b hb
    rw [← e1]
    have hlt:b<(w.alloc (.cells #[] 34)).drew.heap.size:=by simp;omega
    first | exact heap_alloc_old (w.alloc (.cells #[] 34)).drew _ b hlt | exact heap_alloc_old (w.alloc (.cells #[] 34)).drew _ hlt
   ·simp only [Array.size_append,List.size_toArray,size_zc,hzs,List.length_nil,hl]
    have:ncap*7=n*7+(ncap-(0+n))*7:=by omega
    omega
   ·have hlt:=(List.getElem?_eq_some_iff.1 hj).1
    rw [Array.getElem?_append_left (by simp;exact hlt)]
    simpa using hj
set_option maxHeartbeats 4000000 in
set_option maxRecDepth 100000 in
theorem ins_end_Note(n c m vc:Nat) (A B:Option Addr) (w w2:World) (v2:Value) (hm:0<m) (hnc:n≤c)
  (hrun:∀ ty,(Builtin.append_ #[46,46] ty #[.slice A n c,.slice B m vc]).run Tryz.prog w=.ok v2 w2) :
  Calls Tryz.prog 117 #[.slice A n c,.int .i64 n,.slice B m vc] w fun e w'=>e=.returned v2∧w'=w2:=by
 have mixed:=mixed0
 have hz1:¬ ((m:Int)=0):=by omega
 go_enter Tryz.func117,Tryz.ntmps117
 cases A with
 | none =>
  go_wp2_with (at_builtin;refine Lib.wpList_append_run _ rfl _ _ _ _ rfl _ _ rfl rfl _ _ (hrun _) ?_)
  go_ret
  exact⟨rfl,rfl⟩
 | some a =>
  obtain⟨ab,ao,asp⟩:=a
  go_wp2_with (at_builtin;refine Lib.wpList_append_run _ rfl _ _ _ _ rfl _ _ rfl rfl _ _ (hrun _) ?_)
  all_goals (go_ret;exact⟨rfl,rfl⟩)
set_option maxHeartbeats 4000000 in
set_option maxRecDepth 100000 in
theorem ins_shift_Note(i0:TypeInfo) (hi0:Tryz.prog.info? 34=some i0) (hz:i0.size=7) (b off n c i vb voff m vc:Nat) (cs vs:List Value) (w:World) (hi:i<n) (hm:0<m) (hroom:n+m≤c) (hc63:c≤9223372036854775807) (hvb:vb≠b)
  (hcl:cs.length=n*7) (hvl:vs.length=m*7)
  (hcs:∀ j v,cs[j]?=some v→w.cell? ⟨b,off+j,none⟩=some v) (hsp:∀ j,j<(n+m)*7→(w.cell? ⟨b,off+j,none⟩).isSome=true) (hfz:∀ j,j<(n+m)*7→w.frozen? ⟨b,off+j,none⟩=false)
  (hvs:∀ j v,vs[j]?=some v→w.cell? ⟨vb,voff+j,none⟩=some v) (h1c:∀ v∈cs,v.oneCell'=true) (h1v:∀ v∈vs,v.oneCell'=true)
  (tA tB:TypeId) (kA kB:Nat) (hsa:w.shape? vb=some (tA,kA)) (hsb:w.shape? b=some (tB,kB)) (hkB:kB≠0) (hfa:w.frozen? ⟨vb,voff,none⟩=false) (hfe:w.frozen? ⟨vb,kA,none⟩=false) :
  Calls Tryz.prog 117 #[.slice (some ⟨b,off,none⟩) n c,.int .i64 i,.slice (some ⟨vb,voff,none⟩) m vc] w fun e w' =>
   e=.returned (.slice (some ⟨b,off,none⟩) (n+m) c)∧w'=(w.drew.setCells b (off+(i+m)*7) (cs.drop (i*7))).setCells b (off+i*7) vs:=by
 have mixed:=mixed0
 have hz1:¬ ((m:Int)=0):=by omega
 have hz2:¬ ((i:Int)=(n:Int)):=by omega
 have hov:∀ lb cb,(callFunc 144 #[.slice (some ⟨vb,voff,none⟩) m vc,.slice (some ⟨b,off+(i+m)*7,none⟩) lb cb]).run Tryz.prog w=.ok (.value (.bool false)) w:=fun lb cb=>by
  rw [run_callFunc_extern Tryz.func144 (by kernel_rfl) (by kernel_rfl) (by kernel_rfl) (e:=Extern.SlicesOverlaps.overlaps #[46,46] #[4]) (by kernel_rfl),
   Lib.run_overlaps_apart w 46 4 34 uP_Note 7 (fun w=>by simp [sizeOf,typeInfo,hi0,hz]) ⟨vb,voff,none⟩ ⟨b,off+(i+m)*7,none⟩ m vc lb cb hvb tA tB kA kB hsa hsb hkB hfa hfe]
  rfl
 have hdl:(cs.drop (i*7)).length=(n-i)*7:=by rw [List.length_drop,hcl,Nat.sub_mul]
 have hmul:(n+m)*7=i*7+(n-i)*7+m*7:=by rw [← Nat.add_mul,← Nat.add_mul];congr 1;omega
 have hmul2:(i+m)*7=i*7+m*7:=Nat.add_mul _ _ _
 have hw1:IntKind.i64.wrap ((i:Int)+(m:Int))=(i:Int)+(m:Int):=by rw [IntKind.wrap_i64];omega
 have hb1:(0:Int)≤(i:Int)+(m:Int):=by omega
 have hin:i≤n:=by omega
 have htn:((i:Int)+(m:Int)).toNat=i+m:=by omega
 have hb2:¬ (c=i+m):=by omega
 have hb3:(i:Int)≤(n:Int)+(m:Int):=by omega
 have hb4:¬ (c=i):=by omega
 have hcp1:∀ ty dc sc,(Builtin.copy_ #[46,46] ty #[.slice (some ⟨b,off+(i+m)*7,none⟩) (n+m-(i+m)) dc,.slice (some ⟨b,off+i*7,none⟩) (n+m-i) sc]).run Tryz.prog w.drew=.ok (goInt (Nat.min (n+m-i) (n+m-(i+m)))) (w.drew.setCells b (off+(i+m)*7) (cs.drop (i*7))):=fun ty dc sc =>
  run_copy' w.drew _ _ ty 34 b (off+(i+m)*7) (n+m-(i+m)) dc ⟨b,off+i*7,none⟩ (n+m-i) sc (cs.drop (i*7)) uP_Note hi0 (by rw [hdl,hz];congr 1;simp only [Nat.min_def];split <;> omega)
   (fun j v hj=>by rw [Addr.add_lit,Nat.add_assoc];exact hcs (i*7+j) v (by rwa [List.getElem?_drop] at hj))
   (fun j hj=>by rw [Nat.add_assoc];exact hsp _ (by rw [hdl] at hj;omega)) (fun j hj=>by rw [Nat.add_assoc];exact hfz _ (by rw [hdl] at hj;omega)) (fun v hv=>h1c v (List.mem_of_mem_drop hv))
 obtain⟨W1,hW1⟩:∃ W1,W1=w.drew.setCells b (off+(i+m)*7) (cs.drop (i*7)):=⟨_,rfl⟩
 have hsp1:∀ k,k<(n+m)*7→(W1.cell? ⟨b,off+k,none⟩).isSome=true:=fun k hk=>by
  rw [hW1]
  exact isSome_set b _ _ _ (fun j hj=>by rw [Nat.add_assoc];exact hsp _ (by rw [hdl] at hj;omega)) _ (hsp k hk)
 have hcp2:∀ (W:World),(∀ x,W.cell? x=W1.cell? x)→(∀ x,W.frozen? x=W1.frozen? x)→∀ ty dc,(Builtin.copy_ #[46,46] ty #[.slice (some ⟨b,off+i*7,none⟩) (n+m-i) dc,.slice (some ⟨vb,voff,none⟩) m vc]).run Tryz.prog W=.ok (goInt (Nat.min m (n+m-i))) (W.setCells b (off+i*7) vs):=fun W hWc hWf ty dc =>
  run_copy' W _ _ ty 34 b (off+i*7) (n+m-i) dc ⟨vb,voff,none⟩ m vc vs uP_Note hi0 (by rw [hvl,hz];congr 1;simp only [Nat.min_def];split <;> omega)
   (fun j v hj=>by
    rw [Addr.add_lit,hWc,hW1,World.cell?_setCells_out b _ _ _ _ (fun h _=>absurd h hvb)]
    exact hvs j v hj)
   (fun j hj=>by rw [hWc,Nat.add_assoc];exact hsp1 _ (by rw [hvl] at hj;omega)) (fun j hj=>by rw [hWf,hW1,World.frozen?_setCells,Nat.add_assoc];exact hfz _ (by rw [hvl] at hj;omega)) h1v
 rw [← hW1] at hcp1
 have hsz6:(sizeOf 34).run Tryz.prog w=.ok 7 w:=by simp [sizeOf,typeInfo,hi0,hz]
 clear hmul hmul2 hdl hcl hvl
 go_enter Tryz.func117,Tryz.ntmps117
 go_wp2_with (simp only [hov])
 go_region_law_o (refine step_copy_runI rfl _ _ 46 46 rfl _ _ (by simp [Act.eval,Act.put]) (by simp [Act.eval,Act.put]) (hcp1 _ _ _) ?_)
 go_wp2_with (at_builtin;refine wpList_copy_runI _ rfl _ _ 46 46 rfl _ _ rfl rfl (hcp2 _ (fun _=>rfl) (fun _=>rfl) _ _) ?_)
 go_ret
 first | exact⟨rfl,rfl⟩ | exact⟨rfl,by rw [hW1]⟩
set_option maxHeartbeats 4000000 in
set_option maxRecDepth 100000 in
theorem ins_grow_Note(i0:TypeInfo) (hi0:Tryz.prog.info? 34=some i0) (hz:i0.size=7) (zv:Value) (hz0:i0.zero=some zv) (hzs:zv.cells.size=7) (b off n c i vb voff m vc:Nat) (cs vs:List Value) (w:World) (hi:i<n) (hm:0<m) (hnc:n≤c) (hroom:c<n+m)
  (hbig:(n+m)*i0.bytes≤140737488355328) (h63:n+m≤9223372036854775807)
  (hcl:cs.length=n*7) (hvl:vs.length=m*7)
  (hcs:∀ j v,cs[j]?=some v→w.cell? ⟨b,off+j,none⟩=some v)
  (hvs:∀ j v,vs[j]?=some v→w.cell? ⟨vb,voff+j,none⟩=some v) (h1c:∀ v∈cs,v.oneCell'=true) (h1v:∀ v∈vs,v.oneCell'=true) :
  Calls Tryz.prog 117 #[.slice (some ⟨b,off,none⟩) n c,.int .i64 i,.slice (some ⟨vb,voff,none⟩) m vc] w fun e w' =>
   ∃ G,n+m≤G∧G≤9223372036854775807∧e=.returned (.slice (some ⟨w.heap.size,0,none⟩) (n+m) G) ∧
   w'=(((w.alloc (.cells ((cs.take (i*7)).toArray++Builtin.zeroCells zv.cells (n+m-i)++Builtin.zeroCells zv.cells (G-(n+m))) 34)).drew.setCells w.heap.size (i*7) vs).drew).setCells w.heap.size ((i+m)*7) (cs.drop (i*7)):=by
 have mixed:=mixed0
 have hz1:¬ ((m:Int)=0):=by omega
 have hz2:¬ ((i:Int)=(n:Int)):=by omega
 have hz3:(c:Int)<(n:Int)+(m:Int):=by omega
 have hbw:b<w.heap.size:=block_lt_of_cell (hcs 0 _ (List.getElem?_eq_getElem (by omega)))
 have hvw:vb<w.heap.size:=block_lt_of_cell (hvs 0 _ (List.getElem?_eq_getElem (by omega)))
 have hkk:(n:Int)+(m:Int)-(i:Int)=((n+m-i:Nat):Int):=by omega
 have hik:i+(n+m-i)=n+m:=by omega
 have hold:(Builtin.firstCells i0.size i (.slice (some ⟨b,off,none⟩) i c)).run Tryz.prog w.drew=.ok (cs.take (i*7)).toArray w.drew:=by
  rw [hz]
  exact run_firstCells_some w.drew 7 i ⟨b,off,none⟩ i c (cs.take (i*7)) (by rw [List.length_take];omega) (fun j v hj=>by
   rw [Addr.add_lit]
   rw [List.getElem?_take] at hj
   split at hj
   ·exact hcs j v hj
   ·cases hj)
 have hb6:(n+m-i)*i0.bytes≤(n+m)*i0.bytes:=Nat.mul_le_mul_right _ (by omega)
 have hrz:∀ ty,(Builtin.append_ #[46,3] ty #[.slice (some ⟨b,off,none⟩) i c,.int .i64 ((n:Int)+(m:Int)-(i:Int))]).run Tryz.prog w =
   .ok (.slice (some ⟨w.heap.size,0,none⟩) (n+m) (grownCap w (n+m) c 34)) (w.drew.alloc (.cells ((cs.take (i*7)).toArray++Builtin.zeroCells zv.cells (n+m-i)++Builtin.zeroCells zv.cells (grownCap w (n+m) c 34-(n+m))) 34)):=fun ty=>by
  have h:=Lib.run_append_grow_zeros w 46 3 ty 34 i0 _ .i64 .i64 uP_Note uI hi0 hz0 (some ⟨b,off,none⟩) i c (cs.take (i*7)) hold (n+m-i) (by omega) (by omega) (by omega) (by omega) (by omega) (by rw [hik];exact growslice_fits hroom hbig)
  rw [hik] at h
  rw [hkk]
  exact h
 obtain⟨G,hG⟩:∃ G,G=grownCap w (n+m) c 34:=⟨_,rfl⟩
 obtain⟨ROW,hROW⟩:∃ ROW:Array Value,ROW=(cs.take (i*7)).toArray++Builtin.zeroCells zv.cells (n+m-i)++Builtin.zeroCells zv.cells (G-(n+m)):=⟨_,rfl⟩
 rw [← hG] at hrz
 rw [← hROW] at hrz
 have hRl:(n+m)*7≤ROW.size:=by
  rw [hROW]
  simp only [Array.size_append,List.size_toArray,List.length_take,size_zc,hzs]
  omega
 obtain⟨W1,hW1⟩:∃ W1,W1=w.drew.alloc (.cells ROW 34):=⟨_,rfl⟩
 rw [← hW1] at hrz
 have hN:∀ j,j<(n+m)*7→(W1.cell? ⟨w.heap.size,j,none⟩).isSome=true:=fun j hj=>by
  rw [hW1,World.cell?_alloc_at (w:=w.drew) ROW _ w.heap.size j rfl,Array.getElem?_eq_getElem (by omega)];rfl
 have hNf:∀ j,W1.frozen? ⟨w.heap.size,j,none⟩=false:=fun j=>by rw [hW1];exact World.frozen?_alloc_at (w:=w.drew) ROW _ w.heap.size j rfl
 have hOb:∀ j v,w.cell? ⟨b,j,none⟩=some v→W1.cell? ⟨b,j,none⟩=some v:=fun j v h=>by rw [hW1,World.cell?_alloc_past (w:=w.drew) _ b j hbw];exact h
 have hOv:∀ j v,w.cell? ⟨vb,j,none⟩=some v→W1.cell? ⟨vb,j,none⟩=some v:=fun j v h=>by rw [hW1,World.cell?_alloc_past (w:=w.drew) _ vb j hvw];exact h
 have hcpA:∀ (W:World),(∀ x,W.cell? x=W1.cell? x)→(∀ x,W.frozen? x=W1.frozen? x)→∀ ty dc,(Builtin.copy_ #[46,46] ty #[.slice (some ⟨w.heap.size,i*7,none⟩) (n+m-i) dc,.slice (some ⟨vb,voff,none⟩) m vc]).run Tryz.prog W=.ok (goInt (Nat.min m (n+m-i))) (W.setCells w.heap.size (i*7) vs):=fun W hWc hWf ty dc =>
  run_copy' W _ _ ty 34 w.heap.size (i*7) (n+m-i) dc ⟨vb,voff,none⟩ m vc vs uP_Note hi0 (by rw [hvl,hz];congr 1;simp only [Nat.min_def];split <;> omega)
   (fun j v hj=>by rw [Addr.add_lit,hWc];exact hOv _ v (hvs j v hj))
   (fun j hj=>by rw [hWc];exact hN _ (by omega)) (fun j hj=>by rw [hWf];exact hNf _) h1v
 have hGn:n+m≤G:=by rw [hG];exact grownCap_ge w _ _ _
 have hG63:G≤9223372036854775807:=by
  have:=grownCap_le_maxLen w (n+m) c 34 (by unfold maxLen;omega)
  rw [← hG] at this
  unfold maxLen at this
  omega
 have hGi:¬ (G=i):=by omega
 have hGim:¬ (G=i+m):=by omega
 have hci:¬ (c=i):=by omega
 have hbN:b≠w.heap.size:=by omega
 have hdl:(cs.drop (i*7)).length=(n-i)*7:=by rw [List.length_drop];omega
 have hcpB:∀ (W:World),(∀ x,W.cell? x=(W1.setCells w.heap.size (i*7) vs).cell? x)→(∀ x,W.frozen? x=(W1.setCells w.heap.size (i*7) vs).frozen? x)→∀ ty dc sc,(Builtin.copy_ #[46,46] ty #[.slice (some ⟨w.heap.size,(i+m)*7,none⟩) (n+m-(i+m)) dc,.slice (some ⟨b,off+i*7,none⟩) (n-i) sc]).run Tryz.prog W=.ok (goInt (Nat.min (n-i) (n+m-(i+m)))) (W.setCells w.heap.size ((i+m)*7) (cs.drop (i*7))):=fun W hWc hWf ty dc sc =>
  run_copy' W _ _ ty 34 w.heap.size ((i+m)*7) (n+m-(i+m)) dc ⟨b,off+i*7,none⟩ (n-i) sc (cs.drop (i*7)) uP_Note hi0 (by rw [hdl,hz];congr 1;simp only [Nat.min_def];split <;> omega)
   (fun j v hj=>by
    rw [Addr.add_lit,hWc,World.cell?_setCells_out _ _ _ _ _ (fun h _=>absurd h hbN),Nat.add_assoc]
    exact hOb _ v (hcs (i*7+j) v (by rwa [List.getElem?_drop] at hj)))
   (fun j hj=>by rw [hWc];exact isSome_set _ _ _ _ (fun t ht=>hN _ (by omega)) _ (hN _ (by rw [hdl] at hj;omega)))
   (fun j hj=>by rw [hWf,World.frozen?_setCells];exact hNf _) (fun v hv=>h1c v (List.mem_of_mem_drop hv))
 subst hW1
 have hE1:∀ x,((w.alloc (.cells ROW 34)).drew).cell? x=(w.drew.alloc (.cells ROW 34)).cell? x:=fun x=>rfl
 have hE2:∀ x,((w.alloc (.cells ROW 34)).drew).frozen? x=(w.drew.alloc (.cells ROW 34)).frozen? x:=fun x=>rfl
 have hF1:∀ x,(((w.alloc (.cells ROW 34)).drew.setCells w.heap.size (i*7) vs).drew).cell? x=((w.drew.alloc (.cells ROW 34)).setCells w.heap.size (i*7) vs).cell? x:=fun x=>rfl
 have hF2:∀ x,(((w.alloc (.cells ROW 34)).drew.setCells w.heap.size (i*7) vs).drew).frozen? x=((w.drew.alloc (.cells ROW 34)).setCells w.heap.size (i*7) vs).frozen? x:=fun x=>rfl
 have hw1:IntKind.i64.wrap ((i:Int)+(m:Int))=(i:Int)+(m:Int):=by rw [IntKind.wrap_i64];omega
 have hb1:(0:Int)≤(i:Int)+(m:Int):=by omega
 have hin:i≤n:=by omega
 have htn:((i:Int)+(m:Int)).toNat=i+m:=by omega
 have hb3:(i:Int)≤(n:Int):=by omega
 suffices hmain:Calls Tryz.prog 117 #[.slice (some ⟨b,off,none⟩) n c,.int .i64 i,.slice (some ⟨vb,voff,none⟩) m vc] w fun e w' =>
   e=.returned (.slice (some ⟨w.heap.size,0,none⟩) (n+m) G)∧w'=(((w.alloc (.cells ROW 34)).drew.setCells w.heap.size (i*7) vs).drew).setCells w.heap.size ((i+m)*7) (cs.drop (i*7)) by
  refine hmain.mono fun e w' ⟨h1,h2⟩=>⟨G,hGn,hG63,h1,by rw [h2,hROW]⟩
 clear hkk hik hold hROW hG hRl hcl hvl hdl hb6 hbig hzs hz
 go_enter Tryz.func117,Tryz.ntmps117
 go_wp2_with (first
  | (at_builtin;refine Lib.wpList_append_run _ rfl _ _ _ _ rfl _ _ rfl rfl _ _ (hrz _) ?_)
  | (at_builtin;refine wpList_copy_runI _ rfl _ _ 46 46 rfl _ _ rfl rfl (hcpA _ hE1 hE2 _ _) ?_)
  | (at_builtin;refine wpList_copy_runI _ rfl _ _ 46 46 rfl _ _ rfl rfl (hcpB _ (fun _=>rfl) (fun _=>rfl) _ _ _) ?_))
 go_region_law_o (refine step_copy_runI rfl _ _ 46 46 rfl (.slice (some ⟨w.heap.size,(i+m)*7,none⟩) (n+m-(i+m)) (G-(i+m))) (.slice (some ⟨b,off+i*7,none⟩) (n-i) (c-i)) (by simp [Act.eval,Act.put]) (by simp [Act.eval,Act.put]) (hcpB _ hF1 hF2 3 (G-(i+m)) (c-i)) ?_)
 go_wp2
 go_ret
 exact⟨rfl,rfl⟩
theorem call67_Note:Callable Tryz.prog 117:=⟨_,Tryz.func117,by kernel_rfl,by kernel_rfl⟩
set_option maxRecDepth 100000 in
theorem ins67_Note:InsOk Tryz.prog 117 7 64:=by
 obtain⟨i0,hi0,hz,hby,zv,hz0,hzs⟩:=iP_Note
 refine⟨call67_Note,by decide,fun w A n c i vb m vc cs vs hin hnc hroom hm hcl hvl hn0 hA hvs h1c h1v hb h63=>?_,fun w b n c i vb m vc cs vs arr ty arrv tyv hin hn hroom hc63 hm hne hh hcap hhv hcl hvl hca hva h1c h1v=>?_⟩
 ·have hb':(n+m)*i0.bytes≤140737488355328:=by rw [hby];exact hb
  have hvs':∀ j u,vs[j]?=some u→w.cell? ((⟨vb,0,none⟩:Addr).add j)=some u:=fun j u hj=>by rw [Addr.add_lit,Nat.zero_add];exact hvs j u hj
  by_cases hie:i=n
  ·
   subst hie
   have hrun:∃ oldc,∀ ty,(Builtin.append_ #[46,46] ty #[.slice A i c,.slice (some ⟨vb,0,none⟩) m vc]).run Tryz.prog w=.ok (.slice (some ⟨w.heap.size,0,none⟩) (i+m) (grownCap w (i+m) oldc 34))
     (w.drew.alloc (.cells (cs.toArray++vs.toArray++Builtin.zeroCells zv.cells (grownCap w (i+m) oldc 34-(i+m))) 34)):=by
    cases A with
    | none =>
     have hi0':i=0:=by
      rcases Nat.eq_zero_or_pos i with h | h
      ·exact h
      ·obtain⟨b,hb,_⟩:=hA h;cases hb
     subst hi0'
     have hc0:=hn0 rfl
     subst hc0
     have hcs0:cs=[]:=List.eq_nil_of_length_eq_zero (by omega)
     subst hcs0
     refine⟨0,fun ty=>?_⟩
     have:=run_append_nil (P:=Tryz.prog) w 46 ty 34 i0 zv uP_Note hi0 hz0 ⟨vb,0,none⟩ m vc vs (by rw [hvl,hz]) hvs' hm (by omega) (by rw [Nat.zero_add] at hb';omega)
     simpa using this
    | some ad =>
     refine⟨c,fun ty=>?_⟩
     have hcs':∀ j u,cs[j]?=some u→w.cell? (ad.add j)=some u:=fun j u hj=>by
      have hlt:=(List.getElem?_eq_some_iff.1 hj).1
      obtain⟨b,hb,hcell⟩:=hA (by omega)
      injection hb with hb;subst hb
      rw [Addr.add_lit,Nat.zero_add];exact hcell j u hj
     exact run_append_grow (P:=Tryz.prog) w 46 ty 34 i0 zv uP_Note hi0 hz0 ad i c cs (by rw [hcl,hz]) hcs' ⟨vb,0,none⟩ m vc vs (by rw [hvl,hz]) hvs' hroom (by omega) (growslice_fits hroom hb')
   obtain⟨oldc,hrun⟩:=hrun
   refine(ins_end_Note i c m vc A (some ⟨vb,0,none⟩) w _ _ hm hnc hrun).mono fun e w' ⟨he,hw⟩=>?_
   generalize hG:grownCap w (i+m) oldc 34=ncap at he hw
   have hge:i+m≤ncap:=by rw [← hG];exact grownCap_ge _ _ _ _
   have hle:ncap≤9223372036854775807:=by rw [← hG];exact grownCap_le_maxLen _ _ _ _ (by simp only [maxLen];omega)
   subst hw
   refine⟨⟨rfl,rfl,rfl,by simp,fun b hb=>by first | exact heap_alloc_old w.drew _ b hb | exact heap_alloc_old w.drew _ hb⟩,w.heap.size,ncap,_,34,he,Nat.le_refl _,heap_alloc_new w.drew _,hge,hle,fun j u hj=>?_⟩
   have e1:cs.take (i*7)=cs:=List.take_of_length_le (by omega)
   have e2:cs.drop (i*7)=[]:=List.drop_eq_nil_of_le (by omega)
   rw [e1,e2,List.append_nil] at hj
   have hlt:=(List.getElem?_eq_some_iff.1 hj).1
   rw [Array.getElem?_append_left (by simpa using hlt),← hj]
   simp
  ·have hlt:i<n:=by omega
   obtain⟨b,hAb,hcell⟩:=hA (by omega)
   subst hAb
   refine(ins_grow_Note i0 hi0 hz zv hz0 hzs b 0 n c i vb 0 m vc cs vs w hlt hm hnc hroom hb' h63 hcl hvl (fun j v hj=>by rw [Nat.zero_add];exact hcell j v hj) (fun j v hj=>by rw [Nat.zero_add];exact hvs j v hj) h1c h1v).mono fun e w' ⟨G,hG1,hG2,he,hw⟩=>?_
   generalize hR:(cs.take (i*7)).toArray++Builtin.zeroCells zv.cells (n+m-i)++Builtin.zeroCells zv.cells (G-(n+m))=ROW at hw
   have hRs:ROW.size=G*7-0:=by
    rw [← hR]
    simp only [Array.size_append,List.size_toArray,List.length_take,size_zc,hzs]
    omega
   have hdl:(cs.drop (i*7)).length=(n-i)*7:=by rw [List.length_drop];omega
   have g1:Grow w (w.alloc (.cells ROW 34)).drew:=⟨rfl,rfl,rfl,by simp,fun b hb=>by first | exact heap_alloc_old w _ b hb | exact heap_alloc_old w _ hb⟩
   have hh0:(w.alloc (.cells ROW 34)).drew.heap[w.heap.size]?=some (.cells ROW 34 (0,0)):=heap_alloc_new w _
   obtain⟨a1,p1,p2,p3,p4,⟨p5,p6,p7,p8⟩,p9⟩:=set1 w.heap.size vs (i*7) _ ROW 34 hh0 (by rw [hvl];omega)
   obtain⟨a2,s1,s2,s3,s4,⟨s5,s6,s7,s8⟩,s9⟩:=set1 w.heap.size (cs.drop (i*7)) ((i+m)*7) ((w.alloc (.cells ROW 34)).drew.setCells w.heap.size (i*7) vs).drew a1 34 p1 (by rw [hdl,p2];omega)
   rw [← hw] at s1 s5 s6 s7 s8 s9
   refine⟨⟨by rw [s5];exact p5.trans g1.os,by rw [s6];exact p6.trans g1.tape,by rw [s7];exact p7.trans g1.output,by rw [s8];show w.heap.size≤((w.alloc (.cells ROW 34)).drew.setCells w.heap.size (i*7) vs).heap.size;rw [p8];exact g1.size,fun b hb=>?_⟩,w.heap.size,G,a2,34,he,Nat.le_refl _,s1,hG1,hG2,fun j u hj=>?_⟩
   ·rw [s9 b (by omega)]
    show ((w.alloc (.cells ROW 34)).drew.setCells w.heap.size (i*7) vs).heap[b]?=_
    rw [p9 b (by omega)]
    exact g1.block b hb
   ·have htl:(cs.take (i*7)).length=i*7:=by rw [List.length_take];omega
    rcases list3 _ _ _ j u hj with ⟨q1,q2⟩ | ⟨k,rfl,q2⟩ | ⟨k,rfl,q2⟩
    ·rw [htl] at q1
     rw [s3 j (by omega),p3 j (by omega),← hR,Array.append_assoc,Array.getElem?_append_left (by simp only [List.size_toArray,htl];exact q1)]
     simpa using q2
    ·have hk:=(List.getElem?_eq_some_iff.1 q2).1
     rw [htl,s3 _ (by omega)]
     exact p4 k u q2
    ·rw [htl,hvl,show i*7+m*7+k=(i+m)*7+k by omega]
     exact s4 k u q2
 ·have hvs':∀ j u,vs[j]?=some u→w.cell? ⟨vb,0+j,none⟩=some u:=fun j u hj=>by
   rw [Nat.zero_add,cell_of_row w vb j arrv tyv (0,0) hhv];exact hva j u hj
  have hcs':∀ j u,cs[j]?=some u→w.cell? ⟨b,0+j,none⟩=some u:=fun j u hj=>by
   rw [Nat.zero_add,cell_of_row w b j arr ty (0,0) hh];exact hca j u hj
  have hfr:∀ k,w.frozen? ⟨b,k,none⟩=false:=fun k=>by simp [World.frozen?,hh]
  have hfrv:∀ k,w.frozen? ⟨vb,k,none⟩=false:=fun k=>by simp [World.frozen?,hhv]
  have hsome:∀ k,k<arr.size→(w.cell? ⟨b,k,none⟩).isSome=true:=fun k hk=>by
   rw [cell_of_row w b k arr ty (0,0) hh,Array.getElem?_eq_getElem hk];rfl
  by_cases hie:i=n
  ·subst hie
   have hrun:=fun ty'=>run_append_fit (P:=Tryz.prog) (ty:=ty') (w:=w) (b:=b) (off:=0) (n:=i) (cap:=c) (m:=m) (c:=vc) (a':=⟨vb,0,none⟩) (news:=vs) uP_Note hi0 (by rw [hvl,hz]) (fun j u hj=>by rw [Addr.add_lit];exact hvs' j u hj) h1v hroom
    (fun j hj=>by rw [hz];exact hsome _ (by rw [hvl] at hj;omega)) (fun j hj=>hfr _)
   refine(ins_end_Note i c m vc (some ⟨b,0,none⟩) (some ⟨vb,0,none⟩) w _ _ hm (by omega) hrun).mono fun e w' ⟨he,hw⟩=>?_
   rw [hz,Nat.zero_add] at hw
   obtain⟨a1,p1,p2,p3,p4,p5,p9⟩:=set1 b vs (i*7) w arr ty hh (by rw [hvl];omega)
   subst hw
   refine⟨he,p5,p9,a1,p1,p2,fun j u hj=>?_⟩
   have e1:cs.take (i*7)=cs:=List.take_of_length_le (by omega)
   have e2:cs.drop (i*7)=[]:=List.drop_eq_nil_of_le (by omega)
   rw [e1,e2] at hj
   rcases list3 _ _ _ j u hj with ⟨q1,q2⟩ | ⟨k,rfl,q2⟩ | ⟨k,rfl,q2⟩
   ·rw [p3 j (by omega)];exact hca j u q2
   ·rw [hcl];exact p4 k u q2
   ·simp at q2
  ·have hlt:i<n:=by omega
   have hdl:(cs.drop (i*7)).length=(n-i)*7:=by rw [List.length_drop];omega
   refine(ins_shift_Note i0 hi0 hz b 0 n c i vb 0 m vc cs vs w hlt hm hroom hc63 hne hcl hvl hcs' (fun j hj=>by rw [Nat.zero_add];exact hsome _ (by omega)) (fun j hj=>hfr _) hvs' h1c h1v tyv ty arrv.size arr.size (by simp [World.shape?,hhv]) (by simp [World.shape?,hh]) (by omega) (hfrv _) (hfrv _)).mono fun e w' ⟨he,hw⟩=>?_
   rw [Nat.zero_add,Nat.zero_add] at hw
   obtain⟨a1,p1,p2,p3,p4,⟨p5,p6,p7,p8⟩,p9⟩:=set1 b (cs.drop (i*7)) ((i+m)*7) w.drew arr ty hh (by rw [hdl];omega)
   obtain⟨a2,s1,s2,s3,s4,⟨s5,s6,s7,s8⟩,s9⟩:=set1 b vs (i*7) _ a1 ty p1 (by rw [hvl,p2];omega)
   subst hw
   refine⟨he,⟨s5.trans p5,s6.trans p6,s7.trans p7,s8.trans p8⟩,fun k hk=>(s9 k hk).trans (p9 k hk),a2,s1,s2.trans p2,fun j u hj=>?_⟩
   have htl:(cs.take (i*7)).length=i*7:=by rw [List.length_take];omega
   rcases list3 _ _ _ j u hj with ⟨q1,q2⟩ | ⟨k,rfl,q2⟩ | ⟨k,rfl,q2⟩
   ·rw [htl] at q1
    rw [List.getElem?_take,if_pos q1] at q2
    rw [s3 j (by omega),p3 j (by omega)];exact hca j u q2
   ·have hk:=(List.getElem?_eq_some_iff.1 q2).1
    rw [htl]
    exact s4 k u q2
   ·have hk:=(List.getElem?_eq_some_iff.1 q2).1
    rw [htl,hvl,s3 _ (by rw [hvl];omega),show i*7+m*7+k=(i+m)*7+k by omega]
    exact p4 k u q2
theorem uP_Peer:Tryz.prog.underlying 22=some (.slice 48):=by kernel_rfl
theorem iP_Peer:∃ i0:TypeInfo,Tryz.prog.info? 48=some i0∧i0.size=1∧i0.bytes=24∧∃ zv,i0.zero=some zv∧zv.cells.size=1:=by
 have h:(match Tryz.prog.info? 48 with | some i=>(i.size == 1)&&((i.bytes == 24)&&(match i.zero with | some zv=>zv.cells.size == 1 | none=>false)) | none=>false)=true:=by kernel_rfl
 split at h
 ·rename_i i hi
  simp only [Bool.and_eq_true,beq_iff_eq] at h
  obtain⟨h1,h2,h3⟩:=h
  split at h3
  ·rename_i zv hz
   exact⟨i,hi,h1,h2,zv,hz,by simpa using h3⟩
  ·cases h3
 ·cases h
set_option maxHeartbeats 4000000 in
set_option maxRecDepth 100000 in
theorem clone_nil_Peer(c:Nat) (w:World):Calls Tryz.prog 37 #[.slice none 0 c] w fun e w'=>e=.returned (.slice none 0 0)∧w'=w:=by
 have mixed:=mixed0
 have q22:∀ (w:World) (a:Option Addr) (n c n' c':Nat),(binOp .eql 22 (.slice a n c) (.slice none n' c')).run Tryz.prog w=.ok (.bool a.isNone) w:=fun w a n c n' c'=>Lib.run_eql_slice_nil w _ _ a n c n' c' uP_Peer
 go_enter Tryz.func37,Tryz.ntmps37
 go_wp2
 go_ret
 exact⟨rfl,rfl⟩
set_option maxHeartbeats 4000000 in
set_option maxRecDepth 100000 in
theorem clone_some_Peer(ad:Addr) (n c:Nat) (w w2:World) (v2:Value) (hrun:∀ ty,(Builtin.append_ #[22,22] ty #[.slice (some ⟨w.heap.size,0,none⟩) 0 0,.slice (some ad) n c]).run Tryz.prog (w.alloc (.cells #[] 48))=.ok v2 w2) :
  Calls Tryz.prog 37 #[.slice (some ad) n c] w fun e w'=>e=.returned v2∧w'=w2:=by
 have mixed:=mixed0
 have q22:∀ (w:World) (a:Option Addr) (n c n' c':Nat),(binOp .eql 22 (.slice a n c) (.slice none n' c')).run Tryz.prog w=.ok (.bool a.isNone) w:=fun w a n c n' c'=>Lib.run_eql_slice_nil w _ _ a n c n' c' uP_Peer
 go_enter Tryz.func37,Tryz.ntmps37
 go_wp2_with (at_builtin;refine Lib.wpList_append_run _ rfl _ _ _ _ rfl _ _ rfl rfl _ _ (hrun _) ?_)
 go_ret
 exact⟨rfl,rfl⟩
theorem call68_Peer:Callable Tryz.prog 37:=⟨_,Tryz.func37,by kernel_rfl,by kernel_rfl⟩
theorem clone68_Peer:CloneOk Tryz.prog 37 1 24:=by
 obtain⟨i0,hi0,hz,hby,zv,hz0,hzs⟩:=iP_Peer
 refine⟨call68_Peer,by decide,fun w A n c cs hnc hc hl hA hcs h1 hb=>?_⟩
 cases A with
 | none =>
  have h0:=hA rfl
  subst h0
  exact(clone_nil_Peer c w).mono fun e w' ⟨he,hw⟩=>by subst hw;exact⟨Grow.refl w',.inl ⟨rfl,none,he⟩⟩
 | some ad =>
  have g1:Grow w (w.alloc (.cells #[] 48)):=Grow.alloc w _
  rcases Nat.eq_zero_or_pos n with h0 | h0
  ·subst h0
   have hrun:=fun ty=>run_append_zero (P:=Tryz.prog) (t:=22) (ty:=ty) (w:=w.alloc (.cells #[] 48)) (A:=some ⟨w.heap.size,0,none⟩) (A':=some ad) (n:=0) (cap:=0) (c:=c) uP_Peer hi0 (Nat.le_refl 0)
   exact(clone_some_Peer ad 0 c w _ _ hrun).mono fun e w' ⟨he,hw⟩=>by subst hw;exact⟨g1,.inl ⟨rfl,_,he⟩⟩
  ·have hcell:∀ j u,cs[j]?=some u→(w.alloc (.cells #[] 48)).cell? (ad.add j)=some u:=fun j u hj=>by
    have h:=hcs ad rfl j u hj
    have hlt:=World.block_lt_of_cell? w _ (by rw [h])
    rw [g1.cell hlt];exact h
   have hb':(0+n)*i0.bytes≤140737488355328:=by rw [hby,Nat.zero_add];exact hb
   have hrun:=fun ty=>run_append_grow (P:=Tryz.prog) (w.alloc (.cells #[] 48)) 22 ty 48 i0 zv uP_Peer hi0 hz0 ⟨w.heap.size,0,none⟩ 0 0 [] (by simp) (by simp) ad n c cs (by rw [hl,hz]) hcell (by omega) (by omega) (growslice_fits (by omega) hb')
   refine(clone_some_Peer ad n c w _ _ hrun).mono fun e w' ⟨he,hw⟩=>?_
   generalize hG:grownCap (w.alloc (.cells #[] 48)) (0+n) 0 48=ncap at he hw
   have hge:0+n≤ncap:=by rw [← hG];exact grownCap_ge _ _ _ _
   have hle:ncap≤9223372036854775807:=by rw [← hG];exact grownCap_le_maxLen _ _ _ _ (by simp only [maxLen];omega)
   subst hw
   refine⟨⟨rfl,rfl,rfl,by simp;omega,fun b hb=>?_⟩,.inr ⟨h0,(w.alloc (.cells #[] 48)).heap.size,ncap,_,48,by simpa using he,by simp,heap_alloc_new (w.alloc (.cells #[] 48)).drew _,by omega,hle,?_,fun j u hj=>?_⟩⟩
   ·have e1:=g1.block b hb
    rw [← e1]
    have hlt:b<(w.alloc (.cells #[] 48)).drew.heap.size:=by simp;omega
    first | exact heap_alloc_old (w.alloc (.cells #[] 48)).drew _ b hlt | exact heap_alloc_old (w.alloc (.cells #[] 48)).drew _ hlt
   ·simp only [Array.size_append,List.size_toArray,size_zc,hzs,List.length_nil,hl]
    have:ncap*1=n*1+(ncap-(0+n))*1:=by omega
    omega
   ·have hlt:=(List.getElem?_eq_some_iff.1 hj).1
    rw [Array.getElem?_append_left (by simp;exact hlt)]
    simpa using hj
theorem zeroCells_one(z:Array Value):(Builtin.zeroCells z 1).toList=z.toList:=by
 apply List.ext_getElem?
 intro k
 rw [Array.getElem?_toList,Array.getElem?_toList]
 have hs:=size_zc z 1
 by_cases h:k<z.size
 ·have:(Builtin.zeroCells z 1)[k]?=z[k]?:=by
   simp [Builtin.zeroCells,List.getElem?_range,Array.getElem?_range,h,Nat.mod_eq_of_lt h]
  exact this
 ·rw [Array.getElem?_eq_none (by omega),Array.getElem?_eq_none (by omega)]
theorem run_clear_one{P:Program}(w:World) (t e ty:TypeId) (z:Value) (ht:P.underlying t=some (.slice e)) (hv:∀ w,(zeroValue e).run P w=.ok z w) (h1:∀ v∈z.cells.toList,v.oneCell'=true) (b o n c:Nat) (hn:n=1)
  (hc:∀ j,j<z.cells.size→(w.cell? ⟨b,o+j,none⟩).isSome=true) (hf:∀ j,j<z.cells.size→w.frozen? ⟨b,o+j,none⟩=false) :
  (Builtin.clear_ #[t] ty #[.slice (some ⟨b,o,none⟩) n c]).run P w=.ok (.tuple #[]) (w.setCells b o z.cells.toList):=by
 subst hn
 have hst:=run_storeCells_cells (P:=P) b o z.cells.toList 0 w (by simpa using hc) (by simpa using hf) h1
 simp only [Nat.add_zero] at hst
 simp [Builtin.clear_,run_underlying ht,hv,zeroCells_one,hst]
set_option maxHeartbeats 4000000 in
set_option maxRecDepth 1000000 in
theorem del_run(i0:TypeInfo) (hi0:Tryz.prog.info? 30=some i0) (hz:i0.size=3) (zv:Value) (hzs:zv.cells.size=3) (hv:∀ w,(zeroValue 30).run Tryz.prog w=.ok zv w) (hz1:∀ v∈zv.cells.toList,v.oneCell'=true) (Z:List Value) (hZ:zv.cells.toList=Z)
  (blk cap n i j:Nat) (cs:List Value) (w:World) (hij:j=i+1) (hj:j≤n) (hcap:n≤cap) (hm:cap≤9223372036854775807) (hcl:cs.length=n*3) (hcs:∀ (t:Nat) (u:Value),cs[t]?=some u→w.cell? ⟨blk,t,none⟩=some u) (hfz:∀ t,w.frozen? ⟨blk,t,none⟩=false) (h1:∀ u∈cs,u.oneCell'=true) :
  Calls Tryz.prog 108 #[.slice (some ⟨blk,0,none⟩) n cap,.int .i64 i,.int .i64 j] w fun e w'=>e=.returned (.slice (some ⟨blk,0,none⟩) (i+(n-j)) cap)∧w'=(w.drew.setCells blk (i*3) (cs.drop (j*3))).setCells blk ((i+(n-j))*3) Z:=by
 have mixed:=mixed0
 have heq:¬ i=j:=by omega
 obtain⟨news,hnews⟩:∃ news,news=cs.drop (j*3):=⟨_,rfl⟩
 have hlen:news.length=(n-j)*3:=by rw [hnews,List.length_drop,hcl,Nat.sub_mul]
 have hget:∀ t u,news[t]?=some u→cs[j*3+t]?=some u:=fun t u h=>by rw [hnews,List.getElem?_drop] at h;exact h
 obtain⟨A,hA,hsrc⟩:∃ A:Addr,(if cap=j then some (⟨blk,0,none⟩:Addr) else some ⟨blk,j*3,none⟩)=some A∧Hid (∀ t u,news[t]?=some u→w.drew.cell? (A.add t)=some u):=by
  by_cases h:cap=j
  ·refine⟨⟨blk,0,none⟩,by simp [h],fun t u hu=>?_⟩
   have h0:news.length=0:=by rw [hlen];omega
   rw [List.length_eq_zero_iff.1 h0] at hu
   simp at hu
  ·refine⟨⟨blk,j*3,none⟩,by simp [h],fun t u hu=>?_⟩
   rw [Addr.add_lit]
   exact hcs _ _ (hget t u hu)
 have s1:Hid (news.length=(n-j)*3):=hlen
 have s2:Hid (∀ u∈news,u.oneCell'=true):=fun u hu=>h1 u (by rw [hnews] at hu;exact List.mem_of_mem_drop hu)
 have hsome:∀ t,t<n*3→(w.cell? ⟨blk,t,none⟩).isSome=true:=fun t ht=>by rw [hcs t _ (List.getElem?_eq_getElem (by rw [hcl];exact ht))];rfl
 have hb3:i*3+(n-j)*3≤n*3:=by omega
 have s3:Hid (∀ t,t<news.length→(w.drew.cell? ⟨blk,0+i*3+t,none⟩).isSome=true∧w.drew.frozen? ⟨blk,0+i*3+t,none⟩=false):=by
  intro t ht
  rw [hlen] at ht
  exact⟨hsome _ (by omega),hfz _⟩
 obtain⟨W1,hW1⟩:∃ W1,W1=w.drew.setCells blk (0+i*3) news:=⟨_,rfl⟩
 have hsome1:∀ t,t<n*3→(W1.cell? ⟨blk,t,none⟩).isSome=true:=fun t ht=>by
  rw [hW1]
  exact isSome_set blk _ _ _ (fun k hk=>(s3 k hk).1) _ (hsome t ht)
 have hfz1:∀ t,W1.frozen? ⟨blk,t,none⟩=false:=fun t=>by rw [hW1,World.frozen?_setCells];exact hfz t
 have hcl3:(i+(n-j))*3+3≤n*3:=by omega
 have hclr:∀ ty,(Builtin.clear_ #[49] ty #[.slice (some ⟨blk,(i+(n-j))*3,none⟩) (n-(i+(n-j))) (cap-(i+(n-j)))]).run Tryz.prog W1=.ok (.tuple #[]) (W1.setCells blk ((i+(n-j))*3) Z) :=
  fun ty=>hZ ▸ run_clear_one W1 _ _ ty zv uP_Spot hv hz1 blk ((i+(n-j))*3) _ _ (by omega) (fun t ht=>hsome1 _ (by omega)) (fun t ht=>hfz1 _)
 have hW:Hid (W1=w.drew.setCells blk (0+i*3) news):=hW1
 have X:Aside (W1=w.drew.setCells blk (i*3) (cs.drop (j*3))):=by
  have e:W1=w.drew.setCells blk (i*3) (cs.drop (j*3)):=by rw [hW1,hnews,Nat.zero_add]
  exact e
 have hic:i≤cap:=by omega
 have hjc:j≤cap:=by omega
 have hcl':cap-(i+(n-j))≠0:=by omega
 have hcn:¬ cap=i+(n-j):=by omega
 have uS:=uP_Spot
 have hi9:¬ cap=i:=by omega
 have hsz3:∀ w,(sizeOf 30).run Tryz.prog w=.ok 3 w:=fun w=>by simp [sizeOf,typeInfo,hi0,hz]
 have hin:i≤n:=by omega
 have hle:i≤j:=by omega
 have hj1:(0:Int)≤(i:Int):=by omega
 clear hW1 hnews hlen hget hsome hsome1 hfz1 hb3 hcl3 hcs hfz h1 hcl hij hv hz1 hzs hZ
 go_enter Tryz.func108,Tryz.ntmps108
 go_wp2_with fail
 go_region_law_o (refine step_append_room rfl (.tmp 22) (.tmp 25) 49 rfl 30 i0 3 uP_Spot hi0 hz blk 0 i cap (by simp [Act.eval,Act.put]) A (n-j) (cap-j) news (by simp [Act.eval,Act.put]) s1.out hsrc.out s2.out (by omega) s3.out ?_;rw [← hW.out])
 go_wp2
 go_ret
 exact⟨rfl,by rw [← X.out]⟩
theorem iZ_Spot:∃ (i0:TypeInfo) (zv:Value),Tryz.prog.info? 30=some i0∧i0.size=3∧i0.zero=some zv∧zv.cells.size=3∧∀ v∈zv.cells.toList,v.oneCell'=true:=by
 have h:(match Tryz.prog.info? 30 with | some i=>(i.size == 3)&&(match i.zero with | some zv=>(zv.cells.size == 3)&&zv.cells.toList.all (fun v=>v.oneCell') | none=>false) | none=>false)=true:=by kernel_rfl
 split at h
 ·rename_i i hi
  simp only [Bool.and_eq_true,beq_iff_eq] at h
  obtain⟨h1,h3⟩:=h
  split at h3
  ·rename_i zv hz
   simp only [Bool.and_eq_true,beq_iff_eq,List.all_eq_true] at h3
   exact⟨i,zv,hi,h1,hz,h3.1,h3.2⟩
  ·cases h3
 ·cases h
theorem callDel:Callable Tryz.prog 108:=⟨_,Tryz.func108,by kernel_rfl,by kernel_rfl⟩
theorem delSpot:DelOk Tryz.prog 108 3:=by
 obtain⟨i0,zv,hi0,hz,hzv,hzs,hz1⟩:=iZ_Spot
 refine⟨callDel,by decide,fun w b n c i cs arr ty hin hnc hc63 hh hcl harr hca h1c=>?_⟩
 have hv:∀ w,(zeroValue 30).run Tryz.prog w=.ok zv w:=fun w=>by simp [zeroValue,typeInfo,hi0,hzv]
 have hcs:∀ (t:Nat) (u:Value),cs[t]?=some u→w.cell? ⟨b,t,none⟩=some u:=fun t u h=>by rw [cell_of_row w b t arr ty (0,0) hh];exact hca t u h
 have hfz:∀ t,w.frozen? ⟨b,t,none⟩=false:=fun t=>by simp [World.frozen?,hh]
 have hrun:=del_run i0 hi0 hz zv hzs hv hz1 zv.cells.toList rfl b c n i (i+1) cs w rfl (by omega) hnc hc63 hcl hcs hfz h1c
 rw [show (((i+1:Nat):Int))=(i:Int)+1 by omega] at hrun
 refine hrun.mono fun e w' ⟨he,hw⟩=>?_
 have hdl:(cs.drop ((i+1)*3)).length=(n-(i+1))*3:=by rw [List.length_drop,hcl,Nat.sub_mul]
 have hzl:zv.cells.toList.length=3:=by simpa using hzs
 obtain⟨a1,p1,p2,p3,p4,⟨p5,p6,p7,p8⟩,p9⟩:=set1 b (cs.drop ((i+1)*3)) (i*3) w.drew arr ty hh (by rw [hdl];omega)
 obtain⟨a2,s1,s2,s3,s4,⟨s5,s6,s7,s8⟩,s9⟩:=set1 b zv.cells.toList ((i+(n-(i+1)))*3) _ a1 ty p1 (by rw [hzl,p2];omega)
 subst hw
 refine⟨by rw [he,show i+(n-(i+1))=n-1 by omega],⟨s5.trans p5,s6.trans p6,s7.trans p7,s8.trans p8⟩,fun k hk=>(s9 k hk).trans (p9 k hk),a2,s1,s2.trans p2,fun j u hj=>?_⟩
 have htl:(cs.take (i*3)).length=i*3:=by rw [List.length_take];omega
 have hlt:=(List.getElem?_eq_some_iff.1 hj).1
 rw [List.length_append,htl,hdl] at hlt
 rw [s3 j (by omega)]
 by_cases hji:j<i*3
 ·rw [List.getElem?_append_left (by rw [htl];exact hji),List.getElem?_take,if_pos hji] at hj
  rw [p3 j (by omega)];exact hca j u hj
 ·rw [List.getElem?_append_right (by rw [htl];omega),htl] at hj
  have:=p4 (j-i*3) u hj
  rwa [show i*3+(j-i*3)=j by omega] at this
def lib0:LibT Tryz.prog where
 cl:=[(37,1,24),(62,3,32),(118,7,64)]
 ins:=[(105,3,32),(117,7,64)]
 del:=[(108,3)]
 hcl:=by simp;exact⟨clone68_Peer,clone68_Spot,clone68_Note⟩
 hins:=by simp;exact⟨ins67_Spot,ins67_Note⟩
 hdel:=by simp;exact delSpot
end

section
def T (n:Nat):Opd:=.tmp n
def Z (c:Int):Opd:=.dat (.lit (.int .i64 c))
def Y (b:Bool):Opd:=.dat (.lit (.bool b))
def U (f:FuncId):Opd:=.dat (.fn (.func f) [] [])
def F (a b:Nat)(c:Bool)(n:Nat):AOp:=.field a b c (.tmp n)
def L (a:Nat)(b:Bool)(n:Nat):AOp:=.load a b (.tmp n)
def N (n:Nat):AOp:=.len (.tmp n)
def E (n k:Nat):AOp:=.extract (.tmp n) k
def I (a m n:Nat):AOp:=.index a (.tmp m) (.tmp n)
def S (a m n:Nat):AOp:=.store a (.tmp m) (.tmp n)
def A (o:BinOp)(m n:Nat):AOp:=.arith o (.tmp m) (.tmp n)
def B (o:BinOp)(m:Nat)(c:Int):AOp:=.arith o (.tmp m) (.dat (.lit (.int .i64 c)))
def V (k n:Nat):AOper:=⟨some k,none,.op (.mov (.tmp n))⟩
def O (k:Nat)(x:AOp):AOper:=⟨some k,none,.op x⟩
def G (k g:Nat)(x:AOp):AOper:=⟨some k,some (g,false),.op x⟩
def H (k g:Nat)(x:AOp):AOper:=⟨some k,some (g,true),.op x⟩
def Q (x:AOp):AOper:=⟨none,none,.op x⟩
def C (k f:Nat)(l:List Opd):AOper:=⟨some k,none,.call (.dat (.fn (.func f) [] [])) l⟩
def J (l:List AOper):AC:=.region none l
def M (l:List AOper)(a:AC):AC:=.seq (.region none l) a
def K (n:Nat)(a b:AC):AC:=.cond (.tmp n) a b
def z0:D:=.lit (.int .i64 0)
attribute [simp] T Z Y U F L N E I S A B V O G H Q C J M K z0
theorem mixed:Tryz.prog.follows .mixedOrders=true:=by kernel_rfl
theorem ck{f:FuncId}{a:AF}(F:Func)(h:Tryz.prog.funcs[f]?=some F:=by kernel_rfl)(k:chkF Tryz.prog F a=true:=by kernel_rfl):CmpF Tryz.prog f a:=chkF_cmp h mixed k
def a3:AF:=
{nt:=67,body:=(M [O 4 (.box true (T 1)),O 5 (.box true (T 2)),O 6 (.mov (Y false))] (.seq (M ([C 15 10 [],O 16 (.not (T 15))]) (K 16 (M [O 6 (.mov (Y false))] .ret) .skip)) (.seq (M ([O 17 (L 3 true 4),C 18 11 [T 17],O 19 (.not (T 18))]) (K 19 (M [O 6 (.mov (Y true))] .ret) .skip)) (M ([O 21 (L 3 true 4),O 22 (L 11 true 5),C 23 12 [T 21,T 22],V 20 23,O 24 (E 20 0),O 25 (E 20 1),O 7 (.alloc true [.nil 1,.nil 3,.nil 2]),Q (S 3 7 24),V 8 25]) (M ([O 27 (L 3 true 4),O 28 (L 11 true 5),C 29 13 [T 27,T 28],V 26 29,O 30 (E 26 0),O 31 (E 26 1),O 9 (.alloc true [.nil 1,.nil 3,.nil 2]),Q (S 3 9 30),V 10 31]) (M ([V 33 0,C 34 14 [T 33],V 32 34,O 35 (E 32 0),O 36 (E 32 1),O 11 (.alloc true [.nil 1,.nil 3,.nil 2]),Q (S 3 11 35),V 12 36]) (M ([V 38 0,C 39 15 [T 38],V 37 39,O 40 (E 37 0),O 41 (E 37 1),O 13 (.alloc true [.nil 1,.nil 3,.nil 2]),Q (S 3 13 40),V 14 41]) (.seq (.region (some [[],[0],[],[0,1,2],[0,1,2,3],[0,1,2,3,4],[0,1,2,3,4,5],[0,1,2,3,4,5],[0,1,2,3,4,5,6,7],[0,1,2,3,4,5,6,7,8],[0,1,2,3,4,5,6,7,8,9],[0,1,2,3,4,5,6,7,8,9,10],[0,1,2,3,4,5,6,7,8,9,10],[0,1,2,3,4,5,6,7,8,9,10,11,12],[0,1,2,3,4,5,6,7,8,9,10,11,12,13],[0,1,2,3,4,5,6,7,8,9,10,11,12,13,14],[0,1,2,3,4,5,6,7,8,9,10,11,12,13,14,15],[0,1,2,3,4,5,6,7,8,9,10,11,12,13,14,15],[0,1,2,3,4,5,6,7,8,9,10,11,12,13,14,15,16,17],[0,1,2,3,4,5,6,7,8,9,10,11,12,13,14,15,16,17,18],[0,1,2,3,4,5,6,7,8,9,10,11,12,13,14,15,16,17,18,19],[0,1,2,3,4,5,6,7,8,9,10,11,12,13,14,15,16,17,18,19,20],[0,1,2,3,4,5,6,7,8,9,10,11,12,13,14,15,16,17,18,19,20],[0,1,2,3,4,5,6,7,8,9,10,11,12,13,14,15,16,17,18,19,20,21,22],[0,1,2,3,4,5,6,7,8,9,10,11,12,13,14,15,16,17,18,19,20,21,22,23],[0,1,2,3,4,5,6,7,8,9,10,11,12,13,14,15,16,17,18,19,20,21,22,23,24]]) [O 42 (L 3 true 4),C 43 16 [T 42],O 44 (L 3 true 4),C 45 17 [T 44],O 46 (A .eql 43 45),V 47 46,H 48 47 (.mov (T 8)),H 49 47 (.mov (T 10)),H 50 47 (A .eql 48 49),O 51 (.pick (T 47) (T 50) (Y false)),V 52 51,H 53 52 (L 3 true 7),H 54 52 (L 3 true 9),⟨some 55,some (52,true),.call (U 18) [T 53,T 54]⟩,O 56 (.pick (T 52) (T 55) (Y false)),V 57 56,H 58 57 (.mov (T 12)),H 59 57 (.mov (T 14)),H 60 57 (A .eql 58 59),O 61 (.pick (T 57) (T 60) (Y false)),V 62 61,H 63 62 (L 3 true 11),H 64 62 (L 3 true 13),⟨some 65,some (62,true),.call (U 18) [T 63,T 64]⟩,O 66 (.pick (T 62) (T 65) (Y false)),V 6 66]) .ret)))))))),res:=[.tmp 6]}
theorem c3:CmpF Tryz.prog 3 a3:=ck Tryz.f3
def a4:AF:=
{nt:=44,body:=(M [O 2 (.box true (T 0)),O 4 (.mov (Y false))] (.seq (M ([C 11 10 [],O 12 (.not (T 11))]) (K 12 (M [O 4 (.mov (Y false))] .ret) .skip)) (.seq (M [O 13 (F 0 1 false 2),O 14 (L 1 false 13),O 15 (N 14),O 16 (B .gtr 15 30)] (K 16 (M [O 4 (.mov (Y true))] .ret) .skip)) (M ([O 18 (L 1 true 2),V 19 1,C 20 19 [T 18,T 19],V 17 20,O 21 (E 17 0),O 22 (E 17 1),O 23 (E 17 2),V 5 21,V 6 22,V 7 23]) (M ([O 25 (L 1 true 2),V 26 1,C 27 20 [T 25,T 26],V 24 27,O 28 (E 24 0),O 29 (E 24 1),O 30 (E 24 2),V 8 28,V 9 29,V 10 30]) (M ([V 31 5,V 32 8,C 33 21 [T 31,T 32],V 34 33,H 35 34 (.mov (T 6)),H 36 34 (.mov (T 9)),H 37 34 (A .eql 35 36),O 38 (.pick (T 34) (T 37) (Y false)),V 39 38,H 40 39 (.mov (T 7)),H 41 39 (.mov (T 10)),H 42 39 (A .eql 40 41),O 43 (.pick (T 39) (T 42) (Y false)),V 4 43]) .ret)))))),res:=[.tmp 4]}
theorem c4:CmpF Tryz.prog 4 a4:=ck Tryz.f4
def a8:AF:=
{nt:=134,body:=(M [O 2 (.box true (T 0)),O 4 (.mov (Y false))] (.seq (M ([C 24 10 [],O 25 (.not (T 24))]) (K 25 (M [O 4 (.mov (Y false))] .ret) .skip)) (.seq (M ([O 26 (F 0 1 false 2),O 27 (L 1 false 26),O 28 (N 27),O 29 (B .gtr 28 30),V 30 29,G 31 30 (L 1 true 2),⟨some 32,some (30,false),.call (U 26) [T 31]⟩,G 33 30 (.not (T 32)),O 34 (.pick (T 30) (Y true) (T 33))]) (K 34 (M [O 4 (.mov (Y true))] .ret) .skip)) (M [V 35 1,O 36 (.conv .i64 (T 35)),O 37 (B .rem 36 32),V 5 37] (M ([O 39 (L 1 true 2),V 40 5,C 41 19 [T 39,T 40],V 38 41,O 42 (E 38 0),O 43 (E 38 1),O 44 (E 38 2),V 6 42,V 7 43,V 8 44]) (M [O 9 (.mov (.dat (.nil 7)))] (M ([O 45 (.ext .mkmap []),V 10 45]) (.seq (M [O 46 (F 0 1 false 2),O 47 (L 1 false 46),O 48 (N 47),O 49 (.mov (Z 0))] (.block 0 (.loop (M [O 50 (A .lss 49 48)] (.seq (K 50 .skip (.exit 0)) (.seq (.block 1 (M ([O 51 (I 7 47 49),O 52 (L 7 true 51),O 12 (.alloc true [z0,z0,z0,z0,z0,z0,.lit (.string ⟨#[]⟩)]),Q (S 7 12 52)]) (.seq (M [O 53 (F 0 1 false 12),O 54 (L 1 false 53),V 55 5,O 56 (A .neq 54 55)] (K 56 (.exit 1) .skip)) (M ([V 57 9,O 58 (L 7 true 12),O 59 (.mkslice 7 [T 58]),O 60 (.append 7 64 (T 57) (T 59)),V 9 60]) (M ([V 62 10,O 63 (F 1 1 false 12),O 64 (L 1 false 63),O 65 (.ext (.lookup (.int .i64) true (.agg [z0,z0,z0,z0,.lit (.string ⟨#[]⟩)])) [T 62,T 64]),V 61 65,O 66 (E 61 0),O 67 (E 61 1),O 13 (.alloc true [z0,z0,z0,z0,.lit (.string ⟨#[]⟩)]),Q (S 5 13 66),V 14 67]) (M [V 68 14,O 69 (.not (T 68))] (K 69 (J [V 70 10,O 71 (F 1 1 false 12),O 72 (L 1 false 71),O 73 (F 2 5 true 12),O 74 (L 5 true 73),Q (.ext (.insert (.int .i64)) [T 70,T 72,T 74])]) .skip))))))) (J [O 75 (B .add 49 1),V 49 75]))))))) (M [O 15 (.mov (.dat (.nil 3)))] (M [O 16 (.mov (Z 0))] (.seq (M ([V 77 10,O 78 (.ext (.lookup (.int .i64) true (.agg [z0,z0,z0,z0,.lit (.string ⟨#[]⟩)])) [T 77,Z 0]),V 76 78,O 79 (E 76 0),O 80 (E 76 1),O 17 (.alloc true [z0,z0,z0,z0,.lit (.string ⟨#[]⟩)]),Q (S 5 17 79),V 18 80]) (.block 2 (.loop (.seq (M [V 81 18] (K 81 .skip (.exit 2))) (.seq (.block 3 (.seq (M ([V 89 15,O 90 (L 5 true 17),C 91 27 [T 89,T 90],V 88 91,O 92 (E 88 0),O 93 (E 88 1),V 19 92,V 20 93]) (M [V 94 20,O 95 (B .eql 94 0)] (K 95 (J [V 96 19,V 15 96]) .skip))) (J [V 97 16,O 98 (B .add 97 1),V 16 98]))) (.seq (M [O 99 (L 5 true 17)] (J [O 17 (.alloc true [z0,z0,z0,z0,.lit (.string ⟨#[]⟩)]),Q (S 5 17 99)])) (J [V 83 10,V 84 16,O 85 (.ext (.lookup (.int .i64) true (.agg [z0,z0,z0,z0,.lit (.string ⟨#[]⟩)])) [T 83,T 84]),V 82 85,O 86 (E 82 0),O 87 (E 82 1),Q (S 5 17 86),V 18 87]))))))) (M ([V 101 9,O 102 (.build [.nil 7] [(0,1,(T 101))]),V 103 5,C 104 19 [T 102,T 103],V 100 104,O 105 (E 100 0),O 106 (E 100 1),O 107 (E 100 2),V 21 105,V 22 106,V 23 107]) (M ([V 108 8,O 109 (B .eql 108 0),V 110 109,H 111 110 (.mov (T 23)),H 112 110 (B .eql 111 0),O 113 (.pick (T 110) (T 112) (Y false)),V 114 113,H 115 114 (.mov (T 7)),H 116 114 (.mov (T 16)),H 117 114 (A .eql 115 116),O 118 (.pick (T 114) (T 117) (Y false)),V 119 118,H 120 119 (.mov (T 22)),H 121 119 (.mov (T 16)),H 122 119 (A .eql 120 121),O 123 (.pick (T 119) (T 122) (Y false)),V 124 123,H 125 124 (.mov (T 6)),H 126 124 (.mov (T 15)),⟨some 127,some (124,true),.call (U 21) [T 125,T 126]⟩,O 128 (.pick (T 124) (T 127) (Y false)),V 129 128,H 130 129 (.mov (T 21)),H 131 129 (.mov (T 15)),⟨some 132,some (129,true),.call (U 21) [T 130,T 131]⟩,O 133 (.pick (T 129) (T 132) (Y false)),V 4 133]) .ret))))))))))))),res:=[.tmp 4]}
theorem c8:CmpF Tryz.prog 8 a8:=ck Tryz.f8
def a9:AF:=
{nt:=129,body:=(M [O 3 (.box true (T 0)),O 6 (.mov (Y false))] (.seq (M ([C 23 10 [],O 24 (.not (T 23))]) (K 24 (M [O 6 (.mov (Y false))] .ret) .skip)) (.seq (M ([O 25 (F 0 1 false 3),O 26 (L 1 false 25),O 27 (N 26),O 28 (B .gtr 27 30),V 29 28,G 30 29 (L 1 true 3),⟨some 31,some (29,false),.call (U 26) [T 30]⟩,G 32 29 (.not (T 31)),O 33 (.pick (T 29) (Y true) (T 32))]) (K 33 (M [O 6 (.mov (Y true))] .ret) .skip)) (M [V 34 1,O 35 (.conv .i64 (T 34)),O 36 (B .rem 35 32),V 7 36] (M [O 8 (.mov (.dat (.nil 7)))] (M ([O 37 (.ext .mkmap []),V 9 37]) (.seq (M [O 38 (F 0 1 false 3),O 39 (L 1 false 38),O 40 (N 39),O 41 (.mov (Z 0))] (.block 0 (.loop (M [O 42 (A .lss 41 40)] (.seq (K 42 .skip (.exit 0)) (.seq (.block 1 (M ([V 43 41,O 44 (I 7 39 41),O 45 (L 7 true 44),O 11 (.alloc true [z0,z0,z0,z0,z0,z0,.lit (.string ⟨#[]⟩)]),V 10 43,Q (S 7 11 45)]) (.seq (M ([V 46 2,V 47 10,O 48 (.ext (.shift false) [T 46,T 47]),O 49 (.arith .and (T 48) (.dat (.lit (.int .u32 1)))),O 50 (.arith .eql (T 49) (.dat (.lit (.int .u32 0))))]) (K 50 (J [V 51 8,O 52 (L 7 true 11),O 53 (.mkslice 7 [T 52]),O 54 (.append 7 64 (T 51) (T 53)),V 8 54]) .skip)) (.seq (M [O 55 (F 0 1 false 11),O 56 (L 1 false 55),V 57 7,O 58 (A .neq 56 57)] (K 58 (.exit 1) .skip)) (.seq (M ([V 60 9,O 61 (F 1 1 false 11),O 62 (L 1 false 61),O 63 (.ext (.lookup (.int .i64) true (.agg [z0,z0,z0,z0,.lit (.string ⟨#[]⟩)])) [T 60,T 62]),V 59 63,O 64 (E 59 0),O 65 (E 59 1),O 12 (.alloc true [z0,z0,z0,z0,.lit (.string ⟨#[]⟩)]),Q (S 5 12 64),V 13 65]) (M [V 66 13] (K 66 (M [O 6 (.mov (Y true))] .ret) .skip))) (J [V 67 9,O 68 (F 1 1 false 11),O 69 (L 1 false 68),O 70 (F 2 5 true 11),O 71 (L 5 true 70),Q (.ext (.insert (.int .i64)) [T 67,T 69,T 71])])))))) (J [O 72 (B .add 41 1),V 41 72]))))))) (M ([V 74 8,O 75 (.build [.nil 7] [(0,1,(T 74))]),V 76 7,C 77 19 [T 75,T 76],V 73 77,O 78 (E 73 0),O 79 (E 73 1),O 80 (E 73 2),V 14 78,V 15 79,V 16 80]) (M ([O 82 (L 1 true 3),V 83 7,C 84 19 [T 82,T 83],V 81 84,O 85 (E 81 0),O 86 (E 81 1),O 87 (E 81 2),V 17 85,V 18 86,V 19 87]) (.seq (M ([V 88 16,O 89 (B .neq 88 0),V 90 89,G 91 90 (.mov (T 19)),G 92 90 (B .neq 91 0),O 93 (.pick (T 90) (Y true) (T 92)),V 94 93,G 95 94 (.mov (T 15)),G 96 94 (B .lss 95 0),O 97 (.pick (T 94) (Y true) (T 96)),V 98 97,G 99 98 (.mov (T 15)),G 100 98 (.mov (T 18)),G 101 98 (A .gtr 99 100),O 102 (.pick (T 98) (Y true) (T 101)),V 103 102,G 104 103 (.mov (T 18)),G 105 103 (.mov (T 9)),G 106 103 (.ext .lenM [T 105]),G 107 103 (A .gtr 104 106),O 108 (.pick (T 103) (Y true) (T 107))]) (K 108 (M [O 6 (.mov (Y false))] .ret) .skip)) (.seq (M [V 109 15,V 20 109] (.block 2 (.loop (.seq (M [V 110 20,V 111 18,O 112 (A .lss 110 111)] (K 112 .skip (.exit 2))) (.seq (.block 3 (M ([V 116 14,V 117 9,V 118 20,O 119 (.ext (.lookup (.int .i64) false (.agg [z0,z0,z0,z0,.lit (.string ⟨#[]⟩)])) [T 117,T 118]),C 120 27 [T 116,T 119],V 115 120,O 121 (E 115 0),O 122 (E 115 1),V 21 121,V 22 122]) (M [V 123 22,O 124 (B .eql 123 0)] (K 124 (J [V 125 21,V 14 125]) .skip)))) (J [V 113 20,O 114 (B .add 113 1),V 20 114])))))) (M ([V 126 14,V 127 17,C 128 21 [T 126,T 127],V 6 128]) .ret)))))))))))),res:=[.tmp 6]}
theorem c9:CmpF Tryz.prog 9 a9:=ck Tryz.f9
def a10:AF:=
{nt:=291,body:=(M [O 0 (.mov (Y false))] (M ([C 35 14 [Z 2],V 34 35,O 36 (E 34 0),O 37 (E 34 1),O 1 (.alloc true [.nil 1,.nil 3,.nil 2]),Q (S 3 1 36),V 2 37]) (M ([C 39 14 [Z 0],V 38 39,O 40 (E 38 0),O 41 (E 38 1),O 3 (.alloc true [.nil 1,.nil 3,.nil 2]),Q (S 3 3 40),V 4 41]) (.seq (.region (some [[],[],[1],[0,1,2],[0,1,2,3],[0,1,2,3,4],[0,1,2,3,4],[],[0,1,2,3,4,5,7],[0,1,2,3,4,5,6,7,8]]) [O 43 (L 3 true 1),⟨some 44,none,.call (U 28) [Z 3,Z 0,Z 5,.dat (.lit (.string ⟨#[97]⟩))]⟩,O 45 (.build [z0,z0,z0,z0,z0,z0,z0,z0,z0,z0,.lit (.string ⟨#[]⟩)] [(0,1,(Z 1)),(1,1,(Z 1)),(4,7,(T 44))]),C 46 12 [T 43,T 45],V 42 46,O 47 (E 42 0),O 48 (E 42 1),O 5 (.alloc true [.nil 1,.nil 3,.nil 2]),Q (S 3 5 47),V 6 48]) (M ([O 50 (L 3 true 1),O 51 (.build [z0,z0,z0,z0,z0,z0,.lit (.string ⟨#[]⟩)] []),O 52 (.build [z0,z0,z0,z0,z0,z0,z0,z0,z0,z0,.lit (.string ⟨#[]⟩)] [(0,1,(Z 1)),(4,7,(T 51))]),C 53 12 [T 50,T 52],V 49 53,O 54 (E 49 0),O 55 (E 49 1),O 7 (.alloc true [.nil 1,.nil 3,.nil 2]),Q (S 3 7 54),V 8 55]) (M ([O 57 (L 3 true 1),O 58 (.build [z0,z0,z0,z0,z0,z0,z0,z0,z0,z0,.lit (.string ⟨#[]⟩)] [(0,1,(Z 3))]),C 59 12 [T 57,T 58],V 56 59,O 60 (E 56 0),O 61 (E 56 1),O 9 (.alloc true [.nil 1,.nil 3,.nil 2]),Q (S 3 9 60),V 10 61]) (M ([O 63 (L 3 true 5),O 64 (.build [z0,z0,z0,z0,z0,z0,z0,z0,z0,z0,.lit (.string ⟨#[]⟩)] [(0,1,(Z 3))]),C 65 12 [T 63,T 64],V 62 65,O 66 (E 62 0),O 67 (E 62 1),O 11 (.alloc true [.nil 1,.nil 3,.nil 2]),Q (S 3 11 66),V 12 67]) (.seq (M [V 68 2,O 69 (B .neq 68 0),V 70 69,G 71 70 (F 0 1 false 1),G 72 70 (L 1 false 71),G 73 70 (N 72),G 74 70 (B .neq 73 2),O 75 (.pick (T 70) (Y true) (T 74)),V 76 75,G 77 76 (.mov (T 4)),G 78 76 (B .neq 77 1),O 79 (.pick (T 76) (Y true) (T 78)),V 80 79,G 81 80 (.mov (T 6)),G 82 80 (B .neq 81 0),O 83 (.pick (T 80) (Y true) (T 82)),V 84 83,G 85 84 (F 0 1 false 5),G 86 84 (L 1 false 85),G 87 84 (N 86),G 88 84 (B .neq 87 2),O 89 (.pick (T 84) (Y true) (T 88)),V 90 89,G 91 90 (.mov (T 8)),G 92 90 (B .neq 91 530),O 93 (.pick (T 90) (Y true) (T 92)),V 94 93,G 95 94 (.mov (T 10)),G 96 94 (B .neq 95 1),O 97 (.pick (T 94) (Y true) (T 96)),V 98 97,G 99 98 (.mov (T 12)),G 100 98 (B .neq 99 0),O 101 (.pick (T 98) (Y true) (T 100)),V 102 101,G 103 102 (F 0 1 false 11),G 104 102 (L 1 false 103),G 105 102 (N 104),G 106 102 (B .neq 105 2),O 107 (.pick (T 102) (Y true) (T 106))] (K 107 (M [O 0 (.mov (Y false))] .ret) .skip)) (M ([⟨some 108,none,.call (U 28) [Z 3,Z 0,Z 5,.dat (.lit (.string ⟨#[97]⟩))]⟩,O 109 (.mkslice 7 [T 108]),V 13 109]) (.seq (.region (some [[],[0],[0,1],[0,1,2],[0,1,2,3],[0,1,2,3,4],[0,1,2,3,4,5],[0,1,2,3,4,5,6],[0,1,2,3,4,5,6,7],[0,1,2,3,4,5,6,7,8],[0,1,2,3,4,5,6,7,8,9],[0,1,2,3,4,5,6,7,8,9,10],[0,1,2,3,4,5,6,7,8,9,10,11],[0,1,2,3,4,5],[0,1,2,3,4,5,13],[0,1,2,3,4,5,13,14],[0,1,2,3,4,5,13,14,15],[0,1,2,3,4,5,13,14,15,16],[0,1,2,3,4,5,6,7,8,9,10,11,12,13,14,15,16,17],[0,1,2,3,4,5,6,7,8,9,10,11,12,13,14,15,16,17,18],[0,1,2,3,4,5,6,7,8,9,10,11,12,13,14,15,16,17,18,19],[0,1,2,3,4,5,6,7,8,9,10,11,12,13,14,15,16,17,18,19,20],[0,1,2,3,4,5,6,7,8,9,10,11,12,13,14,15,16,17,18,19,20,21],[0,1,2,3,4,5,6,7,8,9,10,11,12,13,14,15,16,17,18,19,20,21,22],[0,1,2,3,4,5,6,7,8,9,10,11,12,13,14,15,16,17,18,19,20,21,22,23],[0,1,2,3,4,5,6,7,8,9,10,11,12,13,14,15,16,17,18,19,20,21,22,23,24],[0,1,2,3,4,5,6,7,8,9,10,11,12,13,14,15,16,17,18,19,20],[0,1,2,3,4,5,6,7,8,9,10,11,12,13,14,15,16,17,18,19,20,21,22,23,24,25,26],[0,1,2,3,4,5,6,7,8,9,10,11,12,13,14,15,16,17,18,19,20,21,22,23,24,25,26,27],[0,1,2,3,4,5,6,7,8,9,10,11,12,13,14,15,16,17,18,19,20,21,22,23,24,25,26,27,28],[0,1,2,3,4,5,6,7,8,9,10,11,12,13,14,15,16,17,18,19,20,21,22,23,24,25,26,27,28,29],[0,1,2,3,4,5,6,7,8,9,10,11,12,13,14,15,16,17,18,19,20,21,22,23,24,25,26,27,28,29,30],[0,1,2,3,4,5,6,7,8,9,10,11,12,13,14,15,16,17,18,19,20,21,22,23,24,25,26,27,28,29,30,31],[0,1,2,3,4,5,6,7,8,9,10,11,12,13,14,15,16,17,18,19,20,21,22,23,24,25,26,27,28,29,30,31,32],[0,1,2,3,4,5,6,7,8,9,10,11,12,13,14,15,16,17,18,19,20,21,22,23,24,25,26,27,28,29,30,31,32,33],[0,1,2,3,4,5,6,7,8,9,10,11,12,13,14,15,16,17,18,19,20,21,22,23,24,25,26,27,28,29,30,31,32,33,34],[0,1,2,3,4,5,6,7,8,9,10,11,12,13,14,15,16,17,18,19,20,21,22,23,24,25,26,27,28,29,30,31,32,33,34,35],[0,1,2,3,4,5,6,7,8,9,10,11,12,13,14,15,16,17,18,19,20,21,22,23,24,25,26,27,28,29,30,31,32,33,34,35,36],[0,1,2,3,4,5,6,7,8,9,10,11,12,13,14,15,16,17,18,19,20,21,22,23,24,25,26,27,28,29,30,31,32,33,34,35,36,37]]) [O 110 (F 1 2 true 5),O 111 (F 0 1 false 110),O 112 (L 1 false 111),O 113 (N 112),O 114 (B .eql 113 1),V 115 114,H 116 115 (F 1 2 true 5),H 117 115 (F 0 1 false 116),H 118 115 (L 1 false 117),H 119 115 (.index 3 (T 118) (Z 0)),H 120 115 (F 2 1 false 119),H 121 115 (L 1 false 120),H 122 115 (.ext .bytesStr [T 121]),H 123 115 (.mov (T 13)),H 124 115 (.index 7 (T 123) (Z 0)),H 125 115 (L 7 true 124),⟨some 126,some (115,true),.call (U 29) [T 125]⟩,H 127 115 (.ext .bytesStr [T 126]),H 128 115 (A .eql 122 127),O 129 (.pick (T 115) (T 128) (Y false)),V 130 129,H 131 130 (F 0 1 false 5),H 132 130 (L 1 false 131),H 133 130 (.index 1 (T 132) (Z 1)),H 134 130 (F 0 1 false 133),H 135 130 (L 1 false 134),H 136 130 (.mov (T 13)),⟨some 137,some (130,true),.call (U 24) [T 135,T 136]⟩,O 138 (.pick (T 130) (T 137) (Y false)),V 139 138,H 140 139 (F 0 1 false 5),H 141 139 (L 1 false 140),H 142 139 (.index 1 (T 141) (Z 0)),H 143 139 (F 0 1 false 142),H 144 139 (L 1 false 143),H 145 139 (N 144),H 146 139 (B .eql 145 0),O 147 (.pick (T 139) (T 146) (Y false)),V 14 147]) (M ([V 148 14,V 149 148,H 150 149 (F 0 1 false 11),H 151 149 (L 1 false 150),H 152 149 (.index 1 (T 151) (Z 0)),H 153 149 (F 0 1 false 152),H 154 149 (L 1 false 153),H 155 149 (.mov (T 13)),⟨some 156,some (149,true),.call (U 24) [T 154,T 155]⟩,O 157 (.pick (T 149) (T 156) (Y false)),V 158 157,H 159 158 (F 1 2 true 11),H 160 158 (F 0 1 false 159),H 161 158 (L 1 false 160),H 162 158 (N 161),H 163 158 (B .eql 162 0),O 164 (.pick (T 158) (T 163) (Y false)),V 165 164,H 166 165 (.build [.nil 1,.nil 3,.nil 2] []),⟨some 167,some (165,true),.call (U 16) [T 166]⟩,H 168 165 (B .eql 167 530),O 169 (.pick (T 165) (T 168) (Y false)),V 170 169,H 171 170 (L 3 true 11),⟨some 172,some (170,true),.call (U 16) [T 171]⟩,H 173 170 (B .eql 172 0),O 174 (.pick (T 170) (T 173) (Y false)),V 14 174]) (M ([O 176 (F 0 1 false 11),O 177 (L 1 false 176),O 178 (.index 1 (T 177) (Z 0)),O 179 (L 1 true 178),C 180 19 [T 179,Z 3],V 175 180,O 181 (E 175 0),O 182 (E 175 1),O 183 (E 175 2),V 15 181,V 16 182,V 17 183]) (M ([O 185 (F 0 1 false 11),O 186 (L 1 false 185),O 187 (.index 1 (T 186) (Z 0)),O 188 (L 1 true 187),C 189 19 [T 188,Z 2],V 184 189,O 190 (E 184 0),O 191 (E 184 1),O 192 (E 184 2),V 18 190,V 19 191,V 20 192]) (M ([O 194 (F 0 1 false 11),O 195 (L 1 false 194),O 196 (.index 1 (T 195) (Z 0)),O 197 (L 1 true 196),C 198 19 [T 197,Z 32],V 193 198,O 199 (E 193 0),O 200 (E 193 1),O 201 (E 193 2),V 21 199,V 22 200,V 23 201]) (M ([⟨some 203,none,.call (U 28) [Z 3,Z 0,Z 5,.dat (.lit (.string ⟨#[97]⟩))]⟩,⟨some 204,none,.call (U 28) [Z 3,Z 2,Z 6,.dat (.lit (.string ⟨#[98]⟩))]⟩,O 205 (.mkslice 7 [T 203,T 204]),O 206 (.build [.nil 7] [(0,1,(T 205))]),C 207 19 [T 206,Z 3],V 202 207,O 208 (E 202 0),O 209 (E 202 1),O 210 (E 202 2),V 24 208,V 25 209,V 26 210]) (M ([⟨some 212,none,.call (U 28) [Z 3,Z 0,Z 5,.dat (.lit (.string ⟨#[97]⟩))]⟩,⟨some 213,none,.call (U 28) [Z 3,Z 1,Z 5,.dat (.lit (.string ⟨#[98]⟩))]⟩,O 214 (.mkslice 7 [T 212,T 213]),O 215 (.build [.nil 7] [(0,1,(T 214))]),C 216 19 [T 215,Z 3],V 211 216,O 217 (E 211 0),O 218 (E 211 1),O 219 (E 211 2),V 27 217,V 28 218,V 29 219]) (M ([⟨some 221,none,.call (U 28) [Z 3,Z 2,Z 6,.dat (.lit (.string ⟨#[98]⟩))]⟩,⟨some 222,none,.call (U 28) [Z 3,Z 0,Z 5,.dat (.lit (.string ⟨#[97]⟩))]⟩,O 223 (.mkslice 7 [T 221,T 222]),O 224 (.build [.nil 7] [(0,1,(T 223))]),C 225 19 [T 224,Z 3],V 220 225,O 226 (E 220 0),O 227 (E 220 1),O 228 (E 220 2),V 30 226,V 31 227,V 32 228]) (.seq (M [V 229 14,O 230 (.not (T 229)),V 231 230,G 232 231 (.mov (T 17)),G 233 231 (B .neq 232 0),O 234 (.pick (T 231) (Y true) (T 233)),V 235 234,G 236 235 (.mov (T 20)),G 237 235 (B .neq 236 0),O 238 (.pick (T 235) (Y true) (T 237)),V 239 238,G 240 239 (.mov (T 23)),G 241 239 (B .neq 240 1),O 242 (.pick (T 239) (Y true) (T 241)),V 243 242,G 244 243 (.mov (T 26)),G 245 243 (B .neq 244 0),O 246 (.pick (T 243) (Y true) (T 245)),V 247 246,G 248 247 (.mov (T 29)),G 249 247 (B .neq 248 0),O 250 (.pick (T 247) (Y true) (T 249)),V 251 250,G 252 251 (.mov (T 32)),G 253 251 (B .neq 252 530),O 254 (.pick (T 251) (Y true) (T 253))] (K 254 (M [O 0 (.mov (Y false))] .ret) .skip)) (M ([O 255 (.build [z0,z0,.lit (.string ⟨#[]⟩)] [(0,1,(Z 5)),(2,1,(.dat (.lit (.string ⟨#[97]⟩))))]),O 256 (.mkslice 3 [T 255]),V 33 256]) (M ([V 257 15,V 258 33,C 259 21 [T 257,T 258],V 260 259,H 261 260 (.mov (T 16)),H 262 260 (B .eql 261 1),O 263 (.pick (T 260) (T 262) (Y false)),V 264 263,H 265 264 (.mov (T 18)),H 266 264 (N 265),H 267 264 (B .eql 266 0),O 268 (.pick (T 264) (T 267) (Y false)),V 269 268,H 270 269 (.mov (T 19)),H 271 269 (B .eql 270 0),O 272 (.pick (T 269) (T 271) (Y false)),V 273 272,H 274 273 (.mov (T 24)),H 275 273 (.mov (T 33)),⟨some 276,some (273,true),.call (U 21) [T 274,T 275]⟩,O 277 (.pick (T 273) (T 276) (Y false)),V 278 277,H 279 278 (.mov (T 25)),H 280 278 (B .eql 279 1),O 281 (.pick (T 278) (T 280) (Y false)),V 282 281,H 283 282 (.mov (T 27)),H 284 282 (.mov (T 33)),⟨some 285,some (282,true),.call (U 21) [T 283,T 284]⟩,O 286 (.pick (T 282) (T 285) (Y false)),V 287 286,H 288 287 (.mov (T 28)),H 289 287 (B .eql 288 2),O 290 (.pick (T 287) (T 289) (Y false)),V 0 290]) .ret)))))))))))))))))))),res:=[.tmp 0]}
theorem c10:CmpF Tryz.prog 10 a10:=ck Tryz.f10
def a11:AF:=
{nt:=57,body:=(M [O 1 (.box true (T 0)),O 2 (.mov (Y false))] (.seq (M ([O 5 (F 0 1 false 1),O 6 (L 1 false 5),O 7 (N 6),O 8 (B .gtr 7 5),V 9 8,H 10 9 (F 0 1 false 1),H 11 9 (L 1 false 10),H 12 9 (N 11),H 13 9 (B .leq 12 24),O 14 (.pick (T 9) (T 13) (Y false)),V 15 14,G 16 15 (F 1 2 true 1),G 17 15 (L 2 true 16),⟨some 18,some (15,false),.call (U 30) [T 17]⟩,G 19 15 (.not (T 18)),O 20 (.pick (T 15) (Y true) (T 19))]) (K 20 (M [O 2 (.mov (Y false))] .ret) .skip)) (.seq (M [O 3 (.mov (Z 0))] (.block 0 (.loop (.seq (M [V 21 3,O 22 (F 0 1 false 1),O 23 (L 1 false 22),O 24 (N 23),O 25 (A .lss 21 24),V 26 25,H 27 26 (.mov (T 3)),H 28 26 (B .lss 27 30),O 29 (.pick (T 26) (T 28) (Y false))] (K 29 .skip (.exit 0))) (.seq (.block 1 (M [O 32 (F 0 1 false 1),O 33 (L 1 false 32),V 34 3,O 35 (I 1 33 34),O 36 (F 0 1 false 35),O 37 (L 1 false 36),O 38 (N 37),O 39 (B .gtr 38 30)] (K 39 (M [O 2 (.mov (Y false))] .ret) .skip))) (J [V 30 3,O 31 (B .add 30 1),V 3 31])))))) (.seq (M [O 4 (.mov (Z 0))] (.block 2 (.loop (.seq (M [V 40 4,O 41 (F 1 2 true 1),O 42 (F 0 1 false 41),O 43 (L 1 false 42),O 44 (N 43),O 45 (A .lss 40 44)] (K 45 .skip (.exit 2))) (.seq (.block 3 (M [O 48 (F 1 2 true 1),O 49 (F 0 1 false 48),O 50 (L 1 false 49),V 51 4,O 52 (I 3 50 51),O 53 (F 2 1 false 52),O 54 (L 1 false 53),O 55 (N 54),O 56 (B .gtr 55 1000)] (K 56 (M [O 2 (.mov (Y false))] .ret) .skip))) (J [V 46 4,O 47 (B .add 46 1),V 4 47])))))) (M [O 2 (.mov (Y true))] .ret))))),res:=[.tmp 2]}
theorem c11:CmpF Tryz.prog 11 a11:=ck Tryz.f11
def a12:AF:=
{nt:=40,body:=(M ([O 2 (.box true (T 0)),O 3 (.box true (T 1)),O 4 (.alloc true [.nil 1,.nil 3,.nil 2]),O 5 (.alloc false [z0])]) (.seq (M ([O 10 (L 3 true 2),C 11 16 [T 10],V 6 11]) (M [V 12 6,O 13 (B .neq 12 0)] (K 13 (M [O 14 (L 3 true 4),V 15 6,Q (S 3 4 14),Q (S 1 5 15)] .ret) .skip))) (M ([O 17 (.ext .mkmap []),Q (.ext (.insert (.int .i64)) [T 17,Z 1,.dat (.fn (.func 31) [] [])]),Q (.ext (.insert (.int .i64)) [T 17,Z 2,.dat (.fn (.func 32) [] [])]),Q (.ext (.insert (.int .i64)) [T 17,Z 3,.dat (.fn (.func 33) [] [])]),Q (.ext (.insert (.int .i64)) [T 17,Z 4,.dat (.fn (.func 34) [] [])]),Q (.ext (.insert (.int .i64)) [T 17,Z 5,.dat (.fn (.func 35) [] [])]),V 18 17,O 19 (F 0 1 false 3),O 20 (L 1 false 19),O 21 (.ext (.lookup (.int .i64) true (.lit (.nilFunc))) [T 18,T 20]),V 16 21,O 22 (E 16 0),O 23 (E 16 1),V 7 22,V 8 23]) (.seq (M [V 24 8,O 25 (.not (T 24))] (K 25 (M [O 26 (L 3 true 4),Q (S 3 4 26),Q (.store 1 (T 5) (Z 1))] .ret) .skip)) (.seq (.sregion [O 27 (.func (.func 36) [] [T 4,T 5]),⟨none,none,.defer (T 27) []⟩]) (M ([O 28 (L 3 true 2),O 29 (.build [.nil 1,.nil 3,.nil 2] [(0,3,(T 28))]),O 9 (.alloc true [.nil 1,.nil 3,.nil 2]),Q (S 3 9 29)]) (M ([O 30 (F 0 1 false 2),O 31 (L 1 false 30),O 32 (.ext (.libClone 37 1 24) [T 31]),O 33 (F 0 3 true 9),O 34 (F 0 1 false 33),Q (S 1 34 32)]) (.seq (.sregion [V 35 7,O 36 (L 11 true 3),⟨some 37,none,.icall (T 35) [T 9,T 36]⟩]) (M [O 38 (F 0 3 true 9),O 39 (L 3 true 38),Q (S 3 4 39),Q (.store 1 (T 5) (Z 0))] .ret))))))))),res:=[.cell 4 3 true,.cell 5 1 false]}
theorem c12:CmpF Tryz.prog 12 a12:=chkF_cmpL lib0 (F:=Tryz.f12) (by kernel_rfl) mixed (by kernel_rfl)
def a13:AF:=
{nt:=63,body:=(M ([O 2 (.box true (T 0)),O 3 (.box true (T 1)),O 4 (.alloc true [.nil 1,.nil 3,.nil 2]),O 5 (.mov (Z 0))]) (.seq (M ([O 8 (L 3 true 2),C 9 17 [T 8],O 10 (B .neq 9 0)]) (K 10 (M ([O 11 (.build [.nil 1,.nil 3,.nil 2] []),Q (S 3 4 11),O 5 (.mov (Z 530))]) .ret) .skip)) (M ([O 12 (L 3 true 2),O 6 (.alloc true [.nil 1,.nil 3,.nil 2]),Q (S 3 6 12)]) (M [O 7 (.mov (Z 1))] (.seq (M [O 13 (F 0 1 false 3),O 14 (L 1 false 13)] (.block 0 (M [O 16 (B .eql 14 1),V 15 16] (K 15 (M ([O 17 (L 3 true 2),O 18 (L 11 true 3),C 19 38 [T 17,T 18],O 20 (E 19 0),O 21 (E 19 1),Q (S 3 4 20),V 5 21]) .ret) (M [O 23 (B .eql 14 2),V 22 23] (K 22 (M ([O 24 (L 3 true 2),O 25 (L 11 true 3),C 26 39 [T 24,T 25],O 27 (E 26 0),O 28 (E 26 1),Q (S 3 4 27),V 5 28]) .ret) (M [O 30 (B .eql 14 3),V 29 30] (K 29 (M ([O 31 (L 3 true 2),O 32 (L 11 true 3),C 33 40 [T 31,T 32],O 34 (E 33 0),O 35 (E 33 1),Q (S 3 4 34),V 5 35]) .ret) (M [O 37 (B .eql 14 4),V 36 37] (K 36 (J [O 39 (F 1 2 true 2),O 40 (L 2 true 39),O 41 (F 3 1 false 3),O 42 (L 1 false 41),C 43 41 [T 40,T 42],V 38 43,O 44 (E 38 0),O 45 (E 38 1),O 46 (F 1 2 true 6),Q (S 2 46 44),V 7 45]) (M [O 48 (B .eql 14 5),V 47 48] (K 47 (J [O 50 (F 1 2 true 2),O 51 (L 2 true 50),O 52 (F 3 1 false 3),O 53 (L 1 false 52),C 54 42 [T 51,T 53],V 49 54,O 55 (E 49 0),O 56 (E 49 1),O 57 (F 1 2 true 6),Q (S 2 57 55),V 7 56]) .skip)))))))))))) (.seq (M [V 58 7,O 59 (B .neq 58 0)] (K 59 (M ([O 60 (.build [.nil 1,.nil 3,.nil 2] []),V 61 7,Q (S 3 4 60),V 5 61]) .ret) .skip)) (M [O 62 (L 3 true 6),Q (S 3 4 62),O 5 (.mov (Z 0))] .ret))))))),res:=[.cell 4 3 true,.tmp 5]}
theorem c13:CmpF Tryz.prog 13 a13:=ck Tryz.f13
def a14:AF:=
{nt:=15,body:=(M ([O 2 (.alloc true [.nil 1,.nil 3,.nil 2]),O 3 (.mov (Z 0))]) (.seq (M [V 4 0,O 5 (B .lss 4 1),V 6 5,G 7 6 (.mov (T 0)),G 8 6 (B .gtr 7 24),O 9 (.pick (T 6) (Y true) (T 8))] (K 9 (M [O 10 (L 3 true 2),Q (S 3 2 10),O 3 (.mov (Z 1))] .ret) .skip)) (.seq (.region (some [[],[0],[],[0,1,2],[0,1,2,3],[0,1,2,3,4]]) [V 11 0,O 12 (.ext (.makeslice 1 24 (.agg [.nil 7])) [T 11,T 11]),C 13 43 [],O 14 (.build [.nil 1,.nil 3,.nil 2] [(0,1,(T 12)),(1,2,(T 13))]),Q (S 3 2 14),O 3 (.mov (Z 0))]) .ret))),res:=[.cell 2 3 true,.tmp 3]}
theorem c14:CmpF Tryz.prog 14 a14:=ck Tryz.f14
def a15:AF:=
{nt:=15,body:=(M ([O 2 (.alloc true [.nil 1,.nil 3,.nil 2]),O 3 (.mov (Z 0))]) (.seq (M [V 4 0,O 5 (B .lss 4 1),V 6 5,G 7 6 (.mov (T 0)),G 8 6 (B .gtr 7 24),O 9 (.pick (T 6) (Y true) (T 8))] (K 9 (M ([O 10 (.build [.nil 1,.nil 3,.nil 2] []),Q (S 3 2 10),O 3 (.mov (Z 1))]) .ret) .skip)) (.seq (.region (some [[],[0],[],[0,1,2],[0,1,2,3],[0,1,2,3,4]]) [V 11 0,O 12 (.ext (.makeslice 1 24 (.agg [.nil 7])) [T 11,T 11]),C 13 44 [],O 14 (.build [.nil 1,.nil 3,.nil 2] [(0,1,(T 12)),(1,2,(T 13))]),Q (S 3 2 14),O 3 (.mov (Z 0))]) .ret))),res:=[.cell 2 3 true,.tmp 3]}
theorem c15:CmpF Tryz.prog 15 a15:=ck Tryz.f15
def a16:AF:=
{nt:=64,body:=(M [O 1 (.box true (T 0)),O 2 (.mov (Z 0))] (.seq (M ([O 9 (F 0 1 false 1),O 10 (L 1 false 9),O 11 (N 10),O 12 (B .lss 11 1),V 13 12,G 14 13 (F 0 1 false 1),G 15 13 (L 1 false 14),G 16 13 (N 15),G 17 13 (B .gtr 16 24),O 18 (.pick (T 13) (Y true) (T 17)),V 19 18,G 20 19 (F 1 2 true 1),G 21 19 (L 2 true 20),⟨some 22,some (19,false),.call (U 45) [T 21]⟩,G 23 19 (B .neq 22 0),O 24 (.pick (T 19) (Y true) (T 23))]) (K 24 (M [O 2 (.mov (Z 530))] .ret) .skip)) (.seq (M [O 25 (F 0 1 false 1),O 26 (L 1 false 25),O 27 (N 26),O 28 (.mov (Z 0))] (.block 0 (.loop (M [O 29 (A .lss 28 27)] (.seq (K 29 .skip (.exit 0)) (.seq (.block 1 (M ([O 30 (I 1 26 28),O 31 (L 1 true 30),O 4 (.alloc true [.nil 7]),Q (S 1 4 31)]) (M ([O 32 (L 1 true 4),C 33 46 [T 32],O 34 (.not (T 33))]) (K 34 (M [O 2 (.mov (Z 530))] .ret) .skip)))) (J [O 35 (B .add 28 1),V 28 35]))))))) (.seq (M [O 36 (F 1 2 true 1),O 37 (F 0 1 false 36),O 38 (L 1 false 37),O 39 (N 38),O 40 (.mov (Z 0))] (.block 2 (.loop (M [O 41 (A .lss 40 39)] (.seq (K 41 .skip (.exit 2)) (.seq (.block 3 (M ([O 42 (I 3 38 40),O 43 (L 3 true 42),O 6 (.alloc true [z0,z0,.nil 1]),Q (S 3 6 43)]) (M ([O 45 (F 2 1 false 6),O 46 (L 1 false 45),C 47 47 [T 46],V 44 47,O 48 (E 44 0),O 49 (E 44 1),O 7 (.alloc true [z0,z0,z0,z0,z0,z0,.lit (.string ⟨#[]⟩)]),Q (S 7 7 48),V 8 49]) (M [V 50 8,O 51 (.not (T 50)),V 52 51,G 53 52 (F 0 1 false 6),G 54 52 (L 1 false 53),G 55 52 (F 1 1 false 6),G 56 52 (L 1 false 55),G 57 52 (.minmax true (T 54) (T 56)),G 58 52 (F 0 1 false 1),G 59 52 (L 1 false 58),G 60 52 (N 59),G 61 52 (A .geq 57 60),O 62 (.pick (T 52) (Y true) (T 61))] (K 62 (M [O 2 (.mov (Z 530))] .ret) .skip))))) (J [O 63 (B .add 40 1),V 40 63]))))))) (M [O 2 (.mov (Z 0))] .ret))))),res:=[.tmp 2]}
theorem c16:CmpF Tryz.prog 16 a16:=ck Tryz.f16
def a17:AF:=
{nt:=76,body:=(M [O 1 (.box true (T 0)),O 2 (.mov (Z 0))] (.seq (M ([O 8 (F 0 1 false 1),O 9 (L 1 false 8),O 10 (N 9),O 11 (B .lss 10 1),V 12 11,G 13 12 (F 0 1 false 1),G 14 12 (L 1 false 13),G 15 12 (N 14),G 16 12 (B .gtr 15 24),O 17 (.pick (T 12) (Y true) (T 16)),V 18 17,G 19 18 (F 1 2 true 1),G 20 18 (L 2 true 19),⟨some 21,some (18,false),.call (U 48) [T 20]⟩,G 22 18 (B .neq 21 0),O 23 (.pick (T 18) (Y true) (T 22))]) (K 23 (M [O 2 (.mov (Z 530))] .ret) .skip)) (.seq (M [O 3 (.mov (Z 0))] (.block 0 (.loop (.seq (M [V 24 3,O 25 (F 0 1 false 1),O 26 (L 1 false 25),O 27 (N 26),O 28 (A .lss 24 27)] (K 28 .skip (.exit 0))) (.seq (.block 1 (M ([O 31 (F 0 1 false 1),O 32 (L 1 false 31),V 33 3,O 34 (I 1 32 33),O 35 (L 1 true 34),C 36 26 [T 35],O 37 (.not (T 36))]) (K 37 (M [O 2 (.mov (Z 530))] .ret) .skip))) (J [V 29 3,O 30 (B .add 29 1),V 3 30])))))) (.seq (M [O 4 (.mov (Z 0))] (.block 2 (.loop (.seq (M [V 38 4,O 39 (F 1 2 true 1),O 40 (F 0 1 false 39),O 41 (L 1 false 40),O 42 (N 41),O 43 (A .lss 38 42)] (K 43 .skip (.exit 2))) (.seq (.block 3 (M ([O 46 (F 1 2 true 1),O 47 (F 0 1 false 46),O 48 (L 1 false 47),V 49 4,O 50 (I 3 48 49),O 51 (L 3 true 50),O 5 (.alloc true [z0,z0,.nil 1]),Q (S 3 5 51)]) (M ([O 53 (F 2 1 false 5),O 54 (L 1 false 53),C 55 49 [T 54],V 52 55,O 56 (E 52 0),O 57 (E 52 1),O 6 (.alloc true [z0,z0,z0,z0,z0,z0,.lit (.string ⟨#[]⟩)]),Q (S 7 6 56),V 7 57]) (M [V 58 7,O 59 (.not (T 58)),V 60 59,G 61 60 (F 0 1 false 5),G 62 60 (L 1 false 61),G 63 60 (F 0 1 false 1),G 64 60 (L 1 false 63),G 65 60 (N 64),G 66 60 (A .geq 62 65),O 67 (.pick (T 60) (Y true) (T 66)),V 68 67,G 69 68 (F 1 1 false 5),G 70 68 (L 1 false 69),G 71 68 (F 0 1 false 1),G 72 68 (L 1 false 71),G 73 68 (N 72),G 74 68 (A .geq 70 73),O 75 (.pick (T 68) (Y true) (T 74))] (K 75 (M [O 2 (.mov (Z 530))] .ret) .skip))))) (J [V 44 4,O 45 (B .add 44 1),V 4 45])))))) (M [O 2 (.mov (Z 0))] .ret))))),res:=[.tmp 2]}
theorem c17:CmpF Tryz.prog 17 a17:=ck Tryz.f17
def a18:AF:=
{nt:=42,body:=(M [O 2 (.box true (T 0)),O 3 (.box true (T 1)),O 4 (.mov (Y false))] (.seq (M ([O 6 (F 0 1 false 2),O 7 (L 1 false 6),O 8 (N 7),O 9 (F 0 1 false 3),O 10 (L 1 false 9),O 11 (N 10),O 12 (A .neq 8 11),V 13 12,G 14 13 (F 1 2 true 2),G 15 13 (L 2 true 14),G 16 13 (F 1 2 true 3),G 17 13 (L 2 true 16),⟨some 18,some (13,false),.call (U 50) [T 15,T 17]⟩,G 19 13 (.not (T 18)),O 20 (.pick (T 13) (Y true) (T 19))]) (K 20 (M [O 4 (.mov (Y false))] .ret) .skip)) (.seq (M [O 5 (.mov (Z 0))] (.block 0 (.loop (.seq (M [V 21 5,O 22 (F 0 1 false 2),O 23 (L 1 false 22),O 24 (N 23),O 25 (A .lss 21 24)] (K 25 .skip (.exit 0))) (.seq (.block 1 (.seq (.region (some [[],[0],[],[0,1,2],[0,1,2,3],[0,1,2,3,4],[],[6],[],[6,7,8],[6,7,8,9],[6,7,8,9,10],[0,1,2,3,4,5,6,7,8,9,10,11],[0,1,2,3,4,5,6,7,8,9,10,11,12]]) [O 28 (F 0 1 false 2),O 29 (L 1 false 28),V 30 5,O 31 (I 1 29 30),O 32 (F 0 1 false 31),O 33 (L 1 false 32),O 34 (F 0 1 false 3),O 35 (L 1 false 34),V 36 5,O 37 (I 1 35 36),O 38 (F 0 1 false 37),O 39 (L 1 false 38),C 40 24 [T 33,T 39],O 41 (.not (T 40))]) (K 41 (M [O 4 (.mov (Y false))] .ret) .skip))) (J [V 26 5,O 27 (B .add 26 1),V 5 27])))))) (M [O 4 (.mov (Y true))] .ret)))),res:=[.tmp 4]}
theorem c18:CmpF Tryz.prog 18 a18:=ck Tryz.f18
def a19:AF:=
{nt:=36,body:=(M ([O 2 (.box true (T 0)),O 4 (.alloc false [.nil 3]),O 5 (.alloc false [z0]),O 6 (.mov (Z 0))]) (.seq (M ([O 10 (L 1 true 2),C 11 46 [T 10],O 12 (.not (T 11))]) (K 12 (M [Q (.store 1 (T 4) (.dat (.nil 3))),Q (.store 1 (T 5) (Z 0)),O 6 (.mov (Z 530))] .ret) .skip)) (.seq (M [V 13 1,O 14 (B .lss 13 0),V 15 14,G 16 15 (.mov (T 1)),G 17 15 (B .geq 16 32),O 18 (.pick (T 15) (Y true) (T 17))] (K 18 (M [Q (.store 1 (T 4) (.dat (.nil 3))),Q (.store 1 (T 5) (Z 0)),O 6 (.mov (Z 1))] .ret) .skip)) (.seq (M ([O 19 (L 1 true 2),V 20 1,C 21 51 [T 19,T 20]]) (.block 0 (.range (T 21) [22] (J [O 7 (.alloc true [z0,z0,z0,z0,.lit (.string ⟨#[]⟩)]),Q (S 5 7 22)]) (.block 1 (.seq (M ([O 24 (L 1 false 4),O 25 (L 5 true 7),C 26 27 [T 24,T 25],V 23 26,O 27 (E 23 0),O 28 (E 23 1),V 8 27,V 9 28]) (M [V 29 9,O 30 (B .eql 29 0)] (K 30 (J [V 31 8,Q (S 1 4 31)]) .skip))) (J [O 32 (L 1 false 5),O 33 (B .add 32 1),Q (S 1 5 33)])))))) (.seq (.region (some [[],[],[0],[0,1,2],[0,1,2,3]]) [O 34 (L 1 false 4),O 35 (L 1 false 5),Q (S 1 4 34),Q (S 1 5 35),O 6 (.mov (Z 0))]) .ret))))),res:=[.cell 4 1 false,.cell 5 1 false,.tmp 6]}
theorem c19:CmpF Tryz.prog 19 a19:=ck Tryz.f19
def a20:AF:=
{nt:=52,body:=(M [O 2 (.box true (T 0)),O 4 (.mov (.dat (.nil 3))),O 5 (.mov (Z 0)),O 6 (.mov (Z 0))] (.seq (M ([O 13 (L 1 true 2),C 14 26 [T 13],O 15 (.not (T 14))]) (K 15 (M [O 4 (.mov (.dat (.nil 3))),O 5 (.mov (Z 0)),O 6 (.mov (Z 530))] .ret) .skip)) (.seq (M [V 16 1,O 17 (B .lss 16 0),V 18 17,G 19 18 (.mov (T 1)),G 20 18 (B .geq 19 32),O 21 (.pick (T 18) (Y true) (T 20))] (K 21 (M [O 4 (.mov (.dat (.nil 3))),O 5 (.mov (Z 0)),O 6 (.mov (Z 1))] .ret) .skip)) (M ([O 22 (.mkslice 3 []),V 7 22]) (M [O 8 (.mov (Z 0))] (M ([O 24 (F 0 1 false 2),O 25 (L 1 false 24),V 26 1,C 27 52 [T 25,T 26,Z 0],V 23 27,O 28 (E 23 0),O 29 (E 23 1),O 9 (.alloc true [z0,z0,z0,z0,.lit (.string ⟨#[]⟩)]),Q (S 5 9 28),V 10 29]) (.seq (.block 0 (.loop (.seq (M [V 30 10] (K 30 .skip (.exit 0))) (.block 1 (M ([V 32 7,O 33 (L 5 true 9),C 34 53 [T 32,T 33],V 31 34,O 35 (E 31 0),O 36 (E 31 1),V 11 35,V 12 36]) (.seq (M [V 37 12,O 38 (B .eql 37 0)] (K 38 (J [V 39 11,V 7 39]) .skip)) (M [V 40 8,O 41 (B .add 40 1),V 8 41] (J [O 43 (F 0 1 false 2),O 44 (L 1 false 43),V 45 1,V 46 8,C 47 52 [T 44,T 45,T 46],V 42 47,O 48 (E 42 0),O 49 (E 42 1),Q (S 5 9 48),V 10 49])))))))) (M [V 50 7,V 51 8,V 4 50,V 5 51,O 6 (.mov (Z 0))] .ret)))))))),res:=[.tmp 4,.tmp 5,.tmp 6]}
theorem c20:CmpF Tryz.prog 20 a20:=ck Tryz.f20
def a21:AF:=
{nt:=26,body:=(M [O 4 (.mov (Y false))] (.seq (M [V 6 0,O 7 (N 6),V 8 1,O 9 (N 8),O 10 (A .neq 7 9)] (K 10 (M [O 4 (.mov (Y false))] .ret) .skip)) (.seq (M [O 5 (.mov (Z 0))] (.block 0 (.loop (.seq (M [V 11 5,V 12 0,O 13 (N 12),O 14 (A .lss 11 13)] (K 14 .skip (.exit 0))) (.seq (.block 1 (.seq (.region (some [[],[],[0,1],[0,1,2],[],[],[4,5],[4,5,6],[0,1,2,3,4,5,6,7]]) [V 17 0,V 18 5,O 19 (I 3 17 18),O 20 (L 3 true 19),V 21 1,V 22 5,O 23 (I 3 21 22),O 24 (L 3 true 23),O 25 (.ext (.eqrow true [.int .i64,.int .i64,.str]) [T 20,T 24])]) (K 25 (M [O 4 (.mov (Y false))] .ret) .skip))) (J [V 15 5,O 16 (B .add 15 1),V 5 16])))))) (M [O 4 (.mov (Y true))] .ret)))),res:=[.tmp 4]}
theorem c21:CmpF Tryz.prog 21 a21:=ck Tryz.f21
def a24:AF:=
{nt:=26,body:=(M [O 4 (.mov (Y false))] (.seq (M [V 6 0,O 7 (N 6),V 8 1,O 9 (N 8),O 10 (A .neq 7 9)] (K 10 (M [O 4 (.mov (Y false))] .ret) .skip)) (.seq (M [O 5 (.mov (Z 0))] (.block 0 (.loop (.seq (M [V 11 5,V 12 0,O 13 (N 12),O 14 (A .lss 11 13)] (K 14 .skip (.exit 0))) (.seq (.block 1 (.seq (.region (some [[],[],[0,1],[0,1,2],[],[],[4,5],[4,5,6],[0,1,2,3,4,5,6,7]]) [V 17 0,V 18 5,O 19 (I 7 17 18),O 20 (L 7 true 19),V 21 1,V 22 5,O 23 (I 7 21 22),O 24 (L 7 true 23),O 25 (.ext (.eqrow true [.int .i64,.int .i64,.int .i64,.int .i64,.int .i64,.int .i64,.str]) [T 20,T 24])]) (K 25 (M [O 4 (.mov (Y false))] .ret) .skip))) (J [V 15 5,O 16 (B .add 15 1),V 5 16])))))) (M [O 4 (.mov (Y true))] .ret)))),res:=[.tmp 4]}
theorem c24:CmpF Tryz.prog 24 a24:=ck Tryz.f24
def a26:AF:=
{nt:=41,body:=(M [O 1 (.box true (T 0)),O 2 (.mov (Y false))] (.seq (M [O 3 (.mov (Z 0))] (.block 0 (.loop (.seq (M [V 4 3,O 5 (F 0 1 false 1),O 6 (L 1 false 5),O 7 (N 6),O 8 (A .lss 4 7)] (K 8 .skip (.exit 0))) (.seq (.block 1 (.seq (.region (some [[],[0],[],[0,1,2],[0,1,2,3],[0,1,2,3,4],[0,1,2,3,4,5],[0,1,2,3,4,5,6],[0,1,2,3,4,5,6,7],[0,1,2,3,4,5,6,7,8],[0,1,2,3,4,5,6,7,8,9],[0,1,2,3,4,5,6,7,8,9,10],[0,1,2,3,4,5,6,7,8,9,10,11],[0,1,2,3,4,5,6,7,8,9,10],[0,1,2,3,4,5,6,7,8,9,10,13],[0,1,2,3,4,5,6,7,8,9,10,11,12,13,14],[0,1,2,3,4,5,6,7,8,9,10,11,12,13,14,15],[0,1,2,3,4,5,6,7,8,9,10],[0,1,2,3,4,5,6,7,8,9,10,17],[0,1,2,3,4,5,6,7,8,9,10],[0,1,2,3,4,5,6,7,8,9,10,17,18,19],[0,1,2,3,4,5,6,7,8,9,10,17,18,19,20],[0,1,2,3,4,5,6,7,8,9,10,11,12,13,14,15,16,17,18,19,20,21],[0,1,2,3,4,5,6,7,8,9,10,11,12,13,14,15,16,17,18,19,20,21,22],[0,1,2,3,4,5,6,7,8,9,10,11,12,13,14,15,16,17,18,19,20,21,22,23],[0,1,2,3,4,5,6,7,8,9,10,11,12,13,14,15,16,17,18,19,20,21,22,23,24]]) [O 11 (F 0 1 false 1),O 12 (L 1 false 11),V 13 3,O 14 (I 7 12 13),O 15 (L 7 true 14),C 16 55 [T 15],O 17 (.not (T 16)),V 18 17,G 19 18 (.mov (T 3)),G 20 18 (B .gtr 19 0),G 21 18 (.mov (T 20)),H 22 21 (F 0 1 false 1),H 23 21 (L 1 false 22),H 24 21 (.mov (T 3)),H 25 21 (B .sub 24 1),H 26 21 (I 7 23 25),H 27 21 (L 7 true 26),H 28 21 (F 0 1 false 1),H 29 21 (L 1 false 28),H 30 21 (.mov (T 3)),H 31 21 (I 7 29 30),H 32 21 (L 7 true 31),⟨some 33,some (21,true),.call (U 56) [T 27,T 32]⟩,H 34 21 (.not (T 33)),G 35 18 (.pick (T 21) (T 34) (Y false)),O 36 (.pick (T 18) (Y true) (T 35))]) (K 36 (M [O 2 (.mov (Y false))] .ret) .skip))) (J [V 9 3,O 10 (B .add 9 1),V 3 10])))))) (M [O 37 (F 0 1 false 1),O 38 (L 1 false 37),O 39 (N 38),O 40 (B .leq 39 4096),V 2 40] .ret))),res:=[.tmp 2]}
theorem c26:CmpF Tryz.prog 26 a26:=ck Tryz.f26
def a27:AF:=
{nt:=18,body:=(M ([O 3 (.box true (T 1)),O 4 (.mov (.dat (.nil 3))),O 5 (.alloc false [z0])]) (.seq (.sregion [⟨none,none,.defer (U 57) [T 5]⟩]) (M ([V 7 0,C 8 58 [T 7]]) (M ([C 9 59 [],V 6 9]) (.seq (.sregion [O 10 (L 5 true 3),V 11 6,⟨some 12,none,.icall (U 60) [T 10,T 11]⟩]) (.seq (.dregion [[],[0],[],[],[0,1,2,3],[0,1,2,3,4],[0,1,2,3,4,5]] 4 [V 13 0,O 14 (.ext (.libClone 62 3 32) [T 13]),O 15 (L 5 true 3),V 16 6,⟨some 17,none,.icall (U 61) [T 14,T 15,T 16]⟩,V 4 17,Q (.store 1 (T 5) (Z 0))]) .ret)))))),res:=[.tmp 4,.cell 5 1 false]}
theorem c27:CmpF Tryz.prog 27 a27:=chkF_cmpL lib0 (F:=Tryz.f27) (by kernel_rfl) mixed (by kernel_rfl)
def a28:AF:=
{nt:=16,body:=(M ([O 8 (.alloc true [z0,z0,z0,z0,z0,z0,.lit (.string ⟨#[]⟩)])]) (M ([V 9 0,V 10 1,V 11 2,V 12 3,O 13 (.build [z0,z0,.lit (.string ⟨#[]⟩)] [(0,1,(T 11)),(2,1,(T 12))]),O 14 (.build [z0,z0,z0,z0,.lit (.string ⟨#[]⟩)] [(0,1,(Z 7)),(1,1,(Z 1)),(2,3,(T 13))]),O 15 (.build [z0,z0,z0,z0,z0,z0,.lit (.string ⟨#[]⟩)] [(0,1,(T 9)),(1,1,(T 10)),(2,5,(T 14))]),Q (S 7 8 15)]) .ret)),res:=[.cell 8 7 true]}
theorem c28:CmpF Tryz.prog 28 a28:=ck Tryz.f28
def a29:AF:=
{nt:=39,body:=(M [O 1 (.box true (T 0)),O 2 (.mov (.dat (.nil 1)))] (M ([O 6 (F 2 5 true 1),O 7 (L 5 true 6),O 3 (.alloc true [z0,z0,z0,z0,.lit (.string ⟨#[]⟩)]),Q (S 5 3 7)]) (.seq (.region (some [[],[0],[0,1],[],[3],[0,1,2,3,4],[],[6],[0,1,2,3,4,5,6,7],[],[9],[0,1,2,3,4,5,6,7,8,9,10],[],[12],[12,13],[0,1,2,3,4,5,6,7,8,9,10,11,12,13,14],[],[16],[16,17],[0,1,2,3,4,5,6,7,8,9,10,11,12,13,14,15,16,17,18],[],[20],[20,21],[0,1,2,3,4,5,6,7,8,9,10,11,12,13,14,15,16,17,18,19,20,21,22],[0,1,2,3,4,5,6,7,8,9,10,11,12,13,14,15,16,17,18,19,20,21,22,23],[0,1,2,3,4,5,6,7,8,9,10,11,12,13,14,15,16,17,18,19,20,21,22,23,24],[0,1,2,3,4,5,6,7,8,9,10,11,12,13,14,15,16,17,18,19,20,21,22,23,24,25],[0,1,2,3,4,5,6,7,8,9,10,11,12,13,14,15,16,17,18,19,20,21,22,23,24,25,26],[0,1,2,3,4,5,6,7,8,9,10,11,12,13,14,15,16,17,18,19,20,21,22,23,24,25,26,27],[0,1,2,3,4,5,6,7,8,9,10,11,12,13,14,15,16,17,18,19,20,21,22,23,24,25,26,27],[0,1,2,3,4,5,6,7,8,9,10,11,12,13,14,15,16,17,18,19,20,21,22,23,24,25,26,27,28],[0,1,2,3,4,5,6,7,8,9,10,11,12,13,14,15,16,17,18,19,20,21,22,23,24,25,26,27,28,29,30]]) [O 9 (F 0 1 false 1),O 10 (L 1 false 9),C 11 65 [T 10],O 12 (F 1 1 false 1),O 13 (L 1 false 12),C 14 65 [T 13],O 15 (F 0 1 false 3),O 16 (L 1 false 15),C 17 65 [T 16],O 18 (F 1 1 false 3),O 19 (L 1 false 18),C 20 65 [T 19],O 21 (F 2 3 true 3),O 22 (F 0 1 false 21),O 23 (L 1 false 22),C 24 65 [T 23],O 25 (F 2 3 true 3),O 26 (F 1 1 false 25),O 27 (L 1 false 26),C 28 65 [T 27],O 29 (F 2 3 true 3),O 30 (F 2 1 false 29),O 31 (L 1 false 30),C 32 66 [T 31],O 33 (.mkslice 4 [T 11,T 14,T 17,T 20,T 24,T 28,T 32]),C 34 64 [T 33],C 35 63 [T 34],V 8 35,O 36 (E 8 0),O 37 (E 8 1),V 4 36,V 5 37]) (M [V 38 4,V 2 38] .ret)))),res:=[.tmp 2]}
theorem c29:CmpF Tryz.prog 29 a29:=ck Tryz.f29
def a30:AF:=
{nt:=13,body:=(M [O 1 (.box true (T 0)),O 2 (.mov (Y false))] (M [O 3 (F 0 1 false 1),O 4 (L 1 false 3),O 5 (N 4),O 6 (B .leq 5 40),V 7 6,H 8 7 (F 1 1 false 1),H 9 7 (L 1 false 8),H 10 7 (N 9),H 11 7 (B .leq 10 40),O 12 (.pick (T 7) (T 11) (Y false)),V 2 12] .ret)),res:=[.tmp 2]}
theorem c30:CmpF Tryz.prog 30 a30:=ck Tryz.f30
def a31:AF:=
{nt:=21,body:=(M [O 2 (.box false (T 0)),O 3 (.box true (T 1))] (.seq (.sregion [O 4 (L 1 false 2),O 5 (F 1 1 false 3),O 6 (L 1 false 5),⟨some 7,none,.icall (U 67) [T 4,T 6]⟩]) (M ([O 8 (F 4 7 true 3),O 9 (L 7 true 8),C 10 69 [T 9],C 11 68 [T 10,Z 530]]) (.seq (.sregion [O 12 (L 1 false 2),O 13 (F 1 1 false 3),O 14 (L 1 false 13),O 15 (F 4 7 true 3),O 16 (L 7 true 15),⟨some 17,none,.icall (U 70) [T 12,T 14,T 16]⟩]) (.sregion [O 18 (L 1 false 2),O 19 (.func (.func 72) [] [T 2,T 3]),⟨some 20,none,.icall (U 71) [T 18,T 19]⟩]))))),res:=[]}
theorem c31:CmpF Tryz.prog 31 a31:=ck Tryz.f31
def a32:AF:=
{nt:=21,body:=(M [O 2 (.box false (T 0)),O 3 (.box true (T 1))] (.seq (.sregion [O 4 (L 1 false 2),O 5 (F 1 1 false 3),O 6 (L 1 false 5),⟨some 7,none,.icall (U 67) [T 4,T 6]⟩]) (.seq (.sregion [O 8 (L 1 false 2),O 9 (F 2 1 false 3),O 10 (L 1 false 9),⟨some 11,none,.icall (U 67) [T 8,T 10]⟩]) (M ([O 12 (F 1 1 false 3),O 13 (L 1 false 12),O 14 (F 2 1 false 3),O 15 (L 1 false 14),O 16 (A .neq 13 15),C 17 68 [T 16,Z 1]]) (.sregion [O 18 (L 1 false 2),O 19 (.func (.func 74) [] [T 2,T 3]),⟨some 20,none,.icall (U 71) [T 18,T 19]⟩]))))),res:=[]}
theorem c32:CmpF Tryz.prog 32 a32:=ck Tryz.f32
def a33:AF:=
{nt:=46,body:=(M [O 3 (.box true (T 1))] (.seq (.region (some [[],[0],[0,1],[0,1,2],[0,1,2,3],[],[5],[0,1,2,3,4,5,6],[0,1,2,3,4,5,6,7],[0,1,2,3,4,5,6,7,8],[0,1,2,3,4,5,6,7,8],[0,1,2,3,4,5,6,7,8],[],[],[0,1,2,3,4,5,6,7,8,9,12,13],[0,1,2,3,4,5,6,7,8,9,10,12,13,14],[0,1,2,3,4,5,6,7,8,9,10,11,12,13,14,15]]) [V 10 0,O 11 (.ext .nilChk [T 10]),O 12 (F 0 3 true 11),O 13 (F 1 2 true 12),O 14 (L 2 true 13),O 15 (F 3 1 false 3),O 16 (L 1 false 15),C 17 75 [T 14,T 16],V 9 17,O 18 (E 9 0),O 19 (E 9 1),O 20 (E 9 2),O 4 (.alloc true [z0,z0,.nil 1]),O 5 (.alloc true [.nil 3,.nil 2]),Q (S 3 4 18),Q (S 2 5 19),V 6 20]) (M ([V 21 6,O 22 (B .eql 21 0),V 23 6,C 24 68 [T 22,T 23]]) (M ([V 25 0,O 26 (L 2 true 5),O 27 (.ext .nilChk [T 25]),O 28 (F 0 3 true 27),O 29 (F 1 2 true 28),Q (S 2 29 26)]) (M [O 30 (F 0 1 false 4),O 31 (L 1 false 30),O 32 (F 1 1 false 4),O 33 (L 1 false 32),O 34 (A .neq 31 33)] (K 34 (M ([O 36 (F 2 1 false 4),O 37 (L 1 false 36),C 38 47 [T 37],V 35 38,O 39 (E 35 0),O 40 (E 35 1),O 7 (.alloc true [z0,z0,z0,z0,z0,z0,.lit (.string ⟨#[]⟩)]),Q (S 7 7 39),V 8 40]) (.sregion [V 41 0,O 42 (F 1 1 false 4),O 43 (L 1 false 42),O 44 (L 7 true 7),⟨some 45,none,.icall (U 70) [T 41,T 43,T 44]⟩])) .skip)))))),res:=[]}
theorem c33:CmpF Tryz.prog 33 a33:=ck Tryz.f33
def a34:AF:=
{nt:=26,body:=(M [O 3 (.box true (T 1))] (.seq (.region (some [[],[0],[0,1],[0,1,2],[0,1,2,3],[],[5],[0,1,2,3,4,5,6],[0,1,2,3,4,5,6,7],[0,1,2,3,4,5,6,7,8],[0,1,2,3,4,5,6,7,8],[],[0,1,2,3,4,5,6,7,8,9,11],[0,1,2,3,4,5,6,7,8,9,10,11,12]]) [V 7 0,O 8 (.ext .nilChk [T 7]),O 9 (F 0 3 true 8),O 10 (F 1 2 true 9),O 11 (L 2 true 10),O 12 (F 3 1 false 3),O 13 (L 1 false 12),C 14 76 [T 11,T 13],V 6 14,O 15 (E 6 0),O 16 (E 6 1),O 4 (.alloc true [.nil 3,.nil 2]),Q (S 2 4 15),V 5 16]) (M ([V 17 5,O 18 (B .eql 17 0),V 19 5,C 20 68 [T 18,T 19]]) (J [V 21 0,O 22 (L 2 true 4),O 23 (.ext .nilChk [T 21]),O 24 (F 0 3 true 23),O 25 (F 1 2 true 24),Q (S 2 25 22)])))),res:=[]}
theorem c34:CmpF Tryz.prog 34 a34:=ck Tryz.f34
def a35:AF:=
{nt:=26,body:=(M [O 3 (.box true (T 1))] (.seq (.region (some [[],[0],[0,1],[0,1,2],[0,1,2,3],[],[5],[0,1,2,3,4,5,6],[0,1,2,3,4,5,6,7],[0,1,2,3,4,5,6,7,8],[0,1,2,3,4,5,6,7,8],[],[0,1,2,3,4,5,6,7,8,9,11],[0,1,2,3,4,5,6,7,8,9,10,11,12]]) [V 7 0,O 8 (.ext .nilChk [T 7]),O 9 (F 0 3 true 8),O 10 (F 1 2 true 9),O 11 (L 2 true 10),O 12 (F 3 1 false 3),O 13 (L 1 false 12),C 14 77 [T 11,T 13],V 6 14,O 15 (E 6 0),O 16 (E 6 1),O 4 (.alloc true [.nil 3,.nil 2]),Q (S 2 4 15),V 5 16]) (M ([V 17 5,O 18 (B .eql 17 0),V 19 5,C 20 68 [T 18,T 19]]) (J [V 21 0,O 22 (L 2 true 4),O 23 (.ext .nilChk [T 21]),O 24 (F 0 3 true 23),O 25 (F 1 2 true 24),Q (S 2 25 22)])))),res:=[]}
theorem c35:CmpF Tryz.prog 35 a35:=ck Tryz.f35
def a36:AR where
 nt:=13
 ta:=5
 tb:=5
 rest:=(.block 0
   (.seq (.region none [
    ⟨(some 7),none,(.op (.ext (.isNil false) [(.tmp 5)]))⟩])
   (.cond (.tmp 7)
    (.region none [
     ⟨(some 2),none,(.op (.mov (.tmp 5)))⟩])
    (.seq (.region none [
     ⟨(some 8),none,(.op (.ext (.tassert 39 (.lit (.int .i64 0))) [(.tmp 5)]))⟩,
     ⟨(some 9),none,(.op (.extract (.tmp 8) 1))⟩,
     ⟨(some 10),none,(.op (.extract (.tmp 8) 0))⟩])
    (.cond (.tmp 9)
     (.seq (.region none [
      ⟨(some 3),none,(.op (.mov (.tmp 10)))⟩])
     (.region none [
      ⟨(some 11),none,(.op (.build [.nil 1,.nil 3,.nil 2] []))⟩,
      ⟨(some 12),none,(.op (.mov (.tmp 3)))⟩,
      ⟨none,none,(.op (.store 3 (.tmp 0) (.tmp 11)))⟩,
      ⟨none,none,(.op (.store 1 (.tmp 1) (.tmp 12)))⟩]))
     (.seq (.region none [
      ⟨(some 4),none,(.op (.mov (.tmp 5)))⟩])
     (.sregion [
      ⟨(some 6),none,(.op (.mov (.tmp 4)))⟩,
      ⟨none,none,(.panic (.tmp 6))⟩])))))))
 res:=[]
theorem c36:CmpRF1 Tryz.prog 36 a36:=chkRF1_cmp (F:=Tryz.f36) (by kernel_rfl) mixed (by kernel_rfl)
def a38:AF:=
{nt:=56,body:=(M ([O 2 (.box true (T 0)),O 3 (.box true (T 1)),O 4 (.alloc true [.nil 1,.nil 3,.nil 2]),O 5 (.mov (Z 0))]) (.seq (M ([O 9 (L 3 true 2),O 10 (F 1 1 false 3),O 11 (L 1 false 10),C 12 78 [T 9,T 11],O 13 (.not (T 12))]) (K 13 (M ([O 14 (.build [.nil 1,.nil 3,.nil 2] []),Q (S 3 4 14),O 5 (.mov (Z 1))]) .ret) .skip)) (.seq (M ([O 15 (F 4 7 true 3),O 16 (L 7 true 15),C 17 55 [T 16],O 18 (.not (T 17))]) (K 18 (M ([O 19 (.build [.nil 1,.nil 3,.nil 2] []),Q (S 3 4 19),O 5 (.mov (Z 530))]) .ret) .skip)) (M ([O 21 (L 3 true 2),O 22 (F 1 1 false 3),O 23 (L 1 false 22),O 24 (F 4 7 true 3),O 25 (L 7 true 24),C 26 79 [T 21,T 23,T 25],V 20 26,O 27 (E 20 0),O 28 (E 20 1),O 6 (.alloc true [.nil 1,.nil 3,.nil 2]),Q (S 3 6 27),V 7 28]) (.seq (M [O 8 (.mov (Z 0))] (.block 0 (.loop (.seq (M [V 29 7,O 30 (B .eql 29 0),V 31 30,H 32 31 (.mov (T 8)),H 33 31 (F 0 1 false 2),H 34 31 (L 1 false 33),H 35 31 (N 34),H 36 31 (A .lss 32 35),O 37 (.pick (T 31) (T 36) (Y false))] (K 37 .skip (.exit 0))) (.seq (.block 1 (M [V 40 8,O 41 (F 1 1 false 3),O 42 (L 1 false 41),O 43 (A .neq 40 42)] (K 43 (J [O 45 (L 3 true 6),O 46 (F 1 1 false 3),O 47 (L 1 false 46),V 48 8,O 49 (F 4 7 true 3),O 50 (L 7 true 49),C 51 80 [T 45,T 47,T 48,T 50],V 44 51,O 52 (E 44 0),O 53 (E 44 1),Q (S 3 6 52),V 7 53]) .skip))) (J [V 38 8,O 39 (B .add 38 1),V 8 39])))))) (M [O 54 (L 3 true 6),V 55 7,Q (S 3 4 54),V 5 55] .ret)))))),res:=[.cell 4 3 true,.tmp 5]}
theorem c38:CmpF Tryz.prog 38 a38:=ck Tryz.f38
def a39:AF:=
{nt:=63,body:=(M ([O 2 (.box true (T 0)),O 3 (.box true (T 1)),O 4 (.alloc true [.nil 1,.nil 3,.nil 2]),O 5 (.mov (Z 0))]) (.seq (M ([O 10 (L 3 true 2),O 11 (F 1 1 false 3),O 12 (L 1 false 11),C 13 78 [T 10,T 12],O 14 (.not (T 13)),V 15 14,G 16 15 (L 3 true 2),G 17 15 (F 2 1 false 3),G 18 15 (L 1 false 17),⟨some 19,some (15,false),.call (U 78) [T 16,T 18]⟩,G 20 15 (.not (T 19)),O 21 (.pick (T 15) (Y true) (T 20)),V 22 21,G 23 22 (F 1 1 false 3),G 24 22 (L 1 false 23),G 25 22 (F 2 1 false 3),G 26 22 (L 1 false 25),G 27 22 (A .eql 24 26),O 28 (.pick (T 22) (Y true) (T 27))]) (K 28 (M ([O 29 (.build [.nil 1,.nil 3,.nil 2] []),Q (S 3 4 29),O 5 (.mov (Z 1))]) .ret) .skip)) (M ([O 30 (L 3 true 2),O 6 (.alloc true [.nil 1,.nil 3,.nil 2]),Q (S 3 6 30)]) (M [O 7 (.mov (Z 0))] (M [O 31 (F 0 1 false 2),O 32 (L 1 false 31),O 33 (F 1 1 false 3),O 34 (L 1 false 33),O 35 (I 1 32 34),O 36 (F 0 1 false 35),O 37 (L 1 false 36),V 8 37] (.seq (M [O 9 (.mov (Z 0))] (.block 0 (.loop (.seq (M [V 38 7,O 39 (B .eql 38 0),V 40 39,H 41 40 (.mov (T 9)),H 42 40 (.mov (T 8)),H 43 40 (N 42),H 44 40 (A .lss 41 43),O 45 (.pick (T 40) (T 44) (Y false))] (K 45 .skip (.exit 0))) (.seq (.block 1 (.region (some [[],[],[1],[],[3],[],[],[5,6],[5,6,7],[0,1,2,3,4,5,6,7,8],[0,1,2,3,4,5,6,7,8,9],[0,1,2,3,4,5,6,7,8,9,10],[0,1,2,3,4,5,6,7,8,9,10],[0,1,2,3,4,5,6,7,8,9,10,11],[0,1,2,3,4,5,6,7,8,9,10,11,12,13]]) [O 49 (L 3 true 6),O 50 (F 1 1 false 3),O 51 (L 1 false 50),O 52 (F 2 1 false 3),O 53 (L 1 false 52),V 54 8,V 55 9,O 56 (I 7 54 55),O 57 (L 7 true 56),C 58 80 [T 49,T 51,T 53,T 57],V 48 58,O 59 (E 48 0),O 60 (E 48 1),Q (S 3 6 59),V 7 60])) (J [V 46 9,O 47 (B .add 46 1),V 9 47])))))) (M [O 61 (L 3 true 6),V 62 7,Q (S 3 4 61),V 5 62] .ret))))))),res:=[.cell 4 3 true,.tmp 5]}
theorem c39:CmpF Tryz.prog 39 a39:=ck Tryz.f39
def a40:AF:=
{nt:=45,body:=(M ([O 2 (.box true (T 0)),O 3 (.box true (T 1)),O 4 (.alloc true [.nil 1,.nil 3,.nil 2]),O 5 (.mov (Z 0))]) (M ([O 12 (F 1 2 true 2),O 13 (L 2 true 12),O 14 (F 3 1 false 3),O 15 (L 1 false 14),C 16 81 [T 13,T 15],V 11 16,O 17 (E 11 0),O 18 (E 11 1),O 19 (E 11 2),O 6 (.alloc true [z0,z0,.nil 1]),O 7 (.alloc true [.nil 3,.nil 2]),Q (S 3 6 17),Q (S 2 7 18),V 8 19]) (.seq (M [V 20 8,O 21 (B .neq 20 0)] (K 21 (M ([O 22 (.build [.nil 1,.nil 3,.nil 2] []),V 23 8,Q (S 3 4 22),V 5 23]) .ret) .skip)) (M [O 24 (L 2 true 7),O 25 (F 1 2 true 2),Q (S 2 25 24)] (.seq (M [O 26 (F 0 1 false 6),O 27 (L 1 false 26),O 28 (F 1 1 false 6),O 29 (L 1 false 28),O 30 (A .eql 27 29)] (K 30 (M [O 31 (L 3 true 2),Q (S 3 4 31),O 5 (.mov (Z 0))] .ret) .skip)) (M ([O 33 (F 2 1 false 6),O 34 (L 1 false 33),C 35 49 [T 34],V 32 35,O 36 (E 32 0),O 37 (E 32 1),O 9 (.alloc true [z0,z0,z0,z0,z0,z0,.lit (.string ⟨#[]⟩)]),Q (S 7 9 36),V 10 37]) (M ([O 38 (L 3 true 2),O 39 (F 1 1 false 6),O 40 (L 1 false 39),O 41 (L 7 true 9),C 42 79 [T 38,T 40,T 41],O 43 (E 42 0),O 44 (E 42 1),Q (S 3 4 43),V 5 44]) .ret))))))),res:=[.cell 4 3 true,.tmp 5]}
theorem c40:CmpF Tryz.prog 40 a40:=ck Tryz.f40
def a41:AF:=
{nt:=17,body:=(M ([O 2 (.box true (T 0)),O 4 (.alloc true [.nil 3,.nil 2]),O 5 (.mov (Z 0))]) (M ([O 7 (L 2 true 2),V 8 1,C 9 82 [T 7,T 8],V 6 9]) (.seq (M [V 10 6,O 11 (B .neq 10 0)] (K 11 (M ([O 12 (.build [.nil 3,.nil 2] []),V 13 6,Q (S 2 4 12),V 5 13]) .ret) .skip)) (M ([O 14 (L 2 true 2),V 15 1,C 16 83 [T 14,T 15],Q (S 2 4 16),O 5 (.mov (Z 0))]) .ret)))),res:=[.cell 4 2 true,.tmp 5]}
theorem c41:CmpF Tryz.prog 41 a41:=ck Tryz.f41
def a42:AF:=
{nt:=23,body:=(M ([O 2 (.box true (T 0)),O 4 (.alloc true [.nil 3,.nil 2]),O 5 (.mov (Z 0))]) (M ([O 7 (L 2 true 2),V 8 1,C 9 82 [T 7,T 8],V 6 9]) (.seq (M [V 10 6,O 11 (B .neq 10 0)] (K 11 (M ([O 12 (.build [.nil 3,.nil 2] []),V 13 6,Q (S 2 4 12),V 5 13]) .ret) .skip)) (.seq (.region (some [[],[],[1],[],[1,2,3],[1,2,3,4],[0,1,2,3,4,5],[0,1,2,3,4,5,6],[0,1,2,3,4,5,6],[0,1,2,3,4,5,6,7,8],[0,1,2,3,4,5,6,7,8,9]]) [O 14 (L 2 true 2),O 15 (F 0 1 false 2),O 16 (L 1 false 15),V 17 1,O 18 (I 3 16 17),O 19 (L 3 true 18),C 20 84 [T 14,T 19],O 21 (E 20 0),O 22 (E 20 1),Q (S 2 4 21),V 5 22]) .ret)))),res:=[.cell 4 2 true,.tmp 5]}
theorem c42:CmpF Tryz.prog 42 a42:=ck Tryz.f42
def a43:AF:=
{nt:=2,body:=(M ([O 0 (.alloc true [.nil 3,.nil 2])]) (M [O 1 (L 2 true 0),Q (S 2 0 1)] .ret)),res:=[.cell 0 2 true]}
theorem c43:CmpF Tryz.prog 43 a43:=ck Tryz.f43
def a44:AF:=
{nt:=2,body:=(M ([O 0 (.alloc true [.nil 3,.nil 2])]) (M ([O 1 (.build [.nil 3,.nil 2] []),Q (S 2 0 1)]) .ret)),res:=[.cell 0 2 true]}
theorem c44:CmpF Tryz.prog 44 a44:=ck Tryz.f44
def a45:AF:=
{nt:=41,body:=(M [O 1 (.box true (T 0)),O 2 (.mov (Z 0))] (.seq (M ([O 5 (F 0 1 false 1),O 6 (L 1 false 5),O 7 (N 6),O 8 (B .gtr 7 4096),V 9 8,G 10 9 (F 0 1 false 1),G 11 9 (L 1 false 10),⟨some 12,some (9,false),.call (U 85) [T 11,.dat (.fn (.func 86) [] [])]⟩,O 13 (.pick (T 9) (Y true) (T 12))]) (K 13 (M [O 2 (.mov (Z 60))] .ret) .skip)) (.seq (M [O 14 (F 1 1 false 1),O 15 (L 1 false 14),O 16 (N 15),O 17 (.mov (Z 0))] (.block 0 (.loop (M [O 18 (A .lss 17 16)] (.seq (K 18 .skip (.exit 0)) (.seq (.block 1 (M ([V 19 17,O 20 (I 2 15 17),O 21 (L 2 true 20),O 4 (.alloc true [z0,z0]),V 3 19,Q (S 2 4 21)]) (.seq (.region (some [[],[0],[0,1],[0,1,2],[0,1,2,3],[0,1,2,3,4],[0,1,2,3,4,5],[0,1,2,3,4,5,6],[0,1,2,3,4,5,6,7],[0,1,2,3,4,5,6],[0,1,2,3,4,5,6,9],[0,1,2,3,4,5,6,7,8,9,10],[0,1,2,3,4,5,6,7,8,9,10,11],[0,1,2,3,4,5,6],[0,1,2,3,4,5,6,7,8,9,10,11,12,13],[0,1,2,3,4,5,6,7,8,9,10,11,12,13,14],[0,1,2,3,4,5,6,7,8,9,10,11,12,13,14,15],[0,1,2,3,4,5,6,7,8,9,10,11,12,13,14,15,16]]) [O 22 (L 2 true 4),C 23 88 [T 22],O 24 (.not (T 23)),V 25 24,G 26 25 (.mov (T 3)),G 27 25 (B .gtr 26 0),G 28 25 (.mov (T 27)),H 29 28 (F 1 1 false 1),H 30 28 (L 1 false 29),H 31 28 (.mov (T 3)),H 32 28 (B .sub 31 1),H 33 28 (I 2 30 32),H 34 28 (.ext (.sliceA 2 1) [T 33]),H 35 28 (.ext (.sliceA 2 1) [T 4]),⟨some 36,some (28,true),.call (U 89) [T 34,T 35]⟩,H 37 28 (B .geq 36 0),G 38 25 (.pick (T 28) (T 37) (Y false)),O 39 (.pick (T 25) (Y true) (T 38))]) (K 39 (M [O 2 (.mov (Z 60))] .ret) .skip)))) (J [O 40 (B .add 17 1),V 17 40]))))))) (M [O 2 (.mov (Z 0))] .ret)))),res:=[.tmp 2]}
theorem c45:CmpF Tryz.prog 45 a45:=ck Tryz.f45
def a46:AF:=
{nt:=36,body:=(M [O 1 (.box true (T 0)),O 2 (.mov (Y false))] (.seq (M [O 5 (F 0 1 false 1),O 6 (L 1 false 5),O 7 (N 6),O 8 (.mov (Z 0))] (.block 0 (.loop (M [O 9 (A .lss 8 7)] (.seq (K 9 .skip (.exit 0)) (.seq (.block 1 (M ([V 10 8,O 11 (I 7 6 8),O 12 (L 7 true 11),O 4 (.alloc true [z0,z0,z0,z0,z0,z0,.lit (.string ⟨#[]⟩)]),V 3 10,Q (S 7 4 12)]) (.seq (.region (some [[],[0],[0,1],[0,1,2],[0,1,2,3],[0,1,2,3,4],[0,1,2,3,4,5],[0,1,2,3,4,5,6],[0,1,2,3,4,5,6,7],[0,1,2,3,4,5,6],[0,1,2,3,4,5,6,9],[0,1,2,3,4,5,6,7,8,9,10],[0,1,2,3,4,5,6,7,8,9,10,11],[0,1,2,3,4,5,6],[0,1,2,3,4,5,6,7,8,9,10,11,12,13],[0,1,2,3,4,5,6,7,8,9,10,11,12,13,14],[0,1,2,3,4,5,6,7,8,9,10,11,12,13,14,15],[0,1,2,3,4,5,6,7,8,9,10,11,12,13,14,15,16]]) [O 13 (L 7 true 4),C 14 69 [T 13],O 15 (.not (T 14)),V 16 15,G 17 16 (.mov (T 3)),G 18 16 (B .gtr 17 0),G 19 16 (.mov (T 18)),H 20 19 (F 0 1 false 1),H 21 19 (L 1 false 20),H 22 19 (.mov (T 3)),H 23 19 (B .sub 22 1),H 24 19 (I 7 21 23),H 25 19 (L 7 true 24),H 26 19 (L 7 true 4),⟨some 27,some (19,true),.call (U 90) [T 25,T 26]⟩,H 28 19 (B .geq 27 0),G 29 16 (.pick (T 19) (T 28) (Y false)),O 30 (.pick (T 16) (Y true) (T 29))]) (K 30 (M [O 2 (.mov (Y false))] .ret) .skip)))) (J [O 31 (B .add 8 1),V 8 31]))))))) (M [O 32 (F 0 1 false 1),O 33 (L 1 false 32),O 34 (N 33),O 35 (B .leq 34 4096),V 2 35] .ret))),res:=[.tmp 2]}
theorem c46:CmpF Tryz.prog 46 a46:=ck Tryz.f46
def a47:AF:=
{nt:=70,body:=(M ([O 2 (.alloc true [z0,z0,z0,z0,z0,z0,.lit (.string ⟨#[]⟩)]),O 3 (.mov (Y false))]) (M ([V 10 0,C 11 91 [T 10],V 9 11,O 12 (E 9 0),O 13 (E 9 1),O 4 (.alloc true [z0,z0,.lit (.string ⟨#[]⟩),.nil 4]),Q (S 4 4 12),V 5 13]) (.seq (.sregion [⟨some 14,none,.icall (U 92) [T 2]⟩,O 6 (.alloc true [.lit (.pointer none),.lit (.pointer none),.lit (.pointer none),.lit (.pointer none),.lit (.pointer none),.lit (.pointer none)]),Q (S 6 6 14)]) (.seq (M [V 15 5,O 16 (B .neq 15 0),V 17 16,G 18 17 (F 0 1 false 4),G 19 17 (L 1 false 18),G 20 17 (B .neq 19 3),O 21 (.pick (T 17) (Y true) (T 20)),V 22 21,G 23 22 (F 3 1 false 4),G 24 22 (L 1 false 23),G 25 22 (N 24),G 26 22 (B .neq 25 7),O 27 (.pick (T 22) (Y true) (T 26)),V 28 27,G 29 28 (F 3 1 false 4),G 30 28 (L 1 false 29),G 31 28 (.index 4 (T 30) (Z 6)),G 32 28 (F 0 1 false 31),G 33 28 (L 1 false 32),G 34 28 (B .neq 33 2),O 35 (.pick (T 28) (Y true) (T 34))] (K 35 (M [O 36 (L 7 true 2),Q (S 7 2 36),O 3 (.mov (Y false))] .ret) .skip)) (.seq (M [O 37 (L 6 true 6),O 38 (.mov (Z 0))] (.block 0 (.loop (M [O 39 (B .lss 38 6)] (.seq (K 39 .skip (.exit 0)) (.seq (.block 1 (M ([V 40 38,O 41 (.ext (.idxV 1 false 6) [T 37,T 38]),V 7 40,V 8 41]) (.seq (M [O 42 (F 3 1 false 4),O 43 (L 1 false 42),V 44 7,O 45 (I 4 43 44),O 46 (F 0 1 false 45),O 47 (L 1 false 46),O 48 (B .neq 47 1)] (K 48 (M [O 49 (L 7 true 2),Q (S 7 2 49),O 3 (.mov (Y false))] .ret) .skip)) (J [V 50 8,O 51 (F 3 1 false 4),O 52 (L 1 false 51),V 53 7,O 54 (I 4 52 53),O 55 (F 1 1 false 54),O 56 (L 1 false 55),O 57 (.ext .nilChk [T 50]),Q (S 1 57 56)])))) (J [O 58 (B .add 38 1),V 38 58]))))))) (M [O 59 (F 3 1 false 4),O 60 (L 1 false 59),O 61 (.index 4 (T 60) (Z 6)),O 62 (F 2 1 false 61),O 63 (L 1 false 62),O 64 (F 2 5 true 2),O 65 (F 2 3 true 64),O 66 (F 2 1 false 65),Q (S 1 66 63)] (.seq (.region (some [[],[],[1],[0,1,2],[0,1,2,3]]) [O 67 (L 7 true 2),O 68 (L 7 true 2),C 69 69 [T 68],Q (S 7 2 67),V 3 69]) .ret))))))),res:=[.cell 2 7 true,.tmp 3]}
theorem c47:CmpF Tryz.prog 47 a47:=ck Tryz.f47
def a48:AF:=
{nt:=91,body:=(M [O 1 (.box true (T 0)),O 2 (.mov (Z 0))] (.seq (M [O 6 (F 0 1 false 1),O 7 (L 1 false 6),O 8 (N 7),O 9 (B .gtr 8 4096)] (K 9 (M [O 2 (.mov (Z 60))] .ret) .skip)) (.seq (M [O 3 (.mov (Z 0))] (.block 0 (.loop (.seq (M [V 10 3,O 11 (F 0 1 false 1),O 12 (L 1 false 11),O 13 (N 12),O 14 (A .lss 10 13)] (K 14 .skip (.exit 0))) (.seq (.block 1 (M ([O 17 (F 0 1 false 1),O 18 (L 1 false 17),V 19 3,O 20 (I 3 18 19),O 21 (L 3 true 20),C 22 93 [T 21],O 23 (.not (T 22))]) (K 23 (M [O 2 (.mov (Z 60))] .ret) .skip))) (J [V 15 3,O 16 (B .add 15 1),V 3 16])))))) (.seq (M [O 4 (.mov (Z 0))] (.block 2 (.loop (.seq (M [V 24 4,O 25 (F 1 1 false 1),O 26 (L 1 false 25),O 27 (N 26),O 28 (A .lss 24 27)] (K 28 .skip (.exit 2))) (.seq (.block 3 (M ([O 31 (F 1 1 false 1),O 32 (L 1 false 31),V 33 4,O 34 (I 2 32 33),O 35 (L 2 true 34),O 5 (.alloc true [z0,z0]),Q (S 2 5 35)]) (.seq (M ([O 36 (.indexA 1 false 2 (T 5) (Z 0)),O 37 (L 1 false 36),C 38 94 [T 37],O 39 (.not (T 38)),V 40 39,G 41 40 (.indexA 1 false 2 (T 5) (Z 1)),G 42 40 (L 1 false 41),⟨some 43,some (40,false),.call (U 94) [T 42]⟩,G 44 40 (.not (T 43)),O 45 (.pick (T 40) (Y true) (T 44)),V 46 45,G 47 46 (.indexA 1 false 2 (T 5) (Z 0)),G 48 46 (L 1 false 47),G 49 46 (.indexA 1 false 2 (T 5) (Z 1)),G 50 46 (L 1 false 49),G 51 46 (A .geq 48 50),O 52 (.pick (T 46) (Y true) (T 51))]) (K 52 (M [O 2 (.mov (Z 60))] .ret) .skip)) (.seq (.region (some [[],[0],[0,1],[0,1,2],[0,1,2,3],[0,1,2],[0,1,2,5],[0,1,2],[0,1,2,7],[0,1,2,5,6,7,8],[0,1,2,5,6,7,8,9],[0,1,2,5,6,7,8,9,10],[0,1,2,3,4,5,6,7,8,9,10,11],[0,1,2,3,4,5,6,7,8,9,10,11,12],[0,1,2,3,4,5,6,7,8,9,10,11,12,13],[0,1,2,3,4,5,6,7,8,9,10,11,12,13,14],[0,1,2,3,4,5,6,7,8,9,10,11,12,13],[0,1,2,3,4,5,6,7,8,9,10,11,12,13,16],[0,1,2,3,4,5,6,7,8,9,10,11,12,13],[0,1,2,3,4,5,6,7,8,9,10,11,12,13,18],[0,1,2,3,4,5,6,7,8,9,10,11,12,13,16,17,18,19],[0,1,2,3,4,5,6,7,8,9,10,11,12,13,16,17,18,19,20],[0,1,2,3,4,5,6,7,8,9,10,11,12,13,16,17,18,19,20,21],[0,1,2,3,4,5,6,7,8,9,10,11,12,13,14,15,16,17,18,19,20,21,22],[0,1,2,3,4,5,6,7,8,9,10,11,12,13,14,15,16,17,18,19,20,21,22,23],[0,1,2,3,4,5,6,7,8,9,10,11,12,13,14,15,16,17,18,19,20,21,22,23,24],[0,1,2,3,4,5,6,7,8,9,10,11,12,13,14,15,16,17,18,19,20,21,22,23,24,25],[0,1,2,3,4,5,6,7,8,9,10,11,12,13,14,15,16,17,18,19,20,21,22,23,24],[0,1,2,3,4,5,6,7,8,9,10,11,12,13,14,15,16,17,18,19,20,21,22,23,24,27],[0,1,2,3,4,5,6,7,8,9,10,11,12,13,14,15,16,17,18,19,20,21,22,23,24],[0,1,2,3,4,5,6,7,8,9,10,11,12,13,14,15,16,17,18,19,20,21,22,23,24,29],[0,1,2,3,4,5,6,7,8,9,10,11,12,13,14,15,16,17,18,19,20,21,22,23,24,27,28,29,30],[0,1,2,3,4,5,6,7,8,9,10,11,12,13,14,15,16,17,18,19,20,21,22,23,24,27,28,29,30,31],[0,1,2,3,4,5,6,7,8,9,10,11,12,13,14,15,16,17,18,19,20,21,22,23,24,27,28,29,30,31,32],[0,1,2,3,4,5,6,7,8,9,10,11,12,13,14,15,16,17,18,19,20,21,22,23,24,25,26,27,28,29,30,31,32,33],[0,1,2,3,4,5,6,7,8,9,10,11,12,13,14,15,16,17,18,19,20,21,22,23,24,25,26,27,28,29,30,31,32,33,34],[0,1,2,3,4,5,6,7,8,9,10,11,12,13,14,15,16,17,18,19,20,21,22,23,24,25,26,27,28,29,30,31,32,33,34,35],[0,1,2,3,4,5,6,7,8,9,10,11,12,13,14,15,16,17,18,19,20,21,22,23,24,25,26,27,28,29,30,31,32,33,34,35,36]]) [V 53 4,O 54 (B .gtr 53 0),V 55 54,H 56 55 (.indexA 1 false 2 (T 5) (Z 0)),H 57 55 (L 1 false 56),H 58 55 (F 1 1 false 1),H 59 55 (L 1 false 58),H 60 55 (.mov (T 4)),H 61 55 (B .sub 60 1),H 62 55 (I 2 59 61),H 63 55 (.indexA 1 false 2 (T 62) (Z 0)),H 64 55 (L 1 false 63),H 65 55 (A .lss 57 64),H 66 55 (.mov (T 65)),G 67 66 (.indexA 1 false 2 (T 5) (Z 0)),G 68 66 (L 1 false 67),G 69 66 (F 1 1 false 1),G 70 66 (L 1 false 69),G 71 66 (.mov (T 4)),G 72 66 (B .sub 71 1),G 73 66 (I 2 70 72),G 74 66 (.indexA 1 false 2 (T 73) (Z 0)),G 75 66 (L 1 false 74),G 76 66 (A .eql 68 75),G 77 66 (.mov (T 76)),H 78 77 (.indexA 1 false 2 (T 5) (Z 1)),H 79 77 (L 1 false 78),H 80 77 (F 1 1 false 1),H 81 77 (L 1 false 80),H 82 77 (.mov (T 4)),H 83 77 (B .sub 82 1),H 84 77 (I 2 81 83),H 85 77 (.indexA 1 false 2 (T 84) (Z 1)),H 86 77 (L 1 false 85),H 87 77 (A .leq 79 86),G 88 66 (.pick (T 77) (T 87) (Y false)),H 89 55 (.pick (T 66) (Y true) (T 88)),O 90 (.pick (T 55) (T 89) (Y false))]) (K 90 (M [O 2 (.mov (Z 60))] .ret) .skip))))) (J [V 29 4,O 30 (B .add 29 1),V 4 30])))))) (M [O 2 (.mov (Z 0))] .ret))))),res:=[.tmp 2]}
theorem c48:CmpF Tryz.prog 48 a48:=ck Tryz.f48
def a49:AF:=
{nt:=88,body:=(M ([O 2 (.alloc true [z0,z0,z0,z0,z0,z0,.lit (.string ⟨#[]⟩)]),O 3 (.mov (Y false))]) (M ([V 10 0,C 11 95 [T 10],V 9 11,O 12 (E 9 0),O 13 (E 9 1),O 4 (.alloc true [z0,z0,.lit (.string ⟨#[]⟩),.nil 4]),Q (S 4 4 12),V 5 13]) (.seq (M [V 14 5,O 15 (B .neq 14 0),V 16 15,G 17 16 (F 0 1 false 4),G 18 16 (L 1 false 17),G 19 16 (B .neq 18 3),O 20 (.pick (T 16) (Y true) (T 19)),V 21 20,G 22 21 (F 3 1 false 4),G 23 21 (L 1 false 22),G 24 21 (N 23),G 25 21 (B .neq 24 7),O 26 (.pick (T 21) (Y true) (T 25)),V 27 26,G 28 27 (F 3 1 false 4),G 29 27 (L 1 false 28),G 30 27 (.index 4 (T 29) (Z 6)),G 31 27 (F 0 1 false 30),G 32 27 (L 1 false 31),G 33 27 (B .neq 32 2),O 34 (.pick (T 27) (Y true) (T 33))] (K 34 (M ([O 35 (.build [z0,z0,z0,z0,z0,z0,.lit (.string ⟨#[]⟩)] []),Q (S 7 2 35),O 3 (.mov (Y false))]) .ret) .skip)) (M ([O 36 (.mkslice 1 []),V 6 36]) (.seq (M [O 7 (.mov (Z 0))] (.block 0 (.loop (.seq (M [V 37 7,O 38 (B .lss 37 6)] (K 38 .skip (.exit 0))) (.seq (.block 1 (.seq (M [O 41 (F 3 1 false 4),O 42 (L 1 false 41),V 43 7,O 44 (I 4 42 43),O 45 (F 0 1 false 44),O 46 (L 1 false 45),O 47 (B .neq 46 1)] (K 47 (M ([O 48 (.build [z0,z0,z0,z0,z0,z0,.lit (.string ⟨#[]⟩)] []),Q (S 7 2 48),O 3 (.mov (Y false))]) .ret) .skip)) (J [V 49 6,O 50 (F 3 1 false 4),O 51 (L 1 false 50),V 52 7,O 53 (I 4 51 52),O 54 (F 1 1 false 53),O 55 (L 1 false 54),O 56 (.mkslice 1 [T 55]),O 57 (.append 1 8 (T 49) (T 56)),V 6 57]))) (J [V 39 7,O 40 (B .add 39 1),V 7 40])))))) (.seq (.region (some [[],[0],[0,1],[],[3],[3,4],[0,1,2,3,4,5],[],[0,1,2,3,4,5,6,7]]) [V 58 6,O 59 (.index 1 (T 58) (Z 0)),O 60 (L 1 false 59),V 61 6,O 62 (.index 1 (T 61) (Z 1)),O 63 (L 1 false 62),O 64 (.build [z0,z0,z0,z0,z0,z0,.lit (.string ⟨#[]⟩)] [(0,1,(T 60)),(1,1,(T 63))]),O 8 (.alloc true [z0,z0,z0,z0,z0,z0,.lit (.string ⟨#[]⟩)]),Q (S 7 8 64)]) (.seq (.region (some [[],[0],[0,1],[],[3],[3,4],[],[6],[6,7],[],[9],[9,10],[],[12],[12,13],[12,13,14],[12,13,14,15],[6,7,8,9,10,11,12,13,14,15,16],[0,1,2,3,4,5,6,7,8,9,10,11,12,13,14,15,16,17],[0,1,2,3,4,5,6,7,8,9,10,11,12,13,14,15,16,17,18],[0,1,2,3,4,5,6,7,8,9,10,11,12,13,14,15,16,17,18,19]]) [V 65 6,O 66 (.index 1 (T 65) (Z 2)),O 67 (L 1 false 66),V 68 6,O 69 (.index 1 (T 68) (Z 3)),O 70 (L 1 false 69),V 71 6,O 72 (.index 1 (T 71) (Z 4)),O 73 (L 1 false 72),V 74 6,O 75 (.index 1 (T 74) (Z 5)),O 76 (L 1 false 75),O 77 (F 3 1 false 4),O 78 (L 1 false 77),O 79 (.index 4 (T 78) (Z 6)),O 80 (F 2 1 false 79),O 81 (L 1 false 80),O 82 (.build [z0,z0,.lit (.string ⟨#[]⟩)] [(0,1,(T 73)),(1,1,(T 76)),(2,1,(T 81))]),O 83 (.build [z0,z0,z0,z0,.lit (.string ⟨#[]⟩)] [(0,1,(T 67)),(1,1,(T 70)),(2,3,(T 82))]),O 84 (F 2 5 true 8),Q (S 5 84 83)]) (.seq (.region (some [[],[],[1],[0,1,2],[0,1,2,3]]) [O 85 (L 7 true 8),O 86 (L 7 true 8),C 87 55 [T 86],Q (S 7 2 85),V 3 87]) .ret)))))))),res:=[.cell 2 7 true,.tmp 3]}
theorem c49:CmpF Tryz.prog 49 a49:=ck Tryz.f49
def a50:AF:=
{nt:=60,body:=(M [O 2 (.box true (T 0)),O 3 (.box true (T 1)),O 4 (.mov (Y false))] (.seq (M [O 7 (F 0 1 false 2),O 8 (L 1 false 7),O 9 (N 8),O 10 (F 0 1 false 3),O 11 (L 1 false 10),O 12 (N 11),O 13 (A .neq 9 12),V 14 13,G 15 14 (F 1 1 false 2),G 16 14 (L 1 false 15),G 17 14 (N 16),G 18 14 (F 1 1 false 3),G 19 14 (L 1 false 18),G 20 14 (N 19),G 21 14 (A .neq 17 20),O 22 (.pick (T 14) (Y true) (T 21))] (K 22 (M [O 4 (.mov (Y false))] .ret) .skip)) (.seq (M [O 5 (.mov (Z 0))] (.block 0 (.loop (.seq (M [V 23 5,O 24 (F 0 1 false 2),O 25 (L 1 false 24),O 26 (N 25),O 27 (A .lss 23 26)] (K 27 .skip (.exit 0))) (.seq (.block 1 (.seq (.region (some [[],[0],[],[0,1,2],[0,1,2,3],[],[5],[],[5,6,7],[5,6,7,8],[0,1,2,3,4,5,6,7,8,9],[0,1,2,3,4,5,6,7,8,9,10]]) [O 30 (F 0 1 false 2),O 31 (L 1 false 30),V 32 5,O 33 (I 3 31 32),O 34 (L 3 true 33),O 35 (F 0 1 false 3),O 36 (L 1 false 35),V 37 5,O 38 (I 3 36 37),O 39 (L 3 true 38),C 40 96 [T 34,T 39],O 41 (.not (T 40))]) (K 41 (M [O 4 (.mov (Y false))] .ret) .skip))) (J [V 28 5,O 29 (B .add 28 1),V 5 29])))))) (.seq (M [O 6 (.mov (Z 0))] (.block 2 (.loop (.seq (M [V 42 6,O 43 (F 1 1 false 2),O 44 (L 1 false 43),O 45 (N 44),O 46 (A .lss 42 45)] (K 46 .skip (.exit 2))) (.seq (.block 3 (.seq (.region (some [[],[0],[],[0,1,2],[0,1,2,3],[],[5],[],[5,6,7],[5,6,7,8],[0,1,2,3,4,5,6,7,8,9]]) [O 49 (F 1 1 false 2),O 50 (L 1 false 49),V 51 6,O 52 (I 2 50 51),O 53 (L 2 true 52),O 54 (F 1 1 false 3),O 55 (L 1 false 54),V 56 6,O 57 (I 2 55 56),O 58 (L 2 true 57),O 59 (.ext (.eqrow true [.int .i64,.int .i64]) [T 53,T 58])]) (K 59 (M [O 4 (.mov (Y false))] .ret) .skip))) (J [V 47 6,O 48 (B .add 47 1),V 6 48])))))) (M [O 4 (.mov (Y true))] .ret))))),res:=[.tmp 4]}
theorem c50:CmpF Tryz.prog 50 a50:=ck Tryz.f50
def a51:AF:=
{nt:=6,body:=(M [O 2 (.box true (T 0)),O 3 (.box false (T 1)),O 4 (.mov (.dat (.lit (.nilFunc))))] (M ([O 5 (.func (.func 97) [] [T 2,T 3]),V 4 5]) .ret)),res:=[.tmp 4]}
theorem c51:CmpF Tryz.prog 51 a51:=ck Tryz.f51
def a52:AF:=
{nt:=37,body:=(M ([O 6 (.alloc true [z0,z0,z0,z0,.lit (.string ⟨#[]⟩)]),O 7 (.mov (Y false))]) (.seq (M [O 8 (.mov (Z 0))] (.block 0 (.loop (.seq (M [V 9 8,V 10 0,O 11 (N 10),O 12 (A .lss 9 11)] (K 12 .skip (.exit 0))) (.seq (.block 1 (M [V 15 0,V 16 8,O 17 (I 7 15 16),O 18 (F 0 1 false 17),O 19 (L 1 false 18),V 20 1,O 21 (A .eql 19 20),V 22 21,H 23 22 (.mov (T 0)),H 24 22 (.mov (T 8)),H 25 22 (I 7 23 24),H 26 22 (F 1 1 false 25),H 27 22 (L 1 false 26),H 28 22 (.mov (T 2)),H 29 22 (A .eql 27 28),O 30 (.pick (T 22) (T 29) (Y false))] (K 30 (M [V 31 0,V 32 8,O 33 (I 7 31 32),O 34 (F 2 5 true 33),O 35 (L 5 true 34),Q (S 5 6 35),O 7 (.mov (Y true))] .ret) .skip))) (J [V 13 8,O 14 (B .add 13 1),V 8 14])))))) (M ([O 36 (.build [z0,z0,z0,z0,.lit (.string ⟨#[]⟩)] []),Q (S 5 6 36),O 7 (.mov (Y false))]) .ret))),res:=[.cell 6 5 true,.tmp 7]}
theorem c52:CmpF Tryz.prog 52 a52:=ck Tryz.f52
def a53:AF:=
{nt:=84,body:=(M [O 3 (.box true (T 1)),O 4 (.mov (.dat (.nil 3))),O 5 (.mov (Z 0))] (M ([V 10 0,C 11 98 [T 10],V 6 11]) (.seq (M [V 12 6,O 13 (B .neq 12 0)] (K 13 (M [V 14 6,O 4 (.mov (.dat (.nil 3))),V 5 14] .ret) .skip)) (.seq (M ([O 15 (L 5 true 3),C 16 99 [T 15],O 17 (.not (T 16)),V 18 17,G 19 18 (.mov (T 0)),G 20 18 (L 5 true 3),⟨some 21,some (18,false),.call (U 100) [T 19,T 20]⟩,G 22 18 (.not (T 21)),O 23 (.pick (T 18) (Y true) (T 22))]) (K 23 (M [O 4 (.mov (.dat (.nil 3))),O 5 (.mov (Z 490))] .ret) .skip)) (.seq (M [O 24 (F 1 1 false 3),O 25 (L 1 false 24),O 26 (B .eql 25 1),V 27 26,H 28 27 (.mov (T 0)),H 29 27 (N 28),H 30 27 (B .eql 29 1024),O 31 (.pick (T 27) (T 30) (Y false))] (K 31 (M [O 4 (.mov (.dat (.nil 3))),O 5 (.mov (Z 2))] .ret) .skip)) (M ([O 32 (.mkslice 3 []),V 7 32]) (M [O 33 (F 1 1 false 3),O 34 (L 1 false 33),O 35 (B .eql 34 2),V 8 35] (.seq (M [O 9 (.mov (Z 0))] (.block 0 (.loop (.seq (M [V 36 9,V 37 0,O 38 (N 37),O 39 (A .lss 36 38)] (K 39 .skip (.exit 0))) (.seq (.block 1 (.seq (.seq (.region (some [[],[0],[0,1],[0,1,2],[0,1,2],[0,1,2,3,4],[0,1,2,3,4,5],[0,1,2,3,4,5,6],[0,1,2],[0,1,2,8],[0,1,2,8,9],[0,1,2,3,4,5,6,7,8,9,10],[0,1,2,3,4,5,6,7,8,9,10,11]]) [V 42 8,O 43 (.not (T 42)),V 44 43,H 45 44 (.mov (T 0)),H 46 44 (.mov (T 9)),H 47 44 (I 3 45 46),H 48 44 (F 0 1 false 47),H 49 44 (L 1 false 48),H 50 44 (F 2 3 true 3),H 51 44 (F 0 1 false 50),H 52 44 (L 1 false 51),H 53 44 (A .geq 49 52),O 54 (.pick (T 44) (T 53) (Y false))]) (K 54 (M ([V 55 7,O 56 (F 2 3 true 3),O 57 (L 3 true 56),O 58 (.mkslice 3 [T 57]),O 59 (.append 3 32 (T 55) (T 58)),V 7 59]) (J [O 8 (.mov (Y true))])) .skip)) (.seq (.region (some [[],[],[0,1],[0,1,2],[0,1,2,3],[],[5],[5,6],[0,1,2,3,4,5,6,7]]) [V 60 0,V 61 9,O 62 (I 3 60 61),O 63 (F 0 1 false 62),O 64 (L 1 false 63),O 65 (F 2 3 true 3),O 66 (F 0 1 false 65),O 67 (L 1 false 66),O 68 (A .neq 64 67)]) (K 68 (J [V 69 7,V 70 0,V 71 9,O 72 (I 3 70 71),O 73 (L 3 true 72),O 74 (.mkslice 3 [T 73]),O 75 (.append 3 32 (T 69) (T 74)),V 7 75]) .skip)))) (J [V 40 9,O 41 (B .add 40 1),V 9 41])))))) (.seq (M [V 76 8,O 77 (.not (T 76))] (K 77 (J [V 78 7,O 79 (F 2 3 true 3),O 80 (L 3 true 79),O 81 (.mkslice 3 [T 80]),O 82 (.append 3 32 (T 78) (T 81)),V 7 82]) .skip)) (M [V 83 7,V 4 83,O 5 (.mov (Z 0))] .ret)))))))))),res:=[.tmp 4,.tmp 5]}
theorem c53:CmpF Tryz.prog 53 a53:=ck Tryz.f53
def a54:AF:=
{nt:=49,body:=(M [O 3 (.box true (T 1)),O 4 (.mov (.dat (.nil 7))),O 5 (.mov (Z 0))] (M [O 6 (.mov (Z 0))] (.seq (.block 0 (.loop (.seq (.seq (.region (some [[],[],[1],[0,1,2],[0,1,2,3],[0,1,2,3,4],[0,1,2,3,4],[0,1,2,3,4,5,6],[0,1,2,3,4,5,6,7],[0,1,2,3,4],[0,1,2,3,4,5,6,7,8,9],[0,1,2,3,4,5,6,7,8,9,10]]) [V 7 6,V 8 0,O 9 (N 8),O 10 (A .lss 7 9),V 11 10,H 12 11 (.mov (T 0)),H 13 11 (.mov (T 6)),H 14 11 (I 7 12 13),H 15 11 (L 7 true 14),H 16 11 (L 7 true 3),⟨some 17,some (11,true),.call (U 56) [T 15,T 16]⟩,O 18 (.pick (T 11) (T 17) (Y false))]) (K 18 .skip (.exit 0))) (.block 1 (J [V 19 6,O 20 (B .add 19 1),V 6 20]))))) (.seq (.seq (.region (some [[],[],[1],[0,1,2],[0,1,2,3],[0,1,2,3,4],[0,1,2,3,4],[0,1,2,3,4,5,6],[0,1,2,3,4,5,6,7],[0,1,2,3,4],[0,1,2,3,4,5,6,7,8,9],[0,1,2,3,4,5,6,7,8,9,10]]) [V 21 6,V 22 0,O 23 (N 22),O 24 (A .lss 21 23),V 25 24,H 26 25 (.mov (T 0)),H 27 25 (.mov (T 6)),H 28 25 (I 7 26 27),H 29 25 (L 7 true 28),H 30 25 (L 7 true 3),H 31 25 (.ext (.eqrow false [.int .i64,.int .i64,.int .i64,.int .i64,.int .i64,.int .i64,.str]) [T 29,T 30]),O 32 (.pick (T 25) (T 31) (Y false))]) (K 32 (M [V 33 0,V 4 33,O 5 (.mov (Z 0))] .ret) .skip)) (.seq (M [V 34 0,O 35 (N 34),O 36 (B .eql 35 4096)] (K 36 (M [O 4 (.mov (.dat (.nil 7))),O 5 (.mov (Z 2))] .ret) .skip)) (.seq (.region (some [[],[],[],[1,2],[0,1,2,3],[],[5],[0,1,2,3,4,5,6],[],[],[8,9],[0,1,2,3,4,5,6,7,8,9,10],[0,1,2,3,4,5,6,7,8,9,10,11],[0,1,2,3,4,5,6,7,8,9,10,11,12]]) [O 37 (.mkslice 7 []),V 38 0,V 39 6,O 40 (.slice 7 (T 38) none (some (T 39))),O 41 (.append 7 64 (T 37) (T 40)),O 42 (L 7 true 3),O 43 (.mkslice 7 [T 42]),O 44 (.append 7 64 (T 41) (T 43)),V 45 0,V 46 6,O 47 (.slice 7 (T 45) (some (T 46)) none),O 48 (.append 7 64 (T 44) (T 47)),V 4 48,O 5 (.mov (Z 0))]) .ret)))))),res:=[.tmp 4,.tmp 5]}
theorem c54:CmpF Tryz.prog 54 a54:=ck Tryz.f54
def a55:AF:=
{nt:=26,body:=(M [O 1 (.box true (T 0)),O 2 (.mov (Y false))] (M ([O 3 (F 0 1 false 1),O 4 (L 1 false 3),O 5 (B .geq 4 0),V 6 5,H 7 6 (F 0 1 false 1),H 8 6 (L 1 false 7),H 9 6 (B .lss 8 32),O 10 (.pick (T 6) (T 9) (Y false)),V 11 10,H 12 11 (F 1 1 false 1),H 13 11 (L 1 false 12),H 14 11 (B .geq 13 0),O 15 (.pick (T 11) (T 14) (Y false)),V 16 15,H 17 16 (F 1 1 false 1),H 18 16 (L 1 false 17),H 19 16 (B .leq 18 1048576),O 20 (.pick (T 16) (T 19) (Y false)),V 21 20,H 22 21 (F 2 5 true 1),H 23 21 (L 5 true 22),⟨some 24,some (21,true),.call (U 99) [T 23]⟩,O 25 (.pick (T 21) (T 24) (Y false)),V 2 25]) .ret)),res:=[.tmp 2]}
theorem c55:CmpF Tryz.prog 55 a55:=ck Tryz.f55
def a56:AF:=
{nt:=12,body:=(M [O 2 (.box true (T 0)),O 3 (.box true (T 1)),O 4 (.mov (Y false))] (.seq (.region (some [[],[0],[0,1],[],[0,1,3],[0,1,3,4],[0,1,2,3,4,5],[0,1,2,3,4,5,6]]) [O 5 (L 7 true 2),C 6 29 [T 5],O 7 (.ext .bytesStr [T 6]),O 8 (L 7 true 3),C 9 29 [T 8],O 10 (.ext .bytesStr [T 9]),O 11 (A .lss 7 10),V 4 11]) .ret)),res:=[.tmp 4]}
theorem c56:CmpF Tryz.prog 56 a56:=ck Tryz.f56
def a57:AR where
 nt:=19
 ta:=5
 tb:=2
 rest:=(.seq (.region none [
   ⟨(some 6),none,(.op (.mov (.tmp 2)))⟩,
   ⟨(some 7),none,(.op (.ext (.isNil true) [(.tmp 6)]))⟩])
  (.cond (.tmp 7)
   (.seq (.region none [
    ⟨(some 9),none,(.op (.mov (.tmp 2)))⟩,
    ⟨(some 10),none,(.op (.ext (.tassert 39 (.lit (.int .i64 0))) [(.tmp 9)]))⟩,
    ⟨(some 8),none,(.op (.mov (.tmp 10)))⟩,
    ⟨(some 11),none,(.op (.extract (.tmp 8) 0))⟩,
    ⟨(some 12),none,(.op (.extract (.tmp 8) 1))⟩,
    ⟨(some 3),none,(.op (.mov (.tmp 11)))⟩,
    ⟨(some 4),none,(.op (.mov (.tmp 12)))⟩])
   (.seq (.seq (.region none [
    ⟨(some 13),none,(.op (.mov (.tmp 4)))⟩,
    ⟨(some 14),none,(.op (.not (.tmp 13)))⟩])
   (.cond (.tmp 14)
    (.sregion [
     ⟨(some 15),none,(.op (.mov (.tmp 2)))⟩,
     ⟨none,none,(.panic (.tmp 15))⟩])
    .skip))
   (.region none [
    ⟨(some 16),none,(.op (.mov (.tmp 0)))⟩,
    ⟨(some 17),none,(.op (.mov (.tmp 3)))⟩,
    ⟨(some 18),none,(.op (.ext .nilChk [(.tmp 16)]))⟩,
    ⟨none,none,(.op (.store 1 (.tmp 18) (.tmp 17)))⟩])))
   .skip))
 res:=[]
theorem c57:CmpRF Tryz.prog 57 a57:=chkRF_cmp (F:=Tryz.f57) (by kernel_rfl) mixed (by kernel_rfl)
def a58:AF:=
{nt:=27,body:=(M ([V 5 0,O 6 (N 5),O 7 (B .leq 6 1024),C 8 101 [T 7,Z 2]]) (M [O 2 (.mov (Z (-1)))] (M [V 9 0,O 10 (N 9),O 11 (.mov (Z 0))] (.block 0 (.loop (M [O 12 (A .lss 11 10)] (.seq (K 12 .skip (.exit 0)) (.seq (.block 1 (M ([O 13 (I 3 9 11),O 14 (L 3 true 13),O 4 (.alloc true [z0,z0,.lit (.string ⟨#[]⟩)]),Q (S 3 4 14)]) (M ([O 15 (L 3 true 4),C 16 102 [T 15],V 17 16,H 18 17 (F 0 1 false 4),H 19 17 (L 1 false 18),H 20 17 (.mov (T 2)),H 21 17 (A .gtr 19 20),O 22 (.pick (T 17) (T 21) (Y false)),C 23 101 [T 22,Z 490]]) (J [O 24 (F 0 1 false 4),O 25 (L 1 false 24),V 2 25])))) (J [O 26 (B .add 11 1),V 11 26]))))))))),res:=[]}
theorem c58:CmpF Tryz.prog 58 a58:=ck Tryz.f58
def a59:AF:=
{nt:=6,body:=(M [O 0 (.mov (.dat (.lit (.map none))))] (M ([O 1 (.ext .mkmap []),O 2 (.build [.lit (.nilFunc),.lit (.nilFunc)] [(0,1,(U 103)),(1,1,(U 104))]),Q (.ext (.insert (.int .i64)) [T 1,Z 1,T 2]),O 3 (.build [.lit (.nilFunc),.lit (.nilFunc)] [(0,1,(U 106)),(1,1,(U 107))]),Q (.ext (.insert (.int .i64)) [T 1,Z 2,T 3]),O 4 (.build [.lit (.nilFunc),.lit (.nilFunc)] [(0,1,(U 109)),(1,1,(U 110))]),Q (.ext (.insert (.int .i64)) [T 1,Z 3,T 4]),V 5 1,V 0 5]) .ret)),res:=[.tmp 0]}
theorem c59:CmpF Tryz.prog 59 a59:=ck Tryz.f59
def a60:AF:=
{nt:=25,body:=(M [O 2 (.box true (T 0))] (M ([V 7 1,O 8 (F 1 1 false 2),O 9 (L 1 false 8),O 10 (.ext (.lookup (.int .i64) true (.agg [.lit (.nilFunc),.lit (.nilFunc)])) [T 7,T 9]),V 6 10,O 11 (E 6 0),O 12 (E 6 1),O 4 (.alloc true [.lit (.nilFunc),.lit (.nilFunc)]),Q (S 2 4 11),V 5 12]) (J [V 13 5,V 14 13,H 15 14 (F 0 1 false 2),H 16 14 (L 1 false 15),⟨some 17,some (14,true),.call (U 111) [T 16]⟩,O 18 (.pick (T 14) (T 17) (Y false)),V 19 18,H 20 19 (F 2 3 true 2),H 21 19 (L 3 true 20),⟨some 22,some (19,true),.call (U 102) [T 21]⟩,O 23 (.pick (T 19) (T 22) (Y false)),C 24 101 [T 23,Z 490]]))),res:=[]}
theorem c60:CmpF Tryz.prog 60 a60:=ck Tryz.f60
def a61:AF:=
{nt:=46,body:=(M [O 4 (.box true (T 1)),O 6 (.mov (.dat (.nil 3)))] (M ([V 11 2,O 12 (F 1 1 false 4),O 13 (L 1 false 12),O 14 (.ext (.lookup (.int .i64) false (.agg [.lit (.nilFunc),.lit (.nilFunc)])) [T 11,T 13]),O 7 (.alloc true [.lit (.nilFunc),.lit (.nilFunc)]),Q (S 2 7 14)]) (M ([V 16 0,O 17 (.build [] []),O 18 (F 2 3 true 4),O 19 (F 0 1 false 18),O 20 (L 1 false 19),O 21 (.func (.func 113) [T 20] []),C 22 112 [T 16,T 17,T 21],V 15 22,O 23 (E 15 0),O 24 (E 15 1),V 8 23,V 9 24]) (.seq (.sregion [O 25 (F 0 1 false 7),O 26 (L 1 false 25),V 27 0,V 28 8,V 29 9,O 30 (F 2 3 true 4),O 31 (L 3 true 30),⟨some 32,none,.icall (T 26) [T 27,T 28,T 29,T 31]⟩,C 33 101 [T 32,Z 490]]) (.seq (.sregion [O 34 (F 1 1 false 7),O 35 (L 1 false 34),V 36 0,V 37 8,O 38 (F 2 3 true 4),O 39 (L 3 true 38),⟨some 40,none,.icall (T 35) [T 36,T 37,T 39]⟩,V 10 40]) (M ([V 41 10,O 42 (.ext .lenB [T 41]),O 43 (B .leq 42 1024),C 44 101 [T 43,Z 2]]) (M [V 45 10,V 6 45] .ret))))))),res:=[.tmp 6]}
theorem c61:CmpF Tryz.prog 61 a61:=ck Tryz.f61
def a63:AF:=
{nt:=12,body:=(M [O 1 (.box true (T 0)),O 2 (.mov (.dat (.nil 1))),O 3 (.mov (Z 0))] (M ([O 5 (L 4 true 1),C 6 114 [T 5],V 4 6]) (.seq (M [V 7 4,O 8 (B .neq 7 0)] (K 8 (M [V 9 4,O 2 (.mov (.dat (.nil 1))),V 3 9] .ret) .skip)) (M ([O 10 (L 4 true 1),C 11 115 [T 10],V 2 11,O 3 (.mov (Z 0))]) .ret)))),res:=[.tmp 2,.tmp 3]}
theorem c63:CmpF Tryz.prog 63 a63:=ck Tryz.f63
def a64:AF:=
{nt:=5,body:=(M ([O 2 (.alloc true [z0,z0,.lit (.string ⟨#[]⟩),.nil 4])]) (M ([V 3 0,O 4 (.build [z0,z0,.lit (.string ⟨#[]⟩),.nil 4] [(0,1,(Z 3)),(3,1,(T 3))]),Q (S 4 2 4)]) .ret)),res:=[.cell 2 4 true]}
theorem c64:CmpF Tryz.prog 64 a64:=ck Tryz.f64
def a65:AF:=
{nt:=5,body:=(M ([O 2 (.alloc true [z0,z0,.lit (.string ⟨#[]⟩),.nil 4])]) (M ([V 3 0,O 4 (.build [z0,z0,.lit (.string ⟨#[]⟩),.nil 4] [(0,1,(Z 1)),(1,1,(T 3))]),Q (S 4 2 4)]) .ret)),res:=[.cell 2 4 true]}
theorem c65:CmpF Tryz.prog 65 a65:=ck Tryz.f65
def a66:AF:=
{nt:=5,body:=(M ([O 2 (.alloc true [z0,z0,.lit (.string ⟨#[]⟩),.nil 4])]) (M ([V 3 0,O 4 (.build [z0,z0,.lit (.string ⟨#[]⟩),.nil 4] [(0,1,(Z 2)),(2,1,(T 3))]),Q (S 4 2 4)]) .ret)),res:=[.cell 2 4 true]}
theorem c66:CmpF Tryz.prog 66 a66:=ck Tryz.f66
def a67:AF:=
{nt:=17,body:=(J [V 4 1,O 5 (B .geq 4 0),V 6 5,H 7 6 (.mov (T 1)),H 8 6 (.mov (T 0)),H 9 6 (.ext .nilChk [T 8]),H 10 6 (F 0 3 true 9),H 11 6 (F 0 1 false 10),H 12 6 (L 1 false 11),H 13 6 (.ext .lenB [T 12]),H 14 6 (A .lss 7 13),O 15 (.pick (T 6) (T 14) (Y false)),C 16 68 [T 15,Z 1]]),res:=[]}
theorem c67:CmpF Tryz.prog 67 a67:=ck Tryz.f67
def a68:AF:=
{nt:=8,body:=(M [V 4 0,O 5 (.not (T 4))] (K 5 (.sregion [V 6 1,O 7 (.ifc 39 (T 6)),⟨none,none,.panic (T 7)⟩]) .skip)),res:=[]}
theorem c68:CmpF Tryz.prog 68 a68:=ck Tryz.f68
def a69:AF:=
{nt:=48,body:=(M [O 1 (.box true (T 0)),O 2 (.mov (Y false))] (M ([O 7 (F 2 5 true 1),O 8 (L 5 true 7),O 3 (.alloc true [z0,z0,z0,z0,.lit (.string ⟨#[]⟩)]),Q (S 5 3 8)]) (M [O 9 (F 1 1 false 3),O 10 (L 1 false 9),O 11 (B .geq 10 1),V 12 11,H 13 12 (F 1 1 false 3),H 14 12 (L 1 false 13),H 15 12 (B .leq 14 3),O 16 (.pick (T 12) (T 15) (Y false)),V 4 16] (M [O 17 (F 1 1 false 3),Q (.store 1 (T 17) (Z 1))] (M ([O 19 (L 5 true 3),C 20 27 [.dat (.nil 0),T 19],V 18 20,O 21 (E 18 0),O 22 (E 18 1),V 5 21,V 6 22]) (M [V 23 4,V 24 23,H 25 24 (.mov (T 6)),H 26 24 (B .eql 25 0),O 27 (.pick (T 24) (T 26) (Y false)),V 28 27,H 29 28 (F 0 1 false 1),H 30 28 (L 1 false 29),H 31 28 (B .geq 30 0),O 32 (.pick (T 28) (T 31) (Y false)),V 33 32,H 34 33 (F 0 1 false 1),H 35 33 (L 1 false 34),H 36 33 (B .lss 35 32),O 37 (.pick (T 33) (T 36) (Y false)),V 38 37,H 39 38 (F 1 1 false 1),H 40 38 (L 1 false 39),H 41 38 (B .geq 40 0),O 42 (.pick (T 38) (T 41) (Y false)),V 43 42,H 44 43 (F 1 1 false 1),H 45 43 (L 1 false 44),H 46 43 (B .leq 45 1048576),O 47 (.pick (T 43) (T 46) (Y false)),V 2 47] .ret)))))),res:=[.tmp 2]}
theorem c69:CmpF Tryz.prog 69 a69:=ck Tryz.f69
def a70:AF:=
{nt:=45,body:=(M [O 5 (.box true (T 2))] (M ([V 9 0,O 10 (.ext .nilChk [T 9]),O 11 (F 0 3 true 10),O 12 (F 0 1 false 11),O 13 (L 1 false 12),V 14 1,O 15 (.ext (.idxB 1) [T 13,T 14]),V 6 15]) (.seq (.region (some [[],[0],[0,1],[0,1,2],[],[0,1,2,3,4],[0,1,2,3,4,5],[0,1,2,3,4,5,6],[0,1,2,3,4,5,6],[0,1,2,3,4,5,6,7],[0,1,2,3,4,5,6,7,8,9]]) [V 17 6,O 18 (.ext .nilChk [T 17]),O 19 (F 0 1 false 18),O 20 (L 1 false 19),O 21 (L 7 true 5),⟨some 22,none,.call (U 116) [T 20,T 21,.dat (.fn (.func 90) [] [])]⟩,V 16 22,O 23 (E 16 0),O 24 (E 16 1),V 7 23,V 8 24]) (.seq (M [V 25 8] (K 25 .ret .skip)) (M ([V 26 6,O 27 (.ext .nilChk [T 26]),O 28 (F 0 1 false 27),O 29 (L 1 false 28),O 30 (N 29),O 31 (B .lss 30 4096),C 32 68 [T 31,Z 2]]) (.region (some [[],[],[1],[1,2],[1,2,3],[1,2,3,4],[],[],[7],[1,2,3,4,5,6,7,8],[0,1,2,3,4,5,6,7,8,9],[0,1,2,3,4,5,6,7,8,9,10],[0,1,2,3,4,5,6,7,8,9,10,11]]) [V 33 6,V 34 6,O 35 (.ext .nilChk [T 34]),O 36 (F 0 1 false 35),O 37 (L 1 false 36),O 38 (.ext (.libClone 118 7 64) [T 37]),V 39 7,O 40 (L 7 true 5),O 41 (.ext (.mkslW 7) [T 40]),O 42 (.ext (.libIns 117 7 64) [T 38,T 39,T 41]),O 43 (.ext .nilChk [T 33]),O 44 (F 0 1 false 43),Q (S 1 44 42)])))))),res:=[]}
theorem c70:CmpF Tryz.prog 70 a70:=chkF_cmpL lib0 (F:=Tryz.f70) (by kernel_rfl) mixed (by kernel_rfl)
end

end Go.Proofs.YthimbimilnfdnaaGreatDoor
