/- Part of the proof. -/
import Derived.Test.YtloccchppmffpaaGreatDoorProg
import Derived.KernelRfl
import Derived.Shelf.LaySoft
import Derived.Shelf.SortM.Plain
import Derived.Shelf.Slices.CompactI
import Derived.Ground.SlgmProg
import Derived.Ground.Names2Prog
import Derived.Shelf.Spec.SlicesInsertGrow
import Derived.Deep.QuietTactic
import Derived.BigQuiet
import Derived.Test.YtloccchppmffpaaGreatDoorE
set_option linter.unnecessarySimpa false
set_option linter.unusedVariables false
set_option linter.unusedSimpArgs false
set_option linter.defProp false
set_option maxRecDepth 20000
set_option maxHeartbeats 8000000
namespace Go.Proofs.YtloccchppmffpaaGreatDoor
open Go Go.Proofs.YtloccchppmffpaaGreatDoor.AL
def xK:=@Go.Lib.run_eql_slice_nil
def xL:=@Go.Lib.wpList_append_run
section
section
open Go Go.Proofs.YtloccchppmffpaaGreatDoor.AL Go.Proofs Go.Shelf
def Tryz.XS : Go.Shelf.Ren := ⟨fun | 5 => 92 | 8 => 159 | 7 => 158 | 19 => 210 | 20 => 211 | 10 => 201 | 11 => 202 | 12 => 203 | 13 => 204 | 14 => 205 | 15 => 206 | 16 => 207 | 17 => 208 | 18 => 209 | 30 => 235 | 31 => 236 | 32 => 237 | 33 => 238 | 34 => 239 | 35 => 240 | 40 => 253 | n => n, fun | 23 => 33 | 25 => 3 | 3 => 3 | 32 => 282 | 22 => 33 | 0 => 0 | 44 => 323 | 46 => 325 | 4 => 4 | 36 => 317 | 35 => 316 | 41 => 300 | 5 => 5 | 9 => 9 | 53 => 345 | 57 => 287 | 63 => 364 | 64 => 365 | n => n, fun | n => n⟩
theorem Tryz.XT : Go.Proofs.SlLaysM.n5 Tryz.prog Tryz.XS := {
  mixed := by kernel_rfl
  f5 := ⟨Tryz.f92.name, by decide, Tryz.func92.trans (congrArg some (by kernel_rfl))⟩
  f7 := ⟨Tryz.f158.name, by decide, Tryz.func158.trans (congrArg some (by kernel_rfl))⟩
  f8 := Tryz.func159.trans (congrArg some (by kernel_rfl))
  f10 := ⟨Tryz.f201.name, by decide, Tryz.func201.trans (congrArg some (by kernel_rfl))⟩
  f11 := ⟨Tryz.f202.name, by decide, Tryz.func202.trans (congrArg some (by kernel_rfl))⟩
  f12 := ⟨Tryz.f203.name, by decide, Tryz.func203.trans (congrArg some (by kernel_rfl))⟩
  f13 := ⟨Tryz.f204.name, by decide, Tryz.func204.trans (congrArg some (by kernel_rfl))⟩
  f14 := ⟨Tryz.f205.name, by decide, Tryz.func205.trans (congrArg some (by kernel_rfl))⟩
  f15 := ⟨Tryz.f206.name, by decide, Tryz.func206.trans (congrArg some (by kernel_rfl))⟩
  f16 := ⟨Tryz.f207.name, by decide, Tryz.func207.trans (congrArg some (by kernel_rfl))⟩
  f17 := ⟨Tryz.f208.name, by decide, Tryz.func208.trans (congrArg some (by kernel_rfl))⟩
  f18 := ⟨Tryz.f209.name, by decide, Tryz.func209.trans (congrArg some (by kernel_rfl))⟩
  f19 := Tryz.func210.trans (congrArg some (by kernel_rfl))
  f20 := Tryz.func211.trans (congrArg some (by kernel_rfl))
  f30 := ⟨Tryz.f235.name, by decide, Tryz.func235.trans (congrArg some (by kernel_rfl))⟩
  f31 := Tryz.func236.trans (congrArg some (by kernel_rfl))
  f32 := Tryz.func237.trans (congrArg some (by kernel_rfl))
  f33 := ⟨Tryz.f238.name, by decide, Tryz.func238.trans (congrArg some (by kernel_rfl))⟩
  f34 := ⟨Tryz.f239.name, by decide, Tryz.func239.trans (congrArg some (by kernel_rfl))⟩
  f35 := ⟨Tryz.f240.name, by decide, Tryz.func240.trans (congrArg some (by kernel_rfl))⟩
  f40 := ⟨Tryz.f253.name, by decide, Tryz.func253.trans (congrArg some (by kernel_rfl))⟩
  t0 := Tryz.underlying0
  a0 := Tryz.isAgg0
  z0 := Tryz.sizeOf0
  v0 := Tryz.zeroValue0
  t3 := Tryz.underlying3
  a3 := Tryz.isAgg3
  z3 := Tryz.sizeOf3
  v3 := Tryz.zeroValue3
  t4 := Tryz.underlying4
  a4 := Tryz.isAgg4
  z4 := Tryz.sizeOf4
  v4 := Tryz.zeroValue4
  t5 := Tryz.underlying5
  a5 := Tryz.isAgg5
  z5 := Tryz.sizeOf5
  v5 := Tryz.zeroValue5
  t9 := Tryz.underlying9
  a9 := Tryz.isAgg9
  z9 := Tryz.sizeOf9
  v9 := Tryz.zeroValue9
  t22 := Tryz.underlying33
  a22 := Tryz.isAgg33
  z22 := Tryz.sizeOf33
  v22 := Tryz.zeroValue33
  t23 := Tryz.underlying33
  a23 := Tryz.isAgg33
  z23 := Tryz.sizeOf33
  v23 := Tryz.zeroValue33
  t25 := Tryz.underlying3
  a25 := Tryz.isAgg3
  z25 := Tryz.sizeOf3
  v25 := Tryz.zeroValue3
  t32 := Tryz.underlying282
  a32 := Tryz.isAgg282
  z32 := Tryz.sizeOf282
  v32 := Tryz.zeroValue282
  t35 := Tryz.underlying316
  a35 := Tryz.isAgg316
  z35 := Tryz.sizeOf316
  v35 := Tryz.zeroValue316
  t36 := Tryz.underlying317
  a36 := Tryz.isAgg317
  z36 := Tryz.sizeOf317
  v36 := Tryz.zeroValue317
  t41 := Tryz.underlying300
  a41 := Tryz.isAgg300
  z41 := Tryz.sizeOf300
  v41 := Tryz.zeroValue300
  t44 := Tryz.underlying323
  a44 := Tryz.isAgg323
  z44 := Tryz.sizeOf323
  v44 := Tryz.zeroValue323
  t46 := Tryz.underlying325
  a46 := Tryz.isAgg325
  z46 := Tryz.sizeOf325
  v46 := Tryz.zeroValue325
  t53 := Tryz.underlying345
  a53 := Tryz.isAgg345
  z53 := Tryz.sizeOf345
  v53 := Tryz.zeroValue345
  t57 := Tryz.underlying287
  a57 := Tryz.isAgg287
  z57 := Tryz.sizeOf287
  v57 := Tryz.zeroValue287
  t63 := Tryz.underlying364
  a63 := Tryz.isAgg364
  z63 := Tryz.sizeOf364
  v63 := Tryz.zeroValue364
  t64 := Tryz.underlying365
  a64 := Tryz.isAgg365
  z64 := Tryz.sizeOf365
  v64 := Tryz.zeroValue365 }
def Tryz.XU : Go.Shelf.Ren := ⟨fun | 20 => 93 | n => n, fun | 22 => 33 | 3 => 3 | 4 => 4 | 0 => 0 | n => n, fun | n => n⟩
theorem Tryz.XV : Go.Proofs.Lays2.n20 Tryz.prog Tryz.XU := {
  mixed := by kernel_rfl
  f20 := Tryz.func93.trans (congrArg some (by kernel_rfl))
  t0 := Tryz.underlying0
  a0 := Tryz.isAgg0
  z0 := Tryz.sizeOf0
  v0 := Tryz.zeroValue0
  t3 := Tryz.underlying3
  a3 := Tryz.isAgg3
  z3 := Tryz.sizeOf3
  v3 := Tryz.zeroValue3
  t4 := Tryz.underlying4
  a4 := Tryz.isAgg4
  z4 := Tryz.sizeOf4
  v4 := Tryz.zeroValue4
  t22 := Tryz.underlying33
  a22 := Tryz.isAgg33
  z22 := Tryz.sizeOf33
  v22 := Tryz.zeroValue33
  i3 := by kernel_rfl }
end
open Go Go.Proofs.YtloccchppmffpaaGreatDoor.AL Go.Shelf Go.RowKit Go.Sort
theorem Kd(w:World)(b:Nat)(d:Array Int)(c:Array Value)(g:TypeId)(h:w.heap[b]?=some (.cells c g (0,0)))(l:d.size<=c.size):∃ f,(putRow (Value.int .i64) w b 0 d).heap[b]?=some (.cells f g (0,0))/\f.size=c.size/\(∀ (j:Nat) (a:Int),d.toList[j]?=some a->f[j]?=some (.int .i64 a))/\∀ j,d.size<=j->f[j]?=c[j]?:=by
 refine⟨putCells (Value.int .i64) 0 d c,?_,?_,fun j a e=>?_,fun j m=>?_⟩
 ·simp only [putRow,mapBlock,xA,eA,h,lU,onCells]
 ·simp [putCells]
 ·have i:j<d.size:=by have:=(bu.1 e).1;simpa using this
  have k:j<c.size:=by omega
  unfold putCells;rw [Array.getElem?_mapIdx,bb k,lU,aj ⟨bp _,by omega⟩,Nat.sub_zero,vd d j i];rw [sX,bb i] at e;injection e with e
  rw [e]
 ·unfold putCells;rw [Array.getElem?_mapIdx];cases n:c[j]? with
  | none=>rfl
  | some x=>rw [lU,ab (by omega)]
theorem Ke(w:World)(b k:Nat)(d:Array Int)(a:k≠b):(putRow (Value.int .i64) w b 0 d).heap[k]?=w.heap[k]?:=by simp only [putRow,mapBlock,xA];rw [ab (fun e=>a e.symm)]
theorem holds_of{w:World}{b:Nat}{c:List Int}{d:Array Value}{f:TypeId}(h:w.heap[b]?=some (.cells d f (0,0)))(g:∀ (j:Nat) (a:Int),c[j]?=some a->d[j]?=some (.int .i64 a)):Holds (Value.int .i64) w b 0 c.toArray:=by
 intro j e;have i:j<c.length:=by simpa using e
 have k:=g j c[j] (aI i);have l:c.toArray[j]! = c[j]:=by rw [vd c.toArray j e];simp
 refine⟨?_,?_⟩
 ·rw [l,bC];simp [World.cell?,h,k]
 ·simp [World.frozen?,h]
theorem XW:xR Tryz.prog 92:=by
 refine⟨⟨_,Tryz.func92,by kernel_rfl,by kernel_rfl⟩,fun w b n c d o p r F G H h I s J=>?_⟩;subst r;have i:b<w.heap.size:=by
  by_cases q:b<w.heap.size
  ·exact q
  ·rw [Hc (by omega)] at h;cases h
 have t:=AnyM.slices_Sort_int Tryz.XT b 0 c d w (holds_of h s) i (by omega);refine t.mono fun e u ⟨v,m,K,f⟩=>?_
 have L:(gI d).length=d.length:=by unfold gI;exact(Hk d _).length_eq
 obtain⟨z,A,B,a3,a4⟩:=Kd (Sort.ahead w m) b (gI d).toArray o p h (by simp;omega);have C:(putRow (Value.int .i64) (Sort.ahead w m) b 0 (gI d).toArray).heap.size=w.heap.size:=by simp [putRow,mapBlock,Sort.ahead]
 have l:∀ k,k<w.heap.size->u.heap[k]?=(putRow (Value.int .i64) (Sort.ahead w m) b 0 (gI d).toArray).heap[k]?:=fun k g=>by rw [f];unfold Sort.grow;exact pC (by rw [show (putRow (Value.int .i64) (Sort.ahead w m) b 0 (d.mergeSort fun x y=>decide (x<=y)).toArray).heap.size=w.heap.size from C];exact g)
 refine⟨v,⟨by rw [f];rfl,by rw [f];rfl,by rw [f];rfl,by rw [f];simp [Sort.grow,putRow,mapBlock,Sort.ahead]⟩,fun k g D=>?_,z,by rw [l b i];exact A,B,fun j a E=>a3 j a (by simpa using E),fun j M=>a4 j (by simp;omega)⟩;rw [l k g,Ke _ _ _ _ D];rfl
theorem XX:xS Tryz.prog 93:=by
 refine⟨⟨_,Tryz.func93,by kernel_rfl,by kernel_rfl⟩,fun w b n c d p q r D s t h E u F=>?_⟩;subst r;have v:=Any.slices_Compact_int Tryz.XV b 0 c d w (holds_of h u) (by omega) s;refine v.mono fun e G ⟨x,m,f⟩=>?_
 have y:∀ a∈gj d,a∈d:=fun a g=>by
  unfold gj Lib.compact Lib.compactUpTo at g;obtain⟨j,i,rfl⟩:=aS.1 g;have l:=di.1 (km.1 i).1;have:d.toArray[j]! = d[j]:=by rw [vd d.toArray j (by simpa using l)];simp
  rw [this];exact cN l
 have o:(gj d).length<=d.length:=by unfold gj Lib.compact Lib.compactUpTo;rw [db];have:=lV (Lib.keeps d.toArray) (List.range d.length);rw [List.length_range] at this;exact this
 have H:(Lib.compact d).length<=d.length:=o;obtain⟨z,A,B,a3,a4⟩:=Kd (Sort.ahead w m) b (Lib.compact d++List.replicate (d.length-(Lib.compact d).length) 0).toArray p q h (by simp;omega);refine⟨⟨c,x,by omega,t,o⟩,⟨by rw [f];rfl,by rw [f];rfl,by rw [f];rfl,by rw [f];simp [putRow,mapBlock,Sort.ahead]⟩,fun k I C=>?_,z,by rw [f];exact A,B,fun j a g=>a3 j a ?_,y⟩
 ·rw [f,Ke _ _ _ _ C];rfl
 ·have i:j<(Lib.compact d).length:=(bu.1 g).1;show (Lib.compact d++List.replicate (d.length-(Lib.compact d).length) 0)[j]?=some a;rw [eY i];exact g
end
section
open Go Go.Proofs.YtloccchppmffpaaGreatDoor.AL Go.Shelf Go.RowKit Go.Lib
theorem rZ:Tryz.prog.follows .mixedOrders=true:=by kernel_rfl
noncomputable def CI(t:TypeId)(a bytes:Nat):Bool:=match Tryz.prog.info? t with | some i=>(i.size == a)&&((i.bytes == bytes)&&(match i.zero with | some b=>b.cells.size == a | none=>false)) | none=>false
theorem XY{t:TypeId}{c bytes:Nat}(h:CI t c bytes=true):∃ a:TypeInfo,Tryz.prog.info? t=some a/\a.size=c/\a.bytes=bytes/\∃ b,a.zero=some b/\b.cells.size=c:=by
 unfold CI at h;split at h
 ·rename_i i e;simp only [ax,dg] at h;obtain⟨f,g,d⟩:=h;split at d
  ·rename_i b j;exact⟨i,e,f,g,b,j,by simpa using d⟩
  ·cases d
 ·cases h
set_option maxRecDepth 100000 in
theorem tY{f:FuncId}{t e:TypeId}{m bytes:Nat}(K:m' Tryz.prog f)(k:0<m)(B:Tryz.prog.underlying t=some (.slice e))(L:CI e m bytes=true)(M:∀ (g:Nat) (a:World),Calls Tryz.prog f #[.slice none 0 g] a fun e l=>e=.returned (.slice none 0 0)/\l=a)(C:∀ (i:Addr) (d g:Nat) (a D:World) (E:Value),(∀ r,(Builtin.append_ #[t,t] r #[.slice (some ⟨a.heap.size,0,none⟩) 0 0,.slice (some i) d g]).run Tryz.prog (a.alloc (.cells #[] e))=.ok E D)->Calls Tryz.prog f #[.slice (some i) d g] a fun e l=>e=.returned E/\l=D) :
  iz Tryz.prog f m bytes:=by
 obtain⟨F,G,N,O,Q,R,S⟩:=XY L;refine⟨K,k,fun a T d g H a0 a1 I U V h1 x=>?_⟩;cases T with
 | none =>have k:=U rfl;subst k;exact(M g a).mono fun e l ⟨o,p⟩=>by subst p;exact⟨ct.refl l,.inl ⟨rfl,none,o⟩⟩
 | some i =>
  have y:ct a (a.alloc (.cells #[] e)):=ct.alloc a _;rcases n_ d with k | k
  ·subst k;have z:=fun r=>Bl (P:=Tryz.prog) (t:=t) (ty:=r) (w:=a.alloc (.cells #[] e)) (A:=some ⟨a.heap.size,0,none⟩) (A':=some i) (n:=0) (cap:=0) (c:=g) B G (bj 0)
   exact(C i 0 g a _ _ z).mono fun e l ⟨o,p⟩=>by subst p;exact⟨y,.inl ⟨rfl,_,o⟩⟩
  ·have W:∀ j u,H[j]?=some u->(a.alloc (.cells #[] e)).cell? (i.add j)=some u:=fun j u v=>by have h:=V i rfl j u v;have q:=d_ a _ (by rw [h]);rw [y.cell q];exact h
   have X:(0+d)*F.bytes<=140737488355328:=by rw [O,bC];exact x
   have z:=fun r=>AH (P:=Tryz.prog) (a.alloc (.cells #[] e)) t r e F Q B G R ⟨a.heap.size,0,none⟩ 0 0 [] (by simp) (by simp) i d g H (by rw [I,N]) W (by omega) (by omega) (AI (by omega) X)
   refine(C i d g a _ _ z).mono fun a2 l ⟨o,p⟩=>?_
   generalize J:grownCap (a.alloc (.cells #[] e)) (0+d) 0 e=s at o p;have b0:0+d<=s:=by rw [<- J];exact u_ _ _ _ _
   have Y:s<=9223372036854775807:=by rw [<- J];exact u' _ _ _ _ (by simp only [maxLen];omega)
   subst p;refine⟨⟨rfl,rfl,rfl,by simp;omega,fun b x=>?_⟩,.inr ⟨k,(a.alloc (.cells #[] e)).heap.size,s,_,e,by simpa using o,by simp,iK (a.alloc (.cells #[] e)).drew _,by omega,Y,?_,fun j u v=>?_⟩⟩
   ·have Z:=y.block b x;rw [<- Z];have q:b<(a.alloc (.cells #[] e)).drew.heap.size:=by simp;omega
    first | exact pz (a.alloc (.cells #[] e)).drew _ b q | exact pz (a.alloc (.cells #[] e)).drew _ q
   ·simp only [sW,mM,pA,S,mR,I];have:s*m=d*m+(s-(0+d))*m:=by rw [<- gh];congr 1;omega
    omega
   ·have q:=(bu.1 v).1;rw [pC (by simp;exact q)];simpa using v
set_option maxRecDepth 100000 in
theorem XZ:iz Tryz.prog 170 2 40:=by
 have mixed:=rZ;have q22:∀ (w:World) (a:Option Addr) (n c n' c':Nat),(binOp .eql 74 (.slice a n c) (.slice none n' c')).run Tryz.prog w=.ok (.bool a.isNone) w:=fun w a n c n' c'=>xK w _ _ a n c n' c' (by kernel_rfl:Tryz.prog.underlying 74=some (.slice 78))
 refine tY (t:=74) (e:=78) ⟨_,Tryz.func170,by kernel_rfl,by kernel_rfl⟩ (by decide) (by kernel_rfl) (by kernel_rfl) (fun c w=>?_) (fun ad n c w w2 v2 hrun=>?_)
 ·go_enter Tryz.func170,Tryz.ntmps170
  go_wp2
  go_ret
  exact⟨rfl,rfl⟩
 ·go_enter Tryz.func170,Tryz.ntmps170
  go_wp2_with (at_builtin;refine xL _ rfl _ _ _ _ rfl _ _ rfl rfl _ _ (hrun _) ?_)
  go_ret
  exact⟨rfl,rfl⟩
set_option maxRecDepth 100000 in
theorem X_:iz Tryz.prog 31 1 16:=by
 have mixed:=rZ;have q22:∀ (w:World) (a:Option Addr) (n c n' c':Nat),(binOp .eql 27 (.slice a n c) (.slice none n' c')).run Tryz.prog w=.ok (.bool a.isNone) w:=fun w a n c n' c'=>xK w _ _ a n c n' c' (by kernel_rfl:Tryz.prog.underlying 27=some (.slice 9))
 refine tY (t:=27) (e:=9) ⟨_,Tryz.func31,by kernel_rfl,by kernel_rfl⟩ (by decide) (by kernel_rfl) (by kernel_rfl) (fun c w=>?_) (fun ad n c w w2 v2 hrun=>?_)
 ·go_enter Tryz.func31,Tryz.ntmps31
  go_wp2
  go_ret
  exact⟨rfl,rfl⟩
 ·go_enter Tryz.func31,Tryz.ntmps31
  go_wp2_with (at_builtin;refine xL _ rfl _ _ _ _ rfl _ _ rfl rfl _ _ (hrun _) ?_)
  go_ret
  exact⟨rfl,rfl⟩
set_option maxRecDepth 100000 in
theorem Kf:iz Tryz.prog 70 3 48:=by
 have mixed:=rZ;have q22:∀ (w:World) (a:Option Addr) (n c n' c':Nat),(binOp .eql 51 (.slice a n c) (.slice none n' c')).run Tryz.prog w=.ok (.bool a.isNone) w:=fun w a n c n' c'=>xK w _ _ a n c n' c' (by kernel_rfl:Tryz.prog.underlying 51=some (.slice 98))
 refine tY (t:=51) (e:=98) ⟨_,Tryz.func70,by kernel_rfl,by kernel_rfl⟩ (by decide) (by kernel_rfl) (by kernel_rfl) (fun c w=>?_) (fun ad n c w w2 v2 hrun=>?_)
 ·go_enter Tryz.func70,Tryz.ntmps70
  go_wp2
  go_ret
  exact⟨rfl,rfl⟩
 ·go_enter Tryz.func70,Tryz.ntmps70
  go_wp2_with (at_builtin;refine xL _ rfl _ _ _ _ rfl _ _ rfl rfl _ _ (hrun _) ?_)
  go_ret
  exact⟨rfl,rfl⟩
set_option maxRecDepth 100000 in
theorem X':iz Tryz.prog 190 5 72:=by
 have mixed:=rZ;have q22:∀ (w:World) (a:Option Addr) (n c n' c':Nat),(binOp .eql 28 (.slice a n c) (.slice none n' c')).run Tryz.prog w=.ok (.bool a.isNone) w:=fun w a n c n' c'=>xK w _ _ a n c n' c' (by kernel_rfl:Tryz.prog.underlying 28=some (.slice 237))
 refine tY (t:=28) (e:=237) ⟨_,Tryz.func190,by kernel_rfl,by kernel_rfl⟩ (by decide) (by kernel_rfl) (by kernel_rfl) (fun c w=>?_) (fun ad n c w w2 v2 hrun=>?_)
 ·go_enter Tryz.func190,Tryz.ntmps190
  go_wp2
  go_ret
  exact⟨rfl,rfl⟩
 ·go_enter Tryz.func190,Tryz.ntmps190
  go_wp2_with (at_builtin;refine xL _ rfl _ _ _ _ rfl _ _ rfl rfl _ _ (hrun _) ?_)
  go_ret
  exact⟨rfl,rfl⟩
set_option maxRecDepth 100000 in
theorem Ya:iz Tryz.prog 191 5 80:=by
 have mixed:=rZ;have q22:∀ (w:World) (a:Option Addr) (n c n' c':Nat),(binOp .eql 29 (.slice a n c) (.slice none n' c')).run Tryz.prog w=.ok (.bool a.isNone) w:=fun w a n c n' c'=>xK w _ _ a n c n' c' (by kernel_rfl:Tryz.prog.underlying 29=some (.slice 198))
 refine tY (t:=29) (e:=198) ⟨_,Tryz.func191,by kernel_rfl,by kernel_rfl⟩ (by decide) (by kernel_rfl) (by kernel_rfl) (fun c w=>?_) (fun ad n c w w2 v2 hrun=>?_)
 ·go_enter Tryz.func191,Tryz.ntmps191
  go_wp2
  go_ret
  exact⟨rfl,rfl⟩
 ·go_enter Tryz.func191,Tryz.ntmps191
  go_wp2_with (at_builtin;refine xL _ rfl _ _ _ _ rfl _ _ rfl rfl _ _ (hrun _) ?_)
  go_ret
  exact⟨rfl,rfl⟩
set_option maxRecDepth 100000 in
theorem Yb:iz Tryz.prog 192 3 40:=by
 have mixed:=rZ;have q22:∀ (w:World) (a:Option Addr) (n c n' c':Nat),(binOp .eql 195 (.slice a n c) (.slice none n' c')).run Tryz.prog w=.ok (.bool a.isNone) w:=fun w a n c n' c'=>xK w _ _ a n c n' c' (by kernel_rfl:Tryz.prog.underlying 195=some (.slice 204))
 refine tY (t:=195) (e:=204) ⟨_,Tryz.func192,by kernel_rfl,by kernel_rfl⟩ (by decide) (by kernel_rfl) (by kernel_rfl) (fun c w=>?_) (fun ad n c w w2 v2 hrun=>?_)
 ·go_enter Tryz.func192,Tryz.ntmps192
  go_wp2
  go_ret
  exact⟨rfl,rfl⟩
 ·go_enter Tryz.func192,Tryz.ntmps192
  go_wp2_with (at_builtin;refine xL _ rfl _ _ _ _ rfl _ _ rfl rfl _ _ (hrun _) ?_)
  go_ret
  exact⟨rfl,rfl⟩
theorem Yc{w a:World}(h:ct w a)(n:Nat):ct w (a.drewN n):=⟨h.os,h.tape,h.output,h.size,h.block⟩
set_option maxRecDepth 100000 in
theorem Yd:xQ Tryz.prog 174:=by
 have mixed:=rZ;refine⟨⟨_,Tryz.func174,by kernel_rfl,by kernel_rfl⟩,fun w b0 b1 b2 o1 o2 l1 c1 l2 c2 i k h0 hi h1 hk=>?_⟩
 go_enter Tryz.func174,Tryz.ntmps174
 have hi':(i:Int)<(l1:Int):=by omega
 have hk':(k:Int)<(l2:Int):=by omega
 have b0l:=d_ w _ h0;have b1l:=d_ w _ h1;have g0:∀ x,(w.alloc x).cell? ⟨b0,0,none⟩=some (.slice (some ⟨b1,o1,none⟩) l1 c1):=fun x=>by rw [(ct.alloc w x).cell b0l,h0]
 have g1:∀ x,(w.alloc x).cell? ⟨b1,o1+i,none⟩=some (.slice (some ⟨b2,o2,none⟩) l2 c2):=fun x=>by rw [(ct.alloc w x).cell b1l,h1]
 have g2:∀ x,ct w (w.alloc x):=ct.alloc w
 go_wp2
 go_quiet (fail)
 go_wp2
 go_ret
 exact⟨rfl,Yc (g2 _) nq⟩
def kI:nj Tryz.prog where
 cl:=[(170,2,40),(31,1,16),(70,3,48),(190,5,72),(191,5,80),(192,3,40)]
 Cf:=[174]
 bU:=by simp;exact⟨XZ,X_,Kf,X',Ya,Yb⟩
 Jq:=by simp;exact Yd
 Cg:=[92]
 Ch:=[93]
 Jr:=by simp;exact XW
 Js:=by simp;exact XX
end
section
theorem aH:∀ f a b,dO Tryz.prog f a b->dO Tryz.prog f a b:=fun _ _ _ h=>h
def T(n:Nat):aO:=.tmp n
def Z(c:Int):aO:=.av (.lit (.int .i64 c))
def Y(b:Bool):aO:=.av (.lit (.bool b))
def U(f:FuncId):aO:=.av (.fn (.func f) [] [])
def F(a b:Nat)(c:Bool)(n:Nat):ei:=.field a b c (.tmp n)
def L(a:Nat)(b:Bool)(n:Nat):ei:=.load a b (.tmp n)
def N(n:Nat):ei:=.len (.tmp n)
def E(n k:Nat):ei:=.extract (.tmp n) k
def I(a m n:Nat):ei:=.index a (.tmp m) (.tmp n)
def S(a m n:Nat):ei:=.store a (.tmp m) (.tmp n)
def A(o:BinOp)(m n:Nat):ei:=.arith o (.tmp m) (.tmp n)
def B(o:BinOp)(m:Nat)(c:Int):ei:=.arith o (.tmp m) (.av (.lit (.int .i64 c)))
def V(k n:Nat):aF:=⟨some k,none,.op (.ak (.tmp n))⟩
def O(k:Nat)(x:ei):aF:=⟨some k,none,.op x⟩
def G(k g:Nat)(x:ei):aF:=⟨some k,some (g,false),.op x⟩
def H(k g:Nat)(x:ei):aF:=⟨some k,some (g,true),.op x⟩
def Q(x:ei):aF:=⟨none,none,.op x⟩
def C(k f:Nat)(l:List aO):aF:=⟨some k,none,.call (.av (.fn (.func f) [] [])) l⟩
def J(l:List aF):AC:=.region none l
def M(l:List aF)(a:AC):AC:=.seq (.region none l) a
def K(n:Nat)(a b:AC):AC:=.cond (.tmp n) a b
def z0:D:=.lit (.int .i64 0)
def l(a s b:Nat):aF:=O a (L s false b)
def k(a s b:Nat):aF:=O a (L s true b)
def f(a o z b:Nat):aF:=O a (F o z false b)
def z(a:Nat)(c:Int):aF:=O a (.ak (Z c))
def n(a b:Nat):aF:=O a (N b)
def y(a:Nat)(b:Bool):aF:=O a (.ak (Y b))
def h(a g s b:Nat):aF:=H a g (L s false b)
def r(a g o z b:Nat):aF:=H a g (F o z false b)
def p(a b c:Nat):aF:=O a (.pick (T b) (T c) (Y false))
def q(a b c:Nat):aF:=O a (.pick (T b) (Y true) (T c))
def x(a b:Nat):aF:=O a (.box true (T b))
def e(a b i:Nat):aF:=O a (E b i)
def i(a s b c:Nat):aF:=O a (I s b c)
def a(a b c:Nat):aF:=O a (A .lss b c)
def c(a b:Nat):aF:=O a (B .add b 1)
def g(a g b:Nat):aF:=G a g (.ak (T b))
def t(a b:Nat):aF:=O a (.not (T b))
def u(a g s b:Nat):aF:=G a g (L s false b)
def v(a g o z b:Nat):aF:=G a g (F o z false b)
def o(a b:Nat):aF:=O a (.ext .eD [T b])
def m(a s b:Nat):aF:=O a (.eg s [T b])
def d(s a:Nat)(c:Int):aF:=Q (.store s (T a) (Z c))
def j(a b:Nat):aF:=O a (.ext .ls [T b])
def w(a s z b c:Nat):aF:=O a (.append s z (T b) (T c))
def s(a g:Nat)(o:BinOp)(b:Nat)(c:Int):aF:=G a g (B o b c)
def b(a g:Nat)(o:BinOp)(b:Nat)(c:Int):aF:=H a g (B o b c)
def R(a:Nat)(o:BinOp)(b:Nat)(c:Int):aF:=O a (B o b c)
def X(a:Nat)(o:BinOp)(b c:Nat):aF:=O a (A o b c)
def W(i c b d j e:Nat)(x:AC):AC:=.block i (.loop (M [a d c b] (.seq (K d .skip (.exit i)) (.seq (.block j x) (J [O e (B .add c 1),V c e])))))
attribute [simp] T Z Y U F L N E I S A B V O G H Q C J M K z0 l k f z n y h r p q x e i a c g t u v o m d j w s b R X W
theorem mixed:Tryz.prog.follows .mixedOrders=true:=by kernel_rfl
abbrev PC:=dO Tryz.prog
theorem ck(f:FuncId)(a:AF)(F:Func)(h:Tryz.prog.funcs[f]?=some F:=by kernel_rfl)(k:Jw Tryz.prog F a=true:=by kernel_rfl):g' Tryz.prog f a:=Tk h mixed k
def a3:AF:=⟨290,(M [x 11 2,x 16 7,y 18 false] (.seq (M [O 56 (.build [z0] []),C 57 4 [.av (.nil 0),.av (.nil 0),T 56,Z 0,Z 0,Z 0,Z 0],V 55 57,e 58 55 0,e 59 55 1,e 60 55 2,V 19 58,V 20 59,V 21 60] (M [V 61 21,R 62 .eql 61 0] (K 62 (M [y 18 false] .ret) .skip))) (.seq (M [V 63 0,n 64 63,R 65 .eql 64 0,V 66 65,g 67 66 0,G 68 66 (N 67),s 69 66 .gtr 68 4,q 70 66 69,V 71 70,g 72 71 0,G 73 71 (N 72),g 74 71 1,G 75 71 (N 74),G 76 71 (A .neq 73 75),q 77 71 76,V 78 77,g 79 78 6,G 80 78 (N 79),s 81 78 .gtr 80 8,q 82 78 81,V 83 82,g 84 83 5,s 85 83 .lss 84 0,q 86 83 85,V 87 86,g 88 87 5,s 89 87 .gtr 88 6,q 90 87 89] (K 90 (M [y 18 true] .ret) .skip)) (.seq (M [V 91 0,n 92 91,z 93 0] (W 0 93 92 94 1 101 (M [i 95 2 91 93,k 96 2 95,O 23 (.alloc true [.nil 5,z0]),Q (S 2 23 96)] (M [f 97 0 1 23,l 98 1 97,n 99 98,R 100 .gtr 99 10] (K 100 (M [y 18 true] .ret) .skip))))) (.seq (M [V 102 6,n 103 102,z 104 0] (W 2 104 103 105 3 113 (M [i 106 6 102 104,k 107 6 106,O 25 (.alloc true [.lit (.int .u8 0),.lit (.int .u8 0),z0,z0,z0,.nil 5]),Q (S 6 25 107)] (M [O 108 (F 2 4 true 25),f 109 3 1 108,l 110 1 109,n 111 110,R 112 .gtr 111 5] (K 112 (M [y 18 true] .ret) .skip))))) (M [V 115 0,V 116 1,k 117 1 11,V 118 3,V 119 4,V 120 5,C 121 4 [T 115,T 116,T 117,T 118,T 119,T 120,Z 0],V 114 121,e 122 114 0,e 123 114 1,e 124 114 2,V 26 122,V 27 123,V 28 124] (.seq (M [V 125 28,R 126 .neq 125 0,V 127 126,g 128 127 26,s 129 127 .neq 128 2,q 130 127 129,V 131 130,g 132 131 4,g 133 131 5,s 134 131 .add 133 1,⟨some 135,some (131,false),.call (U 5) [T 132,T 134]⟩,G 136 131 (.not (T 135)),q 137 131 136] (K 137 (M [y 18 true] .ret) .skip)) (M [V 139 0,k 140 1 11,V 141 3,V 142 6,C 143 6 [T 139,T 140,T 141,T 142],V 138 143,e 144 138 0,e 145 138 1,e 146 138 2,V 29 144,V 30 145,V 31 146] (.seq (M [V 147 31,t 148 147] (K 148 (M [y 18 false] .ret) .skip)) (.seq (M [V 150 29,V 151 1,k 152 1 11,V 153 30,V 154 4,V 155 5,C 156 4 [T 150,T 151,T 152,T 153,T 154,T 155,Z 0],V 149 156,e 157 149 0,e 158 149 1,e 159 149 2,V 32 157,V 33 158,V 34 159] (M [V 160 34,R 161 .neq 160 0,V 162 161,g 163 162 32,s 164 162 .neq 163 2,q 165 162 164] (K 165 (M [y 18 false] .ret) .skip))) (M [O 35 (.ak (.av (.nil 1)))] (.seq (M [V 166 5,c 167 166,z 168 0] (W 4 168 167 169 5 200 (M [V 170 168,V 36 170] (M [V 172 0,V 173 1,V 174 4,V 175 36,C 176 7 [T 172,T 173,T 174,T 175],V 171 176,e 177 171 0,e 178 171 1,V 37 177,V 38 178] (M [V 180 29,V 181 1,V 182 4,V 183 36,C 184 7 [T 180,T 181,T 182,T 183],V 179 184,e 185 179 0,e 186 179 1,V 39 185,V 40 186] (.seq (M [V 187 38,t 188 187,V 189 188,g 190 189 40,G 191 189 (.not (T 190)),q 192 189 191,V 193 192,g 194 193 37,g 195 193 39,⟨some 196,some (193,false),.call (U 8) [T 194,T 195]⟩,G 197 193 (.not (T 196)),q 198 193 197] (K 198 (M [y 18 false] .ret) .skip)) (J [V 199 37,V 35 199]))))))) (M [z 41 0] (.seq (M [V 201 29,n 202 201,z 203 0] (W 6 203 202 204 7 212 (M [i 205 2 201 203,k 206 2 205,O 43 (.alloc true [.nil 5,z0]),Q (S 2 43 206)] (J [V 207 41,f 208 0 1 43,l 209 1 208,n 210 209,X 211 .add 207 210,V 41 211])))) (.seq (M [V 213 41,R 214 .gtr 213 64] (K 214 (M [y 18 true] .ret) .skip)) (M [V 216 29,V 217 1,V 218 4,V 219 5,c 220 219,C 221 7 [T 216,T 217,T 218,T 220],V 215 221,e 222 215 0,e 223 215 1,V 44 222,V 45 223] (.seq (M [V 224 45,t 225 224,V 226 225,g 227 226 35,G 228 226 (N 227),s 229 226 .gtr 228 4,q 230 226 229,V 231 230,g 232 231 44,G 233 231 (N 232),s 234 231 .gtr 233 2,q 235 231 234,V 236 235,G 237 236 (L 6 true 16),g 238 236 8,g 239 236 35,g 240 236 44,g 241 236 44,G 242 236 (N 241),⟨some 243,some (236,false),.call (U 9) [T 237,T 238,T 239,T 240,T 242]⟩,G 244 236 (.not (T 243)),q 245 236 244] (K 245 (M [V 246 45,V 18 246] .ret) .skip)) (M [k 248 6 16,V 249 8,V 250 35,V 251 44,V 252 44,n 253 252,C 254 10 [T 248,T 249,Z 1,T 250,T 251,T 253,Z 9,Z 9],V 247 254,e 255 247 0,e 256 247 1,e 257 247 2,V 46 255,V 47 256,V 48 257] (.seq (.region (some [[],[],[],[],[2,3],[],[2,3,4,5],[0,1,2,3,4,5,6],[0,1,2,3,4,5,6,7],[0,1,2,3,4,5,6,7,8],[0,1,2,3,4,5,6,7,8],[0,1,2,3,4,5,6,7,8],[0,1,2,3,4,5,6,7,8,9],[0,1,2,3,4,5,6,7,8,9,10,12],[0,1,2,3,4,5,6,7,8,9,10,11,12,13]]) [k 259 6 16,V 260 8,O 261 (.eg 1 []),V 262 35,w 263 1 16 261 262,V 264 44,w 265 1 16 263 264,C 266 11 [T 259,T 260,Z 1,T 265,Z 9,Z 9],V 258 266,e 267 258 0,e 268 258 1,e 269 258 2,V 49 267,V 50 268,V 51 269]) (.seq (M [V 270 48,R 271 .neq 270 0] (K 271 (M [k 273 6 16,V 274 8,V 275 35,C 276 11 [T 273,T 274,Z 1,T 275,Z 9,Z 9],V 272 276,e 277 272 0,e 278 272 1,e 279 272 2,V 52 277,V 53 278,V 54 279] (M [V 280 54,V 281 48,X 282 .eql 280 281,V 18 282] .ret)) .skip)) (M [V 283 51,R 284 .eql 283 0,V 285 284,H 286 285 (.ak (T 49)),H 287 285 (.ak (T 46)),⟨some 288,some (285,true),.call (U 12) [T 286,T 287]⟩,p 289 285 288,V 18 289] .ret))))))))))))))))))))),[.tmp 18]⟩
def c3:=ck 3 a3 Tryz.f3
def a4:AF:=⟨109,(M [j 8 1,j 9 2,j 10 3,j 11 4,j 12 5,O 14 (.alloc false [z0]),O 15 (.alloc false [.nil 1]),O 16 (.alloc false [z0])] (.seq (M [V 24 0,n 25 24,R 26 .gtr 25 16] (K 26 (M [d 1 14 0,Q (.store 1 (T 15) (.av (.nil 1))),d 1 16 2] .ret) .skip)) (.seq (M [l 27 1 8,n 28 27,V 29 0,n 30 29,X 31 .neq 28 30] (K 31 (M [d 1 14 0,Q (.store 1 (T 15) (.av (.nil 1))),d 1 16 1] .ret) .skip)) (.seq (M [V 32 0,n 33 32,R 34 .eql 33 0] (K 34 (M [O 36 (.build [.nil 5,z0] []),k 37 1 9,l 38 1 10,l 39 1 11,l 40 1 12,C 41 13 [T 36,T 37,T 38,T 39,T 40],V 35 41,e 42 35 0,e 43 35 1,e 44 35 2,Q (S 1 16 44)] (M [l 45 1 16,R 46 .neq 45 0] (K 46 (.seq (.region (some [[],[],[1],[0,1,2]]) [l 47 1 16,d 1 14 0,Q (.store 1 (T 15) (.av (.nil 1))),Q (S 1 16 47)]) .ret) .skip))) .skip)) (M [O 17 (.ak (.av (.nil 2)))] (.seq (M [V 48 0,n 49 48,z 50 0] (W 0 50 49 51 1 64 (M [V 52 50,i 53 2 48 50,k 54 2 53,O 19 (.alloc true [.nil 5,z0]),V 18 52,Q (S 2 19 54)] (J [V 55 17,l 56 1 8,V 57 18,i 58 1 56 57,l 59 1 58,O 60 (.ext (.ri (.func 14)) [T 19,T 9,T 10,T 11,T 12]),O 61 (.build [.lit (.bool false),.lit (.nilFunc)] [(0,1,(T 59)),(1,1,(T 60))]),m 62 2 61,w 63 2 16 55 62,V 17 63])))) (M [O 20 (.alloc false [z0]),O 21 (.alloc false [z0]),d 1 20 0,d 1 21 0] (.seq (M [V 65 17,C 66 15 [T 65]] (.block 2 (.range (T 66) [67,68] (M [V 22 67] (J [V 23 68])) (.block 3 (.seq (M [V 69 23,R 70 .neq 69 0] (K 70 (M [V 71 23,d 1 14 0,Q (.store 1 (T 15) (.av (.nil 1))),Q (S 1 16 71)] .ret) .skip)) (.seq (M [l 72 1 8,l 73 1 15,n 74 73,i 75 1 72 74,l 76 1 75] (K 76 (J [l 77 1 20,c 78 77,Q (S 1 20 78)]) .skip)) (.seq (M [V 79 22,R 80 .geq 79 0] (K 80 (J [l 81 1 21,c 82 81,Q (S 1 21 82)]) .skip)) (J [l 83 1 15,V 84 22,m 85 1 84,w 86 1 8 83 85,Q (S 1 15 86)])))))))) (.seq (.block 4 (M [V 88 6,R 89 .lss 88 0,V 90 89,g 91 90 6,s 92 90 .geq 91 1099511627776,q 93 90 92,V 87 93] (K 87 (M [d 1 14 0,Q (.store 1 (T 15) (.av (.nil 1))),d 1 16 1] .ret) (M [l 95 1 20,R 96 .gtr 95 0,V 97 96,h 98 97 1 20,h 99 97 1 21,H 100 97 (A .eql 98 99),p 101 97 100,V 94 101] (K 94 (.seq (.region (some [[],[],[0,1],[0,1,2]]) [l 102 1 15,d 1 14 2,Q (S 1 15 102),d 1 16 0]) .ret) (M [l 104 1 10,V 105 6,X 106 .geq 104 105,V 103 106] (K 103 (.seq (.region (some [[],[],[0,1],[0,1,2]]) [l 107 1 15,d 1 14 1,Q (S 1 15 107),d 1 16 0]) .ret) .skip))))))) (.seq (.region (some [[],[],[0,1],[0,1,2]]) [l 108 1 15,d 1 14 0,Q (S 1 15 108),d 1 16 0]) .ret)))))))))),[.cell 14 1 false,.cell 15 1 false,.cell 16 1 false]⟩
def c4:=ck 4 a4 Tryz.f4
def a5:AF:=⟨21,(M [y 4 false] (M [V 5 0,R 6 .geq 5 1,V 7 6,H 8 7 (.ak (T 0)),b 9 7 .leq 8 1073741824,p 10 7 9,V 11 10,H 12 11 (.ak (T 1)),b 13 11 .geq 12 0,p 14 11 13,V 15 14,H 16 15 (.ak (T 1)),H 17 15 (.ak (T 0)),H 18 15 (.arith .quo (Z 1099511627776) (T 17)),H 19 15 (A .lss 16 18),p 20 15 19,V 4 20] .ret)),[.tmp 4]⟩
def c5:=ck 5 a5 Tryz.f5
def a6:AF:=⟨78,(M [x 5 1,O 8 (.ak (.av (.nil 2))),z 9 0,y 10 false] (M [O 18 (.ext (.rj 2) []),V 19 0,O 20 (.ext (.rm 2 32) [T 18,T 19]),V 21 2,V 8 20,V 9 21] (.seq (M [V 22 3,n 23 22,z 24 0] (W 0 24 23 25 1 75 (M [i 26 6 22 24,k 27 6 26,O 12 (.alloc true [.lit (.int .u8 0),.lit (.int .u8 0),z0,z0,z0,.nil 5]),Q (S 6 12 27)] (M [V 28 9,f 29 1 1 12,l 30 1 29,O 31 (.conv .i64 (T 30)),X 32 .add 28 31,O 33 (.hy false (T 32) (Z 1099511627775)),V 9 33] (M [f 34 0 1 12,l 35 1 34,O 36 (.conv .i64 (T 35)),V 37 8,O 38 (.ext .iO [T 37]),X 39 .rem 36 38,V 13 39] (.seq (.region (some [[],[],[0,1],[0,1,2],[],[],[],[6],[0,1,2,3,4,5,6,7],[0,1,2,3,4,5,6,7,8],[0,1,2,3,4,5,6,7,8,9],[0,1,2,3,4,5,6,7,8,9],[0,1,2,3,4,5,6,7,8,9,10],[0,1,2,3,4,5,6,7,8,9,10,11,12]]) [V 41 8,V 42 13,O 43 (.ext (.fG 2) [T 41,T 42]),k 44 2 43,k 45 1 5,V 46 9,O 47 (F 2 4 true 12),k 48 4 47,C 49 16 [T 44,T 45,T 46,T 48],V 40 49,e 50 40 0,e 51 40 1,V 14 50,V 15 51]) (.seq (M [V 52 15,R 53 .neq 52 0] (K 53 (M [V 54 8,V 55 9,V 8 54,V 9 55,y 10 false] .ret) .skip)) (M [V 56 14] (K 56 (.seq (.region (some [[],[],[0,1],[0,1,2],[],[4],[0,1,2,3,4,5],[0,1,2,3,4,5,6],[0,1,2,3,4,5,6,7],[0,1,2,3,4,5,6,7],[],[0,1,2,3,4,5,6,7,8,10],[0,1,2,3,4,5,6,7,8,9,10,11]]) [V 58 8,V 59 13,O 60 (.ext (.fG 2) [T 58,T 59]),k 61 2 60,O 62 (F 2 4 true 12),k 63 4 62,C 64 17 [T 61,T 63],V 57 64,e 65 57 0,e 66 57 1,O 16 (.alloc true [.nil 5,z0]),Q (S 2 16 65),V 17 66]) (.seq (M [V 67 17,R 68 .neq 67 0] (K 68 (M [V 69 8,V 70 9,V 8 69,V 9 70,y 10 false] .ret) .skip)) (J [V 71 8,V 72 13,k 73 2 16,O 74 (.ext (.fG 2) [T 71,T 72]),Q (S 2 74 73)]))) .skip))))))))) (M [V 76 8,V 77 9,V 8 76,V 9 77,y 10 true] .ret)))),[.tmp 8,.tmp 9,.tmp 10]⟩
def c6:=ck 6 a6 Tryz.f6
def a7:AF:=⟨80,(M [O 8 (.ak (.av (.nil 1))),y 9 false] (M [O 10 (.ak (.av (.nil 1)))] (.seq (M [V 21 0,n 22 21,z 23 0] (W 0 23 22 24 1 63 (M [V 25 23,i 26 2 21 23,k 27 2 26,O 12 (.alloc true [.nil 5,z0]),V 11 25,Q (S 2 12 27)] (.seq (M [V 28 1,V 29 11,i 30 1 28 29,l 31 1 30,t 32 31] (K 32 (.exit 1) .skip)) (M [f 34 0 1 12,l 35 1 34,V 36 2,V 37 3,C 38 18 [T 35,T 36,T 37],V 33 38,e 39 33 0,e 40 33 1,e 41 33 2,V 13 39,V 14 40,V 15 41] (.seq (M [V 42 15,R 43 .neq 42 0] (K 43 (M [O 8 (.ak (.av (.nil 1))),y 9 false] .ret) .skip)) (M [O 16 (.ak (.av (.nil 2)))] (.seq (M [V 44 13,n 45 44,z 46 0] (W 2 46 45 47 3 58 (M [i 48 5 44 46,k 49 5 48,O 18 (.alloc true [.lit (.string ⟨#[]⟩),z0,z0,z0,.nil 1]),Q (S 5 18 49)] (J [V 50 16,f 51 0 1 18,l 52 1 51,f 53 4 1 18,l 54 1 53,O 55 (.build [.lit (.string ⟨#[]⟩),.nil 1] [(0,1,(T 52)),(1,1,(T 54))]),m 56 2 55,w 57 2 40 50 56,V 16 57])))) (J [V 59 10,V 60 16,m 61 1 60,w 62 1 24 59 61,V 10 62]))))))))) (M [V 65 10,C 66 19 [T 65],V 64 66,e 67 64 0,e 68 64 1,V 19 67,V 20 68] (.seq (M [V 69 20,R 70 .neq 69 0] (K 70 (M [O 8 (.ak (.av (.nil 1))),y 9 false] .ret) .skip)) (M [V 72 19,C 73 20 [T 72],V 71 73,e 74 71 0,e 75 71 1,e 76 71 2,V 8 74,V 20 76] (M [V 77 8,V 78 20,R 79 .eql 78 0,V 8 77,V 9 79] .ret))))))),[.tmp 8,.tmp 9]⟩
def c7:=ck 7 a7 Tryz.f7
def a8:AF:=⟨26,(M [y 4 false] (.seq (M [V 6 0,n 7 6,V 8 1,n 9 8,X 10 .neq 7 9] (K 10 (M [y 4 false] .ret) .skip)) (.seq (M [z 5 0] (.block 0 (.loop (.seq (M [V 11 5,V 12 0,n 13 12,a 14 11 13] (K 14 .skip (.exit 0))) (.seq (.block 1 (.seq (.region (some [[],[],[0,1],[0,1,2],[],[],[4,5],[4,5,6],[0,1,2,3,4,5,6,7]]) [V 17 0,V 18 5,i 19 1 17 18,l 20 1 19,V 21 1,V 22 5,i 23 1 21 22,l 24 1 23,X 25 .neq 20 24]) (K 25 (M [y 4 false] .ret) .skip))) (J [V 15 5,c 16 15,V 5 16])))))) (M [y 4 true] .ret)))),[.tmp 4]⟩
def c8:=ck 8 a8 Tryz.f8
def a9:AF:=⟨80,(M [x 5 0,y 10 false] (.seq (M [z 11 0] (.block 0 (.loop (.seq (M [V 13 11,V 14 3,n 15 14,a 16 13 15,V 17 16,H 18 17 (.ak (T 11)),b 19 17 .lss 18 300,p 20 17 19] (K 20 .skip (.exit 0))) (.seq (.block 1 (M [V 23 3,V 24 11,i 25 1 23 24,l 26 1 25,O 27 (.dH (T 26)),R 28 .gtr 27 200] (K 28 (M [y 10 false] .ret) .skip))) (J [V 21 11,c 22 21,V 11 22])))))) (.seq (M [k 29 6 5,V 30 1,V 31 2,C 32 21 [T 29,T 30,T 31],t 33 32,V 34 33,g 35 34 2,G 36 34 (N 35),s 37 34 .gtr 36 5,g 38 34 37,H 39 38 (.ak (T 2)),H 40 38 (N 39),b 41 38 .leq 40 16,G 42 34 (.pick (T 38) (T 41) (Y false)),q 43 34 42,V 44 43,g 45 44 2,G 46 44 (N 45),s 47 44 .gtr 46 40,q 48 44 47,V 49 48,g 50 49 3,G 51 49 (N 50),s 52 49 .gtr 51 300,q 53 49 52] (K 53 (M [y 10 false] .ret) .skip)) (M [V 54 2,V 55 3,V 56 4,O 57 (.hy true (T 56) (Z 0)),O 58 (.hy false (T 57) (Z 3)),C 59 22 [T 54,T 55,T 58],V 12 59] (M [V 60 12,R 61 .leq 60 21,V 62 61,g 63 62 12,s 64 62 .gtr 63 256,q 65 62 64,V 66 65,g 67 66 4,s 68 66 .lss 67 0,q 69 66 68,V 70 69,g 71 70 4,s 72 70 .gtr 71 3,q 73 70 72,V 74 73,r 75 74 1 1 5,h 76 74 1 75,H 77 74 (N 76),b 78 74 .leq 77 6,p 79 74 78,V 10 79] .ret))))),[.tmp 10]⟩
def c9:=ck 9 a9 Tryz.f9
def oO:AF:=
{nt:=90,body:=(M ([O 8 (.ext .ls [T 0]),O 9 (.ext .ls [T 1]),O 10 (.ext .ls [T 2]),O 14 (.ext .ls [T 6]),O 15 (.ext .ls [T 7]),O 16 (.alloc false [.nil 3]),O 17 (.alloc false [z0]),O 18 (.alloc false [z0])]) (.seq (.aY [O 26 (.func (.func 23) [] [T 18,T 16,T 17]),⟨none,none,.defer (T 26) []⟩]) (.seq (.aY [⟨none,none,.defer (U 24) [T 18]⟩]) (M ([O 27 (.func (.func 25) [] [T 8,T 9,T 10,T 14,T 15]),O 19 (.alloc false [.lit (.nilFunc)]),Q (S 1 19 27)]) (M ([O 28 (L 1 false 19),V 29 3,⟨some 30,none,.call (T 28) [T 29]⟩]) (M [O 20 (.ak (U 27))] (.seq (.aY [V 31 4,O 32 (N 31),O 33 (B .leq 32 256),V 34 33,H 35 34 (.ak (T 4)),H 36 34 (.ak (T 20)),⟨some 37,some (34,true),.bl (U 29) [T 35,T 36]⟩,H 38 34 (.not (T 37)),O 39 (.pick (T 34) (T 38) (Y false)),C 40 26 [T 39,Z 330]]) (M ([V 41 5,O 42 (B .geq 41 0),V 43 42,H 44 43 (.ak (T 5)),H 45 43 (B .leq 44 3),O 46 (.pick (T 43) (T 45) (Y false)),C 47 26 [T 46,Z 1]]) (M [V 48 5,V 49 3,O 50 (N 49),O 51 (.arith .sub (Z 16) (T 50)),O 52 (.hy false (T 48) (T 51)),V 5 52] (M [O 21 (.ak (Z 0)),O 22 (.ak (Z 1))] (.seq (M [V 53 5,O 54 (B .add 53 1),O 55 (.ak (Z 0))] (.block 0 (.loop (M [O 56 (A .lss 55 54)] (.seq (K 56 .skip (.exit 0)) (.seq (.block 1 (M [V 57 21,V 58 22,O 59 (A .add 57 58),V 21 59] (M ([V 60 21,O 61 (B .leq 60 256),C 62 26 [T 61,Z 2]]) (J [V 63 22,V 64 4,O 65 (N 64),O 66 (A .mul 63 65),V 22 66])))) (J [O 67 (B .add 55 1),V 55 67]))))))) (M ([O 23 (.alloc false [.nil 1])]) (.seq (M [V 68 5,O 69 (B .add 68 1),O 70 (.ak (Z 0))] (.block 2 (.loop (M [O 71 (A .lss 70 69)] (.seq (K 71 .skip (.exit 2)) (.seq (.block 3 (M [V 72 70,V 24 72] (.seq (.aY [V 73 3,V 74 4,V 75 24,⟨some 76,none,.bl (U 30) [T 73,T 74,T 75]⟩]) (.block 4 (.range (T 76) [77] (J [V 25 77]) (.block 5 (.region (some [[],[],[],[2],[1,2,3],[1,2,3,4],[0,1,2,3,4,5],[0,1,2,3,4,5,6]]) [O 78 (L 1 false 23),O 79 (L 1 false 19),V 80 25,O 81 (.ext (.pO 31 1 16) [T 80]),⟨some 82,none,.call (T 79) [T 81]⟩,O 83 (.eg 1 [T 82]),O 84 (.append 1 24 (T 78) (T 83)),Q (S 1 23 84)]))))))) (J [O 85 (B .add 70 1),V 70 85]))))))) (.seq (.region (some [[],[0],[],[2],[0,1],[0,1,2,3,4],[0,1,2,3,4,5]]) [O 86 (L 1 false 23),⟨some 87,none,.call (U 32) [.av (.fn (.func 33) [] []),T 86]⟩,O 88 (L 1 false 23),O 89 (N 88),Q (S 1 16 87),Q (S 1 17 89),Q (.store 1 (T 18) (Z 0))]) .ret)))))))))))))),res:=[.cell 16 1 false,.cell 17 1 false,.cell 18 1 false]}
theorem tZ:g' Tryz.prog 10 oO:=jU kI (F:=Tryz.f10) (by kernel_rfl) mixed (by kernel_rfl)
def oP:AF:=⟨114,(M [x 6 0,O 12 (.ak (.av (.nil 3))),y 13 false,z 14 0] (M [k 25 6 6,V 26 1,V 27 2,V 28 3,V 29 4,V 30 5,C 31 34 [T 25,T 26,T 27,T 28,T 29,T 30],V 24 31,e 32 24 0,e 33 24 1,V 15 32,V 14 33] (.seq (M [V 34 14,R 35 .neq 34 0] (K 35 (M [V 36 14,O 12 (.ak (.av (.nil 3))),y 13 false,V 14 36] .ret) .skip)) (.seq (M [V 37 3,n 38 37,R 39 .eql 38 0] (K 39 (M [O 12 (.ak (.av (.nil 3))),y 13 false,z 14 0] .ret) .skip)) (M [k 41 6 6,V 42 15,V 43 3,n 44 43,C 45 35 [T 41,T 42,T 44],V 40 45,e 46 40 0,e 47 40 1,e 48 40 2,e 49 40 3,O 16 (.alloc true [z0,z0,z0,z0,.nil 5]),Q (S 5 16 46),V 17 47,V 18 48,V 14 49] (.seq (M [V 50 14,R 51 .neq 50 0] (K 51 (M [V 52 14,O 12 (.ak (.av (.nil 3))),y 13 false,V 14 52] .ret) .skip)) (.seq (M [V 53 18] (K 53 (M [k 54 6 6,V 55 15,k 56 5 16,C 57 37 [T 54,T 55,T 56],C 58 36 [T 57],V 12 58,y 13 true,z 14 0] .ret) .skip)) (.seq (M [z 19 0] (.block 0 (.loop (.seq (M [V 59 19,V 60 3,n 61 60,a 62 59 61] (K 62 .skip (.exit 0))) (.block 1 (M [z 20 (-1)] (.seq (M [V 63 15,n 64 63,z 65 0] (W 2 65 64 66 3 94 (M [V 67 65,i 68 6 63 65,k 69 6 68,O 22 (.alloc true [z0,z0,z0,z0,.nil 1,z0]),V 21 67,Q (S 6 22 69)] (.seq (.region (some [[],[0],[0,1],[0,1,2],[0,1,2,3],[0,1,2,3,4],[0,1,2,3],[0,1,2,3,4,5,6],[0,1,2,3,4,5,6,7],[0,1,2,3,4,5,6,7,8],[0,1,2,3,4,5,6,7,8,9],[0,1,2,3,4,5,6,7,8,9,10],[0,1,2,3,4,5,6,7,8,9,10,11],[0,1,2,3,4,5,6,7,8,9,10,11,12],[0,1,2,3,4,5,6,7,8,9,10,11,12,13],[0,1,2,3,4,5,6,7,8,9,10,11,12],[0,1,2,3,4,5,6,7,8,9,10,11,12],[0,1,2,3,4,5,6,7,8,9,10,11,12,15,16],[0,1,2,3,4,5,6,7,8,9,10,11,12,15,16,17],[0,1,2,3,4,5,6,7,8,9,10,11,12,15,16,17,18],[0,1,2,3,4,5,6,7,8,9,10,11,12,13,14,15,16,17,18,19],[0,1,2,3,4,5,6,7,8,9,10,11,12,13,14,15,16,17,18,19,20],[0,1,2,3,4,5,6,7,8,9,10,11,12,13,14,15,16,17,18,19,20,21]]) [f 70 0 1 22,l 71 1 70,R 72 .geq 71 0,V 73 72,r 74 73 1 1 22,h 75 73 1 74,H 76 73 (.ak (T 19)),H 77 73 (A .eql 75 76),p 78 73 77,V 79 78,H 80 79 (.ak (T 20)),b 81 79 .lss 80 0,H 82 79 (.ak (T 81)),v 83 82 2 1 22,u 84 82 1 83,g 85 82 15,g 86 82 20,G 87 82 (I 6 85 86),v 88 82 2 1 87,u 89 82 1 88,G 90 82 (A .gtr 84 89),H 91 79 (.pick (T 82) (Y true) (T 90)),p 92 79 91]) (K 92 (J [V 93 21,V 20 93]) .skip))))) (.seq (M [V 95 20,R 96 .lss 95 0] (K 96 (M [V 97 19,c 98 97,V 19 98] (.exit 1)) .skip)) (M [V 99 20,O 100 (.build [z0,z0,z0,z0,.nil 5] [(0,1,(Z (-1))),(1,1,(T 99))]),O 23 (.alloc true [z0,z0,z0,z0,.nil 5]),Q (S 5 23 100)] (M [V 101 12,k 102 6 6,V 103 15,k 104 5 23,C 105 37 [T 102,T 103,T 104],C 106 36 [T 105],w 107 3 48 101 106,V 12 107] (J [V 108 15,V 109 20,i 110 6 108 109,f 111 2 1 110,l 112 1 111,V 19 112]))))))))))) (M [V 113 12,V 12 113,y 13 false,z 14 0] .ret))))))))),[.tmp 12,.tmp 13,.tmp 14]⟩
def r_:=ck 11 oP Tryz.f11
def a12:AF:=⟨18,(M [y 4 false] (M [V 5 1,n 6 5,V 7 0,n 8 7,X 9 .leq 6 8,V 10 9,H 11 10 (.ak (T 0)),H 12 10 (.ak (T 1)),H 13 10 (N 12),H 14 10 (.slice 3 (T 11) none (some (T 13))),H 15 10 (.ak (T 1)),⟨some 16,some (10,true),.call (U 38) [T 14,T 15]⟩,p 17 10 16,V 4 17] .ret)),[.tmp 4]⟩
def Ye:=ck 12 a12 Tryz.f12
def CJ:AF:=⟨39,(M [x 5 0,x 6 1,z 10 0,y 11 false,z 12 0] (M [k 15 2 5,k 16 1 6,V 17 2,C 18 39 [T 15,T 16,T 17],V 14 18,e 19 14 0,e 20 14 1,V 13 19,V 12 20] (.seq (M [V 21 12,R 22 .neq 21 0] (K 22 (M [V 23 12,z 10 0,y 11 false,V 12 23] .ret) .skip)) (.seq (M [V 24 3,V 25 4,C 26 40 [T 24,T 25],t 27 26] (K 27 (M [z 10 0,y 11 false,z 12 230] .ret) .skip)) (.seq (M [f 28 0 1 5,l 29 1 28,V 30 4,c 31 30,V 32 3,X 33 .mul 31 32,C 34 41 [T 29,T 33],V 10 34] (M [V 35 10,V 36 13,X 37 .geq 35 36] (K 37 (M [z 10 0,y 11 false,z 12 0] .ret) .skip))) (M [V 38 10,V 10 38,y 11 true,z 12 0] .ret)))))),[.tmp 10,.tmp 11,.tmp 12]⟩
def Yf:=ck 13 CJ Tryz.f13
def CK:AF:=⟨17,(M [z 5 0,y 6 false,z 7 0] (M [k 8 2 0,k 9 1 1,l 10 1 2,l 11 1 3,l 12 1 4,C 13 13 [T 8,T 9,T 10,T 11,T 12],e 14 13 0,e 15 13 1,e 16 13 2,V 5 14,V 6 15,V 7 16] .ret)),[.tmp 5,.tmp 6,.tmp 7]⟩
def Yg:=ck 14 CK Tryz.f14
def CL:AF:=⟨4,(M [j 1 0,O 2 (.ak (.av (.lit (.nilFunc))))] (M [O 3 (.func (.func 42) [] [T 1]),V 2 3] .ret)),[.tmp 2]⟩
def Yh:=ck 15 CL Tryz.f15
def CM:AF:=⟨38,(M [x 4 0,x 5 1,x 7 3,y 8 false,z 9 0] (.seq (M [k 12 2 4,k 13 1 5,V 14 2,C 15 43 [T 12,T 13,T 14],V 9 15] (M [V 16 9,R 17 .neq 16 0] (K 17 (M [V 18 9,y 8 false,V 9 18] .ret) .skip))) (.seq (M [k 20 2 4,k 21 4 7,C 22 17 [T 20,T 21],V 19 22,e 23 19 0,e 24 19 1,O 10 (.alloc true [.nil 5,z0]),Q (S 2 10 23),V 11 24] (M [V 25 11,R 26 .neq 25 0] (K 26 (M [y 8 false,z 9 0] .ret) .skip))) (.seq (.region (some [[],[],[1],[0,1,2],[0,1,2,3],[],[],[],[],[0,7,8],[0,1,2,3,4,5,6,7,8,9],[0,1,2,3,4,5,6,7,8,9,10],[0,1,2,3,4,5,6,7,8,9,10,11]]) [C 27 44 [],f 28 0 1 7,l 29 1 28,O 30 (.ext (.rh 1 true 4) [T 27,T 29]),O 31 (.ou 0 1 false (T 30)),k 32 2 4,k 33 4 7,k 34 1 5,V 35 2,C 36 45 [T 34,T 35],⟨some 37,none,.call (T 31) [T 32,T 33,T 36]⟩,V 8 37,z 9 0]) .ret)))),[.tmp 8,.tmp 9]⟩
def Yi:=ck 16 CM Tryz.f16
def a17:AF:=⟨35,(M [x 2 0,x 3 1,O 4 (.alloc true [.nil 5,z0]),O 5 (.alloc false [z0])] (.seq (.aY [O 8 (.func (.func 46) [] [T 5,T 4]),⟨none,none,.defer (T 8) []⟩]) (.seq (.aY [⟨none,none,.defer (U 47) [T 5]⟩]) (M [k 9 2 2,C 10 48 [T 9]] (.seq (.region (some [[],[],[1],[0,1,2],[0,1,2,3],[0,1,2,3,4],[0,1,2,3,4],[],[0,1,2,3,4,5,7],[0,1,2,3,4,5,6,7,8]]) [C 12 49 [],f 13 0 1 3,l 14 1 13,O 15 (.ext (.lookup (.int .i64) true (.agg [.lit (.nilFunc),.lit (.nilFunc)])) [T 12,T 14]),V 11 15,e 16 11 0,e 17 11 1,O 6 (.alloc true [.lit (.nilFunc),.lit (.nilFunc)]),Q (S 2 6 16),V 7 17]) (M [V 18 7,V 19 18,r 20 19 0 1 6,h 21 19 1 20,H 22 19 (L 2 true 2),H 23 19 (L 4 true 3),⟨some 24,some (19,true),.call (T 21) [T 22,T 23]⟩,p 25 19 24,C 26 50 [T 25,Z 170]] (M [f 27 1 1 6,l 28 1 27,k 29 2 2,k 30 4 3,⟨some 31,none,.call (T 28) [T 29,T 30]⟩,Q (S 2 4 31)] (M [k 32 2 4,C 33 48 [T 32]] (M [k 34 2 4,Q (S 2 4 34),d 1 5 0] .ret))))))))),[.cell 4 2 true,.cell 5 1 false]⟩
def Yj:=ck 17 a17 Tryz.f17
def CN:AF:=⟨34,(M [O 6 (.ak (.av (.nil 5))),z 7 0,z 8 0] (.seq (M [V 9 0,O 10 (.build [.nil 5,z0] [(0,1,(T 9))]),C 11 51 [T 10],V 8 11] (M [V 12 8,R 13 .neq 12 0] (K 13 (M [V 14 8,O 6 (.ak (.av (.nil 5))),z 7 0,V 8 14] .ret) .skip))) (.seq (M [V 15 1,V 16 2,C 17 40 [T 15,T 16],t 18 17] (K 18 (M [O 6 (.ak (.av (.nil 5))),z 7 0,z 8 230] .ret) .skip)) (M [V 19 0,V 20 2,V 21 1,X 22 .mul 20 21,C 23 41 [T 19,T 22],V 7 23] (M [V 24 0,V 25 7,V 26 0,V 27 2,c 28 27,V 29 1,X 30 .mul 28 29,C 31 41 [T 26,T 30],O 32 (.slice 5 (T 24) (some (T 25)) (some (T 31))),V 33 7,V 6 32,V 7 33,z 8 0] .ret))))),[.tmp 6,.tmp 7,.tmp 8]⟩
def Yk:=ck 18 CN Tryz.f18
def CQ:AF:=⟨117,(M [O 2 (.ak (.av (.nil 1))),z 3 0] (M [O 4 (.ak (U 52))] (.seq (M [V 24 0,n 25 24,R 26 .gtr 25 16,V 27 26,g 28 27 0,g 29 27 4,⟨some 30,some (27,false),.call (U 53) [T 28,T 29]⟩,q 31 27 30] (K 31 (M [O 2 (.ak (.av (.nil 1))),z 3 2] .ret) .skip)) (.seq (M [V 32 0,n 33 32,z 34 0] (W 0 34 33 35 1 48 (M [i 36 1 32 34,l 37 1 36,V 6 37] (M [V 38 6,n 39 38,z 40 0] (W 2 40 39 41 3 47 (M [i 42 2 38 40,k 43 2 42,O 8 (.alloc true [.lit (.string ⟨#[]⟩),.nil 1]),Q (S 2 8 43)] (M [k 44 2 8,C 45 54 [T 44],t 46 45] (K 46 (M [O 2 (.ak (.av (.nil 1))),z 3 220] .ret) .skip)))))))) (M [C 49 55 [],V 9 49] (.seq (M [V 50 0,n 51 50,z 52 0] (W 4 52 51 53 5 115 (M [V 54 52,i 55 1 50 52,l 56 1 55,V 10 54,V 11 56] (.seq (M [V 57 2,n 58 57,R 59 .gtr 58 64] (K 59 (M [O 2 (.ak (.av (.nil 1))),z 3 2] .ret) .skip)) (M [O 12 (.ak (.av (.nil 1))),O 13 (.ak (.av (.nil 1)))] (.seq (M [V 60 2,n 61 60,z 62 0] (W 6 62 61 63 7 71 (M [i 64 1 60 62,l 65 1 64,V 15 65] (J [V 66 12,V 67 15,C 68 56 [T 67],m 69 1 68,w 70 1 16 66 69,V 12 70])))) (.seq (M [V 72 11,n 73 72,z 74 0] (W 8 74 73 75 9 83 (M [i 76 2 72 74,k 77 2 76,O 17 (.alloc true [.lit (.string ⟨#[]⟩),.nil 1]),Q (S 2 17 77)] (J [V 78 13,f 79 0 1 17,l 80 1 79,m 81 1 80,w 82 1 16 78 81,V 13 82])))) (M [V 85 12,V 86 13,C 87 57 [T 85,T 86],V 84 87,e 88 84 0,e 89 84 1,e 90 84 2,V 18 88,V 19 89,V 20 90] (.seq (M [V 91 20,R 92 .neq 91 0] (K 92 (M [V 93 20,O 2 (.ak (.av (.nil 1))),V 3 93] .ret) .skip)) (M [V 94 2,V 95 11,V 96 10,O 97 (.build [.nil 1,.nil 1,.nil 2,z0] [(0,1,(T 94)),(2,1,(T 95)),(3,1,(T 96))]),x 98 97,V 21 98] (.seq (M [V 99 18,n 100 99,z 101 0] (W 10 101 100 102 11 110 (M [i 103 1 99 101,l 104 1 103,V 23 104] (.aY [V 105 9,V 106 23,O 107 (.ext (.lookup (.int .i64) false (.lit (.nilFunc))) [T 105,T 106]),V 108 21,⟨some 109,none,.bl (T 107) [T 108]⟩])))) (J [V 111 21,o 112 111,f 113 1 1 112,l 114 1 113,V 2 114])))))))))))) (M [V 116 2,V 2 116,z 3 0] .ret))))))),[.tmp 2,.tmp 3]⟩
def Yl:=ck 19 CQ Tryz.f19
def a20:AF:=⟨66,(M [O 2 (.ak (.av (.nil 1))),O 3 (.ak (.av (.nil 1))),z 4 0] (M [O 5 (.ak (U 58))] (.seq (M [V 12 0,n 13 12,R 14 .gtr 13 1024,V 15 14,g 16 15 0,g 17 15 5,⟨some 18,some (15,false),.call (U 53) [T 16,T 17]⟩,q 19 15 18] (K 19 (M [O 2 (.ak (.av (.nil 1))),O 3 (.ak (.av (.nil 1))),z 4 2] .ret) .skip)) (M [O 6 (.ak (U 59))] (.seq (M [V 20 0,n 21 20,z 22 0] (W 0 22 21 23 1 43 (M [i 24 1 20 22,l 25 1 24,V 8 25] (M [V 26 8,n 27 26,V 28 0,O 29 (.index 1 (T 28) (Z 0)),l 30 1 29,n 31 30,X 32 .neq 27 31,V 33 32,g 34 33 8,⟨some 35,some (33,false),.call (U 56) [T 34]⟩,G 36 33 (.arith .eql (T 35) (.av (.lit (.string ⟨#[]⟩)))),q 37 33 36,V 38 37,g 39 38 8,g 40 38 6,⟨some 41,some (38,false),.call (U 60) [T 39,T 40]⟩,q 42 38 41] (K 42 (M [O 2 (.ak (.av (.nil 1))),O 3 (.ak (.av (.nil 1))),z 4 220] .ret) .skip))))) (.seq (M [V 44 0,n 45 44,z 46 0] (W 2 46 45 47 3 63 (M [V 48 46,i 49 1 44 46,l 50 1 49,V 9 48,V 10 50] (M [V 51 10,C 52 61 [T 51],V 11 52] (M [V 53 11,O 54 (.arith .neq (T 53) (.av (.lit (.string ⟨#[]⟩))))] (K 54 (J [V 55 2,V 56 11,m 57 1 56,w 58 1 16 55 57,V 59 3,V 60 9,m 61 1 60,w 62 1 8 59 61,V 2 58,V 3 62]) .skip)))))) (M [V 64 2,V 65 3,V 2 64,V 3 65,z 4 0] .ret))))))),[.tmp 2,.tmp 3,.tmp 4]⟩
def Ym:=ck 20 a20 Tryz.f20
def a21:AF:=⟨33,(M [x 3 0,y 6 false] (.seq (M [k 8 6 3,C 9 62 [T 8],t 10 9,V 11 10,g 12 11 1,⟨some 13,some (11,false),.call (U 63) [T 12]⟩,G 14 11 (.not (T 13)),q 15 11 14,V 16 15,g 17 16 2,G 18 16 (N 17),s 19 16 .gtr 18 30,q 20 16 19] (K 20 (M [y 6 false] .ret) .skip)) (.seq (M [z 7 0] (.block 0 (.loop (.seq (M [V 21 7,V 22 2,n 23 22,a 24 21 23] (K 24 .skip (.exit 0))) (.seq (.block 1 (M [V 27 2,V 28 7,i 29 1 27 28,l 30 1 29,O 31 (.dH (T 30)),R 32 .gtr 31 100] (K 32 (M [y 6 false] .ret) .skip))) (J [V 25 7,c 26 25,V 7 26])))))) (M [y 6 true] .ret)))),[.tmp 6]⟩
def c21:=ck 21 a21 Tryz.f21
def a22:AF:=⟨35,(M [z 6 0] (M [z 7 0] (M [z 8 1] (.seq (M [z 9 0] (.block 0 (.loop (.seq (M [V 10 9,V 11 2,X 12 .leq 10 11,V 13 12,H 14 13 (.ak (T 0)),H 15 13 (N 14),H 16 13 (.ak (T 9)),H 17 13 (A .add 15 16),b 18 13 .leq 17 16,p 19 13 18,V 20 19,H 21 20 (.ak (T 7)),b 22 20 .leq 21 256,p 23 20 22] (K 23 .skip (.exit 0))) (.seq (.block 1 (M [V 26 7,V 27 8,X 28 .add 26 27,V 7 28] (J [V 29 8,V 30 1,n 31 30,O 32 (.hy false (T 31) (Z 257)),X 33 .mul 29 32,V 8 33]))) (J [V 24 9,c 25 24,V 9 25])))))) (M [V 34 7,V 6 34] .ret))))),[.tmp 6]⟩
def Yn:=ck 22 a22 Tryz.f22
def a23:AF:=⟨5,(M [l 3 1 0,R 4 .neq 3 0] (K 4 (J [Q (.store 1 (T 1) (.av (.nil 3))),d 1 2 0]) .skip)),[]⟩
def yH:=ck 23 a23 Tryz.f23
def a24:AR where
 nt:=19
 ta:=5
 tb:=2
 rest:=(.seq (.region none [
   ⟨(some 6),none,(.op (.ak (.tmp 2)))⟩,
   ⟨(some 7),none,(.op (.ext (.isNil true) [(.tmp 6)]))⟩])
  (.cond (.tmp 7)
   (.seq (.region none [
    ⟨(some 9),none,(.op (.ak (.tmp 2)))⟩,
    ⟨(some 10),none,(.op (.ext (.lX 34 (.lit (.int .i64 0))) [(.tmp 9)]))⟩,
    ⟨(some 8),none,(.op (.ak (.tmp 10)))⟩,
    ⟨(some 11),none,(.op (.extract (.tmp 8) 0))⟩,
    ⟨(some 12),none,(.op (.extract (.tmp 8) 1))⟩,
    ⟨(some 3),none,(.op (.ak (.tmp 11)))⟩,
    ⟨(some 4),none,(.op (.ak (.tmp 12)))⟩])
   (.seq (.seq (.region none [
    ⟨(some 13),none,(.op (.ak (.tmp 4)))⟩,
    ⟨(some 14),none,(.op (.not (.tmp 13)))⟩])
   (.cond (.tmp 14)
    (.aY [
     ⟨(some 15),none,(.op (.ak (.tmp 2)))⟩,
     ⟨none,none,(.panic (.tmp 15))⟩])
    .skip))
   (.region none [
    ⟨(some 16),none,(.op (.ak (.tmp 0)))⟩,
    ⟨(some 17),none,(.op (.ak (.tmp 3)))⟩,
    ⟨(some 18),none,(.op (.ext .eD [(.tmp 16)]))⟩,
    ⟨none,none,(.op (.store 1 (.tmp 18) (.tmp 17)))⟩])))
   .skip))
 res:=[]
theorem yI:rR Tryz.prog 24 a24:=vY (F:=Tryz.f24) (by kernel_rfl) mixed (by kernel_rfl)
def a25:AF:=⟨27,(M [O 7 (.ak (.av (.nil 3)))] (M [k 12 6 1,l 13 1 2,l 14 1 3,V 15 0,l 16 1 4,l 17 1 5,C 18 11 [T 12,T 13,T 14,T 15,T 16,T 17],V 11 18,e 19 11 0,e 20 11 1,e 21 11 2,V 8 19,V 9 20,V 10 21] (M [V 22 10,R 23 .eql 22 0,V 24 10,C 25 26 [T 23,T 24]] (M [V 26 8,V 7 26] .ret)))),[.tmp 7]⟩
def Kg:=ck 25 a25 Tryz.f25
def a26:AF:=⟨8,(M [V 4 0,t 5 4] (K 5 (.aY [V 6 1,O 7 (.cQ 34 (T 6)),⟨none,none,.panic (T 7)⟩]) .skip)),[]⟩
def Kh:=ck 26 a26 Tryz.f26
def a27:AF:=⟨6,(M [y 2 false] (M [V 3 0,C 4 28 [T 3],t 5 4,V 2 5] .ret)),[.tmp 2]⟩
def Yo:=ck 27 a27 Tryz.f27
def a28:AF:=⟨31,(M [y 2 false] (M [V 6 0,C 7 64 [T 6],V 5 7,e 8 5 0,e 9 5 1,V 3 8,V 4 9] (M [V 10 4,R 11 .eql 10 0,V 12 11,H 13 12 (.ak (T 0)),H 14 12 (.dH (T 13)),b 15 12 .gtr 14 0,p 16 12 15,V 17 16,H 18 17 (.ak (T 0)),H 19 17 (.dH (T 18)),b 20 17 .leq 19 64,p 21 17 20,V 22 21,H 23 22 (.ak (T 3)),⟨some 24,some (22,true),.call (U 66) []⟩,H 25 22 (.index 2 (T 24) (Z 0)),r 26 22 1 1 25,h 27 22 1 26,⟨some 28,some (22,true),.call (U 65) [T 23,T 27]⟩,H 29 22 (.not (T 28)),p 30 22 29,V 2 30] .ret))),[.tmp 2]⟩
def Yp:=ck 28 a28 Tryz.f28
def a29:AF:=⟨9,(M [y 4 false] (.seq (.aY [V 5 0,V 6 1,⟨some 7,none,.bl (U 67) [T 5,T 6]⟩,R 8 .geq 7 0,V 4 8]) .ret)),[.tmp 4]⟩
def CR:=ck 29 a29 Tryz.f29
def kJ:AF:=
{nt:=13,body:=(M [O 4 (.box false (T 1)),O 5 (.box false (T 2)),O 6 (.ak (.av (.lit (.nilFunc))))] (M ([V 9 0,O 10 (.ext (.mX 31 1 16) [T 9]),O 7 (.alloc false [.nil 1]),Q (S 1 7 10)]) (M ([O 8 (.alloc false [.lit (.nilFunc)])]) (M ([O 11 (.func (.func 68) [] [T 7,T 4,T 8]),Q (S 1 8 11)]) (M ([O 12 (.func (.func 69) [] [T 8,T 5]),V 6 12]) .ret))))),res:=[.tmp 6]}
theorem t_:g' Tryz.prog 30 kJ:=jU kI (F:=Tryz.f30) (by kernel_rfl) mixed (by kernel_rfl)
def a32:AF:=⟨45,(M [O 4 (.ak (.av (.nil 3)))] (.seq (M [V 8 1,n 9 8,z 10 0] (W 0 10 9 11 1 42 (M [V 12 10,i 13 1 8 10,l 14 1 13,V 5 12,V 6 14] (.seq (M [V 15 5,R 16 .eql 15 0] (K 16 (M [V 17 6,V 4 17] (.exit 1)) .skip)) (M [z 7 0] (.seq (.block 2 (.loop (.seq (.seq (.region (some [[],[],[1],[],[3],[1,2,3,4],[0,1,2,3,4,5],[0,1,2,3,4,5,6],[0,1,2,3,4,5,6,7],[0,1,2,3,4,5,6,7],[0,1,2,3,4,5,6,7],[0,1,2,3,4,5,6,7,9,10],[0,1,2,3,4,5,6,7,9,10,11],[0,1,2,3,4,5,6,7],[0,1,2,3,4,5,6,7],[0,1,2,3,4,5,6,7,13,14],[0,1,2,3,4,5,6,7,13,14,15],[0,1,2,3,4,5,6,7,8,9,10,11,12,13,14,15,16],[0,1,2,3,4,5,6,7,8,9,10,11,12,13,14,15,16,17]]) [V 18 7,V 19 4,n 20 19,V 21 6,n 22 21,O 23 (.hy false (T 20) (T 22)),a 24 18 23,V 25 24,H 26 25 (.ak (T 0)),H 27 25 (.ak (T 4)),H 28 25 (.ak (T 7)),H 29 25 (I 3 27 28),H 30 25 (L 3 true 29),H 31 25 (.ak (T 6)),H 32 25 (.ak (T 7)),H 33 25 (I 3 31 32),H 34 25 (L 3 true 33),⟨some 35,some (25,true),.call (T 26) [T 30,T 34]⟩,p 36 25 35]) (K 36 .skip (.exit 2))) (.block 3 (J [V 37 7,c 38 37,V 7 38]))))) (J [V 39 4,V 40 7,O 41 (.slice 3 (T 39) none (some (T 40))),V 4 41]))))))) (M [V 43 4,C 44 70 [T 43],V 4 44] .ret))),[.tmp 4]⟩
def Yq:=ck 32 a32 Tryz.f32
def a33:AF:=⟨24,(M [x 2 0,x 3 1,y 4 false] (M [f 5 0 1 2,l 6 1 5,f 7 0 1 3,l 8 1 7,X 9 .eql 6 8,V 10 9,r 11 10 2 1 2,h 12 10 1 11,r 13 10 2 1 3,h 14 10 1 13,H 15 10 (A .eql 12 14),p 16 10 15,V 17 16,r 18 17 1 1 2,h 19 17 1 18,r 20 17 1 1 3,h 21 17 1 20,⟨some 22,some (17,true),.call (U 71) [T 19,T 21]⟩,p 23 17 22,V 4 23] .ret)),[.tmp 4]⟩
def Yr:=ck 33 a33 Tryz.f33
def CS:AF:=⟨109,(M [x 6 0,O 9 (.box false (T 3)),O 12 (.alloc false [.nil 6]),z 13 0] (.seq (M [k 24 6 6,C 25 72 [T 24],V 13 25] (M [V 26 13,R 27 .neq 26 0] (K 27 (M [V 28 13,Q (.store 1 (T 12) (.av (.nil 6))),V 13 28] .ret) .skip))) (M [V 30 1,V 31 2,V 32 4,V 33 5,C 34 73 [T 30,T 31,T 32,T 33],V 29 34,e 35 29 0,e 36 29 1,V 14 35,V 13 36] (.seq (M [V 37 13,R 38 .neq 37 0] (K 38 (M [V 39 13,Q (.store 1 (T 12) (.av (.nil 6))),V 13 39] .ret) .skip)) (.seq (M [l 40 1 9,n 41 40,R 42 .gtr 41 16] (K 42 (M [Q (.store 1 (T 12) (.av (.nil 6))),z 13 2] .ret) .skip)) (M [k 43 6 6,O 44 (.ext .jl []),l 45 1 9,O 46 (.build [.lit (.string ⟨#[]⟩),.nil 1,.lit (.string ⟨#[]⟩),z0,.nil 5,.nil 5,.lit (.map none),.nil 1] [(0,6,(T 43)),(6,1,(T 44)),(7,1,(T 45))]),O 15 (.alloc true [.lit (.string ⟨#[]⟩),.nil 1,.lit (.string ⟨#[]⟩),z0,.nil 5,.nil 5,.lit (.map none),.nil 1]),Q (S 8 15 46)] (.seq (M [V 47 14,n 48 47,z 49 0] (W 0 49 48 50 1 59 (M [i 51 8 47 49,k 52 8 51,O 17 (.alloc true [z0,z0,z0,z0,.nil 1,.nil 1,.lit (.string ⟨#[]⟩),.lit (.bool false)]),Q (S 8 17 52)] (.region (some [[],[0],[],[2],[2,3],[],[0,1,2,3,4,5]]) [f 53 6 1 15,l 54 1 53,f 55 4 1 17,l 56 1 55,⟨some 57,none,.call (U 74) [T 56,.av (.lit (.string ⟨#[32]⟩))]⟩,k 58 8 17,Q (.ext (.insert (.str)) [T 54,T 57,T 58])])))) (.seq (M [l 60 1 9,n 61 60,z 62 0] (W 2 62 61 63 3 79 (M [V 64 62,i 65 1 60 62,l 66 1 65,V 18 64,V 19 66] (.seq (M [V 67 19,C 68 28 [T 67],t 69 68] (K 69 (M [Q (.store 1 (T 12) (.av (.nil 6))),z 13 280] .ret) .skip)) (J [l 70 1 12,V 71 18,V 72 18,c 73 72,V 74 19,O 75 (.ext (.lY 1) [T 74]),O 76 (.build [z0,z0,z0,z0,.nil 1,z0] [(0,1,(Z (-1))),(1,1,(T 71)),(2,1,(T 73)),(4,1,(T 75)),(5,1,(Z (-1)))]),m 77 6 76,w 78 6 64 70 77,Q (S 1 12 78)]))))) (.seq (M [l 80 1 9,n 81 80,z 82 0] (W 4 82 81 83 5 104 (M [V 84 82,O 20 (.alloc false [z0]),Q (S 1 20 84)] (M [l 85 1 12,n 86 85,O 21 (.alloc false [z0]),Q (S 1 21 86)] (M [O 87 (.func (.func 75) [] [T 15,T 20]),O 88 (.func (.func 77) [] [T 15,T 20]),O 89 (.func (.func 79) [] [T 12,T 21,T 15,T 20,T 9]),O 90 (.func (.func 81) [] [T 15,T 20]),O 91 (.func (.func 82) [] [T 15,T 20]),O 92 (.func (.func 83) [] [T 15,T 20]),O 93 (.ext (.pM 1) [T 87,T 88,T 89,T 90,T 91,T 92]),O 94 (.ext .iO [T 93]),z 95 0] (W 6 95 94 96 7 103 (M [O 97 (.ext (.fG 1) [T 93,T 95]),l 98 1 97,V 23 98] (.oC [[],[],[1],[0,1,2],[0,1,2,3]] 3 3 [l 99 1 12,V 100 23,⟨some 101,none,.bl (T 100) []⟩,⟨some 102,none,.bl (U 84) [T 99,T 101]⟩,Q (S 1 12 102)])))))))) (.seq (M [l 105 1 12,n 106 105,R 107 .gtr 106 1024] (K 107 (M [Q (.store 1 (T 12) (.av (.nil 6))),z 13 2] .ret) .skip)) (M [l 108 1 12,Q (S 1 12 108),z 13 0] .ret))))))))))),[.cell 12 1 false,.tmp 13]⟩
def Ys:=ck 34 CS Tryz.f34
def a35:AF:=⟨26,(M [x 3 0,O 6 (.alloc true [z0,z0,z0,z0,.nil 5]),z 7 0,y 8 false,O 9 (.alloc false [z0])] (.seq (.aY [⟨none,none,.defer (U 85) [T 9]⟩]) (.seq (.p' [[],[],[],[0,1,2],[],[4],[],[4,5,6],[0,1,2,3,4,5,6,7],[],[0,1,2,3,4,5,6,7,8,9]] 9 [k 11 6 3,V 12 1,V 13 2,C 14 86 [T 11,T 12,T 13],f 15 3 1 3,l 16 1 15,V 17 2,O 18 (.build [z0,z0,z0] [(0,1,(T 16)),(1,1,(Z 0)),(2,1,(T 17))]),⟨some 19,none,.bl (U 87) [T 14,T 18]⟩,O 10 (.alloc true [.lit (.bool false),z0,z0,z0,z0,z0,.nil 5,z0]),Q (S 8 10 19)]) (.seq (.region (some [[],[0],[],[2],[],[4],[0,1],[0,1,2,3,6],[0,1,2,3,4,5,6,7],[0,1,2,3,4,5,6,7,8]]) [O 20 (F 2 5 true 10),k 21 5 20,f 22 1 1 10,l 23 1 22,f 24 0 1 10,l 25 1 24,Q (S 5 6 21),V 7 23,V 8 25,d 1 9 0]) .ret)))),[.cell 6 5 true,.tmp 7,.tmp 8,.cell 9 1 false]⟩
def Yt:=ck 35 a35 Tryz.f35
def a36:AF:=⟨5,(M [O 2 (.ak (.av (.nil 3)))] (M [V 3 0,C 4 88 [.av (.nil 3),T 3],V 2 4] .ret)),[.tmp 2]⟩
def Yu:=ck 36 a36 Tryz.f36
def a37:AF:=⟨8,(M [j 3 0,j 4 1,j 5 2,O 6 (.ak (.av (.lit (.nilFunc))))] (M [O 7 (.func (.func 89) [] [T 4,T 3,T 5]),V 6 7] .ret)),[.tmp 6]⟩
def Yv:=ck 37 a37 Tryz.f37
def CT:AF:=⟨27,(M [y 4 false] (.seq (M [V 6 0,n 7 6,V 8 1,n 9 8,X 10 .neq 7 9] (K 10 (M [y 4 false] .ret) .skip)) (.seq (M [z 5 0] (.block 0 (.loop (.seq (M [V 11 5,V 12 0,n 13 12,a 14 11 13] (K 14 .skip (.exit 0))) (.seq (.block 1 (.seq (.region (some [[],[],[0,1],[0,1,2],[],[],[4,5],[4,5,6],[0,1,2,3,4,5,6,7],[0,1,2,3,4,5,6,7,8]]) [V 17 0,V 18 5,i 19 3 17 18,k 20 3 19,V 21 1,V 22 5,i 23 3 21 22,k 24 3 23,C 25 97 [T 20,T 24],t 26 25]) (K 26 (M [y 4 false] .ret) .skip))) (J [V 15 5,c 16 15,V 5 16])))))) (M [y 4 true] .ret)))),[.tmp 4]⟩
def Yw:=ck 38 CT Tryz.f38
def CU:AF:=⟨37,(M [x 3 0,x 4 1,O 6 (.alloc false [z0]),O 7 (.alloc false [z0])] (.seq (M [k 11 2 3,k 12 1 4,V 13 2,C 14 43 [T 11,T 12,T 13],Q (S 1 7 14)] (M [l 15 1 7,R 16 .neq 15 0] (K 16 (.seq (.region (some [[],[],[0,1]]) [l 17 1 7,d 1 6 0,Q (S 1 7 17)]) .ret) .skip))) (M [k 18 1 4,V 19 2,C 20 45 [T 18,T 19],O 8 (.alloc false [.lit (.nilFunc)]),Q (S 1 8 20)] (.seq (M [f 21 0 1 3,l 22 1 21,C 23 98 [T 22]] (.block 0 (.range (T 23) [24,25] (M [V 9 24] (J [O 10 (.alloc true [.lit (.string ⟨#[]⟩),z0,z0,z0,.nil 1]),Q (S 5 10 25)])) (.block 1 (M [V 26 9,f 27 1 1 3,l 28 1 27,a 29 26 28,V 30 29,u 31 30 1 8,G 32 30 (L 5 true 10),⟨some 33,some (30,false),.call (T 31) [T 32]⟩,q 34 30 33] (K 34 (M [V 35 9,c 36 35,Q (S 1 6 36),d 1 7 0] .ret) .skip)))))) (M [d 1 6 0,d 1 7 0] .ret))))),[.cell 6 1 false,.cell 7 1 false]⟩
def Yx:=ck 39 CU Tryz.f39
def a40:AF:=⟨22,(M [y 4 false] (M [V 5 0,O 6 (.arith .leq (Z 1) (T 5)),V 7 6,H 8 7 (.ak (T 0)),b 9 7 .leq 8 1073741824,p 10 7 9,V 11 10,H 12 11 (.ak (T 1)),H 13 11 (.arith .leq (Z 0) (T 12)),p 14 11 13,V 15 14,H 16 15 (.ak (T 1)),H 17 15 (.ak (T 0)),H 18 15 (.arith .quo (Z 1099511627776) (T 17)),b 19 15 .sub 18 1,H 20 15 (A .leq 16 19),p 21 15 20,V 4 21] .ret)),[.tmp 4]⟩
def Yy:=ck 40 a40 Tryz.f40
def a41:AF:=⟨8,(M [O 3 (.box false (T 1)),z 4 0] (M [V 5 0,O 6 (.func (.func 100) [] [T 3]),C 7 99 [T 5,T 6],V 4 7] .ret)),[.tmp 4]⟩
def Yz:=ck 41 a41 Tryz.f41
def CV:AF:=⟨34,(M [l 8 1 1,n 9 8,z 10 0] (W 0 10 9 11 1 33 (M [i 12 2 8 10,k 13 2 12,O 4 (.alloc true [.lit (.bool false),.lit (.nilFunc)]),Q (S 2 4 13)] (M [f 15 1 1 4,l 16 1 15,⟨some 17,none,.call (T 16) []⟩,V 14 17,e 18 14 0,e 19 14 1,e 20 14 2,V 5 18,V 6 19,V 7 20] (.seq (M [V 21 6,t 22 21,V 23 22,v 24 23 0 1 4,u 25 23 1 24,G 26 23 (.not (T 25)),q 27 23 26] (K 27 (J [z 5 (-1)]) .skip)) (.seq (.aY [V 28 0,V 29 5,V 30 7,⟨some 31,none,.hC (T 28) [T 29,T 30]⟩,t 32 31]) (K 32 .ret .skip))))))),[]⟩
def YA:=ck 42 CV Tryz.f42
def CW:AF:=⟨28,(M [x 3 0,x 4 1,z 6 0] (.seq (M [k 7 2 3,C 8 51 [T 7],V 6 8] (M [V 9 6,R 10 .neq 9 0] (K 10 (M [V 11 6,V 6 11] .ret) .skip))) (.seq (.block 0 (M [f 13 0 1 4,l 14 1 13,R 15 .lss 14 0,V 16 15,v 17 16 0 1 4,u 18 16 1 17,s 19 16 .gtr 18 1073741824,q 20 16 19,V 12 20] (K 12 (M [z 6 190] .ret) (M [V 22 2,R 23 .lss 22 0,V 24 23,g 25 24 2,s 26 24 .geq 25 1099511627776,q 27 24 26,V 21 27] (K 21 (M [z 6 1] .ret) .skip))))) (M [z 6 0] .ret)))),[.tmp 6]⟩
def YB:=ck 43 CW Tryz.f43
def a44:AF:=⟨9,(M [O 0 (.alloc true [.lit (.nilFunc),.lit (.nilFunc),.lit (.nilFunc),.lit (.nilFunc)])] (M [O 3 (.build [.lit (.nilFunc)] [(0,1,(U 101))]),O 1 (.alloc true [.lit (.nilFunc)]),Q (S 1 1 3)] (M [O 4 (.build [.lit (.nilFunc)] [(0,1,(U 102))]),O 2 (.alloc true [.lit (.nilFunc)]),Q (S 1 2 4)] (M [k 5 1 1,k 6 1 2,k 7 1 1,O 8 (.build [.lit (.nilFunc),.lit (.nilFunc),.lit (.nilFunc),.lit (.nilFunc)] [(1,1,(T 5)),(2,1,(T 6)),(3,1,(T 7))]),Q (S 4 0 8)] .ret)))),[.cell 0 4 true]⟩
def YC:=ck 44 a44 Tryz.f44
def CX:AF:=⟨6,(M [x 2 0,O 3 (.box false (T 1)),O 4 (.ak (.av (.lit (.nilFunc))))] (M [O 5 (.func (.func 104) [] [T 2,T 3]),V 4 5] .ret)),[.tmp 4]⟩
def YD:=ck 45 CX Tryz.f45
def a46:AF:=⟨5,(M [l 2 1 0,R 3 .neq 2 0] (K 3 (J [O 4 (.build [.nil 5,z0] []),Q (S 2 1 4)]) .skip)),[]⟩
def mi:=ck 46 a46 Tryz.f46
def fq:AR where
 nt:=19
 ta:=5
 tb:=2
 rest:=(.seq (.region none [
   ⟨(some 6),none,(.op (.ak (.tmp 2)))⟩,
   ⟨(some 7),none,(.op (.ext (.isNil true) [(.tmp 6)]))⟩])
  (.cond (.tmp 7)
   (.seq (.region none [
    ⟨(some 9),none,(.op (.ak (.tmp 2)))⟩,
    ⟨(some 10),none,(.op (.ext (.lX 34 (.lit (.int .i64 0))) [(.tmp 9)]))⟩,
    ⟨(some 8),none,(.op (.ak (.tmp 10)))⟩,
    ⟨(some 11),none,(.op (.extract (.tmp 8) 0))⟩,
    ⟨(some 12),none,(.op (.extract (.tmp 8) 1))⟩,
    ⟨(some 3),none,(.op (.ak (.tmp 11)))⟩,
    ⟨(some 4),none,(.op (.ak (.tmp 12)))⟩])
   (.seq (.seq (.region none [
    ⟨(some 13),none,(.op (.ak (.tmp 4)))⟩,
    ⟨(some 14),none,(.op (.not (.tmp 13)))⟩])
   (.cond (.tmp 14)
    (.aY [
     ⟨(some 15),none,(.op (.ak (.tmp 2)))⟩,
     ⟨none,none,(.panic (.tmp 15))⟩])
    .skip))
   (.region none [
    ⟨(some 16),none,(.op (.ak (.tmp 0)))⟩,
    ⟨(some 17),none,(.op (.ak (.tmp 3)))⟩,
    ⟨(some 18),none,(.op (.ext .eD [(.tmp 16)]))⟩,
    ⟨none,none,(.op (.store 1 (.tmp 18) (.tmp 17)))⟩])))
   .skip))
 res:=[]
theorem kK:rR Tryz.prog 47 fq:=vY (F:=Tryz.f47) (by kernel_rfl) mixed (by kernel_rfl)
def CY:AF:=⟨41,(M [x 1 0] (M [f 5 0 1 1,l 6 1 5,n 7 6,R 8 .leq 7 4096,C 9 50 [T 8,Z 2]] (M [f 10 1 1 1,l 11 1 10,R 12 .geq 11 0,V 13 12,r 14 13 1 1 1,h 15 13 1 14,r 16 13 0 1 1,h 17 13 1 16,H 18 13 (N 17),H 19 13 (A .leq 15 18),p 20 13 19,C 21 50 [T 20,Z 170]] (M [z 2 0] (M [f 22 0 1 1,l 23 1 22,n 24 23,z 25 0] (W 0 25 24 26 1 40 (M [i 27 5 23 25,k 28 5 27,O 4 (.alloc true [.lit (.string ⟨#[]⟩),z0,z0,z0,.nil 1]),Q (S 5 4 28)] (M [k 29 5 4,C 30 105 [T 29],V 31 30,r 32 31 1 1 4,h 33 31 1 32,H 34 31 (.ak (T 2)),H 35 31 (A .geq 33 34),p 36 31 35,C 37 50 [T 36,Z 170]] (J [f 38 1 1 4,l 39 1 38,V 2 39]))))))))),[]⟩
def YE:=ck 48 CY Tryz.f48
def a49:AF:=⟨6,(M [O 0 (.ak (.av (.lit (.map none))))] (M [O 1 (.ext .jl []),O 2 (.build [.lit (.nilFunc),.lit (.nilFunc)] [(0,1,(U 106)),(1,1,(U 107))]),Q (.ext (.insert (.int .i64)) [T 1,Z 1,T 2]),O 3 (.build [.lit (.nilFunc),.lit (.nilFunc)] [(0,1,(U 109)),(1,1,(U 112))]),Q (.ext (.insert (.int .i64)) [T 1,Z 2,T 3]),O 4 (.build [.lit (.nilFunc),.lit (.nilFunc)] [(0,1,(U 113)),(1,1,(U 114))]),Q (.ext (.insert (.int .i64)) [T 1,Z 3,T 4]),V 5 1,V 0 5] .ret)),[.tmp 0]⟩
def c49:=ck 49 a49 Tryz.f49
def wk:AF:=⟨8,(M [V 4 0,t 5 4] (K 5 (.aY [V 6 1,O 7 (.cQ 34 (T 6)),⟨none,none,.panic (T 7)⟩]) .skip)),[]⟩
def Ki:=ck 50 wk Tryz.f50
def a51:AF:=⟨5,(M [x 1 0,O 2 (.alloc false [z0])] (.seq (.aY [⟨none,none,.defer (U 47) [T 2]⟩]) (M [k 3 2 1,C 4 48 [T 3]] (M [d 1 2 0] .ret)))),[.cell 2 1 false]⟩
def c51:=ck 51 a51 Tryz.f51
def yJ:AF:=⟨6,(M [y 2 false] (M [V 3 0,n 4 3,R 5 .gtr 4 64,V 2 5] .ret)),[.tmp 2]⟩
def YF:=ck 52 yJ Tryz.f52
def a53:AF:=⟨9,(M [y 4 false] (M [V 5 0,V 6 1,C 7 115 [T 5,T 6],R 8 .geq 7 0,V 4 8] .ret)),[.tmp 4]⟩
def YG:=ck 53 a53 Tryz.f53
def a54:AF:=⟨20,(M [x 1 0,y 2 false] (M [O 3 (.ak (U 116))] (.seq (.aY [f 4 0 1 1,l 5 1 4,C 6 28 [T 5],V 7 6,r 8 7 1 1 1,h 9 7 1 8,H 10 7 (N 9),b 11 7 .leq 10 4,p 12 7 11,V 13 12,r 14 13 1 1 1,h 15 13 1 14,H 16 13 (.ak (T 3)),⟨some 17,some (13,true),.bl (U 29) [T 15,T 16]⟩,H 18 13 (.not (T 17)),p 19 13 18,V 2 19]) .ret))),[.tmp 2]⟩
def YH:=ck 54 a54 Tryz.f54
def CZ:AF:=⟨6,(M [O 0 (.ak (.av (.lit (.map none))))] (M [O 1 (.ak (U 117))] (M [O 2 (.ext .jl []),V 3 1,Q (.ext (.insert (.int .i64)) [T 2,Z 1,T 3]),V 4 1,Q (.ext (.insert (.int .i64)) [T 2,Z 2,T 4]),Q (.ext (.insert (.int .i64)) [T 2,Z 3,.av (.fn (.func 121) [] [])]),Q (.ext (.insert (.int .i64)) [T 2,Z 4,.av (.fn (.func 122) [] [])]),V 5 2,V 0 5] .ret))),[.tmp 0]⟩
def YI:=ck 55 CZ Tryz.f55
def C_:AF:=⟨17,(M [O 2 (.ak (.av (.lit (.string ⟨#[]⟩))))] (.seq (M [V 5 0,n 6 5,z 7 0] (W 0 7 6 8 1 16 (M [i 9 2 5 7,k 10 2 9,O 4 (.alloc true [.lit (.string ⟨#[]⟩),.nil 1]),Q (S 2 4 10)] (M [f 11 0 1 4,l 12 1 11,O 13 (.arith .neq (T 12) (.av (.lit (.string ⟨#[]⟩))))] (K 13 (M [f 14 0 1 4,l 15 1 14,V 2 15] .ret) .skip))))) (M [O 2 (.ak (.av (.lit (.string ⟨#[]⟩))))] .ret))),[.tmp 2]⟩
def YJ:=ck 56 C_ Tryz.f56
def a57:AF:=⟨80,(M [O 4 (.ak (.av (.nil 1))),z 5 0,O 6 (.alloc false [z0])] (.seq (.aY [⟨none,none,.defer (U 123) [T 6]⟩]) (M [V 16 0,V 17 1,C 18 124 [T 16,T 17],O 7 (.alloc true [.nil 1,.nil 1]),Q (S 2 7 18)] (M [k 19 2 7,C 20 125 [T 19],C 21 126 [],V 8 20,V 9 21] (.seq (M [O 22 (.build [z0,z0] []),O 10 (.alloc true [z0,z0]),Q (S 2 10 22)] (.block 0 (.loop (.seq (.seq (.region (some [[],[],[1],[0,1,2]]) [k 23 2 10,k 24 2 7,C 25 127 [T 24],O 26 (.ext (.oi true [.int .i64,.int .i64]) [T 23,T 25])]) (K 26 .skip (.exit 0))) (.seq (.block 1 (M [V 27 9,n 28 27,z 29 0] (W 2 29 28 30 3 72 (M [V 31 29,i 32 1 27 29,l 33 1 32,V 11 31,V 12 33] (M [V 35 12,k 36 2 7,k 37 2 10,⟨some 38,none,.call (T 35) [T 36,T 37]⟩,V 34 38,e 39 34 0,e 40 34 1,e 41 34 2,O 13 (.alloc true [z0,z0]),Q (S 2 13 39),V 14 40,V 15 41] (.seq (.region (some [[],[0],[0,1],[0,1],[0,1,3],[0,1,2,3,4],[0,1,2,3,4,5],[0,1],[0,1,7],[0,1,2,3,4,5,6,7,8],[0,1,2,3,4,5,6,7,8,9],[0,1],[0,1],[0,1],[0,1,13],[0,1,12,13,14],[0,1,12,13,14,15],[0,1],[0,1,17],[0,1,12,13,14,15,16,17,18],[0,1,12,13,14,15,16,17,18,19],[0,1,11,12,13,14,15,16,17,18,19,20],[0,1,2,3,4,5,6,7,8,9,10,11,12,13,14,15,16,17,18,19,20,21],[0,1,2,3,4,5,6,7,8,9,10,11,12,13,14,15,16,17,18,19,20,21,22]]) [V 42 15,V 43 42,H 44 43 (.ak (T 8)),r 45 43 0 1 10,h 46 43 1 45,H 47 43 (I 1 44 46),h 48 43 1 47,r 49 43 1 1 10,h 50 43 1 49,H 51 43 (I 1 48 50),h 52 43 1 51,H 53 43 (.ak (T 14)),H 54 43 (.ak (T 8)),r 55 43 0 1 13,h 56 43 1 55,H 57 43 (I 1 54 56),h 58 43 1 57,r 59 43 1 1 13,h 60 43 1 59,H 61 43 (I 1 58 60),h 62 43 1 61,H 63 43 (A .add 53 62),H 64 43 (A .eql 52 63),p 65 43 64]) (K 65 (.seq (.region (some [[],[],[1],[1,2],[0,1,2,3],[],[0,1,2,3,4],[0,1,2,3,4,5,6]]) [V 66 4,V 67 11,c 68 67,m 69 1 68,w 70 1 8 66 69,k 71 2 13,V 4 70,Q (S 2 10 71)]) (.exit 2)) .skip))))))) (M [k 73 2 10] (J [O 10 (.alloc true [z0,z0]),Q (S 2 10 73)]))))))) (.seq (.region (some [[],[],[1],[1,2],[1,2,3],[1,2,3,4],[0],[0,1,2,3,4,5,6],[0,1,2,3,4,5,6,7]]) [V 74 4,V 75 8,O 76 (.index 1 (T 75) (Z 0)),l 77 1 76,O 78 (.index 1 (T 77) (Z 0)),l 79 1 78,V 4 74,V 5 79,d 1 6 0]) .ret)))))),[.tmp 4,.tmp 5,.cell 6 1 false]⟩
def YK:=ck 57 a57 Tryz.f57
def a58:AF:=⟨6,(M [y 2 false] (M [V 3 0,n 4 3,R 5 .gtr 4 16,V 2 5] .ret)),[.tmp 2]⟩
def YL:=ck 58 a58 Tryz.f58
def a59:AF:=⟨17,(M [x 1 0,y 2 false] (M [f 3 0 1 1,l 4 1 3,O 5 (.arith .neq (T 4) (.av (.lit (.string ⟨#[]⟩)))),V 6 5,v 7 6 1 1 1,u 8 6 1 7,G 9 6 (N 8),s 10 6 .gtr 9 0,q 11 6 10,V 12 11,H 13 12 (L 2 true 1),⟨some 14,some (12,true),.call (U 54) [T 13]⟩,H 15 12 (.not (T 14)),p 16 12 15,V 2 16] .ret)),[.tmp 2]⟩
def YM:=ck 59 a59 Tryz.f59
def a60:AF:=⟨9,(M [y 4 false] (M [V 5 0,V 6 1,C 7 128 [T 5,T 6],R 8 .geq 7 0,V 4 8] .ret)),[.tmp 4]⟩
def YN:=ck 60 a60 Tryz.f60
def C':AF:=⟨40,(M [O 2 (.alloc false [.lit (.string ⟨#[]⟩)])] (M [O 8 (.ext .jl []),O 3 (.alloc false [.lit (.map none)]),Q (S 1 3 8)] (.seq (M [V 9 0,C 10 129 [T 9]] (.block 0 (.range (T 10) [11,12] (M [V 4 11] (J [V 5 12])) (.block 1 (J [l 13 1 3,V 14 4,O 15 (.ext (.lookup (.str) false (z0)) [T 13,T 14]),V 16 5,X 17 .add 15 16,Q (.ext (.insert (.str)) [T 13,T 14,T 17])]))))) (M [O 6 (.alloc false [z0]),d 1 6 0] (.seq (M [V 18 0,C 19 129 [T 18]] (.block 2 (.range (T 19) [20,21] (J [V 7 20]) (.block 3 (M [V 22 7,O 23 (.arith .neq (T 22) (.av (.lit (.string ⟨#[]⟩)))),V 24 23,h 25 24 1 3,H 26 24 (.ak (T 7)),H 27 24 (.ext (.lookup (.str) false (z0)) [T 25,T 26]),h 28 24 1 6,H 29 24 (A .gtr 27 28),p 30 24 29] (K 30 (.region (some [[],[],[],[1,2],[0],[0,1,2,3,4]]) [V 31 7,l 32 1 3,V 33 7,O 34 (.ext (.lookup (.str) false (z0)) [T 32,T 33]),Q (S 1 2 31),Q (S 1 6 34)]) .skip)))))) (.seq (M [l 35 1 3,O 36 (.ext (.lookup (.str) false (z0)) [T 35,.av (.lit (.string ⟨#[]⟩))]),l 37 1 6,X 38 .gtr 36 37] (K 38 (M [Q (.store 1 (T 2) (.av (.lit (.string ⟨#[]⟩))))] .ret) .skip)) (M [l 39 1 2,Q (S 1 2 39)] .ret))))))),[.cell 2 1 false]⟩
def YO:=ck 61 C' Tryz.f61
def Da:AF:=⟨85,(M [x 1 0,y 2 false] (.seq (M [f 5 1 1 1,l 6 1 5,n 7 6,R 8 .gtr 7 40,V 9 8,v 10 9 4 1 1,u 11 9 1 10,G 12 9 (N 11),s 13 9 .gtr 12 40,g 14 9 13,r 15 14 4 1 1,h 16 14 1 15,H 17 14 (N 16),b 18 14 .leq 17 512,G 19 9 (.pick (T 14) (T 18) (Y false)),q 20 9 19,V 21 20,v 22 21 4 1 1,u 23 21 1 22,G 24 21 (N 23),s 25 21 .gtr 24 600,q 26 21 25,V 27 26,v 28 27 5 1 1,u 29 27 1 28,G 30 27 (N 29),s 31 27 .gtr 30 20,g 32 27 31,r 33 32 5 1 1,h 34 32 1 33,H 35 32 (N 34),b 36 32 .leq 35 128,G 37 27 (.pick (T 32) (T 36) (Y false)),q 38 27 37,V 39 38,v 40 39 5 1 1,u 41 39 1 40,G 42 39 (N 41),s 43 39 .gtr 42 200,q 44 39 43] (K 44 (M [y 2 false] .ret) .skip)) (.seq (M [z 3 0] (.block 0 (.loop (.seq (M [V 45 3,f 46 4 1 1,l 47 1 46,n 48 47,a 49 45 48] (K 49 .skip (.exit 0))) (.seq (.block 1 (M [f 52 4 1 1,l 53 1 52,V 54 3,i 55 5 53 54,f 56 3 1 55,l 57 1 56,n 58 57,R 59 .gtr 58 10] (K 59 (M [y 2 false] .ret) .skip))) (J [V 50 3,c 51 50,V 3 51])))))) (.seq (M [z 4 0] (.block 2 (.loop (.seq (M [V 60 4,f 61 5 1 1,l 62 1 61,n 63 62,a 64 60 63] (K 64 .skip (.exit 2))) (.seq (.block 3 (M [f 67 5 1 1,l 68 1 67,V 69 4,i 70 5 68 69,f 71 2 1 70,l 72 1 71,n 73 72,R 74 .gtr 73 10,V 75 74,v 76 75 5 1 1,u 77 75 1 76,g 78 75 4,G 79 75 (I 5 77 78),v 80 75 3 1 79,u 81 75 1 80,G 82 75 (N 81),s 83 75 .gtr 82 20,q 84 75 83] (K 84 (M [y 2 false] .ret) .skip))) (J [V 65 4,c 66 65,V 4 66])))))) (M [y 2 true] .ret))))),[.tmp 2]⟩
def YP:=ck 62 Da Tryz.f62
def a63:AF:=⟨16,(M [y 2 false] (M [V 3 0,n 4 3,R 5 .leq 4 30,V 6 5,g 7 6 0,G 8 6 (N 7),s 9 6 .gtr 8 1024,g 10 6 9,H 11 10 (.ak (T 0)),H 12 10 (N 11),b 13 10 .leq 12 1100,G 14 6 (.pick (T 10) (T 13) (Y false)),q 15 6 14,V 2 15] .ret)),[.tmp 2]⟩
def YQ:=ck 63 a63 Tryz.f63
def a64:AF:=⟨11,(M [O 2 (.alloc false [.nil 1]),O 3 (.alloc false [z0])] (.seq (.aY [O 4 (.func (.func 130) [] [T 2,T 3]),⟨none,none,.defer (T 4) []⟩]) (.seq (M [V 5 0,O 6 (.dH (T 5)),R 7 .gtr 6 4096] (K 7 (M [Q (.store 1 (T 2) (.av (.nil 1))),d 1 3 2] .ret) .skip)) (.seq (.aY [V 8 0,⟨some 9,none,.bl (U 132) [T 8]⟩,⟨some 10,none,.bl (U 131) [T 9]⟩,Q (S 1 2 10),d 1 3 0]) .ret)))),[.cell 2 1 false,.cell 3 1 false]⟩
def YR:=ck 64 a64 Tryz.f64
def wo:AF:=⟨9,(M [y 4 false] (M [V 5 0,V 6 1,C 7 133 [T 5,T 6],R 8 .geq 7 0,V 4 8] .ret)),[.tmp 4]⟩
def Kj:=ck 65 wo Tryz.f65
def a66:AF:=⟨20,(M [O 0 (.ak (.av (.nil 2)))] (M [O 1 (.build [z0,.lit (.nilFunc)] [(0,1,(Z 1)),(1,1,(U 134))]),O 2 (.build [z0,z0] [(0,1,(Z 48)),(1,1,(Z 57))]),m 3 2 2,C 4 135 [T 3],O 5 (.build [z0,.lit (.nilFunc)] [(0,1,(Z 2)),(1,1,(T 4))]),O 6 (.build [z0,z0] [(0,1,(Z 65)),(1,1,(Z 90))]),O 7 (.build [z0,z0] [(0,1,(Z 97)),(1,1,(Z 122))]),O 8 (.build [z0,z0] [(0,1,(Z 192)),(1,1,(Z 214))]),O 9 (.build [z0,z0] [(0,1,(Z 216)),(1,1,(Z 246))]),O 10 (.build [z0,z0] [(0,1,(Z 248)),(1,1,(Z 591))]),O 11 (.build [z0,z0] [(0,1,(Z 880)),(1,1,(Z 1279))]),O 12 (.eg 2 [T 6,T 7,T 8,T 9,T 10,T 11]),C 13 135 [T 12],O 14 (.build [z0,.lit (.nilFunc)] [(0,1,(Z 3)),(1,1,(T 13))]),O 15 (.build [z0,z0] [(0,1,(Z 1424)),(1,1,(Z 1983))]),m 16 2 15,C 17 135 [T 16],O 18 (.build [z0,.lit (.nilFunc)] [(0,1,(Z 4)),(1,1,(T 17))]),O 19 (.eg 2 [T 1,T 5,T 14,T 18]),V 0 19] .ret)),[.tmp 0]⟩
def YS:=ck 66 a66 Tryz.f66
def a67:AF:=⟨19,(M [z 4 0] (.seq (M [V 6 0,n 7 6,z 8 0] (W 0 8 7 9 1 18 (M [V 10 8,V 5 10] (.seq (.aY [V 11 1,V 12 0,V 13 5,i 14 1 12 13,l 15 1 14,⟨some 16,none,.bl (T 11) [T 15]⟩]) (K 16 (M [V 17 5,V 4 17] .ret) .skip))))) (M [z 4 (-1)] .ret))),[.tmp 4]⟩
def Db:=ck 67 a67 Tryz.f67
def eF:AF:=
{nt:=37,body:=(M [O 7 (.ak (Y false))] (.seq (M [V 10 0,O 11 (B .eql 10 0)] (K 11 (.seq (.aY [V 12 1,O 13 (L 1 false 2),⟨some 14,none,.hC (T 12) [T 13]⟩,V 7 14]) .ret) .skip)) (.seq (M [O 15 (L 1 false 3),O 16 (N 15),O 17 (.ak (Z 0))] (.block 0 (.loop (M [O 18 (A .lss 17 16)] (.seq (K 18 .skip (.exit 0)) (.seq (.block 1 (M [O 19 (I 1 15 17),O 20 (L 1 false 19),V 9 20] (M ([O 21 (L 1 false 2),V 22 9,O 23 (.eg 1 [T 22]),O 24 (.ext (.pushB 1 16) [T 21,T 23]),Q (S 1 2 24)]) (.seq (.seq (.aY [O 25 (L 1 false 4),V 26 0,O 27 (B .sub 26 1),V 28 1,⟨some 29,none,.bl (T 25) [T 27,T 28]⟩,O 30 (.not (T 29))]) (K 30 (M [O 7 (.ak (Y false))] .ret) .skip)) (J [O 31 (L 1 false 2),O 32 (L 1 false 2),O 33 (.ext .iO [T 32]),O 34 (B .sub 33 1),O 35 (.ext (.sliceB 1 false true) [T 31,T 34]),Q (S 1 2 35)]))))) (J [O 36 (B .add 17 1),V 17 36]))))))) (M [O 7 (.ak (Y true))] .ret)))),res:=[.tmp 7]}
theorem ju:g' Tryz.prog 68 eF:=jU kI (F:=Tryz.f68) (by kernel_rfl) mixed (by kernel_rfl)
def kM:AF:=⟨8,(.aY [l 4 1 1,l 5 1 2,V 6 0,⟨some 7,none,.bl (T 4) [T 5,T 6]⟩]),[]⟩
def ua:=ck 69 kM Tryz.f69
def Dc:AF:=⟨26,(M [y 4 false] (.seq (M [V 6 0,n 7 6,V 8 1,n 9 8,X 10 .neq 7 9] (K 10 (M [y 4 false] .ret) .skip)) (.seq (M [V 11 0,n 12 11,z 13 0] (W 0 13 12 14 1 25 (M [V 15 13,V 5 15] (.seq (.region (some [[],[],[0,1],[0,1,2],[],[],[4,5],[4,5,6],[0,1,2,3,4,5,6,7]]) [V 16 0,V 17 5,i 18 1 16 17,l 19 1 18,V 20 1,V 21 5,i 22 1 20 21,l 23 1 22,X 24 .neq 19 23]) (K 24 (M [y 4 false] .ret) .skip))))) (M [y 4 true] .ret)))),[.tmp 4]⟩
def YT:=ck 71 Dc Tryz.f71
def a72:AF:=⟨37,(M [x 1 0,z 2 0] (M [k 7 6 1,C 8 136 [T 7],V 6 8,e 9 6 0,e 10 6 1,O 3 (.alloc true [.lit (.string ⟨#[]⟩),.nil 1,.lit (.string ⟨#[]⟩),z0,.nil 5,.nil 5]),Q (S 6 3 9),V 2 10] (.seq (M [V 11 2,R 12 .neq 11 0] (K 12 (M [V 13 2,V 2 13] .ret) .skip)) (M [f 14 4 1 3,l 15 1 14,f 16 4 1 1,l 17 1 16,⟨some 18,none,.call (U 137) [T 15,T 17,.av (.fn (.func 138) [] [])]⟩,V 4 18] (M [f 19 5 1 3,l 20 1 19,f 21 5 1 1,l 22 1 21,⟨some 23,none,.call (U 139) [T 20,T 22,.av (.fn (.func 140) [] [])]⟩,V 5 23] (.seq (M [f 24 3 1 3,l 25 1 24,f 26 3 1 1,l 27 1 26,X 28 .neq 25 27,V 29 28,g 30 29 4,G 31 29 (.not (T 30)),q 32 29 31,V 33 32,g 34 33 5,G 35 33 (.not (T 34)),q 36 33 35] (K 36 (M [z 2 260] .ret) .skip)) (M [z 2 0] .ret))))))),[.tmp 2]⟩
def YU:=ck 72 a72 Tryz.f72
def Dd:AF:=
{nt:=113,body:=(M [O 8 (.ak (.av (.nil 8))),O 9 (.ak (Z 0))] (.seq (M ([V 19 0,C 20 142 [T 19],V 9 20]) (M [V 21 9,O 22 (B .neq 21 0)] (K 22 (M [V 23 9,O 8 (.ak (.av (.nil 8))),V 9 23] .ret) .skip))) (.seq (M ([V 24 1,C 25 143 [T 24],O 26 (.not (T 25)),V 27 26,G 28 27 (.ak (T 2)),⟨some 29,some (27,false),.call (U 144) [T 28]⟩,G 30 27 (.not (T 29)),O 31 (.pick (T 27) (Y true) (T 30)),V 32 31,G 33 32 (.ak (T 3)),⟨some 34,some (32,false),.call (U 144) [T 33]⟩,G 35 32 (.not (T 34)),O 36 (.pick (T 32) (Y true) (T 35))]) (K 36 (M [O 8 (.ak (.av (.nil 8))),O 9 (.ak (Z 1))] .ret) .skip)) (M ([O 37 (.ext .jl []),V 10 37]) (.seq (M [V 38 0,O 39 (N 38),O 40 (.ak (Z 0))] (.block 0 (.loop (M [O 41 (A .lss 40 39)] (.seq (K 41 .skip (.exit 0)) (.seq (.block 1 (M ([O 42 (I 8 38 40),O 43 (L 8 true 42),O 12 (.alloc true [z0,z0,z0,z0,.nil 1,.nil 1,.lit (.string ⟨#[]⟩),.lit (.bool false)]),Q (S 8 12 43)]) (.seq (M [O 44 (F 3 1 false 12),O 45 (L 1 false 44),V 46 1,O 47 (A .neq 45 46),V 48 47,G 49 48 (F 1 1 false 12),G 50 48 (L 1 false 49),G 51 48 (.ak (T 2)),G 52 48 (A .gtr 50 51),O 53 (.pick (T 48) (Y true) (T 52)),V 54 53,G 55 54 (F 2 1 false 12),G 56 54 (L 1 false 55),G 57 54 (.ak (T 3)),G 58 54 (A .gtr 56 57),O 59 (.pick (T 54) (Y true) (T 58))] (K 59 (.exit 1) .skip)) (M ([V 61 10,O 62 (L 8 true 12),C 63 145 [T 62],O 64 (.ext (.ot [.int .i64,.str] true (.agg [z0,z0,z0,z0,.nil 1,.nil 1,.lit (.string ⟨#[]⟩),.lit (.bool false)])) [T 61,T 63]),V 60 64,O 65 (E 60 0),O 66 (E 60 1),O 13 (.alloc true [z0,z0,z0,z0,.nil 1,.nil 1,.lit (.string ⟨#[]⟩),.lit (.bool false)]),Q (S 8 13 65),V 14 66]) (M [V 67 14,O 68 (.not (T 67)),V 69 68,G 70 69 (F 1 1 false 12),G 71 69 (L 1 false 70),G 72 69 (F 1 1 false 13),G 73 69 (L 1 false 72),G 74 69 (A .geq 71 73),O 75 (.pick (T 69) (Y true) (T 74))] (K 75 (.region (some [[],[],[1],[],[0,1,2,3]]) [V 76 10,O 77 (L 8 true 12),C 78 145 [T 77],O 79 (L 8 true 12),Q (.ext (.oq [.int .i64,.str]) [T 76,T 78,T 79])]) .skip)))))) (J [O 80 (B .add 40 1),V 40 80]))))))) (.seq (M [V 81 0,O 82 (N 81),O 83 (.ak (Z 0))] (.block 2 (.loop (M [O 84 (A .lss 83 82)] (.seq (K 84 .skip (.exit 2)) (.seq (.block 3 (M ([O 85 (I 8 81 83),O 86 (L 8 true 85),O 16 (.alloc true [z0,z0,z0,z0,.nil 1,.nil 1,.lit (.string ⟨#[]⟩),.lit (.bool false)]),Q (S 8 16 86)]) (M ([V 88 10,O 89 (L 8 true 16),C 90 145 [T 89],O 91 (.ext (.ot [.int .i64,.str] true (.agg [z0,z0,z0,z0,.nil 1,.nil 1,.lit (.string ⟨#[]⟩),.lit (.bool false)])) [T 88,T 90]),V 87 91,O 92 (E 87 0),O 93 (E 87 1),O 17 (.alloc true [z0,z0,z0,z0,.nil 1,.nil 1,.lit (.string ⟨#[]⟩),.lit (.bool false)]),Q (S 8 17 92),V 18 93]) (M [V 94 18,V 95 94,H 96 95 (F 0 1 false 17),H 97 95 (L 1 false 96),H 98 95 (F 0 1 false 16),H 99 95 (L 1 false 98),H 100 95 (A .eql 97 99),O 101 (.pick (T 95) (T 100) (Y false)),V 102 101,H 103 102 (F 7 1 false 16),H 104 102 (L 1 false 103),H 105 102 (.not (T 104)),O 106 (.pick (T 102) (T 105) (Y false))] (K 106 (J [V 107 8,O 108 (L 8 true 16),O 109 (.eg 8 [T 108]),O 110 (.append 8 104 (T 107) (T 109)),V 8 110]) .skip))))) (J [O 111 (B .add 83 1),V 83 111]))))))) (M [V 112 8,V 8 112,O 9 (.ak (Z 0))] .ret))))))),res:=[.tmp 8,.tmp 9]}
theorem YV:g' Tryz.prog 73 Dd:=jU kI (F:=Tryz.f73) (by kernel_rfl) mixed (by kernel_rfl)
def a75:AF:=⟨6,(M [O 2 (.ak (.av (.lit (.nilFunc))))] (.seq (.aY [k 3 8 0,l 4 1 1,⟨some 5,none,.bl (U 76) [T 3,T 4,Z 1]⟩,V 2 5]) .ret)),[.tmp 2]⟩
def YW:=ck 75 a75 Tryz.f75
def a76:AF:=⟨8,(M [x 3 0,O 4 (.box false (T 1)),O 5 (.box false (T 2)),O 6 (.ak (.av (.lit (.nilFunc))))] (M [O 7 (.func (.func 149) [] [T 4,T 5,T 3]),V 6 7] .ret)),[.tmp 6]⟩
def wq:=ck 76 a76 Tryz.f76
def a77:AF:=⟨6,(M [O 2 (.ak (.av (.lit (.nilFunc))))] (.seq (.aY [k 3 8 0,l 4 1 1,⟨some 5,none,.bl (U 78) [T 3,T 4]⟩,V 2 5]) .ret)),[.tmp 2]⟩
def YX:=ck 77 a77 Tryz.f77
def a78:AF:=⟨6,(M [x 2 0,O 3 (.box false (T 1)),O 4 (.ak (.av (.lit (.nilFunc))))] (M [O 5 (.func (.func 151) [] [T 2,T 3]),V 4 5] .ret)),[.tmp 4]⟩
def YY:=ck 78 a78 Tryz.f78
def a79:AF:=⟨19,(M [O 5 (.ak (.av (.lit (.nilFunc))))] (.seq (M [l 6 1 0,n 7 6,l 8 1 1,X 9 .eql 7 8] (K 9 (.seq (.aY [k 10 8 2,l 11 1 3,⟨some 12,none,.bl (U 80) [T 10,T 11]⟩,V 5 12]) .ret) .skip)) (.seq (.aY [k 13 8 2,l 14 1 3,l 15 1 4,n 16 15,c 17 16,⟨some 18,none,.bl (U 76) [T 13,T 14,T 17]⟩,V 5 18]) .ret))),[.tmp 5]⟩
def YZ:=ck 79 a79 Tryz.f79
def a80:AF:=⟨6,(M [x 2 0,O 3 (.box false (T 1)),O 4 (.ak (.av (.lit (.nilFunc))))] (M [O 5 (.func (.func 152) [] [T 2,T 3]),V 4 5] .ret)),[.tmp 4]⟩
def Y_:=ck 80 a80 Tryz.f80
def De:AF:=⟨6,(M [O 2 (.ak (.av (.lit (.nilFunc))))] (.seq (.aY [k 3 8 0,l 4 1 1,⟨some 5,none,.bl (U 76) [T 3,T 4,Z 2]⟩,V 2 5]) .ret)),[.tmp 2]⟩
def Y':=ck 81 De Tryz.f81
def a82:AF:=⟨6,(M [O 2 (.ak (.av (.lit (.nilFunc))))] (.seq (.aY [k 3 8 0,l 4 1 1,⟨some 5,none,.bl (U 76) [T 3,T 4,Z 3]⟩,V 2 5]) .ret)),[.tmp 2]⟩
def Za:=ck 82 a82 Tryz.f82
def Df:AF:=⟨6,(M [O 2 (.ak (.av (.lit (.nilFunc))))] (.seq (.aY [k 3 8 0,l 4 1 1,⟨some 5,none,.bl (U 76) [T 3,T 4,Z 4]⟩,V 2 5]) .ret)),[.tmp 2]⟩
def Zb:=ck 83 Df Tryz.f83
def yK:AF:=⟨13,(M [O 2 (.box false (T 0)),O 4 (.ak (.av (.nil 6)))] (.seq (M [V 6 1] (.block 0 (.range (T 6) [7] (J [O 5 (.alloc true [z0,z0,z0,z0,.nil 1,z0]),Q (S 6 5 7)]) (.block 1 (J [l 8 1 2,k 9 6 5,m 10 6 9,w 11 6 64 8 10,Q (S 1 2 11)]))))) (M [l 12 1 2,V 4 12] .ret))),[.tmp 4]⟩
def Dg:=ck 84 yK Tryz.f84
def a85:AR where
 nt:=19
 ta:=5
 tb:=2
 rest:=(.seq (.region none [
   ⟨(some 6),none,(.op (.ak (.tmp 2)))⟩,
   ⟨(some 7),none,(.op (.ext (.isNil true) [(.tmp 6)]))⟩])
  (.cond (.tmp 7)
   (.seq (.region none [
    ⟨(some 9),none,(.op (.ak (.tmp 2)))⟩,
    ⟨(some 10),none,(.op (.ext (.lX 34 (.lit (.int .i64 0))) [(.tmp 9)]))⟩,
    ⟨(some 8),none,(.op (.ak (.tmp 10)))⟩,
    ⟨(some 11),none,(.op (.extract (.tmp 8) 0))⟩,
    ⟨(some 12),none,(.op (.extract (.tmp 8) 1))⟩,
    ⟨(some 3),none,(.op (.ak (.tmp 11)))⟩,
    ⟨(some 4),none,(.op (.ak (.tmp 12)))⟩])
   (.seq (.seq (.region none [
    ⟨(some 13),none,(.op (.ak (.tmp 4)))⟩,
    ⟨(some 14),none,(.op (.not (.tmp 13)))⟩])
   (.cond (.tmp 14)
    (.aY [
     ⟨(some 15),none,(.op (.ak (.tmp 2)))⟩,
     ⟨none,none,(.panic (.tmp 15))⟩])
    .skip))
   (.region none [
    ⟨(some 16),none,(.op (.ak (.tmp 0)))⟩,
    ⟨(some 17),none,(.op (.ak (.tmp 3)))⟩,
    ⟨(some 18),none,(.op (.ext .eD [(.tmp 16)]))⟩,
    ⟨none,none,(.op (.store 1 (.tmp 18) (.tmp 17)))⟩])))
   .skip))
 res:=[]
theorem Zc:rR Tryz.prog 85 a85:=vY (F:=Tryz.f85) (by kernel_rfl) mixed (by kernel_rfl)
def Dh:AF:=⟨154,(M [x 3 0,O 6 (.ak (.av (.lit (.pointer none))))] (M [k 13 6 3,C 14 72 [T 13],V 7 14] (M [V 15 7,R 16 .eql 15 0,V 17 7,C 18 153 [T 16,T 17]] (M [V 19 2,R 20 .geq 19 1,V 21 20,H 22 21 (.ak (T 2)),b 23 21 .leq 22 16,p 24 21 23,C 25 153 [T 24,Z 1]] (M [V 26 1,n 27 26,R 28 .leq 27 16384,C 29 153 [T 28,Z 2]] (M [k 30 6 3,V 31 1,V 32 2,O 33 (.ext .jl []),O 34 (.ext .jl []),O 35 (.build [.lit (.string ⟨#[]⟩),.nil 1,.lit (.string ⟨#[]⟩),z0,.nil 5,.nil 5,.nil 6,z0,.lit (.map none),.lit (.map none)] [(0,6,(T 30)),(6,1,(T 31)),(7,1,(T 32)),(8,1,(T 33)),(9,1,(T 34))]),x 36 35,V 8 36] (M [O 9 (.ak (U 154))] (.seq (M [V 37 1,n 38 37,z 39 0] (W 0 39 38 40 1 152 (M [i 41 6 37 39,k 42 6 41,O 11 (.alloc true [z0,z0,z0,z0,.nil 1,z0]),Q (S 6 11 42)] (M [f 43 1 1 11,l 44 1 43,R 45 .geq 44 0,V 46 45,r 47 46 1 1 11,h 48 46 1 47,r 49 46 2 1 11,h 50 46 1 49,H 51 46 (A .lss 48 50),p 52 46 51,V 53 52,r 54 53 2 1 11,h 55 53 1 54,H 56 53 (.ak (T 2)),H 57 53 (A .leq 55 56),p 58 53 57,V 59 58,r 60 59 5 1 11,h 61 59 1 60,H 62 59 (.arith .geq (T 61) (Z (-1))),p 63 59 62,V 64 63,r 65 64 5 1 11,h 66 64 1 65,b 67 64 .leq 66 1048576,p 68 64 67,V 12 68] (.seq (.aY [V 69 12,V 70 69,r 71 70 4 1 11,h 72 70 1 71,H 73 70 (N 72),b 74 70 .geq 73 1,p 75 70 74,V 76 75,r 77 76 4 1 11,h 78 76 1 77,H 79 76 (N 78),b 80 76 .leq 79 4,p 81 76 80,V 82 81,r 83 82 4 1 11,h 84 82 1 83,H 85 82 (.ak (T 9)),⟨some 86,some (82,true),.bl (U 29) [T 84,T 85]⟩,H 87 82 (.not (T 86)),p 88 82 87,C 89 153 [T 88,Z 280]]) (.seq (M [f 90 0 1 11,l 91 1 90,O 92 (.arith .eql (T 91) (Z (-1)))] (K 92 (M [f 93 2 1 11,l 94 1 93,f 95 1 1 11,l 96 1 95,c 97 96,X 98 .eql 94 97,V 99 98,r 100 99 3 1 11,h 101 99 1 100,b 102 99 .eql 101 0,p 103 99 102,V 104 103,r 105 104 4 1 11,h 106 104 1 105,H 107 104 (N 106),b 108 104 .eql 107 1,p 109 104 108,C 110 153 [T 109,Z 280]] (.seq (.region (some [[],[0],[0,1],[0,1,2],[],[4],[],[6],[6,7],[6,7,8],[],[10],[6,7,8,9,10,11],[],[13],[13,14],[13,14,15],[13,14,15,16],[6,7,8,9,10,11,12,13,14,15,16,17],[0,1,2,3,4,5,6,7,8,9,10,11,12,13,14,15,16,17,18]]) [V 111 8,o 112 111,f 113 9 1 112,l 114 1 113,f 115 1 1 11,l 116 1 115,V 117 8,o 118 117,f 119 9 1 118,l 120 1 119,f 121 1 1 11,l 122 1 121,O 123 (.ext (.lookup (.int .i64) false (.nil 1)) [T 120,T 122]),f 124 4 1 11,l 125 1 124,O 126 (.index 1 (T 125) (Z 0)),l 127 1 126,m 128 1 127,w 129 1 16 123 128,Q (.ext (.insert (.int .i64)) [T 114,T 116,T 129])]) (.exit 1))) .skip)) (J [f 130 0 1 11,l 131 1 130,R 132 .geq 131 0,V 133 132,r 134 133 0 1 11,h 135 133 1 134,r 136 133 1 1 3,h 137 133 1 136,H 138 133 (N 137),H 139 133 (A .lss 135 138),p 140 133 139,V 141 140,r 142 141 3 1 11,h 143 141 1 142,b 144 141 .geq 143 0,p 145 141 144,V 146 145,r 147 146 3 1 11,h 148 146 1 147,b 149 146 .leq 148 1000,p 150 146 149,C 151 153 [T 150,Z 280]]))))))) (M [V 153 8,V 6 153] .ret))))))))),[.tmp 6]⟩
def Zd:=ck 86 Dh Tryz.f86
def a87:AF:=
{nt:=42,body:=(M ([O 3 (.box true (T 1)),O 4 (.alloc true [.lit (.bool false),z0,z0,z0,z0,z0,.nil 5,z0])]) (.seq (.seq (.region (some [[],[0],[0,1],[0,1,2],[],[0,1,2,3,4],[0,1,2,3,4,5],[0,1,2,3,4,5,6],[0,1,2,3,4,5,6],[],[0,1,2,3,4,5,6,7,9],[0,1,2,3,4,5,6,7,8,9,10]]) [V 11 0,O 12 (.ext .eD [T 11]),O 13 (F 8 1 false 12),O 14 (L 1 false 13),O 15 (L 3 true 3),O 16 (.ext (.ot [.int .i64,.int .i64,.int .i64] true (.agg [.lit (.bool false),z0,z0,z0,z0,z0,.nil 5,z0])) [T 14,T 15]),V 10 16,O 17 (E 10 0),O 18 (E 10 1),O 5 (.alloc true [.lit (.bool false),z0,z0,z0,z0,z0,.nil 5,z0]),Q (S 8 5 17),V 6 18]) (M [V 19 6] (K 19 (M [O 20 (L 8 true 5),Q (S 8 4 20)] .ret) .skip))) (M ([O 7 (.alloc true [.lit (.bool false),z0,z0,z0,z0,z0,.nil 5,z0])]) (.seq (M ([V 21 0,O 22 (.func (.func 155) [T 21] []),V 23 0,O 24 (.func (.func 156) [T 23] []),O 25 (.ext (.pM 1) [T 22,T 24]),O 26 (.ext .iO [T 25]),O 27 (.ak (Z 0))]) (.block 0 (.loop (M [O 28 (A .lss 27 26)] (.seq (K 28 .skip (.exit 0)) (.seq (.block 1 (M ([O 29 (.ext (.fG 1) [T 25,T 27]),O 30 (L 1 false 29),V 9 30]) (.aY [V 31 9,O 32 (L 3 true 3),⟨some 33,none,.bl (T 31) [T 32,T 7]⟩]))) (J [O 34 (B .add 27 1),V 27 34]))))))) (.seq (.region (some [[],[0],[0,1],[0,1,2],[],[],[0,1,2,3,4,5]]) [V 35 0,O 36 (.ext .eD [T 35]),O 37 (F 8 1 false 36),O 38 (L 1 false 37),O 39 (L 3 true 3),O 40 (L 8 true 7),Q (.ext (.oq [.int .i64,.int .i64,.int .i64]) [T 38,T 39,T 40])]) (M [O 41 (L 8 true 7),Q (S 8 4 41)] .ret)))))),res:=[.cell 4 8 true]}
theorem Ze:g' Tryz.prog 87 a87:=jU kI (F:=Tryz.f87) (by kernel_rfl) mixed (by kernel_rfl)
def Di:AF:=⟨13,(M [O 2 (.box false (T 0)),O 4 (.ak (.av (.nil 3)))] (.seq (M [V 6 1] (.block 0 (.range (T 6) [7] (J [O 5 (.alloc true [.lit (.string ⟨#[]⟩),.nil 1,z0]),Q (S 3 5 7)]) (.block 1 (J [l 8 1 2,k 9 3 5,m 10 3 9,w 11 3 48 8 10,Q (S 1 2 11)]))))) (M [l 12 1 2,V 4 12] .ret))),[.tmp 4]⟩
def Zf:=ck 88 Di Tryz.f88
def Dj:AF:=⟨12,(M [O 4 (.box false (T 0))] (M [O 5 (.alloc false [.lit (.nilFunc)])] (M [O 7 (.func (.func 90) [] [T 4]),O 6 (.alloc false [.lit (.nilFunc)]),Q (S 1 6 7)] (M [O 8 (.func (.func 94) [] [T 1,T 6,T 2,T 5]),Q (S 1 5 8)] (.aY [l 9 1 5,k 10 5 3,⟨some 11,none,.bl (T 9) [T 10,.av (.nil 0)]⟩]))))),[]⟩
def Zg:=ck 89 Dj Tryz.f89
def Kk:AF:=
{nt:=24,body:=(M [O 9 (.ak (Y false))] (M ([V 11 1,V 12 2,O 13 (.eg 1 [T 11,T 12]),C 14 91 [T 13],V 10 14]) (M ([V 15 10,O 16 (.ext (.rq 92) [T 15])]) (.seq (.mb [[],[],[],[2],[],[1,2,3,4],[0,1,2,3,4,5],[0,1,2,3,4,5,6]] 6 [O 17 (L 1 false 4),V 18 0,V 19 10,O 20 (.ext (.ru 93) [T 19]),V 21 3,O 22 (.build [.lit (.string ⟨#[]⟩),.nil 1,z0] [(0,1,(T 18)),(1,1,(T 20)),(2,1,(T 21))]),⟨some 23,none,.hC (T 17) [T 22]⟩,V 9 23]) .ret)))),res:=[.tmp 9]}
theorem Zh:g' Tryz.prog 90 Kk:=jU kI (F:=Tryz.f90) (by kernel_rfl) mixed (by kernel_rfl)
def a91:AF:=
{nt:=36,body:=(M [O 2 (.ak (.av (.nil 1)))] (M [O 3 (.ak (Z 0))] (.seq (M [V 9 0,O 10 (N 9),O 11 (.ak (Z 0))] (.block 0 (.loop (M [O 12 (A .lss 11 10)] (.seq (K 12 .skip (.exit 0)) (.seq (.block 1 (M [O 13 (I 1 9 11),O 14 (L 1 false 13),V 5 14] (M [V 15 3,V 16 5,O 17 (N 16),O 18 (A .add 15 17),V 3 18] (M [V 19 3,O 20 (B .lss 19 0)] (K 20 (.aY [O 21 (.cQ 9 (.av (.lit (.string ⟨#[108,101,110,32,111,117,116,32,111,102,32,114,97,110,103,101]⟩)))),⟨none,none,.panic (T 21)⟩]) .skip))))) (J [O 22 (B .add 11 1),V 11 22]))))))) (M ([V 23 3,C 24 157 [.av (.nil 1),T 23],V 6 24]) (.seq (M [V 25 0,O 26 (N 25),O 27 (.ak (Z 0))] (.block 2 (.loop (M [O 28 (A .lss 27 26)] (.seq (K 28 .skip (.exit 2)) (.seq (.block 3 (M [O 29 (I 1 25 27),O 30 (L 1 false 29),V 8 30] (J [V 31 6,V 32 8,O 33 (.ext (.pushB 1 8) [T 31,T 32]),V 6 33]))) (J [O 34 (B .add 27 1),V 27 34]))))))) (M [V 35 6,V 2 35] .ret)))))),res:=[.tmp 2]}
theorem Zi:g' Tryz.prog 91 a91:=jU kI (F:=Tryz.f91) (by kernel_rfl) mixed (by kernel_rfl)
def Dk:AF:=⟨128,(M [x 6 0,y 8 false] (.seq (M [f 20 0 1 6,l 21 1 20,R 22 .lss 21 0] (K 22 (M [l 23 1 2,f 24 1 1 6,l 25 1 24,i 26 6 23 25,k 27 6 26,O 9 (.alloc true [z0,z0,z0,z0,.nil 1,z0]),Q (S 6 9 27)] (.seq (M [f 28 4 1 9,l 29 1 28,n 30 29,z 31 0] (W 0 31 30 32 1 47 (M [i 33 1 29 31,l 34 1 33,V 11 34] (.seq (.mb [[],[],[],[2],[],[4],[2,3,4,5],[],[],[8],[0,1,2,3,4,5,6,7,8,9],[0,1,2,3,4,5,6,7,8,9,10]] 10 [l 35 1 3,V 36 11,f 37 1 1 9,l 38 1 37,f 39 2 1 9,l 40 1 39,C 41 95 [T 38,T 40],V 42 1,f 43 5 1 9,l 44 1 43,⟨some 45,none,.bl (T 35) [T 36,T 41,T 42,T 44]⟩,t 46 45]) (K 46 (M [y 8 false] .ret) .skip))))) (M [y 8 true] .ret))) .skip)) (M [f 48 5 1 4,l 49 1 48,f 50 0 1 6,l 51 1 50,i 52 5 49 51,k 53 5 52,O 12 (.alloc true [.lit (.string ⟨#[]⟩),z0,.nil 3,.nil 2,z0]),Q (S 5 12 53)] (M [V 54 1,V 55 1,n 56 55,V 57 1,n 58 57,O 59 (.slice3 1 (T 54) none (T 56) (T 58)),O 13 (.alloc false [.nil 1]),Q (S 1 13 59)] (.seq (M [k 60 5 12,k 61 5 6,C 62 96 [T 60,T 61]] (.block 2 (.range (T 62) [63] (J [V 14 63]) (.block 3 (J [l 64 1 13,V 65 14,m 66 1 65,w 67 1 8 64 66,Q (S 1 13 67)]))))) (M [O 68 (.ext .jl []),V 15 68] (.seq (M [f 69 2 1 12,l 70 1 69,n 71 70,z 72 0] (W 4 72 71 73 5 88 (M [V 74 72,i 75 3 70 72,k 76 3 75,O 17 (.alloc true [.lit (.string ⟨#[]⟩),z0,.lit (.string ⟨#[]⟩)]),V 16 74,Q (S 3 17 76)] (M [f 77 2 1 17,l 78 1 77,O 79 (.arith .eql (T 78) (.av (.lit (.string ⟨#[]⟩))))] (K 79 (J [V 80 15,V 81 16,f 82 4 1 6,l 83 1 82,V 84 15,O 85 (.ext .pN [T 84]),i 86 5 83 85,k 87 5 86,Q (.ext (.insert (.int .i64)) [T 80,T 81,T 87])]) .skip))))) (.seq (M [f 89 3 1 12,l 90 1 89,n 91 90,z 92 0] (W 6 92 91 93 7 127 (M [i 94 2 90 92,k 95 2 94,O 19 (.alloc true [z0,.lit (.string ⟨#[]⟩)]),Q (S 2 19 95)] (.seq (.oC [[],[0],[0,1],[0,1,2],[0,1,2,3],[0,1,2,3],[0,1,2,3,5],[0,1,2,3],[0,1,2,3,7],[0,1,2,3],[0,1,2,3,9],[0,1,2,3,7,8,9,10],[0,1,2,3],[0,1,2,3,4,5,6,7,8,9,10,11,12],[0,1,2,3,4,5,6,7,8,9,10,11,12,13],[0,1,2,3,4,5,6,7,8,9,10,11,12,13,14],[0,1,2,3,4,5,6,7,8,9,10,11,12,13,14,15],[0,1,2,3,4,5,6,7,8,9,10,11,12,13,14,15,16],[0,1,2,3,4,5,6,7,8,9,10,11,12,13,14,15,16,17],[0,1,2,3,4,5,6,7,8,9,10,11,12,13,14,15,16,17,18],[0,1,2,3,4,5,6,7,8,9,10,11,12,13,14,15,16,17,18,19],[0,1,2,3,4,5,6,7,8,9,10,11,12,13,14,15,16,17,18,19,20],[0,1,2,3,4,5,6,7,8,9,10,11,12,13,14,15,16,17,18,19,20],[0,1,2,3,4,5,6,7,8,9,10,11,12,13,14,15,16,17,18,19,20],[0,1,2,3,4,5,6,7,8,9,10,11,12,13,14,15,16,17,18,19,20,23],[0,1,2,3,4,5,6,7,8,9,10,11,12,13,14,15,16,17,18,19,20,22,23,24],[0,1,2,3,4,5,6,7,8,9,10,11,12,13,14,15,16,17,18,19,20],[0,1,2,3,4,5,6,7,8,9,10,11,12,13,14,15,16,17,18,19,20,21,22,23,24,25,26],[0,1,2,3,4,5,6,7,8,9,10,11,12,13,14,15,16,17,18,19,20,21,22,23,24,25,26,27],[0,1,2,3,4,5,6,7,8,9,10,11,12,13,14,15,16,17,18,19,20,21,22,23,24,25,26,27,28],[0,1,2,3,4,5,6,7,8,9,10,11,12,13,14,15,16,17,18,19,20,21,22,23,24,25,26,27,28,29]] 14 27 [f 96 1 1 19,l 97 1 96,O 98 (.arith .neq (T 97) (.av (.lit (.string ⟨#[]⟩)))),V 99 98,h 100 99 1 3,r 101 99 1 1 19,h 102 99 1 101,r 103 99 2 1 6,h 104 99 1 103,r 105 99 3 1 6,h 106 99 1 105,⟨some 107,some (99,true),.call (U 95) [T 104,T 106]⟩,H 108 99 (.ak (T 1)),⟨some 109,some (99,true),.bl (T 100) [T 102,T 107,T 108,(Z (-1))]⟩,H 110 99 (.not (T 109)),p 111 99 110,V 112 111,v 113 112 1 1 19,u 114 112 1 113,G 115 112 (.arith .eql (T 114) (.av (.lit (.string ⟨#[]⟩)))),g 116 112 115,h 117 116 1 5,H 118 116 (.ak (T 15)),r 119 116 0 1 19,h 120 116 1 119,H 121 116 (.ext (.lookup (.int .i64) false (.agg [z0,z0,z0,z0,.nil 5])) [T 118,T 120]),h 122 116 1 13,⟨some 123,some (116,true),.bl (T 117) [T 121,T 122]⟩,H 124 116 (.not (T 123)),G 125 112 (.pick (T 116) (T 124) (Y false)),q 126 112 125]) (K 126 (M [y 8 false] .ret) .skip))))) (M [y 8 true] .ret))))))))),[.tmp 8]⟩
def Kl:=ck 94 Dk Tryz.f94
def Dl:AF:=⟨17,(M [O 4 (.ak (.av (.nil 1)))] (.seq (M [V 6 0,V 5 6] (.block 0 (.loop (.seq (M [V 7 5,V 8 1,a 9 7 8] (K 9 .skip (.exit 0))) (.seq (.block 1 (J [V 12 4,V 13 5,m 14 1 13,w 15 1 8 12 14,V 4 15])) (J [V 10 5,c 11 10,V 5 11])))))) (M [V 16 4,V 4 16] .ret))),[.tmp 4]⟩
def Zj:=ck 95 Dl Tryz.f95
def Dm:AF:=⟨6,(M [j 2 0,j 3 1,O 4 (.ak (.av (.lit (.nilFunc))))] (M [O 5 (.func (.func 160) [] [T 3,T 2]),V 4 5] .ret)),[.tmp 4]⟩
def Zk:=ck 96 Dm Tryz.f96
def Dn:AF:=⟨24,(M [x 2 0,x 3 1,y 4 false] (M [f 5 0 1 2,l 6 1 5,f 7 0 1 3,l 8 1 7,X 9 .eql 6 8,V 10 9,r 11 10 2 1 2,h 12 10 1 11,r 13 10 2 1 3,h 14 10 1 13,H 15 10 (A .eql 12 14),p 16 10 15,V 17 16,r 18 17 1 1 2,h 19 17 1 18,r 20 17 1 1 3,h 21 17 1 20,⟨some 22,some (17,true),.call (U 161) [T 19,T 21]⟩,p 23 17 22,V 4 23] .ret)),[.tmp 4]⟩
def Zl:=ck 97 Dn Tryz.f97
def Dp:AF:=⟨5,(M [O 2 (.ak (.av (.lit (.nilFunc))))] (M [V 3 0,C 4 162 [T 3],V 2 4] .ret)),[.tmp 2]⟩
def Zm:=ck 98 Dp Tryz.f98
def Dq:AF:=⟨9,(M [O 2 (.box false (T 0)),O 3 (.box false (T 1)),z 4 0] (M [l 5 1 2,n 6 5,O 7 (.func (.func 164) [] [T 3,T 2]),C 8 163 [T 6,T 7],V 4 8] .ret)),[.tmp 4]⟩
def Zn:=ck 99 Dq Tryz.f99
def Ds:AF:=⟨8,(M [x 2 0,y 3 false] (M [f 4 1 1 2,l 5 1 4,l 6 1 1,X 7 .geq 5 6,V 3 7] .ret)),[.tmp 3]⟩
def Zo:=ck 100 Ds Tryz.f100
def Dt:AF:=⟨7,(M [x 3 0,x 4 1,y 6 false] (M [y 6 true] .ret)),[.tmp 6]⟩
def Zp:=ck 101 Dt Tryz.f101
def Du:AF:=⟨22,(M [x 3 0,x 4 1,y 6 false] (M [f 7 0 1 3,l 8 1 7,f 9 1 1 4,l 10 1 9,O 11 (.slice 5 (T 8) (some (T 10)) none),V 12 2,C 13 103 [T 11,T 12],t 14 13,V 15 14,r 16 15 3 1 4,h 17 15 1 16,H 18 15 (.ak (T 2)),⟨some 19,some (15,true),.call (U 103) [T 17,T 18]⟩,H 20 15 (.not (T 19)),p 21 15 20,V 6 21] .ret)),[.tmp 6]⟩
def Zq:=ck 102 Du Tryz.f102
def Dv:AF:=⟨9,(M [y 4 false] (M [V 5 0,V 6 1,C 7 165 [T 5,T 6],R 8 .geq 7 0,V 4 8] .ret)),[.tmp 4]⟩
def Zr:=ck 103 Dv Tryz.f103
def Dw:AF:=⟨12,(M [x 3 0,y 4 false] (M [f 5 2 1 3,l 6 1 5,f 7 0 1 1,l 8 1 7,X 9 .add 6 8,l 10 1 2,X 11 .leq 9 10,V 4 11] .ret)),[.tmp 4]⟩
def Zs:=ck 104 Dw Tryz.f104
def a105:AF:=⟨54,(M [x 1 0,y 2 false] (M [f 6 0 1 1,l 7 1 6,m 8 1 7,O 3 (.alloc false [.nil 1]),Q (S 1 3 8)] (M [O 9 (.func (.func 166) [] [T 3]),V 4 9] (M [f 10 1 1 1,l 11 1 10,R 12 .geq 11 0,V 13 12,r 14 13 1 1 1,h 15 13 1 14,r 16 13 2 1 1,h 17 13 1 16,H 18 13 (A .lss 15 17),p 19 13 18,V 20 19,r 21 20 2 1 1,h 22 20 1 21,b 23 20 .lss 22 1099511627775,p 24 20 23,V 5 24] (.seq (.aY [V 25 5,V 26 25,r 27 26 0 1 1,h 28 26 1 27,⟨some 29,some (26,true),.call (U 28) [T 28]⟩,p 30 26 29,V 31 30,r 32 31 3 1 1,h 33 31 1 32,b 34 31 .geq 33 0,p 35 31 34,V 36 35,r 37 36 3 1 1,h 38 36 1 37,b 39 36 .lss 38 64,p 40 36 39,V 41 40,r 42 41 4 1 1,h 43 41 1 42,H 44 41 (N 43),b 45 41 .leq 44 4,p 46 41 45,V 47 46,r 48 47 4 1 1,h 49 47 1 48,H 50 47 (.ak (T 4)),⟨some 51,some (47,true),.bl (U 29) [T 49,T 50]⟩,H 52 47 (.not (T 51)),p 53 47 52,V 2 53]) .ret))))),[.tmp 2]⟩
def Zt:=ck 105 a105 Tryz.f105
def Dx:AF:=⟨25,(M [x 2 0,x 3 1,y 4 false] (M [f 5 1 1 3,l 6 1 5,R 7 .eql 6 0,V 8 7,r 9 8 2 1 3,h 10 8 1 9,b 11 8 .eql 10 0,p 12 8 11,V 13 12,r 14 13 3 1 3,h 15 13 1 14,H 16 13 (N 15),b 17 13 .gtr 16 0,p 18 13 17,V 19 18,r 20 19 3 1 3,h 21 19 1 20,H 22 19 (N 21),b 23 19 .leq 22 64,p 24 19 23,V 4 24] .ret)),[.tmp 4]⟩
def Zu:=ck 106 Dx Tryz.f106
def a107:AF:=⟨13,(M [x 2 0,x 3 1,O 4 (.alloc true [.nil 5,z0])] (M [f 5 0 1 2,l 6 1 5,f 7 3 1 3,l 8 1 7,O 9 (.eg 1 [T 6,T 8]),C 10 108 [T 9],f 11 0 1 2,Q (S 1 11 10)] (M [k 12 2 2,Q (S 2 4 12)] .ret))),[.cell 4 2 true]⟩
def Zv:=ck 107 a107 Tryz.f107
def Dy:AF:=⟨5,(M [O 2 (.ak (.av (.nil 5)))] (M [V 3 0,C 4 168 [T 3],V 2 4] .ret)),[.tmp 2]⟩
def Zw:=ck 108 Dy Tryz.f108
def a109:AF:=⟨55,(M [x 2 0,x 3 1,y 4 false] (M [f 6 0 1 2,l 7 1 6,n 8 7,V 5 8] (.seq (M [f 9 1 1 3,l 10 1 9,f 11 1 1 2,l 12 1 11,a 13 10 12,V 14 13,v 15 14 1 1 3,u 16 14 1 15,g 17 14 5,G 18 14 (A .gtr 16 17),q 19 14 18,V 20 19,v 21 20 2 1 3,u 22 20 1 21,s 23 20 .lss 22 1,q 24 20 23,V 25 24,v 26 25 2 1 3,u 27 25 1 26,g 28 25 5,v 29 25 1 1 3,u 30 25 1 29,G 31 25 (A .sub 28 30),G 32 25 (.hy false (Z 64) (T 31)),G 33 25 (A .gtr 27 32),q 34 25 33,V 35 34,v 36 35 3 1 3,u 37 35 1 36,G 38 35 (N 37),s 39 35 .gtr 38 64,q 40 35 39] (K 40 (M [y 4 false] .ret) .skip)) (.seq (.region (some [[],[0],[],[2],[],[4],[],[6],[],[8],[6,7,8,9],[2,3,4,5,6,7,8,9,10],[0,1,2,3,4,5,6,7,8,9,10,11],[0,1,2,3,4,5,6,7,8,9,10,11,12],[0,1,2,3,4,5,6,7,8,9,10,11,12,13]]) [f 41 3 1 3,l 42 1 41,f 43 0 1 2,l 44 1 43,f 45 1 1 3,l 46 1 45,f 47 1 1 3,l 48 1 47,f 49 2 1 3,l 50 1 49,X 51 .add 48 50,O 52 (.slice 5 (T 44) (some (T 46)) (some (T 51))),⟨some 53,none,.call (U 110) [T 42,T 52,.av (.fn (.func 111) [] [])]⟩,t 54 53,V 4 54]) .ret)))),[.tmp 4]⟩
def Zx:=ck 109 a109 Tryz.f109
def Dz:AF:=⟨32,(M [y 6 false] (.seq (M [V 10 0,n 11 10,V 12 1,n 13 12,X 14 .neq 11 13] (K 14 (M [y 6 false] .ret) .skip)) (.seq (M [V 15 0,n 16 15,z 17 0] (W 0 17 16 18 1 31 (M [V 19 17,i 20 5 15 17,k 21 5 20,O 8 (.alloc true [.lit (.string ⟨#[]⟩),z0,z0,z0,.nil 1]),V 7 19,Q (S 5 8 21)] (M [V 22 1,V 23 7,i 24 5 22 23,k 25 5 24,O 9 (.alloc true [.lit (.string ⟨#[]⟩),z0,z0,z0,.nil 1]),Q (S 5 9 25)] (M [V 26 2,k 27 5 8,k 28 5 9,⟨some 29,none,.call (T 26) [T 27,T 28]⟩,t 30 29] (K 30 (M [y 6 false] .ret) .skip)))))) (M [y 6 true] .ret)))),[.tmp 6]⟩
def Zy:=ck 110 Dz Tryz.f110
def DA:AF:=⟨38,(M [x 2 0,x 3 1,y 4 false] (M [f 5 0 1 2,l 6 1 5,f 7 0 1 3,l 8 1 7,X 9 .eql 6 8,V 10 9,r 11 10 1 1 2,h 12 10 1 11,r 13 10 1 1 3,h 14 10 1 13,H 15 10 (A .eql 12 14),p 16 10 15,V 17 16,r 18 17 2 1 2,h 19 17 1 18,r 20 17 2 1 3,h 21 17 1 20,H 22 17 (A .eql 19 21),p 23 17 22,V 24 23,r 25 24 3 1 2,h 26 24 1 25,r 27 24 3 1 3,h 28 24 1 27,H 29 24 (A .eql 26 28),p 30 24 29,V 31 30,r 32 31 4 1 2,h 33 31 1 32,r 34 31 4 1 3,h 35 31 1 34,⟨some 36,some (31,true),.call (U 169) [T 33,T 35]⟩,p 37 31 36,V 4 37] .ret)),[.tmp 4]⟩
def Zz:=ck 111 DA Tryz.f111
def DB:AF:=⟨24,(M [x 2 0,x 3 1,O 4 (.alloc true [.nil 5,z0])] (.seq (.region (some [[],[0],[],[2],[0,1,2,3],[],[5],[],[7],[],[9],[],[11],[9,10,11,12],[7,8,9,10,11,12,13],[0,1,2,3,4,5,6,7,8,9,10,11,12,13,14],[0,1,2,3,4,5,6,7,8,9,10,11,12,13,14,15],[0,1,2,3,4,5,6,7,8,9,10,11,12,13,14,15,16],[0,1,2,3,4,5,6,7,8,9,10,11,12,13,14,15,16,17]]) [f 5 0 1 2,l 6 1 5,f 7 1 1 3,l 8 1 7,O 9 (.slice 5 (T 6) none (some (T 8))),f 10 3 1 3,l 11 1 10,f 12 0 1 2,l 13 1 12,f 14 1 1 3,l 15 1 14,f 16 2 1 3,l 17 1 16,X 18 .add 15 17,O 19 (.slice 5 (T 13) (some (T 18)) none),O 20 (.eg 1 [T 9,T 11,T 19]),C 21 108 [T 20],f 22 0 1 2,Q (S 1 22 21)]) (M [k 23 2 2,Q (S 2 4 23)] .ret))),[.cell 4 2 true]⟩
def ZA:=ck 112 DB Tryz.f112
def DC:AF:=⟨29,(M [x 2 0,x 3 1,y 4 false] (M [f 5 1 1 3,l 6 1 5,f 7 1 1 2,l 8 1 7,X 9 .geq 6 8,V 10 9,r 11 10 1 1 3,h 12 10 1 11,r 13 10 0 1 2,h 14 10 1 13,H 15 10 (N 14),H 16 10 (A .leq 12 15),p 17 10 16,V 18 17,r 19 18 2 1 3,h 20 18 1 19,b 21 18 .eql 20 0,p 22 18 21,V 23 22,r 24 23 3 1 3,h 25 23 1 24,H 26 23 (N 25),b 27 23 .eql 26 0,p 28 23 27,V 4 28] .ret)),[.tmp 4]⟩
def ZB:=ck 113 DC Tryz.f113
def DD:AF:=⟨9,(M [x 2 0,x 3 1,O 4 (.alloc true [.nil 5,z0])] (M [f 5 1 1 3,l 6 1 5,f 7 1 1 2,Q (S 1 7 6)] (M [k 8 2 2,Q (S 2 4 8)] .ret))),[.cell 4 2 true]⟩
def ZC:=ck 114 DD Tryz.f114
def DF:AF:=⟨19,(M [z 4 0] (.seq (M [V 6 0,n 7 6,z 8 0] (W 0 8 7 9 1 18 (M [V 10 8,V 5 10] (M [V 11 1,V 12 0,V 13 5,i 14 1 12 13,l 15 1 14,⟨some 16,none,.call (T 11) [T 15]⟩] (K 16 (M [V 17 5,V 4 17] .ret) .skip))))) (M [z 4 (-1)] .ret))),[.tmp 4]⟩
def ZD:=ck 115 DF Tryz.f115
def a116:AF:=⟨6,(M [y 2 false] (M [V 3 0,C 4 28 [T 3],t 5 4,V 2 5] .ret)),[.tmp 2]⟩
def ZE:=ck 116 a116 Tryz.f116
def a117:AF:=⟨8,(.aY [V 2 0,V 3 0,⟨some 4,none,.bl (U 119) [T 3]⟩,V 5 0,⟨some 6,none,.bl (U 120) [T 5]⟩,⟨some 7,none,.bl (U 118) [T 2,T 4,T 6]⟩]),[]⟩
def Km:=ck 117 a117 Tryz.f117
def oQ:AF:=
{nt:=20,body:=(M [O 5 (.box true (T 2))] (.region (some [[],[],[1],[1,2],[1,2,3],[],[5],[],[7],[5,6,7,8],[5,6,7,8,9],[1,2,3,4,5,6,7,8,9,10],[0,1,2,3,4,5,6,7,8,9,10,11],[0,1,2,3,4,5,6,7,8,9,10,11,12],[0,1,2,3,4,5,6,7,8,9,10,11,12,13]]) [V 6 0,V 7 0,O 8 (.ext .eD [T 7]),O 9 (F 1 1 false 8),O 10 (L 1 false 9),V 11 1,O 12 (.ext (.pO 170 2 40) [T 11]),O 13 (L 2 true 5),O 14 (.eg 2 [T 13]),O 15 (.append 2 40 (T 12) (T 14)),O 16 (.eg 1 [T 15]),O 17 (.append 1 24 (T 10) (T 16)),O 18 (.ext .eD [T 6]),O 19 (F 1 1 false 18),Q (S 1 19 17)])),res:=[]}
theorem yL:g' Tryz.prog 118 oQ:=jU kI (F:=Tryz.f118) (by kernel_rfl) mixed (by kernel_rfl)
def a119:AF:=⟨18,(M [O 2 (.ak (.av (.nil 2)))] (.seq (.region (some [[],[],[1],[1,2],[1,2,3],[1,2,3,4],[1,2,3,4,5],[],[7],[7,8],[7,8,9],[7,8,9,10],[1,2,3,4,5,6],[0,1,2,3,4,5,6,7,8,9,10,11,12],[0,1,2,3,4,5,6,7,8,9,10,11,12,13],[0,1,2,3,4,5,6,7,8,9,10,11,12,13,14]]) [V 3 0,V 4 0,o 5 4,f 6 0 1 5,l 7 1 6,O 8 (.index 1 (T 7) (Z 0)),l 9 1 8,V 10 0,o 11 10,f 12 0 1 11,l 13 1 12,O 14 (.slice 1 (T 13) (some (Z 1)) none),V 2 9,o 15 3,f 16 0 1 15,Q (S 1 16 14)]) (M [V 17 2,V 2 17] .ret))),[.tmp 2]⟩
def c119:=ck 119 a119 Tryz.f119
def r':AF:=⟨18,(M [O 2 (.alloc true [.lit (.string ⟨#[]⟩),.nil 1])] (.seq (.region (some [[],[],[1],[1,2],[1,2,3],[1,2,3,4],[1,2,3,4,5],[],[7],[7,8],[7,8,9],[7,8,9,10],[1,2,3,4,5,6],[0,1,2,3,4,5,6,7,8,9,10,11,12],[0,1,2,3,4,5,6,7,8,9,10,11,12,13],[0,1,2,3,4,5,6,7,8,9,10,11,12,13,14]]) [V 3 0,V 4 0,o 5 4,f 6 2 1 5,l 7 1 6,O 8 (.index 2 (T 7) (Z 0)),k 9 2 8,V 10 0,o 11 10,f 12 2 1 11,l 13 1 12,O 14 (.slice 2 (T 13) (some (Z 1)) none),Q (S 2 2 9),o 15 3,f 16 2 1 15,Q (S 1 16 14)]) (M [k 17 2 2,Q (S 2 2 17)] .ret))),[.cell 2 2 true]⟩
def DG:=ck 120 r' Tryz.f120
def DH:AF:=⟨7,(.aY [V 2 0,V 3 0,⟨some 4,none,.bl (U 119) [T 3]⟩,O 5 (.build [.lit (.string ⟨#[]⟩),.nil 1] []),⟨some 6,none,.bl (U 118) [T 2,T 4,T 5]⟩]),[]⟩
def ZF:=ck 121 DH Tryz.f121
def DI:AF:=
{nt:=11,body:=(.oC [[],[],[1],[1,2],[1,2,3],[1,2,3,4],[],[6],[0,1,2,3,4,5,6,7]] 8 8 [V 2 0,V 3 0,O 4 (.ext .eD [T 3]),O 5 (F 3 1 false 4),O 6 (L 1 false 5),O 7 (.ext (.rp 2 40 (.agg [.lit (.string ⟨#[]⟩),.nil 1])) [T 6,T 6]),V 8 0,⟨some 9,none,.bl (U 120) [T 8]⟩,⟨some 10,none,.bl (U 118) [T 2,T 7,T 9]⟩]),res:=[]}
theorem ZG:g' Tryz.prog 122 DI:=jU kI (F:=Tryz.f122) (by kernel_rfl) mixed (by kernel_rfl)
def DJ:AR where
 nt:=19
 ta:=5
 tb:=2
 rest:=(.seq (.region none [
   ⟨(some 6),none,(.op (.ak (.tmp 2)))⟩,
   ⟨(some 7),none,(.op (.ext (.isNil true) [(.tmp 6)]))⟩])
  (.cond (.tmp 7)
   (.seq (.region none [
    ⟨(some 9),none,(.op (.ak (.tmp 2)))⟩,
    ⟨(some 10),none,(.op (.ext (.lX 34 (.lit (.int .i64 0))) [(.tmp 9)]))⟩,
    ⟨(some 8),none,(.op (.ak (.tmp 10)))⟩,
    ⟨(some 11),none,(.op (.extract (.tmp 8) 0))⟩,
    ⟨(some 12),none,(.op (.extract (.tmp 8) 1))⟩,
    ⟨(some 3),none,(.op (.ak (.tmp 11)))⟩,
    ⟨(some 4),none,(.op (.ak (.tmp 12)))⟩])
   (.seq (.seq (.region none [
    ⟨(some 13),none,(.op (.ak (.tmp 4)))⟩,
    ⟨(some 14),none,(.op (.not (.tmp 13)))⟩])
   (.cond (.tmp 14)
    (.aY [
     ⟨(some 15),none,(.op (.ak (.tmp 2)))⟩,
     ⟨none,none,(.panic (.tmp 15))⟩])
    .skip))
   (.region none [
    ⟨(some 16),none,(.op (.ak (.tmp 0)))⟩,
    ⟨(some 17),none,(.op (.ak (.tmp 3)))⟩,
    ⟨(some 18),none,(.op (.ext .eD [(.tmp 16)]))⟩,
    ⟨none,none,(.op (.store 1 (.tmp 18) (.tmp 17)))⟩])))
   .skip))
 res:=[]
theorem ZH:rR Tryz.prog 123 DJ:=vY (F:=Tryz.f123) (by kernel_rfl) mixed (by kernel_rfl)
def a124:AF:=⟨27,(M [O 4 (.alloc true [.nil 1,.nil 1])] (M [V 6 0,n 7 6,V 8 1,n 9 8,O 10 (.hy true (T 7) (T 9)),R 11 .leq 10 64,C 12 171 [T 11,Z 2]] (M [O 5 (.ak (U 172))] (.seq (.aY [V 13 0,V 14 5,⟨some 15,none,.bl (U 29) [T 13,T 14]⟩,t 16 15,V 17 16,H 18 17 (.ak (T 1)),H 19 17 (.ak (T 5)),⟨some 20,some (17,true),.bl (U 29) [T 18,T 19]⟩,H 21 17 (.not (T 20)),p 22 17 21,C 23 171 [T 22,Z 210]]) (M [V 24 0,V 25 1,O 26 (.build [.nil 1,.nil 1] [(0,1,(T 24)),(1,1,(T 25))]),Q (S 2 4 26)] .ret))))),[.cell 4 2 true]⟩
def ZI:=ck 124 a124 Tryz.f124
def DK:AF:=
{nt:=61,body:=(M [O 1 (.box true (T 0)),O 2 (.ak (.av (.nil 1)))] (.seq (.aY [O 12 (L 2 true 1),⟨some 13,none,.bl (U 173) [T 12]⟩,C 14 126 [],O 3 (.alloc false [.nil 1]),O 4 (.alloc false [.nil 1]),Q (S 1 3 13),Q (S 1 4 14)]) (M ([O 15 (.func (.func 174) [] [T 3]),O 5 (.alloc false [.lit (.nilFunc)]),Q (S 1 5 15)]) (.seq (M ([O 16 (L 2 true 1),C 17 175 [T 16]]) (.block 0 (.range (T 17) [18] (J [O 6 (.alloc true [z0,z0]),Q (S 2 6 18)]) (.block 1 (.seq (.seq (.region (some [[],[],[1],[0,1,2]]) [O 19 (L 2 true 6),O 20 (L 2 true 1),C 21 127 [T 20],O 22 (.ext (.oi false [.int .i64,.int .i64]) [T 19,T 21])]) (K 22 (.exit 1) .skip)) (M ([O 23 (L 1 false 5),O 24 (L 2 true 6),O 25 (.ext (.gY 174) [T 23,T 24]),O 26 (.ext .eD [T 25]),Q (.store 1 (T 26) (Z 128))]) (M [O 27 (L 1 false 4),O 28 (N 27),O 29 (.ak (Z 0))] (.block 2 (.loop (M [O 30 (A .lss 29 28)] (.seq (K 30 .skip (.exit 2)) (.seq (.block 3 (M [O 31 (I 1 27 29),O 32 (L 1 false 31),V 8 32] (M ([V 34 8,O 35 (L 2 true 1),O 36 (L 2 true 6),⟨some 37,none,.call (T 34) [T 35,T 36]⟩,V 33 37,O 38 (E 33 0),O 39 (E 33 1),O 40 (E 33 2),O 9 (.alloc true [z0,z0]),Q (S 2 9 38),V 10 39,V 11 40]) (M [V 41 11] (K 41 (.region (some [[],[],[0,1],[],[],[0,1,2,3,4],[0,1,2,3,4,5],[0,1,2,3,4,5,6],[],[],[],[0,1,2,3,4,5,9,10],[0,1,2,3,4,5,9,10,11],[0,1,2,3,4,5,9,10,11,12],[0,1,2,3,4,5,8,9,10,11,12,13],[0,1,2,3,4,5,6,7,8,9,10,11,12,13,14],[0,1,2,3,4,5,6,7,8,9,10,11,12,13,14,15],[0,1,2,3,4,5,6,7,8,9,10,11,12,13,14,15,16]]) [O 42 (L 1 false 5),O 43 (L 2 true 6),O 44 (.ext (.gY 174) [T 42,T 43]),O 45 (L 1 false 5),O 46 (L 2 true 6),O 47 (.ext (.gY 174) [T 45,T 46]),O 48 (.ext .eD [T 47]),O 49 (L 1 false 48),V 50 10,O 51 (L 1 false 5),O 52 (L 2 true 9),O 53 (.ext (.gY 174) [T 51,T 52]),O 54 (.ext .eD [T 53]),O 55 (L 1 false 54),O 56 (A .add 50 55),O 57 (.hy false (T 49) (T 56)),O 58 (.ext .eD [T 44]),Q (S 1 58 57)]) .skip))))) (J [O 59 (B .add 29 1),V 29 59]))))))))))))) (M [O 60 (L 1 false 3),V 2 60] .ret))))),res:=[.tmp 2]}
theorem ZJ:g' Tryz.prog 125 DK:=jU kI (F:=Tryz.f125) (by kernel_rfl) mixed (by kernel_rfl)
def DL:AF:=⟨2,(M [O 0 (.ak (.av (.nil 1)))] (M [O 1 (.eg 1 [.av (.fn (.func 176) [] []),.av (.fn (.func 177) [] []),.av (.fn (.func 178) [] []),.av (.fn (.func 179) [] [])]),V 0 1] .ret)),[.tmp 0]⟩
def ZK:=ck 126 DL Tryz.f126
def a127:AF:=⟨10,(M [x 1 0,O 2 (.alloc true [z0,z0])] (M [f 3 0 1 1,l 4 1 3,n 5 4,f 6 1 1 1,l 7 1 6,n 8 7,O 9 (.build [z0,z0] [(0,1,(T 5)),(1,1,(T 8))]),Q (S 2 2 9)] .ret)),[.cell 2 2 true]⟩
def ZL:=ck 127 a127 Tryz.f127
def DM:AF:=⟨19,(M [z 4 0] (.seq (M [V 6 0,n 7 6,z 8 0] (W 0 8 7 9 1 18 (M [V 10 8,V 5 10] (M [V 11 1,V 12 0,V 13 5,i 14 2 12 13,k 15 2 14,⟨some 16,none,.call (T 11) [T 15]⟩] (K 16 (M [V 17 5,V 4 17] .ret) .skip))))) (M [z 4 (-1)] .ret))),[.tmp 4]⟩
def ZM:=ck 128 DM Tryz.f128
def DN:AF:=⟨4,(M [j 1 0,O 2 (.ak (.av (.lit (.nilFunc))))] (M [O 3 (.func (.func 180) [] [T 1]),V 2 3] .ret)),[.tmp 2]⟩
def ZN:=ck 129 DN Tryz.f129
def a130:AR where
 nt:=16
 ta:=5
 tb:=2
 rest:=(.seq (.region none [
   ⟨(some 6),none,(.op (.ak (.tmp 2)))⟩,
   ⟨(some 7),none,(.op (.ext (.isNil true) [(.tmp 6)]))⟩])
  (.cond (.tmp 7)
   (.seq (.seq (.region none [
    ⟨(some 9),none,(.op (.ak (.tmp 2)))⟩,
    ⟨(some 10),none,(.op (.ext (.lX 239 (.agg [])) [(.tmp 9)]))⟩,
    ⟨(some 8),none,(.op (.ak (.tmp 10)))⟩,
    ⟨(some 11),none,(.op (.extract (.tmp 8) 0))⟩,
    ⟨(some 12),none,(.op (.extract (.tmp 8) 1))⟩,
    ⟨(some 3),none,(.op (.alloc true []))⟩,
    ⟨none,none,(.op (.store 0 (.tmp 3) (.tmp 11)))⟩,
    ⟨(some 4),none,(.op (.ak (.tmp 12)))⟩])
   (.seq (.region none [
    ⟨(some 13),none,(.op (.ak (.tmp 4)))⟩,
    ⟨(some 14),none,(.op (.not (.tmp 13)))⟩])
   (.cond (.tmp 14)
    (.aY [
     ⟨(some 15),none,(.op (.ak (.tmp 2)))⟩,
     ⟨none,none,(.panic (.tmp 15))⟩])
    .skip)))
   (.region none [
    ⟨none,none,(.op (.store 1 (.tmp 0) (.av (.nil 1))))⟩,
    ⟨none,none,(.op (.store 1 (.tmp 1) (.av (.lit (.int .i64 90)))))⟩]))
   .skip))
 res:=[]
theorem DO:rR Tryz.prog 130 a130:=vY (F:=Tryz.f130) (by kernel_rfl) mixed (by kernel_rfl)
def a131:AF:=⟨5,(M [O 2 (.ak (.av (.nil 1)))] (.seq (.aY [V 3 0,⟨some 4,none,.bl (U 181) [.av (.nil 1),T 3]⟩,V 2 4]) .ret)),[.tmp 2]⟩
def ZO:=ck 131 a131 Tryz.f131
def DP:AF:=⟨4,(M [O 1 (.box false (T 0)),O 2 (.ak (.av (.lit (.nilFunc))))] (M [O 3 (.func (.func 182) [] [T 1]),V 2 3] .ret)),[.tmp 2]⟩
def ZP:=ck 132 DP Tryz.f132
def wu:AF:=⟨19,(M [z 4 0] (.seq (M [V 6 0,n 7 6,z 8 0] (W 0 8 7 9 1 18 (M [V 10 8,V 5 10] (M [V 11 1,V 12 0,V 13 5,i 14 1 12 13,l 15 1 14,⟨some 16,none,.call (T 11) [T 15]⟩] (K 16 (M [V 17 5,V 4 17] .ret) .skip))))) (M [z 4 (-1)] .ret))),[.tmp 4]⟩
def Kn:=ck 133 wu Tryz.f133
def DQ:AF:=⟨17,(M [y 2 false] (M [V 3 0,R 4 .eql 3 32,V 5 4,g 6 5 0,s 7 5 .eql 6 9,q 8 5 7,V 9 8,g 10 9 0,s 11 9 .eql 10 10,q 12 9 11,V 13 12,g 14 13 0,s 15 13 .eql 14 13,q 16 13 15,V 2 16] .ret)),[.tmp 2]⟩
def ZQ:=ck 134 DQ Tryz.f134
def DR:AF:=⟨4,(M [O 1 (.box false (T 0)),O 2 (.ak (.av (.lit (.nilFunc))))] (M [O 3 (.func (.func 184) [] [T 1]),V 2 3] .ret)),[.tmp 2]⟩
def ZR:=ck 135 DR Tryz.f135
def DS:AF:=
{nt:=164,body:=(M ([O 1 (.box true (T 0)),O 2 (.alloc true [.lit (.string ⟨#[]⟩),.nil 1,.lit (.string ⟨#[]⟩),z0,.nil 5,.nil 5]),O 3 (.ak (Z 0))]) (.seq (M [O 12 (F 1 1 false 1),O 13 (L 1 false 12),O 14 (N 13),O 15 (B .gtr 14 32),V 16 15,G 17 16 (F 4 1 false 1),G 18 16 (L 1 false 17),G 19 16 (N 18),G 20 16 (B .gtr 19 512),O 21 (.pick (T 16) (Y true) (T 20)),V 22 21,G 23 22 (F 5 1 false 1),G 24 22 (L 1 false 23),G 25 22 (N 24),G 26 22 (B .gtr 25 128),O 27 (.pick (T 22) (Y true) (T 26))] (K 27 (M [O 28 (L 6 true 2),Q (S 6 2 28),O 3 (.ak (Z 2))] .ret) .skip)) (M ([O 29 (.ext .jl []),O 4 (.alloc false [.lit (.map none)]),Q (S 1 4 29)]) (.seq (M [O 30 (F 1 1 false 1),O 31 (L 1 false 30),O 32 (N 31),O 33 (.ak (Z 0))] (.block 0 (.loop (M [O 34 (A .lss 33 32)] (.seq (K 34 .skip (.exit 0)) (.seq (.block 1 (M [V 35 33,O 36 (I 1 31 33),O 37 (L 1 false 36),V 5 35,V 6 37] (J [O 38 (L 1 false 4),V 39 6,V 40 5,Q (.ext (.insert (.str)) [T 38,T 39,T 40])]))) (J [O 41 (B .add 33 1),V 33 41]))))))) (M ([O 42 (.func (.func 187) [] [T 4]),V 7 42]) (.seq (.seq (.aY [O 43 (L 1 false 4),O 44 (.ext .pN [T 43]),O 45 (F 1 1 false 1),O 46 (L 1 false 45),O 47 (N 46),O 48 (A .neq 44 47),V 49 48,G 50 49 (L 6 true 1),G 51 49 (.ak (T 7)),⟨some 52,some (49,false),.bl (U 188) [T 50,T 51]⟩,G 53 49 (.not (T 52)),O 54 (.pick (T 49) (Y true) (T 53))]) (K 54 (M [O 55 (L 6 true 2),Q (S 6 2 55),O 3 (.ak (Z 260))] .ret) .skip)) (.seq (M ([O 56 (L 6 true 1),C 57 189 [T 56]]) (K 57 (M [O 58 (L 6 true 2),Q (S 6 2 58),O 3 (.ak (Z 261))] .ret) .skip)) (M [O 59 (L 6 true 1),Q (S 6 2 59)] (M ([O 60 (L 1 false 4),O 61 (F 2 1 false 1),O 62 (L 1 false 61),O 63 (.ext (.lookup (.str) false (z0)) [T 60,T 62]),O 64 (F 3 1 false 2),Q (S 1 64 63)]) (.seq (.region (some [[],[0],[0,1],[],[3],[0,1,2,3,4],[0,1,2],[0,1,2,3,4,5,6],[0,1,2,3,4,5,6,7],[0,1,2,3,4,5,6,7,8]]) [O 65 (F 4 1 false 1),O 66 (L 1 false 65),O 67 (.ext (.mX 190 5 72) [T 66]),O 68 (F 5 1 false 1),O 69 (L 1 false 68),O 70 (.ext (.mX 191 5 80) [T 69]),O 71 (F 4 1 false 2),Q (S 1 71 67),O 72 (F 5 1 false 2),Q (S 1 72 70)]) (.seq (M ([O 73 (F 4 1 false 2),O 74 (L 1 false 73),O 75 (.ext .iO [T 74]),O 76 (.ak (Z 0))]) (.block 2 (.loop (M [O 77 (A .lss 76 75)] (.seq (K 77 .skip (.exit 2)) (.seq (.block 3 (M [V 78 76,V 8 78] (.region (some [[],[0],[],[],[],[4],[],[4,5,6],[4,5,6,7],[4,5,6,7,8],[3,4,5,6,7,8,9],[0,1,2,3,4,5,6,7,8,9,10],[0,1,2,3,4,5,6,7,8,9,10,11],[0,1,2,3,4,5,6,7,8,9,10,11,12]]) [O 79 (F 4 1 false 2),O 80 (L 1 false 79),V 81 8,O 82 (L 1 false 4),O 83 (F 4 1 false 2),O 84 (L 1 false 83),V 85 8,O 86 (.ext (.fG 5) [T 84,T 85]),O 87 (F 1 1 false 86),O 88 (L 1 false 87),O 89 (.ext (.lookup (.str) false (z0)) [T 82,T 88]),O 90 (.ext (.fG 5) [T 80,T 81]),O 91 (F 2 1 false 90),Q (S 1 91 89)]))) (J [O 92 (B .add 76 1),V 76 92]))))))) (.seq (M ([O 93 (F 5 1 false 2),O 94 (L 1 false 93),O 95 (.ext .iO [T 94]),O 96 (.ak (Z 0))]) (.block 4 (.loop (M [O 97 (A .lss 96 95)] (.seq (K 97 .skip (.exit 4)) (.seq (.qa 5 (M [V 98 96,V 9 98] (M ([O 99 (F 5 1 false 2),O 100 (L 1 false 99),V 101 9,O 102 (.ext (.fG 5) [T 100,T 101]),V 10 102]) (.seq (.region (some [[],[],[],[],[3],[3,4],[3,4,5],[2,3,4,5,6],[],[8],[8,9],[8,9,10],[8,9,10,11],[0,2,3,4,5,6,7,8,9,10,11,12],[0,2,3,4,5,6,7,8,9,10,11,12,13],[0,2,3,4,5,6,7,8,9,10,11,12,13,14],[0,1,2,3,4,5,6,7,8,9,10,11,12,13,14,15],[0,1,2,3,4,5,6,7,8,9,10,11,12,13,14,15,16],[0,1,2,3,4,5,6,7,8,9,10,11,12,13,14,15,16,17]]) [V 103 10,V 104 10,O 105 (L 1 false 4),V 106 10,O 107 (.ext .eD [T 106]),O 108 (F 0 1 false 107),O 109 (L 1 false 108),O 110 (.ext (.lookup (.str) false (z0)) [T 105,T 109]),V 111 10,O 112 (.ext .eD [T 111]),O 113 (F 2 1 false 112),O 114 (L 1 false 113),O 115 (.ext (.mX 192 3 40) [T 114]),O 116 (.ext .eD [T 103]),O 117 (F 1 1 false 116),Q (S 1 117 110),O 118 (.ext .eD [T 104]),O 119 (F 2 1 false 118),Q (S 1 119 115)]) (M ([V 120 10,O 121 (.ext .eD [T 120]),O 122 (F 2 1 false 121),O 123 (L 1 false 122),O 124 (.ext .iO [T 123]),O 125 (.ak (Z 0))]) (.block 6 (.loop (M [O 126 (A .lss 125 124)] (.seq (K 126 .skip (.exit 6)) (.seq (.block 7 (M [V 127 125,V 11 127] (M ([V 128 10,O 129 (.ext .eD [T 128]),O 130 (F 2 1 false 129),O 131 (L 1 false 130),V 132 11,O 133 (.ext (.fG 3) [T 131,T 132]),O 134 (F 1 1 false 133),Q (.store 1 (T 134) (Z 0))]) (M ([V 135 10,O 136 (.ext .eD [T 135]),O 137 (F 2 1 false 136),O 138 (L 1 false 137),V 139 11,O 140 (.ext (.fG 3) [T 138,T 139]),O 141 (F 2 1 false 140),O 142 (L 1 false 141),O 143 (.arith .eql (T 142) (.av (.lit (.string ⟨#[]⟩))))]) (K 143 (.region (some [[],[0],[0,1],[0,1,2],[],[],[],[6],[6,7],[6,7,8],[],[6,7,8,9,10],[6,7,8,9,10,11],[6,7,8,9,10,11,12],[5,6,7,8,9,10,11,12,13],[0,1,2,3,4,5,6,7,8,9,10,11,12,13,14],[0,1,2,3,4,5,6,7,8,9,10,11,12,13,14,15],[0,1,2,3,4,5,6,7,8,9,10,11,12,13,14,15,16]]) [V 144 10,O 145 (.ext .eD [T 144]),O 146 (F 2 1 false 145),O 147 (L 1 false 146),V 148 11,O 149 (L 1 false 4),V 150 10,O 151 (.ext .eD [T 150]),O 152 (F 2 1 false 151),O 153 (L 1 false 152),V 154 11,O 155 (.ext (.fG 3) [T 153,T 154]),O 156 (F 0 1 false 155),O 157 (L 1 false 156),O 158 (.ext (.lookup (.str) false (z0)) [T 149,T 157]),O 159 (.ext (.fG 3) [T 147,T 148]),O 160 (F 1 1 false 159),Q (S 1 160 158)]) .skip))))) (J [O 161 (B .add 125 1),V 125 161]))))))))))) (J [O 162 (B .add 96 1),V 96 162]))))))) (M [O 163 (L 6 true 2),Q (S 6 2 163),O 3 (.ak (Z 0))] .ret))))))))))))),res:=[.cell 2 6 true,.tmp 3]}
theorem ZS:g' Tryz.prog 136 DS:=jU kI (F:=Tryz.f136) (by kernel_rfl) mixed (by kernel_rfl)
def DT:AF:=⟨32,(M [y 6 false] (.seq (M [V 10 0,n 11 10,V 12 1,n 13 12,X 14 .neq 11 13] (K 14 (M [y 6 false] .ret) .skip)) (.seq (M [V 15 0,n 16 15,z 17 0] (W 0 17 16 18 1 31 (M [V 19 17,i 20 5 15 17,k 21 5 20,O 8 (.alloc true [.lit (.string ⟨#[]⟩),.lit (.string ⟨#[]⟩),z0,.nil 1,z0]),V 7 19,Q (S 5 8 21)] (M [V 22 1,V 23 7,i 24 5 22 23,k 25 5 24,O 9 (.alloc true [.lit (.string ⟨#[]⟩),.lit (.string ⟨#[]⟩),z0,.nil 1,z0]),Q (S 5 9 25)] (M [V 26 2,k 27 5 8,k 28 5 9,⟨some 29,none,.call (T 26) [T 27,T 28]⟩,t 30 29] (K 30 (M [y 6 false] .ret) .skip)))))) (M [y 6 true] .ret)))),[.tmp 6]⟩
def ZT:=ck 137 DT Tryz.f137
def a138:AF:=⟨10,(M [x 2 0,x 3 1,y 4 false] (M [f 5 2 1 2,l 6 1 5,f 7 2 1 3,l 8 1 7,X 9 .eql 6 8,V 4 9] .ret)),[.tmp 4]⟩
def c138:=ck 138 a138 Tryz.f138
def a139:AF:=⟨32,(M [y 6 false] (.seq (M [V 10 0,n 11 10,V 12 1,n 13 12,X 14 .neq 11 13] (K 14 (M [y 6 false] .ret) .skip)) (.seq (M [V 15 0,n 16 15,z 17 0] (W 0 17 16 18 1 31 (M [V 19 17,i 20 5 15 17,k 21 5 20,O 8 (.alloc true [.lit (.string ⟨#[]⟩),z0,.nil 3,.nil 2,z0]),V 7 19,Q (S 5 8 21)] (M [V 22 1,V 23 7,i 24 5 22 23,k 25 5 24,O 9 (.alloc true [.lit (.string ⟨#[]⟩),z0,.nil 3,.nil 2,z0]),Q (S 5 9 25)] (M [V 26 2,k 27 5 8,k 28 5 9,⟨some 29,none,.call (T 26) [T 27,T 28]⟩,t 30 29] (K 30 (M [y 6 false] .ret) .skip)))))) (M [y 6 true] .ret)))),[.tmp 6]⟩
def ZU:=ck 139 a139 Tryz.f139
def DU:AF:=⟨17,(M [x 2 0,x 3 1,y 4 false] (M [f 5 1 1 2,l 6 1 5,f 7 1 1 3,l 8 1 7,X 9 .eql 6 8,V 10 9,r 11 10 2 1 2,h 12 10 1 11,r 13 10 2 1 3,h 14 10 1 13,⟨some 15,some (10,true),.call (U 141) [T 12,T 14]⟩,p 16 10 15,V 4 16] .ret)),[.tmp 4]⟩
def ZV:=ck 140 DU Tryz.f140
def a141:AF:=⟨26,(M [y 4 false] (.seq (M [V 6 0,n 7 6,V 8 1,n 9 8,X 10 .neq 7 9] (K 10 (M [y 4 false] .ret) .skip)) (.seq (M [V 11 0,n 12 11,z 13 0] (W 0 13 12 14 1 25 (M [V 15 13,V 5 15] (.seq (.region (some [[],[],[0,1],[0,1,2],[],[],[4,5],[4,5,6],[0,1,2,3,4,5,6,7]]) [V 16 0,V 17 5,i 18 3 16 17,k 19 3 18,V 20 1,V 21 5,i 22 3 20 21,k 23 3 22,O 24 (.ext (.oi true [.str,.int .i64,.str]) [T 19,T 23])]) (K 24 (M [y 4 false] .ret) .skip))))) (M [y 4 true] .ret)))),[.tmp 4]⟩
def ZW:=ck 141 a141 Tryz.f141
def DV:AF:=⟨27,(M [z 2 0] (.seq (M [V 6 0,n 7 6,R 8 .gtr 7 1024] (K 8 (M [z 2 2] .ret) .skip)) (M [z 3 (-1)] (.seq (M [V 9 0,n 10 9,z 11 0] (W 0 11 10 12 1 26 (M [i 13 8 9 11,k 14 8 13,O 5 (.alloc true [z0,z0,z0,z0,.nil 1,.nil 1,.lit (.string ⟨#[]⟩),.lit (.bool false)]),Q (S 8 5 14)] (.seq (M [k 15 8 5,C 16 193 [T 15],t 17 16,V 18 17,v 19 18 0 1 5,u 20 18 1 19,g 21 18 3,G 22 18 (A .leq 20 21),q 23 18 22] (K 23 (M [z 2 270] .ret) .skip)) (J [f 24 0 1 5,l 25 1 24,V 3 25]))))) (M [z 2 0] .ret))))),[.tmp 2]⟩
def ZX:=ck 142 DV Tryz.f142
def a143:AF:=⟨9,(M [y 2 false] (M [V 3 0,O 4 (.arith .leq (Z 0) (T 3)),V 5 4,H 6 5 (.ak (T 0)),b 7 5 .lss 6 32,p 8 5 7,V 2 8] .ret)),[.tmp 2]⟩
def ZY:=ck 143 a143 Tryz.f143
def DW:AF:=⟨9,(M [y 2 false] (M [V 3 0,O 4 (.arith .leq (Z 0) (T 3)),V 5 4,H 6 5 (.ak (T 0)),b 7 5 .lss 6 1099511627776,p 8 5 7,V 2 8] .ret)),[.tmp 2]⟩
def ZZ:=ck 144 DW Tryz.f144
def a145:AF:=⟨9,(M [x 1 0,O 2 (.alloc true [z0,.lit (.string ⟨#[]⟩)])] (.seq (.region (some [[],[0],[],[2],[2,3],[0,1,2,3,4],[0,1,2,3,4,5]]) [f 3 3 1 1,l 4 1 3,f 5 4 1 1,l 6 1 5,⟨some 7,none,.call (U 74) [T 6,.av (.lit (.string ⟨#[10]⟩))]⟩,O 8 (.build [z0,.lit (.string ⟨#[]⟩)] [(0,1,(T 4)),(1,1,(T 7))]),Q (S 2 2 8)]) .ret)),[.cell 2 2 true]⟩
def Z_:=ck 145 a145 Tryz.f145
def yM:AF:=⟨52,(.seq (M [l 8 1 1,l 9 1 2,X 10 .add 8 9,f 11 7 1 3,l 12 1 11,n 13 12,X 14 .gtr 10 13] (K 14 .ret .skip)) (.seq (.region (some [[],[0],[],[2],[],[],[],[5,6],[2,3,4,5,6,7],[2,3,4,5,6,7,8],[0,1,2,3,4,5,6,7,8,9],[0,1,2,3,4,5,6,7,8,9,10],[0,1,2,3,4,5,6,7,8,9,10,11],[0,1,2,3,4,5,6,7,8,9,10,11],[],[0,1,2,3,4,5,6,7,8,9,10,11,12,14],[0,1,2,3,4,5,6,7,8,9,10,11,12,13,14,15]]) [f 16 6 1 3,l 17 1 16,f 18 7 1 3,l 19 1 18,l 20 1 1,l 21 1 1,l 22 1 2,X 23 .add 21 22,O 24 (.slice 1 (T 19) (some (T 20)) (some (T 23))),⟨some 25,none,.call (U 74) [T 24,.av (.lit (.string ⟨#[32]⟩))]⟩,O 26 (.ext (.lookup (.str) true (.agg [z0,z0,z0,z0,.nil 1,.nil 1,.lit (.string ⟨#[]⟩),.lit (.bool false)])) [T 17,T 25]),V 15 26,e 27 15 0,e 28 15 1,O 5 (.alloc true [z0,z0,z0,z0,.nil 1,.nil 1,.lit (.string ⟨#[]⟩),.lit (.bool false)]),Q (S 8 5 27),V 6 28]) (M [O 29 (F 0 6 true 3),f 30 1 1 29,l 31 1 30,f 32 6 1 5,l 33 1 32,C 34 150 [T 31,T 33],V 7 34] (M [V 35 6,V 36 35,H 37 36 (.ak (T 7)),b 38 36 .geq 37 0,p 39 36 38] (K 39 (.aY [V 40 0,V 41 7,l 42 1 1,l 43 1 1,l 44 1 2,X 45 .add 43 44,f 46 5 1 5,l 47 1 46,f 48 0 1 5,l 49 1 48,O 50 (.build [z0,z0,z0,z0,.nil 1,z0] [(0,1,(T 41)),(1,1,(T 42)),(2,1,(T 45)),(4,1,(T 47)),(5,1,(T 49))]),⟨some 51,none,.hC (T 40) [T 50]⟩]) .skip))))),[]⟩
def Z':=ck 149 yM Tryz.f149
def DX:AF:=⟨19,(M [z 4 0] (.seq (M [V 6 0,n 7 6,z 8 0] (W 0 8 7 9 1 18 (M [V 10 8,V 5 10] (M [V 11 1,V 12 0,V 13 5,i 14 1 12 13,l 15 1 14,X 16 .eql 11 15] (K 16 (M [V 17 5,V 4 17] .ret) .skip))))) (M [z 4 (-1)] .ret))),[.tmp 4]⟩
def aaa:=ck 150 DX Tryz.f150
def DY:AF:=⟨38,(M [O 6 (F 0 6 true 1),f 7 4 1 6,l 8 1 7,n 9 8,z 10 0] (W 0 10 9 11 1 37 (M [i 12 5 8 10,k 13 5 12,O 5 (.alloc true [.lit (.string ⟨#[]⟩),.lit (.string ⟨#[]⟩),z0,.nil 1,z0]),Q (S 5 5 13)] (.seq (.mb [[],[0],[],[2],[],[2,3,4],[2,3,4,5],[0,1,2,3,4,5,6],[0,1,2,3,4,5,6,7],[0,1,2,3,4,5,6,7,8],[0,1,2,3,4,5,6,7,8],[0,1,2,3,4,5,6,7,8,10],[0,1,2,3,4,5,6,7,8],[0,1,2,3,4,5,6,7,8],[0,1,2,3,4,5,6,7,8,13],[0,1,2,3,4,5,6,7,8],[0,1,2,3,4,5,6,7,8,15],[0,1,2,3,4,5,6,7,8],[0,1,2,3,4,5,6,7,8,17],[0,1,2,3,4,5,6,7,8,10,11,12,13,14,15,16,17,18],[0,1,2,3,4,5,6,7,8,9,10,11,12,13,14,15,16,17,18,19],[0,1,2,3,4,5,6,7,8,9,10,11,12,13,14,15,16,17,18,19,20],[0,1,2,3,4,5,6,7,8,9,10,11,12,13,14,15,16,17,18,19,20,21]] 20 [f 14 0 1 5,l 15 1 14,f 16 7 1 1,l 17 1 16,l 18 1 2,i 19 1 17 18,l 20 1 19,X 21 .eql 15 20,V 22 21,H 23 22 (.ak (T 0)),r 24 22 2 1 5,h 25 22 1 24,h 26 22 1 2,h 27 22 1 2,b 28 22 .add 27 1,r 29 22 4 1 5,h 30 22 1 29,r 31 22 3 1 5,h 32 22 1 31,H 33 22 (.build [z0,z0,z0,z0,.nil 1,z0] [(0,1,(T 25)),(1,1,(T 26)),(2,1,(T 28)),(3,1,(T 30)),(4,1,(T 32)),(5,1,(Z (-1)))]),⟨some 34,some (22,true),.hC (T 23) [T 33]⟩,H 35 22 (.not (T 34)),p 36 22 35]) (K 36 .ret .skip))))),[]⟩
def aab:=ck 151 DY Tryz.f151
def a152:AF:=⟨27,(M [O 5 (F 0 6 true 1),f 6 1 1 5,l 7 1 6,n 8 7,z 9 0] (W 0 9 8 10 1 26 (M [V 11 9,V 4 11] (.seq (.mb [[],[],[],[],[3],[],[5],[],[5,6,7],[5,6,7,8],[5,6,7,8,9],[1,2,3,4,5,6,7,8,9,10],[0,1,2,3,4,5,6,7,8,9,10,11],[0,1,2,3,4,5,6,7,8,9,10,11,12]] 12 [V 12 0,V 13 4,l 14 1 2,l 15 1 2,c 16 15,f 17 7 1 1,l 18 1 17,l 19 1 2,i 20 1 18 19,l 21 1 20,O 22 (.ext (.lY 1) [T 21]),O 23 (.build [z0,z0,z0,z0,.nil 1,z0] [(0,1,(T 13)),(1,1,(T 14)),(2,1,(T 16)),(3,1,(Z 100)),(4,1,(T 22)),(5,1,(Z (-1)))]),⟨some 24,none,.hC (T 12) [T 23]⟩,t 25 24]) (K 25 .ret .skip))))),[]⟩
def aac:=ck 152 a152 Tryz.f152
def DZ:AF:=⟨8,(M [V 4 0,t 5 4] (K 5 (.aY [V 6 1,O 7 (.cQ 34 (T 6)),⟨none,none,.panic (T 7)⟩]) .skip)),[]⟩
def aad:=ck 153 DZ Tryz.f153
def a154:AF:=⟨6,(M [y 2 false] (M [V 3 0,C 4 28 [T 3],t 5 4,V 2 5] .ret)),[.tmp 2]⟩
def aae:=ck 154 a154 Tryz.f154
def Ko:AF:=⟨43,(M [x 4 1] (M [V 8 0,o 9 8,f 10 6 1 9,l 11 1 10,n 12 11,z 13 0] (W 0 13 12 14 1 42 (M [V 15 13,i 16 6 11 13,k 17 6 16,O 6 (.alloc false [z0]),O 7 (.alloc true [z0,z0,z0,z0,.nil 1,z0]),Q (S 1 6 15),Q (S 6 7 17)] (M [f 18 0 1 7,l 19 1 18,f 20 0 1 4,l 21 1 20,X 22 .eql 19 21,V 23 22,r 24 23 1 1 7,h 25 23 1 24,r 26 23 1 1 4,h 27 23 1 26,H 28 23 (A .eql 25 27),p 29 23 28,V 30 29,r 31 30 2 1 7,h 32 30 1 31,r 33 30 2 1 4,h 34 30 1 33,H 35 30 (A .eql 32 34),p 36 30 35] (K 36 (.aY [V 37 2,f 38 3 1 7,l 39 1 38,O 40 (.func (.func 197) [] [T 6,T 4]),⟨some 41,none,.bl (U 196) [T 37,T 39,Z 1,T 40]⟩]) .skip)))))),[]⟩
def aaf:=ck 155 Ko Tryz.f155
def a156:AF:=⟨99,(M [O 3 (.box false (T 0)),x 4 1,O 5 (.box false (T 2))] (M [l 17 1 3,o 18 17,O 19 (F 0 6 true 18),f 20 5 1 19,l 21 1 20,n 22 21,z 23 0] (W 0 23 22 24 1 98 (M [V 25 23,i 26 5 21 23,k 27 5 26,O 6 (.alloc false [z0]),O 7 (.alloc true [.lit (.string ⟨#[]⟩),z0,.nil 3,.nil 2,z0]),Q (S 1 6 25),Q (S 5 7 27)] (.seq (M [f 28 1 1 7,l 29 1 28,f 30 0 1 4,l 31 1 30,X 32 .neq 29 31] (K 32 (.exit 1) .skip)) (.seq (.aY [l 33 1 3,f 34 2 1 7,l 35 1 34,f 36 1 1 4,l 37 1 36,f 38 2 1 4,l 39 1 38,⟨some 40,none,.bl (U 198) [T 33,T 35,T 37,T 39]⟩]) (.block 2 (.range (T 40) [41] (J [V 8 41]) (.oD 3 (M [f 42 4 1 7,l 43 1 42,V 9 43,z 10 1] (M [O 11 (.alloc false [.nil 5])] (M [f 44 1 1 4,l 45 1 44,V 12 45,z 13 0] (.seq (M [f 46 2 1 7,l 47 1 46,n 48 47,z 49 0] (W 4 49 48 50 5 90 (M [i 51 3 47 49,k 52 3 51,O 15 (.alloc true [.lit (.string ⟨#[]⟩),z0,.lit (.string ⟨#[]⟩)]),Q (S 3 15 52)] (.seq (M [f 53 2 1 15,l 54 1 53,O 55 (.arith .neq (T 54) (.av (.lit (.string ⟨#[]⟩))))] (K 55 (M [V 56 12,c 57 56,V 12 57] (.exit 5)) .skip)) (.seq (.p' [[],[],[1],[],[],[],[4,5],[4,5,6],[1,2,3,4,5,6,7],[0,1,2,3,4,5,6,7,8],[],[0,1,2,3,4,5,6,7,8,9,10]] 10 [l 58 1 3,f 59 1 1 15,l 60 1 59,V 61 12,V 62 8,V 63 13,O 64 (.ext (.fG 1) [T 62,T 63]),l 65 1 64,O 66 (.build [z0,z0,z0] [(0,1,(T 60)),(1,1,(T 61)),(2,1,(T 65))]),⟨some 67,none,.bl (U 87) [T 58,T 66]⟩,O 16 (.alloc true [.lit (.bool false),z0,z0,z0,z0,z0,.nil 5,z0]),Q (S 8 16 67)]) (.seq (M [f 68 0 1 16,l 69 1 68,t 70 69] (K 70 (M [z 10 0] (.exit 4)) .skip)) (.seq (.region (some [[],[],[1],[0,1,2],[],[],[5],[4,5,6],[],[],[9],[9,10],[4,5,6,7,8,9,10,11],[0,1,2,3,4,5,6,7,8,9,10,11,12],[0,1,2,3,4,5,6,7,8,9,10,11,12,13],[0,1,2,3,4,5,6,7,8,9,10,11,12,13,14]]) [V 71 9,f 72 1 1 16,l 73 1 72,X 74 .add 71 73,V 75 10,f 76 7 1 16,l 77 1 76,C 78 199 [T 75,T 77],l 79 1 11,O 80 (F 2 5 true 16),k 81 5 80,m 82 5 81,w 83 5 56 79 82,V 9 74,V 10 78,Q (S 1 11 83)]) (M [V 84 8,V 85 13,O 86 (.ext (.fG 1) [T 84,T 85]),l 87 1 86,V 12 87] (J [V 88 13,c 89 88,V 13 89]))))))))) (M [V 91 10,R 92 .gtr 91 0] (K 92 (.aY [l 93 1 5,V 94 9,V 95 10,O 96 (.func (.func 200) [] [T 6,T 4,T 11]),⟨some 97,none,.bl (U 196) [T 93,T 94,T 95,T 96]⟩]) .skip))))))))))))))),[]⟩
def aag:=ck 156 a156 Tryz.f156
end

end Go.Proofs.YtloccchppmffpaaGreatDoor
