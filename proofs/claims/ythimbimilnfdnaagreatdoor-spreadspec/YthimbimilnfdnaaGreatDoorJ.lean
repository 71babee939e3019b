/- Part of the proof: S570, S571. -/
import Derived.Test.YthimbimilnfdnaaGreatDoorCards
import Derived.Test.YthimbimilnfdnaaGreatDoorTie
import Derived.Deep.DeepHandedRow
import Derived.Deep.DeepWitnessRowRef
import Derived.Lib.LaidIn
import Derived.Lib.LaidU8
import Derived.ProofKit
import Derived.SizedLaws
import Derived.PinnedBridge
import Derived.SevenTiedAt
import Derived.Test.YthimbimilnfdnaaGreatDoorI
set_option linter.unnecessarySimpa false
set_option linter.unusedVariables false
set_option linter.unusedSimpArgs false
namespace Go.Proofs.YthimbimilnfdnaaGreatDoor
open Go Go.Proofs.YthimbimilnfdnaaGreatDoor.AL
section
noncomputable def fsOf (t:TypeId):Array Field:=match Tryz.prog.underlying t with
 | some (.struct fs)=>fs
 | _=>#[]
noncomputable def fld (t:TypeId) (i:Nat):Field:=(fsOf t).getD i ⟨ "",0,0,false,"","",0⟩
theorem utI:Tryz.prog.underlying 3=some (.int .i64):=by kernel_rfl
theorem utB8:Tryz.prog.underlying 5=some (.int .u8):=by kernel_rfl
theorem utStr:Tryz.prog.underlying 9=some .string:=by kernel_rfl
theorem utBs8:Tryz.prog.underlying 55=some (.slice 5):=by kernel_rfl
theorem utPr:Tryz.prog.underlying 132=some (.array 2 3):=by kernel_rfl
theorem utPrs:Tryz.prog.underlying 24=some (.slice 132):=by kernel_rfl
theorem utSp:Tryz.prog.underlying 30=some (.struct #[fld 30 0,fld 30 1,fld 30 2]):=by kernel_rfl
theorem ztSp:Tryz.prog.cellsOf 30=3:=by kernel_rfl
theorem utCh:Tryz.prog.underlying 32=some (.struct #[fld 32 0,fld 32 1,fld 32 2]):=by kernel_rfl
theorem ztCh:Tryz.prog.cellsOf 32=5:=by kernel_rfl
theorem utNt:Tryz.prog.underlying 34=some (.struct #[fld 34 0,fld 34 1,fld 34 2]):=by kernel_rfl
theorem ztNt:Tryz.prog.cellsOf 34=7:=by kernel_rfl
theorem utPe:Tryz.prog.underlying 48=some (.struct #[fld 48 0]):=by kernel_rfl
theorem ztPe:Tryz.prog.cellsOf 48=1:=by kernel_rfl
theorem utPc:Tryz.prog.underlying 74=some (.struct #[fld 74 0,fld 74 1,fld 74 2]):=by kernel_rfl
theorem ztPc:Tryz.prog.cellsOf 74=3:=by kernel_rfl
theorem utNw:Tryz.prog.underlying 26=some (.struct #[fld 26 0,fld 26 1]):=by kernel_rfl
theorem ztNw:Tryz.prog.cellsOf 26=2:=by kernel_rfl
theorem utRm:Tryz.prog.underlying 28=some (.struct #[fld 28 0,fld 28 1]):=by kernel_rfl
theorem ztRm:Tryz.prog.cellsOf 28=3:=by kernel_rfl
theorem utMv:Tryz.prog.underlying 36=some (.struct #[fld 36 0,fld 36 1,fld 36 2,fld 36 3,fld 36 4]):=by kernel_rfl
theorem ztMv:Tryz.prog.cellsOf 36=11:=by kernel_rfl
theorem utNts:Tryz.prog.underlying 46=some (.slice 34):=by kernel_rfl
theorem ztNts:Tryz.prog.cellsOf 46=1:=by kernel_rfl
theorem utPes:Tryz.prog.underlying 22=some (.slice 48):=by kernel_rfl
theorem ztPes:Tryz.prog.cellsOf 22=1:=by kernel_rfl
theorem utPcs:Tryz.prog.underlying 23=some (.slice 74):=by kernel_rfl
theorem ztPcs:Tryz.prog.cellsOf 23=1:=by kernel_rfl
theorem ztI8:Tryz.prog.cellsOf 3=1:=by kernel_rfl
theorem ztB8:Tryz.prog.cellsOf 5=1:=by kernel_rfl
theorem ztStr:Tryz.prog.cellsOf 9=1:=by kernel_rfl
theorem ztBs8:Tryz.prog.cellsOf 55=1:=by kernel_rfl
theorem ztPr:Tryz.prog.cellsOf 132=2:=by kernel_rfl
theorem ztPrs:Tryz.prog.cellsOf 24=1:=by kernel_rfl
theorem one_Nt(n:Nt):∀ c∈(dNt n).cells,c.one=true:=fun c hc=>by
 rw [dNt_cells] at hc;simp at hc
 rcases hc with rfl | rfl | rfl | rfl | rfl | rfl | rfl <;> rfl
theorem one_Pe(l:List Nt):∀ c∈(dPe l).cells,c.one=true:=fun c hc=>by
 rw [dPe_cells] at hc;simp at hc;subst hc;rfl
theorem one_Pc(p:Pc):∀ c∈(dPc p).cells,c.one=true:=fun c hc=>by
 rw [dPc_cells] at hc;simp at hc;rcases hc with rfl | rfl | rfl <;> rfl
theorem one_Pr(p:Int×Int):∀ c∈(dPr p).cells,c.one=true:=fun c hc=>by
 rw [dPr_cells] at hc;simp at hc;rcases hc with rfl | rfl <;> rfl
theorem one_Rm(r:Rm):∀ c∈(dRm r).cells,c.one=true:=fun c hc=>by
 rw [dRm_cells] at hc;simp at hc;rcases hc with rfl | rfl | rfl <;> rfl
theorem one_Mv(m:Mv):∀ c∈(dMv m).cells,c.one=true:=fun c hc=>by
 rw [dMv_cells] at hc;simp at hc
 rcases hc with rfl | rfl | rfl | rfl | rfl | rfl | rfl | rfl | rfl | rfl | rfl <;> rfl
section
variable {H:Type}{enc:TypeId×Value→H}{w:World}
theorem shows_i64R{P:Program}{t:TypeId}(ht:P.underlying t=some (.int .i64)):Shows enc P w t (fun y:{n:Int // -9223372036854775808≤n∧n<9223372036854775808}=>dI y.1):=by
 intro fuel cs x h
 obtain⟨n,rfl,_,hw⟩:=DataW.trod_int ht h
 have hs:Sc (.int .i64 n):=by simpa [Sc,Lit.wf] using hw
 have hs':-9223372036854775808≤n∧n<9223372036854775808:=by
  simp [Sc,IntKind.min,IntKind.max,IntKind.signed,IntKind.bits] at hs
  omega
 exact⟨⟨n,hs'⟩,repL_one (.lit hs)⟩
theorem shBs8:Shows enc Tryz.prog w 55 dBy:=shows_slice utBs8 ztB8 (fun _=>rfl) (fun y c hc=>by simp [AL.dU,D.cells] at hc;subst hc;rfl) (shows_u8 utB8)
theorem shStr:Shows enc Tryz.prog w 9 dZ:=shows_str utStr
theorem shSp:Shows enc Tryz.prog w 30 dSp:=shows_map (shows_structN utSp (by rw [ztSp];kernel_rfl)
 (showsR_cons (t:=3) (off':=1) (by kernel_rfl) (by kernel_rfl) (by rw [ztI8]) (shows_i64R utI) (showsR_cons (t:=3) (off':=2) (by kernel_rfl) (by kernel_rfl) (by rw [ztI8]) (shows_i64R utI) (showsR_cons (t:=9) (off':=3) (by kernel_rfl) (by kernel_rfl) (by rw [ztStr]) shStr showsR_nil))))
 (fun y=>⟨⟨y.1.1,y.2.1.1,y.2.2.1,y.1.2,y.2.1.2⟩,rfl⟩)
theorem shCh:Shows enc Tryz.prog w 32 dCh:=shows_map (shows_structN utCh (by rw [ztCh];kernel_rfl)
 (showsR_cons (t:=3) (off':=1) (by kernel_rfl) (by kernel_rfl) (by rw [ztI8]) (shows_i64R utI) (showsR_cons (t:=3) (off':=2) (by kernel_rfl) (by kernel_rfl) (by rw [ztI8]) (shows_i64R utI) (showsR_cons (t:=30) (off':=5) (by kernel_rfl) (by kernel_rfl) (by rw [ztSp]) shSp showsR_nil))))
 (fun y=>⟨⟨y.1.1,y.2.1.1,y.2.2.1,y.1.2,y.2.1.2⟩,rfl⟩)
theorem shNt:Shows enc Tryz.prog w 34 dNt:=shows_map (shows_structN utNt (by rw [ztNt];kernel_rfl)
 (showsR_cons (t:=3) (off':=1) (by kernel_rfl) (by kernel_rfl) (by rw [ztI8]) (shows_i64R utI) (showsR_cons (t:=3) (off':=2) (by kernel_rfl) (by kernel_rfl) (by rw [ztI8]) (shows_i64R utI) (showsR_cons (t:=32) (off':=7) (by kernel_rfl) (by kernel_rfl) (by rw [ztCh]) shCh showsR_nil))))
 (fun y=>⟨⟨y.1.1,y.2.1.1,y.2.2.1,y.1.2,y.2.1.2⟩,rfl⟩)
theorem shNts:Shows enc Tryz.prog w 46 (fun l:List Nt=>.sl 7 (l.map dNt)):=shows_slice utNts ztNt dNt_len one_Nt shNt
theorem shPe:Shows enc Tryz.prog w 48 dPe:=shows_map (shows_structN utPe (by rw [ztPe];kernel_rfl)
 (showsR_cons (t:=46) (off':=1) (by kernel_rfl) (by kernel_rfl) (by rw [ztNts]) shNts showsR_nil))
 (fun y=>⟨y.1,rfl⟩)
theorem shPes:Shows enc Tryz.prog w 22 (fun l:List (List Nt)=>.sl 1 (l.map dPe)):=shows_slice utPes ztPe dPe_len one_Pe shPe
theorem shPc:Shows enc Tryz.prog w 74 dPc:=shows_map (shows_structN utPc (by rw [ztPc];kernel_rfl)
 (showsR_cons (t:=3) (off':=1) (by kernel_rfl) (by kernel_rfl) (by rw [ztI8]) (shows_i64R utI) (showsR_cons (t:=3) (off':=2) (by kernel_rfl) (by kernel_rfl) (by rw [ztI8]) (shows_i64R utI) (showsR_cons (t:=55) (off':=3) (by kernel_rfl) (by kernel_rfl) (by rw [ztBs8]) shBs8 showsR_nil))))
 (fun y=>⟨⟨y.1.1,y.2.1.1,y.2.2.1⟩,rfl⟩)
theorem shPcs:Shows enc Tryz.prog w 23 (fun l:List Pc=>.sl 3 (l.map dPc)):=shows_slice utPcs ztPc (fun _=>rfl) one_Pc shPc
theorem shPr:Shows enc Tryz.prog w 132 dPr:=shows_map (shows_array2 utPr (by rw [ztPr,ztI8]) (shows_i64R utI)) (fun y=>⟨(y.1.1,y.2.1),rfl⟩)
theorem shPrs:Shows enc Tryz.prog w 24 (fun l:List (Int×Int)=>.sl 2 (l.map dPr)):=shows_slice utPrs ztPr (fun _=>rfl) one_Pr shPr
theorem shNw:Shows enc Tryz.prog w 26 dNw:=shows_map (shows_structN utNw (by rw [ztNw];kernel_rfl)
 (showsR_cons (t:=23) (off':=1) (by kernel_rfl) (by kernel_rfl) (by rw [ztPcs]) shPcs (showsR_cons (t:=24) (off':=2) (by kernel_rfl) (by kernel_rfl) (by rw [ztPrs]) shPrs showsR_nil)))
 (fun y=>⟨⟨y.1,y.2.1⟩,rfl⟩)
theorem shRm:Shows enc Tryz.prog w 28 dRm:=shows_map (shows_structN utRm (by rw [ztRm];kernel_rfl)
 (showsR_cons (t:=22) (off':=1) (by kernel_rfl) (by kernel_rfl) (by rw [ztPes]) shPes (showsR_cons (t:=26) (off':=3) (by kernel_rfl) (by kernel_rfl) (by rw [ztNw]) shNw showsR_nil)))
 (fun y=>⟨⟨y.1,y.2.1⟩,rfl⟩)
theorem shMv:Shows enc Tryz.prog w 36 dMv:=shows_map (shows_structN utMv (by rw [ztMv];kernel_rfl)
 (showsR_cons (t:=3) (off':=1) (by kernel_rfl) (by kernel_rfl) (by rw [ztI8]) (shows_i64R utI) (showsR_cons (t:=3) (off':=2) (by kernel_rfl) (by kernel_rfl) (by rw [ztI8]) (shows_i64R utI) (showsR_cons (t:=3) (off':=3) (by kernel_rfl) (by kernel_rfl) (by rw [ztI8]) (shows_i64R utI) (showsR_cons (t:=3) (off':=4) (by kernel_rfl) (by kernel_rfl) (by rw [ztI8]) (shows_i64R utI) (showsR_cons (t:=34) (off':=11) (by kernel_rfl) (by kernel_rfl) (by rw [ztNt]) shNt showsR_nil))))))
 (fun y=>⟨⟨y.1.1,y.2.1.1,y.2.2.1.1,y.2.2.2.1.1,y.2.2.2.2.1,y.1.2⟩,rfl⟩)
end
theorem sPe:Sees Tryz.prog 48 (fun x=>∃ n:List Nt,x=dPe n):=sees_agg (by rw [utPe]) shPe (fun _=>rfl) one_Pe
theorem sRm:Sees Tryz.prog 28 (fun x=>∃ n:Rm,x=dRm n):=sees_agg (by rw [utRm]) shRm (fun _=>rfl) one_Rm
theorem sMv:Sees Tryz.prog 36 (fun x=>∃ n:Mv,x=dMv n):=sees_agg (by rw [utMv]) shMv (fun _=>rfl) one_Mv
end

section
open Go Go.Proofs.YthimbimilnfdnaaGreatDoor.AL Go.ChangeShapes Go.WideShapes Go.ChangeAt Go.RowKit Go.Lib Go.Shelf
theorem own:ownKnob Tryz.prog.godebug=none:=by kernel_rfl
theorem laidOut:laidOutB Tryz.prog=true:=by kernel_rfl
theorem ip_of{w:World}{cs:List D}{g:Nat}(h:∀ (k:Nat) (c:D),cs[k]?=some c→∃ v,w.cell? ⟨g,k,none⟩=some v∧c=.lit v∧Sc v):Rep (allI w) w (.ip (.agg cs)) (.pointer (some ⟨g,0,none⟩)):=by
 have ha:∀ k,(⟨g,0,none⟩:Addr).add k=⟨g,k,none⟩:=fun k=>by
  cases k <;> simp [Addr.add]
 refine .ip ⟨g,0,none⟩ (fun k=>(w.cell? ⟨g,k,none⟩).getD (.bool false)) ?_ ?_ ?_
 ·intro c hc
  obtain⟨k,hk⟩:=List.mem_iff_getElem?.1 hc
  obtain⟨v,_,rfl,_⟩:=h k c hk
  rfl
 ·intro k c hk
  obtain⟨v,hv,_,_⟩:=h k c hk
  rw [ha]
  exact⟨by simp [allI,hv],by simp [hv]⟩
 ·intro k c hk
  obtain⟨v,hv,rfl,hs⟩:=h k c hk
  simp only [hv,Option.getD_some]
  exact .lit hs
theorem sc_first(c:Nat):Sc (.int .u8 (firstT c)):=by
 have h:=firstT_cases c
 simp only [Sc,IntKind.min,IntKind.max]
 rcases h with h | h | h | h | h | h | h | h | h <;> rw [h] <;> decide
theorem sc_lo(i:Nat):Sc (.int .u8 (accLo i)):=by
 have h:accLo i≤255:=by
  unfold accLo
  repeat' split
  all_goals omega
 exact⟨by simp [IntKind.min,IntKind.signed],by simp [IntKind.max,IntKind.signed,IntKind.bits];omega⟩
theorem sc_hi(i:Nat):Sc (.int .u8 (accHi i)):=by
 have h:accHi i≤255:=by
  unfold accHi
  repeat' split
  all_goals omega
 exact⟨by simp [IntKind.min,IntKind.signed],by simp [IntKind.max,IntKind.signed,IntKind.bits];omega⟩
theorem pairs_get(lo hi:Nat→D):∀ (n b k:Nat) (c:D),((List.range' b n).flatMap fun i=>[lo i,hi i])[k]?=some c →
  ∃ i,b≤i∧i<b+n∧((k=2*(i-b)∧c=lo i)∨(k=2*(i-b)+1∧c=hi i))
 | 0,b,k,c,h=>by simp at h
 | n+1,b,0,c,h=>by
  simp [List.range'_succ] at h
  exact⟨b,by omega,by omega,.inl ⟨by omega,h.symm⟩⟩
 | n+1,b,1,c,h=>by
  simp [List.range'_succ] at h
  exact⟨b,by omega,by omega,.inr ⟨by omega,h.symm⟩⟩
 | n+1,b,k+2,c,h=>by
  simp only [List.range'_succ,List.flatMap_cons,List.cons_append,List.nil_append,List.getElem?_cons_succ] at h
  obtain⟨i,h1,h2,h3⟩:=pairs_get lo hi n (b+1) k c h
  refine⟨i,by omega,by omega,?_⟩
  rcases h3 with ⟨h3,h4⟩ | ⟨h3,h4⟩
  ·exact .inl ⟨by omega,h4⟩
  ·exact .inr ⟨by omega,h4⟩
abbrev laidL:List (String×DataW Unit):=[("unicode/utf8.acceptRanges",Rows.laid_unicode_utf8_acceptRanges),("unicode/utf8.first",Rows.laid_unicode_utf8_first)]
set_option maxRecDepth 1000000 in
theorem tabs_rd{W:World}(h:laidMet Tryz.prog laidL W):Lib.Utf8Tabs 1 2 W :=
 utf8Tabs_of_reads (ρ:=Tryz.lays197_ren) {Tryz.lays197 with} ⟨by kernel_rfl,by kernel_rfl,by kernel_rfl,by kernel_rfl,by kernel_rfl,by kernel_rfl,by kernel_rfl⟩ (Lib.laidMet.reads h (.tail _ (.head _))) (Lib.laidMet.reads h (.head _))
theorem glOk_of{W:World}(h0:laidMet Tryz.prog laidL W):GlOk (allI W) W:=by
 have h:=tabs_rd h0
 intro p hp
 simp only [glbTab,List.mem_cons,List.not_mem_nil,or_false] at hp
 rcases hp with rfl | rfl
 ·refine ip_of fun k c hk=>?_
  rw [List.getElem?_map] at hk
  obtain⟨j,hj,rfl⟩:=Option.map_eq_some_iff.1 hk
  obtain⟨hl,he⟩:=List.getElem?_eq_some_iff.1 hj
  simp at hl he
  subst he
  exact⟨_,h.1 _ hl,rfl,sc_first _⟩
 ·refine ip_of fun k c hk=>?_
  rw [List.range_eq_range'] at hk
  obtain⟨i,_,h2,h3⟩:=pairs_get _ _ 16 0 k c hk
  have hi:=h.2 i (by omega)
  rcases h3 with ⟨rfl,rfl⟩ | ⟨rfl,rfl⟩
  ·exact⟨_,hi.1,rfl,sc_lo _⟩
  ·exact⟨_,hi.2,rfl,sc_hi _⟩
noncomputable def laidWorld (os:Os):World :=
 let w0:=World.holding Tryz.prog os ⟨#[],#[],[]⟩
 let put (h:Array Obj) (g:Nat) (cs:Array Value):Array Obj:=h.modify g fun
  | .cells _ t frozen=>.cells cs t frozen
  | o=>o
 let h1:=put w0.heap 1 (Lib.firstTab.map fun z=>Value.int .u8 z).toArray
 let h2:=put h1 2 ((List.range 16).flatMap fun i=>[Value.int .u8 (Lib.accLo i),Value.int .u8 (Lib.accHi i)]).toArray
 {w0 with heap:=h2}
theorem sI64:Sees Tryz.prog 3 (fun x=>∃ n:Int,(IntKind.i64.min≤n∧n≤IntKind.i64.max)∧x=.lit (.int .i64 n)):=sees_int utI
end

end Go.Proofs.YthimbimilnfdnaaGreatDoor
