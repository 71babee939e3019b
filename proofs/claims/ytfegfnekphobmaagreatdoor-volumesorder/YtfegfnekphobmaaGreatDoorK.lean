/- Part of the proof: S403. -/
import Derived.Test.YtfegfnekphobmaaGreatDoorCards
import Derived.Test.YtfegfnekphobmaaGreatDoorTie
import Derived.Deep.DeepHandedRow
import Derived.Deep.DeepWitnessRowRef
import Derived.Lib.LaidIn
import Derived.Lib.LaidTab
import Derived.Stop.LaidErr
import Derived.Lib.LaidU8
import Derived.ProofKit
import Derived.SizedLaws
import Derived.PinnedBridge
import Derived.SevenTiedAt
import Derived.Test.YtfegfnekphobmaaGreatDoorJ
set_option linter.unnecessarySimpa false
set_option linter.unusedVariables false
set_option linter.unusedSimpArgs false
namespace Go.Proofs.YtfegfnekphobmaaGreatDoor
open Go Go.Proofs.YtfegfnekphobmaaGreatDoor.AL
section
open Go Go.Proofs.YtfegfnekphobmaaGreatDoor.AL Go.ChangeShapes Go.WideShapes Go.ChangeAt Go.RowKit Go.Lib Go.Shelf
theorem own:ownKnob Tryz.prog.godebug=none:=by kernel_rfl
theorem laidOut:laidOutB Tryz.prog=true:=by kernel_rfl
theorem ip_of{w:World}{cs:List D}{g:Nat}(h:∀ (k:Nat) (c:D),cs[k]?=some c→∃ v,w.cell? ⟨g,k,none⟩=some v∧c=.lit v∧Sc v):Rep (allI w) w (.ip (.agg cs)) (.pointer (some ⟨g,0,none⟩)):=by
 have ha:∀ k,(⟨g,0,none⟩:Addr).add k=⟨g,k,none⟩:=fun k=>by
  cases k <;> simp [Addr.add]
 refine .ip ⟨g,0,none⟩ (fun k=>(w.cell? ⟨g,k,none⟩).getD (.bool false)) ?_ ?_ ?_
 ·intro c hc
  obtain⟨k,hk⟩:=List.mem_iff_getElem?.1 hc
  obtain⟨v,_,rfl,_⟩:=h k c hk
  rfl
 ·intro k c hk
  obtain⟨v,hv,_,_⟩:=h k c hk
  rw [ha]
  exact⟨by simp [allI,hv],by simp [hv]⟩
 ·intro k c hk
  obtain⟨v,hv,rfl,hs⟩:=h k c hk
  simp only [hv,Option.getD_some]
  exact .lit hs
def zs8:List Int:=hNums.map fun x=>(x.toNat:Int)
def zs64:List Int:=kNums.map fun x=>(x.toNat:Int)
theorem laid8:(Rows.laid_hansard_digest_start:DataW Unit)=tabData .u32 zs8:=rfl
theorem laid64:(Rows.laid_hansard_digest_numbers:DataW Unit)=tabData .u32 zs64:=rfl
theorem sc_u32(x:UInt32):Sc (.int .u32 (x.toNat:Int)):=by
 have:=x.toNat_lt
 simp only [Sc,IntKind.min,IntKind.max,IntKind.signed,IntKind.bits]
 refine⟨?_,?_⟩ <;> simp <;> omega
theorem tab_of{W:World}{g:Nat}{l:List UInt32}(h:∀ i,i<l.length→W.cell? ⟨g,i,none⟩=some (.int .u32 ((l.map fun x=>(x.toNat:Int)).getD i 0))):Rep (allI W) W (.ip (.agg (l.map dQ))) (.pointer (some ⟨g,0,none⟩)):=by
 refine ip_of fun k c hk=>?_
 rw [List.getElem?_map] at hk
 obtain⟨x,hx,rfl⟩:=Option.map_eq_some_iff.1 hk
 obtain⟨hl,he⟩:=List.getElem?_eq_some_iff.1 hx
 refine⟨_,h k hl,?_,?_⟩
 ·simp [hl,he,dQ]
 ·simp only [List.getD,List.getElem?_map,hx,Option.map_some,Option.getD_some]
  exact sc_u32 x
theorem sc_first(c:Nat):Sc (.int .u8 (firstT c)):=by
 have h:=firstT_cases c
 simp only [Sc,IntKind.min,IntKind.max]
 rcases h with h | h | h | h | h | h | h | h | h <;> rw [h] <;> decide
theorem sc_lo(i:Nat):Sc (.int .u8 (accLo i)):=by
 have h:accLo i≤255:=by
  unfold accLo
  repeat' split
  all_goals omega
 exact⟨by simp [IntKind.min,IntKind.signed],by simp [IntKind.max,IntKind.signed,IntKind.bits];omega⟩
theorem sc_hi(i:Nat):Sc (.int .u8 (accHi i)):=by
 have h:accHi i≤255:=by
  unfold accHi
  repeat' split
  all_goals omega
 exact⟨by simp [IntKind.min,IntKind.signed],by simp [IntKind.max,IntKind.signed,IntKind.bits];omega⟩
theorem pairs_get(lo hi:Nat→D):∀ (n b k:Nat) (c:D),((List.range' b n).flatMap fun i=>[lo i,hi i])[k]?=some c →
  ∃ i,b≤i∧i<b+n∧((k=2*(i-b)∧c=lo i)∨(k=2*(i-b)+1∧c=hi i))
 | 0,b,k,c,h=>by simp at h
 | n+1,b,0,c,h=>by
  simp [List.range'_succ] at h
  exact⟨b,by omega,by omega,.inl ⟨by omega,h.symm⟩⟩
 | n+1,b,1,c,h=>by
  simp [List.range'_succ] at h
  exact⟨b,by omega,by omega,.inr ⟨by omega,h.symm⟩⟩
 | n+1,b,k+2,c,h=>by
  simp only [List.range'_succ,List.flatMap_cons,List.cons_append,List.nil_append,List.getElem?_cons_succ] at h
  obtain⟨i,h1,h2,h3⟩:=pairs_get lo hi n (b+1) k c h
  refine⟨i,by omega,by omega,?_⟩
  rcases h3 with ⟨h3,h4⟩ | ⟨h3,h4⟩
  ·exact .inl ⟨by omega,h4⟩
  ·exact .inr ⟨by omega,h4⟩
theorem gS:Tryz.prog.globalNamed "hansard/digest.start" = some 0:=by kernel_rfl
theorem gK:Tryz.prog.globalNamed "hansard/digest.numbers" = some 1:=by kernel_rfl
theorem uA8:Tryz.prog.underlying 129=some (.array 8 128):=by kernel_rfl
theorem uA64:Tryz.prog.underlying 156=some (.array 64 128):=by kernel_rfl
theorem uU32:Tryz.prog.underlying 128=some (.int .u32):=by kernel_rfl
theorem zU32:Tryz.prog.cellsOf 128=1:=by kernel_rfl
theorem zA8:Tryz.prog.cellsOf 129=8:=by kernel_rfl
theorem zA64:Tryz.prog.cellsOf 156=64:=by kernel_rfl
abbrev laidL:List (String×DataW Unit):=[("unicode/utf8.acceptRanges",Rows.laid_unicode_utf8_acceptRanges),("hansard/digest.start",Rows.laid_hansard_digest_start),("hansard/digest.numbers",Rows.laid_hansard_digest_numbers),("unicode/utf8.first",Rows.laid_unicode_utf8_first)]
set_option maxRecDepth 1000000 in
theorem tabs_rd{W:World}(h:laidMet Tryz.prog laidL W):Lib.Utf8Tabs 3 4 W :=
 utf8Tabs_of_reads (ρ:=Tryz.lays197_ren) {Tryz.lays197 with} ⟨by kernel_rfl,by kernel_rfl,by kernel_rfl,by kernel_rfl,by kernel_rfl,by kernel_rfl,by kernel_rfl⟩ (Lib.laidMet.reads h (.tail _ (.tail _ (.tail _ (.head _))))) (Lib.laidMet.reads h (.head _))
set_option maxRecDepth 100000 in
theorem glOk_of{W:World}(h0:laidMet Tryz.prog laidL W):GlOk (allI W) W:=by
 have hU:=tabs_rd h0
 have h:=h0.tail
 rw [laid8,laid64] at h
 have h8:=tabIs_of_head gS (t:=129) (by kernel_rfl) uA8 uU32 zU32 zA8 h
 have h64:=tabIs_of_head gK (t:=156) (by kernel_rfl) uA64 uU32 zU32 zA64 h.tail
 intro p hp
 simp only [glbTab,List.mem_cons,List.not_mem_nil,or_false] at hp
 rcases hp with rfl | rfl | rfl | rfl
 ·exact tab_of fun i hi=>h8.cell gS i (by simpa [zs8] using hi)
 ·exact tab_of fun i hi=>h64.cell gK i (by simpa [zs64] using hi)
 ·refine ip_of fun k c hk=>?_
  rw [List.getElem?_map] at hk
  obtain⟨j,hj,rfl⟩:=Option.map_eq_some_iff.1 hk
  obtain⟨hl,he⟩:=List.getElem?_eq_some_iff.1 hj
  simp at hl he
  subst he
  exact⟨_,hU.1 _ hl,rfl,sc_first _⟩
 ·refine ip_of fun k c hk=>?_
  rw [List.range_eq_range'] at hk
  obtain⟨i,_,h2,h3⟩:=pairs_get _ _ 16 0 k c hk
  have hi:=hU.2 i (by omega)
  rcases h3 with ⟨rfl,rfl⟩ | ⟨rfl,rfl⟩
  ·exact⟨_,hi.1,rfl,sc_lo _⟩
  ·exact⟨_,hi.2,rfl,sc_hi _⟩
noncomputable def laidWorld (os:Os):World :=
 let w0:=World.holding Tryz.prog os ⟨#[],#[],[]⟩
 let put (h:Array Obj) (g:Nat) (cs:Array Value):Array Obj:=h.modify g fun
  | .cells _ t frozen=>.cells cs t frozen
  | o=>o
 let h1:=put w0.heap 0 (zs8.map fun z=>Value.int .u32 z).toArray
 let h2:=put h1 1 (zs64.map fun z=>Value.int .u32 z).toArray
 let h3:=put h2 3 (Lib.firstTab.map fun z=>Value.int .u8 z).toArray
 let h4:=put h3 4 ((List.range 16).flatMap fun i=>[Value.int .u8 (Lib.accLo i),Value.int .u8 (Lib.accHi i)]).toArray
 {w0 with heap:=h4}
theorem sU8i:Sees Tryz.prog 5 (fun x=>∃ n:Int,(IntKind.u8.min≤n∧n≤IntKind.u8.max)∧x=.lit (.int .u8 n)):=sees_int uB8
theorem u8_lit{n:Int}(hb:IntKind.u8.min≤n∧n≤IntKind.u8.max):dU (UInt8.ofNat n.toNat)=.lit (.int .u8 n):=by
 simp [IntKind.min,IntKind.max,IntKind.signed,IntKind.bits] at hb
 simp [dU]
 omega
theorem order'(l:List Pg) (n m:Int) (hn:IntKind.u8.min≤n∧n≤IntKind.u8.max) (hm:IntKind.u8.min≤m∧m≤IntKind.u8.max):PCall Tryz.prog 6 [.sl 66 (l.map dPg),.lit (.int .u8 n),.lit (.int .u8 m)] (.ret (dB true)):=by
 have h:=volumesOrder l (UInt8.ofNat n.toNat) (UInt8.ofNat m.toNat)
 rw [u8_lit hn,u8_lit hm] at h
 exact h
end

end Go.Proofs.YtfegfnekphobmaaGreatDoor
