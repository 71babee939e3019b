/-
  NARROWER THAN 'FOR EVERY INPUT', by the rows' own cells (each row's printed sentence says how): SettledSpec: laid · SettledStateSpec: laid · SettledWhole: laid · SettledEarlier: laid · SettledRemains: laid · FeedsSpec: laid · FeedsMissingSpec: laid · FeedsOrder: laid · FeedsSet: laid · FeedsTwice: laid.
  DERIVED. THE GIVEN ROWS OF THIS SEAT. 10 by the template 'for every input the law returns true; each argument reads behind the call as it read before'; 0 by the template 'total and deterministic' (their statements: YteonapeaaepipaaDoorTotals.lean).
  GIVEN WITH THE SEED: the statements are not yours to turn. If you find one false, say at which input.
  Laid BY PROGRAM, IN A SANDBOX (cutbox-rows.mjs): the forced cells as the released guide's own fill.sh prints them over the translation 83842e5f186399a2… (all of the seat's roots in one cut). By AI agents, Wed Nov 11 2026. No macro, syntax, notation, axiom, sorry.
-/
import Derived.Test.YteonapeaaepipaaDoorChecked
import GoSem.PinnedTables
import GoSem.Claim
import GoSem.ClaimJoined
import GoSem.ClaimMapViews
import Derived.JoinedTies
import Derived.KernelRfl
namespace Go.Proofs.YteonapeaaepipaaDoor
/- THE CELL 'sum', in the pinned program and in every row, IS THE sha256 OF THE DUMP (.gsa) THAT YteonapeaaepipaaDoorProg.lean LOADS. Nothing in Lean hashes anything: it is a label: what it is worth is what the hold of that sum in a sandbox is worth. -/
noncomputable def Tryd.pinned : Pinned := { name := "yteonapeaaepipaadoor", sum := "83842e5f186399a2447f725ced6e55f1c6e610fff4bb3acefc3ad4f1d821ad6f", checked := Tryd.checked }
namespace Rows
def none {H : Type} : Left H := { results := [], args := [] }

/- WHAT THE LISTED PACKAGE-LEVEL VARIABLES READ AS WHEN THE CALL BEGINS. Each datum BY PROGRAM (the guide's laid-datum.mjs) off the statement by which the dump's own 'gosem.cut.vars' lays the variable. In a bare row this is a premise. The card (YteonapeaaepipaaDoorCards.lean) ties it to the program's text. -/
def laid_unicode_utf8_acceptRanges {H : Type} : DataW H := .agg [.agg [.lit (.int .u8 128), .lit (.int .u8 191)], .agg [.lit (.int .u8 160), .lit (.int .u8 191)], .agg [.lit (.int .u8 128), .lit (.int .u8 159)], .agg [.lit (.int .u8 144), .lit (.int .u8 191)], .agg [.lit (.int .u8 128), .lit (.int .u8 143)], .agg [.lit (.int .u8 0), .lit (.int .u8 0)], .agg [.lit (.int .u8 0), .lit (.int .u8 0)], .agg [.lit (.int .u8 0), .lit (.int .u8 0)], .agg [.lit (.int .u8 0), .lit (.int .u8 0)], .agg [.lit (.int .u8 0), .lit (.int .u8 0)], .agg [.lit (.int .u8 0), .lit (.int .u8 0)], .agg [.lit (.int .u8 0), .lit (.int .u8 0)], .agg [.lit (.int .u8 0), .lit (.int .u8 0)], .agg [.lit (.int .u8 0), .lit (.int .u8 0)], .agg [.lit (.int .u8 0), .lit (.int .u8 0)], .agg [.lit (.int .u8 0), .lit (.int .u8 0)]]
/-- One of Go's own tables, pinned by name: the form's constant. -/
def laid_unicode_utf8_first : DataW Unit := Go.Pinned.utf8First

/-- 'hansardlaw23.SettledSpec': WHATEVER THE INPUT: true; the input reads as it did. -/
def settledSpecSpec : ChangeSpec := { name := "settledSpec", fn := fun _ => fun
  | [d1, d2, d3, d4, d5] => { results := [.lit (.bool true)], args := [d1, d2, d3, d4, d5] }
  | _ => none }
def settledSpecRow : OpenClaim := { program := "yteonapeaaepipaadoor", sum := "83842e5f186399a2447f725ced6e55f1c6e610fff4bb3acefc3ad4f1d821ad6f", func := "hansard/hansardlaw23.SettledSpec", spec := "settledSpec", unfollowed := true, recurses := true, named := ["unicode/utf8.first", "unicode/utf8.acceptRanges"], apart := false, laid := [("unicode/utf8.acceptRanges", laid_unicode_utf8_acceptRanges), ("unicode/utf8.first", laid_unicode_utf8_first)] }
def SettledSpecSaid : Prop := settledSpecRow.holds Tryd.pinned (OpenSpec.ofChange settledSpecSpec)

/-- ITS FALSE NEIGHBOUR: 'it returns false'. Refute it at one input. -/
def settledSpecWrong : ChangeSpec := { name := "settledSpec", fn := fun _ => fun
  | [d1, d2, d3, d4, d5] => { results := [.lit (.bool false)], args := [d1, d2, d3, d4, d5] }
  | _ => none }
def SettledSpecWrongFalsely : Prop := settledSpecRow.holds Tryd.pinned (OpenSpec.ofChange settledSpecWrong)

/-- 'hansardlaw23.SettledStateSpec': WHATEVER THE INPUT: true; the input reads as it did. -/
def settledStateSpecSpec : ChangeSpec := { name := "settledStateSpec", fn := fun _ => fun
  | [d1, d2, d3, d4, d5, d6, d7] => { results := [.lit (.bool true)], args := [d1, d2, d3, d4, d5, d6, d7] }
  | _ => none }
def settledStateSpecRow : OpenClaim := { program := "yteonapeaaepipaadoor", sum := "83842e5f186399a2447f725ced6e55f1c6e610fff4bb3acefc3ad4f1d821ad6f", func := "hansard/hansardlaw23.SettledStateSpec", spec := "settledStateSpec", unfollowed := true, recurses := true, named := ["unicode/utf8.first", "unicode/utf8.acceptRanges"], apart := false, laid := [("unicode/utf8.acceptRanges", laid_unicode_utf8_acceptRanges), ("unicode/utf8.first", laid_unicode_utf8_first)] }
def SettledStateSpecSaid : Prop := settledStateSpecRow.holds Tryd.pinned (OpenSpec.ofChange settledStateSpecSpec)

/-- ITS FALSE NEIGHBOUR: 'it returns false'. Refute it at one input. -/
def settledStateSpecWrong : ChangeSpec := { name := "settledStateSpec", fn := fun _ => fun
  | [d1, d2, d3, d4, d5, d6, d7] => { results := [.lit (.bool false)], args := [d1, d2, d3, d4, d5, d6, d7] }
  | _ => none }
def SettledStateSpecWrongFalsely : Prop := settledStateSpecRow.holds Tryd.pinned (OpenSpec.ofChange settledStateSpecWrong)

/-- 'hansardlaw23.SettledWhole': WHATEVER THE INPUT: true; the input reads as it did. -/
def settledWholeSpec : ChangeSpec := { name := "settledWhole", fn := fun _ => fun
  | [d1, d2] => { results := [.lit (.bool true)], args := [d1, d2] }
  | _ => none }
def settledWholeRow : OpenClaim := { program := "yteonapeaaepipaadoor", sum := "83842e5f186399a2447f725ced6e55f1c6e610fff4bb3acefc3ad4f1d821ad6f", func := "hansard/hansardlaw23.SettledWhole", spec := "settledWhole", unfollowed := true, recurses := true, named := ["unicode/utf8.first", "unicode/utf8.acceptRanges"], apart := false, laid := [("unicode/utf8.acceptRanges", laid_unicode_utf8_acceptRanges), ("unicode/utf8.first", laid_unicode_utf8_first)] }
def SettledWholeSaid : Prop := settledWholeRow.holds Tryd.pinned (OpenSpec.ofChange settledWholeSpec)

/-- ITS FALSE NEIGHBOUR: 'it returns false'. Refute it at one input. -/
def settledWholeWrong : ChangeSpec := { name := "settledWhole", fn := fun _ => fun
  | [d1, d2] => { results := [.lit (.bool false)], args := [d1, d2] }
  | _ => none }
def SettledWholeWrongFalsely : Prop := settledWholeRow.holds Tryd.pinned (OpenSpec.ofChange settledWholeWrong)

/-- 'hansardlaw23.SettledEarlier': WHATEVER THE INPUT: true; the input reads as it did. -/
def settledEarlierSpec : ChangeSpec := { name := "settledEarlier", fn := fun _ => fun
  | [d1, d2, d3, d4, d5, d6, d7, d8, d9, d10] => { results := [.lit (.bool true)], args := [d1, d2, d3, d4, d5, d6, d7, d8, d9, d10] }
  | _ => none }
def settledEarlierRow : OpenClaim := { program := "yteonapeaaepipaadoor", sum := "83842e5f186399a2447f725ced6e55f1c6e610fff4bb3acefc3ad4f1d821ad6f", func := "hansard/hansardlaw23.SettledEarlier", spec := "settledEarlier", unfollowed := true, recurses := true, named := ["unicode/utf8.first", "unicode/utf8.acceptRanges"], apart := false, laid := [("unicode/utf8.acceptRanges", laid_unicode_utf8_acceptRanges), ("unicode/utf8.first", laid_unicode_utf8_first)] }
def SettledEarlierSaid : Prop := settledEarlierRow.holds Tryd.pinned (OpenSpec.ofChange settledEarlierSpec)

/-- ITS FALSE NEIGHBOUR: 'it returns false'. Refute it at one input. -/
def settledEarlierWrong : ChangeSpec := { name := "settledEarlier", fn := fun _ => fun
  | [d1, d2, d3, d4, d5, d6, d7, d8, d9, d10] => { results := [.lit (.bool false)], args := [d1, d2, d3, d4, d5, d6, d7, d8, d9, d10] }
  | _ => none }
def SettledEarlierWrongFalsely : Prop := settledEarlierRow.holds Tryd.pinned (OpenSpec.ofChange settledEarlierWrong)

/-- 'hansardlaw23.SettledRemains': WHATEVER THE INPUT: true; the input reads as it did. -/
def settledRemainsSpec : ChangeSpec := { name := "settledRemains", fn := fun _ => fun
  | [d1, d2, d3, d4, d5, d6, d7, d8] => { results := [.lit (.bool true)], args := [d1, d2, d3, d4, d5, d6, d7, d8] }
  | _ => none }
def settledRemainsRow : OpenClaim := { program := "yteonapeaaepipaadoor", sum := "83842e5f186399a2447f725ced6e55f1c6e610fff4bb3acefc3ad4f1d821ad6f", func := "hansard/hansardlaw23.SettledRemains", spec := "settledRemains", unfollowed := true, recurses := true, named := ["unicode/utf8.first", "unicode/utf8.acceptRanges"], apart := false, laid := [("unicode/utf8.acceptRanges", laid_unicode_utf8_acceptRanges), ("unicode/utf8.first", laid_unicode_utf8_first)] }
def SettledRemainsSaid : Prop := settledRemainsRow.holds Tryd.pinned (OpenSpec.ofChange settledRemainsSpec)

/-- ITS FALSE NEIGHBOUR: 'it returns false'. Refute it at one input. -/
def settledRemainsWrong : ChangeSpec := { name := "settledRemains", fn := fun _ => fun
  | [d1, d2, d3, d4, d5, d6, d7, d8] => { results := [.lit (.bool false)], args := [d1, d2, d3, d4, d5, d6, d7, d8] }
  | _ => none }
def SettledRemainsWrongFalsely : Prop := settledRemainsRow.holds Tryd.pinned (OpenSpec.ofChange settledRemainsWrong)

/-- 'hansardlaw18.FeedsSpec': WHATEVER THE INPUT: true; the input reads as it did. -/
def feedsSpecSpec : ChangeSpec := { name := "feedsSpec", fn := fun _ => fun
  | [d1, d2] => { results := [.lit (.bool true)], args := [d1, d2] }
  | _ => none }
def feedsSpecRow : OpenClaim := { program := "yteonapeaaepipaadoor", sum := "83842e5f186399a2447f725ced6e55f1c6e610fff4bb3acefc3ad4f1d821ad6f", func := "hansard/hansardlaw18.FeedsSpec", spec := "feedsSpec", inPlace := ["slices.overlaps[hansard/api.Pack]"], unfollowed := true, recurses := true, named := ["unicode/utf8.first", "unicode/utf8.acceptRanges"], apart := false, laid := [("unicode/utf8.acceptRanges", laid_unicode_utf8_acceptRanges), ("unicode/utf8.first", laid_unicode_utf8_first)] }
def FeedsSpecSaid : Prop := feedsSpecRow.holds Tryd.pinned (OpenSpec.ofChange feedsSpecSpec)

/-- ITS FALSE NEIGHBOUR: 'it returns false'. Refute it at one input. -/
def feedsSpecWrong : ChangeSpec := { name := "feedsSpec", fn := fun _ => fun
  | [d1, d2] => { results := [.lit (.bool false)], args := [d1, d2] }
  | _ => none }
def FeedsSpecWrongFalsely : Prop := feedsSpecRow.holds Tryd.pinned (OpenSpec.ofChange feedsSpecWrong)

/-- 'hansardlaw18.FeedsMissingSpec': WHATEVER THE INPUT: true; the input reads as it did. -/
def feedsMissingSpecSpec : ChangeSpec := { name := "feedsMissingSpec", fn := fun _ => fun
  | [d] => { results := [.lit (.bool true)], args := [d] }
  | _ => none }
def feedsMissingSpecRow : OpenClaim := { program := "yteonapeaaepipaadoor", sum := "83842e5f186399a2447f725ced6e55f1c6e610fff4bb3acefc3ad4f1d821ad6f", func := "hansard/hansardlaw18.FeedsMissingSpec", spec := "feedsMissingSpec", inPlace := ["slices.overlaps[hansard/api.Pack]"], unfollowed := true, recurses := true, named := ["unicode/utf8.first", "unicode/utf8.acceptRanges"], apart := false, laid := [("unicode/utf8.acceptRanges", laid_unicode_utf8_acceptRanges), ("unicode/utf8.first", laid_unicode_utf8_first)] }
def FeedsMissingSpecSaid : Prop := feedsMissingSpecRow.holds Tryd.pinned (OpenSpec.ofChange feedsMissingSpecSpec)

/-- ITS FALSE NEIGHBOUR: 'it returns false'. Refute it at one input. -/
def feedsMissingSpecWrong : ChangeSpec := { name := "feedsMissingSpec", fn := fun _ => fun
  | [d] => { results := [.lit (.bool false)], args := [d] }
  | _ => none }
def FeedsMissingSpecWrongFalsely : Prop := feedsMissingSpecRow.holds Tryd.pinned (OpenSpec.ofChange feedsMissingSpecWrong)

/-- 'hansardlaw18.FeedsOrder': WHATEVER THE INPUT: true; the input reads as it did. -/
def feedsOrderSpec : ChangeSpec := { name := "feedsOrder", fn := fun _ => fun
  | [d1, d2] => { results := [.lit (.bool true)], args := [d1, d2] }
  | _ => none }
def feedsOrderRow : OpenClaim := { program := "yteonapeaaepipaadoor", sum := "83842e5f186399a2447f725ced6e55f1c6e610fff4bb3acefc3ad4f1d821ad6f", func := "hansard/hansardlaw18.FeedsOrder", spec := "feedsOrder", inPlace := ["slices.overlaps[hansard/api.Pack]"], unfollowed := true, recurses := true, named := ["unicode/utf8.first", "unicode/utf8.acceptRanges"], apart := false, laid := [("unicode/utf8.acceptRanges", laid_unicode_utf8_acceptRanges), ("unicode/utf8.first", laid_unicode_utf8_first)] }
def FeedsOrderSaid : Prop := feedsOrderRow.holds Tryd.pinned (OpenSpec.ofChange feedsOrderSpec)

/-- ITS FALSE NEIGHBOUR: 'it returns false'. Refute it at one input. -/
def feedsOrderWrong : ChangeSpec := { name := "feedsOrder", fn := fun _ => fun
  | [d1, d2] => { results := [.lit (.bool false)], args := [d1, d2] }
  | _ => none }
def FeedsOrderWrongFalsely : Prop := feedsOrderRow.holds Tryd.pinned (OpenSpec.ofChange feedsOrderWrong)

/-- 'hansardlaw18.FeedsSet': WHATEVER THE INPUT: true; the input reads as it did. -/
def feedsSetSpec : ChangeSpec := { name := "feedsSet", fn := fun _ => fun
  | [d1, d2, d3] => { results := [.lit (.bool true)], args := [d1, d2, d3] }
  | _ => none }
def feedsSetRow : OpenClaim := { program := "yteonapeaaepipaadoor", sum := "83842e5f186399a2447f725ced6e55f1c6e610fff4bb3acefc3ad4f1d821ad6f", func := "hansard/hansardlaw18.FeedsSet", spec := "feedsSet", inPlace := ["slices.overlaps[hansard/api.Pack]"], unfollowed := true, recurses := true, named := ["unicode/utf8.first", "unicode/utf8.acceptRanges"], apart := false, laid := [("unicode/utf8.acceptRanges", laid_unicode_utf8_acceptRanges), ("unicode/utf8.first", laid_unicode_utf8_first)] }
def FeedsSetSaid : Prop := feedsSetRow.holds Tryd.pinned (OpenSpec.ofChange feedsSetSpec)

/-- ITS FALSE NEIGHBOUR: 'it returns false'. Refute it at one input. -/
def feedsSetWrong : ChangeSpec := { name := "feedsSet", fn := fun _ => fun
  | [d1, d2, d3] => { results := [.lit (.bool false)], args := [d1, d2, d3] }
  | _ => none }
def FeedsSetWrongFalsely : Prop := feedsSetRow.holds Tryd.pinned (OpenSpec.ofChange feedsSetWrong)

/-- 'hansardlaw18.FeedsTwice': WHATEVER THE INPUT: true; the input reads as it did. -/
def feedsTwiceSpec : ChangeSpec := { name := "feedsTwice", fn := fun _ => fun
  | [d1, d2] => { results := [.lit (.bool true)], args := [d1, d2] }
  | _ => none }
def feedsTwiceRow : OpenClaim := { program := "yteonapeaaepipaadoor", sum := "83842e5f186399a2447f725ced6e55f1c6e610fff4bb3acefc3ad4f1d821ad6f", func := "hansard/hansardlaw18.FeedsTwice", spec := "feedsTwice", inPlace := ["slices.overlaps[hansard/api.Pack]"], unfollowed := true, recurses := true, named := ["unicode/utf8.first", "unicode/utf8.acceptRanges"], apart := false, laid := [("unicode/utf8.acceptRanges", laid_unicode_utf8_acceptRanges), ("unicode/utf8.first", laid_unicode_utf8_first)] }
def FeedsTwiceSaid : Prop := feedsTwiceRow.holds Tryd.pinned (OpenSpec.ofChange feedsTwiceSpec)

/-- ITS FALSE NEIGHBOUR: 'it returns false'. Refute it at one input. -/
def feedsTwiceWrong : ChangeSpec := { name := "feedsTwice", fn := fun _ => fun
  | [d1, d2] => { results := [.lit (.bool false)], args := [d1, d2] }
  | _ => none }
def FeedsTwiceWrongFalsely : Prop := feedsTwiceRow.holds Tryd.pinned (OpenSpec.ofChange feedsTwiceWrong)

/- THE SECOND FORM. 'bulk': how many values and letters a reading holds, each counted each time it is reached (what is shared counts as often as it is met; a slice's spare places count too). A statement '..UptoSaid' is the law's where the arguments, and the package variables that the reading takes, are together of bulk at most 1048576: NARROWER than '..Said'. Prove '..Said' where nothing that the law and all that it calls make is longer than what came in: it says more and counts as full. Else prove '..UptoSaid'. A law counts once. -/
mutual
def uptoBulk {H : Type} : DataW H → Nat
  | .lit (.string bytes) => bytes.length + 1
  | .lit _ => 1
  | .nil => 1
  | .ptr d => uptoBulk d + 1
  | .slice elems spare => uptoBulkAll elems + uptoBulkAll spare + 1
  | .agg parts => uptoBulkAll parts + 1
  | .iface _ d => uptoBulk d + 1
  | .map entries => uptoBulkEntries entries + 1
  | .held _ => 1
def uptoBulkAll {H : Type} : List (DataW H) → Nat
  | [] => 0
  | d :: r => uptoBulk d + uptoBulkAll r
def uptoBulkEntries {H : Type} : List (Lit × DataW H) → Nat
  | [] => 0
  | x :: r => uptoBulkEntry x + uptoBulkEntries r
def uptoBulkEntry {H : Type} : Lit × DataW H → Nat
  | (.string bytes, d) => bytes.length + uptoBulk d + 1
  | (_, d) => uptoBulk d + 1
 end
def uptoSmall : (H : Type) → List (DataW H) → Bool := fun _ ds => decide (uptoBulkAll ds ≤ 1048576)
def OpenSpec.upto (s : _root_.Go.ChangeSpec) : _root_.Go.OpenSpec := { _root_.Go.OpenSpec.ofChange s with cond := some uptoSmall }

/-- 'hansardlaw23.SettledSpec', WHERE WHAT IT READS IS OF BULK AT MOST 1048576: true; the input reads as it did. -/
def settledSpecUptoRow : OpenClaim := { program := "yteonapeaaepipaadoor", sum := "83842e5f186399a2447f725ced6e55f1c6e610fff4bb3acefc3ad4f1d821ad6f", func := "hansard/hansardlaw23.SettledSpec", spec := "settledSpec", unfollowed := true, recurses := true, named := ["unicode/utf8.first", "unicode/utf8.acceptRanges"], apart := false, laid := [("unicode/utf8.acceptRanges", laid_unicode_utf8_acceptRanges), ("unicode/utf8.first", laid_unicode_utf8_first)], narrowed := true }
def SettledSpecUptoSaid : Prop := settledSpecUptoRow.holds Tryd.pinned (OpenSpec.upto settledSpecSpec)

/-- 'hansardlaw23.SettledStateSpec', WHERE WHAT IT READS IS OF BULK AT MOST 1048576: true; the input reads as it did. -/
def settledStateSpecUptoRow : OpenClaim := { program := "yteonapeaaepipaadoor", sum := "83842e5f186399a2447f725ced6e55f1c6e610fff4bb3acefc3ad4f1d821ad6f", func := "hansard/hansardlaw23.SettledStateSpec", spec := "settledStateSpec", unfollowed := true, recurses := true, named := ["unicode/utf8.first", "unicode/utf8.acceptRanges"], apart := false, laid := [("unicode/utf8.acceptRanges", laid_unicode_utf8_acceptRanges), ("unicode/utf8.first", laid_unicode_utf8_first)], narrowed := true }
def SettledStateSpecUptoSaid : Prop := settledStateSpecUptoRow.holds Tryd.pinned (OpenSpec.upto settledStateSpecSpec)

/-- 'hansardlaw23.SettledWhole', WHERE WHAT IT READS IS OF BULK AT MOST 1048576: true; the input reads as it did. -/
def settledWholeUptoRow : OpenClaim := { program := "yteonapeaaepipaadoor", sum := "83842e5f186399a2447f725ced6e55f1c6e610fff4bb3acefc3ad4f1d821ad6f", func := "hansard/hansardlaw23.SettledWhole", spec := "settledWhole", unfollowed := true, recurses := true, named := ["unicode/utf8.first", "unicode/utf8.acceptRanges"], apart := false, laid := [("unicode/utf8.acceptRanges", laid_unicode_utf8_acceptRanges), ("unicode/utf8.first", laid_unicode_utf8_first)], narrowed := true }
def SettledWholeUptoSaid : Prop := settledWholeUptoRow.holds Tryd.pinned (OpenSpec.upto settledWholeSpec)

/-- 'hansardlaw23.SettledEarlier', WHERE WHAT IT READS IS OF BULK AT MOST 1048576: true; the input reads as it did. -/
def settledEarlierUptoRow : OpenClaim := { program := "yteonapeaaepipaadoor", sum := "83842e5f186399a2447f725ced6e55f1c6e610fff4bb3acefc3ad4f1d821ad6f", func := "hansard/hansardlaw23.SettledEarlier", spec := "settledEarlier", unfollowed := true, recurses := true, named := ["unicode/utf8.first", "unicode/utf8.acceptRanges"], apart := false, laid := [("unicode/utf8.acceptRanges", laid_unicode_utf8_acceptRanges), ("unicode/utf8.first", laid_unicode_utf8_first)], narrowed := true }
def SettledEarlierUptoSaid : Prop := settledEarlierUptoRow.holds Tryd.pinned (OpenSpec.upto settledEarlierSpec)

/-- 'hansardlaw23.SettledRemains', WHERE WHAT IT READS IS OF BULK AT MOST 1048576: true; the input reads as it did. -/
def settledRemainsUptoRow : OpenClaim := { program := "yteonapeaaepipaadoor", sum := "83842e5f186399a2447f725ced6e55f1c6e610fff4bb3acefc3ad4f1d821ad6f", func := "hansard/hansardlaw23.SettledRemains", spec := "settledRemains", unfollowed := true, recurses := true, named := ["unicode/utf8.first", "unicode/utf8.acceptRanges"], apart := false, laid := [("unicode/utf8.acceptRanges", laid_unicode_utf8_acceptRanges), ("unicode/utf8.first", laid_unicode_utf8_first)], narrowed := true }
def SettledRemainsUptoSaid : Prop := settledRemainsUptoRow.holds Tryd.pinned (OpenSpec.upto settledRemainsSpec)

/-- 'hansardlaw18.FeedsSpec', WHERE WHAT IT READS IS OF BULK AT MOST 1048576: true; the input reads as it did. -/
def feedsSpecUptoRow : OpenClaim := { program := "yteonapeaaepipaadoor", sum := "83842e5f186399a2447f725ced6e55f1c6e610fff4bb3acefc3ad4f1d821ad6f", func := "hansard/hansardlaw18.FeedsSpec", spec := "feedsSpec", inPlace := ["slices.overlaps[hansard/api.Pack]"], unfollowed := true, recurses := true, named := ["unicode/utf8.first", "unicode/utf8.acceptRanges"], apart := false, laid := [("unicode/utf8.acceptRanges", laid_unicode_utf8_acceptRanges), ("unicode/utf8.first", laid_unicode_utf8_first)], narrowed := true }
def FeedsSpecUptoSaid : Prop := feedsSpecUptoRow.holds Tryd.pinned (OpenSpec.upto feedsSpecSpec)

/-- 'hansardlaw18.FeedsMissingSpec', WHERE WHAT IT READS IS OF BULK AT MOST 1048576: true; the input reads as it did. -/
def feedsMissingSpecUptoRow : OpenClaim := { program := "yteonapeaaepipaadoor", sum := "83842e5f186399a2447f725ced6e55f1c6e610fff4bb3acefc3ad4f1d821ad6f", func := "hansard/hansardlaw18.FeedsMissingSpec", spec := "feedsMissingSpec", inPlace := ["slices.overlaps[hansard/api.Pack]"], unfollowed := true, recurses := true, named := ["unicode/utf8.first", "unicode/utf8.acceptRanges"], apart := false, laid := [("unicode/utf8.acceptRanges", laid_unicode_utf8_acceptRanges), ("unicode/utf8.first", laid_unicode_utf8_first)], narrowed := true }
def FeedsMissingSpecUptoSaid : Prop := feedsMissingSpecUptoRow.holds Tryd.pinned (OpenSpec.upto feedsMissingSpecSpec)

/-- 'hansardlaw18.FeedsOrder', WHERE WHAT IT READS IS OF BULK AT MOST 1048576: true; the input reads as it did. -/
def feedsOrderUptoRow : OpenClaim := { program := "yteonapeaaepipaadoor", sum := "83842e5f186399a2447f725ced6e55f1c6e610fff4bb3acefc3ad4f1d821ad6f", func := "hansard/hansardlaw18.FeedsOrder", spec := "feedsOrder", inPlace := ["slices.overlaps[hansard/api.Pack]"], unfollowed := true, recurses := true, named := ["unicode/utf8.first", "unicode/utf8.acceptRanges"], apart := false, laid := [("unicode/utf8.acceptRanges", laid_unicode_utf8_acceptRanges), ("unicode/utf8.first", laid_unicode_utf8_first)], narrowed := true }
def FeedsOrderUptoSaid : Prop := feedsOrderUptoRow.holds Tryd.pinned (OpenSpec.upto feedsOrderSpec)

/-- 'hansardlaw18.FeedsSet', WHERE WHAT IT READS IS OF BULK AT MOST 1048576: true; the input reads as it did. -/
def feedsSetUptoRow : OpenClaim := { program := "yteonapeaaepipaadoor", sum := "83842e5f186399a2447f725ced6e55f1c6e610fff4bb3acefc3ad4f1d821ad6f", func := "hansard/hansardlaw18.FeedsSet", spec := "feedsSet", inPlace := ["slices.overlaps[hansard/api.Pack]"], unfollowed := true, recurses := true, named := ["unicode/utf8.first", "unicode/utf8.acceptRanges"], apart := false, laid := [("unicode/utf8.acceptRanges", laid_unicode_utf8_acceptRanges), ("unicode/utf8.first", laid_unicode_utf8_first)], narrowed := true }
def FeedsSetUptoSaid : Prop := feedsSetUptoRow.holds Tryd.pinned (OpenSpec.upto feedsSetSpec)

/-- 'hansardlaw18.FeedsTwice', WHERE WHAT IT READS IS OF BULK AT MOST 1048576: true; the input reads as it did. -/
def feedsTwiceUptoRow : OpenClaim := { program := "yteonapeaaepipaadoor", sum := "83842e5f186399a2447f725ced6e55f1c6e610fff4bb3acefc3ad4f1d821ad6f", func := "hansard/hansardlaw18.FeedsTwice", spec := "feedsTwice", inPlace := ["slices.overlaps[hansard/api.Pack]"], unfollowed := true, recurses := true, named := ["unicode/utf8.first", "unicode/utf8.acceptRanges"], apart := false, laid := [("unicode/utf8.acceptRanges", laid_unicode_utf8_acceptRanges), ("unicode/utf8.first", laid_unicode_utf8_first)], narrowed := true }
def FeedsTwiceUptoSaid : Prop := feedsTwiceUptoRow.holds Tryd.pinned (OpenSpec.upto feedsTwiceSpec)

end Rows
end Go.Proofs.YteonapeaaepipaaDoor
