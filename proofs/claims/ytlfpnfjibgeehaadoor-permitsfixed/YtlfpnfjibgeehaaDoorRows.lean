/-
  NARROWER THAN 'FOR EVERY INPUT', by the rows' own cells (each row's printed sentence says how): PermitsSpec: laid · PermitsChangeSpec: laid · PermitsRemain: laid · PermitsChange: laid · PermitsMore: laid · PermitsFixed: laid · SettledSpec: laid · SettledStateSpec: laid · SettledWhole: laid · SettledEarlier: laid · SettledRemains: laid.
  DERIVED. THE GIVEN ROWS OF THIS SEAT. 11 by the template 'for every input the law returns true; each argument reads behind the call as it read before'; 0 by the template 'total and deterministic' (their statements: YtlfpnfjibgeehaaDoorTotals.lean).
  GIVEN WITH THE SEED: the statements are not yours to turn. If you find one false, say at which input.
  Laid BY PROGRAM, IN A SANDBOX (cutbox-rows.mjs): the forced cells as the released guide's own fill.sh prints them over the translation ef6795e77a88062b… (all of the seat's roots in one cut). By AI agents, Wed Nov 11 2026. No macro, syntax, notation, axiom, sorry.
-/
import Derived.Test.YtlfpnfjibgeehaaDoorChecked
import GoSem.PinnedTables
import GoSem.Claim
import GoSem.ClaimJoined
import GoSem.ClaimMapViews
import Derived.JoinedTies
import Derived.KernelRfl
namespace Go.Proofs.YtlfpnfjibgeehaaDoor
/- THE CELL 'sum', in the pinned program and in every row, IS THE sha256 OF THE DUMP (.gsa) THAT YtlfpnfjibgeehaaDoorProg.lean LOADS. Nothing in Lean hashes anything: it is a label: what it is worth is what the hold of that sum in a sandbox is worth. -/
noncomputable def Tryd.pinned : Pinned := { name := "ytlfpnfjibgeehaadoor", sum := "ef6795e77a88062b2a3b1d28cb594dfa0e2b889210f82eddd5008b720d25f4ee", checked := Tryd.checked }
namespace Rows
def none {H : Type} : Left H := { results := [], args := [] }

/- WHAT THE LISTED PACKAGE-LEVEL VARIABLES READ AS WHEN THE CALL BEGINS. Each datum BY PROGRAM (the guide's laid-datum.mjs) off the statement by which the dump's own 'gosem.cut.vars' lays the variable. In a bare row this is a premise. The card (YtlfpnfjibgeehaaDoorCards.lean) ties it to the program's text. -/
def laid_unicode_utf8_acceptRanges {H : Type} : DataW H := .agg [.agg [.lit (.int .u8 128), .lit (.int .u8 191)], .agg [.lit (.int .u8 160), .lit (.int .u8 191)], .agg [.lit (.int .u8 128), .lit (.int .u8 159)], .agg [.lit (.int .u8 144), .lit (.int .u8 191)], .agg [.lit (.int .u8 128), .lit (.int .u8 143)], .agg [.lit (.int .u8 0), .lit (.int .u8 0)], .agg [.lit (.int .u8 0), .lit (.int .u8 0)], .agg [.lit (.int .u8 0), .lit (.int .u8 0)], .agg [.lit (.int .u8 0), .lit (.int .u8 0)], .agg [.lit (.int .u8 0), .lit (.int .u8 0)], .agg [.lit (.int .u8 0), .lit (.int .u8 0)], .agg [.lit (.int .u8 0), .lit (.int .u8 0)], .agg [.lit (.int .u8 0), .lit (.int .u8 0)], .agg [.lit (.int .u8 0), .lit (.int .u8 0)], .agg [.lit (.int .u8 0), .lit (.int .u8 0)], .agg [.lit (.int .u8 0), .lit (.int .u8 0)]]
/-- One of Go's own tables, pinned by name: the form's constant. -/
def laid_unicode_utf8_first : DataW Unit := Go.Pinned.utf8First

/-- 'hansardlaw19.PermitsSpec': WHATEVER THE INPUT: true; the input reads as it did. -/
def permitsSpecSpec : ChangeSpec := { name := "permitsSpec", fn := fun _ => fun
  | [d1, d2, d3, d4] => { results := [.lit (.bool true)], args := [d1, d2, d3, d4] }
  | _ => none }
def permitsSpecRow : OpenClaim := { program := "ytlfpnfjibgeehaadoor", sum := "ef6795e77a88062b2a3b1d28cb594dfa0e2b889210f82eddd5008b720d25f4ee", func := "hansard/hansardlaw19.PermitsSpec", spec := "permitsSpec", unfollowed := true, recurses := true, named := ["unicode/utf8.first", "unicode/utf8.acceptRanges"], apart := false, laid := [("unicode/utf8.acceptRanges", laid_unicode_utf8_acceptRanges), ("unicode/utf8.first", laid_unicode_utf8_first)] }
def PermitsSpecSaid : Prop := permitsSpecRow.holds Tryd.pinned (OpenSpec.ofChange permitsSpecSpec)

/-- ITS FALSE NEIGHBOUR: 'it returns false'. Refute it at one input. -/
def permitsSpecWrong : ChangeSpec := { name := "permitsSpec", fn := fun _ => fun
  | [d1, d2, d3, d4] => { results := [.lit (.bool false)], args := [d1, d2, d3, d4] }
  | _ => none }
def PermitsSpecWrongFalsely : Prop := permitsSpecRow.holds Tryd.pinned (OpenSpec.ofChange permitsSpecWrong)

/-- 'hansardlaw19.PermitsChangeSpec': WHATEVER THE INPUT: true; the input reads as it did. -/
def permitsChangeSpecSpec : ChangeSpec := { name := "permitsChangeSpec", fn := fun _ => fun
  | [d1, d2, d3, d4] => { results := [.lit (.bool true)], args := [d1, d2, d3, d4] }
  | _ => none }
def permitsChangeSpecRow : OpenClaim := { program := "ytlfpnfjibgeehaadoor", sum := "ef6795e77a88062b2a3b1d28cb594dfa0e2b889210f82eddd5008b720d25f4ee", func := "hansard/hansardlaw19.PermitsChangeSpec", spec := "permitsChangeSpec", unfollowed := true, recurses := true, named := ["unicode/utf8.first", "unicode/utf8.acceptRanges"], apart := false, laid := [("unicode/utf8.acceptRanges", laid_unicode_utf8_acceptRanges), ("unicode/utf8.first", laid_unicode_utf8_first)] }
def PermitsChangeSpecSaid : Prop := permitsChangeSpecRow.holds Tryd.pinned (OpenSpec.ofChange permitsChangeSpecSpec)

/-- ITS FALSE NEIGHBOUR: 'it returns false'. Refute it at one input. -/
def permitsChangeSpecWrong : ChangeSpec := { name := "permitsChangeSpec", fn := fun _ => fun
  | [d1, d2, d3, d4] => { results := [.lit (.bool false)], args := [d1, d2, d3, d4] }
  | _ => none }
def PermitsChangeSpecWrongFalsely : Prop := permitsChangeSpecRow.holds Tryd.pinned (OpenSpec.ofChange permitsChangeSpecWrong)

/-- 'hansardlaw19.PermitsRemain': WHATEVER THE INPUT: true; the input reads as it did. -/
def permitsRemainSpec : ChangeSpec := { name := "permitsRemain", fn := fun _ => fun
  | [d1, d2, d3, d4] => { results := [.lit (.bool true)], args := [d1, d2, d3, d4] }
  | _ => none }
def permitsRemainRow : OpenClaim := { program := "ytlfpnfjibgeehaadoor", sum := "ef6795e77a88062b2a3b1d28cb594dfa0e2b889210f82eddd5008b720d25f4ee", func := "hansard/hansardlaw19.PermitsRemain", spec := "permitsRemain", unfollowed := true, recurses := true, named := ["unicode/utf8.first", "unicode/utf8.acceptRanges"], apart := false, laid := [("unicode/utf8.acceptRanges", laid_unicode_utf8_acceptRanges), ("unicode/utf8.first", laid_unicode_utf8_first)] }
def PermitsRemainSaid : Prop := permitsRemainRow.holds Tryd.pinned (OpenSpec.ofChange permitsRemainSpec)

/-- ITS FALSE NEIGHBOUR: 'it returns false'. Refute it at one input. -/
def permitsRemainWrong : ChangeSpec := { name := "permitsRemain", fn := fun _ => fun
  | [d1, d2, d3, d4] => { results := [.lit (.bool false)], args := [d1, d2, d3, d4] }
  | _ => none }
def PermitsRemainWrongFalsely : Prop := permitsRemainRow.holds Tryd.pinned (OpenSpec.ofChange permitsRemainWrong)

/-- 'hansardlaw19.PermitsChange': WHATEVER THE INPUT: true; the input reads as it did. -/
def permitsChangeSpec : ChangeSpec := { name := "permitsChange", fn := fun _ => fun
  | [d1, d2, d3] => { results := [.lit (.bool true)], args := [d1, d2, d3] }
  | _ => none }
def permitsChangeRow : OpenClaim := { program := "ytlfpnfjibgeehaadoor", sum := "ef6795e77a88062b2a3b1d28cb594dfa0e2b889210f82eddd5008b720d25f4ee", func := "hansard/hansardlaw19.PermitsChange", spec := "permitsChange", unfollowed := true, recurses := true, named := ["unicode/utf8.first", "unicode/utf8.acceptRanges"], apart := false, laid := [("unicode/utf8.acceptRanges", laid_unicode_utf8_acceptRanges), ("unicode/utf8.first", laid_unicode_utf8_first)] }
def PermitsChangeSaid : Prop := permitsChangeRow.holds Tryd.pinned (OpenSpec.ofChange permitsChangeSpec)

/-- ITS FALSE NEIGHBOUR: 'it returns false'. Refute it at one input. -/
def permitsChangeWrong : ChangeSpec := { name := "permitsChange", fn := fun _ => fun
  | [d1, d2, d3] => { results := [.lit (.bool false)], args := [d1, d2, d3] }
  | _ => none }
def PermitsChangeWrongFalsely : Prop := permitsChangeRow.holds Tryd.pinned (OpenSpec.ofChange permitsChangeWrong)

/-- 'hansardlaw19.PermitsMore': WHATEVER THE INPUT: true; the input reads as it did. -/
def permitsMoreSpec : ChangeSpec := { name := "permitsMore", fn := fun _ => fun
  | [d1, d2, d3, d4, d5, d6] => { results := [.lit (.bool true)], args := [d1, d2, d3, d4, d5, d6] }
  | _ => none }
def permitsMoreRow : OpenClaim := { program := "ytlfpnfjibgeehaadoor", sum := "ef6795e77a88062b2a3b1d28cb594dfa0e2b889210f82eddd5008b720d25f4ee", func := "hansard/hansardlaw19.PermitsMore", spec := "permitsMore", unfollowed := true, recurses := true, named := ["unicode/utf8.first", "unicode/utf8.acceptRanges"], apart := false, laid := [("unicode/utf8.acceptRanges", laid_unicode_utf8_acceptRanges), ("unicode/utf8.first", laid_unicode_utf8_first)] }
def PermitsMoreSaid : Prop := permitsMoreRow.holds Tryd.pinned (OpenSpec.ofChange permitsMoreSpec)

/-- ITS FALSE NEIGHBOUR: 'it returns false'. Refute it at one input. -/
def permitsMoreWrong : ChangeSpec := { name := "permitsMore", fn := fun _ => fun
  | [d1, d2, d3, d4, d5, d6] => { results := [.lit (.bool false)], args := [d1, d2, d3, d4, d5, d6] }
  | _ => none }
def PermitsMoreWrongFalsely : Prop := permitsMoreRow.holds Tryd.pinned (OpenSpec.ofChange permitsMoreWrong)

/-- 'hansardlaw19.PermitsFixed': WHATEVER THE INPUT: true; the input reads as it did. -/
def permitsFixedSpec : ChangeSpec := { name := "permitsFixed", fn := fun _ => fun
  | [d1, d2, d3, d4] => { results := [.lit (.bool true)], args := [d1, d2, d3, d4] }
  | _ => none }
def permitsFixedRow : OpenClaim := { program := "ytlfpnfjibgeehaadoor", sum := "ef6795e77a88062b2a3b1d28cb594dfa0e2b889210f82eddd5008b720d25f4ee", func := "hansard/hansardlaw19.PermitsFixed", spec := "permitsFixed", unfollowed := true, recurses := true, named := ["unicode/utf8.first", "unicode/utf8.acceptRanges"], apart := false, laid := [("unicode/utf8.acceptRanges", laid_unicode_utf8_acceptRanges), ("unicode/utf8.first", laid_unicode_utf8_first)] }
def PermitsFixedSaid : Prop := permitsFixedRow.holds Tryd.pinned (OpenSpec.ofChange permitsFixedSpec)

/-- ITS FALSE NEIGHBOUR: 'it returns false'. Refute it at one input. -/
def permitsFixedWrong : ChangeSpec := { name := "permitsFixed", fn := fun _ => fun
  | [d1, d2, d3, d4] => { results := [.lit (.bool false)], args := [d1, d2, d3, d4] }
  | _ => none }
def PermitsFixedWrongFalsely : Prop := permitsFixedRow.holds Tryd.pinned (OpenSpec.ofChange permitsFixedWrong)

/-- 'hansardlaw23.SettledSpec': WHATEVER THE INPUT: true; the input reads as it did. -/
def settledSpecSpec : ChangeSpec := { name := "settledSpec", fn := fun _ => fun
  | [d1, d2, d3, d4, d5] => { results := [.lit (.bool true)], args := [d1, d2, d3, d4, d5] }
  | _ => none }
def settledSpecRow : OpenClaim := { program := "ytlfpnfjibgeehaadoor", sum := "ef6795e77a88062b2a3b1d28cb594dfa0e2b889210f82eddd5008b720d25f4ee", func := "hansard/hansardlaw23.SettledSpec", spec := "settledSpec", unfollowed := true, recurses := true, named := ["unicode/utf8.first", "unicode/utf8.acceptRanges"], apart := false, laid := [("unicode/utf8.acceptRanges", laid_unicode_utf8_acceptRanges), ("unicode/utf8.first", laid_unicode_utf8_first)] }
def SettledSpecSaid : Prop := settledSpecRow.holds Tryd.pinned (OpenSpec.ofChange settledSpecSpec)

/-- ITS FALSE NEIGHBOUR: 'it returns false'. Refute it at one input. -/
def settledSpecWrong : ChangeSpec := { name := "settledSpec", fn := fun _ => fun
  | [d1, d2, d3, d4, d5] => { results := [.lit (.bool false)], args := [d1, d2, d3, d4, d5] }
  | _ => none }
def SettledSpecWrongFalsely : Prop := settledSpecRow.holds Tryd.pinned (OpenSpec.ofChange settledSpecWrong)

/-- 'hansardlaw23.SettledStateSpec': WHATEVER THE INPUT: true; the input reads as it did. -/
def settledStateSpecSpec : ChangeSpec := { name := "settledStateSpec", fn := fun _ => fun
  | [d1, d2, d3, d4, d5, d6, d7] => { results := [.lit (.bool true)], args := [d1, d2, d3, d4, d5, d6, d7] }
  | _ => none }
def settledStateSpecRow : OpenClaim := { program := "ytlfpnfjibgeehaadoor", sum := "ef6795e77a88062b2a3b1d28cb594dfa0e2b889210f82eddd5008b720d25f4ee", func := "hansard/hansardlaw23.SettledStateSpec", spec := "settledStateSpec", unfollowed := true, recurses := true, named := ["unicode/utf8.first", "unicode/utf8.acceptRanges"], apart := false, laid := [("unicode/utf8.acceptRanges", laid_unicode_utf8_acceptRanges), ("unicode/utf8.first", laid_unicode_utf8_first)] }
def SettledStateSpecSaid : Prop := settledStateSpecRow.holds Tryd.pinned (OpenSpec.ofChange settledStateSpecSpec)

/-- ITS FALSE NEIGHBOUR: 'it returns false'. Refute it at one input. -/
def settledStateSpecWrong : ChangeSpec := { name := "settledStateSpec", fn := fun _ => fun
  | [d1, d2, d3, d4, d5, d6, d7] => { results := [.lit (.bool false)], args := [d1, d2, d3, d4, d5, d6, d7] }
  | _ => none }
def SettledStateSpecWrongFalsely : Prop := settledStateSpecRow.holds Tryd.pinned (OpenSpec.ofChange settledStateSpecWrong)

/-- 'hansardlaw23.SettledWhole': WHATEVER THE INPUT: true; the input reads as it did. -/
def settledWholeSpec : ChangeSpec := { name := "settledWhole", fn := fun _ => fun
  | [d1, d2] => { results := [.lit (.bool true)], args := [d1, d2] }
  | _ => none }
def settledWholeRow : OpenClaim := { program := "ytlfpnfjibgeehaadoor", sum := "ef6795e77a88062b2a3b1d28cb594dfa0e2b889210f82eddd5008b720d25f4ee", func := "hansard/hansardlaw23.SettledWhole", spec := "settledWhole", unfollowed := true, recurses := true, named := ["unicode/utf8.first", "unicode/utf8.acceptRanges"], apart := false, laid := [("unicode/utf8.acceptRanges", laid_unicode_utf8_acceptRanges), ("unicode/utf8.first", laid_unicode_utf8_first)] }
def SettledWholeSaid : Prop := settledWholeRow.holds Tryd.pinned (OpenSpec.ofChange settledWholeSpec)

/-- ITS FALSE NEIGHBOUR: 'it returns false'. Refute it at one input. -/
def settledWholeWrong : ChangeSpec := { name := "settledWhole", fn := fun _ => fun
  | [d1, d2] => { results := [.lit (.bool false)], args := [d1, d2] }
  | _ => none }
def SettledWholeWrongFalsely : Prop := settledWholeRow.holds Tryd.pinned (OpenSpec.ofChange settledWholeWrong)

/-- 'hansardlaw23.SettledEarlier': WHATEVER THE INPUT: true; the input reads as it did. -/
def settledEarlierSpec : ChangeSpec := { name := "settledEarlier", fn := fun _ => fun
  | [d1, d2, d3, d4, d5, d6, d7, d8, d9, d10] => { results := [.lit (.bool true)], args := [d1, d2, d3, d4, d5, d6, d7, d8, d9, d10] }
  | _ => none }
def settledEarlierRow : OpenClaim := { program := "ytlfpnfjibgeehaadoor", sum := "ef6795e77a88062b2a3b1d28cb594dfa0e2b889210f82eddd5008b720d25f4ee", func := "hansard/hansardlaw23.SettledEarlier", spec := "settledEarlier", unfollowed := true, recurses := true, named := ["unicode/utf8.first", "unicode/utf8.acceptRanges"], apart := false, laid := [("unicode/utf8.acceptRanges", laid_unicode_utf8_acceptRanges), ("unicode/utf8.first", laid_unicode_utf8_first)] }
def SettledEarlierSaid : Prop := settledEarlierRow.holds Tryd.pinned (OpenSpec.ofChange settledEarlierSpec)

/-- ITS FALSE NEIGHBOUR: 'it returns false'. Refute it at one input. -/
def settledEarlierWrong : ChangeSpec := { name := "settledEarlier", fn := fun _ => fun
  | [d1, d2, d3, d4, d5, d6, d7, d8, d9, d10] => { results := [.lit (.bool false)], args := [d1, d2, d3, d4, d5, d6, d7, d8, d9, d10] }
  | _ => none }
def SettledEarlierWrongFalsely : Prop := settledEarlierRow.holds Tryd.pinned (OpenSpec.ofChange settledEarlierWrong)

/-- 'hansardlaw23.SettledRemains': WHATEVER THE INPUT: true; the input reads as it did. -/
def settledRemainsSpec : ChangeSpec := { name := "settledRemains", fn := fun _ => fun
  | [d1, d2, d3, d4, d5, d6, d7, d8] => { results := [.lit (.bool true)], args := [d1, d2, d3, d4, d5, d6, d7, d8] }
  | _ => none }
def settledRemainsRow : OpenClaim := { program := "ytlfpnfjibgeehaadoor", sum := "ef6795e77a88062b2a3b1d28cb594dfa0e2b889210f82eddd5008b720d25f4ee", func := "hansard/hansardlaw23.SettledRemains", spec := "settledRemains", unfollowed := true, recurses := true, named := ["unicode/utf8.first", "unicode/utf8.acceptRanges"], apart := false, laid := [("unicode/utf8.acceptRanges", laid_unicode_utf8_acceptRanges), ("unicode/utf8.first", laid_unicode_utf8_first)] }
def SettledRemainsSaid : Prop := settledRemainsRow.holds Tryd.pinned (OpenSpec.ofChange settledRemainsSpec)

/-- ITS FALSE NEIGHBOUR: 'it returns false'. Refute it at one input. -/
def settledRemainsWrong : ChangeSpec := { name := "settledRemains", fn := fun _ => fun
  | [d1, d2, d3, d4, d5, d6, d7, d8] => { results := [.lit (.bool false)], args := [d1, d2, d3, d4, d5, d6, d7, d8] }
  | _ => none }
def SettledRemainsWrongFalsely : Prop := settledRemainsRow.holds Tryd.pinned (OpenSpec.ofChange settledRemainsWrong)

/- THE SECOND FORM. 'bulk': how many values and letters a reading holds, each counted each time it is reached (what is shared counts as often as it is met; a slice's spare places count too). A statement '..UptoSaid' is the law's where the arguments, and the package variables that the reading takes, are together of bulk at most 1048576: NARROWER than '..Said'. Prove '..Said' where nothing that the law and all that it calls make is longer than what came in: it says more and counts as full. Else prove '..UptoSaid'. A law counts once. -/
mutual
def uptoBulk {H : Type} : DataW H → Nat
  | .lit (.string bytes) => bytes.length + 1
  | .lit _ => 1
  | .nil => 1
  | .ptr d => uptoBulk d + 1
  | .slice elems spare => uptoBulkAll elems + uptoBulkAll spare + 1
  | .agg parts => uptoBulkAll parts + 1
  | .iface _ d => uptoBulk d + 1
  | .map entries => uptoBulkEntries entries + 1
  | .held _ => 1
def uptoBulkAll {H : Type} : List (DataW H) → Nat
  | [] => 0
  | d :: r => uptoBulk d + uptoBulkAll r
def uptoBulkEntries {H : Type} : List (Lit × DataW H) → Nat
  | [] => 0
  | x :: r => uptoBulkEntry x + uptoBulkEntries r
def uptoBulkEntry {H : Type} : Lit × DataW H → Nat
  | (.string bytes, d) => bytes.length + uptoBulk d + 1
  | (_, d) => uptoBulk d + 1
 end
def uptoSmall : (H : Type) → List (DataW H) → Bool := fun _ ds => decide (uptoBulkAll ds ≤ 1048576)
def OpenSpec.upto (s : _root_.Go.ChangeSpec) : _root_.Go.OpenSpec := { _root_.Go.OpenSpec.ofChange s with cond := some uptoSmall }

/-- 'hansardlaw19.PermitsSpec', WHERE WHAT IT READS IS OF BULK AT MOST 1048576: true; the input reads as it did. -/
def permitsSpecUptoRow : OpenClaim := { program := "ytlfpnfjibgeehaadoor", sum := "ef6795e77a88062b2a3b1d28cb594dfa0e2b889210f82eddd5008b720d25f4ee", func := "hansard/hansardlaw19.PermitsSpec", spec := "permitsSpec", unfollowed := true, recurses := true, named := ["unicode/utf8.first", "unicode/utf8.acceptRanges"], apart := false, laid := [("unicode/utf8.acceptRanges", laid_unicode_utf8_acceptRanges), ("unicode/utf8.first", laid_unicode_utf8_first)], narrowed := true }
def PermitsSpecUptoSaid : Prop := permitsSpecUptoRow.holds Tryd.pinned (OpenSpec.upto permitsSpecSpec)

/-- 'hansardlaw19.PermitsChangeSpec', WHERE WHAT IT READS IS OF BULK AT MOST 1048576: true; the input reads as it did. -/
def permitsChangeSpecUptoRow : OpenClaim := { program := "ytlfpnfjibgeehaadoor", sum := "ef6795e77a88062b2a3b1d28cb594dfa0e2b889210f82eddd5008b720d25f4ee", func := "hansard/hansardlaw19.PermitsChangeSpec", spec := "permitsChangeSpec", unfollowed := true, recurses := true, named := ["unicode/utf8.first", "unicode/utf8.acceptRanges"], apart := false, laid := [("unicode/utf8.acceptRanges", laid_unicode_utf8_acceptRanges), ("unicode/utf8.first", laid_unicode_utf8_first)], narrowed := true }
def PermitsChangeSpecUptoSaid : Prop := permitsChangeSpecUptoRow.holds Tryd.pinned (OpenSpec.upto permitsChangeSpecSpec)

/-- 'hansardlaw19.PermitsRemain', WHERE WHAT IT READS IS OF BULK AT MOST 1048576: true; the input reads as it did. -/
def permitsRemainUptoRow : OpenClaim := { program := "ytlfpnfjibgeehaadoor", sum := "ef6795e77a88062b2a3b1d28cb594dfa0e2b889210f82eddd5008b720d25f4ee", func := "hansard/hansardlaw19.PermitsRemain", spec := "permitsRemain", unfollowed := true, recurses := true, named := ["unicode/utf8.first", "unicode/utf8.acceptRanges"], apart := false, laid := [("unicode/utf8.acceptRanges", laid_unicode_utf8_acceptRanges), ("unicode/utf8.first", laid_unicode_utf8_first)], narrowed := true }
def PermitsRemainUptoSaid : Prop := permitsRemainUptoRow.holds Tryd.pinned (OpenSpec.upto permitsRemainSpec)

/-- 'hansardlaw19.PermitsChange', WHERE WHAT IT READS IS OF BULK AT MOST 1048576: true; the input reads as it did. -/
def permitsChangeUptoRow : OpenClaim := { program := "ytlfpnfjibgeehaadoor", sum := "ef6795e77a88062b2a3b1d28cb594dfa0e2b889210f82eddd5008b720d25f4ee", func := "hansard/hansardlaw19.PermitsChange", spec := "permitsChange", unfollowed := true, recurses := true, named := ["unicode/utf8.first", "unicode/utf8.acceptRanges"], apart := false, laid := [("unicode/utf8.acceptRanges", laid_unicode_utf8_acceptRanges), ("unicode/utf8.first", laid_unicode_utf8_first)], narrowed := true }
def PermitsChangeUptoSaid : Prop := permitsChangeUptoRow.holds Tryd.pinned (OpenSpec.upto permitsChangeSpec)

/-- 'hansardlaw19.PermitsMore', WHERE WHAT IT READS IS OF BULK AT MOST 1048576: true; the input reads as it did. -/
def permitsMoreUptoRow : OpenClaim := { program := "ytlfpnfjibgeehaadoor", sum := "ef6795e77a88062b2a3b1d28cb594dfa0e2b889210f82eddd5008b720d25f4ee", func := "hansard/hansardlaw19.PermitsMore", spec := "permitsMore", unfollowed := true, recurses := true, named := ["unicode/utf8.first", "unicode/utf8.acceptRanges"], apart := false, laid := [("unicode/utf8.acceptRanges", laid_unicode_utf8_acceptRanges), ("unicode/utf8.first", laid_unicode_utf8_first)], narrowed := true }
def PermitsMoreUptoSaid : Prop := permitsMoreUptoRow.holds Tryd.pinned (OpenSpec.upto permitsMoreSpec)

/-- 'hansardlaw19.PermitsFixed', WHERE WHAT IT READS IS OF BULK AT MOST 1048576: true; the input reads as it did. -/
def permitsFixedUptoRow : OpenClaim := { program := "ytlfpnfjibgeehaadoor", sum := "ef6795e77a88062b2a3b1d28cb594dfa0e2b889210f82eddd5008b720d25f4ee", func := "hansard/hansardlaw19.PermitsFixed", spec := "permitsFixed", unfollowed := true, recurses := true, named := ["unicode/utf8.first", "unicode/utf8.acceptRanges"], apart := false, laid := [("unicode/utf8.acceptRanges", laid_unicode_utf8_acceptRanges), ("unicode/utf8.first", laid_unicode_utf8_first)], narrowed := true }
def PermitsFixedUptoSaid : Prop := permitsFixedUptoRow.holds Tryd.pinned (OpenSpec.upto permitsFixedSpec)

/-- 'hansardlaw23.SettledSpec', WHERE WHAT IT READS IS OF BULK AT MOST 1048576: true; the input reads as it did. -/
def settledSpecUptoRow : OpenClaim := { program := "ytlfpnfjibgeehaadoor", sum := "ef6795e77a88062b2a3b1d28cb594dfa0e2b889210f82eddd5008b720d25f4ee", func := "hansard/hansardlaw23.SettledSpec", spec := "settledSpec", unfollowed := true, recurses := true, named := ["unicode/utf8.first", "unicode/utf8.acceptRanges"], apart := false, laid := [("unicode/utf8.acceptRanges", laid_unicode_utf8_acceptRanges), ("unicode/utf8.first", laid_unicode_utf8_first)], narrowed := true }
def SettledSpecUptoSaid : Prop := settledSpecUptoRow.holds Tryd.pinned (OpenSpec.upto settledSpecSpec)

/-- 'hansardlaw23.SettledStateSpec', WHERE WHAT IT READS IS OF BULK AT MOST 1048576: true; the input reads as it did. -/
def settledStateSpecUptoRow : OpenClaim := { program := "ytlfpnfjibgeehaadoor", sum := "ef6795e77a88062b2a3b1d28cb594dfa0e2b889210f82eddd5008b720d25f4ee", func := "hansard/hansardlaw23.SettledStateSpec", spec := "settledStateSpec", unfollowed := true, recurses := true, named := ["unicode/utf8.first", "unicode/utf8.acceptRanges"], apart := false, laid := [("unicode/utf8.acceptRanges", laid_unicode_utf8_acceptRanges), ("unicode/utf8.first", laid_unicode_utf8_first)], narrowed := true }
def SettledStateSpecUptoSaid : Prop := settledStateSpecUptoRow.holds Tryd.pinned (OpenSpec.upto settledStateSpecSpec)

/-- 'hansardlaw23.SettledWhole', WHERE WHAT IT READS IS OF BULK AT MOST 1048576: true; the input reads as it did. -/
def settledWholeUptoRow : OpenClaim := { program := "ytlfpnfjibgeehaadoor", sum := "ef6795e77a88062b2a3b1d28cb594dfa0e2b889210f82eddd5008b720d25f4ee", func := "hansard/hansardlaw23.SettledWhole", spec := "settledWhole", unfollowed := true, recurses := true, named := ["unicode/utf8.first", "unicode/utf8.acceptRanges"], apart := false, laid := [("unicode/utf8.acceptRanges", laid_unicode_utf8_acceptRanges), ("unicode/utf8.first", laid_unicode_utf8_first)], narrowed := true }
def SettledWholeUptoSaid : Prop := settledWholeUptoRow.holds Tryd.pinned (OpenSpec.upto settledWholeSpec)

/-- 'hansardlaw23.SettledEarlier', WHERE WHAT IT READS IS OF BULK AT MOST 1048576: true; the input reads as it did. -/
def settledEarlierUptoRow : OpenClaim := { program := "ytlfpnfjibgeehaadoor", sum := "ef6795e77a88062b2a3b1d28cb594dfa0e2b889210f82eddd5008b720d25f4ee", func := "hansard/hansardlaw23.SettledEarlier", spec := "settledEarlier", unfollowed := true, recurses := true, named := ["unicode/utf8.first", "unicode/utf8.acceptRanges"], apart := false, laid := [("unicode/utf8.acceptRanges", laid_unicode_utf8_acceptRanges), ("unicode/utf8.first", laid_unicode_utf8_first)], narrowed := true }
def SettledEarlierUptoSaid : Prop := settledEarlierUptoRow.holds Tryd.pinned (OpenSpec.upto settledEarlierSpec)

/-- 'hansardlaw23.SettledRemains', WHERE WHAT IT READS IS OF BULK AT MOST 1048576: true; the input reads as it did. -/
def settledRemainsUptoRow : OpenClaim := { program := "ytlfpnfjibgeehaadoor", sum := "ef6795e77a88062b2a3b1d28cb594dfa0e2b889210f82eddd5008b720d25f4ee", func := "hansard/hansardlaw23.SettledRemains", spec := "settledRemains", unfollowed := true, recurses := true, named := ["unicode/utf8.first", "unicode/utf8.acceptRanges"], apart := false, laid := [("unicode/utf8.acceptRanges", laid_unicode_utf8_acceptRanges), ("unicode/utf8.first", laid_unicode_utf8_first)], narrowed := true }
def SettledRemainsUptoSaid : Prop := settledRemainsUptoRow.holds Tryd.pinned (OpenSpec.upto settledRemainsSpec)

end Rows
end Go.Proofs.YtlfpnfjibgeehaaDoor
