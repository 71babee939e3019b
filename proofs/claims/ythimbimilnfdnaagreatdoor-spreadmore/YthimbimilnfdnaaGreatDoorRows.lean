/-
  NARROWER THAN 'FOR EVERY INPUT', by the rows' own cells (each row's printed sentence says how): SpreadSpec: laid · SpreadSeenSpec: laid · SpreadConverge: laid · SpreadKnown: laid · SpreadOrder: laid · SpreadSeen: laid · SpreadMore: laid.
  DERIVED. THE GIVEN ROWS OF THIS SEAT. 7 by the template 'for every input the law returns true; each argument reads behind the call as it read before'; 0 by the template 'total and deterministic' (their statements: YthimbimilnfdnaaGreatDoorTotals.lean).
  GIVEN WITH THE SEED: the statements are not yours to turn. If you find one false, say at which input.
  Laid BY PROGRAM, IN A SANDBOX (cutbox-rows.mjs): the forced cells as the released guide's own fill.sh prints them over the translation c552ec89958c8296… (all of the seat's roots in one cut). By AI agents, Wed Nov 11 2026. No macro, syntax, notation, axiom, sorry.
-/
import Derived.Test.YthimbimilnfdnaaGreatDoorChecked
import GoSem.PinnedTables
import GoSem.Claim
import GoSem.ClaimJoined
import GoSem.ClaimMapViews
import Derived.JoinedTies
import Derived.KernelRfl
namespace Go.Proofs.YthimbimilnfdnaaGreatDoor
/- THE CELL 'sum', in the pinned program and in every row, IS THE sha256 OF THE DUMP (.gsa) THAT YthimbimilnfdnaaGreatDoorProg.lean LOADS. Nothing in Lean hashes anything: it is a label: what it is worth is what the hold of that sum in a sandbox is worth. -/
noncomputable def Tryz.pinned : Pinned := { name := "ythimbimilnfdnaagreatdoor", sum := "c552ec89958c829625a7a9ade4dbadf14ca49fb20d3d74d0d92224a2cd0ac381", checked := Tryz.checked }
namespace Rows
def none {H : Type} : Left H := { results := [], args := [] }

/- WHAT THE LISTED PACKAGE-LEVEL VARIABLES READ AS WHEN THE CALL BEGINS. Each datum BY PROGRAM (the guide's laid-datum.mjs) off the statement by which the dump's own 'gosem.cut.vars' lays the variable. In a bare row this is a premise. The card (YthimbimilnfdnaaGreatDoorCards.lean) ties it to the program's text. -/
def laid_unicode_utf8_acceptRanges {H : Type} : DataW H := .agg [.agg [.lit (.int .u8 128), .lit (.int .u8 191)], .agg [.lit (.int .u8 160), .lit (.int .u8 191)], .agg [.lit (.int .u8 128), .lit (.int .u8 159)], .agg [.lit (.int .u8 144), .lit (.int .u8 191)], .agg [.lit (.int .u8 128), .lit (.int .u8 143)], .agg [.lit (.int .u8 0), .lit (.int .u8 0)], .agg [.lit (.int .u8 0), .lit (.int .u8 0)], .agg [.lit (.int .u8 0), .lit (.int .u8 0)], .agg [.lit (.int .u8 0), .lit (.int .u8 0)], .agg [.lit (.int .u8 0), .lit (.int .u8 0)], .agg [.lit (.int .u8 0), .lit (.int .u8 0)], .agg [.lit (.int .u8 0), .lit (.int .u8 0)], .agg [.lit (.int .u8 0), .lit (.int .u8 0)], .agg [.lit (.int .u8 0), .lit (.int .u8 0)], .agg [.lit (.int .u8 0), .lit (.int .u8 0)], .agg [.lit (.int .u8 0), .lit (.int .u8 0)]]
/-- One of Go's own tables, pinned by name: the form's constant. -/
def laid_unicode_utf8_first : DataW Unit := Go.Pinned.utf8First

/-- 'hansardlaw53.SpreadSpec': WHATEVER THE INPUT: true; the input reads as it did. -/
def spreadSpecSpec : ChangeSpec := { name := "spreadSpec", fn := fun _ => fun
  | [d1, d2, d3] => { results := [.lit (.bool true)], args := [d1, d2, d3] }
  | _ => none }
def spreadSpecRow : OpenClaim := { program := "ythimbimilnfdnaagreatdoor", sum := "c552ec89958c829625a7a9ade4dbadf14ca49fb20d3d74d0d92224a2cd0ac381", func := "hansard/hansardlaw53.SpreadSpec", spec := "spreadSpec", inPlace := ["slices.overlaps[hansard/api.Spot]", "internal/bytealg.abigen_runtime_cmpstring", "slices.overlaps[hansard/api.Note]"], unfollowed := true, recurses := true, named := ["unicode/utf8.first", "unicode/utf8.acceptRanges"], apart := false, laid := [("unicode/utf8.acceptRanges", laid_unicode_utf8_acceptRanges), ("unicode/utf8.first", laid_unicode_utf8_first)] }
def SpreadSpecSaid : Prop := spreadSpecRow.holds Tryz.pinned (OpenSpec.ofChange spreadSpecSpec)

/-- ITS FALSE NEIGHBOUR: 'it returns false'. Refute it at one input. -/
def spreadSpecWrong : ChangeSpec := { name := "spreadSpec", fn := fun _ => fun
  | [d1, d2, d3] => { results := [.lit (.bool false)], args := [d1, d2, d3] }
  | _ => none }
def SpreadSpecWrongFalsely : Prop := spreadSpecRow.holds Tryz.pinned (OpenSpec.ofChange spreadSpecWrong)

/-- 'hansardlaw53.SpreadSeenSpec': WHATEVER THE INPUT: true; the input reads as it did. -/
def spreadSeenSpecSpec : ChangeSpec := { name := "spreadSeenSpec", fn := fun _ => fun
  | [d1, d2] => { results := [.lit (.bool true)], args := [d1, d2] }
  | _ => none }
def spreadSeenSpecRow : OpenClaim := { program := "ythimbimilnfdnaagreatdoor", sum := "c552ec89958c829625a7a9ade4dbadf14ca49fb20d3d74d0d92224a2cd0ac381", func := "hansard/hansardlaw53.SpreadSeenSpec", spec := "spreadSeenSpec", inPlace := ["slices.overlaps[hansard/api.Spot]", "internal/bytealg.abigen_runtime_cmpstring", "slices.overlaps[hansard/api.Note]"], unfollowed := true, recurses := true, named := ["unicode/utf8.first", "unicode/utf8.acceptRanges"], apart := false, laid := [("unicode/utf8.acceptRanges", laid_unicode_utf8_acceptRanges), ("unicode/utf8.first", laid_unicode_utf8_first)] }
def SpreadSeenSpecSaid : Prop := spreadSeenSpecRow.holds Tryz.pinned (OpenSpec.ofChange spreadSeenSpecSpec)

/-- ITS FALSE NEIGHBOUR: 'it returns false'. Refute it at one input. -/
def spreadSeenSpecWrong : ChangeSpec := { name := "spreadSeenSpec", fn := fun _ => fun
  | [d1, d2] => { results := [.lit (.bool false)], args := [d1, d2] }
  | _ => none }
def SpreadSeenSpecWrongFalsely : Prop := spreadSeenSpecRow.holds Tryz.pinned (OpenSpec.ofChange spreadSeenSpecWrong)

/-- 'hansardlaw53.SpreadConverge': WHATEVER THE INPUT: true; the input reads as it did. -/
def spreadConvergeSpec : ChangeSpec := { name := "spreadConverge", fn := fun _ => fun
  | [d1, d2, d3] => { results := [.lit (.bool true)], args := [d1, d2, d3] }
  | _ => none }
def spreadConvergeRow : OpenClaim := { program := "ythimbimilnfdnaagreatdoor", sum := "c552ec89958c829625a7a9ade4dbadf14ca49fb20d3d74d0d92224a2cd0ac381", func := "hansard/hansardlaw53.SpreadConverge", spec := "spreadConverge", inPlace := ["slices.overlaps[hansard/api.Spot]", "internal/bytealg.abigen_runtime_cmpstring", "slices.overlaps[hansard/api.Note]"], unfollowed := true, recurses := true, named := ["unicode/utf8.first", "unicode/utf8.acceptRanges"], apart := false, laid := [("unicode/utf8.acceptRanges", laid_unicode_utf8_acceptRanges), ("unicode/utf8.first", laid_unicode_utf8_first)] }
def SpreadConvergeSaid : Prop := spreadConvergeRow.holds Tryz.pinned (OpenSpec.ofChange spreadConvergeSpec)

/-- ITS FALSE NEIGHBOUR: 'it returns false'. Refute it at one input. -/
def spreadConvergeWrong : ChangeSpec := { name := "spreadConverge", fn := fun _ => fun
  | [d1, d2, d3] => { results := [.lit (.bool false)], args := [d1, d2, d3] }
  | _ => none }
def SpreadConvergeWrongFalsely : Prop := spreadConvergeRow.holds Tryz.pinned (OpenSpec.ofChange spreadConvergeWrong)

/-- 'hansardlaw53.SpreadKnown': WHATEVER THE INPUT: true; the input reads as it did. -/
def spreadKnownSpec : ChangeSpec := { name := "spreadKnown", fn := fun _ => fun
  | [d1, d2] => { results := [.lit (.bool true)], args := [d1, d2] }
  | _ => none }
def spreadKnownRow : OpenClaim := { program := "ythimbimilnfdnaagreatdoor", sum := "c552ec89958c829625a7a9ade4dbadf14ca49fb20d3d74d0d92224a2cd0ac381", func := "hansard/hansardlaw53.SpreadKnown", spec := "spreadKnown", inPlace := ["slices.overlaps[hansard/api.Spot]", "internal/bytealg.abigen_runtime_cmpstring", "slices.overlaps[hansard/api.Note]"], unfollowed := true, recurses := true, named := ["unicode/utf8.first", "unicode/utf8.acceptRanges"], apart := false, laid := [("unicode/utf8.acceptRanges", laid_unicode_utf8_acceptRanges), ("unicode/utf8.first", laid_unicode_utf8_first)] }
def SpreadKnownSaid : Prop := spreadKnownRow.holds Tryz.pinned (OpenSpec.ofChange spreadKnownSpec)

/-- ITS FALSE NEIGHBOUR: 'it returns false'. Refute it at one input. -/
def spreadKnownWrong : ChangeSpec := { name := "spreadKnown", fn := fun _ => fun
  | [d1, d2] => { results := [.lit (.bool false)], args := [d1, d2] }
  | _ => none }
def SpreadKnownWrongFalsely : Prop := spreadKnownRow.holds Tryz.pinned (OpenSpec.ofChange spreadKnownWrong)

/-- 'hansardlaw53.SpreadOrder': WHATEVER THE INPUT: true; the input reads as it did. -/
def spreadOrderSpec : ChangeSpec := { name := "spreadOrder", fn := fun _ => fun
  | [d1, d2, d3] => { results := [.lit (.bool true)], args := [d1, d2, d3] }
  | _ => none }
def spreadOrderRow : OpenClaim := { program := "ythimbimilnfdnaagreatdoor", sum := "c552ec89958c829625a7a9ade4dbadf14ca49fb20d3d74d0d92224a2cd0ac381", func := "hansard/hansardlaw53.SpreadOrder", spec := "spreadOrder", inPlace := ["slices.overlaps[hansard/api.Spot]", "internal/bytealg.abigen_runtime_cmpstring", "slices.overlaps[hansard/api.Note]"], unfollowed := true, recurses := true, named := ["unicode/utf8.first", "unicode/utf8.acceptRanges"], apart := false, laid := [("unicode/utf8.acceptRanges", laid_unicode_utf8_acceptRanges), ("unicode/utf8.first", laid_unicode_utf8_first)] }
def SpreadOrderSaid : Prop := spreadOrderRow.holds Tryz.pinned (OpenSpec.ofChange spreadOrderSpec)

/-- ITS FALSE NEIGHBOUR: 'it returns false'. Refute it at one input. -/
def spreadOrderWrong : ChangeSpec := { name := "spreadOrder", fn := fun _ => fun
  | [d1, d2, d3] => { results := [.lit (.bool false)], args := [d1, d2, d3] }
  | _ => none }
def SpreadOrderWrongFalsely : Prop := spreadOrderRow.holds Tryz.pinned (OpenSpec.ofChange spreadOrderWrong)

/-- 'hansardlaw53.SpreadSeen': WHATEVER THE INPUT: true; the input reads as it did. -/
def spreadSeenSpec : ChangeSpec := { name := "spreadSeen", fn := fun _ => fun
  | [d1, d2] => { results := [.lit (.bool true)], args := [d1, d2] }
  | _ => none }
def spreadSeenRow : OpenClaim := { program := "ythimbimilnfdnaagreatdoor", sum := "c552ec89958c829625a7a9ade4dbadf14ca49fb20d3d74d0d92224a2cd0ac381", func := "hansard/hansardlaw53.SpreadSeen", spec := "spreadSeen", inPlace := ["slices.overlaps[hansard/api.Spot]", "internal/bytealg.abigen_runtime_cmpstring", "slices.overlaps[hansard/api.Note]"], unfollowed := true, recurses := true, named := ["unicode/utf8.first", "unicode/utf8.acceptRanges"], apart := false, laid := [("unicode/utf8.acceptRanges", laid_unicode_utf8_acceptRanges), ("unicode/utf8.first", laid_unicode_utf8_first)] }
def SpreadSeenSaid : Prop := spreadSeenRow.holds Tryz.pinned (OpenSpec.ofChange spreadSeenSpec)

/-- ITS FALSE NEIGHBOUR: 'it returns false'. Refute it at one input. -/
def spreadSeenWrong : ChangeSpec := { name := "spreadSeen", fn := fun _ => fun
  | [d1, d2] => { results := [.lit (.bool false)], args := [d1, d2] }
  | _ => none }
def SpreadSeenWrongFalsely : Prop := spreadSeenRow.holds Tryz.pinned (OpenSpec.ofChange spreadSeenWrong)

/-- 'hansardlaw53.SpreadMore': WHATEVER THE INPUT: true; the input reads as it did. -/
def spreadMoreSpec : ChangeSpec := { name := "spreadMore", fn := fun _ => fun
  | [d1, d2, d3] => { results := [.lit (.bool true)], args := [d1, d2, d3] }
  | _ => none }
def spreadMoreRow : OpenClaim := { program := "ythimbimilnfdnaagreatdoor", sum := "c552ec89958c829625a7a9ade4dbadf14ca49fb20d3d74d0d92224a2cd0ac381", func := "hansard/hansardlaw53.SpreadMore", spec := "spreadMore", inPlace := ["slices.overlaps[hansard/api.Spot]", "internal/bytealg.abigen_runtime_cmpstring", "slices.overlaps[hansard/api.Note]"], unfollowed := true, recurses := true, named := ["unicode/utf8.first", "unicode/utf8.acceptRanges"], apart := false, laid := [("unicode/utf8.acceptRanges", laid_unicode_utf8_acceptRanges), ("unicode/utf8.first", laid_unicode_utf8_first)] }
def SpreadMoreSaid : Prop := spreadMoreRow.holds Tryz.pinned (OpenSpec.ofChange spreadMoreSpec)

/-- ITS FALSE NEIGHBOUR: 'it returns false'. Refute it at one input. -/
def spreadMoreWrong : ChangeSpec := { name := "spreadMore", fn := fun _ => fun
  | [d1, d2, d3] => { results := [.lit (.bool false)], args := [d1, d2, d3] }
  | _ => none }
def SpreadMoreWrongFalsely : Prop := spreadMoreRow.holds Tryz.pinned (OpenSpec.ofChange spreadMoreWrong)

/- THE SECOND FORM. 'bulk': how many values and letters a reading holds, each counted each time it is reached (what is shared counts as often as it is met; a slice's spare places count too). A statement '..UptoSaid' is the law's where the arguments, and the package variables that the reading takes, are together of bulk at most 1048576: NARROWER than '..Said'. Prove '..Said' where nothing that the law and all that it calls make is longer than what came in: it says more and counts as full. Else prove '..UptoSaid'. A law counts once. -/
mutual
def uptoBulk {H : Type} : DataW H → Nat
  | .lit (.string bytes) => bytes.length + 1
  | .lit _ => 1
  | .nil => 1
  | .ptr d => uptoBulk d + 1
  | .slice elems spare => uptoBulkAll elems + uptoBulkAll spare + 1
  | .agg parts => uptoBulkAll parts + 1
  | .iface _ d => uptoBulk d + 1
  | .map entries => uptoBulkEntries entries + 1
  | .held _ => 1
def uptoBulkAll {H : Type} : List (DataW H) → Nat
  | [] => 0
  | d :: r => uptoBulk d + uptoBulkAll r
def uptoBulkEntries {H : Type} : List (Lit × DataW H) → Nat
  | [] => 0
  | x :: r => uptoBulkEntry x + uptoBulkEntries r
def uptoBulkEntry {H : Type} : Lit × DataW H → Nat
  | (.string bytes, d) => bytes.length + uptoBulk d + 1
  | (_, d) => uptoBulk d + 1
 end
def uptoSmall : (H : Type) → List (DataW H) → Bool := fun _ ds => decide (uptoBulkAll ds ≤ 1048576)
def OpenSpec.upto (s : _root_.Go.ChangeSpec) : _root_.Go.OpenSpec := { _root_.Go.OpenSpec.ofChange s with cond := some uptoSmall }

/-- 'hansardlaw53.SpreadSpec', WHERE WHAT IT READS IS OF BULK AT MOST 1048576: true; the input reads as it did. -/
def spreadSpecUptoRow : OpenClaim := { program := "ythimbimilnfdnaagreatdoor", sum := "c552ec89958c829625a7a9ade4dbadf14ca49fb20d3d74d0d92224a2cd0ac381", func := "hansard/hansardlaw53.SpreadSpec", spec := "spreadSpec", inPlace := ["slices.overlaps[hansard/api.Spot]", "internal/bytealg.abigen_runtime_cmpstring", "slices.overlaps[hansard/api.Note]"], unfollowed := true, recurses := true, named := ["unicode/utf8.first", "unicode/utf8.acceptRanges"], apart := false, laid := [("unicode/utf8.acceptRanges", laid_unicode_utf8_acceptRanges), ("unicode/utf8.first", laid_unicode_utf8_first)], narrowed := true }
def SpreadSpecUptoSaid : Prop := spreadSpecUptoRow.holds Tryz.pinned (OpenSpec.upto spreadSpecSpec)

/-- 'hansardlaw53.SpreadSeenSpec', WHERE WHAT IT READS IS OF BULK AT MOST 1048576: true; the input reads as it did. -/
def spreadSeenSpecUptoRow : OpenClaim := { program := "ythimbimilnfdnaagreatdoor", sum := "c552ec89958c829625a7a9ade4dbadf14ca49fb20d3d74d0d92224a2cd0ac381", func := "hansard/hansardlaw53.SpreadSeenSpec", spec := "spreadSeenSpec", inPlace := ["slices.overlaps[hansard/api.Spot]", "internal/bytealg.abigen_runtime_cmpstring", "slices.overlaps[hansard/api.Note]"], unfollowed := true, recurses := true, named := ["unicode/utf8.first", "unicode/utf8.acceptRanges"], apart := false, laid := [("unicode/utf8.acceptRanges", laid_unicode_utf8_acceptRanges), ("unicode/utf8.first", laid_unicode_utf8_first)], narrowed := true }
def SpreadSeenSpecUptoSaid : Prop := spreadSeenSpecUptoRow.holds Tryz.pinned (OpenSpec.upto spreadSeenSpecSpec)

/-- 'hansardlaw53.SpreadConverge', WHERE WHAT IT READS IS OF BULK AT MOST 1048576: true; the input reads as it did. -/
def spreadConvergeUptoRow : OpenClaim := { program := "ythimbimilnfdnaagreatdoor", sum := "c552ec89958c829625a7a9ade4dbadf14ca49fb20d3d74d0d92224a2cd0ac381", func := "hansard/hansardlaw53.SpreadConverge", spec := "spreadConverge", inPlace := ["slices.overlaps[hansard/api.Spot]", "internal/bytealg.abigen_runtime_cmpstring", "slices.overlaps[hansard/api.Note]"], unfollowed := true, recurses := true, named := ["unicode/utf8.first", "unicode/utf8.acceptRanges"], apart := false, laid := [("unicode/utf8.acceptRanges", laid_unicode_utf8_acceptRanges), ("unicode/utf8.first", laid_unicode_utf8_first)], narrowed := true }
def SpreadConvergeUptoSaid : Prop := spreadConvergeUptoRow.holds Tryz.pinned (OpenSpec.upto spreadConvergeSpec)

/-- 'hansardlaw53.SpreadKnown', WHERE WHAT IT READS IS OF BULK AT MOST 1048576: true; the input reads as it did. -/
def spreadKnownUptoRow : OpenClaim := { program := "ythimbimilnfdnaagreatdoor", sum := "c552ec89958c829625a7a9ade4dbadf14ca49fb20d3d74d0d92224a2cd0ac381", func := "hansard/hansardlaw53.SpreadKnown", spec := "spreadKnown", inPlace := ["slices.overlaps[hansard/api.Spot]", "internal/bytealg.abigen_runtime_cmpstring", "slices.overlaps[hansard/api.Note]"], unfollowed := true, recurses := true, named := ["unicode/utf8.first", "unicode/utf8.acceptRanges"], apart := false, laid := [("unicode/utf8.acceptRanges", laid_unicode_utf8_acceptRanges), ("unicode/utf8.first", laid_unicode_utf8_first)], narrowed := true }
def SpreadKnownUptoSaid : Prop := spreadKnownUptoRow.holds Tryz.pinned (OpenSpec.upto spreadKnownSpec)

/-- 'hansardlaw53.SpreadOrder', WHERE WHAT IT READS IS OF BULK AT MOST 1048576: true; the input reads as it did. -/
def spreadOrderUptoRow : OpenClaim := { program := "ythimbimilnfdnaagreatdoor", sum := "c552ec89958c829625a7a9ade4dbadf14ca49fb20d3d74d0d92224a2cd0ac381", func := "hansard/hansardlaw53.SpreadOrder", spec := "spreadOrder", inPlace := ["slices.overlaps[hansard/api.Spot]", "internal/bytealg.abigen_runtime_cmpstring", "slices.overlaps[hansard/api.Note]"], unfollowed := true, recurses := true, named := ["unicode/utf8.first", "unicode/utf8.acceptRanges"], apart := false, laid := [("unicode/utf8.acceptRanges", laid_unicode_utf8_acceptRanges), ("unicode/utf8.first", laid_unicode_utf8_first)], narrowed := true }
def SpreadOrderUptoSaid : Prop := spreadOrderUptoRow.holds Tryz.pinned (OpenSpec.upto spreadOrderSpec)

/-- 'hansardlaw53.SpreadSeen', WHERE WHAT IT READS IS OF BULK AT MOST 1048576: true; the input reads as it did. -/
def spreadSeenUptoRow : OpenClaim := { program := "ythimbimilnfdnaagreatdoor", sum := "c552ec89958c829625a7a9ade4dbadf14ca49fb20d3d74d0d92224a2cd0ac381", func := "hansard/hansardlaw53.SpreadSeen", spec := "spreadSeen", inPlace := ["slices.overlaps[hansard/api.Spot]", "internal/bytealg.abigen_runtime_cmpstring", "slices.overlaps[hansard/api.Note]"], unfollowed := true, recurses := true, named := ["unicode/utf8.first", "unicode/utf8.acceptRanges"], apart := false, laid := [("unicode/utf8.acceptRanges", laid_unicode_utf8_acceptRanges), ("unicode/utf8.first", laid_unicode_utf8_first)], narrowed := true }
def SpreadSeenUptoSaid : Prop := spreadSeenUptoRow.holds Tryz.pinned (OpenSpec.upto spreadSeenSpec)

/-- 'hansardlaw53.SpreadMore', WHERE WHAT IT READS IS OF BULK AT MOST 1048576: true; the input reads as it did. -/
def spreadMoreUptoRow : OpenClaim := { program := "ythimbimilnfdnaagreatdoor", sum := "c552ec89958c829625a7a9ade4dbadf14ca49fb20d3d74d0d92224a2cd0ac381", func := "hansard/hansardlaw53.SpreadMore", spec := "spreadMore", inPlace := ["slices.overlaps[hansard/api.Spot]", "internal/bytealg.abigen_runtime_cmpstring", "slices.overlaps[hansard/api.Note]"], unfollowed := true, recurses := true, named := ["unicode/utf8.first", "unicode/utf8.acceptRanges"], apart := false, laid := [("unicode/utf8.acceptRanges", laid_unicode_utf8_acceptRanges), ("unicode/utf8.first", laid_unicode_utf8_first)], narrowed := true }
def SpreadMoreUptoSaid : Prop := spreadMoreUptoRow.holds Tryz.pinned (OpenSpec.upto spreadMoreSpec)

end Rows
end Go.Proofs.YthimbimilnfdnaaGreatDoor
