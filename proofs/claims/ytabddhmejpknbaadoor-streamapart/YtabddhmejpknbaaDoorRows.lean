/-
  NARROWER THAN 'FOR EVERY INPUT', by the rows' own cells (each row's printed sentence says how): StreamSpec: laid · StreamDoSpec: laid · StreamFixed: laid · StreamBack: laid · StreamAdds: laid · StreamApart: laid · StreamFix: laid.
  DERIVED. THE GIVEN ROWS OF THIS SEAT. 7 by the template 'for every input the law returns true; each argument reads behind the call as it read before'; 0 by the template 'total and deterministic' (their statements: YtabddhmejpknbaaDoorTotals.lean).
  GIVEN WITH THE SEED: the statements are not yours to turn. If you find one false, say at which input.
  Laid BY PROGRAM, IN A SANDBOX (cutbox-rows.mjs): the forced cells as the released guide's own fill.sh prints them over the translation 89f4705d31bcdd6d… (all of the seat's roots in one cut). By AI agents, Wed Nov 11 2026. No macro, syntax, notation, axiom, sorry.
-/
import Derived.Test.YtabddhmejpknbaaDoorChecked
import GoSem.PinnedTables
import GoSem.Claim
import GoSem.ClaimJoined
import GoSem.ClaimMapViews
import Derived.JoinedTies
import Derived.KernelRfl
namespace Go.Proofs.YtabddhmejpknbaaDoor
/- THE CELL 'sum', in the pinned program and in every row, IS THE sha256 OF THE DUMP (.gsa) THAT YtabddhmejpknbaaDoorProg.lean LOADS. Nothing in Lean hashes anything: it is a label: what it is worth is what the hold of that sum in a sandbox is worth. -/
noncomputable def Tryd.pinned : Pinned := { name := "ytabddhmejpknbaadoor", sum := "89f4705d31bcdd6d4ecc8717d89766c636a366009d31f3da34a9880550ec0f50", checked := Tryd.checked }
namespace Rows
def none {H : Type} : Left H := { results := [], args := [] }

/- WHAT THE LISTED PACKAGE-LEVEL VARIABLES READ AS WHEN THE CALL BEGINS. Each datum BY PROGRAM (the guide's laid-datum.mjs) off the statement by which the dump's own 'gosem.cut.vars' lays the variable. In a bare row this is a premise. The card (YtabddhmejpknbaaDoorCards.lean) ties it to the program's text. -/
def laid_unicode_utf8_acceptRanges {H : Type} : DataW H := .agg [.agg [.lit (.int .u8 128), .lit (.int .u8 191)], .agg [.lit (.int .u8 160), .lit (.int .u8 191)], .agg [.lit (.int .u8 128), .lit (.int .u8 159)], .agg [.lit (.int .u8 144), .lit (.int .u8 191)], .agg [.lit (.int .u8 128), .lit (.int .u8 143)], .agg [.lit (.int .u8 0), .lit (.int .u8 0)], .agg [.lit (.int .u8 0), .lit (.int .u8 0)], .agg [.lit (.int .u8 0), .lit (.int .u8 0)], .agg [.lit (.int .u8 0), .lit (.int .u8 0)], .agg [.lit (.int .u8 0), .lit (.int .u8 0)], .agg [.lit (.int .u8 0), .lit (.int .u8 0)], .agg [.lit (.int .u8 0), .lit (.int .u8 0)], .agg [.lit (.int .u8 0), .lit (.int .u8 0)], .agg [.lit (.int .u8 0), .lit (.int .u8 0)], .agg [.lit (.int .u8 0), .lit (.int .u8 0)], .agg [.lit (.int .u8 0), .lit (.int .u8 0)]]
/-- One of Go's own tables, pinned by name: the form's constant. -/
def laid_unicode_utf8_first : DataW Unit := Go.Pinned.utf8First

/-- 'hansardlaw17.StreamSpec': WHATEVER THE INPUT: true; the input reads as it did. -/
def streamSpecSpec : ChangeSpec := { name := "streamSpec", fn := fun _ => fun
  | [d] => { results := [.lit (.bool true)], args := [d] }
  | _ => none }
def streamSpecRow : OpenClaim := { program := "ytabddhmejpknbaadoor", sum := "89f4705d31bcdd6d4ecc8717d89766c636a366009d31f3da34a9880550ec0f50", func := "hansard/hansardlaw17.StreamSpec", spec := "streamSpec", unfollowed := true, recurses := true, named := ["unicode/utf8.first", "unicode/utf8.acceptRanges"], apart := false, laid := [("unicode/utf8.acceptRanges", laid_unicode_utf8_acceptRanges), ("unicode/utf8.first", laid_unicode_utf8_first)] }
def StreamSpecSaid : Prop := streamSpecRow.holds Tryd.pinned (OpenSpec.ofChange streamSpecSpec)

/-- ITS FALSE NEIGHBOUR: 'it returns false'. Refute it at one input. -/
def streamSpecWrong : ChangeSpec := { name := "streamSpec", fn := fun _ => fun
  | [d] => { results := [.lit (.bool false)], args := [d] }
  | _ => none }
def StreamSpecWrongFalsely : Prop := streamSpecRow.holds Tryd.pinned (OpenSpec.ofChange streamSpecWrong)

/-- 'hansardlaw17.StreamDoSpec': WHATEVER THE INPUT: true; the input reads as it did. -/
def streamDoSpecSpec : ChangeSpec := { name := "streamDoSpec", fn := fun _ => fun
  | [d1, d2] => { results := [.lit (.bool true)], args := [d1, d2] }
  | _ => none }
def streamDoSpecRow : OpenClaim := { program := "ytabddhmejpknbaadoor", sum := "89f4705d31bcdd6d4ecc8717d89766c636a366009d31f3da34a9880550ec0f50", func := "hansard/hansardlaw17.StreamDoSpec", spec := "streamDoSpec", unfollowed := true, recurses := true, named := ["unicode/utf8.first", "unicode/utf8.acceptRanges"], apart := false, laid := [("unicode/utf8.acceptRanges", laid_unicode_utf8_acceptRanges), ("unicode/utf8.first", laid_unicode_utf8_first)] }
def StreamDoSpecSaid : Prop := streamDoSpecRow.holds Tryd.pinned (OpenSpec.ofChange streamDoSpecSpec)

/-- ITS FALSE NEIGHBOUR: 'it returns false'. Refute it at one input. -/
def streamDoSpecWrong : ChangeSpec := { name := "streamDoSpec", fn := fun _ => fun
  | [d1, d2] => { results := [.lit (.bool false)], args := [d1, d2] }
  | _ => none }
def StreamDoSpecWrongFalsely : Prop := streamDoSpecRow.holds Tryd.pinned (OpenSpec.ofChange streamDoSpecWrong)

/-- 'hansardlaw17.StreamFixed': WHATEVER THE INPUT: true; the input reads as it did. -/
def streamFixedSpec : ChangeSpec := { name := "streamFixed", fn := fun _ => fun
  | [d1, d2] => { results := [.lit (.bool true)], args := [d1, d2] }
  | _ => none }
def streamFixedRow : OpenClaim := { program := "ytabddhmejpknbaadoor", sum := "89f4705d31bcdd6d4ecc8717d89766c636a366009d31f3da34a9880550ec0f50", func := "hansard/hansardlaw17.StreamFixed", spec := "streamFixed", unfollowed := true, recurses := true, named := ["unicode/utf8.first", "unicode/utf8.acceptRanges"], apart := false, laid := [("unicode/utf8.acceptRanges", laid_unicode_utf8_acceptRanges), ("unicode/utf8.first", laid_unicode_utf8_first)] }
def StreamFixedSaid : Prop := streamFixedRow.holds Tryd.pinned (OpenSpec.ofChange streamFixedSpec)

/-- ITS FALSE NEIGHBOUR: 'it returns false'. Refute it at one input. -/
def streamFixedWrong : ChangeSpec := { name := "streamFixed", fn := fun _ => fun
  | [d1, d2] => { results := [.lit (.bool false)], args := [d1, d2] }
  | _ => none }
def StreamFixedWrongFalsely : Prop := streamFixedRow.holds Tryd.pinned (OpenSpec.ofChange streamFixedWrong)

/-- 'hansardlaw17.StreamBack': WHATEVER THE INPUT: true; the input reads as it did. -/
def streamBackSpec : ChangeSpec := { name := "streamBack", fn := fun _ => fun
  | [d1, d2] => { results := [.lit (.bool true)], args := [d1, d2] }
  | _ => none }
def streamBackRow : OpenClaim := { program := "ytabddhmejpknbaadoor", sum := "89f4705d31bcdd6d4ecc8717d89766c636a366009d31f3da34a9880550ec0f50", func := "hansard/hansardlaw17.StreamBack", spec := "streamBack", unfollowed := true, recurses := true, named := ["unicode/utf8.first", "unicode/utf8.acceptRanges"], apart := false, laid := [("unicode/utf8.acceptRanges", laid_unicode_utf8_acceptRanges), ("unicode/utf8.first", laid_unicode_utf8_first)] }
def StreamBackSaid : Prop := streamBackRow.holds Tryd.pinned (OpenSpec.ofChange streamBackSpec)

/-- ITS FALSE NEIGHBOUR: 'it returns false'. Refute it at one input. -/
def streamBackWrong : ChangeSpec := { name := "streamBack", fn := fun _ => fun
  | [d1, d2] => { results := [.lit (.bool false)], args := [d1, d2] }
  | _ => none }
def StreamBackWrongFalsely : Prop := streamBackRow.holds Tryd.pinned (OpenSpec.ofChange streamBackWrong)

/-- 'hansardlaw17.StreamAdds': WHATEVER THE INPUT: true; the input reads as it did. -/
def streamAddsSpec : ChangeSpec := { name := "streamAdds", fn := fun _ => fun
  | [d1, d2, d3] => { results := [.lit (.bool true)], args := [d1, d2, d3] }
  | _ => none }
def streamAddsRow : OpenClaim := { program := "ytabddhmejpknbaadoor", sum := "89f4705d31bcdd6d4ecc8717d89766c636a366009d31f3da34a9880550ec0f50", func := "hansard/hansardlaw17.StreamAdds", spec := "streamAdds", unfollowed := true, recurses := true, named := ["unicode/utf8.first", "unicode/utf8.acceptRanges"], apart := false, laid := [("unicode/utf8.acceptRanges", laid_unicode_utf8_acceptRanges), ("unicode/utf8.first", laid_unicode_utf8_first)] }
def StreamAddsSaid : Prop := streamAddsRow.holds Tryd.pinned (OpenSpec.ofChange streamAddsSpec)

/-- ITS FALSE NEIGHBOUR: 'it returns false'. Refute it at one input. -/
def streamAddsWrong : ChangeSpec := { name := "streamAdds", fn := fun _ => fun
  | [d1, d2, d3] => { results := [.lit (.bool false)], args := [d1, d2, d3] }
  | _ => none }
def StreamAddsWrongFalsely : Prop := streamAddsRow.holds Tryd.pinned (OpenSpec.ofChange streamAddsWrong)

/-- 'hansardlaw17.StreamApart': WHATEVER THE INPUT: true; the input reads as it did. -/
def streamApartSpec : ChangeSpec := { name := "streamApart", fn := fun _ => fun
  | [d1, d2, d3] => { results := [.lit (.bool true)], args := [d1, d2, d3] }
  | _ => none }
def streamApartRow : OpenClaim := { program := "ytabddhmejpknbaadoor", sum := "89f4705d31bcdd6d4ecc8717d89766c636a366009d31f3da34a9880550ec0f50", func := "hansard/hansardlaw17.StreamApart", spec := "streamApart", unfollowed := true, recurses := true, named := ["unicode/utf8.first", "unicode/utf8.acceptRanges"], apart := false, laid := [("unicode/utf8.acceptRanges", laid_unicode_utf8_acceptRanges), ("unicode/utf8.first", laid_unicode_utf8_first)] }
def StreamApartSaid : Prop := streamApartRow.holds Tryd.pinned (OpenSpec.ofChange streamApartSpec)

/-- ITS FALSE NEIGHBOUR: 'it returns false'. Refute it at one input. -/
def streamApartWrong : ChangeSpec := { name := "streamApart", fn := fun _ => fun
  | [d1, d2, d3] => { results := [.lit (.bool false)], args := [d1, d2, d3] }
  | _ => none }
def StreamApartWrongFalsely : Prop := streamApartRow.holds Tryd.pinned (OpenSpec.ofChange streamApartWrong)

/-- 'hansardlaw17.StreamFix': WHATEVER THE INPUT: true; the input reads as it did. -/
def streamFixSpec : ChangeSpec := { name := "streamFix", fn := fun _ => fun
  | [d1, d2, d3] => { results := [.lit (.bool true)], args := [d1, d2, d3] }
  | _ => none }
def streamFixRow : OpenClaim := { program := "ytabddhmejpknbaadoor", sum := "89f4705d31bcdd6d4ecc8717d89766c636a366009d31f3da34a9880550ec0f50", func := "hansard/hansardlaw17.StreamFix", spec := "streamFix", unfollowed := true, recurses := true, named := ["unicode/utf8.first", "unicode/utf8.acceptRanges"], apart := false, laid := [("unicode/utf8.acceptRanges", laid_unicode_utf8_acceptRanges), ("unicode/utf8.first", laid_unicode_utf8_first)] }
def StreamFixSaid : Prop := streamFixRow.holds Tryd.pinned (OpenSpec.ofChange streamFixSpec)

/-- ITS FALSE NEIGHBOUR: 'it returns false'. Refute it at one input. -/
def streamFixWrong : ChangeSpec := { name := "streamFix", fn := fun _ => fun
  | [d1, d2, d3] => { results := [.lit (.bool false)], args := [d1, d2, d3] }
  | _ => none }
def StreamFixWrongFalsely : Prop := streamFixRow.holds Tryd.pinned (OpenSpec.ofChange streamFixWrong)

/- THE SECOND FORM. 'bulk': how many values and letters a reading holds, each counted each time it is reached (what is shared counts as often as it is met; a slice's spare places count too). A statement '..UptoSaid' is the law's where the arguments, and the package variables that the reading takes, are together of bulk at most 1048576: NARROWER than '..Said'. Prove '..Said' where nothing that the law and all that it calls make is longer than what came in: it says more and counts as full. Else prove '..UptoSaid'. A law counts once. -/
mutual
def uptoBulk {H : Type} : DataW H → Nat
  | .lit (.string bytes) => bytes.length + 1
  | .lit _ => 1
  | .nil => 1
  | .ptr d => uptoBulk d + 1
  | .slice elems spare => uptoBulkAll elems + uptoBulkAll spare + 1
  | .agg parts => uptoBulkAll parts + 1
  | .iface _ d => uptoBulk d + 1
  | .map entries => uptoBulkEntries entries + 1
  | .held _ => 1
def uptoBulkAll {H : Type} : List (DataW H) → Nat
  | [] => 0
  | d :: r => uptoBulk d + uptoBulkAll r
def uptoBulkEntries {H : Type} : List (Lit × DataW H) → Nat
  | [] => 0
  | x :: r => uptoBulkEntry x + uptoBulkEntries r
def uptoBulkEntry {H : Type} : Lit × DataW H → Nat
  | (.string bytes, d) => bytes.length + uptoBulk d + 1
  | (_, d) => uptoBulk d + 1
 end
def uptoSmall : (H : Type) → List (DataW H) → Bool := fun _ ds => decide (uptoBulkAll ds ≤ 1048576)
def OpenSpec.upto (s : _root_.Go.ChangeSpec) : _root_.Go.OpenSpec := { _root_.Go.OpenSpec.ofChange s with cond := some uptoSmall }

/-- 'hansardlaw17.StreamSpec', WHERE WHAT IT READS IS OF BULK AT MOST 1048576: true; the input reads as it did. -/
def streamSpecUptoRow : OpenClaim := { program := "ytabddhmejpknbaadoor", sum := "89f4705d31bcdd6d4ecc8717d89766c636a366009d31f3da34a9880550ec0f50", func := "hansard/hansardlaw17.StreamSpec", spec := "streamSpec", unfollowed := true, recurses := true, named := ["unicode/utf8.first", "unicode/utf8.acceptRanges"], apart := false, laid := [("unicode/utf8.acceptRanges", laid_unicode_utf8_acceptRanges), ("unicode/utf8.first", laid_unicode_utf8_first)], narrowed := true }
def StreamSpecUptoSaid : Prop := streamSpecUptoRow.holds Tryd.pinned (OpenSpec.upto streamSpecSpec)

/-- 'hansardlaw17.StreamDoSpec', WHERE WHAT IT READS IS OF BULK AT MOST 1048576: true; the input reads as it did. -/
def streamDoSpecUptoRow : OpenClaim := { program := "ytabddhmejpknbaadoor", sum := "89f4705d31bcdd6d4ecc8717d89766c636a366009d31f3da34a9880550ec0f50", func := "hansard/hansardlaw17.StreamDoSpec", spec := "streamDoSpec", unfollowed := true, recurses := true, named := ["unicode/utf8.first", "unicode/utf8.acceptRanges"], apart := false, laid := [("unicode/utf8.acceptRanges", laid_unicode_utf8_acceptRanges), ("unicode/utf8.first", laid_unicode_utf8_first)], narrowed := true }
def StreamDoSpecUptoSaid : Prop := streamDoSpecUptoRow.holds Tryd.pinned (OpenSpec.upto streamDoSpecSpec)

/-- 'hansardlaw17.StreamFixed', WHERE WHAT IT READS IS OF BULK AT MOST 1048576: true; the input reads as it did. -/
def streamFixedUptoRow : OpenClaim := { program := "ytabddhmejpknbaadoor", sum := "89f4705d31bcdd6d4ecc8717d89766c636a366009d31f3da34a9880550ec0f50", func := "hansard/hansardlaw17.StreamFixed", spec := "streamFixed", unfollowed := true, recurses := true, named := ["unicode/utf8.first", "unicode/utf8.acceptRanges"], apart := false, laid := [("unicode/utf8.acceptRanges", laid_unicode_utf8_acceptRanges), ("unicode/utf8.first", laid_unicode_utf8_first)], narrowed := true }
def StreamFixedUptoSaid : Prop := streamFixedUptoRow.holds Tryd.pinned (OpenSpec.upto streamFixedSpec)

/-- 'hansardlaw17.StreamBack', WHERE WHAT IT READS IS OF BULK AT MOST 1048576: true; the input reads as it did. -/
def streamBackUptoRow : OpenClaim := { program := "ytabddhmejpknbaadoor", sum := "89f4705d31bcdd6d4ecc8717d89766c636a366009d31f3da34a9880550ec0f50", func := "hansard/hansardlaw17.StreamBack", spec := "streamBack", unfollowed := true, recurses := true, named := ["unicode/utf8.first", "unicode/utf8.acceptRanges"], apart := false, laid := [("unicode/utf8.acceptRanges", laid_unicode_utf8_acceptRanges), ("unicode/utf8.first", laid_unicode_utf8_first)], narrowed := true }
def StreamBackUptoSaid : Prop := streamBackUptoRow.holds Tryd.pinned (OpenSpec.upto streamBackSpec)

/-- 'hansardlaw17.StreamAdds', WHERE WHAT IT READS IS OF BULK AT MOST 1048576: true; the input reads as it did. -/
def streamAddsUptoRow : OpenClaim := { program := "ytabddhmejpknbaadoor", sum := "89f4705d31bcdd6d4ecc8717d89766c636a366009d31f3da34a9880550ec0f50", func := "hansard/hansardlaw17.StreamAdds", spec := "streamAdds", unfollowed := true, recurses := true, named := ["unicode/utf8.first", "unicode/utf8.acceptRanges"], apart := false, laid := [("unicode/utf8.acceptRanges", laid_unicode_utf8_acceptRanges), ("unicode/utf8.first", laid_unicode_utf8_first)], narrowed := true }
def StreamAddsUptoSaid : Prop := streamAddsUptoRow.holds Tryd.pinned (OpenSpec.upto streamAddsSpec)

/-- 'hansardlaw17.StreamApart', WHERE WHAT IT READS IS OF BULK AT MOST 1048576: true; the input reads as it did. -/
def streamApartUptoRow : OpenClaim := { program := "ytabddhmejpknbaadoor", sum := "89f4705d31bcdd6d4ecc8717d89766c636a366009d31f3da34a9880550ec0f50", func := "hansard/hansardlaw17.StreamApart", spec := "streamApart", unfollowed := true, recurses := true, named := ["unicode/utf8.first", "unicode/utf8.acceptRanges"], apart := false, laid := [("unicode/utf8.acceptRanges", laid_unicode_utf8_acceptRanges), ("unicode/utf8.first", laid_unicode_utf8_first)], narrowed := true }
def StreamApartUptoSaid : Prop := streamApartUptoRow.holds Tryd.pinned (OpenSpec.upto streamApartSpec)

/-- 'hansardlaw17.StreamFix', WHERE WHAT IT READS IS OF BULK AT MOST 1048576: true; the input reads as it did. -/
def streamFixUptoRow : OpenClaim := { program := "ytabddhmejpknbaadoor", sum := "89f4705d31bcdd6d4ecc8717d89766c636a366009d31f3da34a9880550ec0f50", func := "hansard/hansardlaw17.StreamFix", spec := "streamFix", unfollowed := true, recurses := true, named := ["unicode/utf8.first", "unicode/utf8.acceptRanges"], apart := false, laid := [("unicode/utf8.acceptRanges", laid_unicode_utf8_acceptRanges), ("unicode/utf8.first", laid_unicode_utf8_first)], narrowed := true }
def StreamFixUptoSaid : Prop := streamFixUptoRow.holds Tryd.pinned (OpenSpec.upto streamFixSpec)

end Rows
end Go.Proofs.YtabddhmejpknbaaDoor
