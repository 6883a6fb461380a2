/-
  NARROWER THAN 'FOR EVERY INPUT', by the rows' own cells (each row's printed sentence says how): FnExactInverseOf: laid · FnExactLeanOf: laid · FnExactParseBigraph: laid · FnExactMergeRoots: laid · FnExactDiscreteOf: laid · FnExactBigraphText: laid · FnExactRenumberNodes: laid · FnExactComposeWirings: laid · FnExactAddName: laid · FnExactRenameOuter: laid.
  DERIVED. THE GIVEN ROWS OF THIS SEAT. 10 by the template 'for every input the law returns true; each argument reads behind the call as it read before'; 0 by the template 'total and deterministic' (their statements: YthbdmcobpcoajaaGreatDoorTotals.lean).
  GIVEN WITH THE SEED: the statements are not yours to turn. If you find one false, say at which input.
  Laid BY PROGRAM, IN A SANDBOX (cutbox-rows.mjs): the forced cells as the released guide's own fill.sh prints them over the translation 3fcb350d8f549a7b… (all of the seat's roots in one cut). By AI agents, Wed Nov 11 2026. No macro, syntax, notation, axiom, sorry.
-/
import Derived.Test.YthbdmcobpcoajaaGreatDoorChecked
import GoSem.PinnedTables
import GoSem.Claim
import GoSem.ClaimJoined
import GoSem.ClaimMapViews
import Derived.JoinedTies
import Derived.KernelRfl
namespace Go.Proofs.YthbdmcobpcoajaaGreatDoor
/- THE CELL 'sum', in the pinned program and in every row, IS THE sha256 OF THE DUMP (.gsa) THAT YthbdmcobpcoajaaGreatDoorProg.lean LOADS. Nothing in Lean hashes anything: it is a label: what it is worth is what the hold of that sum in a sandbox is worth. -/
noncomputable def Tryz.pinned : Pinned := { name := "ythbdmcobpcoajaagreatdoor", sum := "3fcb350d8f549a7b86609c5cf4a026b1c4c5cd444ee2b7457ea6c6fa38b4dafd", checked := Tryz.checked }
namespace Rows
def none {H : Type} : Left H := { results := [], args := [] }

/- WHAT THE LISTED PACKAGE-LEVEL VARIABLES READ AS WHEN THE CALL BEGINS. Each datum BY PROGRAM (the guide's laid-datum.mjs) off the statement by which the dump's own 'gosem.cut.vars' lays the variable. In a bare row this is a premise. The card (YthbdmcobpcoajaaGreatDoorCards.lean) ties it to the program's text. -/
def laid_unicode_utf8_acceptRanges {H : Type} : DataW H := .agg [.agg [.lit (.int .u8 128), .lit (.int .u8 191)], .agg [.lit (.int .u8 160), .lit (.int .u8 191)], .agg [.lit (.int .u8 128), .lit (.int .u8 159)], .agg [.lit (.int .u8 144), .lit (.int .u8 191)], .agg [.lit (.int .u8 128), .lit (.int .u8 143)], .agg [.lit (.int .u8 0), .lit (.int .u8 0)], .agg [.lit (.int .u8 0), .lit (.int .u8 0)], .agg [.lit (.int .u8 0), .lit (.int .u8 0)], .agg [.lit (.int .u8 0), .lit (.int .u8 0)], .agg [.lit (.int .u8 0), .lit (.int .u8 0)], .agg [.lit (.int .u8 0), .lit (.int .u8 0)], .agg [.lit (.int .u8 0), .lit (.int .u8 0)], .agg [.lit (.int .u8 0), .lit (.int .u8 0)], .agg [.lit (.int .u8 0), .lit (.int .u8 0)], .agg [.lit (.int .u8 0), .lit (.int .u8 0)], .agg [.lit (.int .u8 0), .lit (.int .u8 0)]]
/-- One of Go's own tables, pinned by name: the form's constant. -/
def laid_unicode_utf8_first : DataW Unit := Go.Pinned.utf8First
def laid_math_bits_deBruijn32tab {H : Type} : DataW H := .agg [.lit (.int .u8 0), .lit (.int .u8 1), .lit (.int .u8 28), .lit (.int .u8 2), .lit (.int .u8 29), .lit (.int .u8 14), .lit (.int .u8 24), .lit (.int .u8 3), .lit (.int .u8 30), .lit (.int .u8 22), .lit (.int .u8 20), .lit (.int .u8 15), .lit (.int .u8 25), .lit (.int .u8 17), .lit (.int .u8 4), .lit (.int .u8 8), .lit (.int .u8 31), .lit (.int .u8 27), .lit (.int .u8 13), .lit (.int .u8 23), .lit (.int .u8 21), .lit (.int .u8 19), .lit (.int .u8 16), .lit (.int .u8 7), .lit (.int .u8 26), .lit (.int .u8 12), .lit (.int .u8 18), .lit (.int .u8 6), .lit (.int .u8 11), .lit (.int .u8 5), .lit (.int .u8 10), .lit (.int .u8 9)]
def laid_math_bits_deBruijn64tab {H : Type} : DataW H := .agg [.lit (.int .u8 0), .lit (.int .u8 1), .lit (.int .u8 56), .lit (.int .u8 2), .lit (.int .u8 57), .lit (.int .u8 49), .lit (.int .u8 28), .lit (.int .u8 3), .lit (.int .u8 61), .lit (.int .u8 58), .lit (.int .u8 42), .lit (.int .u8 50), .lit (.int .u8 38), .lit (.int .u8 29), .lit (.int .u8 17), .lit (.int .u8 4), .lit (.int .u8 62), .lit (.int .u8 47), .lit (.int .u8 59), .lit (.int .u8 36), .lit (.int .u8 45), .lit (.int .u8 43), .lit (.int .u8 51), .lit (.int .u8 22), .lit (.int .u8 53), .lit (.int .u8 39), .lit (.int .u8 33), .lit (.int .u8 30), .lit (.int .u8 24), .lit (.int .u8 18), .lit (.int .u8 12), .lit (.int .u8 5), .lit (.int .u8 63), .lit (.int .u8 55), .lit (.int .u8 48), .lit (.int .u8 27), .lit (.int .u8 60), .lit (.int .u8 41), .lit (.int .u8 37), .lit (.int .u8 16), .lit (.int .u8 46), .lit (.int .u8 35), .lit (.int .u8 44), .lit (.int .u8 21), .lit (.int .u8 52), .lit (.int .u8 32), .lit (.int .u8 23), .lit (.int .u8 11), .lit (.int .u8 54), .lit (.int .u8 26), .lit (.int .u8 40), .lit (.int .u8 15), .lit (.int .u8 34), .lit (.int .u8 20), .lit (.int .u8 31), .lit (.int .u8 10), .lit (.int .u8 25), .lit (.int .u8 14), .lit (.int .u8 19), .lit (.int .u8 9), .lit (.int .u8 13), .lit (.int .u8 8), .lit (.int .u8 7), .lit (.int .u8 6)]
def laid_internal_strconv_uint64pow10 {H : Type} : DataW H := .agg [.lit (.int .u64 1), .lit (.int .u64 10), .lit (.int .u64 100), .lit (.int .u64 1000), .lit (.int .u64 10000), .lit (.int .u64 100000), .lit (.int .u64 1000000), .lit (.int .u64 10000000), .lit (.int .u64 100000000), .lit (.int .u64 1000000000), .lit (.int .u64 10000000000), .lit (.int .u64 100000000000), .lit (.int .u64 1000000000000), .lit (.int .u64 10000000000000), .lit (.int .u64 100000000000000), .lit (.int .u64 1000000000000000), .lit (.int .u64 10000000000000000), .lit (.int .u64 100000000000000000), .lit (.int .u64 1000000000000000000), .lit (.int .u64 10000000000000000000)]
def laid_strconv_ErrRange {H : Type} : DataW H := .iface "*errors.errorString" (.ptr (.agg [.lit (.string [118, 97, 108, 117, 101, 32, 111, 117, 116, 32, 111, 102, 32, 114, 97, 110, 103, 101])]))
def laid_strconv_ErrSyntax {H : Type} : DataW H := .iface "*errors.errorString" (.ptr (.agg [.lit (.string [105, 110, 118, 97, 108, 105, 100, 32, 115, 121, 110, 116, 97, 120])]))

/-- 'laws.FnExactInverseOf': WHATEVER THE INPUT: true; the input reads as it did. -/
def fnExactInverseOfSpec : ChangeSpec := { name := "fnExactInverseOf", fn := fun _ => fun
  | [d1, d2] => { results := [.lit (.bool true)], args := [d1, d2] }
  | _ => none }
def fnExactInverseOfRow : OpenClaim := { program := "ythbdmcobpcoajaagreatdoor", sum := "3fcb350d8f549a7b86609c5cf4a026b1c4c5cd444ee2b7457ea6c6fa38b4dafd", func := "loop.example/g01082/laws.FnExactInverseOf", spec := "fnExactInverseOf", inPlace := ["internal/bytealg.IndexByteString", "internal/bytealg.IndexString"], unfollowed := true, recurses := true, named := ["unicode/utf8.first", "unicode/utf8.acceptRanges", "internal/bytealg.MaxLen"], apart := false, laid := [("unicode/utf8.acceptRanges", laid_unicode_utf8_acceptRanges), ("unicode/utf8.first", laid_unicode_utf8_first)] }
def FnExactInverseOfSaid : Prop := fnExactInverseOfRow.holds Tryz.pinned (OpenSpec.ofChange fnExactInverseOfSpec)

/-- ITS FALSE NEIGHBOUR: 'it returns false'. Refute it at one input. -/
def fnExactInverseOfWrong : ChangeSpec := { name := "fnExactInverseOf", fn := fun _ => fun
  | [d1, d2] => { results := [.lit (.bool false)], args := [d1, d2] }
  | _ => none }
def FnExactInverseOfWrongFalsely : Prop := fnExactInverseOfRow.holds Tryz.pinned (OpenSpec.ofChange fnExactInverseOfWrong)

/-- 'laws.FnExactLeanOf': WHATEVER THE INPUT: true; the input reads as it did. -/
def fnExactLeanOfSpec : ChangeSpec := { name := "fnExactLeanOf", fn := fun _ => fun
  | [d1, d2] => { results := [.lit (.bool true)], args := [d1, d2] }
  | _ => none }
def fnExactLeanOfRow : OpenClaim := { program := "ythbdmcobpcoajaagreatdoor", sum := "3fcb350d8f549a7b86609c5cf4a026b1c4c5cd444ee2b7457ea6c6fa38b4dafd", func := "loop.example/g01082/laws.FnExactLeanOf", spec := "fnExactLeanOf", inPlace := ["internal/bytealg.IndexByteString", "internal/bytealg.IndexString"], unfollowed := true, recurses := true, named := ["unicode/utf8.first", "unicode/utf8.acceptRanges", "internal/bytealg.MaxLen"], apart := false, laid := [("unicode/utf8.acceptRanges", laid_unicode_utf8_acceptRanges), ("unicode/utf8.first", laid_unicode_utf8_first)] }
def FnExactLeanOfSaid : Prop := fnExactLeanOfRow.holds Tryz.pinned (OpenSpec.ofChange fnExactLeanOfSpec)

/-- ITS FALSE NEIGHBOUR: 'it returns false'. Refute it at one input. -/
def fnExactLeanOfWrong : ChangeSpec := { name := "fnExactLeanOf", fn := fun _ => fun
  | [d1, d2] => { results := [.lit (.bool false)], args := [d1, d2] }
  | _ => none }
def FnExactLeanOfWrongFalsely : Prop := fnExactLeanOfRow.holds Tryz.pinned (OpenSpec.ofChange fnExactLeanOfWrong)

/-- 'laws.FnExactParseBigraph': WHATEVER THE INPUT: true; the input reads as it did. -/
def fnExactParseBigraphSpec : ChangeSpec := { name := "fnExactParseBigraph", fn := fun _ => fun
  | [d1, d2] => { results := [.lit (.bool true)], args := [d1, d2] }
  | _ => none }
def fnExactParseBigraphRow : OpenClaim := { program := "ythbdmcobpcoajaagreatdoor", sum := "3fcb350d8f549a7b86609c5cf4a026b1c4c5cd444ee2b7457ea6c6fa38b4dafd", func := "loop.example/g01082/laws.FnExactParseBigraph", spec := "fnExactParseBigraph", inPlace := ["internal/bytealg.CountString", "internal/bytealg.IndexByteString", "internal/bytealg.IndexString", "internal/abi.NoEscape", "internal/bytealg.MakeNoZero"], unfollowed := true, recurses := true, named := ["unicode/utf8.first", "unicode/utf8.acceptRanges", "internal/bytealg.MaxLen", "strconv.ErrSyntax", "strconv.ErrRange", "internal/strconv.uint64pow10", "math/bits.deBruijn32tab", "math/bits.deBruijn64tab"], apart := false, laid := [("math/bits.deBruijn32tab", laid_math_bits_deBruijn32tab), ("math/bits.deBruijn64tab", laid_math_bits_deBruijn64tab), ("internal/strconv.uint64pow10", laid_internal_strconv_uint64pow10), ("unicode/utf8.acceptRanges", laid_unicode_utf8_acceptRanges), ("strconv.ErrRange", laid_strconv_ErrRange), ("strconv.ErrSyntax", laid_strconv_ErrSyntax), ("unicode/utf8.first", laid_unicode_utf8_first)] }
def FnExactParseBigraphSaid : Prop := fnExactParseBigraphRow.holds Tryz.pinned (OpenSpec.ofChange fnExactParseBigraphSpec)

/-- ITS FALSE NEIGHBOUR: 'it returns false'. Refute it at one input. -/
def fnExactParseBigraphWrong : ChangeSpec := { name := "fnExactParseBigraph", fn := fun _ => fun
  | [d1, d2] => { results := [.lit (.bool false)], args := [d1, d2] }
  | _ => none }
def FnExactParseBigraphWrongFalsely : Prop := fnExactParseBigraphRow.holds Tryz.pinned (OpenSpec.ofChange fnExactParseBigraphWrong)

/-- 'laws.FnExactMergeRoots': WHATEVER THE INPUT: true; the input reads as it did. -/
def fnExactMergeRootsSpec : ChangeSpec := { name := "fnExactMergeRoots", fn := fun _ => fun
  | [d1, d2] => { results := [.lit (.bool true)], args := [d1, d2] }
  | _ => none }
def fnExactMergeRootsRow : OpenClaim := { program := "ythbdmcobpcoajaagreatdoor", sum := "3fcb350d8f549a7b86609c5cf4a026b1c4c5cd444ee2b7457ea6c6fa38b4dafd", func := "loop.example/g01082/laws.FnExactMergeRoots", spec := "fnExactMergeRoots", inPlace := ["internal/bytealg.IndexByteString", "internal/bytealg.IndexString"], unfollowed := true, recurses := true, named := ["unicode/utf8.first", "unicode/utf8.acceptRanges", "internal/bytealg.MaxLen"], apart := false, laid := [("unicode/utf8.acceptRanges", laid_unicode_utf8_acceptRanges), ("unicode/utf8.first", laid_unicode_utf8_first)] }
def FnExactMergeRootsSaid : Prop := fnExactMergeRootsRow.holds Tryz.pinned (OpenSpec.ofChange fnExactMergeRootsSpec)

/-- ITS FALSE NEIGHBOUR: 'it returns false'. Refute it at one input. -/
def fnExactMergeRootsWrong : ChangeSpec := { name := "fnExactMergeRoots", fn := fun _ => fun
  | [d1, d2] => { results := [.lit (.bool false)], args := [d1, d2] }
  | _ => none }
def FnExactMergeRootsWrongFalsely : Prop := fnExactMergeRootsRow.holds Tryz.pinned (OpenSpec.ofChange fnExactMergeRootsWrong)

/-- 'laws.FnExactDiscreteOf': WHATEVER THE INPUT: true; the input reads as it did. -/
def fnExactDiscreteOfSpec : ChangeSpec := { name := "fnExactDiscreteOf", fn := fun _ => fun
  | [d1, d2] => { results := [.lit (.bool true)], args := [d1, d2] }
  | _ => none }
def fnExactDiscreteOfRow : OpenClaim := { program := "ythbdmcobpcoajaagreatdoor", sum := "3fcb350d8f549a7b86609c5cf4a026b1c4c5cd444ee2b7457ea6c6fa38b4dafd", func := "loop.example/g01082/laws.FnExactDiscreteOf", spec := "fnExactDiscreteOf", inPlace := ["internal/bytealg.IndexByteString", "internal/bytealg.IndexString"], unfollowed := true, recurses := true, named := ["unicode/utf8.first", "unicode/utf8.acceptRanges", "internal/bytealg.MaxLen"], apart := false, laid := [("unicode/utf8.acceptRanges", laid_unicode_utf8_acceptRanges), ("unicode/utf8.first", laid_unicode_utf8_first)] }
def FnExactDiscreteOfSaid : Prop := fnExactDiscreteOfRow.holds Tryz.pinned (OpenSpec.ofChange fnExactDiscreteOfSpec)

/-- ITS FALSE NEIGHBOUR: 'it returns false'. Refute it at one input. -/
def fnExactDiscreteOfWrong : ChangeSpec := { name := "fnExactDiscreteOf", fn := fun _ => fun
  | [d1, d2] => { results := [.lit (.bool false)], args := [d1, d2] }
  | _ => none }
def FnExactDiscreteOfWrongFalsely : Prop := fnExactDiscreteOfRow.holds Tryz.pinned (OpenSpec.ofChange fnExactDiscreteOfWrong)

/-- 'laws.FnExactBigraphText': WHATEVER THE INPUT: true; the input reads as it did. -/
def fnExactBigraphTextSpec : ChangeSpec := { name := "fnExactBigraphText", fn := fun _ => fun
  | [d1, d2] => { results := [.lit (.bool true)], args := [d1, d2] }
  | _ => none }
def fnExactBigraphTextRow : OpenClaim := { program := "ythbdmcobpcoajaagreatdoor", sum := "3fcb350d8f549a7b86609c5cf4a026b1c4c5cd444ee2b7457ea6c6fa38b4dafd", func := "loop.example/g01082/laws.FnExactBigraphText", spec := "fnExactBigraphText", inPlace := ["internal/bytealg.IndexByteString", "internal/bytealg.IndexString", "internal/abi.NoEscape", "internal/bytealg.MakeNoZero"], unfollowed := true, recurses := true, named := ["unicode/utf8.first", "unicode/utf8.acceptRanges", "internal/strconv.uint64pow10", "math/bits.deBruijn32tab", "math/bits.deBruijn64tab", "internal/bytealg.MaxLen"], apart := false, laid := [("math/bits.deBruijn32tab", laid_math_bits_deBruijn32tab), ("math/bits.deBruijn64tab", laid_math_bits_deBruijn64tab), ("internal/strconv.uint64pow10", laid_internal_strconv_uint64pow10), ("unicode/utf8.acceptRanges", laid_unicode_utf8_acceptRanges), ("unicode/utf8.first", laid_unicode_utf8_first)] }
def FnExactBigraphTextSaid : Prop := fnExactBigraphTextRow.holds Tryz.pinned (OpenSpec.ofChange fnExactBigraphTextSpec)

/-- ITS FALSE NEIGHBOUR: 'it returns false'. Refute it at one input. -/
def fnExactBigraphTextWrong : ChangeSpec := { name := "fnExactBigraphText", fn := fun _ => fun
  | [d1, d2] => { results := [.lit (.bool false)], args := [d1, d2] }
  | _ => none }
def FnExactBigraphTextWrongFalsely : Prop := fnExactBigraphTextRow.holds Tryz.pinned (OpenSpec.ofChange fnExactBigraphTextWrong)

/-- 'laws.FnExactRenumberNodes': WHATEVER THE INPUT: true; the input reads as it did. -/
def fnExactRenumberNodesSpec : ChangeSpec := { name := "fnExactRenumberNodes", fn := fun _ => fun
  | [d1, d2, d3, d4] => { results := [.lit (.bool true)], args := [d1, d2, d3, d4] }
  | _ => none }
def fnExactRenumberNodesRow : OpenClaim := { program := "ythbdmcobpcoajaagreatdoor", sum := "3fcb350d8f549a7b86609c5cf4a026b1c4c5cd444ee2b7457ea6c6fa38b4dafd", func := "loop.example/g01082/laws.FnExactRenumberNodes", spec := "fnExactRenumberNodes", inPlace := ["internal/bytealg.IndexByteString", "internal/bytealg.IndexString"], unfollowed := true, recurses := true, named := ["unicode/utf8.first", "unicode/utf8.acceptRanges", "internal/bytealg.MaxLen"], apart := false, laid := [("unicode/utf8.acceptRanges", laid_unicode_utf8_acceptRanges), ("unicode/utf8.first", laid_unicode_utf8_first)] }
def FnExactRenumberNodesSaid : Prop := fnExactRenumberNodesRow.holds Tryz.pinned (OpenSpec.ofChange fnExactRenumberNodesSpec)

/-- ITS FALSE NEIGHBOUR: 'it returns false'. Refute it at one input. -/
def fnExactRenumberNodesWrong : ChangeSpec := { name := "fnExactRenumberNodes", fn := fun _ => fun
  | [d1, d2, d3, d4] => { results := [.lit (.bool false)], args := [d1, d2, d3, d4] }
  | _ => none }
def FnExactRenumberNodesWrongFalsely : Prop := fnExactRenumberNodesRow.holds Tryz.pinned (OpenSpec.ofChange fnExactRenumberNodesWrong)

/-- 'laws.FnExactComposeWirings': WHATEVER THE INPUT: true; the input reads as it did. -/
def fnExactComposeWiringsSpec : ChangeSpec := { name := "fnExactComposeWirings", fn := fun _ => fun
  | [d1, d2, d3] => { results := [.lit (.bool true)], args := [d1, d2, d3] }
  | _ => none }
def fnExactComposeWiringsRow : OpenClaim := { program := "ythbdmcobpcoajaagreatdoor", sum := "3fcb350d8f549a7b86609c5cf4a026b1c4c5cd444ee2b7457ea6c6fa38b4dafd", func := "loop.example/g01082/laws.FnExactComposeWirings", spec := "fnExactComposeWirings", inPlace := ["internal/bytealg.IndexByteString", "internal/bytealg.IndexString"], unfollowed := true, recurses := true, named := ["unicode/utf8.first", "unicode/utf8.acceptRanges", "internal/bytealg.MaxLen"], apart := false, laid := [("unicode/utf8.acceptRanges", laid_unicode_utf8_acceptRanges), ("unicode/utf8.first", laid_unicode_utf8_first)] }
def FnExactComposeWiringsSaid : Prop := fnExactComposeWiringsRow.holds Tryz.pinned (OpenSpec.ofChange fnExactComposeWiringsSpec)

/-- ITS FALSE NEIGHBOUR: 'it returns false'. Refute it at one input. -/
def fnExactComposeWiringsWrong : ChangeSpec := { name := "fnExactComposeWirings", fn := fun _ => fun
  | [d1, d2, d3] => { results := [.lit (.bool false)], args := [d1, d2, d3] }
  | _ => none }
def FnExactComposeWiringsWrongFalsely : Prop := fnExactComposeWiringsRow.holds Tryz.pinned (OpenSpec.ofChange fnExactComposeWiringsWrong)

/-- 'laws.FnExactAddName': WHATEVER THE INPUT: true; the input reads as it did. -/
def fnExactAddNameSpec : ChangeSpec := { name := "fnExactAddName", fn := fun _ => fun
  | [d1, d2, d3] => { results := [.lit (.bool true)], args := [d1, d2, d3] }
  | _ => none }
def fnExactAddNameRow : OpenClaim := { program := "ythbdmcobpcoajaagreatdoor", sum := "3fcb350d8f549a7b86609c5cf4a026b1c4c5cd444ee2b7457ea6c6fa38b4dafd", func := "loop.example/g01082/laws.FnExactAddName", spec := "fnExactAddName", inPlace := ["internal/bytealg.IndexByteString", "internal/bytealg.IndexString"], unfollowed := true, recurses := true, named := ["unicode/utf8.first", "unicode/utf8.acceptRanges", "internal/bytealg.MaxLen"], apart := false, laid := [("unicode/utf8.acceptRanges", laid_unicode_utf8_acceptRanges), ("unicode/utf8.first", laid_unicode_utf8_first)] }
def FnExactAddNameSaid : Prop := fnExactAddNameRow.holds Tryz.pinned (OpenSpec.ofChange fnExactAddNameSpec)

/-- ITS FALSE NEIGHBOUR: 'it returns false'. Refute it at one input. -/
def fnExactAddNameWrong : ChangeSpec := { name := "fnExactAddName", fn := fun _ => fun
  | [d1, d2, d3] => { results := [.lit (.bool false)], args := [d1, d2, d3] }
  | _ => none }
def FnExactAddNameWrongFalsely : Prop := fnExactAddNameRow.holds Tryz.pinned (OpenSpec.ofChange fnExactAddNameWrong)

/-- 'laws.FnExactRenameOuter': WHATEVER THE INPUT: true; the input reads as it did. -/
def fnExactRenameOuterSpec : ChangeSpec := { name := "fnExactRenameOuter", fn := fun _ => fun
  | [d1, d2, d3, d4] => { results := [.lit (.bool true)], args := [d1, d2, d3, d4] }
  | _ => none }
def fnExactRenameOuterRow : OpenClaim := { program := "ythbdmcobpcoajaagreatdoor", sum := "3fcb350d8f549a7b86609c5cf4a026b1c4c5cd444ee2b7457ea6c6fa38b4dafd", func := "loop.example/g01082/laws.FnExactRenameOuter", spec := "fnExactRenameOuter", inPlace := ["internal/bytealg.IndexByteString", "internal/bytealg.IndexString"], unfollowed := true, recurses := true, named := ["unicode/utf8.first", "unicode/utf8.acceptRanges", "internal/bytealg.MaxLen"], apart := false, laid := [("unicode/utf8.acceptRanges", laid_unicode_utf8_acceptRanges), ("unicode/utf8.first", laid_unicode_utf8_first)] }
def FnExactRenameOuterSaid : Prop := fnExactRenameOuterRow.holds Tryz.pinned (OpenSpec.ofChange fnExactRenameOuterSpec)

/-- ITS FALSE NEIGHBOUR: 'it returns false'. Refute it at one input. -/
def fnExactRenameOuterWrong : ChangeSpec := { name := "fnExactRenameOuter", fn := fun _ => fun
  | [d1, d2, d3, d4] => { results := [.lit (.bool false)], args := [d1, d2, d3, d4] }
  | _ => none }
def FnExactRenameOuterWrongFalsely : Prop := fnExactRenameOuterRow.holds Tryz.pinned (OpenSpec.ofChange fnExactRenameOuterWrong)

/- THE SECOND FORM. 'bulk': how many values and letters a reading holds, each counted each time it is reached (what is shared counts as often as it is met; a slice's spare places count too). A statement '..UptoSaid' is the law's where the arguments, and the package variables that the reading takes, are together of bulk at most 1048576: NARROWER than '..Said'. Prove '..Said' where nothing that the law and all that it calls make is longer than what came in: it says more and counts as full. Else prove '..UptoSaid'. A law counts once. -/
mutual
def uptoBulk {H : Type} : DataW H → Nat
  | .lit (.string bytes) => bytes.length + 1
  | .lit _ => 1
  | .nil => 1
  | .ptr d => uptoBulk d + 1
  | .slice elems spare => uptoBulkAll elems + uptoBulkAll spare + 1
  | .agg parts => uptoBulkAll parts + 1
  | .iface _ d => uptoBulk d + 1
  | .map entries => uptoBulkEntries entries + 1
  | .held _ => 1
def uptoBulkAll {H : Type} : List (DataW H) → Nat
  | [] => 0
  | d :: r => uptoBulk d + uptoBulkAll r
def uptoBulkEntries {H : Type} : List (Lit × DataW H) → Nat
  | [] => 0
  | x :: r => uptoBulkEntry x + uptoBulkEntries r
def uptoBulkEntry {H : Type} : Lit × DataW H → Nat
  | (.string bytes, d) => bytes.length + uptoBulk d + 1
  | (_, d) => uptoBulk d + 1
 end
def uptoSmall : (H : Type) → List (DataW H) → Bool := fun _ ds => decide (uptoBulkAll ds ≤ 1048576)
def OpenSpec.upto (s : _root_.Go.ChangeSpec) : _root_.Go.OpenSpec := { _root_.Go.OpenSpec.ofChange s with cond := some uptoSmall }

/-- 'laws.FnExactInverseOf', WHERE WHAT IT READS IS OF BULK AT MOST 1048576: true; the input reads as it did. -/
def fnExactInverseOfUptoRow : OpenClaim := { program := "ythbdmcobpcoajaagreatdoor", sum := "3fcb350d8f549a7b86609c5cf4a026b1c4c5cd444ee2b7457ea6c6fa38b4dafd", func := "loop.example/g01082/laws.FnExactInverseOf", spec := "fnExactInverseOf", inPlace := ["internal/bytealg.IndexByteString", "internal/bytealg.IndexString"], unfollowed := true, recurses := true, named := ["unicode/utf8.first", "unicode/utf8.acceptRanges", "internal/bytealg.MaxLen"], apart := false, laid := [("unicode/utf8.acceptRanges", laid_unicode_utf8_acceptRanges), ("unicode/utf8.first", laid_unicode_utf8_first)], narrowed := true }
def FnExactInverseOfUptoSaid : Prop := fnExactInverseOfUptoRow.holds Tryz.pinned (OpenSpec.upto fnExactInverseOfSpec)

/-- 'laws.FnExactLeanOf', WHERE WHAT IT READS IS OF BULK AT MOST 1048576: true; the input reads as it did. -/
def fnExactLeanOfUptoRow : OpenClaim := { program := "ythbdmcobpcoajaagreatdoor", sum := "3fcb350d8f549a7b86609c5cf4a026b1c4c5cd444ee2b7457ea6c6fa38b4dafd", func := "loop.example/g01082/laws.FnExactLeanOf", spec := "fnExactLeanOf", inPlace := ["internal/bytealg.IndexByteString", "internal/bytealg.IndexString"], unfollowed := true, recurses := true, named := ["unicode/utf8.first", "unicode/utf8.acceptRanges", "internal/bytealg.MaxLen"], apart := false, laid := [("unicode/utf8.acceptRanges", laid_unicode_utf8_acceptRanges), ("unicode/utf8.first", laid_unicode_utf8_first)], narrowed := true }
def FnExactLeanOfUptoSaid : Prop := fnExactLeanOfUptoRow.holds Tryz.pinned (OpenSpec.upto fnExactLeanOfSpec)

/-- 'laws.FnExactParseBigraph', WHERE WHAT IT READS IS OF BULK AT MOST 1048576: true; the input reads as it did. -/
def fnExactParseBigraphUptoRow : OpenClaim := { program := "ythbdmcobpcoajaagreatdoor", sum := "3fcb350d8f549a7b86609c5cf4a026b1c4c5cd444ee2b7457ea6c6fa38b4dafd", func := "loop.example/g01082/laws.FnExactParseBigraph", spec := "fnExactParseBigraph", inPlace := ["internal/bytealg.CountString", "internal/bytealg.IndexByteString", "internal/bytealg.IndexString", "internal/abi.NoEscape", "internal/bytealg.MakeNoZero"], unfollowed := true, recurses := true, named := ["unicode/utf8.first", "unicode/utf8.acceptRanges", "internal/bytealg.MaxLen", "strconv.ErrSyntax", "strconv.ErrRange", "internal/strconv.uint64pow10", "math/bits.deBruijn32tab", "math/bits.deBruijn64tab"], apart := false, laid := [("math/bits.deBruijn32tab", laid_math_bits_deBruijn32tab), ("math/bits.deBruijn64tab", laid_math_bits_deBruijn64tab), ("internal/strconv.uint64pow10", laid_internal_strconv_uint64pow10), ("unicode/utf8.acceptRanges", laid_unicode_utf8_acceptRanges), ("strconv.ErrRange", laid_strconv_ErrRange), ("strconv.ErrSyntax", laid_strconv_ErrSyntax), ("unicode/utf8.first", laid_unicode_utf8_first)], narrowed := true }
def FnExactParseBigraphUptoSaid : Prop := fnExactParseBigraphUptoRow.holds Tryz.pinned (OpenSpec.upto fnExactParseBigraphSpec)

/-- 'laws.FnExactMergeRoots', WHERE WHAT IT READS IS OF BULK AT MOST 1048576: true; the input reads as it did. -/
def fnExactMergeRootsUptoRow : OpenClaim := { program := "ythbdmcobpcoajaagreatdoor", sum := "3fcb350d8f549a7b86609c5cf4a026b1c4c5cd444ee2b7457ea6c6fa38b4dafd", func := "loop.example/g01082/laws.FnExactMergeRoots", spec := "fnExactMergeRoots", inPlace := ["internal/bytealg.IndexByteString", "internal/bytealg.IndexString"], unfollowed := true, recurses := true, named := ["unicode/utf8.first", "unicode/utf8.acceptRanges", "internal/bytealg.MaxLen"], apart := false, laid := [("unicode/utf8.acceptRanges", laid_unicode_utf8_acceptRanges), ("unicode/utf8.first", laid_unicode_utf8_first)], narrowed := true }
def FnExactMergeRootsUptoSaid : Prop := fnExactMergeRootsUptoRow.holds Tryz.pinned (OpenSpec.upto fnExactMergeRootsSpec)

/-- 'laws.FnExactDiscreteOf', WHERE WHAT IT READS IS OF BULK AT MOST 1048576: true; the input reads as it did. -/
def fnExactDiscreteOfUptoRow : OpenClaim := { program := "ythbdmcobpcoajaagreatdoor", sum := "3fcb350d8f549a7b86609c5cf4a026b1c4c5cd444ee2b7457ea6c6fa38b4dafd", func := "loop.example/g01082/laws.FnExactDiscreteOf", spec := "fnExactDiscreteOf", inPlace := ["internal/bytealg.IndexByteString", "internal/bytealg.IndexString"], unfollowed := true, recurses := true, named := ["unicode/utf8.first", "unicode/utf8.acceptRanges", "internal/bytealg.MaxLen"], apart := false, laid := [("unicode/utf8.acceptRanges", laid_unicode_utf8_acceptRanges), ("unicode/utf8.first", laid_unicode_utf8_first)], narrowed := true }
def FnExactDiscreteOfUptoSaid : Prop := fnExactDiscreteOfUptoRow.holds Tryz.pinned (OpenSpec.upto fnExactDiscreteOfSpec)

/-- 'laws.FnExactBigraphText', WHERE WHAT IT READS IS OF BULK AT MOST 1048576: true; the input reads as it did. -/
def fnExactBigraphTextUptoRow : OpenClaim := { program := "ythbdmcobpcoajaagreatdoor", sum := "3fcb350d8f549a7b86609c5cf4a026b1c4c5cd444ee2b7457ea6c6fa38b4dafd", func := "loop.example/g01082/laws.FnExactBigraphText", spec := "fnExactBigraphText", inPlace := ["internal/bytealg.IndexByteString", "internal/bytealg.IndexString", "internal/abi.NoEscape", "internal/bytealg.MakeNoZero"], unfollowed := true, recurses := true, named := ["unicode/utf8.first", "unicode/utf8.acceptRanges", "internal/strconv.uint64pow10", "math/bits.deBruijn32tab", "math/bits.deBruijn64tab", "internal/bytealg.MaxLen"], apart := false, laid := [("math/bits.deBruijn32tab", laid_math_bits_deBruijn32tab), ("math/bits.deBruijn64tab", laid_math_bits_deBruijn64tab), ("internal/strconv.uint64pow10", laid_internal_strconv_uint64pow10), ("unicode/utf8.acceptRanges", laid_unicode_utf8_acceptRanges), ("unicode/utf8.first", laid_unicode_utf8_first)], narrowed := true }
def FnExactBigraphTextUptoSaid : Prop := fnExactBigraphTextUptoRow.holds Tryz.pinned (OpenSpec.upto fnExactBigraphTextSpec)

/-- 'laws.FnExactRenumberNodes', WHERE WHAT IT READS IS OF BULK AT MOST 1048576: true; the input reads as it did. -/
def fnExactRenumberNodesUptoRow : OpenClaim := { program := "ythbdmcobpcoajaagreatdoor", sum := "3fcb350d8f549a7b86609c5cf4a026b1c4c5cd444ee2b7457ea6c6fa38b4dafd", func := "loop.example/g01082/laws.FnExactRenumberNodes", spec := "fnExactRenumberNodes", inPlace := ["internal/bytealg.IndexByteString", "internal/bytealg.IndexString"], unfollowed := true, recurses := true, named := ["unicode/utf8.first", "unicode/utf8.acceptRanges", "internal/bytealg.MaxLen"], apart := false, laid := [("unicode/utf8.acceptRanges", laid_unicode_utf8_acceptRanges), ("unicode/utf8.first", laid_unicode_utf8_first)], narrowed := true }
def FnExactRenumberNodesUptoSaid : Prop := fnExactRenumberNodesUptoRow.holds Tryz.pinned (OpenSpec.upto fnExactRenumberNodesSpec)

/-- 'laws.FnExactComposeWirings', WHERE WHAT IT READS IS OF BULK AT MOST 1048576: true; the input reads as it did. -/
def fnExactComposeWiringsUptoRow : OpenClaim := { program := "ythbdmcobpcoajaagreatdoor", sum := "3fcb350d8f549a7b86609c5cf4a026b1c4c5cd444ee2b7457ea6c6fa38b4dafd", func := "loop.example/g01082/laws.FnExactComposeWirings", spec := "fnExactComposeWirings", inPlace := ["internal/bytealg.IndexByteString", "internal/bytealg.IndexString"], unfollowed := true, recurses := true, named := ["unicode/utf8.first", "unicode/utf8.acceptRanges", "internal/bytealg.MaxLen"], apart := false, laid := [("unicode/utf8.acceptRanges", laid_unicode_utf8_acceptRanges), ("unicode/utf8.first", laid_unicode_utf8_first)], narrowed := true }
def FnExactComposeWiringsUptoSaid : Prop := fnExactComposeWiringsUptoRow.holds Tryz.pinned (OpenSpec.upto fnExactComposeWiringsSpec)

/-- 'laws.FnExactAddName', WHERE WHAT IT READS IS OF BULK AT MOST 1048576: true; the input reads as it did. -/
def fnExactAddNameUptoRow : OpenClaim := { program := "ythbdmcobpcoajaagreatdoor", sum := "3fcb350d8f549a7b86609c5cf4a026b1c4c5cd444ee2b7457ea6c6fa38b4dafd", func := "loop.example/g01082/laws.FnExactAddName", spec := "fnExactAddName", inPlace := ["internal/bytealg.IndexByteString", "internal/bytealg.IndexString"], unfollowed := true, recurses := true, named := ["unicode/utf8.first", "unicode/utf8.acceptRanges", "internal/bytealg.MaxLen"], apart := false, laid := [("unicode/utf8.acceptRanges", laid_unicode_utf8_acceptRanges), ("unicode/utf8.first", laid_unicode_utf8_first)], narrowed := true }
def FnExactAddNameUptoSaid : Prop := fnExactAddNameUptoRow.holds Tryz.pinned (OpenSpec.upto fnExactAddNameSpec)

/-- 'laws.FnExactRenameOuter', WHERE WHAT IT READS IS OF BULK AT MOST 1048576: true; the input reads as it did. -/
def fnExactRenameOuterUptoRow : OpenClaim := { program := "ythbdmcobpcoajaagreatdoor", sum := "3fcb350d8f549a7b86609c5cf4a026b1c4c5cd444ee2b7457ea6c6fa38b4dafd", func := "loop.example/g01082/laws.FnExactRenameOuter", spec := "fnExactRenameOuter", inPlace := ["internal/bytealg.IndexByteString", "internal/bytealg.IndexString"], unfollowed := true, recurses := true, named := ["unicode/utf8.first", "unicode/utf8.acceptRanges", "internal/bytealg.MaxLen"], apart := false, laid := [("unicode/utf8.acceptRanges", laid_unicode_utf8_acceptRanges), ("unicode/utf8.first", laid_unicode_utf8_first)], narrowed := true }
def FnExactRenameOuterUptoSaid : Prop := fnExactRenameOuterUptoRow.holds Tryz.pinned (OpenSpec.upto fnExactRenameOuterSpec)

end Rows
end Go.Proofs.YthbdmcobpcoajaaGreatDoor
