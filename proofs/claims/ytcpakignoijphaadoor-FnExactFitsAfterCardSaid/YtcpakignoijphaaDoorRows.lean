/-
  NARROWER THAN 'FOR EVERY INPUT', by the rows' own cells (each row's printed sentence says how): FnExactIsWiring: laid · FnExactIsSubstitution: laid · FnExactIsPrime: laid · FnExactIsAgent: laid · FnExactIsPlacing: laid · FnExactIsGuarding: laid · FnExactFitsAfter: laid · FnExactHeightOf: laid · FnExactIsDiscrete: laid · FnExactIsRenaming: laid · FnExactIsLean: laid · FnExactInnerNames: laid.
  DERIVED. THE GIVEN ROWS OF THIS SEAT. 12 by the template 'for every input the law returns true; each argument reads behind the call as it read before'; 0 by the template 'total and deterministic' (their statements: YtcpakignoijphaaDoorTotals.lean).
  GIVEN WITH THE SEED: the statements are not yours to turn. If you find one false, say at which input.
  Laid BY PROGRAM, IN A SANDBOX (cutbox-rows.mjs): the forced cells as the released guide's own fill.sh prints them over the translation f2ba47899c79bcb2… (all of the seat's roots in one cut). By AI agents, Wed Nov 11 2026. No macro, syntax, notation, axiom, sorry.
-/
import Derived.Test.YtcpakignoijphaaDoorChecked
import GoSem.PinnedTables
import GoSem.Claim
import GoSem.ClaimJoined
import GoSem.ClaimMapViews
import Derived.JoinedTies
import Derived.KernelRfl
namespace Go.Proofs.YtcpakignoijphaaDoor
/- THE CELL 'sum', in the pinned program and in every row, IS THE sha256 OF THE DUMP (.gsa) THAT YtcpakignoijphaaDoorProg.lean LOADS. Nothing in Lean hashes anything: it is a label: what it is worth is what the hold of that sum in a sandbox is worth. -/
noncomputable def Tryd.pinned : Pinned := { name := "ytcpakignoijphaadoor", sum := "f2ba47899c79bcb2231ac3247d4cd053b4e0b95ab0efeba00e073a1a03d76fd0", checked := Tryd.checked }
namespace Rows
def none {H : Type} : Left H := { results := [], args := [] }

/- WHAT THE LISTED PACKAGE-LEVEL VARIABLES READ AS WHEN THE CALL BEGINS. Each datum BY PROGRAM (the guide's laid-datum.mjs) off the statement by which the dump's own 'gosem.cut.vars' lays the variable. In a bare row this is a premise. The card (YtcpakignoijphaaDoorCards.lean) ties it to the program's text. -/
def laid_unicode_utf8_acceptRanges {H : Type} : DataW H := .agg [.agg [.lit (.int .u8 128), .lit (.int .u8 191)], .agg [.lit (.int .u8 160), .lit (.int .u8 191)], .agg [.lit (.int .u8 128), .lit (.int .u8 159)], .agg [.lit (.int .u8 144), .lit (.int .u8 191)], .agg [.lit (.int .u8 128), .lit (.int .u8 143)], .agg [.lit (.int .u8 0), .lit (.int .u8 0)], .agg [.lit (.int .u8 0), .lit (.int .u8 0)], .agg [.lit (.int .u8 0), .lit (.int .u8 0)], .agg [.lit (.int .u8 0), .lit (.int .u8 0)], .agg [.lit (.int .u8 0), .lit (.int .u8 0)], .agg [.lit (.int .u8 0), .lit (.int .u8 0)], .agg [.lit (.int .u8 0), .lit (.int .u8 0)], .agg [.lit (.int .u8 0), .lit (.int .u8 0)], .agg [.lit (.int .u8 0), .lit (.int .u8 0)], .agg [.lit (.int .u8 0), .lit (.int .u8 0)], .agg [.lit (.int .u8 0), .lit (.int .u8 0)]]
/-- One of Go's own tables, pinned by name: the form's constant. -/
def laid_unicode_utf8_first : DataW Unit := Go.Pinned.utf8First

/-- 'laws.FnExactIsWiring': WHATEVER THE INPUT: true; the input reads as it did. -/
def fnExactIsWiringSpec : ChangeSpec := { name := "fnExactIsWiring", fn := fun _ => fun
  | [d1, d2] => { results := [.lit (.bool true)], args := [d1, d2] }
  | _ => none }
def fnExactIsWiringRow : OpenClaim := { program := "ytcpakignoijphaadoor", sum := "f2ba47899c79bcb2231ac3247d4cd053b4e0b95ab0efeba00e073a1a03d76fd0", func := "loop.example/g01082/laws.FnExactIsWiring", spec := "fnExactIsWiring", inPlace := ["internal/bytealg.IndexByteString", "internal/bytealg.IndexString"], unfollowed := true, recurses := true, named := ["unicode/utf8.first", "unicode/utf8.acceptRanges", "internal/bytealg.MaxLen"], apart := false, laid := [("unicode/utf8.acceptRanges", laid_unicode_utf8_acceptRanges), ("unicode/utf8.first", laid_unicode_utf8_first)] }
def FnExactIsWiringSaid : Prop := fnExactIsWiringRow.holds Tryd.pinned (OpenSpec.ofChange fnExactIsWiringSpec)

/-- ITS FALSE NEIGHBOUR: 'it returns false'. Refute it at one input. -/
def fnExactIsWiringWrong : ChangeSpec := { name := "fnExactIsWiring", fn := fun _ => fun
  | [d1, d2] => { results := [.lit (.bool false)], args := [d1, d2] }
  | _ => none }
def FnExactIsWiringWrongFalsely : Prop := fnExactIsWiringRow.holds Tryd.pinned (OpenSpec.ofChange fnExactIsWiringWrong)

/-- 'laws.FnExactIsSubstitution': WHATEVER THE INPUT: true; the input reads as it did. -/
def fnExactIsSubstitutionSpec : ChangeSpec := { name := "fnExactIsSubstitution", fn := fun _ => fun
  | [d1, d2] => { results := [.lit (.bool true)], args := [d1, d2] }
  | _ => none }
def fnExactIsSubstitutionRow : OpenClaim := { program := "ytcpakignoijphaadoor", sum := "f2ba47899c79bcb2231ac3247d4cd053b4e0b95ab0efeba00e073a1a03d76fd0", func := "loop.example/g01082/laws.FnExactIsSubstitution", spec := "fnExactIsSubstitution", inPlace := ["internal/bytealg.IndexByteString", "internal/bytealg.IndexString"], unfollowed := true, recurses := true, named := ["unicode/utf8.first", "unicode/utf8.acceptRanges", "internal/bytealg.MaxLen"], apart := false, laid := [("unicode/utf8.acceptRanges", laid_unicode_utf8_acceptRanges), ("unicode/utf8.first", laid_unicode_utf8_first)] }
def FnExactIsSubstitutionSaid : Prop := fnExactIsSubstitutionRow.holds Tryd.pinned (OpenSpec.ofChange fnExactIsSubstitutionSpec)

/-- ITS FALSE NEIGHBOUR: 'it returns false'. Refute it at one input. -/
def fnExactIsSubstitutionWrong : ChangeSpec := { name := "fnExactIsSubstitution", fn := fun _ => fun
  | [d1, d2] => { results := [.lit (.bool false)], args := [d1, d2] }
  | _ => none }
def FnExactIsSubstitutionWrongFalsely : Prop := fnExactIsSubstitutionRow.holds Tryd.pinned (OpenSpec.ofChange fnExactIsSubstitutionWrong)

/-- 'laws.FnExactIsPrime': WHATEVER THE INPUT: true; the input reads as it did. -/
def fnExactIsPrimeSpec : ChangeSpec := { name := "fnExactIsPrime", fn := fun _ => fun
  | [d1, d2] => { results := [.lit (.bool true)], args := [d1, d2] }
  | _ => none }
def fnExactIsPrimeRow : OpenClaim := { program := "ytcpakignoijphaadoor", sum := "f2ba47899c79bcb2231ac3247d4cd053b4e0b95ab0efeba00e073a1a03d76fd0", func := "loop.example/g01082/laws.FnExactIsPrime", spec := "fnExactIsPrime", inPlace := ["internal/bytealg.IndexByteString", "internal/bytealg.IndexString"], unfollowed := true, recurses := true, named := ["unicode/utf8.first", "unicode/utf8.acceptRanges", "internal/bytealg.MaxLen"], apart := false, laid := [("unicode/utf8.acceptRanges", laid_unicode_utf8_acceptRanges), ("unicode/utf8.first", laid_unicode_utf8_first)] }
def FnExactIsPrimeSaid : Prop := fnExactIsPrimeRow.holds Tryd.pinned (OpenSpec.ofChange fnExactIsPrimeSpec)

/-- ITS FALSE NEIGHBOUR: 'it returns false'. Refute it at one input. -/
def fnExactIsPrimeWrong : ChangeSpec := { name := "fnExactIsPrime", fn := fun _ => fun
  | [d1, d2] => { results := [.lit (.bool false)], args := [d1, d2] }
  | _ => none }
def FnExactIsPrimeWrongFalsely : Prop := fnExactIsPrimeRow.holds Tryd.pinned (OpenSpec.ofChange fnExactIsPrimeWrong)

/-- 'laws.FnExactIsAgent': WHATEVER THE INPUT: true; the input reads as it did. -/
def fnExactIsAgentSpec : ChangeSpec := { name := "fnExactIsAgent", fn := fun _ => fun
  | [d1, d2] => { results := [.lit (.bool true)], args := [d1, d2] }
  | _ => none }
def fnExactIsAgentRow : OpenClaim := { program := "ytcpakignoijphaadoor", sum := "f2ba47899c79bcb2231ac3247d4cd053b4e0b95ab0efeba00e073a1a03d76fd0", func := "loop.example/g01082/laws.FnExactIsAgent", spec := "fnExactIsAgent", inPlace := ["internal/bytealg.IndexByteString", "internal/bytealg.IndexString"], unfollowed := true, recurses := true, named := ["unicode/utf8.first", "unicode/utf8.acceptRanges", "internal/bytealg.MaxLen"], apart := false, laid := [("unicode/utf8.acceptRanges", laid_unicode_utf8_acceptRanges), ("unicode/utf8.first", laid_unicode_utf8_first)] }
def FnExactIsAgentSaid : Prop := fnExactIsAgentRow.holds Tryd.pinned (OpenSpec.ofChange fnExactIsAgentSpec)

/-- ITS FALSE NEIGHBOUR: 'it returns false'. Refute it at one input. -/
def fnExactIsAgentWrong : ChangeSpec := { name := "fnExactIsAgent", fn := fun _ => fun
  | [d1, d2] => { results := [.lit (.bool false)], args := [d1, d2] }
  | _ => none }
def FnExactIsAgentWrongFalsely : Prop := fnExactIsAgentRow.holds Tryd.pinned (OpenSpec.ofChange fnExactIsAgentWrong)

/-- 'laws.FnExactIsPlacing': WHATEVER THE INPUT: true; the input reads as it did. -/
def fnExactIsPlacingSpec : ChangeSpec := { name := "fnExactIsPlacing", fn := fun _ => fun
  | [d1, d2] => { results := [.lit (.bool true)], args := [d1, d2] }
  | _ => none }
def fnExactIsPlacingRow : OpenClaim := { program := "ytcpakignoijphaadoor", sum := "f2ba47899c79bcb2231ac3247d4cd053b4e0b95ab0efeba00e073a1a03d76fd0", func := "loop.example/g01082/laws.FnExactIsPlacing", spec := "fnExactIsPlacing", inPlace := ["internal/bytealg.IndexByteString", "internal/bytealg.IndexString"], unfollowed := true, recurses := true, named := ["unicode/utf8.first", "unicode/utf8.acceptRanges", "internal/bytealg.MaxLen"], apart := false, laid := [("unicode/utf8.acceptRanges", laid_unicode_utf8_acceptRanges), ("unicode/utf8.first", laid_unicode_utf8_first)] }
def FnExactIsPlacingSaid : Prop := fnExactIsPlacingRow.holds Tryd.pinned (OpenSpec.ofChange fnExactIsPlacingSpec)

/-- ITS FALSE NEIGHBOUR: 'it returns false'. Refute it at one input. -/
def fnExactIsPlacingWrong : ChangeSpec := { name := "fnExactIsPlacing", fn := fun _ => fun
  | [d1, d2] => { results := [.lit (.bool false)], args := [d1, d2] }
  | _ => none }
def FnExactIsPlacingWrongFalsely : Prop := fnExactIsPlacingRow.holds Tryd.pinned (OpenSpec.ofChange fnExactIsPlacingWrong)

/-- 'laws.FnExactIsGuarding': WHATEVER THE INPUT: true; the input reads as it did. -/
def fnExactIsGuardingSpec : ChangeSpec := { name := "fnExactIsGuarding", fn := fun _ => fun
  | [d1, d2] => { results := [.lit (.bool true)], args := [d1, d2] }
  | _ => none }
def fnExactIsGuardingRow : OpenClaim := { program := "ytcpakignoijphaadoor", sum := "f2ba47899c79bcb2231ac3247d4cd053b4e0b95ab0efeba00e073a1a03d76fd0", func := "loop.example/g01082/laws.FnExactIsGuarding", spec := "fnExactIsGuarding", inPlace := ["internal/bytealg.IndexByteString", "internal/bytealg.IndexString"], unfollowed := true, recurses := true, named := ["unicode/utf8.first", "unicode/utf8.acceptRanges", "internal/bytealg.MaxLen"], apart := false, laid := [("unicode/utf8.acceptRanges", laid_unicode_utf8_acceptRanges), ("unicode/utf8.first", laid_unicode_utf8_first)] }
def FnExactIsGuardingSaid : Prop := fnExactIsGuardingRow.holds Tryd.pinned (OpenSpec.ofChange fnExactIsGuardingSpec)

/-- ITS FALSE NEIGHBOUR: 'it returns false'. Refute it at one input. -/
def fnExactIsGuardingWrong : ChangeSpec := { name := "fnExactIsGuarding", fn := fun _ => fun
  | [d1, d2] => { results := [.lit (.bool false)], args := [d1, d2] }
  | _ => none }
def FnExactIsGuardingWrongFalsely : Prop := fnExactIsGuardingRow.holds Tryd.pinned (OpenSpec.ofChange fnExactIsGuardingWrong)

/-- 'laws.FnExactFitsAfter': WHATEVER THE INPUT: true; the input reads as it did. -/
def fnExactFitsAfterSpec : ChangeSpec := { name := "fnExactFitsAfter", fn := fun _ => fun
  | [d1, d2, d3] => { results := [.lit (.bool true)], args := [d1, d2, d3] }
  | _ => none }
def fnExactFitsAfterRow : OpenClaim := { program := "ytcpakignoijphaadoor", sum := "f2ba47899c79bcb2231ac3247d4cd053b4e0b95ab0efeba00e073a1a03d76fd0", func := "loop.example/g01082/laws.FnExactFitsAfter", spec := "fnExactFitsAfter", inPlace := ["internal/bytealg.IndexByteString", "internal/bytealg.IndexString"], unfollowed := true, recurses := true, named := ["unicode/utf8.first", "unicode/utf8.acceptRanges", "internal/bytealg.MaxLen"], apart := false, laid := [("unicode/utf8.acceptRanges", laid_unicode_utf8_acceptRanges), ("unicode/utf8.first", laid_unicode_utf8_first)] }
def FnExactFitsAfterSaid : Prop := fnExactFitsAfterRow.holds Tryd.pinned (OpenSpec.ofChange fnExactFitsAfterSpec)

/-- ITS FALSE NEIGHBOUR: 'it returns false'. Refute it at one input. -/
def fnExactFitsAfterWrong : ChangeSpec := { name := "fnExactFitsAfter", fn := fun _ => fun
  | [d1, d2, d3] => { results := [.lit (.bool false)], args := [d1, d2, d3] }
  | _ => none }
def FnExactFitsAfterWrongFalsely : Prop := fnExactFitsAfterRow.holds Tryd.pinned (OpenSpec.ofChange fnExactFitsAfterWrong)

/-- 'laws.FnExactHeightOf': WHATEVER THE INPUT: true; the input reads as it did. -/
def fnExactHeightOfSpec : ChangeSpec := { name := "fnExactHeightOf", fn := fun _ => fun
  | [d1, d2] => { results := [.lit (.bool true)], args := [d1, d2] }
  | _ => none }
def fnExactHeightOfRow : OpenClaim := { program := "ytcpakignoijphaadoor", sum := "f2ba47899c79bcb2231ac3247d4cd053b4e0b95ab0efeba00e073a1a03d76fd0", func := "loop.example/g01082/laws.FnExactHeightOf", spec := "fnExactHeightOf", inPlace := ["internal/bytealg.IndexByteString", "internal/bytealg.IndexString"], unfollowed := true, recurses := true, named := ["unicode/utf8.first", "unicode/utf8.acceptRanges", "internal/bytealg.MaxLen"], apart := false, laid := [("unicode/utf8.acceptRanges", laid_unicode_utf8_acceptRanges), ("unicode/utf8.first", laid_unicode_utf8_first)] }
def FnExactHeightOfSaid : Prop := fnExactHeightOfRow.holds Tryd.pinned (OpenSpec.ofChange fnExactHeightOfSpec)

/-- ITS FALSE NEIGHBOUR: 'it returns false'. Refute it at one input. -/
def fnExactHeightOfWrong : ChangeSpec := { name := "fnExactHeightOf", fn := fun _ => fun
  | [d1, d2] => { results := [.lit (.bool false)], args := [d1, d2] }
  | _ => none }
def FnExactHeightOfWrongFalsely : Prop := fnExactHeightOfRow.holds Tryd.pinned (OpenSpec.ofChange fnExactHeightOfWrong)

/-- 'laws.FnExactIsDiscrete': WHATEVER THE INPUT: true; the input reads as it did. -/
def fnExactIsDiscreteSpec : ChangeSpec := { name := "fnExactIsDiscrete", fn := fun _ => fun
  | [d1, d2] => { results := [.lit (.bool true)], args := [d1, d2] }
  | _ => none }
def fnExactIsDiscreteRow : OpenClaim := { program := "ytcpakignoijphaadoor", sum := "f2ba47899c79bcb2231ac3247d4cd053b4e0b95ab0efeba00e073a1a03d76fd0", func := "loop.example/g01082/laws.FnExactIsDiscrete", spec := "fnExactIsDiscrete", inPlace := ["internal/bytealg.IndexByteString", "internal/bytealg.IndexString"], unfollowed := true, recurses := true, named := ["unicode/utf8.first", "unicode/utf8.acceptRanges", "internal/bytealg.MaxLen"], apart := false, laid := [("unicode/utf8.acceptRanges", laid_unicode_utf8_acceptRanges), ("unicode/utf8.first", laid_unicode_utf8_first)] }
def FnExactIsDiscreteSaid : Prop := fnExactIsDiscreteRow.holds Tryd.pinned (OpenSpec.ofChange fnExactIsDiscreteSpec)

/-- ITS FALSE NEIGHBOUR: 'it returns false'. Refute it at one input. -/
def fnExactIsDiscreteWrong : ChangeSpec := { name := "fnExactIsDiscrete", fn := fun _ => fun
  | [d1, d2] => { results := [.lit (.bool false)], args := [d1, d2] }
  | _ => none }
def FnExactIsDiscreteWrongFalsely : Prop := fnExactIsDiscreteRow.holds Tryd.pinned (OpenSpec.ofChange fnExactIsDiscreteWrong)

/-- 'laws.FnExactIsRenaming': WHATEVER THE INPUT: true; the input reads as it did. -/
def fnExactIsRenamingSpec : ChangeSpec := { name := "fnExactIsRenaming", fn := fun _ => fun
  | [d1, d2] => { results := [.lit (.bool true)], args := [d1, d2] }
  | _ => none }
def fnExactIsRenamingRow : OpenClaim := { program := "ytcpakignoijphaadoor", sum := "f2ba47899c79bcb2231ac3247d4cd053b4e0b95ab0efeba00e073a1a03d76fd0", func := "loop.example/g01082/laws.FnExactIsRenaming", spec := "fnExactIsRenaming", inPlace := ["internal/bytealg.IndexByteString", "internal/bytealg.IndexString"], unfollowed := true, recurses := true, named := ["unicode/utf8.first", "unicode/utf8.acceptRanges", "internal/bytealg.MaxLen"], apart := false, laid := [("unicode/utf8.acceptRanges", laid_unicode_utf8_acceptRanges), ("unicode/utf8.first", laid_unicode_utf8_first)] }
def FnExactIsRenamingSaid : Prop := fnExactIsRenamingRow.holds Tryd.pinned (OpenSpec.ofChange fnExactIsRenamingSpec)

/-- ITS FALSE NEIGHBOUR: 'it returns false'. Refute it at one input. -/
def fnExactIsRenamingWrong : ChangeSpec := { name := "fnExactIsRenaming", fn := fun _ => fun
  | [d1, d2] => { results := [.lit (.bool false)], args := [d1, d2] }
  | _ => none }
def FnExactIsRenamingWrongFalsely : Prop := fnExactIsRenamingRow.holds Tryd.pinned (OpenSpec.ofChange fnExactIsRenamingWrong)

/-- 'laws.FnExactIsLean': WHATEVER THE INPUT: true; the input reads as it did. -/
def fnExactIsLeanSpec : ChangeSpec := { name := "fnExactIsLean", fn := fun _ => fun
  | [d1, d2] => { results := [.lit (.bool true)], args := [d1, d2] }
  | _ => none }
def fnExactIsLeanRow : OpenClaim := { program := "ytcpakignoijphaadoor", sum := "f2ba47899c79bcb2231ac3247d4cd053b4e0b95ab0efeba00e073a1a03d76fd0", func := "loop.example/g01082/laws.FnExactIsLean", spec := "fnExactIsLean", inPlace := ["internal/bytealg.IndexByteString", "internal/bytealg.IndexString"], unfollowed := true, recurses := true, named := ["unicode/utf8.first", "unicode/utf8.acceptRanges", "internal/bytealg.MaxLen"], apart := false, laid := [("unicode/utf8.acceptRanges", laid_unicode_utf8_acceptRanges), ("unicode/utf8.first", laid_unicode_utf8_first)] }
def FnExactIsLeanSaid : Prop := fnExactIsLeanRow.holds Tryd.pinned (OpenSpec.ofChange fnExactIsLeanSpec)

/-- ITS FALSE NEIGHBOUR: 'it returns false'. Refute it at one input. -/
def fnExactIsLeanWrong : ChangeSpec := { name := "fnExactIsLean", fn := fun _ => fun
  | [d1, d2] => { results := [.lit (.bool false)], args := [d1, d2] }
  | _ => none }
def FnExactIsLeanWrongFalsely : Prop := fnExactIsLeanRow.holds Tryd.pinned (OpenSpec.ofChange fnExactIsLeanWrong)

/-- 'laws.FnExactInnerNames': WHATEVER THE INPUT: true; the input reads as it did. -/
def fnExactInnerNamesSpec : ChangeSpec := { name := "fnExactInnerNames", fn := fun _ => fun
  | [d1, d2] => { results := [.lit (.bool true)], args := [d1, d2] }
  | _ => none }
def fnExactInnerNamesRow : OpenClaim := { program := "ytcpakignoijphaadoor", sum := "f2ba47899c79bcb2231ac3247d4cd053b4e0b95ab0efeba00e073a1a03d76fd0", func := "loop.example/g01082/laws.FnExactInnerNames", spec := "fnExactInnerNames", inPlace := ["internal/bytealg.IndexByteString", "internal/bytealg.IndexString"], unfollowed := true, recurses := true, named := ["unicode/utf8.first", "unicode/utf8.acceptRanges", "internal/bytealg.MaxLen"], apart := false, laid := [("unicode/utf8.acceptRanges", laid_unicode_utf8_acceptRanges), ("unicode/utf8.first", laid_unicode_utf8_first)] }
def FnExactInnerNamesSaid : Prop := fnExactInnerNamesRow.holds Tryd.pinned (OpenSpec.ofChange fnExactInnerNamesSpec)

/-- ITS FALSE NEIGHBOUR: 'it returns false'. Refute it at one input. -/
def fnExactInnerNamesWrong : ChangeSpec := { name := "fnExactInnerNames", fn := fun _ => fun
  | [d1, d2] => { results := [.lit (.bool false)], args := [d1, d2] }
  | _ => none }
def FnExactInnerNamesWrongFalsely : Prop := fnExactInnerNamesRow.holds Tryd.pinned (OpenSpec.ofChange fnExactInnerNamesWrong)

/- THE SECOND FORM. 'bulk': how many values and letters a reading holds, each counted each time it is reached (what is shared counts as often as it is met; a slice's spare places count too). A statement '..UptoSaid' is the law's where the arguments, and the package variables that the reading takes, are together of bulk at most 1048576: NARROWER than '..Said'. Prove '..Said' where nothing that the law and all that it calls make is longer than what came in: it says more and counts as full. Else prove '..UptoSaid'. A law counts once. -/
mutual
def uptoBulk {H : Type} : DataW H → Nat
  | .lit (.string bytes) => bytes.length + 1
  | .lit _ => 1
  | .nil => 1
  | .ptr d => uptoBulk d + 1
  | .slice elems spare => uptoBulkAll elems + uptoBulkAll spare + 1
  | .agg parts => uptoBulkAll parts + 1
  | .iface _ d => uptoBulk d + 1
  | .map entries => uptoBulkEntries entries + 1
  | .held _ => 1
def uptoBulkAll {H : Type} : List (DataW H) → Nat
  | [] => 0
  | d :: r => uptoBulk d + uptoBulkAll r
def uptoBulkEntries {H : Type} : List (Lit × DataW H) → Nat
  | [] => 0
  | x :: r => uptoBulkEntry x + uptoBulkEntries r
def uptoBulkEntry {H : Type} : Lit × DataW H → Nat
  | (.string bytes, d) => bytes.length + uptoBulk d + 1
  | (_, d) => uptoBulk d + 1
 end
def uptoSmall : (H : Type) → List (DataW H) → Bool := fun _ ds => decide (uptoBulkAll ds ≤ 1048576)
def OpenSpec.upto (s : _root_.Go.ChangeSpec) : _root_.Go.OpenSpec := { _root_.Go.OpenSpec.ofChange s with cond := some uptoSmall }

/-- 'laws.FnExactIsWiring', WHERE WHAT IT READS IS OF BULK AT MOST 1048576: true; the input reads as it did. -/
def fnExactIsWiringUptoRow : OpenClaim := { program := "ytcpakignoijphaadoor", sum := "f2ba47899c79bcb2231ac3247d4cd053b4e0b95ab0efeba00e073a1a03d76fd0", func := "loop.example/g01082/laws.FnExactIsWiring", spec := "fnExactIsWiring", inPlace := ["internal/bytealg.IndexByteString", "internal/bytealg.IndexString"], unfollowed := true, recurses := true, named := ["unicode/utf8.first", "unicode/utf8.acceptRanges", "internal/bytealg.MaxLen"], apart := false, laid := [("unicode/utf8.acceptRanges", laid_unicode_utf8_acceptRanges), ("unicode/utf8.first", laid_unicode_utf8_first)], narrowed := true }
def FnExactIsWiringUptoSaid : Prop := fnExactIsWiringUptoRow.holds Tryd.pinned (OpenSpec.upto fnExactIsWiringSpec)

/-- 'laws.FnExactIsSubstitution', WHERE WHAT IT READS IS OF BULK AT MOST 1048576: true; the input reads as it did. -/
def fnExactIsSubstitutionUptoRow : OpenClaim := { program := "ytcpakignoijphaadoor", sum := "f2ba47899c79bcb2231ac3247d4cd053b4e0b95ab0efeba00e073a1a03d76fd0", func := "loop.example/g01082/laws.FnExactIsSubstitution", spec := "fnExactIsSubstitution", inPlace := ["internal/bytealg.IndexByteString", "internal/bytealg.IndexString"], unfollowed := true, recurses := true, named := ["unicode/utf8.first", "unicode/utf8.acceptRanges", "internal/bytealg.MaxLen"], apart := false, laid := [("unicode/utf8.acceptRanges", laid_unicode_utf8_acceptRanges), ("unicode/utf8.first", laid_unicode_utf8_first)], narrowed := true }
def FnExactIsSubstitutionUptoSaid : Prop := fnExactIsSubstitutionUptoRow.holds Tryd.pinned (OpenSpec.upto fnExactIsSubstitutionSpec)

/-- 'laws.FnExactIsPrime', WHERE WHAT IT READS IS OF BULK AT MOST 1048576: true; the input reads as it did. -/
def fnExactIsPrimeUptoRow : OpenClaim := { program := "ytcpakignoijphaadoor", sum := "f2ba47899c79bcb2231ac3247d4cd053b4e0b95ab0efeba00e073a1a03d76fd0", func := "loop.example/g01082/laws.FnExactIsPrime", spec := "fnExactIsPrime", inPlace := ["internal/bytealg.IndexByteString", "internal/bytealg.IndexString"], unfollowed := true, recurses := true, named := ["unicode/utf8.first", "unicode/utf8.acceptRanges", "internal/bytealg.MaxLen"], apart := false, laid := [("unicode/utf8.acceptRanges", laid_unicode_utf8_acceptRanges), ("unicode/utf8.first", laid_unicode_utf8_first)], narrowed := true }
def FnExactIsPrimeUptoSaid : Prop := fnExactIsPrimeUptoRow.holds Tryd.pinned (OpenSpec.upto fnExactIsPrimeSpec)

/-- 'laws.FnExactIsAgent', WHERE WHAT IT READS IS OF BULK AT MOST 1048576: true; the input reads as it did. -/
def fnExactIsAgentUptoRow : OpenClaim := { program := "ytcpakignoijphaadoor", sum := "f2ba47899c79bcb2231ac3247d4cd053b4e0b95ab0efeba00e073a1a03d76fd0", func := "loop.example/g01082/laws.FnExactIsAgent", spec := "fnExactIsAgent", inPlace := ["internal/bytealg.IndexByteString", "internal/bytealg.IndexString"], unfollowed := true, recurses := true, named := ["unicode/utf8.first", "unicode/utf8.acceptRanges", "internal/bytealg.MaxLen"], apart := false, laid := [("unicode/utf8.acceptRanges", laid_unicode_utf8_acceptRanges), ("unicode/utf8.first", laid_unicode_utf8_first)], narrowed := true }
def FnExactIsAgentUptoSaid : Prop := fnExactIsAgentUptoRow.holds Tryd.pinned (OpenSpec.upto fnExactIsAgentSpec)

/-- 'laws.FnExactIsPlacing', WHERE WHAT IT READS IS OF BULK AT MOST 1048576: true; the input reads as it did. -/
def fnExactIsPlacingUptoRow : OpenClaim := { program := "ytcpakignoijphaadoor", sum := "f2ba47899c79bcb2231ac3247d4cd053b4e0b95ab0efeba00e073a1a03d76fd0", func := "loop.example/g01082/laws.FnExactIsPlacing", spec := "fnExactIsPlacing", inPlace := ["internal/bytealg.IndexByteString", "internal/bytealg.IndexString"], unfollowed := true, recurses := true, named := ["unicode/utf8.first", "unicode/utf8.acceptRanges", "internal/bytealg.MaxLen"], apart := false, laid := [("unicode/utf8.acceptRanges", laid_unicode_utf8_acceptRanges), ("unicode/utf8.first", laid_unicode_utf8_first)], narrowed := true }
def FnExactIsPlacingUptoSaid : Prop := fnExactIsPlacingUptoRow.holds Tryd.pinned (OpenSpec.upto fnExactIsPlacingSpec)

/-- 'laws.FnExactIsGuarding', WHERE WHAT IT READS IS OF BULK AT MOST 1048576: true; the input reads as it did. -/
def fnExactIsGuardingUptoRow : OpenClaim := { program := "ytcpakignoijphaadoor", sum := "f2ba47899c79bcb2231ac3247d4cd053b4e0b95ab0efeba00e073a1a03d76fd0", func := "loop.example/g01082/laws.FnExactIsGuarding", spec := "fnExactIsGuarding", inPlace := ["internal/bytealg.IndexByteString", "internal/bytealg.IndexString"], unfollowed := true, recurses := true, named := ["unicode/utf8.first", "unicode/utf8.acceptRanges", "internal/bytealg.MaxLen"], apart := false, laid := [("unicode/utf8.acceptRanges", laid_unicode_utf8_acceptRanges), ("unicode/utf8.first", laid_unicode_utf8_first)], narrowed := true }
def FnExactIsGuardingUptoSaid : Prop := fnExactIsGuardingUptoRow.holds Tryd.pinned (OpenSpec.upto fnExactIsGuardingSpec)

/-- 'laws.FnExactFitsAfter', WHERE WHAT IT READS IS OF BULK AT MOST 1048576: true; the input reads as it did. -/
def fnExactFitsAfterUptoRow : OpenClaim := { program := "ytcpakignoijphaadoor", sum := "f2ba47899c79bcb2231ac3247d4cd053b4e0b95ab0efeba00e073a1a03d76fd0", func := "loop.example/g01082/laws.FnExactFitsAfter", spec := "fnExactFitsAfter", inPlace := ["internal/bytealg.IndexByteString", "internal/bytealg.IndexString"], unfollowed := true, recurses := true, named := ["unicode/utf8.first", "unicode/utf8.acceptRanges", "internal/bytealg.MaxLen"], apart := false, laid := [("unicode/utf8.acceptRanges", laid_unicode_utf8_acceptRanges), ("unicode/utf8.first", laid_unicode_utf8_first)], narrowed := true }
def FnExactFitsAfterUptoSaid : Prop := fnExactFitsAfterUptoRow.holds Tryd.pinned (OpenSpec.upto fnExactFitsAfterSpec)

/-- 'laws.FnExactHeightOf', WHERE WHAT IT READS IS OF BULK AT MOST 1048576: true; the input reads as it did. -/
def fnExactHeightOfUptoRow : OpenClaim := { program := "ytcpakignoijphaadoor", sum := "f2ba47899c79bcb2231ac3247d4cd053b4e0b95ab0efeba00e073a1a03d76fd0", func := "loop.example/g01082/laws.FnExactHeightOf", spec := "fnExactHeightOf", inPlace := ["internal/bytealg.IndexByteString", "internal/bytealg.IndexString"], unfollowed := true, recurses := true, named := ["unicode/utf8.first", "unicode/utf8.acceptRanges", "internal/bytealg.MaxLen"], apart := false, laid := [("unicode/utf8.acceptRanges", laid_unicode_utf8_acceptRanges), ("unicode/utf8.first", laid_unicode_utf8_first)], narrowed := true }
def FnExactHeightOfUptoSaid : Prop := fnExactHeightOfUptoRow.holds Tryd.pinned (OpenSpec.upto fnExactHeightOfSpec)

/-- 'laws.FnExactIsDiscrete', WHERE WHAT IT READS IS OF BULK AT MOST 1048576: true; the input reads as it did. -/
def fnExactIsDiscreteUptoRow : OpenClaim := { program := "ytcpakignoijphaadoor", sum := "f2ba47899c79bcb2231ac3247d4cd053b4e0b95ab0efeba00e073a1a03d76fd0", func := "loop.example/g01082/laws.FnExactIsDiscrete", spec := "fnExactIsDiscrete", inPlace := ["internal/bytealg.IndexByteString", "internal/bytealg.IndexString"], unfollowed := true, recurses := true, named := ["unicode/utf8.first", "unicode/utf8.acceptRanges", "internal/bytealg.MaxLen"], apart := false, laid := [("unicode/utf8.acceptRanges", laid_unicode_utf8_acceptRanges), ("unicode/utf8.first", laid_unicode_utf8_first)], narrowed := true }
def FnExactIsDiscreteUptoSaid : Prop := fnExactIsDiscreteUptoRow.holds Tryd.pinned (OpenSpec.upto fnExactIsDiscreteSpec)

/-- 'laws.FnExactIsRenaming', WHERE WHAT IT READS IS OF BULK AT MOST 1048576: true; the input reads as it did. -/
def fnExactIsRenamingUptoRow : OpenClaim := { program := "ytcpakignoijphaadoor", sum := "f2ba47899c79bcb2231ac3247d4cd053b4e0b95ab0efeba00e073a1a03d76fd0", func := "loop.example/g01082/laws.FnExactIsRenaming", spec := "fnExactIsRenaming", inPlace := ["internal/bytealg.IndexByteString", "internal/bytealg.IndexString"], unfollowed := true, recurses := true, named := ["unicode/utf8.first", "unicode/utf8.acceptRanges", "internal/bytealg.MaxLen"], apart := false, laid := [("unicode/utf8.acceptRanges", laid_unicode_utf8_acceptRanges), ("unicode/utf8.first", laid_unicode_utf8_first)], narrowed := true }
def FnExactIsRenamingUptoSaid : Prop := fnExactIsRenamingUptoRow.holds Tryd.pinned (OpenSpec.upto fnExactIsRenamingSpec)

/-- 'laws.FnExactIsLean', WHERE WHAT IT READS IS OF BULK AT MOST 1048576: true; the input reads as it did. -/
def fnExactIsLeanUptoRow : OpenClaim := { program := "ytcpakignoijphaadoor", sum := "f2ba47899c79bcb2231ac3247d4cd053b4e0b95ab0efeba00e073a1a03d76fd0", func := "loop.example/g01082/laws.FnExactIsLean", spec := "fnExactIsLean", inPlace := ["internal/bytealg.IndexByteString", "internal/bytealg.IndexString"], unfollowed := true, recurses := true, named := ["unicode/utf8.first", "unicode/utf8.acceptRanges", "internal/bytealg.MaxLen"], apart := false, laid := [("unicode/utf8.acceptRanges", laid_unicode_utf8_acceptRanges), ("unicode/utf8.first", laid_unicode_utf8_first)], narrowed := true }
def FnExactIsLeanUptoSaid : Prop := fnExactIsLeanUptoRow.holds Tryd.pinned (OpenSpec.upto fnExactIsLeanSpec)

/-- 'laws.FnExactInnerNames', WHERE WHAT IT READS IS OF BULK AT MOST 1048576: true; the input reads as it did. -/
def fnExactInnerNamesUptoRow : OpenClaim := { program := "ytcpakignoijphaadoor", sum := "f2ba47899c79bcb2231ac3247d4cd053b4e0b95ab0efeba00e073a1a03d76fd0", func := "loop.example/g01082/laws.FnExactInnerNames", spec := "fnExactInnerNames", inPlace := ["internal/bytealg.IndexByteString", "internal/bytealg.IndexString"], unfollowed := true, recurses := true, named := ["unicode/utf8.first", "unicode/utf8.acceptRanges", "internal/bytealg.MaxLen"], apart := false, laid := [("unicode/utf8.acceptRanges", laid_unicode_utf8_acceptRanges), ("unicode/utf8.first", laid_unicode_utf8_first)], narrowed := true }
def FnExactInnerNamesUptoSaid : Prop := fnExactInnerNamesUptoRow.holds Tryd.pinned (OpenSpec.upto fnExactInnerNamesSpec)

end Rows
end Go.Proofs.YtcpakignoijphaaDoor
