/-
  No cell of these rows narrows 'for every input' (looked for: loops, veiled, ifaces, maps, wideKeys, modest, calm, conditions, laid).
  DERIVED. THE GIVEN ROWS OF THIS SEAT. 4 by the template 'for every input the law returns true; each argument reads behind the call as it read before'; 0 by the template 'total and deterministic' (their statements: YtlkadcmicjencaaTotals.lean).
  GIVEN WITH THE SEED: the statements are not yours to turn. If you find one false, say at which input.
  Laid BY PROGRAM, IN A SANDBOX (cutbox-rows.mjs): the forced cells as the released guide's own fill.sh prints them over the translation 4e4b1c7669a0d1c5… (all of the seat's roots in one cut). By AI agents, Wed Nov 11 2026. No macro, syntax, notation, axiom, sorry.
-/
import Derived.Test.YtlkadcmicjencaaChecked
import GoSem.Claim
import GoSem.ClaimJoined
import GoSem.ClaimMapViews
import Derived.JoinedTies
import Derived.KernelRfl
namespace Go.Proofs.Ytlkadcmicjencaa
/- THE CELL 'sum', in the pinned program and in every row, IS THE sha256 OF THE DUMP (.gsa) THAT YtlkadcmicjencaaProg.lean LOADS. Nothing in Lean hashes anything: it is a label: what it is worth is what the hold of that sum in a sandbox is worth. -/
noncomputable def Try.pinned : Pinned := { name := "ytlkadcmicjencaa", sum := "4e4b1c7669a0d1c576c9b9ee5945e1cf43e454fc1481dc8482769da0a849fe47", checked := Try.checked }
namespace Rows
def none {H : Type} : Left H := { results := [], args := [] }

/-- 'laws.FnExactBarrenOf': WHATEVER THE INPUT: true; the input reads as it did. -/
def fnExactBarrenOfSpec : ChangeSpec := { name := "fnExactBarrenOf", fn := fun _ => fun
  | [d] => { results := [.lit (.bool true)], args := [d] }
  | _ => none }
def fnExactBarrenOfRow : OpenClaim := { program := "ytlkadcmicjencaa", sum := "4e4b1c7669a0d1c576c9b9ee5945e1cf43e454fc1481dc8482769da0a849fe47", func := "loop.example/g01082/laws.FnExactBarrenOf", spec := "fnExactBarrenOf", apart := false }
def FnExactBarrenOfSaid : Prop := fnExactBarrenOfRow.holds Try.pinned (OpenSpec.ofChange fnExactBarrenOfSpec)

/-- ITS FALSE NEIGHBOUR: 'it returns false'. Refute it at one input. -/
def fnExactBarrenOfWrong : ChangeSpec := { name := "fnExactBarrenOf", fn := fun _ => fun
  | [d] => { results := [.lit (.bool false)], args := [d] }
  | _ => none }
def FnExactBarrenOfWrongFalsely : Prop := fnExactBarrenOfRow.holds Try.pinned (OpenSpec.ofChange fnExactBarrenOfWrong)

/-- 'laws.FnExactSwapOf': WHATEVER THE INPUT: true; the input reads as it did. -/
def fnExactSwapOfSpec : ChangeSpec := { name := "fnExactSwapOf", fn := fun _ => fun
  | [d1, d2] => { results := [.lit (.bool true)], args := [d1, d2] }
  | _ => none }
def fnExactSwapOfRow : OpenClaim := { program := "ytlkadcmicjencaa", sum := "4e4b1c7669a0d1c576c9b9ee5945e1cf43e454fc1481dc8482769da0a849fe47", func := "loop.example/g01082/laws.FnExactSwapOf", spec := "fnExactSwapOf", apart := false }
def FnExactSwapOfSaid : Prop := fnExactSwapOfRow.holds Try.pinned (OpenSpec.ofChange fnExactSwapOfSpec)

/-- ITS FALSE NEIGHBOUR: 'it returns false'. Refute it at one input. -/
def fnExactSwapOfWrong : ChangeSpec := { name := "fnExactSwapOf", fn := fun _ => fun
  | [d1, d2] => { results := [.lit (.bool false)], args := [d1, d2] }
  | _ => none }
def FnExactSwapOfWrongFalsely : Prop := fnExactSwapOfRow.holds Try.pinned (OpenSpec.ofChange fnExactSwapOfWrong)

/-- 'laws.FnExactMergeOf': WHATEVER THE INPUT: true; the input reads as it did. -/
def fnExactMergeOfSpec : ChangeSpec := { name := "fnExactMergeOf", fn := fun _ => fun
  | [d] => { results := [.lit (.bool true)], args := [d] }
  | _ => none }
def fnExactMergeOfRow : OpenClaim := { program := "ytlkadcmicjencaa", sum := "4e4b1c7669a0d1c576c9b9ee5945e1cf43e454fc1481dc8482769da0a849fe47", func := "loop.example/g01082/laws.FnExactMergeOf", spec := "fnExactMergeOf", apart := false }
def FnExactMergeOfSaid : Prop := fnExactMergeOfRow.holds Try.pinned (OpenSpec.ofChange fnExactMergeOfSpec)

/-- ITS FALSE NEIGHBOUR: 'it returns false'. Refute it at one input. -/
def fnExactMergeOfWrong : ChangeSpec := { name := "fnExactMergeOf", fn := fun _ => fun
  | [d] => { results := [.lit (.bool false)], args := [d] }
  | _ => none }
def FnExactMergeOfWrongFalsely : Prop := fnExactMergeOfRow.holds Try.pinned (OpenSpec.ofChange fnExactMergeOfWrong)

/-- 'laws.FnExactPermutationOf': WHATEVER THE INPUT: true; the input reads as it did. -/
def fnExactPermutationOfSpec : ChangeSpec := { name := "fnExactPermutationOf", fn := fun _ => fun
  | [d] => { results := [.lit (.bool true)], args := [d] }
  | _ => none }
def fnExactPermutationOfRow : OpenClaim := { program := "ytlkadcmicjencaa", sum := "4e4b1c7669a0d1c576c9b9ee5945e1cf43e454fc1481dc8482769da0a849fe47", func := "loop.example/g01082/laws.FnExactPermutationOf", spec := "fnExactPermutationOf", recurses := true, apart := false }
def FnExactPermutationOfSaid : Prop := fnExactPermutationOfRow.holds Try.pinned (OpenSpec.ofChange fnExactPermutationOfSpec)

/-- ITS FALSE NEIGHBOUR: 'it returns false'. Refute it at one input. -/
def fnExactPermutationOfWrong : ChangeSpec := { name := "fnExactPermutationOf", fn := fun _ => fun
  | [d] => { results := [.lit (.bool false)], args := [d] }
  | _ => none }
def FnExactPermutationOfWrongFalsely : Prop := fnExactPermutationOfRow.holds Try.pinned (OpenSpec.ofChange fnExactPermutationOfWrong)

/- THE SECOND FORM. 'bulk': how many values and letters a reading holds, each counted each time it is reached (what is shared counts as often as it is met; a slice's spare places count too). A statement '..UptoSaid' is the law's where the arguments, and the package variables that the reading takes, are together of bulk at most 1048576: NARROWER than '..Said'. Prove '..Said' where nothing that the law and all that it calls make is longer than what came in: it says more and counts as full. Else prove '..UptoSaid'. A law counts once. -/
mutual
def uptoBulk {H : Type} : DataW H → Nat
  | .lit (.string bytes) => bytes.length + 1
  | .lit _ => 1
  | .nil => 1
  | .ptr d => uptoBulk d + 1
  | .slice elems spare => uptoBulkAll elems + uptoBulkAll spare + 1
  | .agg parts => uptoBulkAll parts + 1
  | .iface _ d => uptoBulk d + 1
  | .map entries => uptoBulkEntries entries + 1
  | .held _ => 1
def uptoBulkAll {H : Type} : List (DataW H) → Nat
  | [] => 0
  | d :: r => uptoBulk d + uptoBulkAll r
def uptoBulkEntries {H : Type} : List (Lit × DataW H) → Nat
  | [] => 0
  | x :: r => uptoBulkEntry x + uptoBulkEntries r
def uptoBulkEntry {H : Type} : Lit × DataW H → Nat
  | (.string bytes, d) => bytes.length + uptoBulk d + 1
  | (_, d) => uptoBulk d + 1
 end
def uptoSmall : (H : Type) → List (DataW H) → Bool := fun _ ds => decide (uptoBulkAll ds ≤ 1048576)
def OpenSpec.upto (s : _root_.Go.ChangeSpec) : _root_.Go.OpenSpec := { _root_.Go.OpenSpec.ofChange s with cond := some uptoSmall }

/-- 'laws.FnExactBarrenOf', WHERE WHAT IT READS IS OF BULK AT MOST 1048576: true; the input reads as it did. -/
def fnExactBarrenOfUptoRow : OpenClaim := { program := "ytlkadcmicjencaa", sum := "4e4b1c7669a0d1c576c9b9ee5945e1cf43e454fc1481dc8482769da0a849fe47", func := "loop.example/g01082/laws.FnExactBarrenOf", spec := "fnExactBarrenOf", apart := false, narrowed := true }
def FnExactBarrenOfUptoSaid : Prop := fnExactBarrenOfUptoRow.holds Try.pinned (OpenSpec.upto fnExactBarrenOfSpec)

/-- 'laws.FnExactSwapOf', WHERE WHAT IT READS IS OF BULK AT MOST 1048576: true; the input reads as it did. -/
def fnExactSwapOfUptoRow : OpenClaim := { program := "ytlkadcmicjencaa", sum := "4e4b1c7669a0d1c576c9b9ee5945e1cf43e454fc1481dc8482769da0a849fe47", func := "loop.example/g01082/laws.FnExactSwapOf", spec := "fnExactSwapOf", apart := false, narrowed := true }
def FnExactSwapOfUptoSaid : Prop := fnExactSwapOfUptoRow.holds Try.pinned (OpenSpec.upto fnExactSwapOfSpec)

/-- 'laws.FnExactMergeOf', WHERE WHAT IT READS IS OF BULK AT MOST 1048576: true; the input reads as it did. -/
def fnExactMergeOfUptoRow : OpenClaim := { program := "ytlkadcmicjencaa", sum := "4e4b1c7669a0d1c576c9b9ee5945e1cf43e454fc1481dc8482769da0a849fe47", func := "loop.example/g01082/laws.FnExactMergeOf", spec := "fnExactMergeOf", apart := false, narrowed := true }
def FnExactMergeOfUptoSaid : Prop := fnExactMergeOfUptoRow.holds Try.pinned (OpenSpec.upto fnExactMergeOfSpec)

/-- 'laws.FnExactPermutationOf', WHERE WHAT IT READS IS OF BULK AT MOST 1048576: true; the input reads as it did. -/
def fnExactPermutationOfUptoRow : OpenClaim := { program := "ytlkadcmicjencaa", sum := "4e4b1c7669a0d1c576c9b9ee5945e1cf43e454fc1481dc8482769da0a849fe47", func := "loop.example/g01082/laws.FnExactPermutationOf", spec := "fnExactPermutationOf", recurses := true, apart := false, narrowed := true }
def FnExactPermutationOfUptoSaid : Prop := fnExactPermutationOfUptoRow.holds Try.pinned (OpenSpec.upto fnExactPermutationOfSpec)

end Rows
end Go.Proofs.Ytlkadcmicjencaa
