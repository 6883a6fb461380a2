/-
  DERIVED. GIVEN WITH THE SEED: THE CARDS: each row of YtjkebiodabheiaaGreatDoorRows.lean that lists a variable, with what it lists TIED to the program's text (the seventh form; the later family's looks); each row that meets fmt, with fmt's text TOLD by the authors' own Lean function (tested against real Go, not proved from fmt's source: count such statements apart). THE CARD IS WHAT COUNTS. Prove the row's statement (the work); the ties are given (YtjkebiodabheiaaGreatDoorTie.lean); close each card by the builder's one call (the guide's Derived/Test/ToyasCard.lean, 'card_holds'). Laid BY PROGRAM, IN A SANDBOX (cutbox-door.mjs). By AI agents, Wed Nov 11 2026. No macro, syntax, notation, axiom, sorry.
-/
import Derived.Test.YtjkebiodabheiaaGreatDoorRows
import GoSem.ClaimSeven
namespace Go.Proofs.YtjkebiodabheiaaGreatDoor
namespace Rows

/-- THE TIED CARD OF 'laws.FnExactMergeRoots'. -/
def fnExactMergeRootsCard : Claim7 := { stood := { row := fnExactMergeRootsRow, standIns := [], harness := (true, "0bd0c16d931e327b65e663dc922a4e614aa4ef214c1d368e72121908fd06fd45"), looks := false }, kinds := [], alts := [], laidByText := true, laidKinds := [.data, .pinned], laidTests := true, laidLooks := .later }
def FnExactMergeRootsCardSaid : Prop := Claim7.holds Tryz.pinned (.plain (OpenSpec.ofChange fnExactMergeRootsSpec)) fnExactMergeRootsCard

/-- THE TIED CARD OF 'laws.FnExactDiscreteOf'. -/
def fnExactDiscreteOfCard : Claim7 := { stood := { row := fnExactDiscreteOfRow, standIns := [], harness := (true, "0bd0c16d931e327b65e663dc922a4e614aa4ef214c1d368e72121908fd06fd45"), looks := false }, kinds := [], alts := [], laidByText := true, laidKinds := [.data, .pinned], laidTests := true, laidLooks := .later }
def FnExactDiscreteOfCardSaid : Prop := Claim7.holds Tryz.pinned (.plain (OpenSpec.ofChange fnExactDiscreteOfSpec)) fnExactDiscreteOfCard

/-- THE TIED CARD OF 'laws.FnExactBigraphText'. -/
def fnExactBigraphTextCard : Claim7 := { stood := { row := fnExactBigraphTextRow, standIns := [], harness := (true, "0bd0c16d931e327b65e663dc922a4e614aa4ef214c1d368e72121908fd06fd45"), looks := false }, kinds := [], alts := [], laidByText := true, laidKinds := [.data, .data, .data, .data, .pinned], laidTests := true, laidLooks := .later }
def FnExactBigraphTextCardSaid : Prop := Claim7.holds Tryz.pinned (.plain (OpenSpec.ofChange fnExactBigraphTextSpec)) fnExactBigraphTextCard

/-- THE TIED CARD OF 'laws.FnExactIsPermutation'. -/
def fnExactIsPermutationCard : Claim7 := { stood := { row := fnExactIsPermutationRow, standIns := [], harness := (true, "0bd0c16d931e327b65e663dc922a4e614aa4ef214c1d368e72121908fd06fd45"), looks := false }, kinds := [], alts := [], laidByText := true, laidKinds := [.data, .pinned], laidTests := true, laidLooks := .later }
def FnExactIsPermutationCardSaid : Prop := Claim7.holds Tryz.pinned (.plain (OpenSpec.ofChange fnExactIsPermutationSpec)) fnExactIsPermutationCard

/-- THE SECOND FORM's CARD OF 'laws.FnExactMergeRoots'. -/
def fnExactMergeRootsUptoCard : Claim7 := { stood := { row := fnExactMergeRootsUptoRow, standIns := [], harness := (true, "0bd0c16d931e327b65e663dc922a4e614aa4ef214c1d368e72121908fd06fd45"), looks := false }, kinds := [], alts := [], laidByText := true, laidKinds := [.data, .pinned], laidTests := true, laidLooks := .later }
def FnExactMergeRootsUptoCardSaid : Prop := Claim7.holds Tryz.pinned (.plain (OpenSpec.upto fnExactMergeRootsSpec)) fnExactMergeRootsUptoCard

/-- THE SECOND FORM's CARD OF 'laws.FnExactDiscreteOf'. -/
def fnExactDiscreteOfUptoCard : Claim7 := { stood := { row := fnExactDiscreteOfUptoRow, standIns := [], harness := (true, "0bd0c16d931e327b65e663dc922a4e614aa4ef214c1d368e72121908fd06fd45"), looks := false }, kinds := [], alts := [], laidByText := true, laidKinds := [.data, .pinned], laidTests := true, laidLooks := .later }
def FnExactDiscreteOfUptoCardSaid : Prop := Claim7.holds Tryz.pinned (.plain (OpenSpec.upto fnExactDiscreteOfSpec)) fnExactDiscreteOfUptoCard

/-- THE SECOND FORM's CARD OF 'laws.FnExactBigraphText'. -/
def fnExactBigraphTextUptoCard : Claim7 := { stood := { row := fnExactBigraphTextUptoRow, standIns := [], harness := (true, "0bd0c16d931e327b65e663dc922a4e614aa4ef214c1d368e72121908fd06fd45"), looks := false }, kinds := [], alts := [], laidByText := true, laidKinds := [.data, .data, .data, .data, .pinned], laidTests := true, laidLooks := .later }
def FnExactBigraphTextUptoCardSaid : Prop := Claim7.holds Tryz.pinned (.plain (OpenSpec.upto fnExactBigraphTextSpec)) fnExactBigraphTextUptoCard

/-- THE SECOND FORM's CARD OF 'laws.FnExactIsPermutation'. -/
def fnExactIsPermutationUptoCard : Claim7 := { stood := { row := fnExactIsPermutationUptoRow, standIns := [], harness := (true, "0bd0c16d931e327b65e663dc922a4e614aa4ef214c1d368e72121908fd06fd45"), looks := false }, kinds := [], alts := [], laidByText := true, laidKinds := [.data, .pinned], laidTests := true, laidLooks := .later }
def FnExactIsPermutationUptoCardSaid : Prop := Claim7.holds Tryz.pinned (.plain (OpenSpec.upto fnExactIsPermutationSpec)) fnExactIsPermutationUptoCard
end Rows
end Go.Proofs.YtjkebiodabheiaaGreatDoor
