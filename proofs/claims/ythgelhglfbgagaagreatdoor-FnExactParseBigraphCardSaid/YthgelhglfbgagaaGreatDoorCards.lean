/-
  DERIVED. GIVEN WITH THE SEED: THE CARDS: each row of YthgelhglfbgagaaGreatDoorRows.lean that lists a variable, with what it lists TIED to the program's text (the seventh form; the later family's looks); each row that meets fmt, with fmt's text TOLD by the authors' own Lean function (tested against real Go, not proved from fmt's source: count such statements apart). THE CARD IS WHAT COUNTS. Prove the row's statement (the work); the ties are given (YthgelhglfbgagaaGreatDoorTie.lean); close each card by the builder's one call (the guide's Derived/Test/ToyasCard.lean, 'card_holds'). Laid BY PROGRAM, IN A SANDBOX (cutbox-door.mjs). By AI agents, Wed Nov 11 2026. No macro, syntax, notation, axiom, sorry.
-/
import Derived.Test.YthgelhglfbgagaaGreatDoorRows
import GoSem.ClaimSeven
namespace Go.Proofs.YthgelhglfbgagaaGreatDoor
namespace Rows

/-- THE TIED CARD OF 'laws.FnExactParseBigraph'. -/
def fnExactParseBigraphCard : Claim7 := { stood := { row := fnExactParseBigraphRow, standIns := [], harness := (true, "f651df338235ff7925ae1deebd741e2786b8c40db31b245bedf2910d4af340e1"), looks := true }, kinds := [], alts := [], laidByText := true, laidKinds := [.data, .data, .data, .data, .sentinel, .sentinel, .pinned], laidTests := true, laidLooks := .later }
def FnExactParseBigraphCardSaid : Prop := Claim7.holds Tryz.pinned (.plain (OpenSpec.ofChange fnExactParseBigraphSpec)) fnExactParseBigraphCard

/-- THE TIED CARD OF 'laws.FnExactComposeWirings'. -/
def fnExactComposeWiringsCard : Claim7 := { stood := { row := fnExactComposeWiringsRow, standIns := [], harness := (true, "f651df338235ff7925ae1deebd741e2786b8c40db31b245bedf2910d4af340e1"), looks := true }, kinds := [], alts := [], laidByText := true, laidKinds := [.data, .pinned], laidTests := true, laidLooks := .later }
def FnExactComposeWiringsCardSaid : Prop := Claim7.holds Tryz.pinned (.plain (OpenSpec.ofChange fnExactComposeWiringsSpec)) fnExactComposeWiringsCard

/-- THE SECOND FORM's CARD OF 'laws.FnExactParseBigraph'. -/
def fnExactParseBigraphUptoCard : Claim7 := { stood := { row := fnExactParseBigraphUptoRow, standIns := [], harness := (true, "f651df338235ff7925ae1deebd741e2786b8c40db31b245bedf2910d4af340e1"), looks := true }, kinds := [], alts := [], laidByText := true, laidKinds := [.data, .data, .data, .data, .sentinel, .sentinel, .pinned], laidTests := true, laidLooks := .later }
def FnExactParseBigraphUptoCardSaid : Prop := Claim7.holds Tryz.pinned (.plain (OpenSpec.upto fnExactParseBigraphSpec)) fnExactParseBigraphUptoCard

/-- THE SECOND FORM's CARD OF 'laws.FnExactComposeWirings'. -/
def fnExactComposeWiringsUptoCard : Claim7 := { stood := { row := fnExactComposeWiringsUptoRow, standIns := [], harness := (true, "f651df338235ff7925ae1deebd741e2786b8c40db31b245bedf2910d4af340e1"), looks := true }, kinds := [], alts := [], laidByText := true, laidKinds := [.data, .pinned], laidTests := true, laidLooks := .later }
def FnExactComposeWiringsUptoCardSaid : Prop := Claim7.holds Tryz.pinned (.plain (OpenSpec.upto fnExactComposeWiringsSpec)) fnExactComposeWiringsUptoCard
end Rows
end Go.Proofs.YthgelhglfbgagaaGreatDoor
