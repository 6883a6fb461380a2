/-
  DERIVED. GIVEN WITH THE SEED: THE CARDS: each row of YtcpakignoijphaaDoorRows.lean that lists a variable, with what it lists TIED to the program's text (the seventh form; the later family's looks); each row that meets fmt, with fmt's text TOLD by the authors' own Lean function (tested against real Go, not proved from fmt's source: count such statements apart). THE CARD IS WHAT COUNTS. Prove the row's statement (the work); the ties are given (YtcpakignoijphaaDoorTie.lean); close each card by the builder's one call (the guide's Derived/Test/ToyasCard.lean, 'card_holds'). Laid BY PROGRAM, IN A SANDBOX (cutbox-door.mjs). By AI agents, Wed Nov 11 2026. No macro, syntax, notation, axiom, sorry.
-/
import Derived.Test.YtcpakignoijphaaDoorRows
import GoSem.ClaimSeven
namespace Go.Proofs.YtcpakignoijphaaDoor
namespace Rows

/-- THE TIED CARD OF 'laws.FnExactIsWiring'. -/
def fnExactIsWiringCard : Claim7 := { stood := { row := fnExactIsWiringRow, standIns := [], harness := (true, "18df897a6724512f1e944b754ebc607dd3037dd9fdae228f2b31a56cb883da96"), looks := false }, kinds := [], alts := [], laidByText := true, laidKinds := [.data, .pinned], laidTests := true, laidLooks := .later }
def FnExactIsWiringCardSaid : Prop := Claim7.holds Tryd.pinned (.plain (OpenSpec.ofChange fnExactIsWiringSpec)) fnExactIsWiringCard

/-- THE TIED CARD OF 'laws.FnExactIsSubstitution'. -/
def fnExactIsSubstitutionCard : Claim7 := { stood := { row := fnExactIsSubstitutionRow, standIns := [], harness := (true, "18df897a6724512f1e944b754ebc607dd3037dd9fdae228f2b31a56cb883da96"), looks := false }, kinds := [], alts := [], laidByText := true, laidKinds := [.data, .pinned], laidTests := true, laidLooks := .later }
def FnExactIsSubstitutionCardSaid : Prop := Claim7.holds Tryd.pinned (.plain (OpenSpec.ofChange fnExactIsSubstitutionSpec)) fnExactIsSubstitutionCard

/-- THE TIED CARD OF 'laws.FnExactIsPrime'. -/
def fnExactIsPrimeCard : Claim7 := { stood := { row := fnExactIsPrimeRow, standIns := [], harness := (true, "18df897a6724512f1e944b754ebc607dd3037dd9fdae228f2b31a56cb883da96"), looks := false }, kinds := [], alts := [], laidByText := true, laidKinds := [.data, .pinned], laidTests := true, laidLooks := .later }
def FnExactIsPrimeCardSaid : Prop := Claim7.holds Tryd.pinned (.plain (OpenSpec.ofChange fnExactIsPrimeSpec)) fnExactIsPrimeCard

/-- THE TIED CARD OF 'laws.FnExactIsAgent'. -/
def fnExactIsAgentCard : Claim7 := { stood := { row := fnExactIsAgentRow, standIns := [], harness := (true, "18df897a6724512f1e944b754ebc607dd3037dd9fdae228f2b31a56cb883da96"), looks := false }, kinds := [], alts := [], laidByText := true, laidKinds := [.data, .pinned], laidTests := true, laidLooks := .later }
def FnExactIsAgentCardSaid : Prop := Claim7.holds Tryd.pinned (.plain (OpenSpec.ofChange fnExactIsAgentSpec)) fnExactIsAgentCard

/-- THE TIED CARD OF 'laws.FnExactIsPlacing'. -/
def fnExactIsPlacingCard : Claim7 := { stood := { row := fnExactIsPlacingRow, standIns := [], harness := (true, "18df897a6724512f1e944b754ebc607dd3037dd9fdae228f2b31a56cb883da96"), looks := false }, kinds := [], alts := [], laidByText := true, laidKinds := [.data, .pinned], laidTests := true, laidLooks := .later }
def FnExactIsPlacingCardSaid : Prop := Claim7.holds Tryd.pinned (.plain (OpenSpec.ofChange fnExactIsPlacingSpec)) fnExactIsPlacingCard

/-- THE TIED CARD OF 'laws.FnExactIsGuarding'. -/
def fnExactIsGuardingCard : Claim7 := { stood := { row := fnExactIsGuardingRow, standIns := [], harness := (true, "18df897a6724512f1e944b754ebc607dd3037dd9fdae228f2b31a56cb883da96"), looks := false }, kinds := [], alts := [], laidByText := true, laidKinds := [.data, .pinned], laidTests := true, laidLooks := .later }
def FnExactIsGuardingCardSaid : Prop := Claim7.holds Tryd.pinned (.plain (OpenSpec.ofChange fnExactIsGuardingSpec)) fnExactIsGuardingCard

/-- THE TIED CARD OF 'laws.FnExactFitsAfter'. -/
def fnExactFitsAfterCard : Claim7 := { stood := { row := fnExactFitsAfterRow, standIns := [], harness := (true, "18df897a6724512f1e944b754ebc607dd3037dd9fdae228f2b31a56cb883da96"), looks := false }, kinds := [], alts := [], laidByText := true, laidKinds := [.data, .pinned], laidTests := true, laidLooks := .later }
def FnExactFitsAfterCardSaid : Prop := Claim7.holds Tryd.pinned (.plain (OpenSpec.ofChange fnExactFitsAfterSpec)) fnExactFitsAfterCard

/-- THE TIED CARD OF 'laws.FnExactHeightOf'. -/
def fnExactHeightOfCard : Claim7 := { stood := { row := fnExactHeightOfRow, standIns := [], harness := (true, "18df897a6724512f1e944b754ebc607dd3037dd9fdae228f2b31a56cb883da96"), looks := false }, kinds := [], alts := [], laidByText := true, laidKinds := [.data, .pinned], laidTests := true, laidLooks := .later }
def FnExactHeightOfCardSaid : Prop := Claim7.holds Tryd.pinned (.plain (OpenSpec.ofChange fnExactHeightOfSpec)) fnExactHeightOfCard

/-- THE TIED CARD OF 'laws.FnExactIsDiscrete'. -/
def fnExactIsDiscreteCard : Claim7 := { stood := { row := fnExactIsDiscreteRow, standIns := [], harness := (true, "18df897a6724512f1e944b754ebc607dd3037dd9fdae228f2b31a56cb883da96"), looks := false }, kinds := [], alts := [], laidByText := true, laidKinds := [.data, .pinned], laidTests := true, laidLooks := .later }
def FnExactIsDiscreteCardSaid : Prop := Claim7.holds Tryd.pinned (.plain (OpenSpec.ofChange fnExactIsDiscreteSpec)) fnExactIsDiscreteCard

/-- THE TIED CARD OF 'laws.FnExactIsRenaming'. -/
def fnExactIsRenamingCard : Claim7 := { stood := { row := fnExactIsRenamingRow, standIns := [], harness := (true, "18df897a6724512f1e944b754ebc607dd3037dd9fdae228f2b31a56cb883da96"), looks := false }, kinds := [], alts := [], laidByText := true, laidKinds := [.data, .pinned], laidTests := true, laidLooks := .later }
def FnExactIsRenamingCardSaid : Prop := Claim7.holds Tryd.pinned (.plain (OpenSpec.ofChange fnExactIsRenamingSpec)) fnExactIsRenamingCard

/-- THE TIED CARD OF 'laws.FnExactIsLean'. -/
def fnExactIsLeanCard : Claim7 := { stood := { row := fnExactIsLeanRow, standIns := [], harness := (true, "18df897a6724512f1e944b754ebc607dd3037dd9fdae228f2b31a56cb883da96"), looks := false }, kinds := [], alts := [], laidByText := true, laidKinds := [.data, .pinned], laidTests := true, laidLooks := .later }
def FnExactIsLeanCardSaid : Prop := Claim7.holds Tryd.pinned (.plain (OpenSpec.ofChange fnExactIsLeanSpec)) fnExactIsLeanCard

/-- THE TIED CARD OF 'laws.FnExactInnerNames'. -/
def fnExactInnerNamesCard : Claim7 := { stood := { row := fnExactInnerNamesRow, standIns := [], harness := (true, "18df897a6724512f1e944b754ebc607dd3037dd9fdae228f2b31a56cb883da96"), looks := false }, kinds := [], alts := [], laidByText := true, laidKinds := [.data, .pinned], laidTests := true, laidLooks := .later }
def FnExactInnerNamesCardSaid : Prop := Claim7.holds Tryd.pinned (.plain (OpenSpec.ofChange fnExactInnerNamesSpec)) fnExactInnerNamesCard

/-- THE SECOND FORM's CARD OF 'laws.FnExactIsWiring'. -/
def fnExactIsWiringUptoCard : Claim7 := { stood := { row := fnExactIsWiringUptoRow, standIns := [], harness := (true, "18df897a6724512f1e944b754ebc607dd3037dd9fdae228f2b31a56cb883da96"), looks := false }, kinds := [], alts := [], laidByText := true, laidKinds := [.data, .pinned], laidTests := true, laidLooks := .later }
def FnExactIsWiringUptoCardSaid : Prop := Claim7.holds Tryd.pinned (.plain (OpenSpec.upto fnExactIsWiringSpec)) fnExactIsWiringUptoCard

/-- THE SECOND FORM's CARD OF 'laws.FnExactIsSubstitution'. -/
def fnExactIsSubstitutionUptoCard : Claim7 := { stood := { row := fnExactIsSubstitutionUptoRow, standIns := [], harness := (true, "18df897a6724512f1e944b754ebc607dd3037dd9fdae228f2b31a56cb883da96"), looks := false }, kinds := [], alts := [], laidByText := true, laidKinds := [.data, .pinned], laidTests := true, laidLooks := .later }
def FnExactIsSubstitutionUptoCardSaid : Prop := Claim7.holds Tryd.pinned (.plain (OpenSpec.upto fnExactIsSubstitutionSpec)) fnExactIsSubstitutionUptoCard

/-- THE SECOND FORM's CARD OF 'laws.FnExactIsPrime'. -/
def fnExactIsPrimeUptoCard : Claim7 := { stood := { row := fnExactIsPrimeUptoRow, standIns := [], harness := (true, "18df897a6724512f1e944b754ebc607dd3037dd9fdae228f2b31a56cb883da96"), looks := false }, kinds := [], alts := [], laidByText := true, laidKinds := [.data, .pinned], laidTests := true, laidLooks := .later }
def FnExactIsPrimeUptoCardSaid : Prop := Claim7.holds Tryd.pinned (.plain (OpenSpec.upto fnExactIsPrimeSpec)) fnExactIsPrimeUptoCard

/-- THE SECOND FORM's CARD OF 'laws.FnExactIsAgent'. -/
def fnExactIsAgentUptoCard : Claim7 := { stood := { row := fnExactIsAgentUptoRow, standIns := [], harness := (true, "18df897a6724512f1e944b754ebc607dd3037dd9fdae228f2b31a56cb883da96"), looks := false }, kinds := [], alts := [], laidByText := true, laidKinds := [.data, .pinned], laidTests := true, laidLooks := .later }
def FnExactIsAgentUptoCardSaid : Prop := Claim7.holds Tryd.pinned (.plain (OpenSpec.upto fnExactIsAgentSpec)) fnExactIsAgentUptoCard

/-- THE SECOND FORM's CARD OF 'laws.FnExactIsPlacing'. -/
def fnExactIsPlacingUptoCard : Claim7 := { stood := { row := fnExactIsPlacingUptoRow, standIns := [], harness := (true, "18df897a6724512f1e944b754ebc607dd3037dd9fdae228f2b31a56cb883da96"), looks := false }, kinds := [], alts := [], laidByText := true, laidKinds := [.data, .pinned], laidTests := true, laidLooks := .later }
def FnExactIsPlacingUptoCardSaid : Prop := Claim7.holds Tryd.pinned (.plain (OpenSpec.upto fnExactIsPlacingSpec)) fnExactIsPlacingUptoCard

/-- THE SECOND FORM's CARD OF 'laws.FnExactIsGuarding'. -/
def fnExactIsGuardingUptoCard : Claim7 := { stood := { row := fnExactIsGuardingUptoRow, standIns := [], harness := (true, "18df897a6724512f1e944b754ebc607dd3037dd9fdae228f2b31a56cb883da96"), looks := false }, kinds := [], alts := [], laidByText := true, laidKinds := [.data, .pinned], laidTests := true, laidLooks := .later }
def FnExactIsGuardingUptoCardSaid : Prop := Claim7.holds Tryd.pinned (.plain (OpenSpec.upto fnExactIsGuardingSpec)) fnExactIsGuardingUptoCard

/-- THE SECOND FORM's CARD OF 'laws.FnExactFitsAfter'. -/
def fnExactFitsAfterUptoCard : Claim7 := { stood := { row := fnExactFitsAfterUptoRow, standIns := [], harness := (true, "18df897a6724512f1e944b754ebc607dd3037dd9fdae228f2b31a56cb883da96"), looks := false }, kinds := [], alts := [], laidByText := true, laidKinds := [.data, .pinned], laidTests := true, laidLooks := .later }
def FnExactFitsAfterUptoCardSaid : Prop := Claim7.holds Tryd.pinned (.plain (OpenSpec.upto fnExactFitsAfterSpec)) fnExactFitsAfterUptoCard

/-- THE SECOND FORM's CARD OF 'laws.FnExactHeightOf'. -/
def fnExactHeightOfUptoCard : Claim7 := { stood := { row := fnExactHeightOfUptoRow, standIns := [], harness := (true, "18df897a6724512f1e944b754ebc607dd3037dd9fdae228f2b31a56cb883da96"), looks := false }, kinds := [], alts := [], laidByText := true, laidKinds := [.data, .pinned], laidTests := true, laidLooks := .later }
def FnExactHeightOfUptoCardSaid : Prop := Claim7.holds Tryd.pinned (.plain (OpenSpec.upto fnExactHeightOfSpec)) fnExactHeightOfUptoCard

/-- THE SECOND FORM's CARD OF 'laws.FnExactIsDiscrete'. -/
def fnExactIsDiscreteUptoCard : Claim7 := { stood := { row := fnExactIsDiscreteUptoRow, standIns := [], harness := (true, "18df897a6724512f1e944b754ebc607dd3037dd9fdae228f2b31a56cb883da96"), looks := false }, kinds := [], alts := [], laidByText := true, laidKinds := [.data, .pinned], laidTests := true, laidLooks := .later }
def FnExactIsDiscreteUptoCardSaid : Prop := Claim7.holds Tryd.pinned (.plain (OpenSpec.upto fnExactIsDiscreteSpec)) fnExactIsDiscreteUptoCard

/-- THE SECOND FORM's CARD OF 'laws.FnExactIsRenaming'. -/
def fnExactIsRenamingUptoCard : Claim7 := { stood := { row := fnExactIsRenamingUptoRow, standIns := [], harness := (true, "18df897a6724512f1e944b754ebc607dd3037dd9fdae228f2b31a56cb883da96"), looks := false }, kinds := [], alts := [], laidByText := true, laidKinds := [.data, .pinned], laidTests := true, laidLooks := .later }
def FnExactIsRenamingUptoCardSaid : Prop := Claim7.holds Tryd.pinned (.plain (OpenSpec.upto fnExactIsRenamingSpec)) fnExactIsRenamingUptoCard

/-- THE SECOND FORM's CARD OF 'laws.FnExactIsLean'. -/
def fnExactIsLeanUptoCard : Claim7 := { stood := { row := fnExactIsLeanUptoRow, standIns := [], harness := (true, "18df897a6724512f1e944b754ebc607dd3037dd9fdae228f2b31a56cb883da96"), looks := false }, kinds := [], alts := [], laidByText := true, laidKinds := [.data, .pinned], laidTests := true, laidLooks := .later }
def FnExactIsLeanUptoCardSaid : Prop := Claim7.holds Tryd.pinned (.plain (OpenSpec.upto fnExactIsLeanSpec)) fnExactIsLeanUptoCard

/-- THE SECOND FORM's CARD OF 'laws.FnExactInnerNames'. -/
def fnExactInnerNamesUptoCard : Claim7 := { stood := { row := fnExactInnerNamesUptoRow, standIns := [], harness := (true, "18df897a6724512f1e944b754ebc607dd3037dd9fdae228f2b31a56cb883da96"), looks := false }, kinds := [], alts := [], laidByText := true, laidKinds := [.data, .pinned], laidTests := true, laidLooks := .later }
def FnExactInnerNamesUptoCardSaid : Prop := Claim7.holds Tryd.pinned (.plain (OpenSpec.upto fnExactInnerNamesSpec)) fnExactInnerNamesUptoCard
end Rows
end Go.Proofs.YtcpakignoijphaaDoor
