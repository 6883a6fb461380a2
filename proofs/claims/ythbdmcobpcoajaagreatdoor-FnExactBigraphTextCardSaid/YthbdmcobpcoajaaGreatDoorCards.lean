/-
  DERIVED. GIVEN WITH THE SEED: THE CARDS: each row of YthbdmcobpcoajaaGreatDoorRows.lean that lists a variable, with what it lists TIED to the program's text (the seventh form; the later family's looks); each row that meets fmt, with fmt's text TOLD by the authors' own Lean function (tested against real Go, not proved from fmt's source: count such statements apart). THE CARD IS WHAT COUNTS. Prove the row's statement (the work); the ties are given (YthbdmcobpcoajaaGreatDoorTie.lean); close each card by the builder's one call (the guide's Derived/Test/ToyasCard.lean, 'card_holds'). Laid BY PROGRAM, IN A SANDBOX (cutbox-door.mjs). By AI agents, Wed Nov 11 2026. No macro, syntax, notation, axiom, sorry.
-/
import Derived.Test.YthbdmcobpcoajaaGreatDoorRows
import GoSem.ClaimSeven
namespace Go.Proofs.YthbdmcobpcoajaaGreatDoor
namespace Rows

/-- THE TIED CARD OF 'laws.FnExactInverseOf'. -/
def fnExactInverseOfCard : Claim7 := { stood := { row := fnExactInverseOfRow, standIns := [], harness := (true, "39d2abf23a8102b291162174d9ff9952492da66c41382fd17a8b12bd7938fd86"), looks := true }, kinds := [], alts := [], laidByText := true, laidKinds := [.data, .pinned], laidTests := true, laidLooks := .later }
def FnExactInverseOfCardSaid : Prop := Claim7.holds Tryz.pinned (.plain (OpenSpec.ofChange fnExactInverseOfSpec)) fnExactInverseOfCard

/-- THE TIED CARD OF 'laws.FnExactLeanOf'. -/
def fnExactLeanOfCard : Claim7 := { stood := { row := fnExactLeanOfRow, standIns := [], harness := (true, "39d2abf23a8102b291162174d9ff9952492da66c41382fd17a8b12bd7938fd86"), looks := true }, kinds := [], alts := [], laidByText := true, laidKinds := [.data, .pinned], laidTests := true, laidLooks := .later }
def FnExactLeanOfCardSaid : Prop := Claim7.holds Tryz.pinned (.plain (OpenSpec.ofChange fnExactLeanOfSpec)) fnExactLeanOfCard

/-- THE TIED CARD OF 'laws.FnExactParseBigraph'. -/
def fnExactParseBigraphCard : Claim7 := { stood := { row := fnExactParseBigraphRow, standIns := [], harness := (true, "39d2abf23a8102b291162174d9ff9952492da66c41382fd17a8b12bd7938fd86"), looks := true }, kinds := [], alts := [], laidByText := true, laidKinds := [.data, .data, .data, .data, .sentinel, .sentinel, .pinned], laidTests := true, laidLooks := .later }
def FnExactParseBigraphCardSaid : Prop := Claim7.holds Tryz.pinned (.plain (OpenSpec.ofChange fnExactParseBigraphSpec)) fnExactParseBigraphCard

/-- THE TIED CARD OF 'laws.FnExactMergeRoots'. -/
def fnExactMergeRootsCard : Claim7 := { stood := { row := fnExactMergeRootsRow, standIns := [], harness := (true, "39d2abf23a8102b291162174d9ff9952492da66c41382fd17a8b12bd7938fd86"), looks := true }, kinds := [], alts := [], laidByText := true, laidKinds := [.data, .pinned], laidTests := true, laidLooks := .later }
def FnExactMergeRootsCardSaid : Prop := Claim7.holds Tryz.pinned (.plain (OpenSpec.ofChange fnExactMergeRootsSpec)) fnExactMergeRootsCard

/-- THE TIED CARD OF 'laws.FnExactDiscreteOf'. -/
def fnExactDiscreteOfCard : Claim7 := { stood := { row := fnExactDiscreteOfRow, standIns := [], harness := (true, "39d2abf23a8102b291162174d9ff9952492da66c41382fd17a8b12bd7938fd86"), looks := true }, kinds := [], alts := [], laidByText := true, laidKinds := [.data, .pinned], laidTests := true, laidLooks := .later }
def FnExactDiscreteOfCardSaid : Prop := Claim7.holds Tryz.pinned (.plain (OpenSpec.ofChange fnExactDiscreteOfSpec)) fnExactDiscreteOfCard

/-- THE TIED CARD OF 'laws.FnExactBigraphText'. -/
def fnExactBigraphTextCard : Claim7 := { stood := { row := fnExactBigraphTextRow, standIns := [], harness := (true, "39d2abf23a8102b291162174d9ff9952492da66c41382fd17a8b12bd7938fd86"), looks := true }, kinds := [], alts := [], laidByText := true, laidKinds := [.data, .data, .data, .data, .pinned], laidTests := true, laidLooks := .later }
def FnExactBigraphTextCardSaid : Prop := Claim7.holds Tryz.pinned (.plain (OpenSpec.ofChange fnExactBigraphTextSpec)) fnExactBigraphTextCard

/-- THE TIED CARD OF 'laws.FnExactRenumberNodes'. -/
def fnExactRenumberNodesCard : Claim7 := { stood := { row := fnExactRenumberNodesRow, standIns := [], harness := (true, "39d2abf23a8102b291162174d9ff9952492da66c41382fd17a8b12bd7938fd86"), looks := true }, kinds := [], alts := [], laidByText := true, laidKinds := [.data, .pinned], laidTests := true, laidLooks := .later }
def FnExactRenumberNodesCardSaid : Prop := Claim7.holds Tryz.pinned (.plain (OpenSpec.ofChange fnExactRenumberNodesSpec)) fnExactRenumberNodesCard

/-- THE TIED CARD OF 'laws.FnExactComposeWirings'. -/
def fnExactComposeWiringsCard : Claim7 := { stood := { row := fnExactComposeWiringsRow, standIns := [], harness := (true, "39d2abf23a8102b291162174d9ff9952492da66c41382fd17a8b12bd7938fd86"), looks := true }, kinds := [], alts := [], laidByText := true, laidKinds := [.data, .pinned], laidTests := true, laidLooks := .later }
def FnExactComposeWiringsCardSaid : Prop := Claim7.holds Tryz.pinned (.plain (OpenSpec.ofChange fnExactComposeWiringsSpec)) fnExactComposeWiringsCard

/-- THE TIED CARD OF 'laws.FnExactAddName'. -/
def fnExactAddNameCard : Claim7 := { stood := { row := fnExactAddNameRow, standIns := [], harness := (true, "39d2abf23a8102b291162174d9ff9952492da66c41382fd17a8b12bd7938fd86"), looks := true }, kinds := [], alts := [], laidByText := true, laidKinds := [.data, .pinned], laidTests := true, laidLooks := .later }
def FnExactAddNameCardSaid : Prop := Claim7.holds Tryz.pinned (.plain (OpenSpec.ofChange fnExactAddNameSpec)) fnExactAddNameCard

/-- THE TIED CARD OF 'laws.FnExactRenameOuter'. -/
def fnExactRenameOuterCard : Claim7 := { stood := { row := fnExactRenameOuterRow, standIns := [], harness := (true, "39d2abf23a8102b291162174d9ff9952492da66c41382fd17a8b12bd7938fd86"), looks := true }, kinds := [], alts := [], laidByText := true, laidKinds := [.data, .pinned], laidTests := true, laidLooks := .later }
def FnExactRenameOuterCardSaid : Prop := Claim7.holds Tryz.pinned (.plain (OpenSpec.ofChange fnExactRenameOuterSpec)) fnExactRenameOuterCard

/-- THE SECOND FORM's CARD OF 'laws.FnExactInverseOf'. -/
def fnExactInverseOfUptoCard : Claim7 := { stood := { row := fnExactInverseOfUptoRow, standIns := [], harness := (true, "39d2abf23a8102b291162174d9ff9952492da66c41382fd17a8b12bd7938fd86"), looks := true }, kinds := [], alts := [], laidByText := true, laidKinds := [.data, .pinned], laidTests := true, laidLooks := .later }
def FnExactInverseOfUptoCardSaid : Prop := Claim7.holds Tryz.pinned (.plain (OpenSpec.upto fnExactInverseOfSpec)) fnExactInverseOfUptoCard

/-- THE SECOND FORM's CARD OF 'laws.FnExactLeanOf'. -/
def fnExactLeanOfUptoCard : Claim7 := { stood := { row := fnExactLeanOfUptoRow, standIns := [], harness := (true, "39d2abf23a8102b291162174d9ff9952492da66c41382fd17a8b12bd7938fd86"), looks := true }, kinds := [], alts := [], laidByText := true, laidKinds := [.data, .pinned], laidTests := true, laidLooks := .later }
def FnExactLeanOfUptoCardSaid : Prop := Claim7.holds Tryz.pinned (.plain (OpenSpec.upto fnExactLeanOfSpec)) fnExactLeanOfUptoCard

/-- THE SECOND FORM's CARD OF 'laws.FnExactParseBigraph'. -/
def fnExactParseBigraphUptoCard : Claim7 := { stood := { row := fnExactParseBigraphUptoRow, standIns := [], harness := (true, "39d2abf23a8102b291162174d9ff9952492da66c41382fd17a8b12bd7938fd86"), looks := true }, kinds := [], alts := [], laidByText := true, laidKinds := [.data, .data, .data, .data, .sentinel, .sentinel, .pinned], laidTests := true, laidLooks := .later }
def FnExactParseBigraphUptoCardSaid : Prop := Claim7.holds Tryz.pinned (.plain (OpenSpec.upto fnExactParseBigraphSpec)) fnExactParseBigraphUptoCard

/-- THE SECOND FORM's CARD OF 'laws.FnExactMergeRoots'. -/
def fnExactMergeRootsUptoCard : Claim7 := { stood := { row := fnExactMergeRootsUptoRow, standIns := [], harness := (true, "39d2abf23a8102b291162174d9ff9952492da66c41382fd17a8b12bd7938fd86"), looks := true }, kinds := [], alts := [], laidByText := true, laidKinds := [.data, .pinned], laidTests := true, laidLooks := .later }
def FnExactMergeRootsUptoCardSaid : Prop := Claim7.holds Tryz.pinned (.plain (OpenSpec.upto fnExactMergeRootsSpec)) fnExactMergeRootsUptoCard

/-- THE SECOND FORM's CARD OF 'laws.FnExactDiscreteOf'. -/
def fnExactDiscreteOfUptoCard : Claim7 := { stood := { row := fnExactDiscreteOfUptoRow, standIns := [], harness := (true, "39d2abf23a8102b291162174d9ff9952492da66c41382fd17a8b12bd7938fd86"), looks := true }, kinds := [], alts := [], laidByText := true, laidKinds := [.data, .pinned], laidTests := true, laidLooks := .later }
def FnExactDiscreteOfUptoCardSaid : Prop := Claim7.holds Tryz.pinned (.plain (OpenSpec.upto fnExactDiscreteOfSpec)) fnExactDiscreteOfUptoCard

/-- THE SECOND FORM's CARD OF 'laws.FnExactBigraphText'. -/
def fnExactBigraphTextUptoCard : Claim7 := { stood := { row := fnExactBigraphTextUptoRow, standIns := [], harness := (true, "39d2abf23a8102b291162174d9ff9952492da66c41382fd17a8b12bd7938fd86"), looks := true }, kinds := [], alts := [], laidByText := true, laidKinds := [.data, .data, .data, .data, .pinned], laidTests := true, laidLooks := .later }
def FnExactBigraphTextUptoCardSaid : Prop := Claim7.holds Tryz.pinned (.plain (OpenSpec.upto fnExactBigraphTextSpec)) fnExactBigraphTextUptoCard

/-- THE SECOND FORM's CARD OF 'laws.FnExactRenumberNodes'. -/
def fnExactRenumberNodesUptoCard : Claim7 := { stood := { row := fnExactRenumberNodesUptoRow, standIns := [], harness := (true, "39d2abf23a8102b291162174d9ff9952492da66c41382fd17a8b12bd7938fd86"), looks := true }, kinds := [], alts := [], laidByText := true, laidKinds := [.data, .pinned], laidTests := true, laidLooks := .later }
def FnExactRenumberNodesUptoCardSaid : Prop := Claim7.holds Tryz.pinned (.plain (OpenSpec.upto fnExactRenumberNodesSpec)) fnExactRenumberNodesUptoCard

/-- THE SECOND FORM's CARD OF 'laws.FnExactComposeWirings'. -/
def fnExactComposeWiringsUptoCard : Claim7 := { stood := { row := fnExactComposeWiringsUptoRow, standIns := [], harness := (true, "39d2abf23a8102b291162174d9ff9952492da66c41382fd17a8b12bd7938fd86"), looks := true }, kinds := [], alts := [], laidByText := true, laidKinds := [.data, .pinned], laidTests := true, laidLooks := .later }
def FnExactComposeWiringsUptoCardSaid : Prop := Claim7.holds Tryz.pinned (.plain (OpenSpec.upto fnExactComposeWiringsSpec)) fnExactComposeWiringsUptoCard

/-- THE SECOND FORM's CARD OF 'laws.FnExactAddName'. -/
def fnExactAddNameUptoCard : Claim7 := { stood := { row := fnExactAddNameUptoRow, standIns := [], harness := (true, "39d2abf23a8102b291162174d9ff9952492da66c41382fd17a8b12bd7938fd86"), looks := true }, kinds := [], alts := [], laidByText := true, laidKinds := [.data, .pinned], laidTests := true, laidLooks := .later }
def FnExactAddNameUptoCardSaid : Prop := Claim7.holds Tryz.pinned (.plain (OpenSpec.upto fnExactAddNameSpec)) fnExactAddNameUptoCard

/-- THE SECOND FORM's CARD OF 'laws.FnExactRenameOuter'. -/
def fnExactRenameOuterUptoCard : Claim7 := { stood := { row := fnExactRenameOuterUptoRow, standIns := [], harness := (true, "39d2abf23a8102b291162174d9ff9952492da66c41382fd17a8b12bd7938fd86"), looks := true }, kinds := [], alts := [], laidByText := true, laidKinds := [.data, .pinned], laidTests := true, laidLooks := .later }
def FnExactRenameOuterUptoCardSaid : Prop := Claim7.holds Tryz.pinned (.plain (OpenSpec.upto fnExactRenameOuterSpec)) fnExactRenameOuterUptoCard
end Rows
end Go.Proofs.YthbdmcobpcoajaaGreatDoor
