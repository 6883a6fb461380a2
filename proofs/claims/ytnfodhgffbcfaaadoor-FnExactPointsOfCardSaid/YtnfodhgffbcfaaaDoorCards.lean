/-
  DERIVED. GIVEN WITH THE SEED: THE CARDS: each row of YtnfodhgffbcfaaaDoorRows.lean that lists a variable, with what it lists TIED to the program's text (the seventh form; the later family's looks); each row that meets fmt, with fmt's text TOLD by the authors' own Lean function (tested against real Go, not proved from fmt's source: count such statements apart). THE CARD IS WHAT COUNTS. Prove the row's statement (the work); the ties are given (YtnfodhgffbcfaaaDoorTie.lean); close each card by the builder's one call (the guide's Derived/Test/ToyasCard.lean, 'card_holds'). Laid BY PROGRAM, IN A SANDBOX (cutbox-door.mjs). By AI agents, Wed Nov 11 2026. No macro, syntax, notation, axiom, sorry.
-/
import Derived.Test.YtnfodhgffbcfaaaDoorRows
import GoSem.ClaimSeven
namespace Go.Proofs.YtnfodhgffbcfaaaDoor
namespace Rows

/-- THE TIED CARD OF 'laws.FnExactFormatInt'. -/
def fnExactFormatIntCard : Claim7 := { stood := { row := fnExactFormatIntRow, standIns := [], harness := (true, "7502f269ca6e0b758f013477be2934c35329ec8a5aa4e518fb6eeaee3d08366f"), looks := false }, kinds := [], alts := [], laidByText := true, laidKinds := [.data, .data, .data], laidTests := true, laidLooks := .later }
def FnExactFormatIntCardSaid : Prop := Claim7.holds Tryd.pinned (.plain (OpenSpec.ofChange fnExactFormatIntSpec)) fnExactFormatIntCard

/-- THE TIED CARD OF 'laws.FnExactCountControls'. -/
def fnExactCountControlsCard : Claim7 := { stood := { row := fnExactCountControlsRow, standIns := [], harness := (true, "7502f269ca6e0b758f013477be2934c35329ec8a5aa4e518fb6eeaee3d08366f"), looks := false }, kinds := [], alts := [], laidByText := true, laidKinds := [.data, .pinned], laidTests := true, laidLooks := .later }
def FnExactCountControlsCardSaid : Prop := Claim7.holds Tryd.pinned (.plain (OpenSpec.ofChange fnExactCountControlsSpec)) fnExactCountControlsCard

/-- THE TIED CARD OF 'laws.FnExactIsIdentity'. -/
def fnExactIsIdentityCard : Claim7 := { stood := { row := fnExactIsIdentityRow, standIns := [], harness := (true, "7502f269ca6e0b758f013477be2934c35329ec8a5aa4e518fb6eeaee3d08366f"), looks := false }, kinds := [], alts := [], laidByText := true, laidKinds := [.data, .pinned], laidTests := true, laidLooks := .later }
def FnExactIsIdentityCardSaid : Prop := Claim7.holds Tryd.pinned (.plain (OpenSpec.ofChange fnExactIsIdentitySpec)) fnExactIsIdentityCard

/-- THE TIED CARD OF 'laws.FnExactChildrenOf'. -/
def fnExactChildrenOfCard : Claim7 := { stood := { row := fnExactChildrenOfRow, standIns := [], harness := (true, "7502f269ca6e0b758f013477be2934c35329ec8a5aa4e518fb6eeaee3d08366f"), looks := false }, kinds := [], alts := [], laidByText := true, laidKinds := [.data, .pinned], laidTests := true, laidLooks := .later }
def FnExactChildrenOfCardSaid : Prop := Claim7.holds Tryd.pinned (.plain (OpenSpec.ofChange fnExactChildrenOfSpec)) fnExactChildrenOfCard

/-- THE TIED CARD OF 'laws.FnExactLinkParts'. -/
def fnExactLinkPartsCard : Claim7 := { stood := { row := fnExactLinkPartsRow, standIns := [], harness := (true, "7502f269ca6e0b758f013477be2934c35329ec8a5aa4e518fb6eeaee3d08366f"), looks := false }, kinds := [], alts := [], laidByText := true, laidKinds := [.data, .pinned], laidTests := true, laidLooks := .later }
def FnExactLinkPartsCardSaid : Prop := Claim7.holds Tryd.pinned (.plain (OpenSpec.ofChange fnExactLinkPartsSpec)) fnExactLinkPartsCard

/-- THE TIED CARD OF 'laws.FnExactIdleLinks'. -/
def fnExactIdleLinksCard : Claim7 := { stood := { row := fnExactIdleLinksRow, standIns := [], harness := (true, "7502f269ca6e0b758f013477be2934c35329ec8a5aa4e518fb6eeaee3d08366f"), looks := false }, kinds := [], alts := [], laidByText := true, laidKinds := [.data, .pinned], laidTests := true, laidLooks := .later }
def FnExactIdleLinksCardSaid : Prop := Claim7.holds Tryd.pinned (.plain (OpenSpec.ofChange fnExactIdleLinksSpec)) fnExactIdleLinksCard

/-- THE TIED CARD OF 'laws.FnExactWiresOf'. -/
def fnExactWiresOfCard : Claim7 := { stood := { row := fnExactWiresOfRow, standIns := [], harness := (true, "7502f269ca6e0b758f013477be2934c35329ec8a5aa4e518fb6eeaee3d08366f"), looks := false }, kinds := [], alts := [], laidByText := true, laidKinds := [.data, .pinned], laidTests := true, laidLooks := .later }
def FnExactWiresOfCardSaid : Prop := Claim7.holds Tryd.pinned (.plain (OpenSpec.ofChange fnExactWiresOfSpec)) fnExactWiresOfCard

/-- THE TIED CARD OF 'laws.FnExactPointsOf'. -/
def fnExactPointsOfCard : Claim7 := { stood := { row := fnExactPointsOfRow, standIns := [], harness := (true, "7502f269ca6e0b758f013477be2934c35329ec8a5aa4e518fb6eeaee3d08366f"), looks := false }, kinds := [], alts := [], laidByText := true, laidKinds := [.data, .pinned], laidTests := true, laidLooks := .later }
def FnExactPointsOfCardSaid : Prop := Claim7.holds Tryd.pinned (.plain (OpenSpec.ofChange fnExactPointsOfSpec)) fnExactPointsOfCard

/-- THE TIED CARD OF 'laws.FnExactShadowOf'. -/
def fnExactShadowOfCard : Claim7 := { stood := { row := fnExactShadowOfRow, standIns := [], harness := (true, "7502f269ca6e0b758f013477be2934c35329ec8a5aa4e518fb6eeaee3d08366f"), looks := false }, kinds := [], alts := [], laidByText := true, laidKinds := [.data, .pinned], laidTests := true, laidLooks := .later }
def FnExactShadowOfCardSaid : Prop := Claim7.holds Tryd.pinned (.plain (OpenSpec.ofChange fnExactShadowOfSpec)) fnExactShadowOfCard

/-- THE SECOND FORM's CARD OF 'laws.FnExactFormatInt'. -/
def fnExactFormatIntUptoCard : Claim7 := { stood := { row := fnExactFormatIntUptoRow, standIns := [], harness := (true, "7502f269ca6e0b758f013477be2934c35329ec8a5aa4e518fb6eeaee3d08366f"), looks := false }, kinds := [], alts := [], laidByText := true, laidKinds := [.data, .data, .data], laidTests := true, laidLooks := .later }
def FnExactFormatIntUptoCardSaid : Prop := Claim7.holds Tryd.pinned (.plain (OpenSpec.upto fnExactFormatIntSpec)) fnExactFormatIntUptoCard

/-- THE SECOND FORM's CARD OF 'laws.FnExactCountControls'. -/
def fnExactCountControlsUptoCard : Claim7 := { stood := { row := fnExactCountControlsUptoRow, standIns := [], harness := (true, "7502f269ca6e0b758f013477be2934c35329ec8a5aa4e518fb6eeaee3d08366f"), looks := false }, kinds := [], alts := [], laidByText := true, laidKinds := [.data, .pinned], laidTests := true, laidLooks := .later }
def FnExactCountControlsUptoCardSaid : Prop := Claim7.holds Tryd.pinned (.plain (OpenSpec.upto fnExactCountControlsSpec)) fnExactCountControlsUptoCard

/-- THE SECOND FORM's CARD OF 'laws.FnExactIsIdentity'. -/
def fnExactIsIdentityUptoCard : Claim7 := { stood := { row := fnExactIsIdentityUptoRow, standIns := [], harness := (true, "7502f269ca6e0b758f013477be2934c35329ec8a5aa4e518fb6eeaee3d08366f"), looks := false }, kinds := [], alts := [], laidByText := true, laidKinds := [.data, .pinned], laidTests := true, laidLooks := .later }
def FnExactIsIdentityUptoCardSaid : Prop := Claim7.holds Tryd.pinned (.plain (OpenSpec.upto fnExactIsIdentitySpec)) fnExactIsIdentityUptoCard

/-- THE SECOND FORM's CARD OF 'laws.FnExactChildrenOf'. -/
def fnExactChildrenOfUptoCard : Claim7 := { stood := { row := fnExactChildrenOfUptoRow, standIns := [], harness := (true, "7502f269ca6e0b758f013477be2934c35329ec8a5aa4e518fb6eeaee3d08366f"), looks := false }, kinds := [], alts := [], laidByText := true, laidKinds := [.data, .pinned], laidTests := true, laidLooks := .later }
def FnExactChildrenOfUptoCardSaid : Prop := Claim7.holds Tryd.pinned (.plain (OpenSpec.upto fnExactChildrenOfSpec)) fnExactChildrenOfUptoCard

/-- THE SECOND FORM's CARD OF 'laws.FnExactLinkParts'. -/
def fnExactLinkPartsUptoCard : Claim7 := { stood := { row := fnExactLinkPartsUptoRow, standIns := [], harness := (true, "7502f269ca6e0b758f013477be2934c35329ec8a5aa4e518fb6eeaee3d08366f"), looks := false }, kinds := [], alts := [], laidByText := true, laidKinds := [.data, .pinned], laidTests := true, laidLooks := .later }
def FnExactLinkPartsUptoCardSaid : Prop := Claim7.holds Tryd.pinned (.plain (OpenSpec.upto fnExactLinkPartsSpec)) fnExactLinkPartsUptoCard

/-- THE SECOND FORM's CARD OF 'laws.FnExactIdleLinks'. -/
def fnExactIdleLinksUptoCard : Claim7 := { stood := { row := fnExactIdleLinksUptoRow, standIns := [], harness := (true, "7502f269ca6e0b758f013477be2934c35329ec8a5aa4e518fb6eeaee3d08366f"), looks := false }, kinds := [], alts := [], laidByText := true, laidKinds := [.data, .pinned], laidTests := true, laidLooks := .later }
def FnExactIdleLinksUptoCardSaid : Prop := Claim7.holds Tryd.pinned (.plain (OpenSpec.upto fnExactIdleLinksSpec)) fnExactIdleLinksUptoCard

/-- THE SECOND FORM's CARD OF 'laws.FnExactWiresOf'. -/
def fnExactWiresOfUptoCard : Claim7 := { stood := { row := fnExactWiresOfUptoRow, standIns := [], harness := (true, "7502f269ca6e0b758f013477be2934c35329ec8a5aa4e518fb6eeaee3d08366f"), looks := false }, kinds := [], alts := [], laidByText := true, laidKinds := [.data, .pinned], laidTests := true, laidLooks := .later }
def FnExactWiresOfUptoCardSaid : Prop := Claim7.holds Tryd.pinned (.plain (OpenSpec.upto fnExactWiresOfSpec)) fnExactWiresOfUptoCard

/-- THE SECOND FORM's CARD OF 'laws.FnExactPointsOf'. -/
def fnExactPointsOfUptoCard : Claim7 := { stood := { row := fnExactPointsOfUptoRow, standIns := [], harness := (true, "7502f269ca6e0b758f013477be2934c35329ec8a5aa4e518fb6eeaee3d08366f"), looks := false }, kinds := [], alts := [], laidByText := true, laidKinds := [.data, .pinned], laidTests := true, laidLooks := .later }
def FnExactPointsOfUptoCardSaid : Prop := Claim7.holds Tryd.pinned (.plain (OpenSpec.upto fnExactPointsOfSpec)) fnExactPointsOfUptoCard

/-- THE SECOND FORM's CARD OF 'laws.FnExactShadowOf'. -/
def fnExactShadowOfUptoCard : Claim7 := { stood := { row := fnExactShadowOfUptoRow, standIns := [], harness := (true, "7502f269ca6e0b758f013477be2934c35329ec8a5aa4e518fb6eeaee3d08366f"), looks := false }, kinds := [], alts := [], laidByText := true, laidKinds := [.data, .pinned], laidTests := true, laidLooks := .later }
def FnExactShadowOfUptoCardSaid : Prop := Claim7.holds Tryd.pinned (.plain (OpenSpec.upto fnExactShadowOfSpec)) fnExactShadowOfUptoCard
end Rows
end Go.Proofs.YtnfodhgffbcfaaaDoor
