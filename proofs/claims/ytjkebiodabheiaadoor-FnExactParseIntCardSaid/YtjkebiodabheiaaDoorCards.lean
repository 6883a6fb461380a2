/-
  DERIVED. GIVEN WITH THE SEED: THE CARDS: each row of YtjkebiodabheiaaDoorRows.lean that lists a variable, with what it lists TIED to the program's text (the seventh form; the later family's looks); each row that meets fmt, with fmt's text TOLD by the authors' own Lean function (tested against real Go, not proved from fmt's source: count such statements apart). THE CARD IS WHAT COUNTS. Prove the row's statement (the work); the ties are given (YtjkebiodabheiaaDoorTie.lean); close each card by the builder's one call (the guide's Derived/Test/ToyasCard.lean, 'card_holds'). Laid BY PROGRAM, IN A SANDBOX (cutbox-door.mjs). By AI agents, Wed Nov 11 2026. No macro, syntax, notation, axiom, sorry.
-/
import Derived.Test.YtjkebiodabheiaaDoorRows
import GoSem.ClaimSeven
namespace Go.Proofs.YtjkebiodabheiaaDoor
namespace Rows

/-- THE TIED CARD OF 'laws.FnExactFormatInt'. -/
def fnExactFormatIntCard : Claim7 := { stood := { row := fnExactFormatIntRow, standIns := [], harness := (true, "60aad8e7b5a8be822c75dde060faa4060719add19a66078e09e8d12a1c01c000"), looks := true }, kinds := [], alts := [], laidByText := true, laidKinds := [.data, .data, .data], laidTests := true, laidLooks := .later }
def FnExactFormatIntCardSaid : Prop := Claim7.holds Tryd.pinned (.plain (OpenSpec.ofChange fnExactFormatIntSpec)) fnExactFormatIntCard

/-- THE TIED CARD OF 'laws.FnExactParseInt'. -/
def fnExactParseIntCard : Claim7 := { stood := { row := fnExactParseIntRow, standIns := [], harness := (true, "60aad8e7b5a8be822c75dde060faa4060719add19a66078e09e8d12a1c01c000"), looks := true }, kinds := [], alts := [], laidByText := true, laidKinds := [.data, .data, .data, .sentinel, .sentinel], laidTests := true, laidLooks := .later }
def FnExactParseIntCardSaid : Prop := Claim7.holds Tryd.pinned (.plain (OpenSpec.ofChange fnExactParseIntSpec)) fnExactParseIntCard

/-- THE TIED CARD OF 'laws.FnExactIsIdentity'. -/
def fnExactIsIdentityCard : Claim7 := { stood := { row := fnExactIsIdentityRow, standIns := [], harness := (true, "60aad8e7b5a8be822c75dde060faa4060719add19a66078e09e8d12a1c01c000"), looks := true }, kinds := [], alts := [], laidByText := true, laidKinds := [.data, .pinned], laidTests := true, laidLooks := .later }
def FnExactIsIdentityCardSaid : Prop := Claim7.holds Tryd.pinned (.plain (OpenSpec.ofChange fnExactIsIdentitySpec)) fnExactIsIdentityCard

/-- THE TIED CARD OF 'laws.FnExactLinkParts'. -/
def fnExactLinkPartsCard : Claim7 := { stood := { row := fnExactLinkPartsRow, standIns := [], harness := (true, "60aad8e7b5a8be822c75dde060faa4060719add19a66078e09e8d12a1c01c000"), looks := true }, kinds := [], alts := [], laidByText := true, laidKinds := [.data, .pinned], laidTests := true, laidLooks := .later }
def FnExactLinkPartsCardSaid : Prop := Claim7.holds Tryd.pinned (.plain (OpenSpec.ofChange fnExactLinkPartsSpec)) fnExactLinkPartsCard

/-- THE TIED CARD OF 'laws.FnExactWiresOf'. -/
def fnExactWiresOfCard : Claim7 := { stood := { row := fnExactWiresOfRow, standIns := [], harness := (true, "60aad8e7b5a8be822c75dde060faa4060719add19a66078e09e8d12a1c01c000"), looks := true }, kinds := [], alts := [], laidByText := true, laidKinds := [.data, .pinned], laidTests := true, laidLooks := .later }
def FnExactWiresOfCardSaid : Prop := Claim7.holds Tryd.pinned (.plain (OpenSpec.ofChange fnExactWiresOfSpec)) fnExactWiresOfCard

/-- THE TIED CARD OF 'laws.FnExactShadowOf'. -/
def fnExactShadowOfCard : Claim7 := { stood := { row := fnExactShadowOfRow, standIns := [], harness := (true, "60aad8e7b5a8be822c75dde060faa4060719add19a66078e09e8d12a1c01c000"), looks := true }, kinds := [], alts := [], laidByText := true, laidKinds := [.data, .pinned], laidTests := true, laidLooks := .later }
def FnExactShadowOfCardSaid : Prop := Claim7.holds Tryd.pinned (.plain (OpenSpec.ofChange fnExactShadowOfSpec)) fnExactShadowOfCard

/-- THE TIED CARD OF 'laws.FnExactSubstitutionOf'. -/
def fnExactSubstitutionOfCard : Claim7 := { stood := { row := fnExactSubstitutionOfRow, standIns := [], harness := (true, "60aad8e7b5a8be822c75dde060faa4060719add19a66078e09e8d12a1c01c000"), looks := true }, kinds := [], alts := [], laidByText := true, laidKinds := [.data, .pinned], laidTests := true, laidLooks := .later }
def FnExactSubstitutionOfCardSaid : Prop := Claim7.holds Tryd.pinned (.plain (OpenSpec.ofChange fnExactSubstitutionOfSpec)) fnExactSubstitutionOfCard

/-- THE SECOND FORM's CARD OF 'laws.FnExactFormatInt'. -/
def fnExactFormatIntUptoCard : Claim7 := { stood := { row := fnExactFormatIntUptoRow, standIns := [], harness := (true, "60aad8e7b5a8be822c75dde060faa4060719add19a66078e09e8d12a1c01c000"), looks := true }, kinds := [], alts := [], laidByText := true, laidKinds := [.data, .data, .data], laidTests := true, laidLooks := .later }
def FnExactFormatIntUptoCardSaid : Prop := Claim7.holds Tryd.pinned (.plain (OpenSpec.upto fnExactFormatIntSpec)) fnExactFormatIntUptoCard

/-- THE SECOND FORM's CARD OF 'laws.FnExactParseInt'. -/
def fnExactParseIntUptoCard : Claim7 := { stood := { row := fnExactParseIntUptoRow, standIns := [], harness := (true, "60aad8e7b5a8be822c75dde060faa4060719add19a66078e09e8d12a1c01c000"), looks := true }, kinds := [], alts := [], laidByText := true, laidKinds := [.data, .data, .data, .sentinel, .sentinel], laidTests := true, laidLooks := .later }
def FnExactParseIntUptoCardSaid : Prop := Claim7.holds Tryd.pinned (.plain (OpenSpec.upto fnExactParseIntSpec)) fnExactParseIntUptoCard

/-- THE SECOND FORM's CARD OF 'laws.FnExactIsIdentity'. -/
def fnExactIsIdentityUptoCard : Claim7 := { stood := { row := fnExactIsIdentityUptoRow, standIns := [], harness := (true, "60aad8e7b5a8be822c75dde060faa4060719add19a66078e09e8d12a1c01c000"), looks := true }, kinds := [], alts := [], laidByText := true, laidKinds := [.data, .pinned], laidTests := true, laidLooks := .later }
def FnExactIsIdentityUptoCardSaid : Prop := Claim7.holds Tryd.pinned (.plain (OpenSpec.upto fnExactIsIdentitySpec)) fnExactIsIdentityUptoCard

/-- THE SECOND FORM's CARD OF 'laws.FnExactLinkParts'. -/
def fnExactLinkPartsUptoCard : Claim7 := { stood := { row := fnExactLinkPartsUptoRow, standIns := [], harness := (true, "60aad8e7b5a8be822c75dde060faa4060719add19a66078e09e8d12a1c01c000"), looks := true }, kinds := [], alts := [], laidByText := true, laidKinds := [.data, .pinned], laidTests := true, laidLooks := .later }
def FnExactLinkPartsUptoCardSaid : Prop := Claim7.holds Tryd.pinned (.plain (OpenSpec.upto fnExactLinkPartsSpec)) fnExactLinkPartsUptoCard

/-- THE SECOND FORM's CARD OF 'laws.FnExactWiresOf'. -/
def fnExactWiresOfUptoCard : Claim7 := { stood := { row := fnExactWiresOfUptoRow, standIns := [], harness := (true, "60aad8e7b5a8be822c75dde060faa4060719add19a66078e09e8d12a1c01c000"), looks := true }, kinds := [], alts := [], laidByText := true, laidKinds := [.data, .pinned], laidTests := true, laidLooks := .later }
def FnExactWiresOfUptoCardSaid : Prop := Claim7.holds Tryd.pinned (.plain (OpenSpec.upto fnExactWiresOfSpec)) fnExactWiresOfUptoCard

/-- THE SECOND FORM's CARD OF 'laws.FnExactShadowOf'. -/
def fnExactShadowOfUptoCard : Claim7 := { stood := { row := fnExactShadowOfUptoRow, standIns := [], harness := (true, "60aad8e7b5a8be822c75dde060faa4060719add19a66078e09e8d12a1c01c000"), looks := true }, kinds := [], alts := [], laidByText := true, laidKinds := [.data, .pinned], laidTests := true, laidLooks := .later }
def FnExactShadowOfUptoCardSaid : Prop := Claim7.holds Tryd.pinned (.plain (OpenSpec.upto fnExactShadowOfSpec)) fnExactShadowOfUptoCard

/-- THE SECOND FORM's CARD OF 'laws.FnExactSubstitutionOf'. -/
def fnExactSubstitutionOfUptoCard : Claim7 := { stood := { row := fnExactSubstitutionOfUptoRow, standIns := [], harness := (true, "60aad8e7b5a8be822c75dde060faa4060719add19a66078e09e8d12a1c01c000"), looks := true }, kinds := [], alts := [], laidByText := true, laidKinds := [.data, .pinned], laidTests := true, laidLooks := .later }
def FnExactSubstitutionOfUptoCardSaid : Prop := Claim7.holds Tryd.pinned (.plain (OpenSpec.upto fnExactSubstitutionOfSpec)) fnExactSubstitutionOfUptoCard
end Rows
end Go.Proofs.YtjkebiodabheiaaDoor
