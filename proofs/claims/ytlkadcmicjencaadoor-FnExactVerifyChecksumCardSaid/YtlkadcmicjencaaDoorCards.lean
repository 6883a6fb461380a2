/-
  DERIVED. GIVEN WITH THE SEED: THE CARDS: each row of YtlkadcmicjencaaDoorRows.lean that lists a variable, with what it lists TIED to the program's text (the seventh form; the later family's looks); each row that meets fmt, with fmt's text TOLD by the authors' own Lean function (tested against real Go, not proved from fmt's source: count such statements apart). THE CARD IS WHAT COUNTS. Prove the row's statement (the work); the ties are given (YtlkadcmicjencaaDoorTie.lean); close each card by the builder's one call (the guide's Derived/Test/ToyasCard.lean, 'card_holds'). Laid BY PROGRAM, IN A SANDBOX (cutbox-door.mjs). By AI agents, Wed Nov 11 2026. No macro, syntax, notation, axiom, sorry.
-/
import Derived.Test.YtlkadcmicjencaaDoorRows
import GoSem.ClaimSeven
namespace Go.Proofs.YtlkadcmicjencaaDoor
namespace Rows

/-- THE TIED CARD OF 'laws.FnExactAppendChecksum'. -/
def fnExactAppendChecksumCard : Claim7 := { stood := { row := fnExactAppendChecksumRow, standIns := [], harness := (true, "9635b5b6cf5f20bc666f5748635203fd9c492cdcd6fb5746e15719a477b0cc37"), looks := true }, kinds := [], alts := [], laidByText := true, laidKinds := [.data, .data, .data], laidTests := true, laidLooks := .later }
def FnExactAppendChecksumCardSaid : Prop := Claim7.holds Tryd.pinned (.plain (OpenSpec.ofChange fnExactAppendChecksumSpec)) fnExactAppendChecksumCard

/-- THE TIED CARD OF 'laws.FnExactIsSignature'. -/
def fnExactIsSignatureCard : Claim7 := { stood := { row := fnExactIsSignatureRow, standIns := [], harness := (true, "9635b5b6cf5f20bc666f5748635203fd9c492cdcd6fb5746e15719a477b0cc37"), looks := true }, kinds := [], alts := [], laidByText := true, laidKinds := [.data, .pinned], laidTests := true, laidLooks := .later }
def FnExactIsSignatureCardSaid : Prop := Claim7.holds Tryd.pinned (.plain (OpenSpec.ofChange fnExactIsSignatureSpec)) fnExactIsSignatureCard

/-- THE TIED CARD OF 'laws.FnExactVerifyChecksum'. -/
def fnExactVerifyChecksumCard : Claim7 := { stood := { row := fnExactVerifyChecksumRow, standIns := [], harness := (true, "9635b5b6cf5f20bc666f5748635203fd9c492cdcd6fb5746e15719a477b0cc37"), looks := true }, kinds := [], alts := [], laidByText := true, laidKinds := [.data, .data, .data], laidTests := true, laidLooks := .later }
def FnExactVerifyChecksumCardSaid : Prop := Claim7.holds Tryd.pinned (.plain (OpenSpec.ofChange fnExactVerifyChecksumSpec)) fnExactVerifyChecksumCard

/-- THE TIED CARD OF 'laws.FnExactParseInt'. -/
def fnExactParseIntCard : Claim7 := { stood := { row := fnExactParseIntRow, standIns := [], harness := (true, "9635b5b6cf5f20bc666f5748635203fd9c492cdcd6fb5746e15719a477b0cc37"), looks := true }, kinds := [], alts := [], laidByText := true, laidKinds := [.data, .data, .data, .sentinel, .sentinel], laidTests := true, laidLooks := .later }
def FnExactParseIntCardSaid : Prop := Claim7.holds Tryd.pinned (.plain (OpenSpec.ofChange fnExactParseIntSpec)) fnExactParseIntCard

/-- THE TIED CARD OF 'laws.FnExactClosureOf'. -/
def fnExactClosureOfCard : Claim7 := { stood := { row := fnExactClosureOfRow, standIns := [], harness := (true, "9635b5b6cf5f20bc666f5748635203fd9c492cdcd6fb5746e15719a477b0cc37"), looks := true }, kinds := [], alts := [], laidByText := true, laidKinds := [.data, .pinned], laidTests := true, laidLooks := .later }
def FnExactClosureOfCardSaid : Prop := Claim7.holds Tryd.pinned (.plain (OpenSpec.ofChange fnExactClosureOfSpec)) fnExactClosureOfCard

/-- THE TIED CARD OF 'laws.FnExactNewNames'. -/
def fnExactNewNamesCard : Claim7 := { stood := { row := fnExactNewNamesRow, standIns := [], harness := (true, "9635b5b6cf5f20bc666f5748635203fd9c492cdcd6fb5746e15719a477b0cc37"), looks := true }, kinds := [], alts := [], laidByText := true, laidKinds := [.data, .pinned], laidTests := true, laidLooks := .later }
def FnExactNewNamesCardSaid : Prop := Claim7.holds Tryd.pinned (.plain (OpenSpec.ofChange fnExactNewNamesSpec)) fnExactNewNamesCard

/-- THE TIED CARD OF 'laws.FnExactIdentityOf'. -/
def fnExactIdentityOfCard : Claim7 := { stood := { row := fnExactIdentityOfRow, standIns := [], harness := (true, "9635b5b6cf5f20bc666f5748635203fd9c492cdcd6fb5746e15719a477b0cc37"), looks := true }, kinds := [], alts := [], laidByText := true, laidKinds := [.data, .pinned], laidTests := true, laidLooks := .later }
def FnExactIdentityOfCardSaid : Prop := Claim7.holds Tryd.pinned (.plain (OpenSpec.ofChange fnExactIdentityOfSpec)) fnExactIdentityOfCard

/-- THE TIED CARD OF 'laws.FnExactIsBigraph'. -/
def fnExactIsBigraphCard : Claim7 := { stood := { row := fnExactIsBigraphRow, standIns := [], harness := (true, "9635b5b6cf5f20bc666f5748635203fd9c492cdcd6fb5746e15719a477b0cc37"), looks := true }, kinds := [], alts := [], laidByText := true, laidKinds := [.data, .pinned], laidTests := true, laidLooks := .later }
def FnExactIsBigraphCardSaid : Prop := Claim7.holds Tryd.pinned (.plain (OpenSpec.ofChange fnExactIsBigraphSpec)) fnExactIsBigraphCard

/-- THE SECOND FORM's CARD OF 'laws.FnExactAppendChecksum'. -/
def fnExactAppendChecksumUptoCard : Claim7 := { stood := { row := fnExactAppendChecksumUptoRow, standIns := [], harness := (true, "9635b5b6cf5f20bc666f5748635203fd9c492cdcd6fb5746e15719a477b0cc37"), looks := true }, kinds := [], alts := [], laidByText := true, laidKinds := [.data, .data, .data], laidTests := true, laidLooks := .later }
def FnExactAppendChecksumUptoCardSaid : Prop := Claim7.holds Tryd.pinned (.plain (OpenSpec.upto fnExactAppendChecksumSpec)) fnExactAppendChecksumUptoCard

/-- THE SECOND FORM's CARD OF 'laws.FnExactIsSignature'. -/
def fnExactIsSignatureUptoCard : Claim7 := { stood := { row := fnExactIsSignatureUptoRow, standIns := [], harness := (true, "9635b5b6cf5f20bc666f5748635203fd9c492cdcd6fb5746e15719a477b0cc37"), looks := true }, kinds := [], alts := [], laidByText := true, laidKinds := [.data, .pinned], laidTests := true, laidLooks := .later }
def FnExactIsSignatureUptoCardSaid : Prop := Claim7.holds Tryd.pinned (.plain (OpenSpec.upto fnExactIsSignatureSpec)) fnExactIsSignatureUptoCard

/-- THE SECOND FORM's CARD OF 'laws.FnExactVerifyChecksum'. -/
def fnExactVerifyChecksumUptoCard : Claim7 := { stood := { row := fnExactVerifyChecksumUptoRow, standIns := [], harness := (true, "9635b5b6cf5f20bc666f5748635203fd9c492cdcd6fb5746e15719a477b0cc37"), looks := true }, kinds := [], alts := [], laidByText := true, laidKinds := [.data, .data, .data], laidTests := true, laidLooks := .later }
def FnExactVerifyChecksumUptoCardSaid : Prop := Claim7.holds Tryd.pinned (.plain (OpenSpec.upto fnExactVerifyChecksumSpec)) fnExactVerifyChecksumUptoCard

/-- THE SECOND FORM's CARD OF 'laws.FnExactParseInt'. -/
def fnExactParseIntUptoCard : Claim7 := { stood := { row := fnExactParseIntUptoRow, standIns := [], harness := (true, "9635b5b6cf5f20bc666f5748635203fd9c492cdcd6fb5746e15719a477b0cc37"), looks := true }, kinds := [], alts := [], laidByText := true, laidKinds := [.data, .data, .data, .sentinel, .sentinel], laidTests := true, laidLooks := .later }
def FnExactParseIntUptoCardSaid : Prop := Claim7.holds Tryd.pinned (.plain (OpenSpec.upto fnExactParseIntSpec)) fnExactParseIntUptoCard

/-- THE SECOND FORM's CARD OF 'laws.FnExactClosureOf'. -/
def fnExactClosureOfUptoCard : Claim7 := { stood := { row := fnExactClosureOfUptoRow, standIns := [], harness := (true, "9635b5b6cf5f20bc666f5748635203fd9c492cdcd6fb5746e15719a477b0cc37"), looks := true }, kinds := [], alts := [], laidByText := true, laidKinds := [.data, .pinned], laidTests := true, laidLooks := .later }
def FnExactClosureOfUptoCardSaid : Prop := Claim7.holds Tryd.pinned (.plain (OpenSpec.upto fnExactClosureOfSpec)) fnExactClosureOfUptoCard

/-- THE SECOND FORM's CARD OF 'laws.FnExactNewNames'. -/
def fnExactNewNamesUptoCard : Claim7 := { stood := { row := fnExactNewNamesUptoRow, standIns := [], harness := (true, "9635b5b6cf5f20bc666f5748635203fd9c492cdcd6fb5746e15719a477b0cc37"), looks := true }, kinds := [], alts := [], laidByText := true, laidKinds := [.data, .pinned], laidTests := true, laidLooks := .later }
def FnExactNewNamesUptoCardSaid : Prop := Claim7.holds Tryd.pinned (.plain (OpenSpec.upto fnExactNewNamesSpec)) fnExactNewNamesUptoCard

/-- THE SECOND FORM's CARD OF 'laws.FnExactIdentityOf'. -/
def fnExactIdentityOfUptoCard : Claim7 := { stood := { row := fnExactIdentityOfUptoRow, standIns := [], harness := (true, "9635b5b6cf5f20bc666f5748635203fd9c492cdcd6fb5746e15719a477b0cc37"), looks := true }, kinds := [], alts := [], laidByText := true, laidKinds := [.data, .pinned], laidTests := true, laidLooks := .later }
def FnExactIdentityOfUptoCardSaid : Prop := Claim7.holds Tryd.pinned (.plain (OpenSpec.upto fnExactIdentityOfSpec)) fnExactIdentityOfUptoCard

/-- THE SECOND FORM's CARD OF 'laws.FnExactIsBigraph'. -/
def fnExactIsBigraphUptoCard : Claim7 := { stood := { row := fnExactIsBigraphUptoRow, standIns := [], harness := (true, "9635b5b6cf5f20bc666f5748635203fd9c492cdcd6fb5746e15719a477b0cc37"), looks := true }, kinds := [], alts := [], laidByText := true, laidKinds := [.data, .pinned], laidTests := true, laidLooks := .later }
def FnExactIsBigraphUptoCardSaid : Prop := Claim7.holds Tryd.pinned (.plain (OpenSpec.upto fnExactIsBigraphSpec)) fnExactIsBigraphUptoCard
end Rows
end Go.Proofs.YtlkadcmicjencaaDoor
