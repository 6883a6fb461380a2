/-
  DERIVED. GIVEN WITH THE SEED: THE CARDS: each row of YtanndcclkmcfbaaDoorRows.lean that lists a variable, with what it lists TIED to the program's text (the seventh form; the later family's looks); each row that meets fmt, with fmt's text TOLD by the authors' own Lean function (tested against real Go, not proved from fmt's source: count such statements apart). THE CARD IS WHAT COUNTS. Prove the row's statement (the work); the ties are given (YtanndcclkmcfbaaDoorTie.lean); close each card by the builder's one call (the guide's Derived/Test/ToyasCard.lean, 'card_holds'). Laid BY PROGRAM, IN A SANDBOX (cutbox-door.mjs). By AI agents, Wed Nov 11 2026. No macro, syntax, notation, axiom, sorry.
-/
import Derived.Test.YtanndcclkmcfbaaDoorRows
import GoSem.ClaimSeven
namespace Go.Proofs.YtanndcclkmcfbaaDoor
namespace Rows

/-- THE TIED CARD OF 'laws.FnExactAtomOf'. -/
def fnExactAtomOfCard : Claim7 := { stood := { row := fnExactAtomOfRow, standIns := [], harness := (true, "4bb27d738cf862eb8cd87e62a42459169aa9c66eee86dcc3aee1140f35bf6bca"), looks := false }, kinds := [], alts := [], laidByText := true, laidKinds := [.data, .pinned], laidTests := true, laidLooks := .later }
def FnExactAtomOfCardSaid : Prop := Claim7.holds Tryd.pinned (.plain (OpenSpec.ofChange fnExactAtomOfSpec)) fnExactAtomOfCard

/-- THE TIED CARD OF 'laws.FnExactIonOf'. -/
def fnExactIonOfCard : Claim7 := { stood := { row := fnExactIonOfRow, standIns := [], harness := (true, "4bb27d738cf862eb8cd87e62a42459169aa9c66eee86dcc3aee1140f35bf6bca"), looks := false }, kinds := [], alts := [], laidByText := true, laidKinds := [.data, .pinned], laidTests := true, laidLooks := .later }
def FnExactIonOfCardSaid : Prop := Claim7.holds Tryd.pinned (.plain (OpenSpec.ofChange fnExactIonOfSpec)) fnExactIonOfCard

/-- THE SECOND FORM's CARD OF 'laws.FnExactAtomOf'. -/
def fnExactAtomOfUptoCard : Claim7 := { stood := { row := fnExactAtomOfUptoRow, standIns := [], harness := (true, "4bb27d738cf862eb8cd87e62a42459169aa9c66eee86dcc3aee1140f35bf6bca"), looks := false }, kinds := [], alts := [], laidByText := true, laidKinds := [.data, .pinned], laidTests := true, laidLooks := .later }
def FnExactAtomOfUptoCardSaid : Prop := Claim7.holds Tryd.pinned (.plain (OpenSpec.upto fnExactAtomOfSpec)) fnExactAtomOfUptoCard

/-- THE SECOND FORM's CARD OF 'laws.FnExactIonOf'. -/
def fnExactIonOfUptoCard : Claim7 := { stood := { row := fnExactIonOfUptoRow, standIns := [], harness := (true, "4bb27d738cf862eb8cd87e62a42459169aa9c66eee86dcc3aee1140f35bf6bca"), looks := false }, kinds := [], alts := [], laidByText := true, laidKinds := [.data, .pinned], laidTests := true, laidLooks := .later }
def FnExactIonOfUptoCardSaid : Prop := Claim7.holds Tryd.pinned (.plain (OpenSpec.upto fnExactIonOfSpec)) fnExactIonOfUptoCard
end Rows
end Go.Proofs.YtanndcclkmcfbaaDoor
