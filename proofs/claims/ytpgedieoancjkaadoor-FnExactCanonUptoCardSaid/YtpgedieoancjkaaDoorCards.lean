/-
  DERIVED. GIVEN WITH THE SEED: THE CARDS: each row of YtpgedieoancjkaaDoorRows.lean that lists a variable, with what it lists TIED to the program's text (the seventh form; the later family's looks); each row that meets fmt, with fmt's text TOLD by the authors' own Lean function (tested against real Go, not proved from fmt's source: count such statements apart). THE CARD IS WHAT COUNTS. Prove the row's statement (the work); the ties are given (YtpgedieoancjkaaDoorTie.lean); close each card by the builder's one call (the guide's Derived/Test/ToyasCard.lean, 'card_holds'). Laid BY PROGRAM, IN A SANDBOX (cutbox-door.mjs). By AI agents, Wed Nov 11 2026. No macro, syntax, notation, axiom, sorry.
-/
import Derived.Test.YtpgedieoancjkaaDoorRows
import GoSem.ClaimSeven
namespace Go.Proofs.YtpgedieoancjkaaDoor
namespace Rows

/-- THE TIED CARD OF 'laws.FnExactAlike'. -/
def fnExactAlikeCard : Claim7 := { stood := { row := fnExactAlikeRow, standIns := [], harness := (true, "076ea40155f62e204b5f1495d69f0c47986ed23ca997e9b51132ba9ac36c636d"), looks := false }, kinds := [], alts := [], laidByText := true, laidKinds := [.data, .data, .data], laidTests := true, laidLooks := .later }
def FnExactAlikeCardSaid : Prop := Claim7.holds Tryd.pinned (.plain (OpenSpec.ofChange fnExactAlikeSpec)) fnExactAlikeCard

/-- THE TIED CARD OF 'laws.FnExactCanon'. -/
def fnExactCanonCard : Claim7 := { stood := { row := fnExactCanonRow, standIns := [], harness := (true, "076ea40155f62e204b5f1495d69f0c47986ed23ca997e9b51132ba9ac36c636d"), looks := false }, kinds := [], alts := [], laidByText := true, laidKinds := [.data, .data, .data], laidTests := true, laidLooks := .later }
def FnExactCanonCardSaid : Prop := Claim7.holds Tryd.pinned (.plain (OpenSpec.ofChange fnExactCanonSpec)) fnExactCanonCard

/-- THE SECOND FORM's CARD OF 'laws.FnExactAlike'. -/
def fnExactAlikeUptoCard : Claim7 := { stood := { row := fnExactAlikeUptoRow, standIns := [], harness := (true, "076ea40155f62e204b5f1495d69f0c47986ed23ca997e9b51132ba9ac36c636d"), looks := false }, kinds := [], alts := [], laidByText := true, laidKinds := [.data, .data, .data], laidTests := true, laidLooks := .later }
def FnExactAlikeUptoCardSaid : Prop := Claim7.holds Tryd.pinned (.plain (OpenSpec.upto fnExactAlikeSpec)) fnExactAlikeUptoCard

/-- THE SECOND FORM's CARD OF 'laws.FnExactCanon'. -/
def fnExactCanonUptoCard : Claim7 := { stood := { row := fnExactCanonUptoRow, standIns := [], harness := (true, "076ea40155f62e204b5f1495d69f0c47986ed23ca997e9b51132ba9ac36c636d"), looks := false }, kinds := [], alts := [], laidByText := true, laidKinds := [.data, .data, .data], laidTests := true, laidLooks := .later }
def FnExactCanonUptoCardSaid : Prop := Claim7.holds Tryd.pinned (.plain (OpenSpec.upto fnExactCanonSpec)) fnExactCanonUptoCard
end Rows
end Go.Proofs.YtpgedieoancjkaaDoor
