/-
  DERIVED. GIVEN WITH THE SEED: THE CARDS: each row of YtahdigojpapcdaaGreatDoorRows.lean that lists a variable, with what it lists TIED to the program's text (the seventh form; the later family's looks); each row that meets fmt, with fmt's text TOLD by the authors' own Lean function (tested against real Go, not proved from fmt's source: count such statements apart). THE CARD IS WHAT COUNTS. Prove the row's statement (the work); the ties are given (YtahdigojpapcdaaGreatDoorTie.lean); close each card by the builder's one call (the guide's Derived/Test/ToyasCard.lean, 'card_holds'). Laid BY PROGRAM, IN A SANDBOX (cutbox-door.mjs). By AI agents, Wed Nov 11 2026. No macro, syntax, notation, axiom, sorry.
-/
import Derived.Test.YtahdigojpapcdaaGreatDoorRows
import GoSem.ClaimSeven
namespace Go.Proofs.YtahdigojpapcdaaGreatDoor
namespace Rows

/-- THE TIED CARD OF 'laws.FnExactDbShape'. -/
def fnExactDbShapeCard : Claim7 := { stood := { row := fnExactDbShapeRow, standIns := [], harness := (true, "45bd3f70a33b1395e27c467c03f4b5fd3f4462d413cf0cdf805d0b8ff0c81090"), looks := true }, kinds := [], alts := [], laidByText := true, laidKinds := [.data, .data, .data, .sentinel, .sentinel], laidTests := true, laidLooks := .later }
def FnExactDbShapeCardSaid : Prop := Claim7.holds Tryz.pinned (.plain (OpenSpec.ofChange fnExactDbShapeSpec)) fnExactDbShapeCard

/-- THE TIED CARD OF 'laws.FnExactChanges'. -/
def fnExactChangesCard : Claim7 := { stood := { row := fnExactChangesRow, standIns := [], harness := (true, "45bd3f70a33b1395e27c467c03f4b5fd3f4462d413cf0cdf805d0b8ff0c81090"), looks := true }, kinds := [], alts := [], laidByText := true, laidKinds := [.data, .data, .data, .sentinel, .sentinel], laidTests := true, laidLooks := .later }
def FnExactChangesCardSaid : Prop := Claim7.holds Tryz.pinned (.plain (OpenSpec.ofChange fnExactChangesSpec)) fnExactChangesCard

/-- THE TIED CARD OF 'laws.FnExactApply'. -/
def fnExactApplyCard : Claim7 := { stood := { row := fnExactApplyRow, standIns := [], harness := (true, "45bd3f70a33b1395e27c467c03f4b5fd3f4462d413cf0cdf805d0b8ff0c81090"), looks := true }, kinds := [], alts := [], laidByText := true, laidKinds := [.data, .data, .data, .sentinel, .sentinel], laidTests := true, laidLooks := .later }
def FnExactApplyCardSaid : Prop := Claim7.holds Tryz.pinned (.plain (OpenSpec.ofChange fnExactApplySpec)) fnExactApplyCard

/-- THE TIED CARD OF 'laws.FnExactCountBy'. -/
def fnExactCountByCard : Claim7 := { stood := { row := fnExactCountByRow, standIns := [], harness := (true, "45bd3f70a33b1395e27c467c03f4b5fd3f4462d413cf0cdf805d0b8ff0c81090"), looks := true }, kinds := [], alts := [], laidByText := true, laidKinds := [.data, .data, .data, .sentinel, .sentinel], laidTests := true, laidLooks := .later }
def FnExactCountByCardSaid : Prop := Claim7.holds Tryz.pinned (.plain (OpenSpec.ofChange fnExactCountBySpec)) fnExactCountByCard

/-- THE TIED CARD OF 'laws.FnExactGreatestBy'. -/
def fnExactGreatestByCard : Claim7 := { stood := { row := fnExactGreatestByRow, standIns := [], harness := (true, "45bd3f70a33b1395e27c467c03f4b5fd3f4462d413cf0cdf805d0b8ff0c81090"), looks := true }, kinds := [], alts := [], laidByText := true, laidKinds := [.data, .data, .data, .sentinel, .sentinel], laidTests := true, laidLooks := .later }
def FnExactGreatestByCardSaid : Prop := Claim7.holds Tryz.pinned (.plain (OpenSpec.ofChange fnExactGreatestBySpec)) fnExactGreatestByCard

/-- THE TIED CARD OF 'laws.FnExactLeastBy'. -/
def fnExactLeastByCard : Claim7 := { stood := { row := fnExactLeastByRow, standIns := [], harness := (true, "45bd3f70a33b1395e27c467c03f4b5fd3f4462d413cf0cdf805d0b8ff0c81090"), looks := true }, kinds := [], alts := [], laidByText := true, laidKinds := [.data, .data, .data, .sentinel, .sentinel], laidTests := true, laidLooks := .later }
def FnExactLeastByCardSaid : Prop := Claim7.holds Tryz.pinned (.plain (OpenSpec.ofChange fnExactLeastBySpec)) fnExactLeastByCard

/-- THE TIED CARD OF 'laws.FnExactGroupsOf'. -/
def fnExactGroupsOfCard : Claim7 := { stood := { row := fnExactGroupsOfRow, standIns := [], harness := (true, "45bd3f70a33b1395e27c467c03f4b5fd3f4462d413cf0cdf805d0b8ff0c81090"), looks := true }, kinds := [], alts := [], laidByText := true, laidKinds := [.data, .data, .data, .sentinel, .sentinel], laidTests := true, laidLooks := .later }
def FnExactGroupsOfCardSaid : Prop := Claim7.holds Tryz.pinned (.plain (OpenSpec.ofChange fnExactGroupsOfSpec)) fnExactGroupsOfCard

/-- THE TIED CARD OF 'laws.FnExactSumBy'. -/
def fnExactSumByCard : Claim7 := { stood := { row := fnExactSumByRow, standIns := [], harness := (true, "45bd3f70a33b1395e27c467c03f4b5fd3f4462d413cf0cdf805d0b8ff0c81090"), looks := true }, kinds := [], alts := [], laidByText := true, laidKinds := [.data, .data, .data, .sentinel, .sentinel], laidTests := true, laidLooks := .later }
def FnExactSumByCardSaid : Prop := Claim7.holds Tryz.pinned (.plain (OpenSpec.ofChange fnExactSumBySpec)) fnExactSumByCard

/-- THE SECOND FORM's CARD OF 'laws.FnExactDbShape'. -/
def fnExactDbShapeUptoCard : Claim7 := { stood := { row := fnExactDbShapeUptoRow, standIns := [], harness := (true, "45bd3f70a33b1395e27c467c03f4b5fd3f4462d413cf0cdf805d0b8ff0c81090"), looks := true }, kinds := [], alts := [], laidByText := true, laidKinds := [.data, .data, .data, .sentinel, .sentinel], laidTests := true, laidLooks := .later }
def FnExactDbShapeUptoCardSaid : Prop := Claim7.holds Tryz.pinned (.plain (OpenSpec.upto fnExactDbShapeSpec)) fnExactDbShapeUptoCard

/-- THE SECOND FORM's CARD OF 'laws.FnExactChanges'. -/
def fnExactChangesUptoCard : Claim7 := { stood := { row := fnExactChangesUptoRow, standIns := [], harness := (true, "45bd3f70a33b1395e27c467c03f4b5fd3f4462d413cf0cdf805d0b8ff0c81090"), looks := true }, kinds := [], alts := [], laidByText := true, laidKinds := [.data, .data, .data, .sentinel, .sentinel], laidTests := true, laidLooks := .later }
def FnExactChangesUptoCardSaid : Prop := Claim7.holds Tryz.pinned (.plain (OpenSpec.upto fnExactChangesSpec)) fnExactChangesUptoCard

/-- THE SECOND FORM's CARD OF 'laws.FnExactApply'. -/
def fnExactApplyUptoCard : Claim7 := { stood := { row := fnExactApplyUptoRow, standIns := [], harness := (true, "45bd3f70a33b1395e27c467c03f4b5fd3f4462d413cf0cdf805d0b8ff0c81090"), looks := true }, kinds := [], alts := [], laidByText := true, laidKinds := [.data, .data, .data, .sentinel, .sentinel], laidTests := true, laidLooks := .later }
def FnExactApplyUptoCardSaid : Prop := Claim7.holds Tryz.pinned (.plain (OpenSpec.upto fnExactApplySpec)) fnExactApplyUptoCard

/-- THE SECOND FORM's CARD OF 'laws.FnExactCountBy'. -/
def fnExactCountByUptoCard : Claim7 := { stood := { row := fnExactCountByUptoRow, standIns := [], harness := (true, "45bd3f70a33b1395e27c467c03f4b5fd3f4462d413cf0cdf805d0b8ff0c81090"), looks := true }, kinds := [], alts := [], laidByText := true, laidKinds := [.data, .data, .data, .sentinel, .sentinel], laidTests := true, laidLooks := .later }
def FnExactCountByUptoCardSaid : Prop := Claim7.holds Tryz.pinned (.plain (OpenSpec.upto fnExactCountBySpec)) fnExactCountByUptoCard

/-- THE SECOND FORM's CARD OF 'laws.FnExactGreatestBy'. -/
def fnExactGreatestByUptoCard : Claim7 := { stood := { row := fnExactGreatestByUptoRow, standIns := [], harness := (true, "45bd3f70a33b1395e27c467c03f4b5fd3f4462d413cf0cdf805d0b8ff0c81090"), looks := true }, kinds := [], alts := [], laidByText := true, laidKinds := [.data, .data, .data, .sentinel, .sentinel], laidTests := true, laidLooks := .later }
def FnExactGreatestByUptoCardSaid : Prop := Claim7.holds Tryz.pinned (.plain (OpenSpec.upto fnExactGreatestBySpec)) fnExactGreatestByUptoCard

/-- THE SECOND FORM's CARD OF 'laws.FnExactLeastBy'. -/
def fnExactLeastByUptoCard : Claim7 := { stood := { row := fnExactLeastByUptoRow, standIns := [], harness := (true, "45bd3f70a33b1395e27c467c03f4b5fd3f4462d413cf0cdf805d0b8ff0c81090"), looks := true }, kinds := [], alts := [], laidByText := true, laidKinds := [.data, .data, .data, .sentinel, .sentinel], laidTests := true, laidLooks := .later }
def FnExactLeastByUptoCardSaid : Prop := Claim7.holds Tryz.pinned (.plain (OpenSpec.upto fnExactLeastBySpec)) fnExactLeastByUptoCard

/-- THE SECOND FORM's CARD OF 'laws.FnExactGroupsOf'. -/
def fnExactGroupsOfUptoCard : Claim7 := { stood := { row := fnExactGroupsOfUptoRow, standIns := [], harness := (true, "45bd3f70a33b1395e27c467c03f4b5fd3f4462d413cf0cdf805d0b8ff0c81090"), looks := true }, kinds := [], alts := [], laidByText := true, laidKinds := [.data, .data, .data, .sentinel, .sentinel], laidTests := true, laidLooks := .later }
def FnExactGroupsOfUptoCardSaid : Prop := Claim7.holds Tryz.pinned (.plain (OpenSpec.upto fnExactGroupsOfSpec)) fnExactGroupsOfUptoCard

/-- THE SECOND FORM's CARD OF 'laws.FnExactSumBy'. -/
def fnExactSumByUptoCard : Claim7 := { stood := { row := fnExactSumByUptoRow, standIns := [], harness := (true, "45bd3f70a33b1395e27c467c03f4b5fd3f4462d413cf0cdf805d0b8ff0c81090"), looks := true }, kinds := [], alts := [], laidByText := true, laidKinds := [.data, .data, .data, .sentinel, .sentinel], laidTests := true, laidLooks := .later }
def FnExactSumByUptoCardSaid : Prop := Claim7.holds Tryz.pinned (.plain (OpenSpec.upto fnExactSumBySpec)) fnExactSumByUptoCard
end Rows
end Go.Proofs.YtahdigojpapcdaaGreatDoor
