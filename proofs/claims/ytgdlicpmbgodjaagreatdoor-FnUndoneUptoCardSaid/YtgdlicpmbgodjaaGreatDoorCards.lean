/-
  DERIVED. GIVEN WITH THE SEED: THE CARDS: each row of YtgdlicpmbgodjaaGreatDoorRows.lean that lists a variable, with what it lists TIED to the program's text (the seventh form; the later family's looks); each row that meets fmt, with fmt's text TOLD by the authors' own Lean function (tested against real Go, not proved from fmt's source: count such statements apart). THE CARD IS WHAT COUNTS. Prove the row's statement (the work); the ties are given (YtgdlicpmbgodjaaGreatDoorTie.lean); close each card by the builder's one call (the guide's Derived/Test/ToyasCard.lean, 'card_holds'). Laid BY PROGRAM, IN A SANDBOX (cutbox-door.mjs). By AI agents, Wed Nov 11 2026. No macro, syntax, notation, axiom, sorry.
-/
import Derived.Test.YtgdlicpmbgodjaaGreatDoorRows
import GoSem.ClaimSeven
namespace Go.Proofs.YtgdlicpmbgodjaaGreatDoor
namespace Rows

/-- THE TIED CARD OF 'laws.FnExactChanges'. -/
def fnExactChangesCard : Claim7 := { stood := { row := fnExactChangesRow, standIns := [], harness := (true, "8fa31b67ca6353a18bb4b1addafb72a2d465b489746253dbaf7afb7f328c277a"), looks := true }, kinds := [], alts := [], laidByText := true, laidKinds := [.data, .data, .data, .sentinel, .sentinel], laidTests := true, laidLooks := .later }
def FnExactChangesCardSaid : Prop := Claim7.holds Tryz.pinned (.plain (OpenSpec.ofChange fnExactChangesSpec)) fnExactChangesCard

/-- THE TIED CARD OF 'laws.FnUndone'. -/
def fnUndoneCard : Claim7 := { stood := { row := fnUndoneRow, standIns := [], harness := (true, "8fa31b67ca6353a18bb4b1addafb72a2d465b489746253dbaf7afb7f328c277a"), looks := true }, kinds := [], alts := [], laidByText := true, laidKinds := [.data, .data, .data, .sentinel, .sentinel], laidTests := true, laidLooks := .later }
def FnUndoneCardSaid : Prop := Claim7.holds Tryz.pinned (.plain (OpenSpec.ofChange fnUndoneSpec)) fnUndoneCard

/-- THE TIED CARD OF 'laws.FnChanged'. -/
def fnChangedCard : Claim7 := { stood := { row := fnChangedRow, standIns := [], harness := (true, "8fa31b67ca6353a18bb4b1addafb72a2d465b489746253dbaf7afb7f328c277a"), looks := true }, kinds := [], alts := [], laidByText := true, laidKinds := [.data, .data, .data, .sentinel, .sentinel], laidTests := true, laidLooks := .later }
def FnChangedCardSaid : Prop := Claim7.holds Tryz.pinned (.plain (OpenSpec.ofChange fnChangedSpec)) fnChangedCard

/-- THE TIED CARD OF 'laws.FnExactApply'. -/
def fnExactApplyCard : Claim7 := { stood := { row := fnExactApplyRow, standIns := [], harness := (true, "8fa31b67ca6353a18bb4b1addafb72a2d465b489746253dbaf7afb7f328c277a"), looks := true }, kinds := [], alts := [], laidByText := true, laidKinds := [.data, .data, .data, .sentinel, .sentinel], laidTests := true, laidLooks := .later }
def FnExactApplyCardSaid : Prop := Claim7.holds Tryz.pinned (.plain (OpenSpec.ofChange fnExactApplySpec)) fnExactApplyCard

/-- THE TIED CARD OF 'laws.FnExactCountBy'. -/
def fnExactCountByCard : Claim7 := { stood := { row := fnExactCountByRow, standIns := [], harness := (true, "8fa31b67ca6353a18bb4b1addafb72a2d465b489746253dbaf7afb7f328c277a"), looks := true }, kinds := [], alts := [], laidByText := true, laidKinds := [.data, .data, .data, .sentinel, .sentinel], laidTests := true, laidLooks := .later }
def FnExactCountByCardSaid : Prop := Claim7.holds Tryz.pinned (.plain (OpenSpec.ofChange fnExactCountBySpec)) fnExactCountByCard

/-- THE TIED CARD OF 'laws.FnGrouped'. -/
def fnGroupedCard : Claim7 := { stood := { row := fnGroupedRow, standIns := [], harness := (true, "8fa31b67ca6353a18bb4b1addafb72a2d465b489746253dbaf7afb7f328c277a"), looks := true }, kinds := [], alts := [], laidByText := true, laidKinds := [.data, .data, .data, .sentinel, .sentinel], laidTests := true, laidLooks := .later }
def FnGroupedCardSaid : Prop := Claim7.holds Tryz.pinned (.plain (OpenSpec.ofChange fnGroupedSpec)) fnGroupedCard

/-- THE TIED CARD OF 'laws.FnExactGreatestBy'. -/
def fnExactGreatestByCard : Claim7 := { stood := { row := fnExactGreatestByRow, standIns := [], harness := (true, "8fa31b67ca6353a18bb4b1addafb72a2d465b489746253dbaf7afb7f328c277a"), looks := true }, kinds := [], alts := [], laidByText := true, laidKinds := [.data, .data, .data, .sentinel, .sentinel], laidTests := true, laidLooks := .later }
def FnExactGreatestByCardSaid : Prop := Claim7.holds Tryz.pinned (.plain (OpenSpec.ofChange fnExactGreatestBySpec)) fnExactGreatestByCard

/-- THE TIED CARD OF 'laws.FnExactLeastBy'. -/
def fnExactLeastByCard : Claim7 := { stood := { row := fnExactLeastByRow, standIns := [], harness := (true, "8fa31b67ca6353a18bb4b1addafb72a2d465b489746253dbaf7afb7f328c277a"), looks := true }, kinds := [], alts := [], laidByText := true, laidKinds := [.data, .data, .data, .sentinel, .sentinel], laidTests := true, laidLooks := .later }
def FnExactLeastByCardSaid : Prop := Claim7.holds Tryz.pinned (.plain (OpenSpec.ofChange fnExactLeastBySpec)) fnExactLeastByCard

/-- THE TIED CARD OF 'laws.FnSums'. -/
def fnSumsCard : Claim7 := { stood := { row := fnSumsRow, standIns := [], harness := (true, "8fa31b67ca6353a18bb4b1addafb72a2d465b489746253dbaf7afb7f328c277a"), looks := true }, kinds := [], alts := [], laidByText := true, laidKinds := [.data, .data, .data, .sentinel, .sentinel], laidTests := true, laidLooks := .later }
def FnSumsCardSaid : Prop := Claim7.holds Tryz.pinned (.plain (OpenSpec.ofChange fnSumsSpec)) fnSumsCard

/-- THE TIED CARD OF 'laws.FnExactGroupsOf'. -/
def fnExactGroupsOfCard : Claim7 := { stood := { row := fnExactGroupsOfRow, standIns := [], harness := (true, "8fa31b67ca6353a18bb4b1addafb72a2d465b489746253dbaf7afb7f328c277a"), looks := true }, kinds := [], alts := [], laidByText := true, laidKinds := [.data, .data, .data, .sentinel, .sentinel], laidTests := true, laidLooks := .later }
def FnExactGroupsOfCardSaid : Prop := Claim7.holds Tryz.pinned (.plain (OpenSpec.ofChange fnExactGroupsOfSpec)) fnExactGroupsOfCard

/-- THE TIED CARD OF 'laws.FnExactSumBy'. -/
def fnExactSumByCard : Claim7 := { stood := { row := fnExactSumByRow, standIns := [], harness := (true, "8fa31b67ca6353a18bb4b1addafb72a2d465b489746253dbaf7afb7f328c277a"), looks := true }, kinds := [], alts := [], laidByText := true, laidKinds := [.data, .data, .data, .sentinel, .sentinel], laidTests := true, laidLooks := .later }
def FnExactSumByCardSaid : Prop := Claim7.holds Tryz.pinned (.plain (OpenSpec.ofChange fnExactSumBySpec)) fnExactSumByCard

/-- THE TIED CARD OF 'laws.FnEnds'. -/
def fnEndsCard : Claim7 := { stood := { row := fnEndsRow, standIns := [], harness := (true, "8fa31b67ca6353a18bb4b1addafb72a2d465b489746253dbaf7afb7f328c277a"), looks := true }, kinds := [], alts := [], laidByText := true, laidKinds := [.data, .data, .data, .sentinel, .sentinel], laidTests := true, laidLooks := .later }
def FnEndsCardSaid : Prop := Claim7.holds Tryz.pinned (.plain (OpenSpec.ofChange fnEndsSpec)) fnEndsCard

/-- THE SECOND FORM's CARD OF 'laws.FnExactChanges'. -/
def fnExactChangesUptoCard : Claim7 := { stood := { row := fnExactChangesUptoRow, standIns := [], harness := (true, "8fa31b67ca6353a18bb4b1addafb72a2d465b489746253dbaf7afb7f328c277a"), looks := true }, kinds := [], alts := [], laidByText := true, laidKinds := [.data, .data, .data, .sentinel, .sentinel], laidTests := true, laidLooks := .later }
def FnExactChangesUptoCardSaid : Prop := Claim7.holds Tryz.pinned (.plain (OpenSpec.upto fnExactChangesSpec)) fnExactChangesUptoCard

/-- THE SECOND FORM's CARD OF 'laws.FnUndone'. -/
def fnUndoneUptoCard : Claim7 := { stood := { row := fnUndoneUptoRow, standIns := [], harness := (true, "8fa31b67ca6353a18bb4b1addafb72a2d465b489746253dbaf7afb7f328c277a"), looks := true }, kinds := [], alts := [], laidByText := true, laidKinds := [.data, .data, .data, .sentinel, .sentinel], laidTests := true, laidLooks := .later }
def FnUndoneUptoCardSaid : Prop := Claim7.holds Tryz.pinned (.plain (OpenSpec.upto fnUndoneSpec)) fnUndoneUptoCard

/-- THE SECOND FORM's CARD OF 'laws.FnChanged'. -/
def fnChangedUptoCard : Claim7 := { stood := { row := fnChangedUptoRow, standIns := [], harness := (true, "8fa31b67ca6353a18bb4b1addafb72a2d465b489746253dbaf7afb7f328c277a"), looks := true }, kinds := [], alts := [], laidByText := true, laidKinds := [.data, .data, .data, .sentinel, .sentinel], laidTests := true, laidLooks := .later }
def FnChangedUptoCardSaid : Prop := Claim7.holds Tryz.pinned (.plain (OpenSpec.upto fnChangedSpec)) fnChangedUptoCard

/-- THE SECOND FORM's CARD OF 'laws.FnExactApply'. -/
def fnExactApplyUptoCard : Claim7 := { stood := { row := fnExactApplyUptoRow, standIns := [], harness := (true, "8fa31b67ca6353a18bb4b1addafb72a2d465b489746253dbaf7afb7f328c277a"), looks := true }, kinds := [], alts := [], laidByText := true, laidKinds := [.data, .data, .data, .sentinel, .sentinel], laidTests := true, laidLooks := .later }
def FnExactApplyUptoCardSaid : Prop := Claim7.holds Tryz.pinned (.plain (OpenSpec.upto fnExactApplySpec)) fnExactApplyUptoCard

/-- THE SECOND FORM's CARD OF 'laws.FnExactCountBy'. -/
def fnExactCountByUptoCard : Claim7 := { stood := { row := fnExactCountByUptoRow, standIns := [], harness := (true, "8fa31b67ca6353a18bb4b1addafb72a2d465b489746253dbaf7afb7f328c277a"), looks := true }, kinds := [], alts := [], laidByText := true, laidKinds := [.data, .data, .data, .sentinel, .sentinel], laidTests := true, laidLooks := .later }
def FnExactCountByUptoCardSaid : Prop := Claim7.holds Tryz.pinned (.plain (OpenSpec.upto fnExactCountBySpec)) fnExactCountByUptoCard

/-- THE SECOND FORM's CARD OF 'laws.FnGrouped'. -/
def fnGroupedUptoCard : Claim7 := { stood := { row := fnGroupedUptoRow, standIns := [], harness := (true, "8fa31b67ca6353a18bb4b1addafb72a2d465b489746253dbaf7afb7f328c277a"), looks := true }, kinds := [], alts := [], laidByText := true, laidKinds := [.data, .data, .data, .sentinel, .sentinel], laidTests := true, laidLooks := .later }
def FnGroupedUptoCardSaid : Prop := Claim7.holds Tryz.pinned (.plain (OpenSpec.upto fnGroupedSpec)) fnGroupedUptoCard

/-- THE SECOND FORM's CARD OF 'laws.FnExactGreatestBy'. -/
def fnExactGreatestByUptoCard : Claim7 := { stood := { row := fnExactGreatestByUptoRow, standIns := [], harness := (true, "8fa31b67ca6353a18bb4b1addafb72a2d465b489746253dbaf7afb7f328c277a"), looks := true }, kinds := [], alts := [], laidByText := true, laidKinds := [.data, .data, .data, .sentinel, .sentinel], laidTests := true, laidLooks := .later }
def FnExactGreatestByUptoCardSaid : Prop := Claim7.holds Tryz.pinned (.plain (OpenSpec.upto fnExactGreatestBySpec)) fnExactGreatestByUptoCard

/-- THE SECOND FORM's CARD OF 'laws.FnExactLeastBy'. -/
def fnExactLeastByUptoCard : Claim7 := { stood := { row := fnExactLeastByUptoRow, standIns := [], harness := (true, "8fa31b67ca6353a18bb4b1addafb72a2d465b489746253dbaf7afb7f328c277a"), looks := true }, kinds := [], alts := [], laidByText := true, laidKinds := [.data, .data, .data, .sentinel, .sentinel], laidTests := true, laidLooks := .later }
def FnExactLeastByUptoCardSaid : Prop := Claim7.holds Tryz.pinned (.plain (OpenSpec.upto fnExactLeastBySpec)) fnExactLeastByUptoCard

/-- THE SECOND FORM's CARD OF 'laws.FnSums'. -/
def fnSumsUptoCard : Claim7 := { stood := { row := fnSumsUptoRow, standIns := [], harness := (true, "8fa31b67ca6353a18bb4b1addafb72a2d465b489746253dbaf7afb7f328c277a"), looks := true }, kinds := [], alts := [], laidByText := true, laidKinds := [.data, .data, .data, .sentinel, .sentinel], laidTests := true, laidLooks := .later }
def FnSumsUptoCardSaid : Prop := Claim7.holds Tryz.pinned (.plain (OpenSpec.upto fnSumsSpec)) fnSumsUptoCard

/-- THE SECOND FORM's CARD OF 'laws.FnExactGroupsOf'. -/
def fnExactGroupsOfUptoCard : Claim7 := { stood := { row := fnExactGroupsOfUptoRow, standIns := [], harness := (true, "8fa31b67ca6353a18bb4b1addafb72a2d465b489746253dbaf7afb7f328c277a"), looks := true }, kinds := [], alts := [], laidByText := true, laidKinds := [.data, .data, .data, .sentinel, .sentinel], laidTests := true, laidLooks := .later }
def FnExactGroupsOfUptoCardSaid : Prop := Claim7.holds Tryz.pinned (.plain (OpenSpec.upto fnExactGroupsOfSpec)) fnExactGroupsOfUptoCard

/-- THE SECOND FORM's CARD OF 'laws.FnExactSumBy'. -/
def fnExactSumByUptoCard : Claim7 := { stood := { row := fnExactSumByUptoRow, standIns := [], harness := (true, "8fa31b67ca6353a18bb4b1addafb72a2d465b489746253dbaf7afb7f328c277a"), looks := true }, kinds := [], alts := [], laidByText := true, laidKinds := [.data, .data, .data, .sentinel, .sentinel], laidTests := true, laidLooks := .later }
def FnExactSumByUptoCardSaid : Prop := Claim7.holds Tryz.pinned (.plain (OpenSpec.upto fnExactSumBySpec)) fnExactSumByUptoCard

/-- THE SECOND FORM's CARD OF 'laws.FnEnds'. -/
def fnEndsUptoCard : Claim7 := { stood := { row := fnEndsUptoRow, standIns := [], harness := (true, "8fa31b67ca6353a18bb4b1addafb72a2d465b489746253dbaf7afb7f328c277a"), looks := true }, kinds := [], alts := [], laidByText := true, laidKinds := [.data, .data, .data, .sentinel, .sentinel], laidTests := true, laidLooks := .later }
def FnEndsUptoCardSaid : Prop := Claim7.holds Tryz.pinned (.plain (OpenSpec.upto fnEndsSpec)) fnEndsUptoCard
end Rows
end Go.Proofs.YtgdlicpmbgodjaaGreatDoor
