/-
  DERIVED. GIVEN WITH THE SEED: THE CARDS: each row of YtkelpajcfmghiaaGreatDoorRows.lean that lists a variable, with what it lists TIED to the program's text (the seventh form; the later family's looks); each row that meets fmt, with fmt's text TOLD by the authors' own Lean function (tested against real Go, not proved from fmt's source: count such statements apart). THE CARD IS WHAT COUNTS. Prove the row's statement (the work); the ties are given (YtkelpajcfmghiaaGreatDoorTie.lean); close each card by the builder's one call (the guide's Derived/Test/ToyasCard.lean, 'card_holds'). Laid BY PROGRAM, IN A SANDBOX (cutbox-door.mjs). By AI agents, Wed Nov 11 2026. No macro, syntax, notation, axiom, sorry.
-/
import Derived.Test.YtkelpajcfmghiaaGreatDoorRows
import GoSem.ClaimSeven
namespace Go.Proofs.YtkelpajcfmghiaaGreatDoor
namespace Rows

/-- THE TIED CARD OF 'laws.FnExactCore'. -/
def fnExactCoreCard : Claim7 := { stood := { row := fnExactCoreRow, standIns := [], harness := (true, "841b64ba4c0738c7338df6321bc20a2e864493362d733ef3e11b3e2b65ea95e2"), looks := true }, kinds := [], alts := [], laidByText := true, laidKinds := [.data, .data, .data, .sentinel, .sentinel], laidTests := true, laidLooks := .later }
def FnExactCoreCardSaid : Prop := Claim7.holds Tryz.pinned (.plain (OpenSpec.ofChange fnExactCoreSpec)) fnExactCoreCard

/-- THE TIED CARD OF 'laws.FnExactUnfoldOne'. -/
def fnExactUnfoldOneCard : Claim7 := { stood := { row := fnExactUnfoldOneRow, standIns := [], harness := (true, "841b64ba4c0738c7338df6321bc20a2e864493362d733ef3e11b3e2b65ea95e2"), looks := true }, kinds := [], alts := [], laidByText := true, laidKinds := [.data, .data, .data, .sentinel, .sentinel], laidTests := true, laidLooks := .later }
def FnExactUnfoldOneCardSaid : Prop := Claim7.holds Tryz.pinned (.plain (OpenSpec.ofChange fnExactUnfoldOneSpec)) fnExactUnfoldOneCard

/-- THE TIED CARD OF 'laws.FnExactRenameRel'. -/
def fnExactRenameRelCard : Claim7 := { stood := { row := fnExactRenameRelRow, standIns := [], harness := (true, "841b64ba4c0738c7338df6321bc20a2e864493362d733ef3e11b3e2b65ea95e2"), looks := true }, kinds := [], alts := [], laidByText := true, laidKinds := [.data, .data, .data, .sentinel, .sentinel], laidTests := true, laidLooks := .later }
def FnExactRenameRelCardSaid : Prop := Claim7.holds Tryz.pinned (.plain (OpenSpec.ofChange fnExactRenameRelSpec)) fnExactRenameRelCard

/-- THE TIED CARD OF 'laws.FnExactOnce'. -/
def fnExactOnceCard : Claim7 := { stood := { row := fnExactOnceRow, standIns := [], harness := (true, "841b64ba4c0738c7338df6321bc20a2e864493362d733ef3e11b3e2b65ea95e2"), looks := true }, kinds := [], alts := [], laidByText := true, laidKinds := [.data, .data, .data, .sentinel, .sentinel], laidTests := true, laidLooks := .later }
def FnExactOnceCardSaid : Prop := Claim7.holds Tryz.pinned (.plain (OpenSpec.ofChange fnExactOnceSpec)) fnExactOnceCard

/-- THE SECOND FORM's CARD OF 'laws.FnExactCore'. -/
def fnExactCoreUptoCard : Claim7 := { stood := { row := fnExactCoreUptoRow, standIns := [], harness := (true, "841b64ba4c0738c7338df6321bc20a2e864493362d733ef3e11b3e2b65ea95e2"), looks := true }, kinds := [], alts := [], laidByText := true, laidKinds := [.data, .data, .data, .sentinel, .sentinel], laidTests := true, laidLooks := .later }
def FnExactCoreUptoCardSaid : Prop := Claim7.holds Tryz.pinned (.plain (OpenSpec.upto fnExactCoreSpec)) fnExactCoreUptoCard

/-- THE SECOND FORM's CARD OF 'laws.FnExactUnfoldOne'. -/
def fnExactUnfoldOneUptoCard : Claim7 := { stood := { row := fnExactUnfoldOneUptoRow, standIns := [], harness := (true, "841b64ba4c0738c7338df6321bc20a2e864493362d733ef3e11b3e2b65ea95e2"), looks := true }, kinds := [], alts := [], laidByText := true, laidKinds := [.data, .data, .data, .sentinel, .sentinel], laidTests := true, laidLooks := .later }
def FnExactUnfoldOneUptoCardSaid : Prop := Claim7.holds Tryz.pinned (.plain (OpenSpec.upto fnExactUnfoldOneSpec)) fnExactUnfoldOneUptoCard

/-- THE SECOND FORM's CARD OF 'laws.FnExactRenameRel'. -/
def fnExactRenameRelUptoCard : Claim7 := { stood := { row := fnExactRenameRelUptoRow, standIns := [], harness := (true, "841b64ba4c0738c7338df6321bc20a2e864493362d733ef3e11b3e2b65ea95e2"), looks := true }, kinds := [], alts := [], laidByText := true, laidKinds := [.data, .data, .data, .sentinel, .sentinel], laidTests := true, laidLooks := .later }
def FnExactRenameRelUptoCardSaid : Prop := Claim7.holds Tryz.pinned (.plain (OpenSpec.upto fnExactRenameRelSpec)) fnExactRenameRelUptoCard

/-- THE SECOND FORM's CARD OF 'laws.FnExactOnce'. -/
def fnExactOnceUptoCard : Claim7 := { stood := { row := fnExactOnceUptoRow, standIns := [], harness := (true, "841b64ba4c0738c7338df6321bc20a2e864493362d733ef3e11b3e2b65ea95e2"), looks := true }, kinds := [], alts := [], laidByText := true, laidKinds := [.data, .data, .data, .sentinel, .sentinel], laidTests := true, laidLooks := .later }
def FnExactOnceUptoCardSaid : Prop := Claim7.holds Tryz.pinned (.plain (OpenSpec.upto fnExactOnceSpec)) fnExactOnceUptoCard
end Rows
end Go.Proofs.YtkelpajcfmghiaaGreatDoor
