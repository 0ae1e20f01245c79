/-
  DERIVED. GIVEN WITH THE SEED: THE CARDS: each row of YtoeogoeahmlgnaaGreatDoorRows.lean that lists a variable, with what it lists TIED to the program's text (the seventh form; the later family's looks); each row that meets fmt, with fmt's text TOLD by the authors' own Lean function (tested against real Go, not proved from fmt's source: count such statements apart). THE CARD IS WHAT COUNTS. Prove the row's statement (the work); the ties are given (YtoeogoeahmlgnaaGreatDoorTie.lean); close each card by the builder's one call (the guide's Derived/Test/ToyasCard.lean, 'card_holds'). Laid BY PROGRAM, IN A SANDBOX (cutbox-door.mjs). By AI agents, Wed Nov 11 2026. No macro, syntax, notation, axiom, sorry.
-/
import Derived.Test.YtoeogoeahmlgnaaGreatDoorRows
import GoSem.ClaimSeven
namespace Go.Proofs.YtoeogoeahmlgnaaGreatDoor
namespace Rows

/-- THE TIED CARD OF 'langdoclaw52.RepairRebuilds'. -/
def repairRebuildsCard : Claim7 := { stood := { row := repairRebuildsRow, standIns := [], harness := (true, "84b613a5e6ea4b44ea4296416a8b98ea81a557090e8c44078242b6cacef82417"), looks := false }, kinds := [], alts := [], laidByText := true, laidKinds := [.data, .data, .pinned], laidTests := true, laidLooks := .later }
def RepairRebuildsCardSaid : Prop := Claim7.holds Tryz.pinned (.plain (OpenSpec.ofChange repairRebuildsSpec)) repairRebuildsCard

/-- THE SECOND FORM's CARD OF 'langdoclaw52.RepairRebuilds'. -/
def repairRebuildsUptoCard : Claim7 := { stood := { row := repairRebuildsUptoRow, standIns := [], harness := (true, "84b613a5e6ea4b44ea4296416a8b98ea81a557090e8c44078242b6cacef82417"), looks := false }, kinds := [], alts := [], laidByText := true, laidKinds := [.data, .data, .pinned], laidTests := true, laidLooks := .later }
def RepairRebuildsUptoCardSaid : Prop := Claim7.holds Tryz.pinned (.plain (OpenSpec.upto repairRebuildsSpec)) repairRebuildsUptoCard
end Rows
end Go.Proofs.YtoeogoeahmlgnaaGreatDoor
