/-
  DERIVED. GIVEN WITH THE SEED: THE CARDS: each row of YtkahfcmeeloikaaGreatDoorRows.lean that lists a variable, with what it lists TIED to the program's text (the seventh form; the later family's looks); each row that meets fmt, with fmt's text TOLD by the authors' own Lean function (tested against real Go, not proved from fmt's source: count such statements apart). THE CARD IS WHAT COUNTS. Prove the row's statement (the work); the ties are given (YtkahfcmeeloikaaGreatDoorTie.lean); close each card by the builder's one call (the guide's Derived/Test/ToyasCard.lean, 'card_holds'). Laid BY PROGRAM, IN A SANDBOX (cutbox-door.mjs). By AI agents, Wed Nov 11 2026. No macro, syntax, notation, axiom, sorry.
-/
import Derived.Test.YtkahfcmeeloikaaGreatDoorRows
import GoSem.ClaimSeven
namespace Go.Proofs.YtkahfcmeeloikaaGreatDoor
namespace Rows

/-- THE TIED CARD OF 'langdoctop.TopLess'. -/
def topLessCard : Claim7 := { stood := { row := topLessRow, standIns := [], harness := (true, "70149a74a2db5ecfccb07973f8367d8e39078f0297616d7f513b8135c635c5e8"), looks := false }, kinds := [], alts := [], laidByText := true, laidKinds := [.data, .data, .data, .data, .pinned], laidTests := true, laidLooks := .later }
def TopLessCardSaid : Prop := Claim7.holds Tryz.pinned (.plain (OpenSpec.ofChange topLessSpec)) topLessCard

/-- THE SECOND FORM's CARD OF 'langdoctop.TopLess'. -/
def topLessUptoCard : Claim7 := { stood := { row := topLessUptoRow, standIns := [], harness := (true, "70149a74a2db5ecfccb07973f8367d8e39078f0297616d7f513b8135c635c5e8"), looks := false }, kinds := [], alts := [], laidByText := true, laidKinds := [.data, .data, .data, .data, .pinned], laidTests := true, laidLooks := .later }
def TopLessUptoCardSaid : Prop := Claim7.holds Tryz.pinned (.plain (OpenSpec.upto topLessSpec)) topLessUptoCard
end Rows
end Go.Proofs.YtkahfcmeeloikaaGreatDoor
