/-
  DERIVED. GIVEN WITH THE SEED: THE CARDS: each row of YtpdacimgcojgnaaGreatDoorRows.lean that lists a variable, with what it lists TIED to the program's text (the seventh form; the later family's looks); each row that meets fmt, with fmt's text TOLD by the authors' own Lean function (tested against real Go, not proved from fmt's source: count such statements apart). THE CARD IS WHAT COUNTS. Prove the row's statement (the work); the ties are given (YtpdacimgcojgnaaGreatDoorTie.lean); close each card by the builder's one call (the guide's Derived/Test/ToyasCard.lean, 'card_holds'). Laid BY PROGRAM, IN A SANDBOX (cutbox-door.mjs). By AI agents, Wed Nov 11 2026. No macro, syntax, notation, axiom, sorry.
-/
import Derived.Test.YtpdacimgcojgnaaGreatDoorRows
import GoSem.ClaimSeven
namespace Go.Proofs.YtpdacimgcojgnaaGreatDoor
namespace Rows

/-- THE TIED CARD OF 'langdoclaw45.AccessChecks'. -/
def accessChecksCard : Claim7 := { stood := { row := accessChecksRow, standIns := [], harness := (true, "ed19f4bff08b33da3cbb1ea805156aeee16997c440407753503e826ba76768da"), looks := false }, kinds := [], alts := [], laidByText := true, laidKinds := [.data, .pinned], laidTests := true, laidLooks := .later }
def AccessChecksCardSaid : Prop := Claim7.holds Tryz.pinned (.plain (OpenSpec.ofChange accessChecksSpec)) accessChecksCard

/-- THE TIED CARD OF 'langdoclaw45.AccessBase'. -/
def accessBaseCard : Claim7 := { stood := { row := accessBaseRow, standIns := [], harness := (true, "ed19f4bff08b33da3cbb1ea805156aeee16997c440407753503e826ba76768da"), looks := false }, kinds := [], alts := [], laidByText := true, laidKinds := [.data, .pinned], laidTests := true, laidLooks := .later }
def AccessBaseCardSaid : Prop := Claim7.holds Tryz.pinned (.plain (OpenSpec.ofChange accessBaseSpec)) accessBaseCard

/-- THE TIED CARD OF 'langdoclaw45.AccessSpans'. -/
def accessSpansCard : Claim7 := { stood := { row := accessSpansRow, standIns := [], harness := (true, "ed19f4bff08b33da3cbb1ea805156aeee16997c440407753503e826ba76768da"), looks := false }, kinds := [], alts := [], laidByText := true, laidKinds := [.data, .pinned], laidTests := true, laidLooks := .later }
def AccessSpansCardSaid : Prop := Claim7.holds Tryz.pinned (.plain (OpenSpec.ofChange accessSpansSpec)) accessSpansCard

/-- THE TIED CARD OF 'langdoclaw45.AccessMay'. -/
def accessMayCard : Claim7 := { stood := { row := accessMayRow, standIns := [], harness := (true, "ed19f4bff08b33da3cbb1ea805156aeee16997c440407753503e826ba76768da"), looks := false }, kinds := [], alts := [], laidByText := true, laidKinds := [.data, .pinned], laidTests := true, laidLooks := .later }
def AccessMayCardSaid : Prop := Claim7.holds Tryz.pinned (.plain (OpenSpec.ofChange accessMaySpec)) accessMayCard

/-- THE TIED CARD OF 'langdoclaw45.AccessDays'. -/
def accessDaysCard : Claim7 := { stood := { row := accessDaysRow, standIns := [], harness := (true, "ed19f4bff08b33da3cbb1ea805156aeee16997c440407753503e826ba76768da"), looks := false }, kinds := [], alts := [], laidByText := true, laidKinds := [.data, .pinned], laidTests := true, laidLooks := .later }
def AccessDaysCardSaid : Prop := Claim7.holds Tryz.pinned (.plain (OpenSpec.ofChange accessDaysSpec)) accessDaysCard

/-- THE TIED CARD OF 'langdoclaw45.AccessGone'. -/
def accessGoneCard : Claim7 := { stood := { row := accessGoneRow, standIns := [], harness := (true, "ed19f4bff08b33da3cbb1ea805156aeee16997c440407753503e826ba76768da"), looks := false }, kinds := [], alts := [], laidByText := true, laidKinds := [.data, .pinned], laidTests := true, laidLooks := .later }
def AccessGoneCardSaid : Prop := Claim7.holds Tryz.pinned (.plain (OpenSpec.ofChange accessGoneSpec)) accessGoneCard

/-- THE TIED CARD OF 'langdoclaw45.AccessFewer'. -/
def accessFewerCard : Claim7 := { stood := { row := accessFewerRow, standIns := [], harness := (true, "ed19f4bff08b33da3cbb1ea805156aeee16997c440407753503e826ba76768da"), looks := false }, kinds := [], alts := [], laidByText := true, laidKinds := [.data, .pinned], laidTests := true, laidLooks := .later }
def AccessFewerCardSaid : Prop := Claim7.holds Tryz.pinned (.plain (OpenSpec.ofChange accessFewerSpec)) accessFewerCard

/-- THE TIED CARD OF 'langdoclaw45.AccessPublic'. -/
def accessPublicCard : Claim7 := { stood := { row := accessPublicRow, standIns := [], harness := (true, "ed19f4bff08b33da3cbb1ea805156aeee16997c440407753503e826ba76768da"), looks := false }, kinds := [], alts := [], laidByText := true, laidKinds := [.data, .pinned], laidTests := true, laidLooks := .later }
def AccessPublicCardSaid : Prop := Claim7.holds Tryz.pinned (.plain (OpenSpec.ofChange accessPublicSpec)) accessPublicCard

/-- THE TIED CARD OF 'langdoclaw45.AccessSteady'. -/
def accessSteadyCard : Claim7 := { stood := { row := accessSteadyRow, standIns := [], harness := (true, "ed19f4bff08b33da3cbb1ea805156aeee16997c440407753503e826ba76768da"), looks := false }, kinds := [], alts := [], laidByText := true, laidKinds := [.data, .pinned], laidTests := true, laidLooks := .later }
def AccessSteadyCardSaid : Prop := Claim7.holds Tryz.pinned (.plain (OpenSpec.ofChange accessSteadySpec)) accessSteadyCard

/-- THE TIED CARD OF 'langdoclaw45.AccessAgrees'. -/
def accessAgreesCard : Claim7 := { stood := { row := accessAgreesRow, standIns := [], harness := (true, "ed19f4bff08b33da3cbb1ea805156aeee16997c440407753503e826ba76768da"), looks := false }, kinds := [], alts := [], laidByText := true, laidKinds := [.data, .pinned], laidTests := true, laidLooks := .later }
def AccessAgreesCardSaid : Prop := Claim7.holds Tryz.pinned (.plain (OpenSpec.ofChange accessAgreesSpec)) accessAgreesCard

/-- THE SECOND FORM's CARD OF 'langdoclaw45.AccessChecks'. -/
def accessChecksUptoCard : Claim7 := { stood := { row := accessChecksUptoRow, standIns := [], harness := (true, "ed19f4bff08b33da3cbb1ea805156aeee16997c440407753503e826ba76768da"), looks := false }, kinds := [], alts := [], laidByText := true, laidKinds := [.data, .pinned], laidTests := true, laidLooks := .later }
def AccessChecksUptoCardSaid : Prop := Claim7.holds Tryz.pinned (.plain (OpenSpec.upto accessChecksSpec)) accessChecksUptoCard

/-- THE SECOND FORM's CARD OF 'langdoclaw45.AccessBase'. -/
def accessBaseUptoCard : Claim7 := { stood := { row := accessBaseUptoRow, standIns := [], harness := (true, "ed19f4bff08b33da3cbb1ea805156aeee16997c440407753503e826ba76768da"), looks := false }, kinds := [], alts := [], laidByText := true, laidKinds := [.data, .pinned], laidTests := true, laidLooks := .later }
def AccessBaseUptoCardSaid : Prop := Claim7.holds Tryz.pinned (.plain (OpenSpec.upto accessBaseSpec)) accessBaseUptoCard

/-- THE SECOND FORM's CARD OF 'langdoclaw45.AccessSpans'. -/
def accessSpansUptoCard : Claim7 := { stood := { row := accessSpansUptoRow, standIns := [], harness := (true, "ed19f4bff08b33da3cbb1ea805156aeee16997c440407753503e826ba76768da"), looks := false }, kinds := [], alts := [], laidByText := true, laidKinds := [.data, .pinned], laidTests := true, laidLooks := .later }
def AccessSpansUptoCardSaid : Prop := Claim7.holds Tryz.pinned (.plain (OpenSpec.upto accessSpansSpec)) accessSpansUptoCard

/-- THE SECOND FORM's CARD OF 'langdoclaw45.AccessMay'. -/
def accessMayUptoCard : Claim7 := { stood := { row := accessMayUptoRow, standIns := [], harness := (true, "ed19f4bff08b33da3cbb1ea805156aeee16997c440407753503e826ba76768da"), looks := false }, kinds := [], alts := [], laidByText := true, laidKinds := [.data, .pinned], laidTests := true, laidLooks := .later }
def AccessMayUptoCardSaid : Prop := Claim7.holds Tryz.pinned (.plain (OpenSpec.upto accessMaySpec)) accessMayUptoCard

/-- THE SECOND FORM's CARD OF 'langdoclaw45.AccessDays'. -/
def accessDaysUptoCard : Claim7 := { stood := { row := accessDaysUptoRow, standIns := [], harness := (true, "ed19f4bff08b33da3cbb1ea805156aeee16997c440407753503e826ba76768da"), looks := false }, kinds := [], alts := [], laidByText := true, laidKinds := [.data, .pinned], laidTests := true, laidLooks := .later }
def AccessDaysUptoCardSaid : Prop := Claim7.holds Tryz.pinned (.plain (OpenSpec.upto accessDaysSpec)) accessDaysUptoCard

/-- THE SECOND FORM's CARD OF 'langdoclaw45.AccessGone'. -/
def accessGoneUptoCard : Claim7 := { stood := { row := accessGoneUptoRow, standIns := [], harness := (true, "ed19f4bff08b33da3cbb1ea805156aeee16997c440407753503e826ba76768da"), looks := false }, kinds := [], alts := [], laidByText := true, laidKinds := [.data, .pinned], laidTests := true, laidLooks := .later }
def AccessGoneUptoCardSaid : Prop := Claim7.holds Tryz.pinned (.plain (OpenSpec.upto accessGoneSpec)) accessGoneUptoCard

/-- THE SECOND FORM's CARD OF 'langdoclaw45.AccessFewer'. -/
def accessFewerUptoCard : Claim7 := { stood := { row := accessFewerUptoRow, standIns := [], harness := (true, "ed19f4bff08b33da3cbb1ea805156aeee16997c440407753503e826ba76768da"), looks := false }, kinds := [], alts := [], laidByText := true, laidKinds := [.data, .pinned], laidTests := true, laidLooks := .later }
def AccessFewerUptoCardSaid : Prop := Claim7.holds Tryz.pinned (.plain (OpenSpec.upto accessFewerSpec)) accessFewerUptoCard

/-- THE SECOND FORM's CARD OF 'langdoclaw45.AccessPublic'. -/
def accessPublicUptoCard : Claim7 := { stood := { row := accessPublicUptoRow, standIns := [], harness := (true, "ed19f4bff08b33da3cbb1ea805156aeee16997c440407753503e826ba76768da"), looks := false }, kinds := [], alts := [], laidByText := true, laidKinds := [.data, .pinned], laidTests := true, laidLooks := .later }
def AccessPublicUptoCardSaid : Prop := Claim7.holds Tryz.pinned (.plain (OpenSpec.upto accessPublicSpec)) accessPublicUptoCard

/-- THE SECOND FORM's CARD OF 'langdoclaw45.AccessSteady'. -/
def accessSteadyUptoCard : Claim7 := { stood := { row := accessSteadyUptoRow, standIns := [], harness := (true, "ed19f4bff08b33da3cbb1ea805156aeee16997c440407753503e826ba76768da"), looks := false }, kinds := [], alts := [], laidByText := true, laidKinds := [.data, .pinned], laidTests := true, laidLooks := .later }
def AccessSteadyUptoCardSaid : Prop := Claim7.holds Tryz.pinned (.plain (OpenSpec.upto accessSteadySpec)) accessSteadyUptoCard

/-- THE SECOND FORM's CARD OF 'langdoclaw45.AccessAgrees'. -/
def accessAgreesUptoCard : Claim7 := { stood := { row := accessAgreesUptoRow, standIns := [], harness := (true, "ed19f4bff08b33da3cbb1ea805156aeee16997c440407753503e826ba76768da"), looks := false }, kinds := [], alts := [], laidByText := true, laidKinds := [.data, .pinned], laidTests := true, laidLooks := .later }
def AccessAgreesUptoCardSaid : Prop := Claim7.holds Tryz.pinned (.plain (OpenSpec.upto accessAgreesSpec)) accessAgreesUptoCard
end Rows
end Go.Proofs.YtpdacimgcojgnaaGreatDoor
