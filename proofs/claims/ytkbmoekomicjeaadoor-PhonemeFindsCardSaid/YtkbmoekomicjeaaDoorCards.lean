/-
  DERIVED. GIVEN WITH THE SEED: THE CARDS: each row of YtkbmoekomicjeaaDoorRows.lean that lists a variable, with what it lists TIED to the program's text (the seventh form; the later family's looks); each row that meets fmt, with fmt's text TOLD by the authors' own Lean function (tested against real Go, not proved from fmt's source: count such statements apart). THE CARD IS WHAT COUNTS. Prove the row's statement (the work); the ties are given (YtkbmoekomicjeaaDoorTie.lean); close each card by the builder's one call (the guide's Derived/Test/ToyasCard.lean, 'card_holds'). Laid BY PROGRAM, IN A SANDBOX (cutbox-door.mjs). By AI agents, Wed Nov 11 2026. No macro, syntax, notation, axiom, sorry.
-/
import Derived.Test.YtkbmoekomicjeaaDoorRows
import GoSem.ClaimSeven
namespace Go.Proofs.YtkbmoekomicjeaaDoor
namespace Rows

/-- THE TIED CARD OF 'langdoclaw16.PhonemeChecks'. -/
def phonemeChecksCard : Claim7 := { stood := { row := phonemeChecksRow, standIns := [], harness := (true, "3e1f933d847a70943cf89a38de4145fcc2696818c9d920039bdc64b86e00cfcd"), looks := false }, kinds := [], alts := [], laidByText := true, laidKinds := [.data, .pinned], laidTests := true, laidLooks := .later }
def PhonemeChecksCardSaid : Prop := Claim7.holds Tryd.pinned (.plain (OpenSpec.ofChange phonemeChecksSpec)) phonemeChecksCard

/-- THE TIED CARD OF 'langdoclaw16.PhonemeClasses'. -/
def phonemeClassesCard : Claim7 := { stood := { row := phonemeClassesRow, standIns := [], harness := (true, "3e1f933d847a70943cf89a38de4145fcc2696818c9d920039bdc64b86e00cfcd"), looks := false }, kinds := [], alts := [], laidByText := true, laidKinds := [.data, .pinned], laidTests := true, laidLooks := .later }
def PhonemeClassesCardSaid : Prop := Claim7.holds Tryd.pinned (.plain (OpenSpec.ofChange phonemeClassesSpec)) phonemeClassesCard

/-- THE TIED CARD OF 'langdoclaw16.PhonemeNatural'. -/
def phonemeNaturalCard : Claim7 := { stood := { row := phonemeNaturalRow, standIns := [], harness := (true, "3e1f933d847a70943cf89a38de4145fcc2696818c9d920039bdc64b86e00cfcd"), looks := false }, kinds := [], alts := [], laidByText := true, laidKinds := [.data, .pinned], laidTests := true, laidLooks := .later }
def PhonemeNaturalCardSaid : Prop := Claim7.holds Tryd.pinned (.plain (OpenSpec.ofChange phonemeNaturalSpec)) phonemeNaturalCard

/-- THE TIED CARD OF 'langdoclaw16.PhonemeWords'. -/
def phonemeWordsCard : Claim7 := { stood := { row := phonemeWordsRow, standIns := [], harness := (true, "3e1f933d847a70943cf89a38de4145fcc2696818c9d920039bdc64b86e00cfcd"), looks := false }, kinds := [], alts := [], laidByText := true, laidKinds := [.data, .pinned], laidTests := true, laidLooks := .later }
def PhonemeWordsCardSaid : Prop := Claim7.holds Tryd.pinned (.plain (OpenSpec.ofChange phonemeWordsSpec)) phonemeWordsCard

/-- THE TIED CARD OF 'langdoclaw16.PhonemeLeast'. -/
def phonemeLeastCard : Claim7 := { stood := { row := phonemeLeastRow, standIns := [], harness := (true, "3e1f933d847a70943cf89a38de4145fcc2696818c9d920039bdc64b86e00cfcd"), looks := false }, kinds := [], alts := [], laidByText := true, laidKinds := [.data, .pinned], laidTests := true, laidLooks := .later }
def PhonemeLeastCardSaid : Prop := Claim7.holds Tryd.pinned (.plain (OpenSpec.ofChange phonemeLeastSpec)) phonemeLeastCard

/-- THE TIED CARD OF 'langdoclaw16.PhonemeMeets'. -/
def phonemeMeetsCard : Claim7 := { stood := { row := phonemeMeetsRow, standIns := [], harness := (true, "3e1f933d847a70943cf89a38de4145fcc2696818c9d920039bdc64b86e00cfcd"), looks := false }, kinds := [], alts := [], laidByText := true, laidKinds := [.data, .pinned], laidTests := true, laidLooks := .later }
def PhonemeMeetsCardSaid : Prop := Claim7.holds Tryd.pinned (.plain (OpenSpec.ofChange phonemeMeetsSpec)) phonemeMeetsCard

/-- THE TIED CARD OF 'langdoclaw16.PhonemeFinds'. -/
def phonemeFindsCard : Claim7 := { stood := { row := phonemeFindsRow, standIns := [], harness := (true, "3e1f933d847a70943cf89a38de4145fcc2696818c9d920039bdc64b86e00cfcd"), looks := false }, kinds := [], alts := [], laidByText := true, laidKinds := [.data, .pinned], laidTests := true, laidLooks := .later }
def PhonemeFindsCardSaid : Prop := Claim7.holds Tryd.pinned (.plain (OpenSpec.ofChange phonemeFindsSpec)) phonemeFindsCard

/-- THE TIED CARD OF 'langdoclaw16.PhonemeJoins'. -/
def phonemeJoinsCard : Claim7 := { stood := { row := phonemeJoinsRow, standIns := [], harness := (true, "3e1f933d847a70943cf89a38de4145fcc2696818c9d920039bdc64b86e00cfcd"), looks := false }, kinds := [], alts := [], laidByText := true, laidKinds := [.data, .pinned], laidTests := true, laidLooks := .later }
def PhonemeJoinsCardSaid : Prop := Claim7.holds Tryd.pinned (.plain (OpenSpec.ofChange phonemeJoinsSpec)) phonemeJoinsCard

/-- THE SECOND FORM's CARD OF 'langdoclaw16.PhonemeChecks'. -/
def phonemeChecksUptoCard : Claim7 := { stood := { row := phonemeChecksUptoRow, standIns := [], harness := (true, "3e1f933d847a70943cf89a38de4145fcc2696818c9d920039bdc64b86e00cfcd"), looks := false }, kinds := [], alts := [], laidByText := true, laidKinds := [.data, .pinned], laidTests := true, laidLooks := .later }
def PhonemeChecksUptoCardSaid : Prop := Claim7.holds Tryd.pinned (.plain (OpenSpec.upto phonemeChecksSpec)) phonemeChecksUptoCard

/-- THE SECOND FORM's CARD OF 'langdoclaw16.PhonemeClasses'. -/
def phonemeClassesUptoCard : Claim7 := { stood := { row := phonemeClassesUptoRow, standIns := [], harness := (true, "3e1f933d847a70943cf89a38de4145fcc2696818c9d920039bdc64b86e00cfcd"), looks := false }, kinds := [], alts := [], laidByText := true, laidKinds := [.data, .pinned], laidTests := true, laidLooks := .later }
def PhonemeClassesUptoCardSaid : Prop := Claim7.holds Tryd.pinned (.plain (OpenSpec.upto phonemeClassesSpec)) phonemeClassesUptoCard

/-- THE SECOND FORM's CARD OF 'langdoclaw16.PhonemeNatural'. -/
def phonemeNaturalUptoCard : Claim7 := { stood := { row := phonemeNaturalUptoRow, standIns := [], harness := (true, "3e1f933d847a70943cf89a38de4145fcc2696818c9d920039bdc64b86e00cfcd"), looks := false }, kinds := [], alts := [], laidByText := true, laidKinds := [.data, .pinned], laidTests := true, laidLooks := .later }
def PhonemeNaturalUptoCardSaid : Prop := Claim7.holds Tryd.pinned (.plain (OpenSpec.upto phonemeNaturalSpec)) phonemeNaturalUptoCard

/-- THE SECOND FORM's CARD OF 'langdoclaw16.PhonemeWords'. -/
def phonemeWordsUptoCard : Claim7 := { stood := { row := phonemeWordsUptoRow, standIns := [], harness := (true, "3e1f933d847a70943cf89a38de4145fcc2696818c9d920039bdc64b86e00cfcd"), looks := false }, kinds := [], alts := [], laidByText := true, laidKinds := [.data, .pinned], laidTests := true, laidLooks := .later }
def PhonemeWordsUptoCardSaid : Prop := Claim7.holds Tryd.pinned (.plain (OpenSpec.upto phonemeWordsSpec)) phonemeWordsUptoCard

/-- THE SECOND FORM's CARD OF 'langdoclaw16.PhonemeLeast'. -/
def phonemeLeastUptoCard : Claim7 := { stood := { row := phonemeLeastUptoRow, standIns := [], harness := (true, "3e1f933d847a70943cf89a38de4145fcc2696818c9d920039bdc64b86e00cfcd"), looks := false }, kinds := [], alts := [], laidByText := true, laidKinds := [.data, .pinned], laidTests := true, laidLooks := .later }
def PhonemeLeastUptoCardSaid : Prop := Claim7.holds Tryd.pinned (.plain (OpenSpec.upto phonemeLeastSpec)) phonemeLeastUptoCard

/-- THE SECOND FORM's CARD OF 'langdoclaw16.PhonemeMeets'. -/
def phonemeMeetsUptoCard : Claim7 := { stood := { row := phonemeMeetsUptoRow, standIns := [], harness := (true, "3e1f933d847a70943cf89a38de4145fcc2696818c9d920039bdc64b86e00cfcd"), looks := false }, kinds := [], alts := [], laidByText := true, laidKinds := [.data, .pinned], laidTests := true, laidLooks := .later }
def PhonemeMeetsUptoCardSaid : Prop := Claim7.holds Tryd.pinned (.plain (OpenSpec.upto phonemeMeetsSpec)) phonemeMeetsUptoCard

/-- THE SECOND FORM's CARD OF 'langdoclaw16.PhonemeFinds'. -/
def phonemeFindsUptoCard : Claim7 := { stood := { row := phonemeFindsUptoRow, standIns := [], harness := (true, "3e1f933d847a70943cf89a38de4145fcc2696818c9d920039bdc64b86e00cfcd"), looks := false }, kinds := [], alts := [], laidByText := true, laidKinds := [.data, .pinned], laidTests := true, laidLooks := .later }
def PhonemeFindsUptoCardSaid : Prop := Claim7.holds Tryd.pinned (.plain (OpenSpec.upto phonemeFindsSpec)) phonemeFindsUptoCard

/-- THE SECOND FORM's CARD OF 'langdoclaw16.PhonemeJoins'. -/
def phonemeJoinsUptoCard : Claim7 := { stood := { row := phonemeJoinsUptoRow, standIns := [], harness := (true, "3e1f933d847a70943cf89a38de4145fcc2696818c9d920039bdc64b86e00cfcd"), looks := false }, kinds := [], alts := [], laidByText := true, laidKinds := [.data, .pinned], laidTests := true, laidLooks := .later }
def PhonemeJoinsUptoCardSaid : Prop := Claim7.holds Tryd.pinned (.plain (OpenSpec.upto phonemeJoinsSpec)) phonemeJoinsUptoCard
end Rows
end Go.Proofs.YtkbmoekomicjeaaDoor
