/-
  DERIVED. GIVEN WITH THE SEED: THE CARDS: each row of YtbakigpobbjlhaaDoorRows.lean that lists a variable, with what it lists TIED to the program's text (the seventh form; the later family's looks); each row that meets fmt, with fmt's text TOLD by the authors' own Lean function (tested against real Go, not proved from fmt's source: count such statements apart). THE CARD IS WHAT COUNTS. Prove the row's statement (the work); the ties are given (YtbakigpobbjlhaaDoorTie.lean); close each card by the builder's one call (the guide's Derived/Test/ToyasCard.lean, 'card_holds'). Laid BY PROGRAM, IN A SANDBOX (cutbox-door.mjs). By AI agents, Wed Nov 11 2026. No macro, syntax, notation, axiom, sorry.
-/
import Derived.Test.YtbakigpobbjlhaaDoorRows
import GoSem.ClaimSeven
namespace Go.Proofs.YtbakigpobbjlhaaDoor
namespace Rows

/-- THE TIED CARD OF 'langdoclaw10.MediaNames'. -/
def mediaNamesCard : Claim7 := { stood := { row := mediaNamesRow, standIns := [], harness := (true, "7ef217f945e689061b8a2809a4772b15a669659c75480144a449ae1b65aa265e"), looks := false }, kinds := [], alts := [], laidByText := true, laidKinds := [.data, .pinned], laidTests := true, laidLooks := .later }
def MediaNamesCardSaid : Prop := Claim7.holds Tryd.pinned (.plain (OpenSpec.ofChange mediaNamesSpec)) mediaNamesCard

/-- THE TIED CARD OF 'langdoclaw10.MediaPeople'. -/
def mediaPeopleCard : Claim7 := { stood := { row := mediaPeopleRow, standIns := [], harness := (true, "7ef217f945e689061b8a2809a4772b15a669659c75480144a449ae1b65aa265e"), looks := false }, kinds := [], alts := [], laidByText := true, laidKinds := [.data, .pinned], laidTests := true, laidLooks := .later }
def MediaPeopleCardSaid : Prop := Claim7.holds Tryd.pinned (.plain (OpenSpec.ofChange mediaPeopleSpec)) mediaPeopleCard

/-- THE TIED CARD OF 'langdoclaw10.MediaChecks'. -/
def mediaChecksCard : Claim7 := { stood := { row := mediaChecksRow, standIns := [], harness := (true, "7ef217f945e689061b8a2809a4772b15a669659c75480144a449ae1b65aa265e"), looks := false }, kinds := [], alts := [], laidByText := true, laidKinds := [.data, .pinned], laidTests := true, laidLooks := .later }
def MediaChecksCardSaid : Prop := Claim7.holds Tryd.pinned (.plain (OpenSpec.ofChange mediaChecksSpec)) mediaChecksCard

/-- THE TIED CARD OF 'langdoclaw10.MediaRecs'. -/
def mediaRecsCard : Claim7 := { stood := { row := mediaRecsRow, standIns := [], harness := (true, "7ef217f945e689061b8a2809a4772b15a669659c75480144a449ae1b65aa265e"), looks := false }, kinds := [], alts := [], laidByText := true, laidKinds := [.data, .pinned], laidTests := true, laidLooks := .later }
def MediaRecsCardSaid : Prop := Claim7.holds Tryd.pinned (.plain (OpenSpec.ofChange mediaRecsSpec)) mediaRecsCard

/-- THE TIED CARD OF 'langdoclaw10.MediaHeard'. -/
def mediaHeardCard : Claim7 := { stood := { row := mediaHeardRow, standIns := [], harness := (true, "7ef217f945e689061b8a2809a4772b15a669659c75480144a449ae1b65aa265e"), looks := false }, kinds := [], alts := [], laidByText := true, laidKinds := [.data, .pinned], laidTests := true, laidLooks := .later }
def MediaHeardCardSaid : Prop := Claim7.holds Tryd.pinned (.plain (OpenSpec.ofChange mediaHeardSpec)) mediaHeardCard

/-- THE TIED CARD OF 'langdoclaw10.MediaPrefix'. -/
def mediaPrefixCard : Claim7 := { stood := { row := mediaPrefixRow, standIns := [], harness := (true, "7ef217f945e689061b8a2809a4772b15a669659c75480144a449ae1b65aa265e"), looks := false }, kinds := [], alts := [], laidByText := true, laidKinds := [.data, .pinned], laidTests := true, laidLooks := .later }
def MediaPrefixCardSaid : Prop := Claim7.holds Tryd.pinned (.plain (OpenSpec.ofChange mediaPrefixSpec)) mediaPrefixCard

/-- THE TIED CARD OF 'langdoclaw10.MediaMore'. -/
def mediaMoreCard : Claim7 := { stood := { row := mediaMoreRow, standIns := [], harness := (true, "7ef217f945e689061b8a2809a4772b15a669659c75480144a449ae1b65aa265e"), looks := false }, kinds := [], alts := [], laidByText := true, laidKinds := [.data, .pinned], laidTests := true, laidLooks := .later }
def MediaMoreCardSaid : Prop := Claim7.holds Tryd.pinned (.plain (OpenSpec.ofChange mediaMoreSpec)) mediaMoreCard

/-- THE TIED CARD OF 'langdoclaw10.MediaLabels'. -/
def mediaLabelsCard : Claim7 := { stood := { row := mediaLabelsRow, standIns := [], harness := (true, "7ef217f945e689061b8a2809a4772b15a669659c75480144a449ae1b65aa265e"), looks := false }, kinds := [], alts := [], laidByText := true, laidKinds := [.data, .pinned], laidTests := true, laidLooks := .later }
def MediaLabelsCardSaid : Prop := Claim7.holds Tryd.pinned (.plain (OpenSpec.ofChange mediaLabelsSpec)) mediaLabelsCard

/-- THE SECOND FORM's CARD OF 'langdoclaw10.MediaNames'. -/
def mediaNamesUptoCard : Claim7 := { stood := { row := mediaNamesUptoRow, standIns := [], harness := (true, "7ef217f945e689061b8a2809a4772b15a669659c75480144a449ae1b65aa265e"), looks := false }, kinds := [], alts := [], laidByText := true, laidKinds := [.data, .pinned], laidTests := true, laidLooks := .later }
def MediaNamesUptoCardSaid : Prop := Claim7.holds Tryd.pinned (.plain (OpenSpec.upto mediaNamesSpec)) mediaNamesUptoCard

/-- THE SECOND FORM's CARD OF 'langdoclaw10.MediaPeople'. -/
def mediaPeopleUptoCard : Claim7 := { stood := { row := mediaPeopleUptoRow, standIns := [], harness := (true, "7ef217f945e689061b8a2809a4772b15a669659c75480144a449ae1b65aa265e"), looks := false }, kinds := [], alts := [], laidByText := true, laidKinds := [.data, .pinned], laidTests := true, laidLooks := .later }
def MediaPeopleUptoCardSaid : Prop := Claim7.holds Tryd.pinned (.plain (OpenSpec.upto mediaPeopleSpec)) mediaPeopleUptoCard

/-- THE SECOND FORM's CARD OF 'langdoclaw10.MediaChecks'. -/
def mediaChecksUptoCard : Claim7 := { stood := { row := mediaChecksUptoRow, standIns := [], harness := (true, "7ef217f945e689061b8a2809a4772b15a669659c75480144a449ae1b65aa265e"), looks := false }, kinds := [], alts := [], laidByText := true, laidKinds := [.data, .pinned], laidTests := true, laidLooks := .later }
def MediaChecksUptoCardSaid : Prop := Claim7.holds Tryd.pinned (.plain (OpenSpec.upto mediaChecksSpec)) mediaChecksUptoCard

/-- THE SECOND FORM's CARD OF 'langdoclaw10.MediaRecs'. -/
def mediaRecsUptoCard : Claim7 := { stood := { row := mediaRecsUptoRow, standIns := [], harness := (true, "7ef217f945e689061b8a2809a4772b15a669659c75480144a449ae1b65aa265e"), looks := false }, kinds := [], alts := [], laidByText := true, laidKinds := [.data, .pinned], laidTests := true, laidLooks := .later }
def MediaRecsUptoCardSaid : Prop := Claim7.holds Tryd.pinned (.plain (OpenSpec.upto mediaRecsSpec)) mediaRecsUptoCard

/-- THE SECOND FORM's CARD OF 'langdoclaw10.MediaHeard'. -/
def mediaHeardUptoCard : Claim7 := { stood := { row := mediaHeardUptoRow, standIns := [], harness := (true, "7ef217f945e689061b8a2809a4772b15a669659c75480144a449ae1b65aa265e"), looks := false }, kinds := [], alts := [], laidByText := true, laidKinds := [.data, .pinned], laidTests := true, laidLooks := .later }
def MediaHeardUptoCardSaid : Prop := Claim7.holds Tryd.pinned (.plain (OpenSpec.upto mediaHeardSpec)) mediaHeardUptoCard

/-- THE SECOND FORM's CARD OF 'langdoclaw10.MediaPrefix'. -/
def mediaPrefixUptoCard : Claim7 := { stood := { row := mediaPrefixUptoRow, standIns := [], harness := (true, "7ef217f945e689061b8a2809a4772b15a669659c75480144a449ae1b65aa265e"), looks := false }, kinds := [], alts := [], laidByText := true, laidKinds := [.data, .pinned], laidTests := true, laidLooks := .later }
def MediaPrefixUptoCardSaid : Prop := Claim7.holds Tryd.pinned (.plain (OpenSpec.upto mediaPrefixSpec)) mediaPrefixUptoCard

/-- THE SECOND FORM's CARD OF 'langdoclaw10.MediaMore'. -/
def mediaMoreUptoCard : Claim7 := { stood := { row := mediaMoreUptoRow, standIns := [], harness := (true, "7ef217f945e689061b8a2809a4772b15a669659c75480144a449ae1b65aa265e"), looks := false }, kinds := [], alts := [], laidByText := true, laidKinds := [.data, .pinned], laidTests := true, laidLooks := .later }
def MediaMoreUptoCardSaid : Prop := Claim7.holds Tryd.pinned (.plain (OpenSpec.upto mediaMoreSpec)) mediaMoreUptoCard

/-- THE SECOND FORM's CARD OF 'langdoclaw10.MediaLabels'. -/
def mediaLabelsUptoCard : Claim7 := { stood := { row := mediaLabelsUptoRow, standIns := [], harness := (true, "7ef217f945e689061b8a2809a4772b15a669659c75480144a449ae1b65aa265e"), looks := false }, kinds := [], alts := [], laidByText := true, laidKinds := [.data, .pinned], laidTests := true, laidLooks := .later }
def MediaLabelsUptoCardSaid : Prop := Claim7.holds Tryd.pinned (.plain (OpenSpec.upto mediaLabelsSpec)) mediaLabelsUptoCard
end Rows
end Go.Proofs.YtbakigpobbjlhaaDoor
