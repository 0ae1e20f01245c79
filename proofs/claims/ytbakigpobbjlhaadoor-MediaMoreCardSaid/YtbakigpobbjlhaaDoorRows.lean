/-
  NARROWER THAN 'FOR EVERY INPUT', by the rows' own cells (each row's printed sentence says how): MediaNames: laid · MediaPeople: laid · MediaChecks: laid · MediaRecs: laid · MediaHeard: laid · MediaPrefix: laid · MediaMore: laid · MediaLabels: laid.
  DERIVED. THE GIVEN ROWS OF THIS SEAT. 8 by the template 'for every input the law returns true; each argument reads behind the call as it read before'; 0 by the template 'total and deterministic' (their statements: YtbakigpobbjlhaaDoorTotals.lean).
  GIVEN WITH THE SEED: the statements are not yours to turn. If you find one false, say at which input.
  Laid BY PROGRAM, IN A SANDBOX (cutbox-rows.mjs): the forced cells as the released guide's own fill.sh prints them over the translation b2be16ed86414c57… (all of the seat's roots in one cut). By AI agents, Wed Nov 11 2026. No macro, syntax, notation, axiom, sorry.
-/
import Derived.Test.YtbakigpobbjlhaaDoorChecked
import GoSem.PinnedTables
import GoSem.Claim
import GoSem.ClaimJoined
import GoSem.ClaimMapViews
import Derived.JoinedTies
import Derived.KernelRfl
namespace Go.Proofs.YtbakigpobbjlhaaDoor
/- THE CELL 'sum', in the pinned program and in every row, IS THE sha256 OF THE DUMP (.gsa) THAT YtbakigpobbjlhaaDoorProg.lean LOADS. Nothing in Lean hashes anything: it is a label: what it is worth is what the hold of that sum in a sandbox is worth. -/
noncomputable def Tryd.pinned : Pinned := { name := "ytbakigpobbjlhaadoor", sum := "b2be16ed86414c578dbe3b42c1dd503ed18235d0bf2b4a996ac958e0230f2a7e", checked := Tryd.checked }
namespace Rows
def none {H : Type} : Left H := { results := [], args := [] }

/- WHAT THE LISTED PACKAGE-LEVEL VARIABLES READ AS WHEN THE CALL BEGINS. Each datum BY PROGRAM (the guide's laid-datum.mjs) off the statement by which the dump's own 'gosem.cut.vars' lays the variable. In a bare row this is a premise. The card (YtbakigpobbjlhaaDoorCards.lean) ties it to the program's text. -/
def laid_unicode_utf8_acceptRanges {H : Type} : DataW H := .agg [.agg [.lit (.int .u8 128), .lit (.int .u8 191)], .agg [.lit (.int .u8 160), .lit (.int .u8 191)], .agg [.lit (.int .u8 128), .lit (.int .u8 159)], .agg [.lit (.int .u8 144), .lit (.int .u8 191)], .agg [.lit (.int .u8 128), .lit (.int .u8 143)], .agg [.lit (.int .u8 0), .lit (.int .u8 0)], .agg [.lit (.int .u8 0), .lit (.int .u8 0)], .agg [.lit (.int .u8 0), .lit (.int .u8 0)], .agg [.lit (.int .u8 0), .lit (.int .u8 0)], .agg [.lit (.int .u8 0), .lit (.int .u8 0)], .agg [.lit (.int .u8 0), .lit (.int .u8 0)], .agg [.lit (.int .u8 0), .lit (.int .u8 0)], .agg [.lit (.int .u8 0), .lit (.int .u8 0)], .agg [.lit (.int .u8 0), .lit (.int .u8 0)], .agg [.lit (.int .u8 0), .lit (.int .u8 0)], .agg [.lit (.int .u8 0), .lit (.int .u8 0)]]
/-- One of Go's own tables, pinned by name: the form's constant. -/
def laid_unicode_utf8_first : DataW Unit := Go.Pinned.utf8First

/-- 'langdoclaw10.MediaNames': WHATEVER THE INPUT: true; the input reads as it did. -/
def mediaNamesSpec : ChangeSpec := { name := "mediaNames", fn := fun _ => fun
  | [d] => { results := [.lit (.bool true)], args := [d] }
  | _ => none }
def mediaNamesRow : OpenClaim := { program := "ytbakigpobbjlhaadoor", sum := "b2be16ed86414c578dbe3b42c1dd503ed18235d0bf2b4a996ac958e0230f2a7e", func := "langdoc/langdoclaw10.MediaNames", spec := "mediaNames", unfollowed := true, recurses := true, named := ["unicode/utf8.first", "unicode/utf8.acceptRanges"], apart := false, laid := [("unicode/utf8.acceptRanges", laid_unicode_utf8_acceptRanges), ("unicode/utf8.first", laid_unicode_utf8_first)] }
def MediaNamesSaid : Prop := mediaNamesRow.holds Tryd.pinned (OpenSpec.ofChange mediaNamesSpec)

/-- ITS FALSE NEIGHBOUR: 'it returns false'. Refute it at one input. -/
def mediaNamesWrong : ChangeSpec := { name := "mediaNames", fn := fun _ => fun
  | [d] => { results := [.lit (.bool false)], args := [d] }
  | _ => none }
def MediaNamesWrongFalsely : Prop := mediaNamesRow.holds Tryd.pinned (OpenSpec.ofChange mediaNamesWrong)

/-- 'langdoclaw10.MediaPeople': WHATEVER THE INPUT: true; the input reads as it did. -/
def mediaPeopleSpec : ChangeSpec := { name := "mediaPeople", fn := fun _ => fun
  | [d1, d2] => { results := [.lit (.bool true)], args := [d1, d2] }
  | _ => none }
def mediaPeopleRow : OpenClaim := { program := "ytbakigpobbjlhaadoor", sum := "b2be16ed86414c578dbe3b42c1dd503ed18235d0bf2b4a996ac958e0230f2a7e", func := "langdoc/langdoclaw10.MediaPeople", spec := "mediaPeople", unfollowed := true, recurses := true, named := ["unicode/utf8.first", "unicode/utf8.acceptRanges"], apart := false, laid := [("unicode/utf8.acceptRanges", laid_unicode_utf8_acceptRanges), ("unicode/utf8.first", laid_unicode_utf8_first)] }
def MediaPeopleSaid : Prop := mediaPeopleRow.holds Tryd.pinned (OpenSpec.ofChange mediaPeopleSpec)

/-- ITS FALSE NEIGHBOUR: 'it returns false'. Refute it at one input. -/
def mediaPeopleWrong : ChangeSpec := { name := "mediaPeople", fn := fun _ => fun
  | [d1, d2] => { results := [.lit (.bool false)], args := [d1, d2] }
  | _ => none }
def MediaPeopleWrongFalsely : Prop := mediaPeopleRow.holds Tryd.pinned (OpenSpec.ofChange mediaPeopleWrong)

/-- 'langdoclaw10.MediaChecks': WHATEVER THE INPUT: true; the input reads as it did. -/
def mediaChecksSpec : ChangeSpec := { name := "mediaChecks", fn := fun _ => fun
  | [d1, d2] => { results := [.lit (.bool true)], args := [d1, d2] }
  | _ => none }
def mediaChecksRow : OpenClaim := { program := "ytbakigpobbjlhaadoor", sum := "b2be16ed86414c578dbe3b42c1dd503ed18235d0bf2b4a996ac958e0230f2a7e", func := "langdoc/langdoclaw10.MediaChecks", spec := "mediaChecks", unfollowed := true, recurses := true, named := ["unicode/utf8.first", "unicode/utf8.acceptRanges"], apart := false, laid := [("unicode/utf8.acceptRanges", laid_unicode_utf8_acceptRanges), ("unicode/utf8.first", laid_unicode_utf8_first)] }
def MediaChecksSaid : Prop := mediaChecksRow.holds Tryd.pinned (OpenSpec.ofChange mediaChecksSpec)

/-- ITS FALSE NEIGHBOUR: 'it returns false'. Refute it at one input. -/
def mediaChecksWrong : ChangeSpec := { name := "mediaChecks", fn := fun _ => fun
  | [d1, d2] => { results := [.lit (.bool false)], args := [d1, d2] }
  | _ => none }
def MediaChecksWrongFalsely : Prop := mediaChecksRow.holds Tryd.pinned (OpenSpec.ofChange mediaChecksWrong)

/-- 'langdoclaw10.MediaRecs': WHATEVER THE INPUT: true; the input reads as it did. -/
def mediaRecsSpec : ChangeSpec := { name := "mediaRecs", fn := fun _ => fun
  | [d1, d2] => { results := [.lit (.bool true)], args := [d1, d2] }
  | _ => none }
def mediaRecsRow : OpenClaim := { program := "ytbakigpobbjlhaadoor", sum := "b2be16ed86414c578dbe3b42c1dd503ed18235d0bf2b4a996ac958e0230f2a7e", func := "langdoc/langdoclaw10.MediaRecs", spec := "mediaRecs", unfollowed := true, recurses := true, named := ["unicode/utf8.first", "unicode/utf8.acceptRanges"], apart := false, laid := [("unicode/utf8.acceptRanges", laid_unicode_utf8_acceptRanges), ("unicode/utf8.first", laid_unicode_utf8_first)] }
def MediaRecsSaid : Prop := mediaRecsRow.holds Tryd.pinned (OpenSpec.ofChange mediaRecsSpec)

/-- ITS FALSE NEIGHBOUR: 'it returns false'. Refute it at one input. -/
def mediaRecsWrong : ChangeSpec := { name := "mediaRecs", fn := fun _ => fun
  | [d1, d2] => { results := [.lit (.bool false)], args := [d1, d2] }
  | _ => none }
def MediaRecsWrongFalsely : Prop := mediaRecsRow.holds Tryd.pinned (OpenSpec.ofChange mediaRecsWrong)

/-- 'langdoclaw10.MediaHeard': WHATEVER THE INPUT: true; the input reads as it did. -/
def mediaHeardSpec : ChangeSpec := { name := "mediaHeard", fn := fun _ => fun
  | [d1, d2] => { results := [.lit (.bool true)], args := [d1, d2] }
  | _ => none }
def mediaHeardRow : OpenClaim := { program := "ytbakigpobbjlhaadoor", sum := "b2be16ed86414c578dbe3b42c1dd503ed18235d0bf2b4a996ac958e0230f2a7e", func := "langdoc/langdoclaw10.MediaHeard", spec := "mediaHeard", unfollowed := true, recurses := true, named := ["unicode/utf8.first", "unicode/utf8.acceptRanges"], apart := false, laid := [("unicode/utf8.acceptRanges", laid_unicode_utf8_acceptRanges), ("unicode/utf8.first", laid_unicode_utf8_first)] }
def MediaHeardSaid : Prop := mediaHeardRow.holds Tryd.pinned (OpenSpec.ofChange mediaHeardSpec)

/-- ITS FALSE NEIGHBOUR: 'it returns false'. Refute it at one input. -/
def mediaHeardWrong : ChangeSpec := { name := "mediaHeard", fn := fun _ => fun
  | [d1, d2] => { results := [.lit (.bool false)], args := [d1, d2] }
  | _ => none }
def MediaHeardWrongFalsely : Prop := mediaHeardRow.holds Tryd.pinned (OpenSpec.ofChange mediaHeardWrong)

/-- 'langdoclaw10.MediaPrefix': WHATEVER THE INPUT: true; the input reads as it did. -/
def mediaPrefixSpec : ChangeSpec := { name := "mediaPrefix", fn := fun _ => fun
  | [d1, d2, d3] => { results := [.lit (.bool true)], args := [d1, d2, d3] }
  | _ => none }
def mediaPrefixRow : OpenClaim := { program := "ytbakigpobbjlhaadoor", sum := "b2be16ed86414c578dbe3b42c1dd503ed18235d0bf2b4a996ac958e0230f2a7e", func := "langdoc/langdoclaw10.MediaPrefix", spec := "mediaPrefix", unfollowed := true, recurses := true, named := ["unicode/utf8.first", "unicode/utf8.acceptRanges"], apart := false, laid := [("unicode/utf8.acceptRanges", laid_unicode_utf8_acceptRanges), ("unicode/utf8.first", laid_unicode_utf8_first)] }
def MediaPrefixSaid : Prop := mediaPrefixRow.holds Tryd.pinned (OpenSpec.ofChange mediaPrefixSpec)

/-- ITS FALSE NEIGHBOUR: 'it returns false'. Refute it at one input. -/
def mediaPrefixWrong : ChangeSpec := { name := "mediaPrefix", fn := fun _ => fun
  | [d1, d2, d3] => { results := [.lit (.bool false)], args := [d1, d2, d3] }
  | _ => none }
def MediaPrefixWrongFalsely : Prop := mediaPrefixRow.holds Tryd.pinned (OpenSpec.ofChange mediaPrefixWrong)

/-- 'langdoclaw10.MediaMore': WHATEVER THE INPUT: true; the input reads as it did. -/
def mediaMoreSpec : ChangeSpec := { name := "mediaMore", fn := fun _ => fun
  | [d1, d2, d3] => { results := [.lit (.bool true)], args := [d1, d2, d3] }
  | _ => none }
def mediaMoreRow : OpenClaim := { program := "ytbakigpobbjlhaadoor", sum := "b2be16ed86414c578dbe3b42c1dd503ed18235d0bf2b4a996ac958e0230f2a7e", func := "langdoc/langdoclaw10.MediaMore", spec := "mediaMore", unfollowed := true, recurses := true, named := ["unicode/utf8.first", "unicode/utf8.acceptRanges"], apart := false, laid := [("unicode/utf8.acceptRanges", laid_unicode_utf8_acceptRanges), ("unicode/utf8.first", laid_unicode_utf8_first)] }
def MediaMoreSaid : Prop := mediaMoreRow.holds Tryd.pinned (OpenSpec.ofChange mediaMoreSpec)

/-- ITS FALSE NEIGHBOUR: 'it returns false'. Refute it at one input. -/
def mediaMoreWrong : ChangeSpec := { name := "mediaMore", fn := fun _ => fun
  | [d1, d2, d3] => { results := [.lit (.bool false)], args := [d1, d2, d3] }
  | _ => none }
def MediaMoreWrongFalsely : Prop := mediaMoreRow.holds Tryd.pinned (OpenSpec.ofChange mediaMoreWrong)

/-- 'langdoclaw10.MediaLabels': WHATEVER THE INPUT: true; the input reads as it did. -/
def mediaLabelsSpec : ChangeSpec := { name := "mediaLabels", fn := fun _ => fun
  | [d1, d2, d3] => { results := [.lit (.bool true)], args := [d1, d2, d3] }
  | _ => none }
def mediaLabelsRow : OpenClaim := { program := "ytbakigpobbjlhaadoor", sum := "b2be16ed86414c578dbe3b42c1dd503ed18235d0bf2b4a996ac958e0230f2a7e", func := "langdoc/langdoclaw10.MediaLabels", spec := "mediaLabels", unfollowed := true, recurses := true, named := ["unicode/utf8.first", "unicode/utf8.acceptRanges"], apart := false, laid := [("unicode/utf8.acceptRanges", laid_unicode_utf8_acceptRanges), ("unicode/utf8.first", laid_unicode_utf8_first)] }
def MediaLabelsSaid : Prop := mediaLabelsRow.holds Tryd.pinned (OpenSpec.ofChange mediaLabelsSpec)

/-- ITS FALSE NEIGHBOUR: 'it returns false'. Refute it at one input. -/
def mediaLabelsWrong : ChangeSpec := { name := "mediaLabels", fn := fun _ => fun
  | [d1, d2, d3] => { results := [.lit (.bool false)], args := [d1, d2, d3] }
  | _ => none }
def MediaLabelsWrongFalsely : Prop := mediaLabelsRow.holds Tryd.pinned (OpenSpec.ofChange mediaLabelsWrong)

/- THE SECOND FORM. 'bulk': how many values and letters a reading holds, each counted each time it is reached (what is shared counts as often as it is met; a slice's spare places count too). A statement '..UptoSaid' is the law's where the arguments, and the package variables that the reading takes, are together of bulk at most 1048576: NARROWER than '..Said'. Prove '..Said' where nothing that the law and all that it calls make is longer than what came in: it says more and counts as full. Else prove '..UptoSaid'. A law counts once. -/
mutual
def uptoBulk {H : Type} : DataW H → Nat
  | .lit (.string bytes) => bytes.length + 1
  | .lit _ => 1
  | .nil => 1
  | .ptr d => uptoBulk d + 1
  | .slice elems spare => uptoBulkAll elems + uptoBulkAll spare + 1
  | .agg parts => uptoBulkAll parts + 1
  | .iface _ d => uptoBulk d + 1
  | .map entries => uptoBulkEntries entries + 1
  | .held _ => 1
def uptoBulkAll {H : Type} : List (DataW H) → Nat
  | [] => 0
  | d :: r => uptoBulk d + uptoBulkAll r
def uptoBulkEntries {H : Type} : List (Lit × DataW H) → Nat
  | [] => 0
  | x :: r => uptoBulkEntry x + uptoBulkEntries r
def uptoBulkEntry {H : Type} : Lit × DataW H → Nat
  | (.string bytes, d) => bytes.length + uptoBulk d + 1
  | (_, d) => uptoBulk d + 1
 end
def uptoSmall : (H : Type) → List (DataW H) → Bool := fun _ ds => decide (uptoBulkAll ds ≤ 1048576)
def OpenSpec.upto (s : _root_.Go.ChangeSpec) : _root_.Go.OpenSpec := { _root_.Go.OpenSpec.ofChange s with cond := some uptoSmall }

/-- 'langdoclaw10.MediaNames', WHERE WHAT IT READS IS OF BULK AT MOST 1048576: true; the input reads as it did. -/
def mediaNamesUptoRow : OpenClaim := { program := "ytbakigpobbjlhaadoor", sum := "b2be16ed86414c578dbe3b42c1dd503ed18235d0bf2b4a996ac958e0230f2a7e", func := "langdoc/langdoclaw10.MediaNames", spec := "mediaNames", unfollowed := true, recurses := true, named := ["unicode/utf8.first", "unicode/utf8.acceptRanges"], apart := false, laid := [("unicode/utf8.acceptRanges", laid_unicode_utf8_acceptRanges), ("unicode/utf8.first", laid_unicode_utf8_first)], narrowed := true }
def MediaNamesUptoSaid : Prop := mediaNamesUptoRow.holds Tryd.pinned (OpenSpec.upto mediaNamesSpec)

/-- 'langdoclaw10.MediaPeople', WHERE WHAT IT READS IS OF BULK AT MOST 1048576: true; the input reads as it did. -/
def mediaPeopleUptoRow : OpenClaim := { program := "ytbakigpobbjlhaadoor", sum := "b2be16ed86414c578dbe3b42c1dd503ed18235d0bf2b4a996ac958e0230f2a7e", func := "langdoc/langdoclaw10.MediaPeople", spec := "mediaPeople", unfollowed := true, recurses := true, named := ["unicode/utf8.first", "unicode/utf8.acceptRanges"], apart := false, laid := [("unicode/utf8.acceptRanges", laid_unicode_utf8_acceptRanges), ("unicode/utf8.first", laid_unicode_utf8_first)], narrowed := true }
def MediaPeopleUptoSaid : Prop := mediaPeopleUptoRow.holds Tryd.pinned (OpenSpec.upto mediaPeopleSpec)

/-- 'langdoclaw10.MediaChecks', WHERE WHAT IT READS IS OF BULK AT MOST 1048576: true; the input reads as it did. -/
def mediaChecksUptoRow : OpenClaim := { program := "ytbakigpobbjlhaadoor", sum := "b2be16ed86414c578dbe3b42c1dd503ed18235d0bf2b4a996ac958e0230f2a7e", func := "langdoc/langdoclaw10.MediaChecks", spec := "mediaChecks", unfollowed := true, recurses := true, named := ["unicode/utf8.first", "unicode/utf8.acceptRanges"], apart := false, laid := [("unicode/utf8.acceptRanges", laid_unicode_utf8_acceptRanges), ("unicode/utf8.first", laid_unicode_utf8_first)], narrowed := true }
def MediaChecksUptoSaid : Prop := mediaChecksUptoRow.holds Tryd.pinned (OpenSpec.upto mediaChecksSpec)

/-- 'langdoclaw10.MediaRecs', WHERE WHAT IT READS IS OF BULK AT MOST 1048576: true; the input reads as it did. -/
def mediaRecsUptoRow : OpenClaim := { program := "ytbakigpobbjlhaadoor", sum := "b2be16ed86414c578dbe3b42c1dd503ed18235d0bf2b4a996ac958e0230f2a7e", func := "langdoc/langdoclaw10.MediaRecs", spec := "mediaRecs", unfollowed := true, recurses := true, named := ["unicode/utf8.first", "unicode/utf8.acceptRanges"], apart := false, laid := [("unicode/utf8.acceptRanges", laid_unicode_utf8_acceptRanges), ("unicode/utf8.first", laid_unicode_utf8_first)], narrowed := true }
def MediaRecsUptoSaid : Prop := mediaRecsUptoRow.holds Tryd.pinned (OpenSpec.upto mediaRecsSpec)

/-- 'langdoclaw10.MediaHeard', WHERE WHAT IT READS IS OF BULK AT MOST 1048576: true; the input reads as it did. -/
def mediaHeardUptoRow : OpenClaim := { program := "ytbakigpobbjlhaadoor", sum := "b2be16ed86414c578dbe3b42c1dd503ed18235d0bf2b4a996ac958e0230f2a7e", func := "langdoc/langdoclaw10.MediaHeard", spec := "mediaHeard", unfollowed := true, recurses := true, named := ["unicode/utf8.first", "unicode/utf8.acceptRanges"], apart := false, laid := [("unicode/utf8.acceptRanges", laid_unicode_utf8_acceptRanges), ("unicode/utf8.first", laid_unicode_utf8_first)], narrowed := true }
def MediaHeardUptoSaid : Prop := mediaHeardUptoRow.holds Tryd.pinned (OpenSpec.upto mediaHeardSpec)

/-- 'langdoclaw10.MediaPrefix', WHERE WHAT IT READS IS OF BULK AT MOST 1048576: true; the input reads as it did. -/
def mediaPrefixUptoRow : OpenClaim := { program := "ytbakigpobbjlhaadoor", sum := "b2be16ed86414c578dbe3b42c1dd503ed18235d0bf2b4a996ac958e0230f2a7e", func := "langdoc/langdoclaw10.MediaPrefix", spec := "mediaPrefix", unfollowed := true, recurses := true, named := ["unicode/utf8.first", "unicode/utf8.acceptRanges"], apart := false, laid := [("unicode/utf8.acceptRanges", laid_unicode_utf8_acceptRanges), ("unicode/utf8.first", laid_unicode_utf8_first)], narrowed := true }
def MediaPrefixUptoSaid : Prop := mediaPrefixUptoRow.holds Tryd.pinned (OpenSpec.upto mediaPrefixSpec)

/-- 'langdoclaw10.MediaMore', WHERE WHAT IT READS IS OF BULK AT MOST 1048576: true; the input reads as it did. -/
def mediaMoreUptoRow : OpenClaim := { program := "ytbakigpobbjlhaadoor", sum := "b2be16ed86414c578dbe3b42c1dd503ed18235d0bf2b4a996ac958e0230f2a7e", func := "langdoc/langdoclaw10.MediaMore", spec := "mediaMore", unfollowed := true, recurses := true, named := ["unicode/utf8.first", "unicode/utf8.acceptRanges"], apart := false, laid := [("unicode/utf8.acceptRanges", laid_unicode_utf8_acceptRanges), ("unicode/utf8.first", laid_unicode_utf8_first)], narrowed := true }
def MediaMoreUptoSaid : Prop := mediaMoreUptoRow.holds Tryd.pinned (OpenSpec.upto mediaMoreSpec)

/-- 'langdoclaw10.MediaLabels', WHERE WHAT IT READS IS OF BULK AT MOST 1048576: true; the input reads as it did. -/
def mediaLabelsUptoRow : OpenClaim := { program := "ytbakigpobbjlhaadoor", sum := "b2be16ed86414c578dbe3b42c1dd503ed18235d0bf2b4a996ac958e0230f2a7e", func := "langdoc/langdoclaw10.MediaLabels", spec := "mediaLabels", unfollowed := true, recurses := true, named := ["unicode/utf8.first", "unicode/utf8.acceptRanges"], apart := false, laid := [("unicode/utf8.acceptRanges", laid_unicode_utf8_acceptRanges), ("unicode/utf8.first", laid_unicode_utf8_first)], narrowed := true }
def MediaLabelsUptoSaid : Prop := mediaLabelsUptoRow.holds Tryd.pinned (OpenSpec.upto mediaLabelsSpec)

end Rows
end Go.Proofs.YtbakigpobbjlhaaDoor
