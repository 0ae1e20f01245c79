/-
  NARROWER THAN 'FOR EVERY INPUT', by the rows' own cells (each row's printed sentence says how): PhonemeChecks: laid · PhonemeClasses: laid · PhonemeNatural: laid · PhonemeWords: laid · PhonemeLeast: laid · PhonemeMeets: laid · PhonemeFinds: laid · PhonemeJoins: laid.
  DERIVED. THE GIVEN ROWS OF THIS SEAT. 8 by the template 'for every input the law returns true; each argument reads behind the call as it read before'; 0 by the template 'total and deterministic' (their statements: YtkbmoekomicjeaaDoorTotals.lean).
  GIVEN WITH THE SEED: the statements are not yours to turn. If you find one false, say at which input.
  Laid BY PROGRAM, IN A SANDBOX (cutbox-rows.mjs): the forced cells as the released guide's own fill.sh prints them over the translation e25f74a6ea0ebd22… (all of the seat's roots in one cut). By AI agents, Wed Nov 11 2026. No macro, syntax, notation, axiom, sorry.
-/
import Derived.Test.YtkbmoekomicjeaaDoorChecked
import GoSem.PinnedTables
import GoSem.Claim
import GoSem.ClaimJoined
import GoSem.ClaimMapViews
import Derived.JoinedTies
import Derived.KernelRfl
namespace Go.Proofs.YtkbmoekomicjeaaDoor
/- THE CELL 'sum', in the pinned program and in every row, IS THE sha256 OF THE DUMP (.gsa) THAT YtkbmoekomicjeaaDoorProg.lean LOADS. Nothing in Lean hashes anything: it is a label: what it is worth is what the hold of that sum in a sandbox is worth. -/
noncomputable def Tryd.pinned : Pinned := { name := "ytkbmoekomicjeaadoor", sum := "e25f74a6ea0ebd221e24786c7b89b2c06ea49022ebbca6595d57154449a48647", checked := Tryd.checked }
namespace Rows
def none {H : Type} : Left H := { results := [], args := [] }

/- WHAT THE LISTED PACKAGE-LEVEL VARIABLES READ AS WHEN THE CALL BEGINS. Each datum BY PROGRAM (the guide's laid-datum.mjs) off the statement by which the dump's own 'gosem.cut.vars' lays the variable. In a bare row this is a premise. The card (YtkbmoekomicjeaaDoorCards.lean) ties it to the program's text. -/
def laid_unicode_utf8_acceptRanges {H : Type} : DataW H := .agg [.agg [.lit (.int .u8 128), .lit (.int .u8 191)], .agg [.lit (.int .u8 160), .lit (.int .u8 191)], .agg [.lit (.int .u8 128), .lit (.int .u8 159)], .agg [.lit (.int .u8 144), .lit (.int .u8 191)], .agg [.lit (.int .u8 128), .lit (.int .u8 143)], .agg [.lit (.int .u8 0), .lit (.int .u8 0)], .agg [.lit (.int .u8 0), .lit (.int .u8 0)], .agg [.lit (.int .u8 0), .lit (.int .u8 0)], .agg [.lit (.int .u8 0), .lit (.int .u8 0)], .agg [.lit (.int .u8 0), .lit (.int .u8 0)], .agg [.lit (.int .u8 0), .lit (.int .u8 0)], .agg [.lit (.int .u8 0), .lit (.int .u8 0)], .agg [.lit (.int .u8 0), .lit (.int .u8 0)], .agg [.lit (.int .u8 0), .lit (.int .u8 0)], .agg [.lit (.int .u8 0), .lit (.int .u8 0)], .agg [.lit (.int .u8 0), .lit (.int .u8 0)]]
/-- One of Go's own tables, pinned by name: the form's constant. -/
def laid_unicode_utf8_first : DataW Unit := Go.Pinned.utf8First

/-- 'langdoclaw16.PhonemeChecks': WHATEVER THE INPUT: true; the input reads as it did. -/
def phonemeChecksSpec : ChangeSpec := { name := "phonemeChecks", fn := fun _ => fun
  | [d] => { results := [.lit (.bool true)], args := [d] }
  | _ => none }
def phonemeChecksRow : OpenClaim := { program := "ytkbmoekomicjeaadoor", sum := "e25f74a6ea0ebd221e24786c7b89b2c06ea49022ebbca6595d57154449a48647", func := "langdoc/langdoclaw16.PhonemeChecks", spec := "phonemeChecks", unfollowed := true, recurses := true, named := ["unicode/utf8.first", "unicode/utf8.acceptRanges"], apart := false, laid := [("unicode/utf8.acceptRanges", laid_unicode_utf8_acceptRanges), ("unicode/utf8.first", laid_unicode_utf8_first)] }
def PhonemeChecksSaid : Prop := phonemeChecksRow.holds Tryd.pinned (OpenSpec.ofChange phonemeChecksSpec)

/-- ITS FALSE NEIGHBOUR: 'it returns false'. Refute it at one input. -/
def phonemeChecksWrong : ChangeSpec := { name := "phonemeChecks", fn := fun _ => fun
  | [d] => { results := [.lit (.bool false)], args := [d] }
  | _ => none }
def PhonemeChecksWrongFalsely : Prop := phonemeChecksRow.holds Tryd.pinned (OpenSpec.ofChange phonemeChecksWrong)

/-- 'langdoclaw16.PhonemeClasses': WHATEVER THE INPUT: true; the input reads as it did. -/
def phonemeClassesSpec : ChangeSpec := { name := "phonemeClasses", fn := fun _ => fun
  | [d1, d2, d3] => { results := [.lit (.bool true)], args := [d1, d2, d3] }
  | _ => none }
def phonemeClassesRow : OpenClaim := { program := "ytkbmoekomicjeaadoor", sum := "e25f74a6ea0ebd221e24786c7b89b2c06ea49022ebbca6595d57154449a48647", func := "langdoc/langdoclaw16.PhonemeClasses", spec := "phonemeClasses", unfollowed := true, recurses := true, named := ["unicode/utf8.first", "unicode/utf8.acceptRanges"], apart := false, laid := [("unicode/utf8.acceptRanges", laid_unicode_utf8_acceptRanges), ("unicode/utf8.first", laid_unicode_utf8_first)] }
def PhonemeClassesSaid : Prop := phonemeClassesRow.holds Tryd.pinned (OpenSpec.ofChange phonemeClassesSpec)

/-- ITS FALSE NEIGHBOUR: 'it returns false'. Refute it at one input. -/
def phonemeClassesWrong : ChangeSpec := { name := "phonemeClasses", fn := fun _ => fun
  | [d1, d2, d3] => { results := [.lit (.bool false)], args := [d1, d2, d3] }
  | _ => none }
def PhonemeClassesWrongFalsely : Prop := phonemeClassesRow.holds Tryd.pinned (OpenSpec.ofChange phonemeClassesWrong)

/-- 'langdoclaw16.PhonemeNatural': WHATEVER THE INPUT: true; the input reads as it did. -/
def phonemeNaturalSpec : ChangeSpec := { name := "phonemeNatural", fn := fun _ => fun
  | [d1, d2] => { results := [.lit (.bool true)], args := [d1, d2] }
  | _ => none }
def phonemeNaturalRow : OpenClaim := { program := "ytkbmoekomicjeaadoor", sum := "e25f74a6ea0ebd221e24786c7b89b2c06ea49022ebbca6595d57154449a48647", func := "langdoc/langdoclaw16.PhonemeNatural", spec := "phonemeNatural", unfollowed := true, recurses := true, named := ["unicode/utf8.first", "unicode/utf8.acceptRanges"], apart := false, laid := [("unicode/utf8.acceptRanges", laid_unicode_utf8_acceptRanges), ("unicode/utf8.first", laid_unicode_utf8_first)] }
def PhonemeNaturalSaid : Prop := phonemeNaturalRow.holds Tryd.pinned (OpenSpec.ofChange phonemeNaturalSpec)

/-- ITS FALSE NEIGHBOUR: 'it returns false'. Refute it at one input. -/
def phonemeNaturalWrong : ChangeSpec := { name := "phonemeNatural", fn := fun _ => fun
  | [d1, d2] => { results := [.lit (.bool false)], args := [d1, d2] }
  | _ => none }
def PhonemeNaturalWrongFalsely : Prop := phonemeNaturalRow.holds Tryd.pinned (OpenSpec.ofChange phonemeNaturalWrong)

/-- 'langdoclaw16.PhonemeWords': WHATEVER THE INPUT: true; the input reads as it did. -/
def phonemeWordsSpec : ChangeSpec := { name := "phonemeWords", fn := fun _ => fun
  | [d1, d2, d3] => { results := [.lit (.bool true)], args := [d1, d2, d3] }
  | _ => none }
def phonemeWordsRow : OpenClaim := { program := "ytkbmoekomicjeaadoor", sum := "e25f74a6ea0ebd221e24786c7b89b2c06ea49022ebbca6595d57154449a48647", func := "langdoc/langdoclaw16.PhonemeWords", spec := "phonemeWords", unfollowed := true, recurses := true, named := ["unicode/utf8.first", "unicode/utf8.acceptRanges"], apart := false, laid := [("unicode/utf8.acceptRanges", laid_unicode_utf8_acceptRanges), ("unicode/utf8.first", laid_unicode_utf8_first)] }
def PhonemeWordsSaid : Prop := phonemeWordsRow.holds Tryd.pinned (OpenSpec.ofChange phonemeWordsSpec)

/-- ITS FALSE NEIGHBOUR: 'it returns false'. Refute it at one input. -/
def phonemeWordsWrong : ChangeSpec := { name := "phonemeWords", fn := fun _ => fun
  | [d1, d2, d3] => { results := [.lit (.bool false)], args := [d1, d2, d3] }
  | _ => none }
def PhonemeWordsWrongFalsely : Prop := phonemeWordsRow.holds Tryd.pinned (OpenSpec.ofChange phonemeWordsWrong)

/-- 'langdoclaw16.PhonemeLeast': WHATEVER THE INPUT: true; the input reads as it did. -/
def phonemeLeastSpec : ChangeSpec := { name := "phonemeLeast", fn := fun _ => fun
  | [d1, d2, d3] => { results := [.lit (.bool true)], args := [d1, d2, d3] }
  | _ => none }
def phonemeLeastRow : OpenClaim := { program := "ytkbmoekomicjeaadoor", sum := "e25f74a6ea0ebd221e24786c7b89b2c06ea49022ebbca6595d57154449a48647", func := "langdoc/langdoclaw16.PhonemeLeast", spec := "phonemeLeast", unfollowed := true, recurses := true, named := ["unicode/utf8.first", "unicode/utf8.acceptRanges"], apart := false, laid := [("unicode/utf8.acceptRanges", laid_unicode_utf8_acceptRanges), ("unicode/utf8.first", laid_unicode_utf8_first)] }
def PhonemeLeastSaid : Prop := phonemeLeastRow.holds Tryd.pinned (OpenSpec.ofChange phonemeLeastSpec)

/-- ITS FALSE NEIGHBOUR: 'it returns false'. Refute it at one input. -/
def phonemeLeastWrong : ChangeSpec := { name := "phonemeLeast", fn := fun _ => fun
  | [d1, d2, d3] => { results := [.lit (.bool false)], args := [d1, d2, d3] }
  | _ => none }
def PhonemeLeastWrongFalsely : Prop := phonemeLeastRow.holds Tryd.pinned (OpenSpec.ofChange phonemeLeastWrong)

/-- 'langdoclaw16.PhonemeMeets': WHATEVER THE INPUT: true; the input reads as it did. -/
def phonemeMeetsSpec : ChangeSpec := { name := "phonemeMeets", fn := fun _ => fun
  | [d1, d2, d3] => { results := [.lit (.bool true)], args := [d1, d2, d3] }
  | _ => none }
def phonemeMeetsRow : OpenClaim := { program := "ytkbmoekomicjeaadoor", sum := "e25f74a6ea0ebd221e24786c7b89b2c06ea49022ebbca6595d57154449a48647", func := "langdoc/langdoclaw16.PhonemeMeets", spec := "phonemeMeets", unfollowed := true, recurses := true, named := ["unicode/utf8.first", "unicode/utf8.acceptRanges"], apart := false, laid := [("unicode/utf8.acceptRanges", laid_unicode_utf8_acceptRanges), ("unicode/utf8.first", laid_unicode_utf8_first)] }
def PhonemeMeetsSaid : Prop := phonemeMeetsRow.holds Tryd.pinned (OpenSpec.ofChange phonemeMeetsSpec)

/-- ITS FALSE NEIGHBOUR: 'it returns false'. Refute it at one input. -/
def phonemeMeetsWrong : ChangeSpec := { name := "phonemeMeets", fn := fun _ => fun
  | [d1, d2, d3] => { results := [.lit (.bool false)], args := [d1, d2, d3] }
  | _ => none }
def PhonemeMeetsWrongFalsely : Prop := phonemeMeetsRow.holds Tryd.pinned (OpenSpec.ofChange phonemeMeetsWrong)

/-- 'langdoclaw16.PhonemeFinds': WHATEVER THE INPUT: true; the input reads as it did. -/
def phonemeFindsSpec : ChangeSpec := { name := "phonemeFinds", fn := fun _ => fun
  | [d1, d2] => { results := [.lit (.bool true)], args := [d1, d2] }
  | _ => none }
def phonemeFindsRow : OpenClaim := { program := "ytkbmoekomicjeaadoor", sum := "e25f74a6ea0ebd221e24786c7b89b2c06ea49022ebbca6595d57154449a48647", func := "langdoc/langdoclaw16.PhonemeFinds", spec := "phonemeFinds", unfollowed := true, recurses := true, named := ["unicode/utf8.first", "unicode/utf8.acceptRanges"], apart := false, laid := [("unicode/utf8.acceptRanges", laid_unicode_utf8_acceptRanges), ("unicode/utf8.first", laid_unicode_utf8_first)] }
def PhonemeFindsSaid : Prop := phonemeFindsRow.holds Tryd.pinned (OpenSpec.ofChange phonemeFindsSpec)

/-- ITS FALSE NEIGHBOUR: 'it returns false'. Refute it at one input. -/
def phonemeFindsWrong : ChangeSpec := { name := "phonemeFinds", fn := fun _ => fun
  | [d1, d2] => { results := [.lit (.bool false)], args := [d1, d2] }
  | _ => none }
def PhonemeFindsWrongFalsely : Prop := phonemeFindsRow.holds Tryd.pinned (OpenSpec.ofChange phonemeFindsWrong)

/-- 'langdoclaw16.PhonemeJoins': WHATEVER THE INPUT: true; the input reads as it did. -/
def phonemeJoinsSpec : ChangeSpec := { name := "phonemeJoins", fn := fun _ => fun
  | [d1, d2, d3] => { results := [.lit (.bool true)], args := [d1, d2, d3] }
  | _ => none }
def phonemeJoinsRow : OpenClaim := { program := "ytkbmoekomicjeaadoor", sum := "e25f74a6ea0ebd221e24786c7b89b2c06ea49022ebbca6595d57154449a48647", func := "langdoc/langdoclaw16.PhonemeJoins", spec := "phonemeJoins", unfollowed := true, recurses := true, named := ["unicode/utf8.first", "unicode/utf8.acceptRanges"], apart := false, laid := [("unicode/utf8.acceptRanges", laid_unicode_utf8_acceptRanges), ("unicode/utf8.first", laid_unicode_utf8_first)] }
def PhonemeJoinsSaid : Prop := phonemeJoinsRow.holds Tryd.pinned (OpenSpec.ofChange phonemeJoinsSpec)

/-- ITS FALSE NEIGHBOUR: 'it returns false'. Refute it at one input. -/
def phonemeJoinsWrong : ChangeSpec := { name := "phonemeJoins", fn := fun _ => fun
  | [d1, d2, d3] => { results := [.lit (.bool false)], args := [d1, d2, d3] }
  | _ => none }
def PhonemeJoinsWrongFalsely : Prop := phonemeJoinsRow.holds Tryd.pinned (OpenSpec.ofChange phonemeJoinsWrong)

/- THE SECOND FORM. 'bulk': how many values and letters a reading holds, each counted each time it is reached (what is shared counts as often as it is met; a slice's spare places count too). A statement '..UptoSaid' is the law's where the arguments, and the package variables that the reading takes, are together of bulk at most 1048576: NARROWER than '..Said'. Prove '..Said' where nothing that the law and all that it calls make is longer than what came in: it says more and counts as full. Else prove '..UptoSaid'. A law counts once. -/
mutual
def uptoBulk {H : Type} : DataW H → Nat
  | .lit (.string bytes) => bytes.length + 1
  | .lit _ => 1
  | .nil => 1
  | .ptr d => uptoBulk d + 1
  | .slice elems spare => uptoBulkAll elems + uptoBulkAll spare + 1
  | .agg parts => uptoBulkAll parts + 1
  | .iface _ d => uptoBulk d + 1
  | .map entries => uptoBulkEntries entries + 1
  | .held _ => 1
def uptoBulkAll {H : Type} : List (DataW H) → Nat
  | [] => 0
  | d :: r => uptoBulk d + uptoBulkAll r
def uptoBulkEntries {H : Type} : List (Lit × DataW H) → Nat
  | [] => 0
  | x :: r => uptoBulkEntry x + uptoBulkEntries r
def uptoBulkEntry {H : Type} : Lit × DataW H → Nat
  | (.string bytes, d) => bytes.length + uptoBulk d + 1
  | (_, d) => uptoBulk d + 1
 end
def uptoSmall : (H : Type) → List (DataW H) → Bool := fun _ ds => decide (uptoBulkAll ds ≤ 1048576)
def OpenSpec.upto (s : _root_.Go.ChangeSpec) : _root_.Go.OpenSpec := { _root_.Go.OpenSpec.ofChange s with cond := some uptoSmall }

/-- 'langdoclaw16.PhonemeChecks', WHERE WHAT IT READS IS OF BULK AT MOST 1048576: true; the input reads as it did. -/
def phonemeChecksUptoRow : OpenClaim := { program := "ytkbmoekomicjeaadoor", sum := "e25f74a6ea0ebd221e24786c7b89b2c06ea49022ebbca6595d57154449a48647", func := "langdoc/langdoclaw16.PhonemeChecks", spec := "phonemeChecks", unfollowed := true, recurses := true, named := ["unicode/utf8.first", "unicode/utf8.acceptRanges"], apart := false, laid := [("unicode/utf8.acceptRanges", laid_unicode_utf8_acceptRanges), ("unicode/utf8.first", laid_unicode_utf8_first)], narrowed := true }
def PhonemeChecksUptoSaid : Prop := phonemeChecksUptoRow.holds Tryd.pinned (OpenSpec.upto phonemeChecksSpec)

/-- 'langdoclaw16.PhonemeClasses', WHERE WHAT IT READS IS OF BULK AT MOST 1048576: true; the input reads as it did. -/
def phonemeClassesUptoRow : OpenClaim := { program := "ytkbmoekomicjeaadoor", sum := "e25f74a6ea0ebd221e24786c7b89b2c06ea49022ebbca6595d57154449a48647", func := "langdoc/langdoclaw16.PhonemeClasses", spec := "phonemeClasses", unfollowed := true, recurses := true, named := ["unicode/utf8.first", "unicode/utf8.acceptRanges"], apart := false, laid := [("unicode/utf8.acceptRanges", laid_unicode_utf8_acceptRanges), ("unicode/utf8.first", laid_unicode_utf8_first)], narrowed := true }
def PhonemeClassesUptoSaid : Prop := phonemeClassesUptoRow.holds Tryd.pinned (OpenSpec.upto phonemeClassesSpec)

/-- 'langdoclaw16.PhonemeNatural', WHERE WHAT IT READS IS OF BULK AT MOST 1048576: true; the input reads as it did. -/
def phonemeNaturalUptoRow : OpenClaim := { program := "ytkbmoekomicjeaadoor", sum := "e25f74a6ea0ebd221e24786c7b89b2c06ea49022ebbca6595d57154449a48647", func := "langdoc/langdoclaw16.PhonemeNatural", spec := "phonemeNatural", unfollowed := true, recurses := true, named := ["unicode/utf8.first", "unicode/utf8.acceptRanges"], apart := false, laid := [("unicode/utf8.acceptRanges", laid_unicode_utf8_acceptRanges), ("unicode/utf8.first", laid_unicode_utf8_first)], narrowed := true }
def PhonemeNaturalUptoSaid : Prop := phonemeNaturalUptoRow.holds Tryd.pinned (OpenSpec.upto phonemeNaturalSpec)

/-- 'langdoclaw16.PhonemeWords', WHERE WHAT IT READS IS OF BULK AT MOST 1048576: true; the input reads as it did. -/
def phonemeWordsUptoRow : OpenClaim := { program := "ytkbmoekomicjeaadoor", sum := "e25f74a6ea0ebd221e24786c7b89b2c06ea49022ebbca6595d57154449a48647", func := "langdoc/langdoclaw16.PhonemeWords", spec := "phonemeWords", unfollowed := true, recurses := true, named := ["unicode/utf8.first", "unicode/utf8.acceptRanges"], apart := false, laid := [("unicode/utf8.acceptRanges", laid_unicode_utf8_acceptRanges), ("unicode/utf8.first", laid_unicode_utf8_first)], narrowed := true }
def PhonemeWordsUptoSaid : Prop := phonemeWordsUptoRow.holds Tryd.pinned (OpenSpec.upto phonemeWordsSpec)

/-- 'langdoclaw16.PhonemeLeast', WHERE WHAT IT READS IS OF BULK AT MOST 1048576: true; the input reads as it did. -/
def phonemeLeastUptoRow : OpenClaim := { program := "ytkbmoekomicjeaadoor", sum := "e25f74a6ea0ebd221e24786c7b89b2c06ea49022ebbca6595d57154449a48647", func := "langdoc/langdoclaw16.PhonemeLeast", spec := "phonemeLeast", unfollowed := true, recurses := true, named := ["unicode/utf8.first", "unicode/utf8.acceptRanges"], apart := false, laid := [("unicode/utf8.acceptRanges", laid_unicode_utf8_acceptRanges), ("unicode/utf8.first", laid_unicode_utf8_first)], narrowed := true }
def PhonemeLeastUptoSaid : Prop := phonemeLeastUptoRow.holds Tryd.pinned (OpenSpec.upto phonemeLeastSpec)

/-- 'langdoclaw16.PhonemeMeets', WHERE WHAT IT READS IS OF BULK AT MOST 1048576: true; the input reads as it did. -/
def phonemeMeetsUptoRow : OpenClaim := { program := "ytkbmoekomicjeaadoor", sum := "e25f74a6ea0ebd221e24786c7b89b2c06ea49022ebbca6595d57154449a48647", func := "langdoc/langdoclaw16.PhonemeMeets", spec := "phonemeMeets", unfollowed := true, recurses := true, named := ["unicode/utf8.first", "unicode/utf8.acceptRanges"], apart := false, laid := [("unicode/utf8.acceptRanges", laid_unicode_utf8_acceptRanges), ("unicode/utf8.first", laid_unicode_utf8_first)], narrowed := true }
def PhonemeMeetsUptoSaid : Prop := phonemeMeetsUptoRow.holds Tryd.pinned (OpenSpec.upto phonemeMeetsSpec)

/-- 'langdoclaw16.PhonemeFinds', WHERE WHAT IT READS IS OF BULK AT MOST 1048576: true; the input reads as it did. -/
def phonemeFindsUptoRow : OpenClaim := { program := "ytkbmoekomicjeaadoor", sum := "e25f74a6ea0ebd221e24786c7b89b2c06ea49022ebbca6595d57154449a48647", func := "langdoc/langdoclaw16.PhonemeFinds", spec := "phonemeFinds", unfollowed := true, recurses := true, named := ["unicode/utf8.first", "unicode/utf8.acceptRanges"], apart := false, laid := [("unicode/utf8.acceptRanges", laid_unicode_utf8_acceptRanges), ("unicode/utf8.first", laid_unicode_utf8_first)], narrowed := true }
def PhonemeFindsUptoSaid : Prop := phonemeFindsUptoRow.holds Tryd.pinned (OpenSpec.upto phonemeFindsSpec)

/-- 'langdoclaw16.PhonemeJoins', WHERE WHAT IT READS IS OF BULK AT MOST 1048576: true; the input reads as it did. -/
def phonemeJoinsUptoRow : OpenClaim := { program := "ytkbmoekomicjeaadoor", sum := "e25f74a6ea0ebd221e24786c7b89b2c06ea49022ebbca6595d57154449a48647", func := "langdoc/langdoclaw16.PhonemeJoins", spec := "phonemeJoins", unfollowed := true, recurses := true, named := ["unicode/utf8.first", "unicode/utf8.acceptRanges"], apart := false, laid := [("unicode/utf8.acceptRanges", laid_unicode_utf8_acceptRanges), ("unicode/utf8.first", laid_unicode_utf8_first)], narrowed := true }
def PhonemeJoinsUptoSaid : Prop := phonemeJoinsUptoRow.holds Tryd.pinned (OpenSpec.upto phonemeJoinsSpec)

end Rows
end Go.Proofs.YtkbmoekomicjeaaDoor
