/-
  NARROWER THAN 'FOR EVERY INPUT', by the rows' own cells (each row's printed sentence says how): AccessChecks: laid · AccessBase: laid · AccessSpans: laid · AccessMay: laid · AccessDays: laid · AccessGone: laid · AccessFewer: laid · AccessPublic: laid · AccessSteady: laid · AccessAgrees: laid.
  DERIVED. THE GIVEN ROWS OF THIS SEAT. 10 by the template 'for every input the law returns true; each argument reads behind the call as it read before'; 0 by the template 'total and deterministic' (their statements: YtpdacimgcojgnaaGreatDoorTotals.lean).
  GIVEN WITH THE SEED: the statements are not yours to turn. If you find one false, say at which input.
  Laid BY PROGRAM, IN A SANDBOX (cutbox-rows.mjs): the forced cells as the released guide's own fill.sh prints them over the translation e436fc3f08cc0a25… (all of the seat's roots in one cut). By AI agents, Wed Nov 11 2026. No macro, syntax, notation, axiom, sorry.
-/
import Derived.Test.YtpdacimgcojgnaaGreatDoorChecked
import GoSem.PinnedTables
import GoSem.Claim
import GoSem.ClaimJoined
import GoSem.ClaimMapViews
import Derived.JoinedTies
import Derived.KernelRfl
namespace Go.Proofs.YtpdacimgcojgnaaGreatDoor
/- THE CELL 'sum', in the pinned program and in every row, IS THE sha256 OF THE DUMP (.gsa) THAT YtpdacimgcojgnaaGreatDoorProg.lean LOADS. Nothing in Lean hashes anything: it is a label: what it is worth is what the hold of that sum in a sandbox is worth. -/
noncomputable def Tryz.pinned : Pinned := { name := "ytpdacimgcojgnaagreatdoor", sum := "e436fc3f08cc0a25217b2adb23af2bbc4aff1461acb7ee59bdd0afb361756c5f", checked := Tryz.checked }
namespace Rows
def none {H : Type} : Left H := { results := [], args := [] }

/- WHAT THE LISTED PACKAGE-LEVEL VARIABLES READ AS WHEN THE CALL BEGINS. Each datum BY PROGRAM (the guide's laid-datum.mjs) off the statement by which the dump's own 'gosem.cut.vars' lays the variable. In a bare row this is a premise. The card (YtpdacimgcojgnaaGreatDoorCards.lean) ties it to the program's text. -/
def laid_unicode_utf8_acceptRanges {H : Type} : DataW H := .agg [.agg [.lit (.int .u8 128), .lit (.int .u8 191)], .agg [.lit (.int .u8 160), .lit (.int .u8 191)], .agg [.lit (.int .u8 128), .lit (.int .u8 159)], .agg [.lit (.int .u8 144), .lit (.int .u8 191)], .agg [.lit (.int .u8 128), .lit (.int .u8 143)], .agg [.lit (.int .u8 0), .lit (.int .u8 0)], .agg [.lit (.int .u8 0), .lit (.int .u8 0)], .agg [.lit (.int .u8 0), .lit (.int .u8 0)], .agg [.lit (.int .u8 0), .lit (.int .u8 0)], .agg [.lit (.int .u8 0), .lit (.int .u8 0)], .agg [.lit (.int .u8 0), .lit (.int .u8 0)], .agg [.lit (.int .u8 0), .lit (.int .u8 0)], .agg [.lit (.int .u8 0), .lit (.int .u8 0)], .agg [.lit (.int .u8 0), .lit (.int .u8 0)], .agg [.lit (.int .u8 0), .lit (.int .u8 0)], .agg [.lit (.int .u8 0), .lit (.int .u8 0)]]
/-- One of Go's own tables, pinned by name: the form's constant. -/
def laid_unicode_utf8_first : DataW Unit := Go.Pinned.utf8First

/-- 'langdoclaw45.AccessChecks': WHATEVER THE INPUT: true; the input reads as it did. -/
def accessChecksSpec : ChangeSpec := { name := "accessChecks", fn := fun _ => fun
  | [d1, d2] => { results := [.lit (.bool true)], args := [d1, d2] }
  | _ => none }
def accessChecksRow : OpenClaim := { program := "ytpdacimgcojgnaagreatdoor", sum := "e436fc3f08cc0a25217b2adb23af2bbc4aff1461acb7ee59bdd0afb361756c5f", func := "langdoc/langdoclaw45.AccessChecks", spec := "accessChecks", unfollowed := true, recurses := true, named := ["unicode/utf8.first", "unicode/utf8.acceptRanges"], apart := false, laid := [("unicode/utf8.acceptRanges", laid_unicode_utf8_acceptRanges), ("unicode/utf8.first", laid_unicode_utf8_first)] }
def AccessChecksSaid : Prop := accessChecksRow.holds Tryz.pinned (OpenSpec.ofChange accessChecksSpec)

/-- ITS FALSE NEIGHBOUR: 'it returns false'. Refute it at one input. -/
def accessChecksWrong : ChangeSpec := { name := "accessChecks", fn := fun _ => fun
  | [d1, d2] => { results := [.lit (.bool false)], args := [d1, d2] }
  | _ => none }
def AccessChecksWrongFalsely : Prop := accessChecksRow.holds Tryz.pinned (OpenSpec.ofChange accessChecksWrong)

/-- 'langdoclaw45.AccessBase': WHATEVER THE INPUT: true; the input reads as it did. -/
def accessBaseSpec : ChangeSpec := { name := "accessBase", fn := fun _ => fun
  | [d] => { results := [.lit (.bool true)], args := [d] }
  | _ => none }
def accessBaseRow : OpenClaim := { program := "ytpdacimgcojgnaagreatdoor", sum := "e436fc3f08cc0a25217b2adb23af2bbc4aff1461acb7ee59bdd0afb361756c5f", func := "langdoc/langdoclaw45.AccessBase", spec := "accessBase", unfollowed := true, recurses := true, named := ["unicode/utf8.first", "unicode/utf8.acceptRanges"], apart := false, laid := [("unicode/utf8.acceptRanges", laid_unicode_utf8_acceptRanges), ("unicode/utf8.first", laid_unicode_utf8_first)] }
def AccessBaseSaid : Prop := accessBaseRow.holds Tryz.pinned (OpenSpec.ofChange accessBaseSpec)

/-- ITS FALSE NEIGHBOUR: 'it returns false'. Refute it at one input. -/
def accessBaseWrong : ChangeSpec := { name := "accessBase", fn := fun _ => fun
  | [d] => { results := [.lit (.bool false)], args := [d] }
  | _ => none }
def AccessBaseWrongFalsely : Prop := accessBaseRow.holds Tryz.pinned (OpenSpec.ofChange accessBaseWrong)

/-- 'langdoclaw45.AccessSpans': WHATEVER THE INPUT: true; the input reads as it did. -/
def accessSpansSpec : ChangeSpec := { name := "accessSpans", fn := fun _ => fun
  | [d] => { results := [.lit (.bool true)], args := [d] }
  | _ => none }
def accessSpansRow : OpenClaim := { program := "ytpdacimgcojgnaagreatdoor", sum := "e436fc3f08cc0a25217b2adb23af2bbc4aff1461acb7ee59bdd0afb361756c5f", func := "langdoc/langdoclaw45.AccessSpans", spec := "accessSpans", unfollowed := true, recurses := true, named := ["unicode/utf8.first", "unicode/utf8.acceptRanges"], apart := false, laid := [("unicode/utf8.acceptRanges", laid_unicode_utf8_acceptRanges), ("unicode/utf8.first", laid_unicode_utf8_first)] }
def AccessSpansSaid : Prop := accessSpansRow.holds Tryz.pinned (OpenSpec.ofChange accessSpansSpec)

/-- ITS FALSE NEIGHBOUR: 'it returns false'. Refute it at one input. -/
def accessSpansWrong : ChangeSpec := { name := "accessSpans", fn := fun _ => fun
  | [d] => { results := [.lit (.bool false)], args := [d] }
  | _ => none }
def AccessSpansWrongFalsely : Prop := accessSpansRow.holds Tryz.pinned (OpenSpec.ofChange accessSpansWrong)

/-- 'langdoclaw45.AccessMay': WHATEVER THE INPUT: true; the input reads as it did. -/
def accessMaySpec : ChangeSpec := { name := "accessMay", fn := fun _ => fun
  | [d1, d2] => { results := [.lit (.bool true)], args := [d1, d2] }
  | _ => none }
def accessMayRow : OpenClaim := { program := "ytpdacimgcojgnaagreatdoor", sum := "e436fc3f08cc0a25217b2adb23af2bbc4aff1461acb7ee59bdd0afb361756c5f", func := "langdoc/langdoclaw45.AccessMay", spec := "accessMay", unfollowed := true, recurses := true, named := ["unicode/utf8.first", "unicode/utf8.acceptRanges"], apart := false, laid := [("unicode/utf8.acceptRanges", laid_unicode_utf8_acceptRanges), ("unicode/utf8.first", laid_unicode_utf8_first)] }
def AccessMaySaid : Prop := accessMayRow.holds Tryz.pinned (OpenSpec.ofChange accessMaySpec)

/-- ITS FALSE NEIGHBOUR: 'it returns false'. Refute it at one input. -/
def accessMayWrong : ChangeSpec := { name := "accessMay", fn := fun _ => fun
  | [d1, d2] => { results := [.lit (.bool false)], args := [d1, d2] }
  | _ => none }
def AccessMayWrongFalsely : Prop := accessMayRow.holds Tryz.pinned (OpenSpec.ofChange accessMayWrong)

/-- 'langdoclaw45.AccessDays': WHATEVER THE INPUT: true; the input reads as it did. -/
def accessDaysSpec : ChangeSpec := { name := "accessDays", fn := fun _ => fun
  | [d] => { results := [.lit (.bool true)], args := [d] }
  | _ => none }
def accessDaysRow : OpenClaim := { program := "ytpdacimgcojgnaagreatdoor", sum := "e436fc3f08cc0a25217b2adb23af2bbc4aff1461acb7ee59bdd0afb361756c5f", func := "langdoc/langdoclaw45.AccessDays", spec := "accessDays", unfollowed := true, recurses := true, named := ["unicode/utf8.first", "unicode/utf8.acceptRanges"], apart := false, laid := [("unicode/utf8.acceptRanges", laid_unicode_utf8_acceptRanges), ("unicode/utf8.first", laid_unicode_utf8_first)] }
def AccessDaysSaid : Prop := accessDaysRow.holds Tryz.pinned (OpenSpec.ofChange accessDaysSpec)

/-- ITS FALSE NEIGHBOUR: 'it returns false'. Refute it at one input. -/
def accessDaysWrong : ChangeSpec := { name := "accessDays", fn := fun _ => fun
  | [d] => { results := [.lit (.bool false)], args := [d] }
  | _ => none }
def AccessDaysWrongFalsely : Prop := accessDaysRow.holds Tryz.pinned (OpenSpec.ofChange accessDaysWrong)

/-- 'langdoclaw45.AccessGone': WHATEVER THE INPUT: true; the input reads as it did. -/
def accessGoneSpec : ChangeSpec := { name := "accessGone", fn := fun _ => fun
  | [d1, d2, d3] => { results := [.lit (.bool true)], args := [d1, d2, d3] }
  | _ => none }
def accessGoneRow : OpenClaim := { program := "ytpdacimgcojgnaagreatdoor", sum := "e436fc3f08cc0a25217b2adb23af2bbc4aff1461acb7ee59bdd0afb361756c5f", func := "langdoc/langdoclaw45.AccessGone", spec := "accessGone", unfollowed := true, recurses := true, named := ["unicode/utf8.first", "unicode/utf8.acceptRanges"], apart := false, laid := [("unicode/utf8.acceptRanges", laid_unicode_utf8_acceptRanges), ("unicode/utf8.first", laid_unicode_utf8_first)] }
def AccessGoneSaid : Prop := accessGoneRow.holds Tryz.pinned (OpenSpec.ofChange accessGoneSpec)

/-- ITS FALSE NEIGHBOUR: 'it returns false'. Refute it at one input. -/
def accessGoneWrong : ChangeSpec := { name := "accessGone", fn := fun _ => fun
  | [d1, d2, d3] => { results := [.lit (.bool false)], args := [d1, d2, d3] }
  | _ => none }
def AccessGoneWrongFalsely : Prop := accessGoneRow.holds Tryz.pinned (OpenSpec.ofChange accessGoneWrong)

/-- 'langdoclaw45.AccessFewer': WHATEVER THE INPUT: true; the input reads as it did. -/
def accessFewerSpec : ChangeSpec := { name := "accessFewer", fn := fun _ => fun
  | [d1, d2, d3] => { results := [.lit (.bool true)], args := [d1, d2, d3] }
  | _ => none }
def accessFewerRow : OpenClaim := { program := "ytpdacimgcojgnaagreatdoor", sum := "e436fc3f08cc0a25217b2adb23af2bbc4aff1461acb7ee59bdd0afb361756c5f", func := "langdoc/langdoclaw45.AccessFewer", spec := "accessFewer", unfollowed := true, recurses := true, named := ["unicode/utf8.first", "unicode/utf8.acceptRanges"], apart := false, laid := [("unicode/utf8.acceptRanges", laid_unicode_utf8_acceptRanges), ("unicode/utf8.first", laid_unicode_utf8_first)] }
def AccessFewerSaid : Prop := accessFewerRow.holds Tryz.pinned (OpenSpec.ofChange accessFewerSpec)

/-- ITS FALSE NEIGHBOUR: 'it returns false'. Refute it at one input. -/
def accessFewerWrong : ChangeSpec := { name := "accessFewer", fn := fun _ => fun
  | [d1, d2, d3] => { results := [.lit (.bool false)], args := [d1, d2, d3] }
  | _ => none }
def AccessFewerWrongFalsely : Prop := accessFewerRow.holds Tryz.pinned (OpenSpec.ofChange accessFewerWrong)

/-- 'langdoclaw45.AccessPublic': WHATEVER THE INPUT: true; the input reads as it did. -/
def accessPublicSpec : ChangeSpec := { name := "accessPublic", fn := fun _ => fun
  | [d] => { results := [.lit (.bool true)], args := [d] }
  | _ => none }
def accessPublicRow : OpenClaim := { program := "ytpdacimgcojgnaagreatdoor", sum := "e436fc3f08cc0a25217b2adb23af2bbc4aff1461acb7ee59bdd0afb361756c5f", func := "langdoc/langdoclaw45.AccessPublic", spec := "accessPublic", unfollowed := true, recurses := true, named := ["unicode/utf8.first", "unicode/utf8.acceptRanges"], apart := false, laid := [("unicode/utf8.acceptRanges", laid_unicode_utf8_acceptRanges), ("unicode/utf8.first", laid_unicode_utf8_first)] }
def AccessPublicSaid : Prop := accessPublicRow.holds Tryz.pinned (OpenSpec.ofChange accessPublicSpec)

/-- ITS FALSE NEIGHBOUR: 'it returns false'. Refute it at one input. -/
def accessPublicWrong : ChangeSpec := { name := "accessPublic", fn := fun _ => fun
  | [d] => { results := [.lit (.bool false)], args := [d] }
  | _ => none }
def AccessPublicWrongFalsely : Prop := accessPublicRow.holds Tryz.pinned (OpenSpec.ofChange accessPublicWrong)

/-- 'langdoclaw45.AccessSteady': WHATEVER THE INPUT: true; the input reads as it did. -/
def accessSteadySpec : ChangeSpec := { name := "accessSteady", fn := fun _ => fun
  | [d1, d2] => { results := [.lit (.bool true)], args := [d1, d2] }
  | _ => none }
def accessSteadyRow : OpenClaim := { program := "ytpdacimgcojgnaagreatdoor", sum := "e436fc3f08cc0a25217b2adb23af2bbc4aff1461acb7ee59bdd0afb361756c5f", func := "langdoc/langdoclaw45.AccessSteady", spec := "accessSteady", unfollowed := true, recurses := true, named := ["unicode/utf8.first", "unicode/utf8.acceptRanges"], apart := false, laid := [("unicode/utf8.acceptRanges", laid_unicode_utf8_acceptRanges), ("unicode/utf8.first", laid_unicode_utf8_first)] }
def AccessSteadySaid : Prop := accessSteadyRow.holds Tryz.pinned (OpenSpec.ofChange accessSteadySpec)

/-- ITS FALSE NEIGHBOUR: 'it returns false'. Refute it at one input. -/
def accessSteadyWrong : ChangeSpec := { name := "accessSteady", fn := fun _ => fun
  | [d1, d2] => { results := [.lit (.bool false)], args := [d1, d2] }
  | _ => none }
def AccessSteadyWrongFalsely : Prop := accessSteadyRow.holds Tryz.pinned (OpenSpec.ofChange accessSteadyWrong)

/-- 'langdoclaw45.AccessAgrees': WHATEVER THE INPUT: true; the input reads as it did. -/
def accessAgreesSpec : ChangeSpec := { name := "accessAgrees", fn := fun _ => fun
  | [d1, d2] => { results := [.lit (.bool true)], args := [d1, d2] }
  | _ => none }
def accessAgreesRow : OpenClaim := { program := "ytpdacimgcojgnaagreatdoor", sum := "e436fc3f08cc0a25217b2adb23af2bbc4aff1461acb7ee59bdd0afb361756c5f", func := "langdoc/langdoclaw45.AccessAgrees", spec := "accessAgrees", unfollowed := true, recurses := true, named := ["unicode/utf8.first", "unicode/utf8.acceptRanges"], apart := false, laid := [("unicode/utf8.acceptRanges", laid_unicode_utf8_acceptRanges), ("unicode/utf8.first", laid_unicode_utf8_first)] }
def AccessAgreesSaid : Prop := accessAgreesRow.holds Tryz.pinned (OpenSpec.ofChange accessAgreesSpec)

/-- ITS FALSE NEIGHBOUR: 'it returns false'. Refute it at one input. -/
def accessAgreesWrong : ChangeSpec := { name := "accessAgrees", fn := fun _ => fun
  | [d1, d2] => { results := [.lit (.bool false)], args := [d1, d2] }
  | _ => none }
def AccessAgreesWrongFalsely : Prop := accessAgreesRow.holds Tryz.pinned (OpenSpec.ofChange accessAgreesWrong)

/- THE SECOND FORM. 'bulk': how many values and letters a reading holds, each counted each time it is reached (what is shared counts as often as it is met; a slice's spare places count too). A statement '..UptoSaid' is the law's where the arguments, and the package variables that the reading takes, are together of bulk at most 1048576: NARROWER than '..Said'. Prove '..Said' where nothing that the law and all that it calls make is longer than what came in: it says more and counts as full. Else prove '..UptoSaid'. A law counts once. -/
mutual
def uptoBulk {H : Type} : DataW H → Nat
  | .lit (.string bytes) => bytes.length + 1
  | .lit _ => 1
  | .nil => 1
  | .ptr d => uptoBulk d + 1
  | .slice elems spare => uptoBulkAll elems + uptoBulkAll spare + 1
  | .agg parts => uptoBulkAll parts + 1
  | .iface _ d => uptoBulk d + 1
  | .map entries => uptoBulkEntries entries + 1
  | .held _ => 1
def uptoBulkAll {H : Type} : List (DataW H) → Nat
  | [] => 0
  | d :: r => uptoBulk d + uptoBulkAll r
def uptoBulkEntries {H : Type} : List (Lit × DataW H) → Nat
  | [] => 0
  | x :: r => uptoBulkEntry x + uptoBulkEntries r
def uptoBulkEntry {H : Type} : Lit × DataW H → Nat
  | (.string bytes, d) => bytes.length + uptoBulk d + 1
  | (_, d) => uptoBulk d + 1
 end
def uptoSmall : (H : Type) → List (DataW H) → Bool := fun _ ds => decide (uptoBulkAll ds ≤ 1048576)
def OpenSpec.upto (s : _root_.Go.ChangeSpec) : _root_.Go.OpenSpec := { _root_.Go.OpenSpec.ofChange s with cond := some uptoSmall }

/-- 'langdoclaw45.AccessChecks', WHERE WHAT IT READS IS OF BULK AT MOST 1048576: true; the input reads as it did. -/
def accessChecksUptoRow : OpenClaim := { program := "ytpdacimgcojgnaagreatdoor", sum := "e436fc3f08cc0a25217b2adb23af2bbc4aff1461acb7ee59bdd0afb361756c5f", func := "langdoc/langdoclaw45.AccessChecks", spec := "accessChecks", unfollowed := true, recurses := true, named := ["unicode/utf8.first", "unicode/utf8.acceptRanges"], apart := false, laid := [("unicode/utf8.acceptRanges", laid_unicode_utf8_acceptRanges), ("unicode/utf8.first", laid_unicode_utf8_first)], narrowed := true }
def AccessChecksUptoSaid : Prop := accessChecksUptoRow.holds Tryz.pinned (OpenSpec.upto accessChecksSpec)

/-- 'langdoclaw45.AccessBase', WHERE WHAT IT READS IS OF BULK AT MOST 1048576: true; the input reads as it did. -/
def accessBaseUptoRow : OpenClaim := { program := "ytpdacimgcojgnaagreatdoor", sum := "e436fc3f08cc0a25217b2adb23af2bbc4aff1461acb7ee59bdd0afb361756c5f", func := "langdoc/langdoclaw45.AccessBase", spec := "accessBase", unfollowed := true, recurses := true, named := ["unicode/utf8.first", "unicode/utf8.acceptRanges"], apart := false, laid := [("unicode/utf8.acceptRanges", laid_unicode_utf8_acceptRanges), ("unicode/utf8.first", laid_unicode_utf8_first)], narrowed := true }
def AccessBaseUptoSaid : Prop := accessBaseUptoRow.holds Tryz.pinned (OpenSpec.upto accessBaseSpec)

/-- 'langdoclaw45.AccessSpans', WHERE WHAT IT READS IS OF BULK AT MOST 1048576: true; the input reads as it did. -/
def accessSpansUptoRow : OpenClaim := { program := "ytpdacimgcojgnaagreatdoor", sum := "e436fc3f08cc0a25217b2adb23af2bbc4aff1461acb7ee59bdd0afb361756c5f", func := "langdoc/langdoclaw45.AccessSpans", spec := "accessSpans", unfollowed := true, recurses := true, named := ["unicode/utf8.first", "unicode/utf8.acceptRanges"], apart := false, laid := [("unicode/utf8.acceptRanges", laid_unicode_utf8_acceptRanges), ("unicode/utf8.first", laid_unicode_utf8_first)], narrowed := true }
def AccessSpansUptoSaid : Prop := accessSpansUptoRow.holds Tryz.pinned (OpenSpec.upto accessSpansSpec)

/-- 'langdoclaw45.AccessMay', WHERE WHAT IT READS IS OF BULK AT MOST 1048576: true; the input reads as it did. -/
def accessMayUptoRow : OpenClaim := { program := "ytpdacimgcojgnaagreatdoor", sum := "e436fc3f08cc0a25217b2adb23af2bbc4aff1461acb7ee59bdd0afb361756c5f", func := "langdoc/langdoclaw45.AccessMay", spec := "accessMay", unfollowed := true, recurses := true, named := ["unicode/utf8.first", "unicode/utf8.acceptRanges"], apart := false, laid := [("unicode/utf8.acceptRanges", laid_unicode_utf8_acceptRanges), ("unicode/utf8.first", laid_unicode_utf8_first)], narrowed := true }
def AccessMayUptoSaid : Prop := accessMayUptoRow.holds Tryz.pinned (OpenSpec.upto accessMaySpec)

/-- 'langdoclaw45.AccessDays', WHERE WHAT IT READS IS OF BULK AT MOST 1048576: true; the input reads as it did. -/
def accessDaysUptoRow : OpenClaim := { program := "ytpdacimgcojgnaagreatdoor", sum := "e436fc3f08cc0a25217b2adb23af2bbc4aff1461acb7ee59bdd0afb361756c5f", func := "langdoc/langdoclaw45.AccessDays", spec := "accessDays", unfollowed := true, recurses := true, named := ["unicode/utf8.first", "unicode/utf8.acceptRanges"], apart := false, laid := [("unicode/utf8.acceptRanges", laid_unicode_utf8_acceptRanges), ("unicode/utf8.first", laid_unicode_utf8_first)], narrowed := true }
def AccessDaysUptoSaid : Prop := accessDaysUptoRow.holds Tryz.pinned (OpenSpec.upto accessDaysSpec)

/-- 'langdoclaw45.AccessGone', WHERE WHAT IT READS IS OF BULK AT MOST 1048576: true; the input reads as it did. -/
def accessGoneUptoRow : OpenClaim := { program := "ytpdacimgcojgnaagreatdoor", sum := "e436fc3f08cc0a25217b2adb23af2bbc4aff1461acb7ee59bdd0afb361756c5f", func := "langdoc/langdoclaw45.AccessGone", spec := "accessGone", unfollowed := true, recurses := true, named := ["unicode/utf8.first", "unicode/utf8.acceptRanges"], apart := false, laid := [("unicode/utf8.acceptRanges", laid_unicode_utf8_acceptRanges), ("unicode/utf8.first", laid_unicode_utf8_first)], narrowed := true }
def AccessGoneUptoSaid : Prop := accessGoneUptoRow.holds Tryz.pinned (OpenSpec.upto accessGoneSpec)

/-- 'langdoclaw45.AccessFewer', WHERE WHAT IT READS IS OF BULK AT MOST 1048576: true; the input reads as it did. -/
def accessFewerUptoRow : OpenClaim := { program := "ytpdacimgcojgnaagreatdoor", sum := "e436fc3f08cc0a25217b2adb23af2bbc4aff1461acb7ee59bdd0afb361756c5f", func := "langdoc/langdoclaw45.AccessFewer", spec := "accessFewer", unfollowed := true, recurses := true, named := ["unicode/utf8.first", "unicode/utf8.acceptRanges"], apart := false, laid := [("unicode/utf8.acceptRanges", laid_unicode_utf8_acceptRanges), ("unicode/utf8.first", laid_unicode_utf8_first)], narrowed := true }
def AccessFewerUptoSaid : Prop := accessFewerUptoRow.holds Tryz.pinned (OpenSpec.upto accessFewerSpec)

/-- 'langdoclaw45.AccessPublic', WHERE WHAT IT READS IS OF BULK AT MOST 1048576: true; the input reads as it did. -/
def accessPublicUptoRow : OpenClaim := { program := "ytpdacimgcojgnaagreatdoor", sum := "e436fc3f08cc0a25217b2adb23af2bbc4aff1461acb7ee59bdd0afb361756c5f", func := "langdoc/langdoclaw45.AccessPublic", spec := "accessPublic", unfollowed := true, recurses := true, named := ["unicode/utf8.first", "unicode/utf8.acceptRanges"], apart := false, laid := [("unicode/utf8.acceptRanges", laid_unicode_utf8_acceptRanges), ("unicode/utf8.first", laid_unicode_utf8_first)], narrowed := true }
def AccessPublicUptoSaid : Prop := accessPublicUptoRow.holds Tryz.pinned (OpenSpec.upto accessPublicSpec)

/-- 'langdoclaw45.AccessSteady', WHERE WHAT IT READS IS OF BULK AT MOST 1048576: true; the input reads as it did. -/
def accessSteadyUptoRow : OpenClaim := { program := "ytpdacimgcojgnaagreatdoor", sum := "e436fc3f08cc0a25217b2adb23af2bbc4aff1461acb7ee59bdd0afb361756c5f", func := "langdoc/langdoclaw45.AccessSteady", spec := "accessSteady", unfollowed := true, recurses := true, named := ["unicode/utf8.first", "unicode/utf8.acceptRanges"], apart := false, laid := [("unicode/utf8.acceptRanges", laid_unicode_utf8_acceptRanges), ("unicode/utf8.first", laid_unicode_utf8_first)], narrowed := true }
def AccessSteadyUptoSaid : Prop := accessSteadyUptoRow.holds Tryz.pinned (OpenSpec.upto accessSteadySpec)

/-- 'langdoclaw45.AccessAgrees', WHERE WHAT IT READS IS OF BULK AT MOST 1048576: true; the input reads as it did. -/
def accessAgreesUptoRow : OpenClaim := { program := "ytpdacimgcojgnaagreatdoor", sum := "e436fc3f08cc0a25217b2adb23af2bbc4aff1461acb7ee59bdd0afb361756c5f", func := "langdoc/langdoclaw45.AccessAgrees", spec := "accessAgrees", unfollowed := true, recurses := true, named := ["unicode/utf8.first", "unicode/utf8.acceptRanges"], apart := false, laid := [("unicode/utf8.acceptRanges", laid_unicode_utf8_acceptRanges), ("unicode/utf8.first", laid_unicode_utf8_first)], narrowed := true }
def AccessAgreesUptoSaid : Prop := accessAgreesUptoRow.holds Tryz.pinned (OpenSpec.upto accessAgreesSpec)

end Rows
end Go.Proofs.YtpdacimgcojgnaaGreatDoor
