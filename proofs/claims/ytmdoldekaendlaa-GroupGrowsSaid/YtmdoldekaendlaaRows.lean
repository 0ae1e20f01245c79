/-
  No cell of these rows narrows 'for every input' (looked for: loops, veiled, ifaces, maps, wideKeys, modest, calm, conditions, laid).
  DERIVED. THE GIVEN ROWS OF THIS SEAT. 7 by the template 'for every input the law returns true; each argument reads behind the call as it read before'; 0 by the template 'total and deterministic' (their statements: YtmdoldekaendlaaTotals.lean).
  GIVEN WITH THE SEED: the statements are not yours to turn. If you find one false, say at which input.
  Laid BY PROGRAM, IN A SANDBOX (cutbox-rows.mjs): the forced cells as the released guide's own fill.sh prints them over the translation e2a6e368019e2f40… (all of the seat's roots in one cut). By AI agents, Wed Nov 11 2026. No macro, syntax, notation, axiom, sorry.
-/
import Derived.Test.YtmdoldekaendlaaChecked
import GoSem.Claim
import GoSem.ClaimJoined
import GoSem.ClaimMapViews
import Derived.JoinedTies
import Derived.KernelRfl
namespace Go.Proofs.Ytmdoldekaendlaa
/- THE CELL 'sum', in the pinned program and in every row, IS THE sha256 OF THE DUMP (.gsa) THAT YtmdoldekaendlaaProg.lean LOADS. Nothing in Lean hashes anything: it is a label: what it is worth is what the hold of that sum in a sandbox is worth. -/
noncomputable def Try.pinned : Pinned := { name := "ytmdoldekaendlaa", sum := "e2a6e368019e2f40f82c669617297afdbe20ec9af85dae6ecf0bf566777f2987", checked := Try.checked }
namespace Rows
def none {H : Type} : Left H := { results := [], args := [] }

/-- 'langdoclaw42.GroupChecks': WHATEVER THE INPUT: true; the input reads as it did. -/
def groupChecksSpec : ChangeSpec := { name := "groupChecks", fn := fun _ => fun
  | [d1, d2] => { results := [.lit (.bool true)], args := [d1, d2] }
  | _ => none }
def groupChecksRow : OpenClaim := { program := "ytmdoldekaendlaa", sum := "e2a6e368019e2f40f82c669617297afdbe20ec9af85dae6ecf0bf566777f2987", func := "langdoc/langdoclaw42.GroupChecks", spec := "groupChecks", unfollowed := true, recurses := true, apart := false }
def GroupChecksSaid : Prop := groupChecksRow.holds Try.pinned (OpenSpec.ofChange groupChecksSpec)

/-- ITS FALSE NEIGHBOUR: 'it returns false'. Refute it at one input. -/
def groupChecksWrong : ChangeSpec := { name := "groupChecks", fn := fun _ => fun
  | [d1, d2] => { results := [.lit (.bool false)], args := [d1, d2] }
  | _ => none }
def GroupChecksWrongFalsely : Prop := groupChecksRow.holds Try.pinned (OpenSpec.ofChange groupChecksWrong)

/-- 'langdoclaw42.GroupBelow': WHATEVER THE INPUT: true; the input reads as it did. -/
def groupBelowSpec : ChangeSpec := { name := "groupBelow", fn := fun _ => fun
  | [d1, d2, d3] => { results := [.lit (.bool true)], args := [d1, d2, d3] }
  | _ => none }
def groupBelowRow : OpenClaim := { program := "ytmdoldekaendlaa", sum := "e2a6e368019e2f40f82c669617297afdbe20ec9af85dae6ecf0bf566777f2987", func := "langdoc/langdoclaw42.GroupBelow", spec := "groupBelow", unfollowed := true, recurses := true, apart := false }
def GroupBelowSaid : Prop := groupBelowRow.holds Try.pinned (OpenSpec.ofChange groupBelowSpec)

/-- ITS FALSE NEIGHBOUR: 'it returns false'. Refute it at one input. -/
def groupBelowWrong : ChangeSpec := { name := "groupBelow", fn := fun _ => fun
  | [d1, d2, d3] => { results := [.lit (.bool false)], args := [d1, d2, d3] }
  | _ => none }
def GroupBelowWrongFalsely : Prop := groupBelowRow.holds Try.pinned (OpenSpec.ofChange groupBelowWrong)

/-- 'langdoclaw42.GroupIn': WHATEVER THE INPUT: true; the input reads as it did. -/
def groupInSpec : ChangeSpec := { name := "groupIn", fn := fun _ => fun
  | [d1, d2, d3] => { results := [.lit (.bool true)], args := [d1, d2, d3] }
  | _ => none }
def groupInRow : OpenClaim := { program := "ytmdoldekaendlaa", sum := "e2a6e368019e2f40f82c669617297afdbe20ec9af85dae6ecf0bf566777f2987", func := "langdoc/langdoclaw42.GroupIn", spec := "groupIn", unfollowed := true, recurses := true, apart := false }
def GroupInSaid : Prop := groupInRow.holds Try.pinned (OpenSpec.ofChange groupInSpec)

/-- ITS FALSE NEIGHBOUR: 'it returns false'. Refute it at one input. -/
def groupInWrong : ChangeSpec := { name := "groupIn", fn := fun _ => fun
  | [d1, d2, d3] => { results := [.lit (.bool false)], args := [d1, d2, d3] }
  | _ => none }
def GroupInWrongFalsely : Prop := groupInRow.holds Try.pinned (OpenSpec.ofChange groupInWrong)

/-- 'langdoclaw42.GroupNested': WHATEVER THE INPUT: true; the input reads as it did. -/
def groupNestedSpec : ChangeSpec := { name := "groupNested", fn := fun _ => fun
  | [d1, d2] => { results := [.lit (.bool true)], args := [d1, d2] }
  | _ => none }
def groupNestedRow : OpenClaim := { program := "ytmdoldekaendlaa", sum := "e2a6e368019e2f40f82c669617297afdbe20ec9af85dae6ecf0bf566777f2987", func := "langdoc/langdoclaw42.GroupNested", spec := "groupNested", unfollowed := true, recurses := true, apart := false }
def GroupNestedSaid : Prop := groupNestedRow.holds Try.pinned (OpenSpec.ofChange groupNestedSpec)

/-- ITS FALSE NEIGHBOUR: 'it returns false'. Refute it at one input. -/
def groupNestedWrong : ChangeSpec := { name := "groupNested", fn := fun _ => fun
  | [d1, d2] => { results := [.lit (.bool false)], args := [d1, d2] }
  | _ => none }
def GroupNestedWrongFalsely : Prop := groupNestedRow.holds Try.pinned (OpenSpec.ofChange groupNestedWrong)

/-- 'langdoclaw42.GroupPlain': WHATEVER THE INPUT: true; the input reads as it did. -/
def groupPlainSpec : ChangeSpec := { name := "groupPlain", fn := fun _ => fun
  | [d1, d2] => { results := [.lit (.bool true)], args := [d1, d2] }
  | _ => none }
def groupPlainRow : OpenClaim := { program := "ytmdoldekaendlaa", sum := "e2a6e368019e2f40f82c669617297afdbe20ec9af85dae6ecf0bf566777f2987", func := "langdoc/langdoclaw42.GroupPlain", spec := "groupPlain", unfollowed := true, recurses := true, apart := false }
def GroupPlainSaid : Prop := groupPlainRow.holds Try.pinned (OpenSpec.ofChange groupPlainSpec)

/-- ITS FALSE NEIGHBOUR: 'it returns false'. Refute it at one input. -/
def groupPlainWrong : ChangeSpec := { name := "groupPlain", fn := fun _ => fun
  | [d1, d2] => { results := [.lit (.bool false)], args := [d1, d2] }
  | _ => none }
def GroupPlainWrongFalsely : Prop := groupPlainRow.holds Try.pinned (OpenSpec.ofChange groupPlainWrong)

/-- 'langdoclaw42.GroupAgrees': WHATEVER THE INPUT: true; the input reads as it did. -/
def groupAgreesSpec : ChangeSpec := { name := "groupAgrees", fn := fun _ => fun
  | [d1, d2] => { results := [.lit (.bool true)], args := [d1, d2] }
  | _ => none }
def groupAgreesRow : OpenClaim := { program := "ytmdoldekaendlaa", sum := "e2a6e368019e2f40f82c669617297afdbe20ec9af85dae6ecf0bf566777f2987", func := "langdoc/langdoclaw42.GroupAgrees", spec := "groupAgrees", unfollowed := true, recurses := true, apart := false }
def GroupAgreesSaid : Prop := groupAgreesRow.holds Try.pinned (OpenSpec.ofChange groupAgreesSpec)

/-- ITS FALSE NEIGHBOUR: 'it returns false'. Refute it at one input. -/
def groupAgreesWrong : ChangeSpec := { name := "groupAgrees", fn := fun _ => fun
  | [d1, d2] => { results := [.lit (.bool false)], args := [d1, d2] }
  | _ => none }
def GroupAgreesWrongFalsely : Prop := groupAgreesRow.holds Try.pinned (OpenSpec.ofChange groupAgreesWrong)

/-- 'langdoclaw42.GroupGrows': WHATEVER THE INPUT: true; the input reads as it did. -/
def groupGrowsSpec : ChangeSpec := { name := "groupGrows", fn := fun _ => fun
  | [d1, d2, d3] => { results := [.lit (.bool true)], args := [d1, d2, d3] }
  | _ => none }
def groupGrowsRow : OpenClaim := { program := "ytmdoldekaendlaa", sum := "e2a6e368019e2f40f82c669617297afdbe20ec9af85dae6ecf0bf566777f2987", func := "langdoc/langdoclaw42.GroupGrows", spec := "groupGrows", unfollowed := true, recurses := true, apart := false }
def GroupGrowsSaid : Prop := groupGrowsRow.holds Try.pinned (OpenSpec.ofChange groupGrowsSpec)

/-- ITS FALSE NEIGHBOUR: 'it returns false'. Refute it at one input. -/
def groupGrowsWrong : ChangeSpec := { name := "groupGrows", fn := fun _ => fun
  | [d1, d2, d3] => { results := [.lit (.bool false)], args := [d1, d2, d3] }
  | _ => none }
def GroupGrowsWrongFalsely : Prop := groupGrowsRow.holds Try.pinned (OpenSpec.ofChange groupGrowsWrong)

/- THE SECOND FORM. 'bulk': how many values and letters a reading holds, each counted each time it is reached (what is shared counts as often as it is met; a slice's spare places count too). A statement '..UptoSaid' is the law's where the arguments, and the package variables that the reading takes, are together of bulk at most 1048576: NARROWER than '..Said'. Prove '..Said' where nothing that the law and all that it calls make is longer than what came in: it says more and counts as full. Else prove '..UptoSaid'. A law counts once. -/
mutual
def uptoBulk {H : Type} : DataW H → Nat
  | .lit (.string bytes) => bytes.length + 1
  | .lit _ => 1
  | .nil => 1
  | .ptr d => uptoBulk d + 1
  | .slice elems spare => uptoBulkAll elems + uptoBulkAll spare + 1
  | .agg parts => uptoBulkAll parts + 1
  | .iface _ d => uptoBulk d + 1
  | .map entries => uptoBulkEntries entries + 1
  | .held _ => 1
def uptoBulkAll {H : Type} : List (DataW H) → Nat
  | [] => 0
  | d :: r => uptoBulk d + uptoBulkAll r
def uptoBulkEntries {H : Type} : List (Lit × DataW H) → Nat
  | [] => 0
  | x :: r => uptoBulkEntry x + uptoBulkEntries r
def uptoBulkEntry {H : Type} : Lit × DataW H → Nat
  | (.string bytes, d) => bytes.length + uptoBulk d + 1
  | (_, d) => uptoBulk d + 1
 end
def uptoSmall : (H : Type) → List (DataW H) → Bool := fun _ ds => decide (uptoBulkAll ds ≤ 1048576)
def OpenSpec.upto (s : _root_.Go.ChangeSpec) : _root_.Go.OpenSpec := { _root_.Go.OpenSpec.ofChange s with cond := some uptoSmall }

/-- 'langdoclaw42.GroupChecks', WHERE WHAT IT READS IS OF BULK AT MOST 1048576: true; the input reads as it did. -/
def groupChecksUptoRow : OpenClaim := { program := "ytmdoldekaendlaa", sum := "e2a6e368019e2f40f82c669617297afdbe20ec9af85dae6ecf0bf566777f2987", func := "langdoc/langdoclaw42.GroupChecks", spec := "groupChecks", unfollowed := true, recurses := true, apart := false, narrowed := true }
def GroupChecksUptoSaid : Prop := groupChecksUptoRow.holds Try.pinned (OpenSpec.upto groupChecksSpec)

/-- 'langdoclaw42.GroupBelow', WHERE WHAT IT READS IS OF BULK AT MOST 1048576: true; the input reads as it did. -/
def groupBelowUptoRow : OpenClaim := { program := "ytmdoldekaendlaa", sum := "e2a6e368019e2f40f82c669617297afdbe20ec9af85dae6ecf0bf566777f2987", func := "langdoc/langdoclaw42.GroupBelow", spec := "groupBelow", unfollowed := true, recurses := true, apart := false, narrowed := true }
def GroupBelowUptoSaid : Prop := groupBelowUptoRow.holds Try.pinned (OpenSpec.upto groupBelowSpec)

/-- 'langdoclaw42.GroupIn', WHERE WHAT IT READS IS OF BULK AT MOST 1048576: true; the input reads as it did. -/
def groupInUptoRow : OpenClaim := { program := "ytmdoldekaendlaa", sum := "e2a6e368019e2f40f82c669617297afdbe20ec9af85dae6ecf0bf566777f2987", func := "langdoc/langdoclaw42.GroupIn", spec := "groupIn", unfollowed := true, recurses := true, apart := false, narrowed := true }
def GroupInUptoSaid : Prop := groupInUptoRow.holds Try.pinned (OpenSpec.upto groupInSpec)

/-- 'langdoclaw42.GroupNested', WHERE WHAT IT READS IS OF BULK AT MOST 1048576: true; the input reads as it did. -/
def groupNestedUptoRow : OpenClaim := { program := "ytmdoldekaendlaa", sum := "e2a6e368019e2f40f82c669617297afdbe20ec9af85dae6ecf0bf566777f2987", func := "langdoc/langdoclaw42.GroupNested", spec := "groupNested", unfollowed := true, recurses := true, apart := false, narrowed := true }
def GroupNestedUptoSaid : Prop := groupNestedUptoRow.holds Try.pinned (OpenSpec.upto groupNestedSpec)

/-- 'langdoclaw42.GroupPlain', WHERE WHAT IT READS IS OF BULK AT MOST 1048576: true; the input reads as it did. -/
def groupPlainUptoRow : OpenClaim := { program := "ytmdoldekaendlaa", sum := "e2a6e368019e2f40f82c669617297afdbe20ec9af85dae6ecf0bf566777f2987", func := "langdoc/langdoclaw42.GroupPlain", spec := "groupPlain", unfollowed := true, recurses := true, apart := false, narrowed := true }
def GroupPlainUptoSaid : Prop := groupPlainUptoRow.holds Try.pinned (OpenSpec.upto groupPlainSpec)

/-- 'langdoclaw42.GroupAgrees', WHERE WHAT IT READS IS OF BULK AT MOST 1048576: true; the input reads as it did. -/
def groupAgreesUptoRow : OpenClaim := { program := "ytmdoldekaendlaa", sum := "e2a6e368019e2f40f82c669617297afdbe20ec9af85dae6ecf0bf566777f2987", func := "langdoc/langdoclaw42.GroupAgrees", spec := "groupAgrees", unfollowed := true, recurses := true, apart := false, narrowed := true }
def GroupAgreesUptoSaid : Prop := groupAgreesUptoRow.holds Try.pinned (OpenSpec.upto groupAgreesSpec)

/-- 'langdoclaw42.GroupGrows', WHERE WHAT IT READS IS OF BULK AT MOST 1048576: true; the input reads as it did. -/
def groupGrowsUptoRow : OpenClaim := { program := "ytmdoldekaendlaa", sum := "e2a6e368019e2f40f82c669617297afdbe20ec9af85dae6ecf0bf566777f2987", func := "langdoc/langdoclaw42.GroupGrows", spec := "groupGrows", unfollowed := true, recurses := true, apart := false, narrowed := true }
def GroupGrowsUptoSaid : Prop := groupGrowsUptoRow.holds Try.pinned (OpenSpec.upto groupGrowsSpec)

end Rows
end Go.Proofs.Ytmdoldekaendlaa
