/-
  No cell of these rows narrows 'for every input' (looked for: loops, veiled, ifaces, maps, wideKeys, modest, calm, conditions, laid).
  DERIVED. THE GIVEN ROWS OF THIS SEAT. 6 by the template 'for every input the law returns true; each argument reads behind the call as it read before'; 0 by the template 'total and deterministic' (their statements: YtoeogoeahmlgnaaTotals.lean).
  GIVEN WITH THE SEED: the statements are not yours to turn. If you find one false, say at which input.
  Laid BY PROGRAM, IN A SANDBOX (cutbox-rows.mjs): the forced cells as the released guide's own fill.sh prints them over the translation c05efd3ebef37567… (all of the seat's roots in one cut). By AI agents, Wed Nov 11 2026. No macro, syntax, notation, axiom, sorry.
-/
import Derived.Test.YtoeogoeahmlgnaaChecked
import GoSem.Claim
import GoSem.ClaimJoined
import GoSem.ClaimMapViews
import Derived.JoinedTies
import Derived.KernelRfl
namespace Go.Proofs.Ytoeogoeahmlgnaa
/- THE CELL 'sum', in the pinned program and in every row, IS THE sha256 OF THE DUMP (.gsa) THAT YtoeogoeahmlgnaaProg.lean LOADS. Nothing in Lean hashes anything: it is a label: what it is worth is what the hold of that sum in a sandbox is worth. -/
noncomputable def Try.pinned : Pinned := { name := "ytoeogoeahmlgnaa", sum := "c05efd3ebef3756778800ee6408fa0b3c51c71baf57b8353767707329d812a34", checked := Try.checked }
namespace Rows
def none {H : Type} : Left H := { results := [], args := [] }

/-- 'langdoclaw52.RepairDocs': WHATEVER THE INPUT: true; the input reads as it did. -/
def repairDocsSpec : ChangeSpec := { name := "repairDocs", fn := fun _ => fun
  | [d] => { results := [.lit (.bool true)], args := [d] }
  | _ => none }
def repairDocsRow : OpenClaim := { program := "ytoeogoeahmlgnaa", sum := "c05efd3ebef3756778800ee6408fa0b3c51c71baf57b8353767707329d812a34", func := "langdoc/langdoclaw52.RepairDocs", spec := "repairDocs", unfollowed := true, recurses := true, apart := false }
def RepairDocsSaid : Prop := repairDocsRow.holds Try.pinned (OpenSpec.ofChange repairDocsSpec)

/-- ITS FALSE NEIGHBOUR: 'it returns false'. Refute it at one input. -/
def repairDocsWrong : ChangeSpec := { name := "repairDocs", fn := fun _ => fun
  | [d] => { results := [.lit (.bool false)], args := [d] }
  | _ => none }
def RepairDocsWrongFalsely : Prop := repairDocsRow.holds Try.pinned (OpenSpec.ofChange repairDocsWrong)

/-- 'langdoclaw52.RepairConflicts': WHATEVER THE INPUT: true; the input reads as it did. -/
def repairConflictsSpec : ChangeSpec := { name := "repairConflicts", fn := fun _ => fun
  | [d] => { results := [.lit (.bool true)], args := [d] }
  | _ => none }
def repairConflictsRow : OpenClaim := { program := "ytoeogoeahmlgnaa", sum := "c05efd3ebef3756778800ee6408fa0b3c51c71baf57b8353767707329d812a34", func := "langdoc/langdoclaw52.RepairConflicts", spec := "repairConflicts", unfollowed := true, recurses := true, apart := false }
def RepairConflictsSaid : Prop := repairConflictsRow.holds Try.pinned (OpenSpec.ofChange repairConflictsSpec)

/-- ITS FALSE NEIGHBOUR: 'it returns false'. Refute it at one input. -/
def repairConflictsWrong : ChangeSpec := { name := "repairConflicts", fn := fun _ => fun
  | [d] => { results := [.lit (.bool false)], args := [d] }
  | _ => none }
def RepairConflictsWrongFalsely : Prop := repairConflictsRow.holds Try.pinned (OpenSpec.ofChange repairConflictsWrong)

/-- 'langdoclaw52.RepairLost': WHATEVER THE INPUT: true; the input reads as it did. -/
def repairLostSpec : ChangeSpec := { name := "repairLost", fn := fun _ => fun
  | [d1, d2, d3] => { results := [.lit (.bool true)], args := [d1, d2, d3] }
  | _ => none }
def repairLostRow : OpenClaim := { program := "ytoeogoeahmlgnaa", sum := "c05efd3ebef3756778800ee6408fa0b3c51c71baf57b8353767707329d812a34", func := "langdoc/langdoclaw52.RepairLost", spec := "repairLost", unfollowed := true, recurses := true, apart := false }
def RepairLostSaid : Prop := repairLostRow.holds Try.pinned (OpenSpec.ofChange repairLostSpec)

/-- ITS FALSE NEIGHBOUR: 'it returns false'. Refute it at one input. -/
def repairLostWrong : ChangeSpec := { name := "repairLost", fn := fun _ => fun
  | [d1, d2, d3] => { results := [.lit (.bool false)], args := [d1, d2, d3] }
  | _ => none }
def RepairLostWrongFalsely : Prop := repairLostRow.holds Try.pinned (OpenSpec.ofChange repairLostWrong)

/-- 'langdoclaw52.RepairRight': WHATEVER THE INPUT: true; the input reads as it did. -/
def repairRightSpec : ChangeSpec := { name := "repairRight", fn := fun _ => fun
  | [d] => { results := [.lit (.bool true)], args := [d] }
  | _ => none }
def repairRightRow : OpenClaim := { program := "ytoeogoeahmlgnaa", sum := "c05efd3ebef3756778800ee6408fa0b3c51c71baf57b8353767707329d812a34", func := "langdoc/langdoclaw52.RepairRight", spec := "repairRight", unfollowed := true, recurses := true, apart := false }
def RepairRightSaid : Prop := repairRightRow.holds Try.pinned (OpenSpec.ofChange repairRightSpec)

/-- ITS FALSE NEIGHBOUR: 'it returns false'. Refute it at one input. -/
def repairRightWrong : ChangeSpec := { name := "repairRight", fn := fun _ => fun
  | [d] => { results := [.lit (.bool false)], args := [d] }
  | _ => none }
def RepairRightWrongFalsely : Prop := repairRightRow.holds Try.pinned (OpenSpec.ofChange repairRightWrong)

/-- 'langdoclaw52.RepairPlaces': WHATEVER THE INPUT: true; the input reads as it did. -/
def repairPlacesSpec : ChangeSpec := { name := "repairPlaces", fn := fun _ => fun
  | [d] => { results := [.lit (.bool true)], args := [d] }
  | _ => none }
def repairPlacesRow : OpenClaim := { program := "ytoeogoeahmlgnaa", sum := "c05efd3ebef3756778800ee6408fa0b3c51c71baf57b8353767707329d812a34", func := "langdoc/langdoclaw52.RepairPlaces", spec := "repairPlaces", unfollowed := true, recurses := true, apart := false }
def RepairPlacesSaid : Prop := repairPlacesRow.holds Try.pinned (OpenSpec.ofChange repairPlacesSpec)

/-- ITS FALSE NEIGHBOUR: 'it returns false'. Refute it at one input. -/
def repairPlacesWrong : ChangeSpec := { name := "repairPlaces", fn := fun _ => fun
  | [d] => { results := [.lit (.bool false)], args := [d] }
  | _ => none }
def RepairPlacesWrongFalsely : Prop := repairPlacesRow.holds Try.pinned (OpenSpec.ofChange repairPlacesWrong)

/-- 'langdoclaw52.RepairNeeds': WHATEVER THE INPUT: true; the input reads as it did. -/
def repairNeedsSpec : ChangeSpec := { name := "repairNeeds", fn := fun _ => fun
  | [d] => { results := [.lit (.bool true)], args := [d] }
  | _ => none }
def repairNeedsRow : OpenClaim := { program := "ytoeogoeahmlgnaa", sum := "c05efd3ebef3756778800ee6408fa0b3c51c71baf57b8353767707329d812a34", func := "langdoc/langdoclaw52.RepairNeeds", spec := "repairNeeds", unfollowed := true, recurses := true, apart := false }
def RepairNeedsSaid : Prop := repairNeedsRow.holds Try.pinned (OpenSpec.ofChange repairNeedsSpec)

/-- ITS FALSE NEIGHBOUR: 'it returns false'. Refute it at one input. -/
def repairNeedsWrong : ChangeSpec := { name := "repairNeeds", fn := fun _ => fun
  | [d] => { results := [.lit (.bool false)], args := [d] }
  | _ => none }
def RepairNeedsWrongFalsely : Prop := repairNeedsRow.holds Try.pinned (OpenSpec.ofChange repairNeedsWrong)

/- THE SECOND FORM. 'bulk': how many values and letters a reading holds, each counted each time it is reached (what is shared counts as often as it is met; a slice's spare places count too). A statement '..UptoSaid' is the law's where the arguments, and the package variables that the reading takes, are together of bulk at most 1048576: NARROWER than '..Said'. Prove '..Said' where nothing that the law and all that it calls make is longer than what came in: it says more and counts as full. Else prove '..UptoSaid'. A law counts once. -/
mutual
def uptoBulk {H : Type} : DataW H → Nat
  | .lit (.string bytes) => bytes.length + 1
  | .lit _ => 1
  | .nil => 1
  | .ptr d => uptoBulk d + 1
  | .slice elems spare => uptoBulkAll elems + uptoBulkAll spare + 1
  | .agg parts => uptoBulkAll parts + 1
  | .iface _ d => uptoBulk d + 1
  | .map entries => uptoBulkEntries entries + 1
  | .held _ => 1
def uptoBulkAll {H : Type} : List (DataW H) → Nat
  | [] => 0
  | d :: r => uptoBulk d + uptoBulkAll r
def uptoBulkEntries {H : Type} : List (Lit × DataW H) → Nat
  | [] => 0
  | x :: r => uptoBulkEntry x + uptoBulkEntries r
def uptoBulkEntry {H : Type} : Lit × DataW H → Nat
  | (.string bytes, d) => bytes.length + uptoBulk d + 1
  | (_, d) => uptoBulk d + 1
 end
def uptoSmall : (H : Type) → List (DataW H) → Bool := fun _ ds => decide (uptoBulkAll ds ≤ 1048576)
def OpenSpec.upto (s : _root_.Go.ChangeSpec) : _root_.Go.OpenSpec := { _root_.Go.OpenSpec.ofChange s with cond := some uptoSmall }

/-- 'langdoclaw52.RepairDocs', WHERE WHAT IT READS IS OF BULK AT MOST 1048576: true; the input reads as it did. -/
def repairDocsUptoRow : OpenClaim := { program := "ytoeogoeahmlgnaa", sum := "c05efd3ebef3756778800ee6408fa0b3c51c71baf57b8353767707329d812a34", func := "langdoc/langdoclaw52.RepairDocs", spec := "repairDocs", unfollowed := true, recurses := true, apart := false, narrowed := true }
def RepairDocsUptoSaid : Prop := repairDocsUptoRow.holds Try.pinned (OpenSpec.upto repairDocsSpec)

/-- 'langdoclaw52.RepairConflicts', WHERE WHAT IT READS IS OF BULK AT MOST 1048576: true; the input reads as it did. -/
def repairConflictsUptoRow : OpenClaim := { program := "ytoeogoeahmlgnaa", sum := "c05efd3ebef3756778800ee6408fa0b3c51c71baf57b8353767707329d812a34", func := "langdoc/langdoclaw52.RepairConflicts", spec := "repairConflicts", unfollowed := true, recurses := true, apart := false, narrowed := true }
def RepairConflictsUptoSaid : Prop := repairConflictsUptoRow.holds Try.pinned (OpenSpec.upto repairConflictsSpec)

/-- 'langdoclaw52.RepairLost', WHERE WHAT IT READS IS OF BULK AT MOST 1048576: true; the input reads as it did. -/
def repairLostUptoRow : OpenClaim := { program := "ytoeogoeahmlgnaa", sum := "c05efd3ebef3756778800ee6408fa0b3c51c71baf57b8353767707329d812a34", func := "langdoc/langdoclaw52.RepairLost", spec := "repairLost", unfollowed := true, recurses := true, apart := false, narrowed := true }
def RepairLostUptoSaid : Prop := repairLostUptoRow.holds Try.pinned (OpenSpec.upto repairLostSpec)

/-- 'langdoclaw52.RepairRight', WHERE WHAT IT READS IS OF BULK AT MOST 1048576: true; the input reads as it did. -/
def repairRightUptoRow : OpenClaim := { program := "ytoeogoeahmlgnaa", sum := "c05efd3ebef3756778800ee6408fa0b3c51c71baf57b8353767707329d812a34", func := "langdoc/langdoclaw52.RepairRight", spec := "repairRight", unfollowed := true, recurses := true, apart := false, narrowed := true }
def RepairRightUptoSaid : Prop := repairRightUptoRow.holds Try.pinned (OpenSpec.upto repairRightSpec)

/-- 'langdoclaw52.RepairPlaces', WHERE WHAT IT READS IS OF BULK AT MOST 1048576: true; the input reads as it did. -/
def repairPlacesUptoRow : OpenClaim := { program := "ytoeogoeahmlgnaa", sum := "c05efd3ebef3756778800ee6408fa0b3c51c71baf57b8353767707329d812a34", func := "langdoc/langdoclaw52.RepairPlaces", spec := "repairPlaces", unfollowed := true, recurses := true, apart := false, narrowed := true }
def RepairPlacesUptoSaid : Prop := repairPlacesUptoRow.holds Try.pinned (OpenSpec.upto repairPlacesSpec)

/-- 'langdoclaw52.RepairNeeds', WHERE WHAT IT READS IS OF BULK AT MOST 1048576: true; the input reads as it did. -/
def repairNeedsUptoRow : OpenClaim := { program := "ytoeogoeahmlgnaa", sum := "c05efd3ebef3756778800ee6408fa0b3c51c71baf57b8353767707329d812a34", func := "langdoc/langdoclaw52.RepairNeeds", spec := "repairNeeds", unfollowed := true, recurses := true, apart := false, narrowed := true }
def RepairNeedsUptoSaid : Prop := repairNeedsUptoRow.holds Try.pinned (OpenSpec.upto repairNeedsSpec)

end Rows
end Go.Proofs.Ytoeogoeahmlgnaa
