/-
  No cell of these rows narrows 'for every input' (looked for: loops, veiled, ifaces, maps, wideKeys, modest, calm, conditions, laid).
  DERIVED. THE GIVEN ROWS OF THIS SEAT. 9 by the template 'for every input the law returns true; each argument reads behind the call as it read before'; 0 by the template 'total and deterministic' (their statements: YtobjcopfdoiaiaaTotals.lean).
  GIVEN WITH THE SEED: the statements are not yours to turn. If you find one false, say at which input.
  Laid BY PROGRAM, IN A SANDBOX (cutbox-rows.mjs): the forced cells as the released guide's own fill.sh prints them over the translation bfbca694652a9505… (all of the seat's roots in one cut). By AI agents, Wed Nov 11 2026. No macro, syntax, notation, axiom, sorry.
-/
import Derived.Test.YtobjcopfdoiaiaaChecked
import GoSem.Claim
import GoSem.ClaimJoined
import GoSem.ClaimMapViews
import Derived.JoinedTies
import Derived.KernelRfl
namespace Go.Proofs.Ytobjcopfdoiaiaa
/- THE CELL 'sum', in the pinned program and in every row, IS THE sha256 OF THE DUMP (.gsa) THAT YtobjcopfdoiaiaaProg.lean LOADS. Nothing in Lean hashes anything: it is a label: what it is worth is what the hold of that sum in a sandbox is worth. -/
noncomputable def Try.pinned : Pinned := { name := "ytobjcopfdoiaiaa", sum := "bfbca694652a9505f80fbe2d553d6e2be412e13d03c02da870db67370dc69fc3", checked := Try.checked }
namespace Rows
def none {H : Type} : Left H := { results := [], args := [] }

/-- 'langdoclaw09.SpanRelates': WHATEVER THE INPUT: true; the input reads as it did. -/
def spanRelatesSpec : ChangeSpec := { name := "spanRelates", fn := fun _ => fun
  | [d1, d2] => { results := [.lit (.bool true)], args := [d1, d2] }
  | _ => none }
def spanRelatesRow : OpenClaim := { program := "ytobjcopfdoiaiaa", sum := "bfbca694652a9505f80fbe2d553d6e2be412e13d03c02da870db67370dc69fc3", func := "langdoc/langdoclaw09.SpanRelates", spec := "spanRelates", unfollowed := true, recurses := true, apart := false }
def SpanRelatesSaid : Prop := spanRelatesRow.holds Try.pinned (OpenSpec.ofChange spanRelatesSpec)

/-- ITS FALSE NEIGHBOUR: 'it returns false'. Refute it at one input. -/
def spanRelatesWrong : ChangeSpec := { name := "spanRelates", fn := fun _ => fun
  | [d1, d2] => { results := [.lit (.bool false)], args := [d1, d2] }
  | _ => none }
def SpanRelatesWrongFalsely : Prop := spanRelatesRow.holds Try.pinned (OpenSpec.ofChange spanRelatesWrong)

/-- 'langdoclaw09.SpanFlips': WHATEVER THE INPUT: true; the input reads as it did. -/
def spanFlipsSpec : ChangeSpec := { name := "spanFlips", fn := fun _ => fun
  | [d] => { results := [.lit (.bool true)], args := [d] }
  | _ => none }
def spanFlipsRow : OpenClaim := { program := "ytobjcopfdoiaiaa", sum := "bfbca694652a9505f80fbe2d553d6e2be412e13d03c02da870db67370dc69fc3", func := "langdoc/langdoclaw09.SpanFlips", spec := "spanFlips", unfollowed := true, recurses := true, apart := false }
def SpanFlipsSaid : Prop := spanFlipsRow.holds Try.pinned (OpenSpec.ofChange spanFlipsSpec)

/-- ITS FALSE NEIGHBOUR: 'it returns false'. Refute it at one input. -/
def spanFlipsWrong : ChangeSpec := { name := "spanFlips", fn := fun _ => fun
  | [d] => { results := [.lit (.bool false)], args := [d] }
  | _ => none }
def SpanFlipsWrongFalsely : Prop := spanFlipsRow.holds Try.pinned (OpenSpec.ofChange spanFlipsWrong)

/-- 'langdoclaw09.SpanInverse': WHATEVER THE INPUT: true; the input reads as it did. -/
def spanInverseSpec : ChangeSpec := { name := "spanInverse", fn := fun _ => fun
  | [d1, d2] => { results := [.lit (.bool true)], args := [d1, d2] }
  | _ => none }
def spanInverseRow : OpenClaim := { program := "ytobjcopfdoiaiaa", sum := "bfbca694652a9505f80fbe2d553d6e2be412e13d03c02da870db67370dc69fc3", func := "langdoc/langdoclaw09.SpanInverse", spec := "spanInverse", unfollowed := true, recurses := true, apart := false }
def SpanInverseSaid : Prop := spanInverseRow.holds Try.pinned (OpenSpec.ofChange spanInverseSpec)

/-- ITS FALSE NEIGHBOUR: 'it returns false'. Refute it at one input. -/
def spanInverseWrong : ChangeSpec := { name := "spanInverse", fn := fun _ => fun
  | [d1, d2] => { results := [.lit (.bool false)], args := [d1, d2] }
  | _ => none }
def SpanInverseWrongFalsely : Prop := spanInverseRow.holds Try.pinned (OpenSpec.ofChange spanInverseWrong)

/-- 'langdoclaw09.SpanUnions': WHATEVER THE INPUT: true; the input reads as it did. -/
def spanUnionsSpec : ChangeSpec := { name := "spanUnions", fn := fun _ => fun
  | [d] => { results := [.lit (.bool true)], args := [d] }
  | _ => none }
def spanUnionsRow : OpenClaim := { program := "ytobjcopfdoiaiaa", sum := "bfbca694652a9505f80fbe2d553d6e2be412e13d03c02da870db67370dc69fc3", func := "langdoc/langdoclaw09.SpanUnions", spec := "spanUnions", unfollowed := true, recurses := true, apart := false }
def SpanUnionsSaid : Prop := spanUnionsRow.holds Try.pinned (OpenSpec.ofChange spanUnionsSpec)

/-- ITS FALSE NEIGHBOUR: 'it returns false'. Refute it at one input. -/
def spanUnionsWrong : ChangeSpec := { name := "spanUnions", fn := fun _ => fun
  | [d] => { results := [.lit (.bool false)], args := [d] }
  | _ => none }
def SpanUnionsWrongFalsely : Prop := spanUnionsRow.holds Try.pinned (OpenSpec.ofChange spanUnionsWrong)

/-- 'langdoclaw09.SpanSets': WHATEVER THE INPUT: true; the input reads as it did. -/
def spanSetsSpec : ChangeSpec := { name := "spanSets", fn := fun _ => fun
  | [d1, d2] => { results := [.lit (.bool true)], args := [d1, d2] }
  | _ => none }
def spanSetsRow : OpenClaim := { program := "ytobjcopfdoiaiaa", sum := "bfbca694652a9505f80fbe2d553d6e2be412e13d03c02da870db67370dc69fc3", func := "langdoc/langdoclaw09.SpanSets", spec := "spanSets", unfollowed := true, recurses := true, apart := false }
def SpanSetsSaid : Prop := spanSetsRow.holds Try.pinned (OpenSpec.ofChange spanSetsSpec)

/-- ITS FALSE NEIGHBOUR: 'it returns false'. Refute it at one input. -/
def spanSetsWrong : ChangeSpec := { name := "spanSets", fn := fun _ => fun
  | [d1, d2] => { results := [.lit (.bool false)], args := [d1, d2] }
  | _ => none }
def SpanSetsWrongFalsely : Prop := spanSetsRow.holds Try.pinned (OpenSpec.ofChange spanSetsWrong)

/-- 'langdoclaw09.SpanCovers': WHATEVER THE INPUT: true; the input reads as it did. -/
def spanCoversSpec : ChangeSpec := { name := "spanCovers", fn := fun _ => fun
  | [d1, d2] => { results := [.lit (.bool true)], args := [d1, d2] }
  | _ => none }
def spanCoversRow : OpenClaim := { program := "ytobjcopfdoiaiaa", sum := "bfbca694652a9505f80fbe2d553d6e2be412e13d03c02da870db67370dc69fc3", func := "langdoc/langdoclaw09.SpanCovers", spec := "spanCovers", unfollowed := true, recurses := true, apart := false }
def SpanCoversSaid : Prop := spanCoversRow.holds Try.pinned (OpenSpec.ofChange spanCoversSpec)

/-- ITS FALSE NEIGHBOUR: 'it returns false'. Refute it at one input. -/
def spanCoversWrong : ChangeSpec := { name := "spanCovers", fn := fun _ => fun
  | [d1, d2] => { results := [.lit (.bool false)], args := [d1, d2] }
  | _ => none }
def SpanCoversWrongFalsely : Prop := spanCoversRow.holds Try.pinned (OpenSpec.ofChange spanCoversWrong)

/-- 'langdoclaw09.SpanTimes': WHATEVER THE INPUT: true; the input reads as it did. -/
def spanTimesSpec : ChangeSpec := { name := "spanTimes", fn := fun _ => fun
  | [d1, d2, d3] => { results := [.lit (.bool true)], args := [d1, d2, d3] }
  | _ => none }
def spanTimesRow : OpenClaim := { program := "ytobjcopfdoiaiaa", sum := "bfbca694652a9505f80fbe2d553d6e2be412e13d03c02da870db67370dc69fc3", func := "langdoc/langdoclaw09.SpanTimes", spec := "spanTimes", unfollowed := true, recurses := true, apart := false }
def SpanTimesSaid : Prop := spanTimesRow.holds Try.pinned (OpenSpec.ofChange spanTimesSpec)

/-- ITS FALSE NEIGHBOUR: 'it returns false'. Refute it at one input. -/
def spanTimesWrong : ChangeSpec := { name := "spanTimes", fn := fun _ => fun
  | [d1, d2, d3] => { results := [.lit (.bool false)], args := [d1, d2, d3] }
  | _ => none }
def SpanTimesWrongFalsely : Prop := spanTimesRow.holds Try.pinned (OpenSpec.ofChange spanTimesWrong)

/-- 'langdoclaw09.SpanTotals': WHATEVER THE INPUT: true; the input reads as it did. -/
def spanTotalsSpec : ChangeSpec := { name := "spanTotals", fn := fun _ => fun
  | [d1, d2] => { results := [.lit (.bool true)], args := [d1, d2] }
  | _ => none }
def spanTotalsRow : OpenClaim := { program := "ytobjcopfdoiaiaa", sum := "bfbca694652a9505f80fbe2d553d6e2be412e13d03c02da870db67370dc69fc3", func := "langdoc/langdoclaw09.SpanTotals", spec := "spanTotals", unfollowed := true, recurses := true, apart := false }
def SpanTotalsSaid : Prop := spanTotalsRow.holds Try.pinned (OpenSpec.ofChange spanTotalsSpec)

/-- ITS FALSE NEIGHBOUR: 'it returns false'. Refute it at one input. -/
def spanTotalsWrong : ChangeSpec := { name := "spanTotals", fn := fun _ => fun
  | [d1, d2] => { results := [.lit (.bool false)], args := [d1, d2] }
  | _ => none }
def SpanTotalsWrongFalsely : Prop := spanTotalsRow.holds Try.pinned (OpenSpec.ofChange spanTotalsWrong)

/-- 'langdoclaw09.SpanInside': WHATEVER THE INPUT: true; the input reads as it did. -/
def spanInsideSpec : ChangeSpec := { name := "spanInside", fn := fun _ => fun
  | [d1, d2, d3] => { results := [.lit (.bool true)], args := [d1, d2, d3] }
  | _ => none }
def spanInsideRow : OpenClaim := { program := "ytobjcopfdoiaiaa", sum := "bfbca694652a9505f80fbe2d553d6e2be412e13d03c02da870db67370dc69fc3", func := "langdoc/langdoclaw09.SpanInside", spec := "spanInside", unfollowed := true, recurses := true, apart := false }
def SpanInsideSaid : Prop := spanInsideRow.holds Try.pinned (OpenSpec.ofChange spanInsideSpec)

/-- ITS FALSE NEIGHBOUR: 'it returns false'. Refute it at one input. -/
def spanInsideWrong : ChangeSpec := { name := "spanInside", fn := fun _ => fun
  | [d1, d2, d3] => { results := [.lit (.bool false)], args := [d1, d2, d3] }
  | _ => none }
def SpanInsideWrongFalsely : Prop := spanInsideRow.holds Try.pinned (OpenSpec.ofChange spanInsideWrong)

/- THE SECOND FORM. 'bulk': how many values and letters a reading holds, each counted each time it is reached (what is shared counts as often as it is met; a slice's spare places count too). A statement '..UptoSaid' is the law's where the arguments, and the package variables that the reading takes, are together of bulk at most 1048576: NARROWER than '..Said'. Prove '..Said' where nothing that the law and all that it calls make is longer than what came in: it says more and counts as full. Else prove '..UptoSaid'. A law counts once. -/
mutual
def uptoBulk {H : Type} : DataW H → Nat
  | .lit (.string bytes) => bytes.length + 1
  | .lit _ => 1
  | .nil => 1
  | .ptr d => uptoBulk d + 1
  | .slice elems spare => uptoBulkAll elems + uptoBulkAll spare + 1
  | .agg parts => uptoBulkAll parts + 1
  | .iface _ d => uptoBulk d + 1
  | .map entries => uptoBulkEntries entries + 1
  | .held _ => 1
def uptoBulkAll {H : Type} : List (DataW H) → Nat
  | [] => 0
  | d :: r => uptoBulk d + uptoBulkAll r
def uptoBulkEntries {H : Type} : List (Lit × DataW H) → Nat
  | [] => 0
  | x :: r => uptoBulkEntry x + uptoBulkEntries r
def uptoBulkEntry {H : Type} : Lit × DataW H → Nat
  | (.string bytes, d) => bytes.length + uptoBulk d + 1
  | (_, d) => uptoBulk d + 1
 end
def uptoSmall : (H : Type) → List (DataW H) → Bool := fun _ ds => decide (uptoBulkAll ds ≤ 1048576)
def OpenSpec.upto (s : _root_.Go.ChangeSpec) : _root_.Go.OpenSpec := { _root_.Go.OpenSpec.ofChange s with cond := some uptoSmall }

/-- 'langdoclaw09.SpanRelates', WHERE WHAT IT READS IS OF BULK AT MOST 1048576: true; the input reads as it did. -/
def spanRelatesUptoRow : OpenClaim := { program := "ytobjcopfdoiaiaa", sum := "bfbca694652a9505f80fbe2d553d6e2be412e13d03c02da870db67370dc69fc3", func := "langdoc/langdoclaw09.SpanRelates", spec := "spanRelates", unfollowed := true, recurses := true, apart := false, narrowed := true }
def SpanRelatesUptoSaid : Prop := spanRelatesUptoRow.holds Try.pinned (OpenSpec.upto spanRelatesSpec)

/-- 'langdoclaw09.SpanFlips', WHERE WHAT IT READS IS OF BULK AT MOST 1048576: true; the input reads as it did. -/
def spanFlipsUptoRow : OpenClaim := { program := "ytobjcopfdoiaiaa", sum := "bfbca694652a9505f80fbe2d553d6e2be412e13d03c02da870db67370dc69fc3", func := "langdoc/langdoclaw09.SpanFlips", spec := "spanFlips", unfollowed := true, recurses := true, apart := false, narrowed := true }
def SpanFlipsUptoSaid : Prop := spanFlipsUptoRow.holds Try.pinned (OpenSpec.upto spanFlipsSpec)

/-- 'langdoclaw09.SpanInverse', WHERE WHAT IT READS IS OF BULK AT MOST 1048576: true; the input reads as it did. -/
def spanInverseUptoRow : OpenClaim := { program := "ytobjcopfdoiaiaa", sum := "bfbca694652a9505f80fbe2d553d6e2be412e13d03c02da870db67370dc69fc3", func := "langdoc/langdoclaw09.SpanInverse", spec := "spanInverse", unfollowed := true, recurses := true, apart := false, narrowed := true }
def SpanInverseUptoSaid : Prop := spanInverseUptoRow.holds Try.pinned (OpenSpec.upto spanInverseSpec)

/-- 'langdoclaw09.SpanUnions', WHERE WHAT IT READS IS OF BULK AT MOST 1048576: true; the input reads as it did. -/
def spanUnionsUptoRow : OpenClaim := { program := "ytobjcopfdoiaiaa", sum := "bfbca694652a9505f80fbe2d553d6e2be412e13d03c02da870db67370dc69fc3", func := "langdoc/langdoclaw09.SpanUnions", spec := "spanUnions", unfollowed := true, recurses := true, apart := false, narrowed := true }
def SpanUnionsUptoSaid : Prop := spanUnionsUptoRow.holds Try.pinned (OpenSpec.upto spanUnionsSpec)

/-- 'langdoclaw09.SpanSets', WHERE WHAT IT READS IS OF BULK AT MOST 1048576: true; the input reads as it did. -/
def spanSetsUptoRow : OpenClaim := { program := "ytobjcopfdoiaiaa", sum := "bfbca694652a9505f80fbe2d553d6e2be412e13d03c02da870db67370dc69fc3", func := "langdoc/langdoclaw09.SpanSets", spec := "spanSets", unfollowed := true, recurses := true, apart := false, narrowed := true }
def SpanSetsUptoSaid : Prop := spanSetsUptoRow.holds Try.pinned (OpenSpec.upto spanSetsSpec)

/-- 'langdoclaw09.SpanCovers', WHERE WHAT IT READS IS OF BULK AT MOST 1048576: true; the input reads as it did. -/
def spanCoversUptoRow : OpenClaim := { program := "ytobjcopfdoiaiaa", sum := "bfbca694652a9505f80fbe2d553d6e2be412e13d03c02da870db67370dc69fc3", func := "langdoc/langdoclaw09.SpanCovers", spec := "spanCovers", unfollowed := true, recurses := true, apart := false, narrowed := true }
def SpanCoversUptoSaid : Prop := spanCoversUptoRow.holds Try.pinned (OpenSpec.upto spanCoversSpec)

/-- 'langdoclaw09.SpanTimes', WHERE WHAT IT READS IS OF BULK AT MOST 1048576: true; the input reads as it did. -/
def spanTimesUptoRow : OpenClaim := { program := "ytobjcopfdoiaiaa", sum := "bfbca694652a9505f80fbe2d553d6e2be412e13d03c02da870db67370dc69fc3", func := "langdoc/langdoclaw09.SpanTimes", spec := "spanTimes", unfollowed := true, recurses := true, apart := false, narrowed := true }
def SpanTimesUptoSaid : Prop := spanTimesUptoRow.holds Try.pinned (OpenSpec.upto spanTimesSpec)

/-- 'langdoclaw09.SpanTotals', WHERE WHAT IT READS IS OF BULK AT MOST 1048576: true; the input reads as it did. -/
def spanTotalsUptoRow : OpenClaim := { program := "ytobjcopfdoiaiaa", sum := "bfbca694652a9505f80fbe2d553d6e2be412e13d03c02da870db67370dc69fc3", func := "langdoc/langdoclaw09.SpanTotals", spec := "spanTotals", unfollowed := true, recurses := true, apart := false, narrowed := true }
def SpanTotalsUptoSaid : Prop := spanTotalsUptoRow.holds Try.pinned (OpenSpec.upto spanTotalsSpec)

/-- 'langdoclaw09.SpanInside', WHERE WHAT IT READS IS OF BULK AT MOST 1048576: true; the input reads as it did. -/
def spanInsideUptoRow : OpenClaim := { program := "ytobjcopfdoiaiaa", sum := "bfbca694652a9505f80fbe2d553d6e2be412e13d03c02da870db67370dc69fc3", func := "langdoc/langdoclaw09.SpanInside", spec := "spanInside", unfollowed := true, recurses := true, apart := false, narrowed := true }
def SpanInsideUptoSaid : Prop := spanInsideUptoRow.holds Try.pinned (OpenSpec.upto spanInsideSpec)

end Rows
end Go.Proofs.Ytobjcopfdoiaiaa
