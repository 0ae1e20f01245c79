/-
  No cell of these rows narrows 'for every input' (looked for: loops, veiled, ifaces, maps, wideKeys, modest, calm, conditions, laid).
  DERIVED. THE GIVEN ROWS OF THIS SEAT. 9 by the template 'for every input the law returns true; each argument reads behind the call as it read before'; 0 by the template 'total and deterministic' (their statements: YtpbpeniccpndbaaTotals.lean).
  GIVEN WITH THE SEED: the statements are not yours to turn. If you find one false, say at which input.
  Laid BY PROGRAM, IN A SANDBOX (cutbox-rows.mjs): the forced cells as the released guide's own fill.sh prints them over the translation 11d6b6f2a21d45b7… (all of the seat's roots in one cut). By AI agents, Wed Nov 11 2026. No macro, syntax, notation, axiom, sorry.
-/
import Derived.Test.YtpbpeniccpndbaaChecked
import GoSem.Claim
import GoSem.ClaimJoined
import GoSem.ClaimMapViews
import Derived.JoinedTies
import Derived.KernelRfl
namespace Go.Proofs.Ytpbpeniccpndbaa
/- THE CELL 'sum', in the pinned program and in every row, IS THE sha256 OF THE DUMP (.gsa) THAT YtpbpeniccpndbaaProg.lean LOADS. Nothing in Lean hashes anything: it is a label: what it is worth is what the hold of that sum in a sandbox is worth. -/
noncomputable def Try.pinned : Pinned := { name := "ytpbpeniccpndbaa", sum := "11d6b6f2a21d45b734a0daecd31371cfc46e97ededb57b523676965055c26dab", checked := Try.checked }
namespace Rows
def none {H : Type} : Left H := { results := [], args := [] }

/-- 'langdoclaw44.ProtocolChecks': WHATEVER THE INPUT: true; the input reads as it did. -/
def protocolChecksSpec : ChangeSpec := { name := "protocolChecks", fn := fun _ => fun
  | [d1, d2] => { results := [.lit (.bool true)], args := [d1, d2] }
  | _ => none }
def protocolChecksRow : OpenClaim := { program := "ytpbpeniccpndbaa", sum := "11d6b6f2a21d45b734a0daecd31371cfc46e97ededb57b523676965055c26dab", func := "langdoc/langdoclaw44.ProtocolChecks", spec := "protocolChecks", unfollowed := true, recurses := true, apart := false }
def ProtocolChecksSaid : Prop := protocolChecksRow.holds Try.pinned (OpenSpec.ofChange protocolChecksSpec)

/-- ITS FALSE NEIGHBOUR: 'it returns false'. Refute it at one input. -/
def protocolChecksWrong : ChangeSpec := { name := "protocolChecks", fn := fun _ => fun
  | [d1, d2] => { results := [.lit (.bool false)], args := [d1, d2] }
  | _ => none }
def ProtocolChecksWrongFalsely : Prop := protocolChecksRow.holds Try.pinned (OpenSpec.ofChange protocolChecksWrong)

/-- 'langdoclaw44.ProtocolMay': WHATEVER THE INPUT: true; the input reads as it did. -/
def protocolMaySpec : ChangeSpec := { name := "protocolMay", fn := fun _ => fun
  | [d1, d2, d3] => { results := [.lit (.bool true)], args := [d1, d2, d3] }
  | _ => none }
def protocolMayRow : OpenClaim := { program := "ytpbpeniccpndbaa", sum := "11d6b6f2a21d45b734a0daecd31371cfc46e97ededb57b523676965055c26dab", func := "langdoc/langdoclaw44.ProtocolMay", spec := "protocolMay", unfollowed := true, recurses := true, apart := false }
def ProtocolMaySaid : Prop := protocolMayRow.holds Try.pinned (OpenSpec.ofChange protocolMaySpec)

/-- ITS FALSE NEIGHBOUR: 'it returns false'. Refute it at one input. -/
def protocolMayWrong : ChangeSpec := { name := "protocolMay", fn := fun _ => fun
  | [d1, d2, d3] => { results := [.lit (.bool false)], args := [d1, d2, d3] }
  | _ => none }
def ProtocolMayWrongFalsely : Prop := protocolMayRow.holds Try.pinned (OpenSpec.ofChange protocolMayWrong)

/-- 'langdoclaw44.ProtocolAll': WHATEVER THE INPUT: true; the input reads as it did. -/
def protocolAllSpec : ChangeSpec := { name := "protocolAll", fn := fun _ => fun
  | [d1, d2, d3] => { results := [.lit (.bool true)], args := [d1, d2, d3] }
  | _ => none }
def protocolAllRow : OpenClaim := { program := "ytpbpeniccpndbaa", sum := "11d6b6f2a21d45b734a0daecd31371cfc46e97ededb57b523676965055c26dab", func := "langdoc/langdoclaw44.ProtocolAll", spec := "protocolAll", unfollowed := true, recurses := true, apart := false }
def ProtocolAllSaid : Prop := protocolAllRow.holds Try.pinned (OpenSpec.ofChange protocolAllSpec)

/-- ITS FALSE NEIGHBOUR: 'it returns false'. Refute it at one input. -/
def protocolAllWrong : ChangeSpec := { name := "protocolAll", fn := fun _ => fun
  | [d1, d2, d3] => { results := [.lit (.bool false)], args := [d1, d2, d3] }
  | _ => none }
def ProtocolAllWrongFalsely : Prop := protocolAllRow.holds Try.pinned (OpenSpec.ofChange protocolAllWrong)

/-- 'langdoclaw44.ProtocolWider': WHATEVER THE INPUT: true; the input reads as it did. -/
def protocolWiderSpec : ChangeSpec := { name := "protocolWider", fn := fun _ => fun
  | [d1, d2] => { results := [.lit (.bool true)], args := [d1, d2] }
  | _ => none }
def protocolWiderRow : OpenClaim := { program := "ytpbpeniccpndbaa", sum := "11d6b6f2a21d45b734a0daecd31371cfc46e97ededb57b523676965055c26dab", func := "langdoc/langdoclaw44.ProtocolWider", spec := "protocolWider", unfollowed := true, recurses := true, apart := false }
def ProtocolWiderSaid : Prop := protocolWiderRow.holds Try.pinned (OpenSpec.ofChange protocolWiderSpec)

/-- ITS FALSE NEIGHBOUR: 'it returns false'. Refute it at one input. -/
def protocolWiderWrong : ChangeSpec := { name := "protocolWider", fn := fun _ => fun
  | [d1, d2] => { results := [.lit (.bool false)], args := [d1, d2] }
  | _ => none }
def ProtocolWiderWrongFalsely : Prop := protocolWiderRow.holds Try.pinned (OpenSpec.ofChange protocolWiderWrong)

/-- 'langdoclaw44.ProtocolSame': WHATEVER THE INPUT: true; the input reads as it did. -/
def protocolSameSpec : ChangeSpec := { name := "protocolSame", fn := fun _ => fun
  | [d1, d2] => { results := [.lit (.bool true)], args := [d1, d2] }
  | _ => none }
def protocolSameRow : OpenClaim := { program := "ytpbpeniccpndbaa", sum := "11d6b6f2a21d45b734a0daecd31371cfc46e97ededb57b523676965055c26dab", func := "langdoc/langdoclaw44.ProtocolSame", spec := "protocolSame", unfollowed := true, recurses := true, apart := false }
def ProtocolSameSaid : Prop := protocolSameRow.holds Try.pinned (OpenSpec.ofChange protocolSameSpec)

/-- ITS FALSE NEIGHBOUR: 'it returns false'. Refute it at one input. -/
def protocolSameWrong : ChangeSpec := { name := "protocolSame", fn := fun _ => fun
  | [d1, d2] => { results := [.lit (.bool false)], args := [d1, d2] }
  | _ => none }
def ProtocolSameWrongFalsely : Prop := protocolSameRow.holds Try.pinned (OpenSpec.ofChange protocolSameWrong)

/-- 'langdoclaw44.ProtocolImplies': WHATEVER THE INPUT: true; the input reads as it did. -/
def protocolImpliesSpec : ChangeSpec := { name := "protocolImplies", fn := fun _ => fun
  | [d1, d2, d3] => { results := [.lit (.bool true)], args := [d1, d2, d3] }
  | _ => none }
def protocolImpliesRow : OpenClaim := { program := "ytpbpeniccpndbaa", sum := "11d6b6f2a21d45b734a0daecd31371cfc46e97ededb57b523676965055c26dab", func := "langdoc/langdoclaw44.ProtocolImplies", spec := "protocolImplies", unfollowed := true, recurses := true, apart := false }
def ProtocolImpliesSaid : Prop := protocolImpliesRow.holds Try.pinned (OpenSpec.ofChange protocolImpliesSpec)

/-- ITS FALSE NEIGHBOUR: 'it returns false'. Refute it at one input. -/
def protocolImpliesWrong : ChangeSpec := { name := "protocolImplies", fn := fun _ => fun
  | [d1, d2, d3] => { results := [.lit (.bool false)], args := [d1, d2, d3] }
  | _ => none }
def ProtocolImpliesWrongFalsely : Prop := protocolImpliesRow.holds Try.pinned (OpenSpec.ofChange protocolImpliesWrong)

/-- 'langdoclaw44.ProtocolChain': WHATEVER THE INPUT: true; the input reads as it did. -/
def protocolChainSpec : ChangeSpec := { name := "protocolChain", fn := fun _ => fun
  | [d1, d2, d3] => { results := [.lit (.bool true)], args := [d1, d2, d3] }
  | _ => none }
def protocolChainRow : OpenClaim := { program := "ytpbpeniccpndbaa", sum := "11d6b6f2a21d45b734a0daecd31371cfc46e97ededb57b523676965055c26dab", func := "langdoc/langdoclaw44.ProtocolChain", spec := "protocolChain", unfollowed := true, recurses := true, apart := false }
def ProtocolChainSaid : Prop := protocolChainRow.holds Try.pinned (OpenSpec.ofChange protocolChainSpec)

/-- ITS FALSE NEIGHBOUR: 'it returns false'. Refute it at one input. -/
def protocolChainWrong : ChangeSpec := { name := "protocolChain", fn := fun _ => fun
  | [d1, d2, d3] => { results := [.lit (.bool false)], args := [d1, d2, d3] }
  | _ => none }
def ProtocolChainWrongFalsely : Prop := protocolChainRow.holds Try.pinned (OpenSpec.ofChange protocolChainWrong)

/-- 'langdoclaw44.ProtocolEmbargo': WHATEVER THE INPUT: true; the input reads as it did. -/
def protocolEmbargoSpec : ChangeSpec := { name := "protocolEmbargo", fn := fun _ => fun
  | [d1, d2, d3, d4] => { results := [.lit (.bool true)], args := [d1, d2, d3, d4] }
  | _ => none }
def protocolEmbargoRow : OpenClaim := { program := "ytpbpeniccpndbaa", sum := "11d6b6f2a21d45b734a0daecd31371cfc46e97ededb57b523676965055c26dab", func := "langdoc/langdoclaw44.ProtocolEmbargo", spec := "protocolEmbargo", unfollowed := true, recurses := true, apart := false }
def ProtocolEmbargoSaid : Prop := protocolEmbargoRow.holds Try.pinned (OpenSpec.ofChange protocolEmbargoSpec)

/-- ITS FALSE NEIGHBOUR: 'it returns false'. Refute it at one input. -/
def protocolEmbargoWrong : ChangeSpec := { name := "protocolEmbargo", fn := fun _ => fun
  | [d1, d2, d3, d4] => { results := [.lit (.bool false)], args := [d1, d2, d3, d4] }
  | _ => none }
def ProtocolEmbargoWrongFalsely : Prop := protocolEmbargoRow.holds Try.pinned (OpenSpec.ofChange protocolEmbargoWrong)

/-- 'langdoclaw44.ProtocolLevels': WHATEVER THE INPUT: true; the input reads as it did. -/
def protocolLevelsSpec : ChangeSpec := { name := "protocolLevels", fn := fun _ => fun
  | [d1, d2, d3] => { results := [.lit (.bool true)], args := [d1, d2, d3] }
  | _ => none }
def protocolLevelsRow : OpenClaim := { program := "ytpbpeniccpndbaa", sum := "11d6b6f2a21d45b734a0daecd31371cfc46e97ededb57b523676965055c26dab", func := "langdoc/langdoclaw44.ProtocolLevels", spec := "protocolLevels", unfollowed := true, recurses := true, apart := false }
def ProtocolLevelsSaid : Prop := protocolLevelsRow.holds Try.pinned (OpenSpec.ofChange protocolLevelsSpec)

/-- ITS FALSE NEIGHBOUR: 'it returns false'. Refute it at one input. -/
def protocolLevelsWrong : ChangeSpec := { name := "protocolLevels", fn := fun _ => fun
  | [d1, d2, d3] => { results := [.lit (.bool false)], args := [d1, d2, d3] }
  | _ => none }
def ProtocolLevelsWrongFalsely : Prop := protocolLevelsRow.holds Try.pinned (OpenSpec.ofChange protocolLevelsWrong)

/- THE SECOND FORM. 'bulk': how many values and letters a reading holds, each counted each time it is reached (what is shared counts as often as it is met; a slice's spare places count too). A statement '..UptoSaid' is the law's where the arguments, and the package variables that the reading takes, are together of bulk at most 1048576: NARROWER than '..Said'. Prove '..Said' where nothing that the law and all that it calls make is longer than what came in: it says more and counts as full. Else prove '..UptoSaid'. A law counts once. -/
mutual
def uptoBulk {H : Type} : DataW H → Nat
  | .lit (.string bytes) => bytes.length + 1
  | .lit _ => 1
  | .nil => 1
  | .ptr d => uptoBulk d + 1
  | .slice elems spare => uptoBulkAll elems + uptoBulkAll spare + 1
  | .agg parts => uptoBulkAll parts + 1
  | .iface _ d => uptoBulk d + 1
  | .map entries => uptoBulkEntries entries + 1
  | .held _ => 1
def uptoBulkAll {H : Type} : List (DataW H) → Nat
  | [] => 0
  | d :: r => uptoBulk d + uptoBulkAll r
def uptoBulkEntries {H : Type} : List (Lit × DataW H) → Nat
  | [] => 0
  | x :: r => uptoBulkEntry x + uptoBulkEntries r
def uptoBulkEntry {H : Type} : Lit × DataW H → Nat
  | (.string bytes, d) => bytes.length + uptoBulk d + 1
  | (_, d) => uptoBulk d + 1
 end
def uptoSmall : (H : Type) → List (DataW H) → Bool := fun _ ds => decide (uptoBulkAll ds ≤ 1048576)
def OpenSpec.upto (s : _root_.Go.ChangeSpec) : _root_.Go.OpenSpec := { _root_.Go.OpenSpec.ofChange s with cond := some uptoSmall }

/-- 'langdoclaw44.ProtocolChecks', WHERE WHAT IT READS IS OF BULK AT MOST 1048576: true; the input reads as it did. -/
def protocolChecksUptoRow : OpenClaim := { program := "ytpbpeniccpndbaa", sum := "11d6b6f2a21d45b734a0daecd31371cfc46e97ededb57b523676965055c26dab", func := "langdoc/langdoclaw44.ProtocolChecks", spec := "protocolChecks", unfollowed := true, recurses := true, apart := false, narrowed := true }
def ProtocolChecksUptoSaid : Prop := protocolChecksUptoRow.holds Try.pinned (OpenSpec.upto protocolChecksSpec)

/-- 'langdoclaw44.ProtocolMay', WHERE WHAT IT READS IS OF BULK AT MOST 1048576: true; the input reads as it did. -/
def protocolMayUptoRow : OpenClaim := { program := "ytpbpeniccpndbaa", sum := "11d6b6f2a21d45b734a0daecd31371cfc46e97ededb57b523676965055c26dab", func := "langdoc/langdoclaw44.ProtocolMay", spec := "protocolMay", unfollowed := true, recurses := true, apart := false, narrowed := true }
def ProtocolMayUptoSaid : Prop := protocolMayUptoRow.holds Try.pinned (OpenSpec.upto protocolMaySpec)

/-- 'langdoclaw44.ProtocolAll', WHERE WHAT IT READS IS OF BULK AT MOST 1048576: true; the input reads as it did. -/
def protocolAllUptoRow : OpenClaim := { program := "ytpbpeniccpndbaa", sum := "11d6b6f2a21d45b734a0daecd31371cfc46e97ededb57b523676965055c26dab", func := "langdoc/langdoclaw44.ProtocolAll", spec := "protocolAll", unfollowed := true, recurses := true, apart := false, narrowed := true }
def ProtocolAllUptoSaid : Prop := protocolAllUptoRow.holds Try.pinned (OpenSpec.upto protocolAllSpec)

/-- 'langdoclaw44.ProtocolWider', WHERE WHAT IT READS IS OF BULK AT MOST 1048576: true; the input reads as it did. -/
def protocolWiderUptoRow : OpenClaim := { program := "ytpbpeniccpndbaa", sum := "11d6b6f2a21d45b734a0daecd31371cfc46e97ededb57b523676965055c26dab", func := "langdoc/langdoclaw44.ProtocolWider", spec := "protocolWider", unfollowed := true, recurses := true, apart := false, narrowed := true }
def ProtocolWiderUptoSaid : Prop := protocolWiderUptoRow.holds Try.pinned (OpenSpec.upto protocolWiderSpec)

/-- 'langdoclaw44.ProtocolSame', WHERE WHAT IT READS IS OF BULK AT MOST 1048576: true; the input reads as it did. -/
def protocolSameUptoRow : OpenClaim := { program := "ytpbpeniccpndbaa", sum := "11d6b6f2a21d45b734a0daecd31371cfc46e97ededb57b523676965055c26dab", func := "langdoc/langdoclaw44.ProtocolSame", spec := "protocolSame", unfollowed := true, recurses := true, apart := false, narrowed := true }
def ProtocolSameUptoSaid : Prop := protocolSameUptoRow.holds Try.pinned (OpenSpec.upto protocolSameSpec)

/-- 'langdoclaw44.ProtocolImplies', WHERE WHAT IT READS IS OF BULK AT MOST 1048576: true; the input reads as it did. -/
def protocolImpliesUptoRow : OpenClaim := { program := "ytpbpeniccpndbaa", sum := "11d6b6f2a21d45b734a0daecd31371cfc46e97ededb57b523676965055c26dab", func := "langdoc/langdoclaw44.ProtocolImplies", spec := "protocolImplies", unfollowed := true, recurses := true, apart := false, narrowed := true }
def ProtocolImpliesUptoSaid : Prop := protocolImpliesUptoRow.holds Try.pinned (OpenSpec.upto protocolImpliesSpec)

/-- 'langdoclaw44.ProtocolChain', WHERE WHAT IT READS IS OF BULK AT MOST 1048576: true; the input reads as it did. -/
def protocolChainUptoRow : OpenClaim := { program := "ytpbpeniccpndbaa", sum := "11d6b6f2a21d45b734a0daecd31371cfc46e97ededb57b523676965055c26dab", func := "langdoc/langdoclaw44.ProtocolChain", spec := "protocolChain", unfollowed := true, recurses := true, apart := false, narrowed := true }
def ProtocolChainUptoSaid : Prop := protocolChainUptoRow.holds Try.pinned (OpenSpec.upto protocolChainSpec)

/-- 'langdoclaw44.ProtocolEmbargo', WHERE WHAT IT READS IS OF BULK AT MOST 1048576: true; the input reads as it did. -/
def protocolEmbargoUptoRow : OpenClaim := { program := "ytpbpeniccpndbaa", sum := "11d6b6f2a21d45b734a0daecd31371cfc46e97ededb57b523676965055c26dab", func := "langdoc/langdoclaw44.ProtocolEmbargo", spec := "protocolEmbargo", unfollowed := true, recurses := true, apart := false, narrowed := true }
def ProtocolEmbargoUptoSaid : Prop := protocolEmbargoUptoRow.holds Try.pinned (OpenSpec.upto protocolEmbargoSpec)

/-- 'langdoclaw44.ProtocolLevels', WHERE WHAT IT READS IS OF BULK AT MOST 1048576: true; the input reads as it did. -/
def protocolLevelsUptoRow : OpenClaim := { program := "ytpbpeniccpndbaa", sum := "11d6b6f2a21d45b734a0daecd31371cfc46e97ededb57b523676965055c26dab", func := "langdoc/langdoclaw44.ProtocolLevels", spec := "protocolLevels", unfollowed := true, recurses := true, apart := false, narrowed := true }
def ProtocolLevelsUptoSaid : Prop := protocolLevelsUptoRow.holds Try.pinned (OpenSpec.upto protocolLevelsSpec)

end Rows
end Go.Proofs.Ytpbpeniccpndbaa
