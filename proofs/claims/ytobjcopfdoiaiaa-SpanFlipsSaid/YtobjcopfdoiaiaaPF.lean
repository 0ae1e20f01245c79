/- SpanFlips returns true whatever its argument, and leaves it as it was. Conditions: none. -/
import Derived.Test.YtobjcopfdoiaiaaRows
import Derived.Test.YtobjcopfdoiaiaaSA
import Derived.WalkKit
import Derived.ProofKit
namespace Go.Proofs.Ytobjcopfdoiaiaa
open Go.ChangeShapes Go.WideShapes Go.ChangeAt Go.RowKit Go.Eng

theorem own : ownKnob Try.prog.godebug = none := by kernel_rfl

theorem bulkOK {H : Type} : BulkOK (H := H) Rows.uptoBulk Rows.uptoBulkAll where
  nil := by simp [Rows.uptoBulkAll]
  cons := fun d r => by simp [Rows.uptoBulkAll]
  one := fun d => by
    cases d with
    | lit l => cases l <;> simp [Rows.uptoBulk]
    | _ => simp [Rows.uptoBulk]
  str := fun l => by simp [Rows.uptoBulk]
  slice := fun e s => by simp [Rows.uptoBulk]
  agg := fun p => by simp [Rows.uptoBulk]

set_option maxRecDepth 100000 in
theorem spanFlips_lifted (os : Os) (started : os.Started) (H : Type) (enc : TypeId × Value → H) :
    ReturnsInHanded {} Try.checked os 4 .any (Rows.spanFlipsSpec.pre6 enc Try.prog Try.f4 Rows.spanFlipsRow.domain false) (Rows.spanFlipsSpec.post enc Try.prog Try.f4 false true false false) := by
  refine returnsInHanded_of_change (C := Try.checked) own started (by kernel_rfl) Try.func4
    (ChangeSpec.witness6 (enc := enc) (C := Try.checked) false ⟨#[], #[.int .i64 0], []⟩ 8 (by kernel_rfl) (by kernel_rfl) (by kernel_rfl) (by kernel_rfl)) ?_
  intro W base args ds gs before hval hW _ _
  exact law_contract (fn := Try.f4) ctxOK fnsOK laidOut bulkOK (k := 8) (τs := [(false, [.int .i64])]) (by kernel_rfl) (by kernel_rfl) rfl (by kernel_rfl) rfl
    (fun ds h => by match ds, h with | [_], _ => rfl) (Bd := fun _ => True) (fun l m hok _ _ => by
      simp only [okArgs, okArg, okC] at hok
      obtain ⟨_, _, rfl, ⟨n, rfl, _⟩, rfl⟩ := hok
      exact law4 n) W base args ds gs before hval hW trivial

theorem spanFlips : Rows.SpanFlipsSaid :=
  OpenClaim.holds_of_wide 4 Try.f4 rfl rfl rfl rfl rfl rfl rfl ⟨rfl, rfl, rfl, rfl, rfl⟩ rfl rfl rfl rfl rfl (by kernel_rfl) Try.func4 (by kernel_rfl)
    (of_decide_eq_true (by kernel_rfl)) (by unfold Func.isWrapper; first | (rw [if_pos (by decide +kernel)]; kernel_rfl) | (rw [if_neg (by decide +kernel)]; exact ⟨rfl, rfl⟩))
    (fun os started H enc _ => spanFlips_lifted os started H enc)
#print axioms spanFlips
end Go.Proofs.Ytobjcopfdoiaiaa
