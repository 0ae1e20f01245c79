/- SpanInverse returns true whatever its arguments, and leaves them as they were. Conditions: none. -/
import Derived.Test.YtobjcopfdoiaiaaRows
import Derived.Test.YtobjcopfdoiaiaaCtxS
import Derived.Test.YtobjcopfdoiaiaaSD
import Derived.WalkKit
import Derived.ProofKit
namespace Go.Proofs.Ytobjcopfdoiaiaa
open Go.ChangeShapes Go.WideShapes Go.ChangeAt Go.RowKit Go.Eng

theorem own : ownKnob Try.prog.godebug = none := by kernel_rfl

theorem bulkOK {H : Type} : BulkOK (H := H) Rows.uptoBulk Rows.uptoBulkAll where
  nil := by simp [Rows.uptoBulkAll]
  cons := fun d r => by simp [Rows.uptoBulkAll]
  one := fun d => by
    cases d with
    | lit l => cases l <;> simp [Rows.uptoBulk]
    | _ => simp [Rows.uptoBulk]
  str := fun l => by simp [Rows.uptoBulk]
  slice := fun e s => by simp [Rows.uptoBulk]
  agg := fun p => by simp [Rows.uptoBulk]

set_option maxRecDepth 100000 in
theorem spanInverse_lifted (os : Os) (started : os.Started) (H : Type) (enc : TypeId × Value → H) :
    ReturnsInHanded {} Try.checked os 5 .any (Rows.spanInverseSpec.pre6 enc Try.prog Try.f5 Rows.spanInverseRow.domain false) (Rows.spanInverseSpec.post enc Try.prog Try.f5 false true false false) := by
  refine returnsInHanded_of_change (C := Try.checked) own started (by kernel_rfl) Try.func5
    (ChangeSpec.witness6 (enc := enc) (C := Try.checked) false ⟨#[], #[.agg #[.int .i64 0, .int .i64 0], .agg #[.int .i64 0, .int .i64 0]], []⟩ 8 (by kernel_rfl) (by kernel_rfl) (by kernel_rfl) (by kernel_rfl)) ?_
  intro W base args ds gs before hval hW _ _
  exact law_contract (fn := Try.f5) ctxOK fnsOK laidOut bulkOK (k := 8) (τs := [(true, [.int .i64, .int .i64]), (true, [.int .i64, .int .i64])]) (by kernel_rfl) (by kernel_rfl) rfl (by kernel_rfl) rfl
    (fun ds h => by match ds, h with | [_, _], _ => rfl) (Bd := fun _ => True) (fun l m hok _ _ => by
      simp only [okArgs, okArg, okR, okC] at hok
      obtain ⟨_, _, rfl, ⟨_, rfl, ⟨_, _, rfl, ⟨a1, rfl, w1⟩, ⟨_, _, rfl, ⟨a2, rfl, w2⟩, rfl⟩⟩⟩, ⟨_, _, rfl, ⟨_, rfl, ⟨_, _, rfl, ⟨a3, rfl, w3⟩, ⟨_, _, rfl, ⟨a4, rfl, w4⟩, rfl⟩⟩⟩, rfl⟩⟩ := hok
      exact law5 a1 a2 a3 a4) W base args ds gs before hval hW trivial

theorem spanInverse : Rows.SpanInverseSaid :=
  OpenClaim.holds_of_wide 5 Try.f5 rfl rfl rfl rfl rfl rfl rfl ⟨rfl, rfl, rfl, rfl, rfl⟩ rfl rfl rfl rfl rfl (by kernel_rfl) Try.func5 (by kernel_rfl)
    (of_decide_eq_true (by kernel_rfl)) (by unfold Func.isWrapper; first | (rw [if_pos (by decide +kernel)]; kernel_rfl) | (rw [if_neg (by decide +kernel)]; exact ⟨rfl, rfl⟩))
    (fun os started H enc _ => spanInverse_lifted os started H enc)
#print axioms spanInverse
end Go.Proofs.Ytobjcopfdoiaiaa
