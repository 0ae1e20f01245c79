/- SpanInside returns true whatever its arguments, and leaves them as they were. Conditions: none. -/
import Derived.Test.YtobjcopfdoiaiaaRows
import Derived.Test.YtobjcopfdoiaiaaCtxS
import Derived.Test.YtobjcopfdoiaiaaZ5
import Derived.WalkKit
import Derived.ProofKit
namespace Go.Proofs.Ytobjcopfdoiaiaa
open Go.ChangeShapes Go.WideShapes Go.ChangeAt Go.RowKit Go.Eng

theorem own : ownKnob Try.prog.godebug = none := by kernel_rfl

theorem bulkOK {H : Type} : BulkOK (H := H) Rows.uptoBulk Rows.uptoBulkAll where
  nil := by simp [Rows.uptoBulkAll]
  cons := fun d r => by simp [Rows.uptoBulkAll]
  one := fun d => by
    cases d with
    | lit l => cases l <;> simp [Rows.uptoBulk]
    | _ => simp [Rows.uptoBulk]
  str := fun l => by simp [Rows.uptoBulk]
  slice := fun e s => by simp [Rows.uptoBulk]
  agg := fun p => by simp [Rows.uptoBulk]

set_option maxRecDepth 100000 in
theorem spanInside_lifted (os : Os) (started : os.Started) (H : Type) (enc : TypeId × Value → H) :
    ReturnsInHanded {} Try.checked os 11 .any (Rows.spanInsideSpec.pre6 enc Try.prog Try.f11 Rows.spanInsideRow.domain false) (Rows.spanInsideSpec.post enc Try.prog Try.f11 false true false false) := by
  refine returnsInHanded_of_change (C := Try.checked) own started (by kernel_rfl) Try.func11
    (ChangeSpec.witness6 (enc := enc) (C := Try.checked) false ⟨#[], #[.slice none 0 0, .agg #[.int .i64 0, .int .i64 0], .agg #[.int .i64 0, .int .i64 0]], []⟩ 8 (by kernel_rfl) (by kernel_rfl) (by kernel_rfl) (by kernel_rfl)) ?_
  intro W base args ds gs before hval hW _ _
  exact law_contract (fn := Try.f11) ctxOK (fun _ => fnsOK) laidOut bulkOK (k := 8) (τs := [(false, [.sl [.int .i64, .int .i64]]), (true, [.int .i64, .int .i64]), (true, [.int .i64, .int .i64])]) (by kernel_rfl) (by kernel_rfl) rfl (by kernel_rfl) rfl
    (fun ds h => by match ds, h with | [_, _, _], _ => rfl) (Bd := fun _ => True) (fun l m hok _ _ => by
      simp only [okArgs, okArg, okR, okC] at hok
      obtain ⟨_, _, rfl, ⟨r1, rfl, l1, h1⟩, ⟨_, _, rfl, ⟨_, rfl, ⟨_, _, rfl, ⟨a2, rfl, w2⟩, ⟨_, _, rfl, ⟨a3, rfl, w3⟩, rfl⟩⟩⟩, ⟨_, _, rfl, ⟨_, rfl, ⟨_, _, rfl, ⟨a4, rfl, w4⟩, ⟨_, _, rfl, ⟨a5, rfl, w5⟩, rfl⟩⟩⟩, rfl⟩⟩⟩ := hok
      exact (by obtain ⟨m1, rfl⟩ := Fo.spans_of (rows := r1) (fun x hx => by simp only [okR, okC]; exact h1 x hx); exact Fo.law6 _ m1 (a2, a3) (a4, a5) (.rows true))) W base args ds gs before hval hW trivial

theorem spanInside : Rows.SpanInsideSaid :=
  OpenClaim.holds_of_wide 11 Try.f11 rfl rfl rfl rfl rfl rfl rfl ⟨rfl, rfl, rfl, rfl, rfl⟩ rfl rfl rfl rfl rfl (by kernel_rfl) Try.func11 (by kernel_rfl)
    (of_decide_eq_true (by kernel_rfl)) (by unfold Func.isWrapper; first | (rw [if_pos (by decide +kernel)]; kernel_rfl) | (rw [if_neg (by decide +kernel)]; exact ⟨rfl, rfl⟩))
    (fun os started H enc _ => spanInside_lifted os started H enc)
#print axioms spanInside
end Go.Proofs.Ytobjcopfdoiaiaa
