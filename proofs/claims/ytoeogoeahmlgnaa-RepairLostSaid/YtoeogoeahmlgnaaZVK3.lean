/- RepairLost returns true whatever its arguments, and leaves them as they were. Conditions: none. -/
import Derived.Test.YtoeogoeahmlgnaaRows
import Derived.Test.YtoeogoeahmlgnaaCtxS
import Derived.Test.YtoeogoeahmlgnaaZ5
import Derived.WalkKit
import Derived.ProofKit
set_option linter.all false
namespace Go.Proofs.Ytoeogoeahmlgnaa
open Go.ChangeShapes Go.WideShapes Go.ChangeAt Go.RowKit Go.Eng

theorem own : ownKnob Try.prog.godebug = none := by kernel_rfl

theorem bulkOK {H : Type} : BulkOK (H := H) Rows.uptoBulk Rows.uptoBulkAll where
  nil := by simp [Rows.uptoBulkAll]
  cons := fun d r => by simp [Rows.uptoBulkAll]
  one := fun d => by
    cases d with
    | lit l => cases l <;> simp [Rows.uptoBulk]
    | _ => simp [Rows.uptoBulk]
  str := fun l => by simp [Rows.uptoBulk]
  slice := fun e s => by simp [Rows.uptoBulk]
  agg := fun p => by simp [Rows.uptoBulk]

set_option maxRecDepth 100000 in
theorem repairLost_lifted (os : Os) (started : os.Started) (H : Type) (enc : TypeId × Value → H) :
    ReturnsInHanded {} Try.checked os 5 .any (Rows.repairLostSpec.pre6 enc Try.prog Try.f5 Rows.repairLostRow.domain false) (Rows.repairLostSpec.post enc Try.prog Try.f5 false true false false) := by
  refine returnsInHanded_of_change (C := Try.checked) own started (by kernel_rfl) Try.func5
    (ChangeSpec.witness6 (enc := enc) (C := Try.checked) false ⟨#[], #[.slice none 0 0, .slice none 0 0, .slice none 0 0], []⟩ 8 (by kernel_rfl) (by kernel_rfl) (by kernel_rfl) (by kernel_rfl)) ?_
  intro W base args ds gs before hval hW _ _
  exact law_contract (fn := Try.f5) ctxOK (fun _ => fnsOK) laidOut bulkOK (k := 8) (τs := [(false, [.sl celS]), (false, [.sl noteS]), (false, [.sl looS])]) (by kernel_rfl) (by kernel_rfl) rfl (by kernel_rfl) rfl
    (fun ds h => by match ds, h with | [_, _, _], _ => rfl) (Bd := fun _ => True) (fun l m hok _ _ => by
      simp only [okArgs, okArg] at hok
      obtain ⟨_, _, rfl, h1, _, _, rfl, h2, _, _, rfl, h3, rfl⟩ := hok
      simp only [okC] at h1 h2 h3
      obtain ⟨r1, rfl, l1, h1⟩ := h1
      obtain ⟨r2, rfl, l2, h2⟩ := h2
      obtain ⟨r3, rfl, l3, h3⟩ := h3
      obtain ⟨cs, rfl, hc, hb⟩ := cels52 h1
      obtain ⟨ds, rfl⟩ := notes52 h2
      obtain ⟨lo, rfl⟩ := loose52 h3
      rw [List.length_map] at l1
      exact lawLost52 (.rows true) hc (.rows true) (.rows true) l1 hb) W base args ds gs before hval hW trivial

theorem repairLost : Rows.RepairLostSaid :=
  OpenClaim.holds_of_wide 5 Try.f5 rfl rfl rfl rfl rfl rfl rfl ⟨rfl, rfl, rfl, rfl, rfl⟩ rfl rfl rfl rfl rfl (by kernel_rfl) Try.func5 (by kernel_rfl)
    (of_decide_eq_true (by kernel_rfl)) (by unfold Func.isWrapper; first | (rw [if_pos (by decide +kernel)]; kernel_rfl) | (rw [if_neg (by decide +kernel)]; exact ⟨rfl, rfl⟩))
    (fun os started H enc _ => repairLost_lifted os started H enc)
#print axioms repairLost
end Go.Proofs.Ytoeogoeahmlgnaa
