/- ProtocolLevels returns true for all arguments of bulk at most 1048576, and leaves them as they were. Conditions: the bulk, as the statement has it. -/
import Derived.Test.YtpbpeniccpndbaaRows
import Derived.Test.YtpbpeniccpndbaaCtxS
import Derived.Test.YtpbpeniccpndbaaZ6
import Derived.WalkKit
import Derived.ProofKit
import Derived.OpenShut
import Derived.JoinedCond
namespace Go.Proofs.Ytpbpeniccpndbaa
open Go.ChangeShapes Go.WideShapes Go.ChangeAt Go.RowKit Go.Eng

theorem own : ownKnob Try.prog.godebug = none := by kernel_rfl

theorem bulkOK {H : Type} : BulkOK (H := H) Rows.uptoBulk Rows.uptoBulkAll where
  nil := by simp [Rows.uptoBulkAll]
  cons := fun d r => by simp [Rows.uptoBulkAll]
  one := fun d => by
    cases d with
    | lit l => cases l <;> simp [Rows.uptoBulk]
    | _ => simp [Rows.uptoBulk]
  str := fun l => by simp [Rows.uptoBulk]
  slice := fun e s => by simp [Rows.uptoBulk]
  agg := fun p => by simp [Rows.uptoBulk]

theorem bulk_app {H : Type} (l r : List (DataW H)) : Rows.uptoBulkAll (l ++ r) = Rows.uptoBulkAll l + Rows.uptoBulkAll r := by
  induction l with
  | nil => simp [Rows.uptoBulkAll]
  | cons x l ih => simp only [List.cons_append, Rows.uptoBulkAll, ih]; omega

set_option maxRecDepth 100000 in
theorem protocolLevels_lifted (os : Os) (started : os.Started) (H : Type) (enc : TypeId × Value → H) (F : Stop.Interp) :
    ReturnsInHanded {} Try.checked os 11 .any ((Rows.OpenSpec.upto Rows.protocolLevelsSpec).pre6 enc Try.prog Try.f11 Rows.protocolLevelsUptoRow.domain false) (((Rows.OpenSpec.upto Rows.protocolLevelsSpec).at F).post enc Try.prog Try.f11 false true false false) := by
  refine returnsInHanded_of_cond (C := Try.checked) (s := Rows.OpenSpec.upto Rows.protocolLevelsSpec) (k := Rows.uptoSmall) rfl own started (by kernel_rfl) Try.func11
    (OpenSpec.witness (enc := enc) (C := Try.checked) (s := Rows.OpenSpec.upto Rows.protocolLevelsSpec) (k := Rows.uptoSmall) rfl false ⟨#[], #[.agg #[.slice none 0 0, .slice none 0 0], .agg #[.int .i64 0, .slice none 0 0, .int .i64 0], .agg #[.int .i64 0, .int .i64 0]], []⟩ 8 (by kernel_rfl) (by kernel_rfl) (by kernel_rfl)
      (x := ([.agg [.nil, .nil], .agg [.lit (.int .i64 0), .nil, .lit (.int .i64 0)], .agg [.lit (.int .i64 0), .lit (.int .i64 0)]], [], [])) (by kernel_rfl) rfl (by kernel_rfl)) ?_
  intro W base args ds gs before hval hW _ hk _
  have hbd : Rows.uptoBulkAll ds ≤ 1048576 := by
    have h := of_decide_eq_true hk
    rw [bulk_app] at h
    omega
  exact law_contract (fn := Try.f11) (s := Rows.protocolLevelsSpec) ctxOK fnsOK laidOut bulkOK (k := 8) (τs := [(true, [.sl [.int .i64, .str, .bool], .sl [.int .i64, .str, .sl [.int .i64], .sl [.int .i64]]]), (true, [.int .i64, .sl [.int .i64], .int .i64]), (true, [.int .i64, .int .i64])]) (by kernel_rfl) (by kernel_rfl) rfl (by kernel_rfl) rfl
    (fun ds h => by match ds, h with | [_, _, _], _ => rfl) (Bd := fun m => m ≤ 1048576) (fun l m hok hle hbd => by
      simp only [okArgs, okArg, okR, okC] at hok
      obtain ⟨_, _, rfl, ⟨_, rfl, ⟨_, _, rfl, ⟨r1, rfl, l1, h1⟩, ⟨_, _, rfl, ⟨r2, rfl, l2, h2⟩, rfl⟩⟩⟩, ⟨_, _, rfl, ⟨_, rfl, ⟨_, _, rfl, ⟨a3, rfl, w3⟩, ⟨_, _, rfl, ⟨r4, rfl, l4, h4⟩, ⟨_, _, rfl, ⟨a5, rfl, w5⟩, rfl⟩⟩⟩⟩, ⟨_, _, rfl, ⟨_, rfl, ⟨_, _, rfl, ⟨a6, rfl, w6⟩, ⟨_, _, rfl, ⟨a7, rfl, w7⟩, rfl⟩⟩⟩, rfl⟩⟩⟩ := hok
      exact (by obtain ⟨ps, rfl⟩ := psns_of (rows := r1) (fun x hx => by simp only [okR, okC]; exact h1 x hx); obtain ⟨gs, rfl, hg, _⟩ := gsv_of (rows := r2) (fun x hx => by simp only [okR, okC]; exact h2 x hx); obtain ⟨m4, rfl, _⟩ := ints_ok (r := r4) (fun x hx => by simp only [okR, okC]; exact h4 x hx); obtain ⟨e1, e2, e3, e4⟩ := b_place hle hbd; obtain ⟨e5, _⟩ := b_prt e4 hbd; exact lawLevels hg (.rows true) e1 e2 e3 (.rows true) e5 a3 a5 a6 a7)) W base args ds gs before hval hW hbd

theorem protocolLevels : Rows.ProtocolLevelsUptoSaid :=
  OpenClaim.holds_of_cond 11 Try.f11 rfl rfl rfl rfl rfl rfl rfl ⟨rfl, rfl, rfl, rfl, rfl⟩ rfl rfl rfl rfl rfl (by kernel_rfl) Try.func11 (by kernel_rfl)
    (of_decide_eq_true (by kernel_rfl)) (by unfold Func.isWrapper; first | (rw [if_pos (by decide +kernel)]; kernel_rfl) | (rw [if_neg (by decide +kernel)]; exact ⟨rfl, rfl⟩))
    (fun os started H enc _ F => protocolLevels_lifted os started H enc F)
#print axioms protocolLevels
end Go.Proofs.Ytpbpeniccpndbaa
