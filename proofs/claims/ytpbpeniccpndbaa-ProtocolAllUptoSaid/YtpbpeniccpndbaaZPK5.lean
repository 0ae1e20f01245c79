/- ProtocolAll returns true for all arguments of bulk at most 1048576, and leaves them as they were. Conditions: the bulk, as the statement has it. -/
import Derived.Test.YtpbpeniccpndbaaRows
import Derived.Test.YtpbpeniccpndbaaCtxS
import Derived.Test.YtpbpeniccpndbaaZ6
import Derived.WalkKit
import Derived.ProofKit
import Derived.OpenShut
import Derived.JoinedCond
namespace Go.Proofs.Ytpbpeniccpndbaa
open Go.ChangeShapes Go.WideShapes Go.ChangeAt Go.RowKit Go.Eng

theorem own : ownKnob Try.prog.godebug = none := by kernel_rfl

theorem bulkOK {H : Type} : BulkOK (H := H) Rows.uptoBulk Rows.uptoBulkAll where
  nil := by simp [Rows.uptoBulkAll]
  cons := fun d r => by simp [Rows.uptoBulkAll]
  one := fun d => by
    cases d with
    | lit l => cases l <;> simp [Rows.uptoBulk]
    | _ => simp [Rows.uptoBulk]
  str := fun l => by simp [Rows.uptoBulk]
  slice := fun e s => by simp [Rows.uptoBulk]
  agg := fun p => by simp [Rows.uptoBulk]

theorem bulk_app {H : Type} (l r : List (DataW H)) : Rows.uptoBulkAll (l ++ r) = Rows.uptoBulkAll l + Rows.uptoBulkAll r := by
  induction l with
  | nil => simp [Rows.uptoBulkAll]
  | cons x l ih => simp only [List.cons_append, Rows.uptoBulkAll, ih]; omega

set_option maxRecDepth 100000 in
theorem protocolAll_lifted (os : Os) (started : os.Started) (H : Type) (enc : TypeId × Value → H) (F : Stop.Interp) :
    ReturnsInHanded {} Try.checked os 5 .any ((Rows.OpenSpec.upto Rows.protocolAllSpec).pre6 enc Try.prog Try.f5 Rows.protocolAllUptoRow.domain false) (((Rows.OpenSpec.upto Rows.protocolAllSpec).at F).post enc Try.prog Try.f5 false true false false) := by
  refine returnsInHanded_of_cond (C := Try.checked) (s := Rows.OpenSpec.upto Rows.protocolAllSpec) (k := Rows.uptoSmall) rfl own started (by kernel_rfl) Try.func5
    (OpenSpec.witness (enc := enc) (C := Try.checked) (s := Rows.OpenSpec.upto Rows.protocolAllSpec) (k := Rows.uptoSmall) rfl false ⟨#[], #[.agg #[.slice none 0 0, .slice none 0 0], .slice none 0 0, .agg #[.int .i64 0, .int .i64 0]], []⟩ 8 (by kernel_rfl) (by kernel_rfl) (by kernel_rfl)
      (x := ([.agg [.nil, .nil], .nil, .agg [.lit (.int .i64 0), .lit (.int .i64 0)]], [], [])) (by kernel_rfl) rfl (by kernel_rfl)) ?_
  intro W base args ds gs before hval hW _ hk _
  have hbd : Rows.uptoBulkAll ds ≤ 1048576 := by
    have h := of_decide_eq_true hk
    rw [bulk_app] at h
    omega
  exact law_contract (fn := Try.f5) (s := Rows.protocolAllSpec) ctxOK fnsOK laidOut bulkOK (k := 8) (τs := [(true, [.sl [.int .i64, .str, .bool], .sl [.int .i64, .str, .sl [.int .i64], .sl [.int .i64]]]), (false, [.sl [.int .i64, .sl [.int .i64], .int .i64]]), (true, [.int .i64, .int .i64])]) (by kernel_rfl) (by kernel_rfl) rfl (by kernel_rfl) rfl
    (fun ds h => by match ds, h with | [_, _, _], _ => rfl) (Bd := fun m => m ≤ 1048576) (fun l m hok hle hbd => by
      simp only [okArgs, okArg, okR, okC] at hok
      obtain ⟨_, _, rfl, ⟨_, rfl, ⟨_, _, rfl, ⟨r1, rfl, l1, h1⟩, ⟨_, _, rfl, ⟨r2, rfl, l2, h2⟩, rfl⟩⟩⟩, ⟨_, _, rfl, ⟨r3, rfl, l3, h3⟩, ⟨_, _, rfl, ⟨_, rfl, ⟨_, _, rfl, ⟨a4, rfl, w4⟩, ⟨_, _, rfl, ⟨a5, rfl, w5⟩, rfl⟩⟩⟩, rfl⟩⟩⟩ := hok
      exact (by obtain ⟨ps, rfl⟩ := psns_of (rows := r1) (fun x hx => by simp only [okR, okC]; exact h1 x hx); obtain ⟨gs, rfl, hg, _⟩ := gsv_of (rows := r2) (fun x hx => by simp only [okR, okC]; exact h2 x hx); obtain ⟨l, rfl, hl⟩ := prts_of (rows := r3) (fun x hx => by simp only [okR, okC]; exact h3 x hx); obtain ⟨e1, e2, e3, e4⟩ := b_place hle hbd; obtain ⟨e5, e6⟩ := b_prts hl e4 hbd; exact lawAll hg (.rows true) e1 e2 e3 (.rows true) (fun p hp => by rw [hl p hp]; exact .rows true) e6 e5 a4 a5)) W base args ds gs before hval hW hbd

theorem protocolAll : Rows.ProtocolAllUptoSaid :=
  OpenClaim.holds_of_cond 5 Try.f5 rfl rfl rfl rfl rfl rfl rfl ⟨rfl, rfl, rfl, rfl, rfl⟩ rfl rfl rfl rfl rfl (by kernel_rfl) Try.func5 (by kernel_rfl)
    (of_decide_eq_true (by kernel_rfl)) (by unfold Func.isWrapper; first | (rw [if_pos (by decide +kernel)]; kernel_rfl) | (rw [if_neg (by decide +kernel)]; exact ⟨rfl, rfl⟩))
    (fun os started H enc _ F => protocolAll_lifted os started H enc F)
#print axioms protocolAll
end Go.Proofs.Ytpbpeniccpndbaa
