/- Part 6 of the texts behind this claim. -/
import Derived.Test.YtbakigpobbjlhaaDoorZ5
import Derived.Test.YtbakigpobbjlhaaDoorRows
import Derived.Test.YtbakigpobbjlhaaDoorCtxS
import Derived.WalkKit
import Derived.ProofKit
import Derived.OpenShut
import Derived.LaidMore
import Derived.Lay
import Derived.Lib.LaidU8T
import Derived.Lib.LaidIn
import Derived.Stop.Joined
set_option linter.all false

/- Chapter 10: what the laid tables give, and the closings' own small facts. -/
namespace Go.Proofs.YtbakigpobbjlhaaDoor
open Go.ChangeShapes Go.WideShapes Go.ChangeAt Go.RowKit Go.Eng

theorem own : ownKnob Tryd.prog.godebug = none := by kernel_rfl

theorem bulkOK {H : Type} : BulkOK (H := H) Rows.uptoBulk Rows.uptoBulkAll where
  nil := by simp [Rows.uptoBulkAll]
  cons := fun d r => by simp [Rows.uptoBulkAll]
  one := fun d => by
    cases d with
    | lit l => cases l <;> simp [Rows.uptoBulk]
    | _ => simp [Rows.uptoBulk]
  str := fun l => by simp [Rows.uptoBulk]
  slice := fun e s => by simp [Rows.uptoBulk]
  agg := fun p => by simp [Rows.uptoBulk]

theorem noHandles : (Rows.mediaNamesRow.laid.all fun x => x.2.handleName?.isNone) = true := by kernel_rfl

theorem laid_eq : Rows.mediaNamesRow.laid = [("unicode/utf8.acceptRanges", Lib.acceptData), ("unicode/utf8.first", Lib.firstData)] := by kernel_rfl
theorem tabs_of {W : World} (h : laidMetH Tryd.prog Rows.mediaNamesRow.laid W) : Lib.Utf8Tabs (Tryd.laysValid_ren.g 3) (Tryd.laysValid_ren.g 4) W := by
  rw [MakeChecks.laidMetH_plain _ _ _ noHandles, laid_eq] at h
  exact utf8Tabs_of_readsT (U8Types.of196 Tryd.laysValid) ⟨by kernel_rfl, by kernel_rfl, by kernel_rfl, by kernel_rfl, by kernel_rfl, by kernel_rfl, by kernel_rfl⟩ (Lib.laidMet.reads h (.tail _ (.head _))) (Lib.laidMet.reads h (.head _))

theorem laid_witness (os : Os) (args : Array Value) : laidMetH Tryd.prog Rows.mediaNamesRow.laid ((World.laidAll Tryd.prog os Rows.mediaNamesRow.laid).forCall (fun _ _ => 0) ⟨#[], args, []⟩).memory := by
  rw [MakeChecks.laidMetH_plain _ _ _ noHandles]
  exact laidMet_laidAll _ (by kernel_rfl) (by kernel_rfl)

theorem psns_of : ∀ {rows : List (List AV)}, (∀ r ∈ rows, okR [.int .i64, .str, .bool] r) → ∃ ps : List Psn, rows = ps.map encP
  | [], _ => ⟨[], rfl⟩
  | r :: rows, h => by
    have hr := h r (by simp)
    simp only [okR, okC] at hr
    obtain ⟨_, _, rfl, ⟨a, rfl, _⟩, _, _, rfl, ⟨s, rfl, _⟩, _, _, rfl, ⟨b, rfl⟩, rfl⟩ := hr
    obtain ⟨ps, rfl⟩ := psns_of (rows := rows) fun r hr => h r (by simp [hr])
    exact ⟨⟨a, s, b⟩ :: ps, rfl⟩
theorem ints_of : ∀ {rows : List (List AV)}, (∀ r ∈ rows, okR [.int .i64] r) → ∃ l : List Int, rows = ints l
  | [], _ => ⟨[], rfl⟩
  | r :: rows, h => by
    have hr := h r (by simp)
    simp only [okR, okC] at hr
    obtain ⟨_, _, rfl, ⟨a, rfl, _⟩, rfl⟩ := hr
    obtain ⟨ps, rfl⟩ := ints_of (rows := rows) fun r hr => h r (by simp [hr])
    exact ⟨a :: ps, rfl⟩
theorem rec_of {row : List AV} (h : okR [.int .i64, .str, .int .i64, .int .i64, .sl [.int .i64]] row) : ∃ r : Rec, row = encRc r ∧ r.ok := by
  simp only [okR, okC] at h
  obtain ⟨_, _, rfl, ⟨a, rfl, _⟩, _, _, rfl, ⟨s, rfl, _⟩, _, _, rfl, ⟨l, rfl, _⟩, _, _, rfl, ⟨d, rfl, _⟩, _, _, rfl, ⟨rows, rfl, _, hr⟩, rfl⟩ := h
  obtain ⟨sp, rfl⟩ := ints_of (rows := rows) fun r h => by simp only [okR, okC]; exact hr r h
  exact ⟨⟨a, s, l, d, .tsl true 1 (ints sp), sp⟩, rfl, ⟨.rows true, rfl⟩⟩
theorem recs_of : ∀ {rows : List (List AV)}, (∀ r ∈ rows, okR [.int .i64, .str, .int .i64, .int .i64, .sl [.int .i64]] r) → ∃ rs : List Rec, rows = rs.map encRc ∧ ∀ x ∈ rs, x.ok
  | [], _ => ⟨[], rfl, fun _ h => by simp at h⟩
  | r :: rows, h => by
    obtain ⟨x, rfl, hx⟩ := rec_of (h r (by simp))
    obtain ⟨rs, rfl, hrs⟩ := recs_of (rows := rows) fun r hr => h r (by simp [hr])
    exact ⟨x :: rs, rfl, fun y hy => by rcases List.mem_cons.1 hy with rfl | hy; exact hx; exact hrs y hy⟩
theorem byte_of {a : Int} (h : (Lit.int .u8 a).wf = true) : ∃ n : Nat, n < 256 ∧ a = (n : Int) := by
  have h1 : 0 ≤ a := by simp [Lit.wf, IntKind.min, IntKind.signed] at h; omega
  have h2 : a ≤ 255 := by simp [Lit.wf, IntKind.max, IntKind.signed, IntKind.bits] at h; omega
  exact ⟨a.toNat, by omega, by omega⟩
end Go.Proofs.YtbakigpobbjlhaaDoor
