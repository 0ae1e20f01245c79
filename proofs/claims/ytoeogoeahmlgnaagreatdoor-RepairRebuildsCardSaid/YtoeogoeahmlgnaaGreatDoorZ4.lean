/- Part 4 of the texts behind this claim. -/
import Derived.Test.YtoeogoeahmlgnaaGreatDoorZ3
import Derived.Test.YtoeogoeahmlgnaaGreatDoorRows
import Derived.Test.YtoeogoeahmlgnaaGreatDoorCtxS
import Derived.WalkKit
import Derived.ProofKit
import Derived.OpenShut
import Derived.LaidMore
import Derived.Lay
import Derived.Lib.LaidU8T
import Derived.Lib.LaidIn
import Derived.Stop.Joined
set_option linter.all false

/- Rebuilds: what the laid variables give, and the arguments. -/
namespace Go.Proofs.YtoeogoeahmlgnaaGreatDoor
open Go.ChangeShapes Go.WideShapes Go.ChangeAt Go.RowKit Go.Eng

theorem own : ownKnob Tryz.prog.godebug = none := by kernel_rfl

theorem bulkOK {H : Type} : BulkOK (H := H) Rows.uptoBulk Rows.uptoBulkAll where
  nil := by simp [Rows.uptoBulkAll]
  cons := fun d r => by simp [Rows.uptoBulkAll]
  one := fun d => by
    cases d with
    | lit l => cases l <;> simp [Rows.uptoBulk]
    | _ => simp [Rows.uptoBulk]
  str := fun l => by simp [Rows.uptoBulk]
  slice := fun e s => by simp [Rows.uptoBulk]
  agg := fun p => by simp [Rows.uptoBulk]

theorem noHandles : (Rows.repairRebuildsRow.laid.all fun x => x.2.handleName?.isNone) = true := by kernel_rfl

theorem laid_eq : Rows.repairRebuildsRow.laid = [("unicode/utf8.acceptRanges", Lib.acceptData), ("langdoc/replica.fields", Lib.tabData .i64 [0, 1, 2]), ("unicode/utf8.first", Lib.firstData)] := by kernel_rfl
theorem tabs_of {W : World} (h : laidMetH Tryz.prog Rows.repairRebuildsRow.laid W) : Lib.Utf8Tabs (Tryz.laysValid_ren.g 3) (Tryz.laysValid_ren.g 4) W := by
  rw [MakeChecks.laidMetH_plain _ _ _ noHandles, laid_eq] at h
  exact utf8Tabs_of_readsT (U8Types.of196 Tryz.laysValid) ⟨by kernel_rfl, by kernel_rfl, by kernel_rfl, by kernel_rfl, by kernel_rfl, by kernel_rfl, by kernel_rfl⟩ (Lib.laidMet.reads h (.tail _ (.tail _ (.head _)))) (Lib.laidMet.reads h (.head _))

theorem globs_of {W : World} (h : laidMetH Tryz.prog Rows.repairRebuildsRow.laid W) : @GlobsK ⟨fun g => W.heap[g]?⟩ := by
  rw [MakeChecks.laidMetH_plain _ _ _ noHandles, laid_eq] at h
  obtain ⟨g, t, cs, fuel, q, hg, hty, hvar, hd⟩ := Lib.laidMet.reads h (.tail _ (.head _))
  have e0 : Tryz.prog.globalNamed "langdoc/replica.fields" = some 0 := by kernel_rfl
  have e1 : (Tryz.prog.globals[0]?).map (·.type) = some 152 := by kernel_rfl
  obtain rfl := Option.some.inj (e0.symm.trans hg)
  obtain rfl := Option.some.inj (e1.symm.trans hty)
  have hcs := Lib.cells_of_tab (t := 152) (e := 3) (n := 3) (k := .i64) (by kernel_rfl) (by kernel_rfl) (by kernel_rfl) (by kernel_rfl) hd
  simp only [World.var?, hg, Option.bind_some] at hvar
  split at hvar
  · rename_i c t' fr hb
    injection hvar with hvar; subst hvar
    intro p hp
    simp only [tab, List.mem_cons, List.not_mem_nil, or_false] at hp
    subst hp
    refine ⟨_, hb, fun w T B I hw => ?_⟩
    have hc : ∀ i, w.cell? ⟨0, i, none⟩ = c[i]? := fun i => by simp [World.cell?, hw]
    have hi : ∀ i, c[i]? = ([0, 1, 2].map fun z : Int => Value.int .i64 z)[i]? := fun i => by rw [← hcs, Array.getElem?_toList]
    simp only [List.map_cons, List.map_nil, cellsRep, vrep]
    refine ⟨⟨.int .i64 0, ?_, rfl, rfl⟩, ⟨.int .i64 1, ?_, rfl, rfl⟩, ⟨.int .i64 2, ?_, rfl, rfl⟩, trivial⟩
    · rw [hc, hi]; rfl
    · rw [hc, hi]; rfl
    · rw [hc, hi]; rfl
  · cases hvar

theorem laid_witness (os : Os) (args : Array Value) : laidMetH Tryz.prog Rows.repairRebuildsRow.laid ((World.laidAll Tryz.prog os Rows.repairRebuildsRow.laid).forCall (fun _ _ => 0) ⟨#[], args, []⟩).memory := by
  rw [MakeChecks.laidMetH_plain _ _ _ noHandles]
  exact laidMet_laidAll _ (by kernel_rfl) (by kernel_rfl)

abbrev tierS : List Shp := [.str, .int .i64, .int .i64, .int .i64]
abbrev noteS : List Shp := [.int .i64, .int .i64, .int .i64, .int .i64, .int .i64, .int .i64, .str]
theorem tiers_of : ∀ {rows : List (List AV)}, (∀ r ∈ rows, okR tierS r) → ∃ ts : List Ti, rows = ts.map encT ∧ ∀ x ∈ ts, x.nm.size ≤ 9223372036854775807
  | [], _ => ⟨[], rfl, fun _ h => nomatch h⟩
  | r :: rows, h => by
    have hr := h r (by simp)
    simp only [okR, okC] at hr
    obtain ⟨_, _, rfl, ⟨s, rfl, hs⟩, _, _, rfl, ⟨a, rfl, _⟩, _, _, rfl, ⟨b, rfl, _⟩, _, _, rfl, ⟨c, rfl, _⟩, rfl⟩ := hr
    obtain ⟨ts, rfl, hts⟩ := tiers_of (rows := rows) fun r hr => h r (by simp [hr])
    refine ⟨⟨s, a, b, c⟩ :: ts, rfl, fun y hy => ?_⟩
    rcases List.mem_cons.1 hy with rfl | hy
    · exact hs
    · exact hts y hy
theorem notes_of : ∀ {rows : List (List AV)}, (∀ r ∈ rows, okR noteS r) → ∃ ns : List Nt, rows = ns.map encN ∧ ∀ x ∈ ns, x.tx.size ≤ 9223372036854775807
  | [], _ => ⟨[], rfl, fun _ h => nomatch h⟩
  | r :: rows, h => by
    have hr := h r (by simp)
    simp only [okR, okC] at hr
    obtain ⟨_, _, rfl, ⟨a, rfl, _⟩, _, _, rfl, ⟨b, rfl, _⟩, _, _, rfl, ⟨c, rfl, _⟩, _, _, rfl, ⟨d, rfl, _⟩, _, _, rfl, ⟨e, rfl, _⟩, _, _, rfl, ⟨f, rfl, _⟩, _, _, rfl, ⟨s, rfl, hs⟩, rfl⟩ := hr
    obtain ⟨ns, rfl, hns⟩ := notes_of (rows := rows) fun r hr => h r (by simp [hr])
    refine ⟨⟨a, b, c, d, e, f, s⟩ :: ns, rfl, fun y hy => ?_⟩
    rcases List.mem_cons.1 hy with rfl | hy
    · exact hs
    · exact hns y hy

theorem lawAll {a c e : Int} {s : ByteArray} {r1 r2 r3 : List (List AV)} {b : Bool} (h2 : ∀ r ∈ r2, okR tierS r) (h3 : ∀ r ∈ r3, okR noteS r) :
    EvV CX 3 [.agg [.int .i64 a, .str s, .int .i64 c, .int .i64 e, .tsl true 1 r1, .tsl true 4 r2, .tsl true 7 r3], .bool b] (· = .bool true) := by
  obtain ⟨ts, rfl, ht⟩ := tiers_of h2
  obtain ⟨ns, rfl, hn⟩ := notes_of h3
  have hd : Dc.ok ⟨a, s, c, e, .tsl true 1 r1, .tsl true 4 (ts.map encT), .tsl true 7 (ns.map encN)⟩ ts ns :=
    ⟨rfl, fun S => by simp only [snap], .rows true, .rows true, rfl, rfl, rfl⟩
  cases b with
  | false => exact lawReb_false (sp := r1) hd (.rows true) ⟨rfl, rfl⟩ ht hn
  | true => exact lawReb_true (sp := r1) hd (.rows true) ⟨rfl, rfl⟩ ht hn
end Go.Proofs.YtoeogoeahmlgnaaGreatDoor
