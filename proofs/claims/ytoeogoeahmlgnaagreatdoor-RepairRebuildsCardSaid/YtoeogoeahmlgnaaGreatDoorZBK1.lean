/- RepairRebuilds returns true whatever its arguments, and leaves them as they were. Conditions: none. -/
import Derived.Test.YtoeogoeahmlgnaaGreatDoorZ4
import Derived.Test.YtoeogoeahmlgnaaGreatDoorTie
import Derived.Test.YtoeogoeahmlgnaaGreatDoorCards
import Derived.SevenTiedAt
set_option linter.all false
namespace Go.Proofs.YtoeogoeahmlgnaaGreatDoor
open Go.ChangeShapes Go.WideShapes Go.ChangeAt Go.RowKit Go.Eng

set_option maxRecDepth 100000 in
theorem repairRebuilds_lifted (os : Os) (started : os.Started) (H : Type) (enc : TypeId × Value → H) :
    ReturnsInHanded {} Tryz.checked os 3 .any (fun w args => (Rows.repairRebuildsSpec.pre enc Tryz.prog Tryz.f3 Rows.repairRebuildsRow.domain false w args ∧ laidMetH Tryz.prog Rows.repairRebuildsRow.laid w) ∧ sizedMet enc Tryz.prog Tryz.f3 (OpenSpec.ofChange Rows.repairRebuildsSpec) false w args) (Rows.repairRebuildsSpec.post enc Tryz.prog Tryz.f3 false true false false) := by
  refine returnsInHanded_of_change_and (C := Tryz.checked) (X := fun w _ => laidMetH Tryz.prog Rows.repairRebuildsRow.laid w) (fun _ _ _ hh h => h.of_heap hh) own started (by kernel_rfl) Tryz.func3
    (ChangeSpec.witness_shaped (enc := enc) (C := Tryz.checked) (os := os) (X := fun w _ => laidMetH Tryz.prog Rows.repairRebuildsRow.laid w) false (World.laidAll Tryz.prog os Rows.repairRebuildsRow.laid) #[.agg #[.int .i64 0, .string .empty, .int .i64 0, .int .i64 0, .slice none 0 0, .slice none 0 0, .slice none 0 0], .bool false] 8 (World.laidAll_os _ _ _)
      (World.shaped_of_ZipB (by kernel_rfl) (by kernel_rfl)) (by kernel_rfl) (by kernel_rfl) (by kernel_rfl) (laid_witness os _)) ?_
  intro W base args ds gs before hval hW _ _ hL _
  exact law_contractW (fn := Tryz.f3) laidOut bulkOK (k := 8) (τs := [(true, [.int .i64, .str, .int .i64, .int .i64, .sl [.int .i64], .sl tierS, .sl noteS]), (false, [.bool])]) (by kernel_rfl) (by kernel_rfl) rfl (by kernel_rfl) rfl
    (fun ds h => by match ds, h with | [_, _], _ => rfl) (Bd := fun _ => True) (fun l m hok _ _ => by
      simp only [okArgs, okArg, okR, okC] at hok
      obtain ⟨_, _, rfl, ⟨_, rfl, _, _, rfl, ⟨a, rfl, _⟩, _, _, rfl, ⟨s, rfl, _⟩, _, _, rfl, ⟨c, rfl, _⟩, _, _, rfl, ⟨e, rfl, _⟩, _, _, rfl, ⟨r1, rfl, _, _⟩, _, _, rfl, ⟨r2, rfl, _, h2⟩, _, _, rfl, ⟨r3, rfl, _, h3⟩, rfl⟩, _, _, rfl, ⟨b, rfl⟩, rfl⟩ := hok
      exact lawAll (fun r hr => by simp only [okR, okC]; exact h2 r hr) (fun r hr => by simp only [okR, okC]; exact h3 r hr)) W (@ctxOK ⟨fun g => W.heap[g]?⟩ (globs_of hL)) (@fnsOK ⟨fun g => W.heap[g]?⟩ (tabsK_of (tabs_of hL)) (globs_of hL)) base args ds gs before hval hW trivial

theorem repairRebuilds : Rows.RepairRebuildsSaid :=
  OpenClaim.holds_of_wide 3 Tryz.f3 rfl rfl rfl rfl rfl rfl rfl ⟨rfl, rfl, rfl, rfl, rfl⟩ rfl rfl rfl rfl rfl (by kernel_rfl) Tryz.func3 (by kernel_rfl)
    (of_decide_eq_true (by kernel_rfl)) (by unfold Func.isWrapper; first | (rw [if_pos (by decide +kernel)]; kernel_rfl) | (rw [if_neg (by decide +kernel)]; exact ⟨rfl, rfl⟩))
    (fun os started H enc _ => repairRebuilds_lifted os started H enc)

theorem repairRebuildsCard : Rows.RepairRebuildsCardSaid :=
  Claim7.holds_tied_plain_at .later [] [.data, .data, .pinned] true (true, "84b613a5e6ea4b44ea4296416a8b98ea81a557090e8c44078242b6cacef82417") false repairRebuilds (fun _ h => by cases h) (by kernel_rfl) (fun _ h => by cases h) repairRebuilds_row_tie rfl ⟨rfl, rfl⟩ (by kernel_rfl) rfl
    (fun f fn hf hfn => by
      obtain rfl : f = 3 := Option.some.inj ((show Tryz.prog.funcNamed "langdoc/langdoclaw52.RepairRebuilds" = some 3 by kernel_rfl).symm.trans hf) |>.symm
      obtain rfl : fn = Tryz.f3 := (Option.some.inj (Tryz.func3.symm.trans hfn)).symm
      exact ⟨by kernel_rfl, fun j t ht => by
        have hp : Tryz.f3.params = #[28, 4] := by kernel_rfl
        rw [hp] at ht
        have hm : t ∈ [28, 4] := by simpa using Array.mem_of_getElem? ht
        have hall : ([28, 4].all fun u => !Tryz.prog.wantsStandIn u) = true := by kernel_rfl
        exact (show Tryz.prog.wantsStandIn t = false by simpa using List.all_eq_true.1 hall t hm)⟩)
    (by kernel_rfl)
#print axioms repairRebuildsCard
end Go.Proofs.YtoeogoeahmlgnaaGreatDoor
