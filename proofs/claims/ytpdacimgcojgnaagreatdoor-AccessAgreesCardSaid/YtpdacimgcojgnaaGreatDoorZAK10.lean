/- AccessAgrees returns true whatever its arguments, and leaves them as they were. Conditions: none. -/
import Derived.Test.YtpdacimgcojgnaaGreatDoorZ8
import Derived.Test.YtpdacimgcojgnaaGreatDoorTie
import Derived.Test.YtpdacimgcojgnaaGreatDoorCards
import Derived.SevenTiedAt
set_option linter.all false
namespace Go.Proofs.YtpdacimgcojgnaaGreatDoor
open Go.ChangeShapes Go.WideShapes Go.ChangeAt Go.RowKit Go.Eng

set_option maxRecDepth 100000 in
theorem accessAgrees_lifted (os : Os) (started : os.Started) (H : Type) (enc : TypeId × Value → H) :
    ReturnsInHanded {} Tryz.checked os 12 .any (fun w args => (Rows.accessAgreesSpec.pre enc Tryz.prog Tryz.f12 Rows.accessAgreesRow.domain false w args ∧ laidMetH Tryz.prog Rows.accessAgreesRow.laid w) ∧ sizedMet enc Tryz.prog Tryz.f12 (OpenSpec.ofChange Rows.accessAgreesSpec) false w args) (Rows.accessAgreesSpec.post enc Tryz.prog Tryz.f12 false true false false) := by
  refine returnsInHanded_of_change_and (C := Tryz.checked) (X := fun w _ => laidMetH Tryz.prog Rows.accessChecksRow.laid w) (fun _ _ _ hh h => h.of_heap hh) own started (by kernel_rfl) Tryz.func12
    (ChangeSpec.witness_shaped (enc := enc) (C := Tryz.checked) (os := os) (X := fun w _ => laidMetH Tryz.prog Rows.accessChecksRow.laid w) false (World.laidAll Tryz.prog os Rows.accessChecksRow.laid) #[.agg #[.slice none 0 0, .slice none 0 0, .slice none 0 0, .slice none 0 0, .int .i64 0, .string .empty, .int .i64 0, .int .i64 0, .slice none 0 0, .int .i64 0, .int .i64 0], .agg #[.int .i64 0, .int .i64 0]] 8 (World.laidAll_os _ _ _)
      (World.shaped_of_ZipB (by kernel_rfl) (by kernel_rfl)) (by kernel_rfl) (by kernel_rfl) (by kernel_rfl) (laid_witness os _)) ?_
  intro W base args ds gs before hval hW _ _ hL _
  exact zcz (fn := Tryz.f12) ctxOK laidOut bulkOK (k := 8) (τs := [(true, caseS), (true, [.int .i64, .int .i64])]) (by kernel_rfl) (by kernel_rfl) rfl (by kernel_rfl) rfl
    (fun ds h => by match ds, h with | [_, _], _ => rfl) (Bd := fun _ => True) (fun l m hok _ _ => by
      simp only [okArgs, okArg] at hok
      obtain ⟨_, _, rfl, ⟨_, rfl, hrow⟩, _, _, rfl, ⟨_, rfl, h2⟩, rfl⟩ := hok
      obtain ⟨ps, gs, cs, rs, r, pe, day, rfl, h, hr, _, _⟩ := case45 hrow
      simp only [okR, okC] at h2
      obtain ⟨_, _, rfl, ⟨a, rfl, _⟩, _, _, rfl, ⟨b, rfl, _⟩, rfl⟩ := h2
      exact lawAgrees45 h r hr pe day (a, b)) W (@fnsOK ⟨fun g => W.heap[g]?⟩ (tabsK_of (tabs_of hL))) base args ds gs before hval hW trivial

theorem accessAgrees : Rows.AccessAgreesSaid :=
  OpenClaim.holds_of_wide 12 Tryz.f12 rfl rfl rfl rfl rfl rfl rfl ⟨rfl, rfl, rfl, rfl, rfl⟩ rfl rfl rfl rfl rfl (by kernel_rfl) Tryz.func12 (by kernel_rfl)
    (of_decide_eq_true (by kernel_rfl)) (by unfold Func.isWrapper; first | (rw [if_pos (by decide +kernel)]; kernel_rfl) | (rw [if_neg (by decide +kernel)]; exact ⟨rfl, rfl⟩))
    (fun os started H enc _ => accessAgrees_lifted os started H enc)

theorem accessAgreesCard : Rows.AccessAgreesCardSaid :=
  Claim7.holds_tied_plain_at .later [] [.data, .pinned] true (true, "ed19f4bff08b33da3cbb1ea805156aeee16997c440407753503e826ba76768da") false accessAgrees (fun _ h => by cases h) (by kernel_rfl) (fun _ h => by cases h) accessAgrees_row_tie rfl ⟨rfl, rfl⟩ (by kernel_rfl) rfl
    (fun f fn hf hfn => by
      obtain rfl : f = 12 := Option.some.inj ((show Tryz.prog.funcNamed "langdoc/langdoclaw45.AccessAgrees" = some 12 by kernel_rfl).symm.trans hf) |>.symm
      obtain rfl : fn = Tryz.f12 := (Option.some.inj (Tryz.func12.symm.trans hfn)).symm
      exact ⟨by kernel_rfl, fun j t ht => by
        have hp : Tryz.f12.params = #[40, 47] := by kernel_rfl
        rw [hp] at ht
        have hm : t ∈ [40, 47] := by simpa using Array.mem_of_getElem? ht
        have hall : ([40, 47].all fun u => !Tryz.prog.wantsStandIn u) = true := by kernel_rfl
        exact (show Tryz.prog.wantsStandIn t = false by simpa using List.all_eq_true.1 hall t hm)⟩)
    (by kernel_rfl)
#print axioms accessAgreesCard
end Go.Proofs.YtpdacimgcojgnaaGreatDoor
