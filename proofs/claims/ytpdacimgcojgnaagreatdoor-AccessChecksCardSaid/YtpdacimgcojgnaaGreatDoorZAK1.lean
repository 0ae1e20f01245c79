/- AccessChecks returns true whatever its arguments, and leaves them as they were. Conditions: none. -/
import Derived.Test.YtpdacimgcojgnaaGreatDoorZ6
import Derived.Test.YtpdacimgcojgnaaGreatDoorTie
import Derived.Test.YtpdacimgcojgnaaGreatDoorCards
import Derived.SevenTiedAt
set_option linter.all false
namespace Go.Proofs.YtpdacimgcojgnaaGreatDoor
open Go.ChangeShapes Go.WideShapes Go.ChangeAt Go.RowKit Go.Eng

set_option maxRecDepth 100000 in
theorem accessChecks_lifted (os : Os) (started : os.Started) (H : Type) (enc : TypeId × Value → H) :
    ReturnsInHanded {} Tryz.checked os 3 .any (fun w args => (Rows.accessChecksSpec.pre enc Tryz.prog Tryz.f3 Rows.accessChecksRow.domain false w args ∧ laidMetH Tryz.prog Rows.accessChecksRow.laid w) ∧ sizedMet enc Tryz.prog Tryz.f3 (OpenSpec.ofChange Rows.accessChecksSpec) false w args) (Rows.accessChecksSpec.post enc Tryz.prog Tryz.f3 false true false false) := by
  refine returnsInHanded_of_change_and (C := Tryz.checked) (X := fun w _ => laidMetH Tryz.prog Rows.accessChecksRow.laid w) (fun _ _ _ hh h => h.of_heap hh) own started (by kernel_rfl) Tryz.func3
    (ChangeSpec.witness_shaped (enc := enc) (C := Tryz.checked) (os := os) (X := fun w _ => laidMetH Tryz.prog Rows.accessChecksRow.laid w) false (World.laidAll Tryz.prog os Rows.accessChecksRow.laid) #[.slice none 0 0, .agg #[.slice none 0 0, .slice none 0 0, .slice none 0 0, .slice none 0 0]] 8 (World.laidAll_os _ _ _)
      (World.shaped_of_ZipB (by kernel_rfl) (by kernel_rfl)) (by kernel_rfl) (by kernel_rfl) (by kernel_rfl) (laid_witness os _)) ?_
  intro W base args ds gs before hval hW _ _ hL _
  exact law_contractW (fn := Tryz.f3) ctxOK laidOut bulkOK (k := 8) (τs := [(false, [.sl [.int .i64, .str, .int .i64, .int .i64, .sl [.int .i64]]]), (true, rightsS)]) (by kernel_rfl) (by kernel_rfl) rfl (by kernel_rfl) rfl
    (fun ds h => by match ds, h with | [_, _], _ => rfl) (Bd := fun _ => True) (fun l m hok _ _ => by
      simp only [okArgs, okArg] at hok
      obtain ⟨_, _, rfl, h1, _, _, rfl, ⟨_, rfl, h2⟩, rfl⟩ := hok
      simp only [okC] at h1
      obtain ⟨r1, rfl, _, k1⟩ := h1
      obtain ⟨recs, rfl, hok⟩ := recs45 (rows := r1) k1
      obtain ⟨ps, gs, cs, rs, rfl, h⟩ := rights45 h2
      exact lawChecks45 h recs hok) W (@fnsOK ⟨fun g => W.heap[g]?⟩ (tabsK_of (tabs_of hL))) base args ds gs before hval hW trivial

theorem accessChecks : Rows.AccessChecksSaid :=
  OpenClaim.holds_of_wide 3 Tryz.f3 rfl rfl rfl rfl rfl rfl rfl ⟨rfl, rfl, rfl, rfl, rfl⟩ rfl rfl rfl rfl rfl (by kernel_rfl) Tryz.func3 (by kernel_rfl)
    (of_decide_eq_true (by kernel_rfl)) (by unfold Func.isWrapper; first | (rw [if_pos (by decide +kernel)]; kernel_rfl) | (rw [if_neg (by decide +kernel)]; exact ⟨rfl, rfl⟩))
    (fun os started H enc _ => accessChecks_lifted os started H enc)

theorem accessChecksCard : Rows.AccessChecksCardSaid :=
  Claim7.holds_tied_plain_at .later [] [.data, .pinned] true (true, "ed19f4bff08b33da3cbb1ea805156aeee16997c440407753503e826ba76768da") false accessChecks (fun _ h => by cases h) (by kernel_rfl) (fun _ h => by cases h) accessChecks_row_tie rfl ⟨rfl, rfl⟩ (by kernel_rfl) rfl
    (fun f fn hf hfn => by
      obtain rfl : f = 3 := Option.some.inj ((show Tryz.prog.funcNamed "langdoc/langdoclaw45.AccessChecks" = some 3 by kernel_rfl).symm.trans hf) |>.symm
      obtain rfl : fn = Tryz.f3 := (Option.some.inj (Tryz.func3.symm.trans hfn)).symm
      exact ⟨by kernel_rfl, fun j t ht => by
        have hp : Tryz.f3.params = #[22, 28] := by kernel_rfl
        rw [hp] at ht
        have hm : t ∈ [22, 28] := by simpa using Array.mem_of_getElem? ht
        have hall : ([22, 28].all fun u => !Tryz.prog.wantsStandIn u) = true := by kernel_rfl
        exact (show Tryz.prog.wantsStandIn t = false by simpa using List.all_eq_true.1 hall t hm)⟩)
    (by kernel_rfl)
#print axioms accessChecksCard
end Go.Proofs.YtpdacimgcojgnaaGreatDoor
