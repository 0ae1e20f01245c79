/- AccessGone returns true whatever its arguments, and leaves them as they were. Conditions: none. -/
import Derived.Test.YtpdacimgcojgnaaGreatDoorZ8
import Derived.Test.YtpdacimgcojgnaaGreatDoorTie
import Derived.Test.YtpdacimgcojgnaaGreatDoorCards
import Derived.SevenTiedAt
set_option linter.all false
namespace Go.Proofs.YtpdacimgcojgnaaGreatDoor
open Go.ChangeShapes Go.WideShapes Go.ChangeAt Go.RowKit Go.Eng

set_option maxRecDepth 100000 in
theorem accessGone_lifted (os : Os) (started : os.Started) (H : Type) (enc : TypeId × Value → H) :
    ReturnsInHanded {} Tryz.checked os 8 .any (fun w args => (Rows.accessGoneSpec.pre enc Tryz.prog Tryz.f8 Rows.accessGoneRow.domain false w args ∧ laidMetH Tryz.prog Rows.accessGoneRow.laid w) ∧ sizedMet enc Tryz.prog Tryz.f8 (OpenSpec.ofChange Rows.accessGoneSpec) false w args) (Rows.accessGoneSpec.post enc Tryz.prog Tryz.f8 false true false false) := by
  refine returnsInHanded_of_change_and (C := Tryz.checked) (X := fun w _ => laidMetH Tryz.prog Rows.accessChecksRow.laid w) (fun _ _ _ hh h => h.of_heap hh) own started (by kernel_rfl) Tryz.func8
    (ChangeSpec.witness_shaped (enc := enc) (C := Tryz.checked) (os := os) (X := fun w _ => laidMetH Tryz.prog Rows.accessChecksRow.laid w) false (World.laidAll Tryz.prog os Rows.accessChecksRow.laid) #[.agg #[.slice none 0 0, .slice none 0 0, .slice none 0 0, .slice none 0 0, .int .i64 0, .string .empty, .int .i64 0, .int .i64 0, .slice none 0 0, .int .i64 0, .int .i64 0], .int .u8 0, .bool false] 8 (World.laidAll_os _ _ _)
      (World.shaped_of_ZipB (by kernel_rfl) (by kernel_rfl)) (by kernel_rfl) (by kernel_rfl) (by kernel_rfl) (laid_witness os _)) ?_
  intro W base args ds gs before hval hW _ _ hL _
  exact law_contractW (fn := Tryz.f8) ctxOK laidOut bulkOK (k := 8) (τs := [(true, caseS), (false, [.int .u8]), (false, [.bool])]) (by kernel_rfl) (by kernel_rfl) rfl (by kernel_rfl) rfl
    (fun ds h => by match ds, h with | [_, _, _], _ => rfl) (Bd := fun _ => True) (fun l m hok _ _ => by
      simp only [okArgs, okArg] at hok
      obtain ⟨_, _, rfl, ⟨_, rfl, hrow⟩, _, _, rfl, h2, _, _, rfl, h3, rfl⟩ := hok
      obtain ⟨ps, gs, cs, rs, r, pe, day, rfl, h, hr, _, _⟩ := case45 hrow
      simp only [okC] at h2 h3
      obtain ⟨a, rfl, wa⟩ := h2
      obtain ⟨b, rfl⟩ := h3
      have w0 : 0 ≤ a := by simp [Lit.wf, IntKind.min, IntKind.signed] at wa; omega
      have w1 : a ≤ 255 := by simp [Lit.wf, IntKind.max, IntKind.signed, IntKind.bits] at wa; omega
      exact lawGone45 h r hr pe day w0 w1 b) W (@fnsOK ⟨fun g => W.heap[g]?⟩ (tabsK_of (tabs_of hL))) base args ds gs before hval hW trivial

theorem accessGone : Rows.AccessGoneSaid :=
  OpenClaim.holds_of_wide 8 Tryz.f8 rfl rfl rfl rfl rfl rfl rfl ⟨rfl, rfl, rfl, rfl, rfl⟩ rfl rfl rfl rfl rfl (by kernel_rfl) Tryz.func8 (by kernel_rfl)
    (of_decide_eq_true (by kernel_rfl)) (by unfold Func.isWrapper; first | (rw [if_pos (by decide +kernel)]; kernel_rfl) | (rw [if_neg (by decide +kernel)]; exact ⟨rfl, rfl⟩))
    (fun os started H enc _ => accessGone_lifted os started H enc)

theorem accessGoneCard : Rows.AccessGoneCardSaid :=
  Claim7.holds_tied_plain_at .later [] [.data, .pinned] true (true, "ed19f4bff08b33da3cbb1ea805156aeee16997c440407753503e826ba76768da") false accessGone (fun _ h => by cases h) (by kernel_rfl) (fun _ h => by cases h) accessGone_row_tie rfl ⟨rfl, rfl⟩ (by kernel_rfl) rfl
    (fun f fn hf hfn => by
      obtain rfl : f = 8 := Option.some.inj ((show Tryz.prog.funcNamed "langdoc/langdoclaw45.AccessGone" = some 8 by kernel_rfl).symm.trans hf) |>.symm
      obtain rfl : fn = Tryz.f8 := (Option.some.inj (Tryz.func8.symm.trans hfn)).symm
      exact ⟨by kernel_rfl, fun j t ht => by
        have hp : Tryz.f8.params = #[40, 5, 4] := by kernel_rfl
        rw [hp] at ht
        have hm : t ∈ [40, 5, 4] := by simpa using Array.mem_of_getElem? ht
        have hall : ([40, 5, 4].all fun u => !Tryz.prog.wantsStandIn u) = true := by kernel_rfl
        exact (show Tryz.prog.wantsStandIn t = false by simpa using List.all_eq_true.1 hall t hm)⟩)
    (by kernel_rfl)
#print axioms accessGoneCard
end Go.Proofs.YtpdacimgcojgnaaGreatDoor
