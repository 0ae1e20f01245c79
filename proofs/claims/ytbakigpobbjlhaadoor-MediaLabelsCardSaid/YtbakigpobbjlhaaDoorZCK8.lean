/- MediaLabels returns true whatever its arguments, and leaves them as they were. Conditions: none. -/
import Derived.Test.YtbakigpobbjlhaaDoorZ6
import Derived.Test.YtbakigpobbjlhaaDoorTie
import Derived.Test.YtbakigpobbjlhaaDoorCards
import Derived.SevenTiedAt
set_option linter.all false
namespace Go.Proofs.YtbakigpobbjlhaaDoor
open Go.ChangeShapes Go.WideShapes Go.ChangeAt Go.RowKit Go.Eng

set_option maxRecDepth 100000 in
theorem mediaLabels_lifted (os : Os) (started : os.Started) (H : Type) (enc : TypeId × Value → H) :
    ReturnsInHanded {} Tryd.checked os 10 .any (fun w args => (Rows.mediaLabelsSpec.pre enc Tryd.prog Tryd.f10 Rows.mediaLabelsRow.domain false w args ∧ laidMetH Tryd.prog Rows.mediaLabelsRow.laid w) ∧ sizedMet enc Tryd.prog Tryd.f10 (OpenSpec.ofChange Rows.mediaLabelsSpec) false w args) (Rows.mediaLabelsSpec.post enc Tryd.prog Tryd.f10 false true false false) := by
  refine returnsInHanded_of_change_and (C := Tryd.checked) (X := fun w _ => laidMetH Tryd.prog Rows.mediaNamesRow.laid w) (fun _ _ _ hh h => h.of_heap hh) own started (by kernel_rfl) Tryd.func10
    (ChangeSpec.witness_shaped (enc := enc) (C := Tryd.checked) (os := os) (X := fun w _ => laidMetH Tryd.prog Rows.mediaNamesRow.laid w) false (World.laidAll Tryd.prog os Rows.mediaNamesRow.laid) #[.string .empty, .int .u8 0, .int .u8 0] 8 (World.laidAll_os _ _ _)
      (World.shaped_of_ZipB (by kernel_rfl) (by kernel_rfl)) (by kernel_rfl) (by kernel_rfl) (by kernel_rfl) (laid_witness os _)) ?_
  intro W base args ds gs before hval hW _ _ hL _
  exact law_contractW (fn := Tryd.f10) ctxOK laidOut bulkOK (k := 8) (τs := [(false, [.str]), (false, [.int .u8]), (false, [.int .u8])]) (by kernel_rfl) (by kernel_rfl) rfl (by kernel_rfl) rfl
    (fun ds h => by match ds, h with | [_, _, _], _ => rfl) (Bd := fun _ => True) (fun l m hok _ _ => by
      simp only [okArgs, okArg, okR, okC] at hok
      obtain ⟨_, _, rfl, ⟨a1, rfl, w1⟩, ⟨_, _, rfl, ⟨a2, rfl, w2⟩, ⟨_, _, rfl, ⟨a3, rfl, w3⟩, rfl⟩⟩⟩ := hok
      exact (by obtain ⟨a, ha, rfl⟩ := byte_of w2; obtain ⟨b, hb, rfl⟩ := byte_of w3; exact lawL a1 a b ha hb)) W (@fnsOK ⟨fun g => W.heap[g]?⟩ (tabsK_of (tabs_of hL))) base args ds gs before hval hW trivial

theorem mediaLabels : Rows.MediaLabelsSaid :=
  OpenClaim.holds_of_wide 10 Tryd.f10 rfl rfl rfl rfl rfl rfl rfl ⟨rfl, rfl, rfl, rfl, rfl⟩ rfl rfl rfl rfl rfl (by kernel_rfl) Tryd.func10 (by kernel_rfl)
    (of_decide_eq_true (by kernel_rfl)) (by unfold Func.isWrapper; first | (rw [if_pos (by decide +kernel)]; kernel_rfl) | (rw [if_neg (by decide +kernel)]; exact ⟨rfl, rfl⟩))
    (fun os started H enc _ => mediaLabels_lifted os started H enc)

theorem mediaLabelsCard : Rows.MediaLabelsCardSaid :=
  Claim7.holds_tied_plain_at .later [] [.data, .pinned] true (true, "7ef217f945e689061b8a2809a4772b15a669659c75480144a449ae1b65aa265e") false mediaLabels (fun _ h => by cases h) (by kernel_rfl) (fun _ h => by cases h) mediaLabels_row_tie rfl ⟨rfl, rfl⟩ (by kernel_rfl) rfl
    (fun f fn hf hfn => by
      obtain rfl : f = 10 := Option.some.inj ((show Tryd.prog.funcNamed "langdoc/langdoclaw10.MediaLabels" = some 10 by kernel_rfl).symm.trans hf) |>.symm
      obtain rfl : fn = Tryd.f10 := (Option.some.inj (Tryd.func10.symm.trans hfn)).symm
      exact ⟨by kernel_rfl, fun j t ht => by
        have hp : Tryd.f10.params = #[9, 5, 5] := by kernel_rfl
        rw [hp] at ht
        have hm : t ∈ [9, 5, 5] := by simpa using Array.mem_of_getElem? ht
        have hall : ([9, 5, 5].all fun u => !Tryd.prog.wantsStandIn u) = true := by kernel_rfl
        exact (show Tryd.prog.wantsStandIn t = false by simpa using List.all_eq_true.1 hall t hm)⟩)
    (by kernel_rfl)
#print axioms mediaLabelsCard
end Go.Proofs.YtbakigpobbjlhaaDoor
