/- PhonemeMeets returns true whatever its arguments, and leaves them as they were. Conditions: none. -/
import Derived.Test.YtkbmoekomicjeaaDoorZ6
import Derived.Test.YtkbmoekomicjeaaDoorTie
import Derived.Test.YtkbmoekomicjeaaDoorCards
import Derived.SevenTiedAt
set_option linter.all false
namespace Go.Proofs.YtkbmoekomicjeaaDoor
open Go.ChangeShapes Go.WideShapes Go.ChangeAt Go.RowKit Go.Eng

set_option maxRecDepth 100000 in
theorem phonemeMeets_lifted (os : Os) (started : os.Started) (H : Type) (enc : TypeId × Value → H) :
    ReturnsInHanded {} Tryd.checked os 8 .any (fun w args => (Rows.phonemeMeetsSpec.pre enc Tryd.prog Tryd.f8 Rows.phonemeMeetsRow.domain false w args ∧ laidMetH Tryd.prog Rows.phonemeMeetsRow.laid w) ∧ sizedMet enc Tryd.prog Tryd.f8 (OpenSpec.ofChange Rows.phonemeMeetsSpec) false w args) (Rows.phonemeMeetsSpec.post enc Tryd.prog Tryd.f8 false true false false) := by
  refine returnsInHanded_of_change_and (C := Tryd.checked) (X := fun w _ => laidMetH Tryd.prog Rows.phonemeChecksRow.laid w) (fun _ _ _ hh h => h.of_heap hh) own started (by kernel_rfl) Tryd.func8
    (ChangeSpec.witness_shaped (enc := enc) (C := Tryd.checked) (os := os) (X := fun w _ => laidMetH Tryd.prog Rows.phonemeChecksRow.laid w) false (World.laidAll Tryd.prog os Rows.phonemeChecksRow.laid) #[.agg #[.slice none 0 0], .agg #[.int .i64 0, .int .i64 0], .agg #[.int .i64 0, .int .i64 0]] 8 (World.laidAll_os _ _ _)
      (World.shaped_of_ZipB (by kernel_rfl) (by kernel_rfl)) (by kernel_rfl) (by kernel_rfl) (by kernel_rfl) (laid_witness os _)) ?_
  intro W base args ds gs before hval hW _ _ hL _
  exact law_contractW (fn := Tryd.f8) ctxOK laidOut bulkOK (k := 8) (τs := [(true, [.sl [.str, .int .i64]]), (true, [.int .i64, .int .i64]), (true, [.int .i64, .int .i64])]) (by kernel_rfl) (by kernel_rfl) rfl (by kernel_rfl) rfl
    (fun ds h => by match ds, h with | [_, _, _], _ => rfl) (Bd := fun _ => True) (fun l m hok _ _ => by
      simp only [okArgs, okArg, okR, okC] at hok
      obtain ⟨_, _, rfl, ⟨_, rfl, ⟨_, _, rfl, ⟨r1, rfl, l1, h1⟩, rfl⟩⟩, ⟨_, _, rfl, ⟨_, rfl, ⟨_, _, rfl, ⟨a2, rfl, w2⟩, ⟨_, _, rfl, ⟨a3, rfl, w3⟩, rfl⟩⟩⟩, ⟨_, _, rfl, ⟨_, rfl, ⟨_, _, rfl, ⟨a4, rfl, w4⟩, ⟨_, _, rfl, ⟨a5, rfl, w5⟩, rfl⟩⟩⟩, rfl⟩⟩⟩ := hok
      exact (by obtain ⟨ss, rfl⟩ := sgs_of (rows := r1) (fun x hx => by simp only [okR, okC]; exact h1 x hx); exact lawMeets _ ss _ _ _ _ (.rows true) w3 w5)) W (@fnsOK ⟨fun g => W.heap[g]?⟩ (tabsK_of (tabs_of hL))) base args ds gs before hval hW trivial

theorem phonemeMeets : Rows.PhonemeMeetsSaid :=
  OpenClaim.holds_of_wide 8 Tryd.f8 rfl rfl rfl rfl rfl rfl rfl ⟨rfl, rfl, rfl, rfl, rfl⟩ rfl rfl rfl rfl rfl (by kernel_rfl) Tryd.func8 (by kernel_rfl)
    (of_decide_eq_true (by kernel_rfl)) (by unfold Func.isWrapper; first | (rw [if_pos (by decide +kernel)]; kernel_rfl) | (rw [if_neg (by decide +kernel)]; exact ⟨rfl, rfl⟩))
    (fun os started H enc _ => phonemeMeets_lifted os started H enc)

theorem phonemeMeetsCard : Rows.PhonemeMeetsCardSaid :=
  Claim7.holds_tied_plain_at .later [] [.data, .pinned] true (true, "3e1f933d847a70943cf89a38de4145fcc2696818c9d920039bdc64b86e00cfcd") false phonemeMeets (fun _ h => by cases h) (by kernel_rfl) (fun _ h => by cases h) phonemeMeets_row_tie rfl ⟨rfl, rfl⟩ (by kernel_rfl) rfl
    (fun f fn hf hfn => by
      obtain rfl : f = 8 := Option.some.inj ((show Tryd.prog.funcNamed "langdoc/langdoclaw16.PhonemeMeets" = some 8 by kernel_rfl).symm.trans hf) |>.symm
      obtain rfl : fn = Tryd.f8 := (Option.some.inj (Tryd.func8.symm.trans hfn)).symm
      exact ⟨by kernel_rfl, fun j t ht => by
        have hp : Tryd.f8.params = #[24, 30, 30] := by kernel_rfl
        rw [hp] at ht
        have hm : t ∈ [24, 30, 30] := by simpa using Array.mem_of_getElem? ht
        have hall : ([24, 30, 30].all fun u => !Tryd.prog.wantsStandIn u) = true := by kernel_rfl
        exact (show Tryd.prog.wantsStandIn t = false by simpa using List.all_eq_true.1 hall t hm)⟩)
    (by kernel_rfl)
#print axioms phonemeMeetsCard
end Go.Proofs.YtkbmoekomicjeaaDoor
