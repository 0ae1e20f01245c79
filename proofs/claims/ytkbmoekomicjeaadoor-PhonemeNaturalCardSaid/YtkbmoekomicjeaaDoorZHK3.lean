/- PhonemeNatural returns true whatever its arguments, and leaves them as they were. Conditions: none. -/
import Derived.Test.YtkbmoekomicjeaaDoorZ6
import Derived.Test.YtkbmoekomicjeaaDoorTie
import Derived.Test.YtkbmoekomicjeaaDoorCards
import Derived.SevenTiedAt
set_option linter.all false
namespace Go.Proofs.YtkbmoekomicjeaaDoor
open Go.ChangeShapes Go.WideShapes Go.ChangeAt Go.RowKit Go.Eng

set_option maxRecDepth 100000 in
theorem phonemeNatural_lifted (os : Os) (started : os.Started) (H : Type) (enc : TypeId × Value → H) :
    ReturnsInHanded {} Tryd.checked os 5 .any (fun w args => (Rows.phonemeNaturalSpec.pre enc Tryd.prog Tryd.f5 Rows.phonemeNaturalRow.domain false w args ∧ laidMetH Tryd.prog Rows.phonemeNaturalRow.laid w) ∧ sizedMet enc Tryd.prog Tryd.f5 (OpenSpec.ofChange Rows.phonemeNaturalSpec) false w args) (Rows.phonemeNaturalSpec.post enc Tryd.prog Tryd.f5 false true false false) := by
  refine returnsInHanded_of_change_and (C := Tryd.checked) (X := fun w _ => laidMetH Tryd.prog Rows.phonemeChecksRow.laid w) (fun _ _ _ hh h => h.of_heap hh) own started (by kernel_rfl) Tryd.func5
    (ChangeSpec.witness_shaped (enc := enc) (C := Tryd.checked) (os := os) (X := fun w _ => laidMetH Tryd.prog Rows.phonemeChecksRow.laid w) false (World.laidAll Tryd.prog os Rows.phonemeChecksRow.laid) #[.agg #[.slice none 0 0], .slice none 0 0] 8 (World.laidAll_os _ _ _)
      (World.shaped_of_ZipB (by kernel_rfl) (by kernel_rfl)) (by kernel_rfl) (by kernel_rfl) (by kernel_rfl) (laid_witness os _)) ?_
  intro W base args ds gs before hval hW _ _ hL _
  exact law_contractW (fn := Tryd.f5) ctxOK laidOut bulkOK (k := 8) (τs := [(true, [.sl [.str, .int .i64]]), (false, [.sl [.int .i64]])]) (by kernel_rfl) (by kernel_rfl) rfl (by kernel_rfl) rfl
    (fun ds h => by match ds, h with | [_, _], _ => rfl) (Bd := fun _ => True) (fun l m hok _ _ => by
      simp only [okArgs, okArg, okR, okC] at hok
      obtain ⟨_, _, rfl, ⟨_, rfl, ⟨_, _, rfl, ⟨r1, rfl, l1, h1⟩, rfl⟩⟩, ⟨_, _, rfl, ⟨r2, rfl, l2, h2⟩, rfl⟩⟩ := hok
      exact (by obtain ⟨ss, rfl⟩ := sgs_of (rows := r1) (fun x hx => by simp only [okR, okC]; exact h1 x hx); obtain ⟨a, rfl⟩ := ints_of (rows := r2) (fun x hx => by simp only [okR, okC]; exact h2 x hx); exact lawNatural _ _ ss a (.rows true) (.rows true))) W (@fnsOK ⟨fun g => W.heap[g]?⟩ (tabsK_of (tabs_of hL))) base args ds gs before hval hW trivial

theorem phonemeNatural : Rows.PhonemeNaturalSaid :=
  OpenClaim.holds_of_wide 5 Tryd.f5 rfl rfl rfl rfl rfl rfl rfl ⟨rfl, rfl, rfl, rfl, rfl⟩ rfl rfl rfl rfl rfl (by kernel_rfl) Tryd.func5 (by kernel_rfl)
    (of_decide_eq_true (by kernel_rfl)) (by unfold Func.isWrapper; first | (rw [if_pos (by decide +kernel)]; kernel_rfl) | (rw [if_neg (by decide +kernel)]; exact ⟨rfl, rfl⟩))
    (fun os started H enc _ => phonemeNatural_lifted os started H enc)

theorem phonemeNaturalCard : Rows.PhonemeNaturalCardSaid :=
  Claim7.holds_tied_plain_at .later [] [.data, .pinned] true (true, "3e1f933d847a70943cf89a38de4145fcc2696818c9d920039bdc64b86e00cfcd") false phonemeNatural (fun _ h => by cases h) (by kernel_rfl) (fun _ h => by cases h) phonemeNatural_row_tie rfl ⟨rfl, rfl⟩ (by kernel_rfl) rfl
    (fun f fn hf hfn => by
      obtain rfl : f = 5 := Option.some.inj ((show Tryd.prog.funcNamed "langdoc/langdoclaw16.PhonemeNatural" = some 5 by kernel_rfl).symm.trans hf) |>.symm
      obtain rfl : fn = Tryd.f5 := (Option.some.inj (Tryd.func5.symm.trans hfn)).symm
      exact ⟨by kernel_rfl, fun j t ht => by
        have hp : Tryd.f5.params = #[24, 33] := by kernel_rfl
        rw [hp] at ht
        have hm : t ∈ [24, 33] := by simpa using Array.mem_of_getElem? ht
        have hall : ([24, 33].all fun u => !Tryd.prog.wantsStandIn u) = true := by kernel_rfl
        exact (show Tryd.prog.wantsStandIn t = false by simpa using List.all_eq_true.1 hall t hm)⟩)
    (by kernel_rfl)
#print axioms phonemeNaturalCard
end Go.Proofs.YtkbmoekomicjeaaDoor
