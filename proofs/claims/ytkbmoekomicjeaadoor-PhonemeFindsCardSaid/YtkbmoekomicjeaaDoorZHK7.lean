/- PhonemeFinds returns true whatever its arguments, and leaves them as they were. Conditions: none. -/
import Derived.Test.YtkbmoekomicjeaaDoorZ6
import Derived.Test.YtkbmoekomicjeaaDoorTie
import Derived.Test.YtkbmoekomicjeaaDoorCards
import Derived.SevenTiedAt
set_option linter.all false
namespace Go.Proofs.YtkbmoekomicjeaaDoor
open Go.ChangeShapes Go.WideShapes Go.ChangeAt Go.RowKit Go.Eng

set_option maxRecDepth 100000 in
theorem phonemeFinds_lifted (os : Os) (started : os.Started) (H : Type) (enc : TypeId × Value → H) :
    ReturnsInHanded {} Tryd.checked os 9 .any (fun w args => (Rows.phonemeFindsSpec.pre enc Tryd.prog Tryd.f9 Rows.phonemeFindsRow.domain false w args ∧ laidMetH Tryd.prog Rows.phonemeFindsRow.laid w) ∧ sizedMet enc Tryd.prog Tryd.f9 (OpenSpec.ofChange Rows.phonemeFindsSpec) false w args) (Rows.phonemeFindsSpec.post enc Tryd.prog Tryd.f9 false true false false) := by
  refine returnsInHanded_of_change_and (C := Tryd.checked) (X := fun w _ => laidMetH Tryd.prog Rows.phonemeChecksRow.laid w) (fun _ _ _ hh h => h.of_heap hh) own started (by kernel_rfl) Tryd.func9
    (ChangeSpec.witness_shaped (enc := enc) (C := Tryd.checked) (os := os) (X := fun w _ => laidMetH Tryd.prog Rows.phonemeChecksRow.laid w) false (World.laidAll Tryd.prog os Rows.phonemeChecksRow.laid) #[.agg #[.slice none 0 0], .string .empty] 8 (World.laidAll_os _ _ _)
      (World.shaped_of_ZipB (by kernel_rfl) (by kernel_rfl)) (by kernel_rfl) (by kernel_rfl) (by kernel_rfl) (laid_witness os _)) ?_
  intro W base args ds gs before hval hW _ _ hL _
  exact law_contractW (fn := Tryd.f9) ctxOK laidOut bulkOK (k := 8) (τs := [(true, [.sl [.str, .int .i64]]), (false, [.str])]) (by kernel_rfl) (by kernel_rfl) rfl (by kernel_rfl) rfl
    (fun ds h => by match ds, h with | [_, _], _ => rfl) (Bd := fun _ => True) (fun l m hok _ _ => by
      simp only [okArgs, okArg, okR, okC] at hok
      obtain ⟨_, _, rfl, ⟨_, rfl, ⟨_, _, rfl, ⟨r1, rfl, l1, h1⟩, rfl⟩⟩, ⟨_, _, rfl, ⟨a2, rfl, w2⟩, rfl⟩⟩ := hok
      exact (by obtain ⟨ss, rfl⟩ := sgs_of (rows := r1) (fun x hx => by simp only [okR, okC]; exact h1 x hx); exact lawFinds _ ss _ (.rows true))) W (@fnsOK ⟨fun g => W.heap[g]?⟩ (tabsK_of (tabs_of hL))) base args ds gs before hval hW trivial

theorem phonemeFinds : Rows.PhonemeFindsSaid :=
  OpenClaim.holds_of_wide 9 Tryd.f9 rfl rfl rfl rfl rfl rfl rfl ⟨rfl, rfl, rfl, rfl, rfl⟩ rfl rfl rfl rfl rfl (by kernel_rfl) Tryd.func9 (by kernel_rfl)
    (of_decide_eq_true (by kernel_rfl)) (by unfold Func.isWrapper; first | (rw [if_pos (by decide +kernel)]; kernel_rfl) | (rw [if_neg (by decide +kernel)]; exact ⟨rfl, rfl⟩))
    (fun os started H enc _ => phonemeFinds_lifted os started H enc)

theorem phonemeFindsCard : Rows.PhonemeFindsCardSaid :=
  Claim7.holds_tied_plain_at .later [] [.data, .pinned] true (true, "3e1f933d847a70943cf89a38de4145fcc2696818c9d920039bdc64b86e00cfcd") false phonemeFinds (fun _ h => by cases h) (by kernel_rfl) (fun _ h => by cases h) phonemeFinds_row_tie rfl ⟨rfl, rfl⟩ (by kernel_rfl) rfl
    (fun f fn hf hfn => by
      obtain rfl : f = 9 := Option.some.inj ((show Tryd.prog.funcNamed "langdoc/langdoclaw16.PhonemeFinds" = some 9 by kernel_rfl).symm.trans hf) |>.symm
      obtain rfl : fn = Tryd.f9 := (Option.some.inj (Tryd.func9.symm.trans hfn)).symm
      exact ⟨by kernel_rfl, fun j t ht => by
        have hp : Tryd.f9.params = #[24, 9] := by kernel_rfl
        rw [hp] at ht
        have hm : t ∈ [24, 9] := by simpa using Array.mem_of_getElem? ht
        have hall : ([24, 9].all fun u => !Tryd.prog.wantsStandIn u) = true := by kernel_rfl
        exact (show Tryd.prog.wantsStandIn t = false by simpa using List.all_eq_true.1 hall t hm)⟩)
    (by kernel_rfl)
#print axioms phonemeFindsCard
end Go.Proofs.YtkbmoekomicjeaaDoor
