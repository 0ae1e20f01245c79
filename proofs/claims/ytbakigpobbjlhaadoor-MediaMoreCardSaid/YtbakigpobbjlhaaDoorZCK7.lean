/- MediaMore returns true whatever its arguments, and leaves them as they were. Conditions: none. -/
import Derived.Test.YtbakigpobbjlhaaDoorZ6
import Derived.Test.YtbakigpobbjlhaaDoorTie
import Derived.Test.YtbakigpobbjlhaaDoorCards
import Derived.SevenTiedAt
set_option linter.all false
namespace Go.Proofs.YtbakigpobbjlhaaDoor
open Go.ChangeShapes Go.WideShapes Go.ChangeAt Go.RowKit Go.Eng

set_option maxRecDepth 100000 in
theorem mediaMore_lifted (os : Os) (started : os.Started) (H : Type) (enc : TypeId × Value → H) :
    ReturnsInHanded {} Tryd.checked os 9 .any (fun w args => (Rows.mediaMoreSpec.pre enc Tryd.prog Tryd.f9 Rows.mediaMoreRow.domain false w args ∧ laidMetH Tryd.prog Rows.mediaMoreRow.laid w) ∧ sizedMet enc Tryd.prog Tryd.f9 (OpenSpec.ofChange Rows.mediaMoreSpec) false w args) (Rows.mediaMoreSpec.post enc Tryd.prog Tryd.f9 false true false false) := by
  refine returnsInHanded_of_change_and (C := Tryd.checked) (X := fun w _ => laidMetH Tryd.prog Rows.mediaNamesRow.laid w) (fun _ _ _ hh h => h.of_heap hh) own started (by kernel_rfl) Tryd.func9
    (ChangeSpec.witness_shaped (enc := enc) (C := Tryd.checked) (os := os) (X := fun w _ => laidMetH Tryd.prog Rows.mediaNamesRow.laid w) false (World.laidAll Tryd.prog os Rows.mediaNamesRow.laid) #[.slice none 0 0, .slice none 0 0, .agg #[.int .i64 0, .string .empty, .int .i64 0, .int .i64 0, .slice none 0 0]] 8 (World.laidAll_os _ _ _)
      (World.shaped_of_ZipB (by kernel_rfl) (by kernel_rfl)) (by kernel_rfl) (by kernel_rfl) (by kernel_rfl) (laid_witness os _)) ?_
  intro W base args ds gs before hval hW _ _ hL _
  exact law_contractW (fn := Tryd.f9) ctxOK laidOut bulkOK (k := 8) (τs := [(false, [.sl [.int .i64, .str, .bool]]), (false, [.sl [.int .i64, .str, .bool]]), (true, [.int .i64, .str, .int .i64, .int .i64, .sl [.int .i64]])]) (by kernel_rfl) (by kernel_rfl) rfl (by kernel_rfl) rfl
    (fun ds h => by match ds, h with | [_, _, _], _ => rfl) (Bd := fun _ => True) (fun l m hok _ _ => by
      simp only [okArgs, okArg, okR, okC] at hok
      obtain ⟨_, _, rfl, ⟨r1, rfl, l1, h1⟩, ⟨_, _, rfl, ⟨r2, rfl, l2, h2⟩, ⟨_, _, rfl, ⟨_, rfl, ⟨_, _, rfl, ⟨a3, rfl, w3⟩, ⟨_, _, rfl, ⟨a4, rfl, w4⟩, ⟨_, _, rfl, ⟨a5, rfl, w5⟩, ⟨_, _, rfl, ⟨a6, rfl, w6⟩, ⟨_, _, rfl, ⟨r7, rfl, l7, h7⟩, rfl⟩⟩⟩⟩⟩⟩, rfl⟩⟩⟩ := hok
      exact (by obtain ⟨ps, rfl⟩ := psns_of (rows := r1) (fun x hx => by simp only [okR, okC]; exact h1 x hx); obtain ⟨qs, rfl⟩ := psns_of (rows := r2) (fun x hx => by simp only [okR, okC]; exact h2 x hx); obtain ⟨sp, rfl⟩ := ints_of (rows := r7) (fun x hx => by simp only [okR, okC]; exact h7 x hx); exact lawM ps qs (.rows true) (.rows true) ⟨a3, a4, a5, a6, .tsl true 1 (ints sp), sp⟩ ⟨.rows true, rfl⟩)) W (@fnsOK ⟨fun g => W.heap[g]?⟩ (tabsK_of (tabs_of hL))) base args ds gs before hval hW trivial

theorem mediaMore : Rows.MediaMoreSaid :=
  OpenClaim.holds_of_wide 9 Tryd.f9 rfl rfl rfl rfl rfl rfl rfl ⟨rfl, rfl, rfl, rfl, rfl⟩ rfl rfl rfl rfl rfl (by kernel_rfl) Tryd.func9 (by kernel_rfl)
    (of_decide_eq_true (by kernel_rfl)) (by unfold Func.isWrapper; first | (rw [if_pos (by decide +kernel)]; kernel_rfl) | (rw [if_neg (by decide +kernel)]; exact ⟨rfl, rfl⟩))
    (fun os started H enc _ => mediaMore_lifted os started H enc)

theorem mediaMoreCard : Rows.MediaMoreCardSaid :=
  Claim7.holds_tied_plain_at .later [] [.data, .pinned] true (true, "7ef217f945e689061b8a2809a4772b15a669659c75480144a449ae1b65aa265e") false mediaMore (fun _ h => by cases h) (by kernel_rfl) (fun _ h => by cases h) mediaMore_row_tie rfl ⟨rfl, rfl⟩ (by kernel_rfl) rfl
    (fun f fn hf hfn => by
      obtain rfl : f = 9 := Option.some.inj ((show Tryd.prog.funcNamed "langdoc/langdoclaw10.MediaMore" = some 9 by kernel_rfl).symm.trans hf) |>.symm
      obtain rfl : fn = Tryd.f9 := (Option.some.inj (Tryd.func9.symm.trans hfn)).symm
      exact ⟨by kernel_rfl, fun j t ht => by
        have hp : Tryd.f9.params = #[24, 24, 35] := by kernel_rfl
        rw [hp] at ht
        have hm : t ∈ [24, 24, 35] := by simpa using Array.mem_of_getElem? ht
        have hall : ([24, 24, 35].all fun u => !Tryd.prog.wantsStandIn u) = true := by kernel_rfl
        exact (show Tryd.prog.wantsStandIn t = false by simpa using List.all_eq_true.1 hall t hm)⟩)
    (by kernel_rfl)
#print axioms mediaMoreCard
end Go.Proofs.YtbakigpobbjlhaaDoor
