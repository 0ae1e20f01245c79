/- MediaPrefix returns true whatever its arguments, and leaves them as they were. Conditions: none. -/
import Derived.Test.YtbakigpobbjlhaaDoorZ6
import Derived.Test.YtbakigpobbjlhaaDoorTie
import Derived.Test.YtbakigpobbjlhaaDoorCards
import Derived.SevenTiedAt
set_option linter.all false
namespace Go.Proofs.YtbakigpobbjlhaaDoor
open Go.ChangeShapes Go.WideShapes Go.ChangeAt Go.RowKit Go.Eng

set_option maxRecDepth 100000 in
theorem mediaPrefix_lifted (os : Os) (started : os.Started) (H : Type) (enc : TypeId × Value → H) :
    ReturnsInHanded {} Tryd.checked os 8 .any (fun w args => (Rows.mediaPrefixSpec.pre enc Tryd.prog Tryd.f8 Rows.mediaPrefixRow.domain false w args ∧ laidMetH Tryd.prog Rows.mediaPrefixRow.laid w) ∧ sizedMet enc Tryd.prog Tryd.f8 (OpenSpec.ofChange Rows.mediaPrefixSpec) false w args) (Rows.mediaPrefixSpec.post enc Tryd.prog Tryd.f8 false true false false) := by
  refine returnsInHanded_of_change_and (C := Tryd.checked) (X := fun w _ => laidMetH Tryd.prog Rows.mediaNamesRow.laid w) (fun _ _ _ hh h => h.of_heap hh) own started (by kernel_rfl) Tryd.func8
    (ChangeSpec.witness_shaped (enc := enc) (C := Tryd.checked) (os := os) (X := fun w _ => laidMetH Tryd.prog Rows.mediaNamesRow.laid w) false (World.laidAll Tryd.prog os Rows.mediaNamesRow.laid) #[.slice none 0 0, .slice none 0 0, .int .u8 0] 8 (World.laidAll_os _ _ _)
      (World.shaped_of_ZipB (by kernel_rfl) (by kernel_rfl)) (by kernel_rfl) (by kernel_rfl) (by kernel_rfl) (laid_witness os _)) ?_
  intro W base args ds gs before hval hW _ _ hL _
  exact law_contractW (fn := Tryd.f8) ctxOK laidOut bulkOK (k := 8) (τs := [(false, [.sl [.int .i64, .str, .bool]]), (false, [.sl [.int .i64, .str, .int .i64, .int .i64, .sl [.int .i64]]]), (false, [.int .u8])]) (by kernel_rfl) (by kernel_rfl) rfl (by kernel_rfl) rfl
    (fun ds h => by match ds, h with | [_, _, _], _ => rfl) (Bd := fun _ => True) (fun l m hok _ _ => by
      simp only [okArgs, okArg, okR, okC] at hok
      obtain ⟨_, _, rfl, ⟨r1, rfl, l1, h1⟩, ⟨_, _, rfl, ⟨r2, rfl, l2, h2⟩, ⟨_, _, rfl, ⟨a3, rfl, w3⟩, rfl⟩⟩⟩ := hok
      exact (by obtain ⟨ps, rfl⟩ := psns_of (rows := r1) (fun x hx => by simp only [okR, okC]; exact h1 x hx); obtain ⟨rs, rfl, hok⟩ := recs_of (rows := r2) (fun x hx => by simp only [okR, okC]; exact h2 x hx); obtain ⟨n, hn, rfl⟩ := byte_of w3; exact lawX ps (.rows true) rs hok true n hn)) W (@fnsOK ⟨fun g => W.heap[g]?⟩ (tabsK_of (tabs_of hL))) base args ds gs before hval hW trivial

theorem mediaPrefix : Rows.MediaPrefixSaid :=
  OpenClaim.holds_of_wide 8 Tryd.f8 rfl rfl rfl rfl rfl rfl rfl ⟨rfl, rfl, rfl, rfl, rfl⟩ rfl rfl rfl rfl rfl (by kernel_rfl) Tryd.func8 (by kernel_rfl)
    (of_decide_eq_true (by kernel_rfl)) (by unfold Func.isWrapper; first | (rw [if_pos (by decide +kernel)]; kernel_rfl) | (rw [if_neg (by decide +kernel)]; exact ⟨rfl, rfl⟩))
    (fun os started H enc _ => mediaPrefix_lifted os started H enc)

theorem mediaPrefixCard : Rows.MediaPrefixCardSaid :=
  Claim7.holds_tied_plain_at .later [] [.data, .pinned] true (true, "7ef217f945e689061b8a2809a4772b15a669659c75480144a449ae1b65aa265e") false mediaPrefix (fun _ h => by cases h) (by kernel_rfl) (fun _ h => by cases h) mediaPrefix_row_tie rfl ⟨rfl, rfl⟩ (by kernel_rfl) rfl
    (fun f fn hf hfn => by
      obtain rfl : f = 8 := Option.some.inj ((show Tryd.prog.funcNamed "langdoc/langdoclaw10.MediaPrefix" = some 8 by kernel_rfl).symm.trans hf) |>.symm
      obtain rfl : fn = Tryd.f8 := (Option.some.inj (Tryd.func8.symm.trans hfn)).symm
      exact ⟨by kernel_rfl, fun j t ht => by
        have hp : Tryd.f8.params = #[24, 37, 5] := by kernel_rfl
        rw [hp] at ht
        have hm : t ∈ [24, 37, 5] := by simpa using Array.mem_of_getElem? ht
        have hall : ([24, 37, 5].all fun u => !Tryd.prog.wantsStandIn u) = true := by kernel_rfl
        exact (show Tryd.prog.wantsStandIn t = false by simpa using List.all_eq_true.1 hall t hm)⟩)
    (by kernel_rfl)
#print axioms mediaPrefixCard
end Go.Proofs.YtbakigpobbjlhaaDoor
