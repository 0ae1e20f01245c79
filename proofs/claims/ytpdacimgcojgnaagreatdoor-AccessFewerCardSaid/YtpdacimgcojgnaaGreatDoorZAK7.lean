/- AccessFewer returns true whatever its arguments, and leaves them as they were. Conditions: none. -/
import Derived.Test.YtpdacimgcojgnaaGreatDoorZ8
import Derived.Test.YtpdacimgcojgnaaGreatDoorTie
import Derived.Test.YtpdacimgcojgnaaGreatDoorCards
import Derived.SevenTiedAt
set_option linter.all false
namespace Go.Proofs.YtpdacimgcojgnaaGreatDoor
open Go.ChangeShapes Go.WideShapes Go.ChangeAt Go.RowKit Go.Eng

set_option maxRecDepth 100000 in
theorem accessFewer_lifted (os : Os) (started : os.Started) (H : Type) (enc : TypeId × Value → H) :
    ReturnsInHanded {} Tryz.checked os 9 .any (fun w args => (Rows.accessFewerSpec.pre enc Tryz.prog Tryz.f9 Rows.accessFewerRow.domain false w args ∧ laidMetH Tryz.prog Rows.accessFewerRow.laid w) ∧ sizedMet enc Tryz.prog Tryz.f9 (OpenSpec.ofChange Rows.accessFewerSpec) false w args) (Rows.accessFewerSpec.post enc Tryz.prog Tryz.f9 false true false false) := by
  refine returnsInHanded_of_change_and (C := Tryz.checked) (X := fun w _ => laidMetH Tryz.prog Rows.accessChecksRow.laid w) (fun _ _ _ hh h => h.of_heap hh) own started (by kernel_rfl) Tryz.func9
    (ChangeSpec.witness_shaped (enc := enc) (C := Tryz.checked) (os := os) (X := fun w _ => laidMetH Tryz.prog Rows.accessChecksRow.laid w) false (World.laidAll Tryz.prog os Rows.accessChecksRow.laid) #[.agg #[.slice none 0 0, .slice none 0 0, .slice none 0 0, .slice none 0 0, .int .i64 0, .string .empty, .int .i64 0, .int .i64 0, .slice none 0 0, .int .i64 0, .int .i64 0], .agg #[.int .i64 0, .int .i64 0, .int .i64 0, .int .i64 0, .slice none 0 0, .int .i64 0], .int .u8 0] 8 (World.laidAll_os _ _ _)
      (World.shaped_of_ZipB (by kernel_rfl) (by kernel_rfl)) (by kernel_rfl) (by kernel_rfl) (by kernel_rfl) (laid_witness os _)) ?_
  intro W base args ds gs before hval hW _ _ hL _
  exact law_contractW (fn := Tryz.f9) ctxOK laidOut bulkOK (k := 8) (τs := [(true, caseS), (true, [.int .i64, .int .i64, .int .i64, .int .i64, .sl [.int .i64], .int .i64]), (false, [.int .u8])]) (by kernel_rfl) (by kernel_rfl) rfl (by kernel_rfl) rfl
    (fun ds h => by match ds, h with | [_, _, _], _ => rfl) (Bd := fun _ => True) (fun l m hok _ _ => by
      simp only [okArgs, okArg] at hok
      obtain ⟨_, _, rfl, ⟨_, rfl, hrow⟩, _, _, rfl, ⟨_, rfl, h2⟩, _, _, rfl, h3, rfl⟩ := hok
      obtain ⟨ps, gs, cs, rs, r, pe, day, rfl, h, hr, _, _⟩ := case45 hrow
      obtain ⟨x, rfl, hx⟩ := rule45 h2
      simp only [okC] at h3
      obtain ⟨a, rfl, wa⟩ := h3
      have w0 : 0 ≤ a := by simp [Lit.wf, IntKind.min, IntKind.signed] at wa; omega
      have w1 : a ≤ 255 := by simp [Lit.wf, IntKind.max, IntKind.signed, IntKind.bits] at wa; omega
      exact lawFewer45 h r hr pe day x hx w0 w1) W (@fnsOK ⟨fun g => W.heap[g]?⟩ (tabsK_of (tabs_of hL))) base args ds gs before hval hW trivial

theorem accessFewer : Rows.AccessFewerSaid :=
  OpenClaim.holds_of_wide 9 Tryz.f9 rfl rfl rfl rfl rfl rfl rfl ⟨rfl, rfl, rfl, rfl, rfl⟩ rfl rfl rfl rfl rfl (by kernel_rfl) Tryz.func9 (by kernel_rfl)
    (of_decide_eq_true (by kernel_rfl)) (by unfold Func.isWrapper; first | (rw [if_pos (by decide +kernel)]; kernel_rfl) | (rw [if_neg (by decide +kernel)]; exact ⟨rfl, rfl⟩))
    (fun os started H enc _ => accessFewer_lifted os started H enc)

theorem accessFewerCard : Rows.AccessFewerCardSaid :=
  Claim7.holds_tied_plain_at .later [] [.data, .pinned] true (true, "ed19f4bff08b33da3cbb1ea805156aeee16997c440407753503e826ba76768da") false accessFewer (fun _ h => by cases h) (by kernel_rfl) (fun _ h => by cases h) accessFewer_row_tie rfl ⟨rfl, rfl⟩ (by kernel_rfl) rfl
    (fun f fn hf hfn => by
      obtain rfl : f = 9 := Option.some.inj ((show Tryz.prog.funcNamed "langdoc/langdoclaw45.AccessFewer" = some 9 by kernel_rfl).symm.trans hf) |>.symm
      obtain rfl : fn = Tryz.f9 := (Option.some.inj (Tryz.func9.symm.trans hfn)).symm
      exact ⟨by kernel_rfl, fun j t ht => by
        have hp : Tryz.f9.params = #[40, 58, 5] := by kernel_rfl
        rw [hp] at ht
        have hm : t ∈ [40, 58, 5] := by simpa using Array.mem_of_getElem? ht
        have hall : ([40, 58, 5].all fun u => !Tryz.prog.wantsStandIn u) = true := by kernel_rfl
        exact (show Tryz.prog.wantsStandIn t = false by simpa using List.all_eq_true.1 hall t hm)⟩)
    (by kernel_rfl)
#print axioms accessFewerCard
end Go.Proofs.YtpdacimgcojgnaaGreatDoor
