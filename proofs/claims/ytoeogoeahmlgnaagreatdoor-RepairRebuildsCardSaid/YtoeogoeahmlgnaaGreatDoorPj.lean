/- What runes.Points hands back: the call. -/
import Derived.Test.YtoeogoeahmlgnaaGreatDoorUs
import Derived.Test.YtoeogoeahmlgnaaGreatDoorPi
set_option linter.all false
namespace Go.Eng
variable [Known]
open Go.RowKit Go.Shelf Go.Proofs

attribute [local go_sem] Oper.semAt_some

set_option maxRecDepth 100000 in
set_option maxHeartbeats 1000000 in
omit [Known] in
theorem scalars_in (F : Fence) (n : Nat) (h7 : F.fn 127) (hro : F.round = none) (s : ByteArray) (w : World) :
    CallsIn F n Tryz.prog 127 #[.string s] w fun e W' => e = .returned (.func (.func 129) #[] #[.pointer (some ⟨w.heap.size, 0, none⟩)]) ∧ W' = w.alloc (.cells #[.string s] 9) := by
  refine callsIn_of_wp Tryz.func127 rfl h7 ?_ hro
  simp only [Tryz.ntmps127, List.size_toArray, List.length_cons, List.length_nil, Nat.reduceAdd, Nat.reduceSub, Array.replicate_succ, Array.replicate_zero, List.push_toArray, List.append_toArray, List.nil_append, List.cons_append]
  gi_wp2
  first | go_end0 | go_ret
  exact ⟨rfl, rfl⟩

omit [Known] in
theorem infoI : (Tryz.prog.info? 3).map (fun i => (i.zero, i.size, i.bytes)) = some (some (.int .i64 0), 1, 8) := by kernel_rfl

set_option maxRecDepth 100000 in
set_option maxHeartbeats 4000000 in
omit [Known] in
theorem points_in (s : ByteArray) (hs : s.size ≤ 1073741824) (w : World) (hT : Lib.Utf8Tabs (Tryz.laysValid_ren.g 3) (Tryz.laysValid_ren.g 4) w) :
    CallsIn Fence.wide 8 Tryz.prog 123 #[.string s] w (PtsOut 3 s w) := by
  have cV : CallsIn Fence.wide 7 Tryz.prog 126 #[.string s] w _ := callsIn_wide.2 (Any.utf8_ValidString Tryz.laysValid s w (by omega) hT)
  have hvp := validD_pts s.data.toList.length s.data.toList (Nat.le_refl _)
  generalize Lib.validD s.data.toList = V at cV hvp
  have hh : Hold (V = (pts s.data.toList).isSome) := ⟨hvp⟩
  clear hvp
  refine callsIn_of_wp_marks Tryz.func123 rfl trivial ?_ rfl
  simp only [Tryz.ntmps123, List.size_toArray, List.length_cons, List.length_nil, Nat.reduceAdd, Nat.reduceSub, Array.replicate_succ, Array.replicate_zero, List.push_toArray, List.append_toArray, List.nil_append, List.cons_append]
  cases V with
  | false =>
    gi_wp2
    refine ⟨trivial, cV.mono ?_⟩
    rintro e w1 ⟨rfl, hb⟩
    gi_wp2
    have hn : pts s.data.toList = none := by
      cases hp : pts s.data.toList with
      | none => rfl
      | some l => have := hh.out; rw [hp] at this; cases this
    exact ⟨_, results_tmp2 rfl _ _ _, _, _, rfl, hb, by rw [hn]; exact ⟨rfl, rfl⟩⟩
  | true =>
    gi_wp2
    refine ⟨trivial, cV.mono ?_⟩
    rintro e w1 ⟨rfl, hb⟩
    gi_wp2
    refine ⟨trivial, (scalars_in Fence.wide 7 trivial rfl s _).mono ?_⟩
    rintro e w2 ⟨rfl, rfl⟩
    gi_wp2
    obtain ⟨l, hl⟩ : ∃ l, pts s.data.toList = some l := by
      cases hp : pts s.data.toList with
      | none => have := hh.out; rw [hp] at this; cases this
      | some l => exact ⟨l, rfl⟩
    have hrun : (runesG s s.size 0).map (·.2) = l.map fun n : Nat => ((n : Nat) : Int) := runes_pts s s.size 0 l (by omega) (by rw [List.drop_zero]; exact hl)
    obtain ⟨i0, hi, hz0, hz1, hz2⟩ := info_parts infoI
    have bO : Boxed ((w1.alloc (.cells #[.slice none 0 0] 22)).alloc (.cells #[.string s] 9)) w1.heap.size 22 (.slice none 0 0) := (Boxed.new w1 22 (.slice none 0 0)).alloc _
    have hB0 : Below w1.heap.size w1 ((w1.alloc (.cells #[.slice none 0 0] 22)).alloc (.cells #[.string s] 9)) := ((Below.refl _ w1).alloc (Nat.le_refl _) _).alloc (by simp) _
    have hcS : ((w1.alloc (.cells #[.slice none 0 0] 22)).alloc (.cells #[.string s] 9)).cell? ⟨w1.heap.size + 1, 0, none⟩ = some (.string s) := by simp
    refine wpIn_rangeFunc_ownG rfl (by omega) (gf := 129) (lb := #[.pointer (some ⟨w1.heap.size + 1, 0, none⟩)]) rfl trivial (enters_of Tryz.func129 (by kernel_rfl) rfl)
      (scal_stops Fence.wide 7 trivial rfl (by omega) (w1.heap.size + 1) 0 w1.heap.size s _ (by simp) (by simp; omega) hcS)
      (fun h k => ⟨h.1.trans k.1, h.2.trans k.2⟩) (fun W l o o' hl h hc hw => ⟨belowK_b (by simp; omega) W l o o' hl h hc hw, KeepsWalks.putObj _ h hw⟩) (Below.refl _ _) (fun _ => rfl)
      (fun pre W => (∃ v, Boxed W w1.heap.size 22 v ∧ W.ownsRow w1.heap.size 3 1 v pre.length (pre.map fun x => Value.int .i64 x.2) ∧ (v = .slice none 0 0 ↔ pre = [])) ∧ Below w1.heap.size w1 W)
      (fun _ _ _ => False)
      (OwnFrom.and (Own.from (holdsRow_own w1.heap.size w1.heap.size 22 3 1 (fun pre : List (Int × Int) => pre.length) (fun pre => pre.map fun x => Value.int .i64 x.2) (fun pre v => v = .slice none 0 0 ↔ pre = [])) _) (ownFrom_below (Nat.le_refl _) (by simp; omega)))
      (fun _ _ _ _ _ hs _ _ => hs)
      ⟨⟨_, bO, World.ownsRow_nil _ _ _ _, by simp⟩, hB0⟩
      (fun x => { tmps := #[.string s, undef, .slice none 0 0, .bool false, .pointer (some ⟨w1.heap.size, 0, none⟩), undef, .int .i64 x.2, .string s, .bool true, .bool false, .string s, .func (.func 129) #[] #[.pointer (some ⟨w1.heap.size + 1, 0, none⟩)], .int .i64 x.1, .int .i64 x.2, undef, undef, undef, undef, undef], defers := [] }) ?assign ?body ?done ?stop
    case assign =>
      intro l x W K hK
      gi_wp2
      exact hK
    case body =>
      rintro l pre x W ⟨⟨v, hv, hrow, hnil⟩, hB⟩ hlt
      have hc := hv.cell
      have hml : pre.length + 1 ≤ maxLen := by unfold maxLen; omega
      have hml2 : (pre.length + 1) * 8 ≤ 140737488355328 := by omega
      gi_wp2_with (gi_at_builtin; refine wpListIn_append_own _ rfl _ _ 22 rfl w1.heap.size 3 i0 (.int .i64 0) 1 8 Tryz.underlying22 hi hz0 hz1 hz2 rfl (by decide) _ _ _ rfl (hrow.alloc _) ⟨W.heap.size, 0, none⟩ 1 1 [.int .i64 x.2] rfl rfl (cell_one_new _ _ _) (by simp [Value.oneCell']) (by omega) (by omega) (by have := hB.size; simp; omega) ?_; intro v' w1' hown' hgrow _; obtain ⟨g', cap', rfl⟩ := ownsRow_succ hown'; obtain ⟨hv1, hv2, hr2, hk2, hb2⟩ := hv.appended (by decide) hrow hB.size (Nat.le_refl _) hown' hgrow; have hc1 := hv1.cell; have hf1 := hv1.frozen)
      exact ⟨hk2.from _, ⟨hb2, hk2.walks⟩, ⟨_, hv2, by simpa using hr2, by simp⟩, hB.trans hb2⟩
    case done =>
      rintro D ys W hD rfl ⟨⟨v, hv, hrow, hnil⟩, hB⟩ hK
      have hc := hv.cell
      gi_wp2
      refine ⟨by simp, .inl ⟨_, _, rfl, run_takeDeferred hK, ?_⟩⟩
      refine ⟨_, results_tmp2 rfl _ _ _, v, true, rfl, ?_, ?_⟩
      · exact (hb.trans (hB.mono hb.size)).trans (belowK_b (w := w) (Nat.le_refl _) W D _ _ (by have := hb.size; simp at hD; omega) hK rfl rfl)
      · rw [hl]
        have hlen : (runesG s s.size 0).length = l.length := by have := congrArg List.length hrun; simpa using this
        have hmap : (runesG s s.size 0).map (fun x => Value.int .i64 x.2) = l.map fun n : Nat => Value.int .i64 (n : Int) := by
          have := congrArg (List.map (Value.int .i64)) hrun
          simpa [List.map_map, Function.comp_def] using this
        rw [hlen, hmap] at hrow
        have hrow2 := ownsRow_putObj hrow (.deferred none) hK rfl
        refine ⟨rfl, ⟨hrow2.1, ?_⟩, ?_⟩
        · rcases hrow2.2 with h | ⟨g, cap, cur, h1, h2, h3⟩
          · exact .inl h
          · exact .inr ⟨g, cap, cur, h1, Nat.le_trans hb.size h2, h3⟩
        · rw [hnil, ← List.length_eq_zero_iff, hlen, List.length_eq_zero_iff]
    case stop =>
      rintro D c pre W _ _ h _
      exact h.elim

/-- The tables of the library's decoder stand from the beginning on. -/
def TabsK : Prop := ∀ w : World, (∀ g o, Known.blk g = some o → w.heap[g]? = some o) → Lib.Utf8Tabs (Tryz.laysValid_ren.g 3) (Tryz.laysValid_ren.g 4) w
theorem ptsSound (hT : TabsK) : PrimSound Tryz.prog 123 primPts :=
  primPts_sound (fn := Tryz.f123) (te := 3) Tryz.func123 (by kernel_rfl) (by kernel_rfl) fun s hs w hk => (callsIn_wide (n := 8)).1 (points_in s hs w (hT w hk))
omit [Known] in
theorem tabsK_of {W : World} (h : Lib.Utf8Tabs (Tryz.laysValid_ren.g 3) (Tryz.laysValid_ren.g 4) W) : @TabsK ⟨fun g => W.heap[g]?⟩ := fun w hw => by
  have go : ∀ (g c : Nat) (v : Value), W.cell? ⟨g, c, none⟩ = some v → w.cell? ⟨g, c, none⟩ = some v := fun g c v hc => by
    cases hg : W.heap[g]? with
    | none => simp [World.cell?, hg] at hc
    | some o =>
      rw [← hc]
      exact cell?_of_heap ((hw g o hg).trans hg.symm)
  exact ⟨fun c hc => go _ _ _ (h.1 c hc), fun i hi => ⟨go _ _ _ (h.2 i hi).1, go _ _ _ (h.2 i hi).2⟩⟩
end Go.Eng
