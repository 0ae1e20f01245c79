/- What a callee sees of the caller's values, and what the caller gets back. -/
import Derived.Test.YtoeogoeahmlgnaaGreatDoorEngI
set_option linter.all false
namespace Go.Eng
open Go.RowKit
variable [Known]

section
variable {P : Program} {X : Ctx} (hX : CtxOK P X) {base : Nat} {T B : Area} {I : Inj} {S : Store} {S' : Sig} {w : World}

theorem stabL_cells : ∀ {r : List AV} {g off : Nat}, (∀ g, T g → B g) → stabL r = true → cellsRep w r T B I g off → cellsRep w r T T noInj g off
  | [], _, _, _, _, _ => by simp only [cellsRep]
  | c :: cs, _, _, hTB, hc, h => by
    simp only [stabL, Bool.and_eq_true] at hc
    simp only [cellsRep] at h ⊢
    obtain ⟨⟨u, h1, h2, h3⟩, h4⟩ := h
    exact ⟨⟨u, h1, h2, stab_rep hTB c hc.1 h3⟩, stabL_cells hTB hc.2 h4⟩

omit [Known] in
theorem cleanL_cells : ∀ {r : List AV} {g off : Nat}, cleanL r = true → cellsRep w r T B I g off → cellsRep w r T B noInj g off
  | [], _, _, _, _ => by simp only [cellsRep]
  | c :: cs, _, _, hc, h => by
    simp only [cleanL, Bool.and_eq_true] at hc
    simp only [cellsRep] at h ⊢
    obtain ⟨⟨u, h1, h2, h3⟩, h4⟩ := h
    exact ⟨⟨u, h1, h2, clean_rep c hc.1 h3⟩, cleanL_cells hc.2 h4⟩

theorem stab_rows : ∀ {rs : List (List AV)} {g off sz : Nat}, (∀ g, T g → B g) → rs.all stabL = true → rowsRep w rs T B I g off sz → rowsRep w rs T T noInj g off sz
  | [], _, _, _, _, _, _ => by simp only [rowsRep]
  | r :: rs, _, _, _, hTB, hc, h => by
    simp only [List.all_cons, Bool.and_eq_true] at hc
    simp only [rowsRep] at h ⊢
    exact ⟨h.1, stabL_cells hTB hc.1 h.2.1, stab_rows hTB hc.2 h.2.2⟩

theorem rows_stab {rs : List (List AV)} {g off sz : Nat} {pr : Bool} (hTB : ∀ g, T g → B g) (hp : (pr || rs.all stabL) = true) (h : rowsRep w rs T (if pr then T else B) (if pr then noInj else I) g off sz) : rowsRep w rs T T noInj g off sz := by
  cases pr with
  | true => exact h
  | false => exact stab_rows hTB (by simpa using hp) h

/-! ### Arguments -/
theorem snapC_sound (h : Rel base T B I S' w) (hS : Ext S S') {c : AV} {u : Value} (hu : vrep w c T B I u) : vrep w (snapC S c) T (fun g => g < w.heap.size) noInj u := by
  unfold snapC
  split
  · rename_i hc
    exact vrep_mono _ ⟨fun _ h => h, fun g hg => h.Blt g hg, fun _ _ _ h => h, fun _ _ => rfl⟩ h.TB (clean_rep _ hc hu)
  · split
    · rename_i b e off len sz
      split
      · rename_i rows pr e1
        split
        · rename_i hp
          obtain ⟨ao, cap, rfl, h1, h2, h3, h4⟩ := rowsOf_rep h hS e1 hu
          simp only [vrep]
          refine ⟨ao, cap, rfl, h2, h3, h1, fun hne => ?_⟩
          obtain ⟨g, o, rfl, k1, k2⟩ := h4 hne
          refine ⟨g, o, rfl, ?_, rows_stab h.TB hp k1⟩
          simp only [pick, Bool.false_eq_true, if_false]
          rcases k2 with k2 | ⟨_, _, _, k2, _⟩
          · exact h.Blt g k2
          · exact h.lt k2
        · simp only [vrep]
      · simp only [vrep]
    · simp only [vrep]
theorem snapC_cells (h : Rel base T B I S' w) (hS : Ext S S') : ∀ {r : List AV} {g off : Nat}, cellsRep w r T B I g off → cellsRep w (r.map (snapC S)) T (fun g => g < w.heap.size) noInj g off
  | [], _, _, _ => by simp only [List.map_nil, cellsRep]
  | c :: cs, _, _, hr => by
    simp only [List.map_cons, cellsRep] at hr ⊢
    obtain ⟨⟨u, h1, h2, h3⟩, h4⟩ := hr
    exact ⟨⟨u, h1, h2, snapC_sound h hS h3⟩, snapC_cells h hS h4⟩

mutual
theorem snap_sound (h : Rel base T B I S' w) (hS : Ext S S') : ∀ (v : AV) {v' : AV} {u : Value}, snap S v = some v' → vrep w v T B I u → vrep w v' T (fun g => g < w.heap.size) noInj u
  | .agg cs, v', u, hs, hu => by
    simp only [snap] at hs
    split at hs
    · rename_i l e1
      injection hs with hs; subst hs
      simp only [vrep] at hu ⊢
      obtain ⟨us, h1, h2⟩ := hu
      exact ⟨us, h1, snapL_sound h hS cs e1 h2⟩
    · cases hs
  | .tup cs, v', u, hs, hu => by
    simp only [snap] at hs
    split at hs
    · rename_i l e1
      injection hs with hs; subst hs
      simp only [vrep] at hu ⊢
      obtain ⟨us, h1, h2⟩ := hu
      exact ⟨us, h1, snapL_sound h hS cs e1 h2⟩
    · cases hs
  | .fn f cs, v', u, hs, hu => by
    simp only [snap] at hs
    split at hs
    · rename_i l e1
      injection hs with hs; subst hs
      simp only [vrep] at hu ⊢
      obtain ⟨us, h1, h2⟩ := hu
      exact ⟨us, h1, snapL_sound h hS cs e1 h2⟩
    · cases hs
  | .iface t x, v', u, hs, hu => by
    simp only [snap] at hs
    split at hs
    · rename_i l e1
      injection hs with hs; subst hs
      simp only [vrep] at hu ⊢
      obtain ⟨us, h1, h2⟩ := hu
      exact ⟨us, h1, snap_sound h hS x e1 h2⟩
    · cases hs
  | .sl b e off len sz, v', u, hs, hu => by
    simp only [snap] at hs
    split at hs
    · rename_i rows pr e1
      split at hs
      · rename_i hp
        injection hs with hs; subst hs
        obtain ⟨ao, cap, rfl, h1, h2, h3, h4⟩ := rowsOf_rep h hS e1 hu
        simp only [vrep]
        refine ⟨ao, cap, rfl, h2, h3, h1, fun hne => ?_⟩
        obtain ⟨g, o, rfl, k1, k2⟩ := h4 hne
        refine ⟨g, o, rfl, ?_, rows_stab h.TB hp k1⟩
        simp only [pick, Bool.false_eq_true, if_false]
        rcases k2 with k2 | ⟨_, _, _, k2, _⟩
        · exact h.Blt g k2
        · exact h.lt k2
      · cases hs
    · cases hs
  | .ptr b e sz row off, v', u, hs, hu => by
    simp only [snap] at hs
    split at hs
    · rename_i r e1
      split at hs
      · rename_i hp
        injection hs with hs; subst hs
        simp only [vrep] at hu ⊢
        obtain ⟨g, gs, hi, rfl⟩ := hu
        obtain ⟨c1, c2⟩ := rowOf_rep h hS e1 hi
        refine ⟨g, row * sz, rfl, by simp only [pick, Bool.false_eq_true, if_false]; exact h.lt hi, ?_⟩
        exact cellsRep_mono _ ⟨fun _ h => h, fun g hg => by simp only [pick, Bool.false_eq_true, if_false]; exact h.Blt g hg, fun _ _ _ h => h, fun _ _ => rfl⟩ h.TB (fun _ => rfl) (cleanL_cells hp c1)
      · injection hs with hs; subst hs
        simp only [vrep] at hu ⊢
        obtain ⟨g, gs, hi, rfl⟩ := hu
        obtain ⟨c1, c2⟩ := rowOf_rep h hS e1 hi
        have hpk : pick false T (fun g => g < w.heap.size) = fun g => g < w.heap.size := by funext g; simp [pick]
        refine ⟨g, row * sz, rfl, by simp only [pick, Bool.false_eq_true, if_false]; exact h.lt hi, ?_⟩
        rw [hpk]
        exact snapC_cells h hS c1
    · cases hs
  | .osl .., _, _, hs, _ => by simp [snap] at hs
  | .mp .., _, _, hs, _ => by simp [snap] at hs
  | .junk, v', u, hs, hu => by
    simp only [snap] at hs; injection hs with hs; subst hs; simp only [vrep]
  | .int .., v', u, hs, hu => by
    simp only [snap] at hs; injection hs with hs; subst hs; exact hu
  | .bool .., v', u, hs, hu => by
    simp only [snap] at hs; injection hs with hs; subst hs; exact hu
  | .str .., v', u, hs, hu => by
    simp only [snap] at hs; injection hs with hs; subst hs; exact hu
  | .flat .., v', u, hs, hu => by
    simp only [snap] at hs; injection hs with hs; subst hs; exact hu
  | .esl, v', u, hs, hu => by
    simp only [snap] at hs; injection hs with hs; subst hs; simp only [vrep] at hu ⊢; exact hu
  | .tsl .., v', u, hs, hu => by
    simp only [snap] at hs; injection hs with hs; subst hs
    exact vrep_mono _ ⟨fun _ h => h, fun g hg => h.Blt g hg, fun _ _ _ h => h, fun _ _ => rfl⟩ h.TB (clean_rep _ rfl hu)
  | .tptr .., v', u, hs, hu => by
    simp only [snap] at hs; injection hs with hs; subst hs
    exact vrep_mono _ ⟨fun _ h => h, fun g hg => h.Blt g hg, fun _ _ _ h => h, fun _ _ => rfl⟩ h.TB (clean_rep _ rfl hu)
theorem snapL_sound (h : Rel base T B I S' w) (hS : Ext S S') : ∀ (cs : List AV) {cs' : List AV} {us : List Value}, snapL S cs = some cs' → listRep w cs T B I us → listRep w cs' T (fun g => g < w.heap.size) noInj us
  | [], cs', us, hs, hu => by
    simp only [snapL] at hs; injection hs with hs; subst hs
    simp only [listRep] at hu ⊢; exact hu
  | c :: cs, cs', us, hs, hu => by
    simp only [snapL] at hs
    split at hs
    · rename_i c' e1
      split at hs
      · rename_i cs'' e2
        injection hs with hs; subst hs
        simp only [listRep] at hu ⊢
        obtain ⟨u, us', h1, h2, h3⟩ := hu
        exact ⟨u, us', h1, snap_sound h hS c e1 h2, snapL_sound h hS cs e2 h3⟩
      · cases hs
    · cases hs
end

/-! ### Results -/
def orep (w : World) (T : Area) (b1 : Nat) : AV → Value → List Nat → Prop
  | .osl sz rows, u, O => (rows = [] ∧ (∃ ao, u = .slice ao 0 0) ∧ O = []) ∨
      ∃ g c ty cap, O = [g] ∧ u = .slice (some ⟨g, 0, none⟩) rows.length cap ∧ rows.length ≤ cap ∧ cap ≤ maxLen ∧ b1 ≤ g ∧ ¬ T g ∧ w.heap[g]? = some (.cells c ty (0, 0)) ∧ cap * sz ≤ c.size ∧ rowsRep w rows T T noInj g 0 sz
  | v, u, O => O = [] ∧ vrep w v T T noInj u

def orepL (w : World) (T : Area) (b1 : Nat) : List AV → List Value → List Nat → Prop
  | [], us, O => us = [] ∧ O = []
  | c :: cs, us, O => ∃ u us' O1 O2, us = u :: us' ∧ O = O1 ++ O2 ∧ orep w T b1 c u O1 ∧ orepL w T b1 cs us' O2

def outRep (w : World) (T : Area) (b1 : Nat) (v : AV) (u : Value) : Prop :=
  match v with
  | .tup cs => ∃ us O, u = .tuple us.toArray ∧ orepL w T b1 cs us O ∧ O.Nodup
  | v => ∃ O, orep w T b1 v u O

/-- The stable area once the blocks of the list 'F' are stable too. -/
def lent (T : Area) (I : Inj) (F : List Nat) : Area := fun g => T g ∨ ∃ b e gs, I b e = some (g, gs) ∧ b ∈ F

theorem expCell_sound (h : Rel base T B I (sig S) w) {F : List Nat} {v v' : AV} {u : Value} (hv : vrep w v T B I u) (he : expCell S v = some v') (hF : ∀ b e off len sz, v = .sl b e off len sz → b ∈ F) : vrep w v' (lent T I F) (lent T I F) noInj u := by
  have up : ∀ {x u}, vrep w x T T noInj u → vrep w x (lent T I F) (lent T I F) noInj u := fun {x u} hx =>
    vrep_mono x ⟨fun _ h => .inl h, fun _ h => .inl h, fun _ _ _ h => h, fun _ _ => rfl⟩ (fun _ h => h) hx
  unfold expCell at he
  split at he
  · rename_i b e off len sz
    split at he
    · rename_i rows pr e1
      split at he
      · rename_i hp
        injection he with he; subst he
        obtain ⟨ao, cap, rfl, h1, h2, h3, h4⟩ := rowsOf_rep h (fun b blk hb => Holds.of hb) e1 hv
        simp only [vrep]
        refine ⟨ao, cap, rfl, h2, h3, h1, fun hne => ?_⟩
        obtain ⟨g, o, rfl, k1, k2⟩ := h4 hne
        have hrows := rows_stab h.TB hp k1
        refine ⟨g, o, rfl, ?_, rowsRep_mono _ ⟨fun _ h => .inl h, fun _ h => .inl h, fun _ _ _ h => h, fun _ _ => rfl⟩ (fun _ h => h) (fun _ => rfl) hrows⟩
        simp only [pick, if_true]
        -- where it lies
        simp only [vrep] at hv
        rcases hv with ⟨_, _, _, ao', hq⟩ | ⟨g', gs, cap', hi, hq, _⟩
        · injection hq with _ hq _
          exact absurd (List.eq_nil_of_length_eq_zero hq) hne
        · injection hq with hq _ _; injection hq with hq; injection hq with hq _; subst hq
          exact .inr ⟨b, e, gs, hi, hF _ _ _ _ _ rfl⟩
      · cases he
    · cases he
  · split at he
    · rename_i hs
      injection he with he; subst he
      exact up (stab_rep h.TB _ hs hv)
    · cases he

theorem expCells_sound (h : Rel base T B I (sig S) w) {F : List Nat} : ∀ {cs cs' : List AV} {us : List Value}, listRep w cs T B I us → expCells S cs = some cs' → (∀ b ∈ cellIds cs, b ∈ F) → listRep w cs' (lent T I F) (lent T I F) noInj us
  | [], cs', us, hv, he, _ => by
    simp only [expCells] at he; injection he with he; subst he
    simp only [listRep] at hv ⊢; exact hv
  | c :: cs, cs', us, hv, he, hF => by
    simp only [expCells] at he
    split at he
    · rename_i c' e1
      split at he
      · rename_i cs'' e2
        injection he with he; subst he
        simp only [listRep] at hv ⊢
        obtain ⟨u, us', h1, h2, h3⟩ := hv
        refine ⟨u, us', h1, expCell_sound h h2 e1 (fun b e off len sz hc => hF b (by subst hc; simp [cellIds])), expCells_sound h h3 e2 (fun b hb => hF b ?_)⟩
        cases c <;> simp only [cellIds] <;> first | exact hb | exact List.mem_cons_of_mem _ hb
      · cases he
    · cases he

/-- One component. 'O': the blocks handed over. -/
theorem expTop_sound (h : Rel base T B I (sig S) w) {F : List Nat} {v v' : AV} {u : Value} (hv : vrep w v T B I u) (he : expTop S v = some v') (hF : ∀ b ∈ lentIds [v], b ∈ F) (hO : ∀ b ∈ ownIds [v], b ∉ F) :
    ∃ O, orep w (lent T I F) base v' u O ∧ (∀ g ∈ O, ∃ b e gs, I b e = some (g, gs) ∧ b ∈ ownIds [v]) ∧ O.Nodup := by
  have triv : ∀ {x : AV}, (∀ sz rows, x ≠ .osl sz rows) → vrep w x (lent T I F) (lent T I F) noInj u → ∃ O, orep w (lent T I F) base x u O ∧ (∀ g ∈ O, ∃ b e gs, I b e = some (g, gs) ∧ b ∈ ownIds [v]) ∧ O.Nodup := fun {x} hx hr => by
    refine ⟨[], ?_, by simp, by simp⟩
    cases x <;> first | exact ⟨rfl, hr⟩ | exact absurd rfl (hx _ _)
  unfold expTop at he
  split at he
  · rename_i b e off len sz
    split at he
    · rename_i hc
      obtain ⟨rfl, rfl⟩ := hc
      split at he
      · rename_i rows sz' wep pr e1
        split at he
        · rename_i hc
          obtain ⟨rfl, c2, c3, c4⟩ := hc
          injection he with he; subst he
          simp only [vrep] at hv
          rcases hv with ⟨h0, _, _, ao, rfl⟩ | ⟨g, gs, cap, hi, rfl, d1, d2, d3⟩
          · exact ⟨[], .inl ⟨List.eq_nil_of_length_eq_zero (by omega), ⟨ao, rfl⟩, rfl⟩, by simp, by simp⟩
          · obtain ⟨o1, o2, c, ty, o3, o4⟩ := h.ownA hi (show sig S b = _ from e1)
            obtain ⟨q2, q3, q4⟩ := h.blkA hi (show sig S b = _ from e1)
            have hk := q4 c3
            rw [← c2, List.take_length] at hk
            have hmem : b ∈ ownIds [AV.sl b len 0 len sz'] := by simp [ownIds]
            refine ⟨[g], .inr ⟨g, c, ty, cap, rfl, by rw [c2]; simp, by omega, d2, o1, ?_, o3, by rw [o4]; simpa using d3, ?_⟩, ?_, by simp⟩
            · rintro (hT | ⟨b', e', gs', hi', hb'⟩)
              · exact o2 (h.TB g hT)
              · have := h.excl _ _ _ _ _ _ _ hi' hi
                subst this
                exact hO _ hmem hb'
            · exact rowsRep_mono _ ⟨fun _ h => .inl h, fun _ h => .inl h, fun _ _ _ h => h, fun _ _ => rfl⟩ (fun _ h => h) (fun _ => rfl) (rows_stab h.TB c4 hk)
            · intro g' hg'
              simp at hg'; subst hg'
              exact ⟨b, _, gs, hi, hmem⟩
        · cases he
      · cases he
    · rename_i hc
      have hr := expCell_sound h (F := F) hv he (fun b' e' off' len' sz' heq => by
        injection heq with q1 q2 q3 q4 q5; subst q1 q2 q3 q4 q5
        exact hF b (by simp [lentIds, hc]))
      refine triv (fun sz' rows' h0 => ?_) hr
      subst h0
      simp only [vrep] at hr
  · rename_i cs
    split at he
    · rename_i cs' e1
      injection he with he; subst he
      simp only [vrep] at hv
      obtain ⟨us, rfl, hv⟩ := hv
      refine triv (by simp) ?_
      simp only [vrep]
      exact ⟨us, rfl, expCells_sound h hv e1 (fun b hb => hF b (by simp [lentIds, hb]))⟩
    · cases he
  · split at he
    · rename_i hs
      injection he with he; subst he
      refine triv (fun sz' rows' h0 => by subst h0; simp [AV.stab] at hs) ?_
      exact vrep_mono _ ⟨fun _ h => .inl h, fun _ h => .inl h, fun _ _ _ h => h, fun _ _ => rfl⟩ (fun _ h => h) (stab_rep h.TB _ hs hv)
    · cases he

omit [Known] in
theorem lentIds_cons {c : AV} {cs : List AV} {b : Nat} : b ∈ lentIds (c :: cs) ↔ b ∈ lentIds [c] ∨ b ∈ lentIds cs := by
  cases c <;> simp [lentIds]
  rename_i b' e off len sz
  by_cases h : off = 0 ∧ len = e
  · simp [h]
  · have h' : off = 0 → ¬ len = e := fun a b => h ⟨a, b⟩
    rw [if_neg h]
    simp only [lentIds, List.mem_cons]
    exact ⟨fun x => x.imp (fun y => ⟨h', y⟩) (fun y => y), fun x => x.imp (fun y => y.2) (fun y => y)⟩

omit [Known] in
theorem ownIds_cons {c : AV} {cs : List AV} : ownIds (c :: cs) = ownIds [c] ++ ownIds cs := by
  cases c <;> simp only [ownIds, List.nil_append]
  rename_i b' e off len sz
  by_cases h : off = 0 ∧ len = e
  · simp [h]
  · simp only [h, if_false, List.nil_append]

theorem expTops_sound (h : Rel base T B I (sig S) w) {F : List Nat} : ∀ {cs cs' : List AV} {us : List Value}, listRep w cs T B I us → expTops S cs = some cs' → (∀ b ∈ lentIds cs, b ∈ F) → (∀ b ∈ ownIds cs, b ∉ F) → (ownIds cs).Nodup →
    ∃ O, orepL w (lent T I F) base cs' us O ∧ (∀ g ∈ O, ∃ b e gs, I b e = some (g, gs) ∧ b ∈ ownIds cs) ∧ O.Nodup
  | [], cs', us, hv, he, _, _, _ => by
    simp only [expTops] at he; injection he with he; subst he
    simp only [listRep] at hv
    exact ⟨[], ⟨hv, rfl⟩, by simp, by simp⟩
  | c :: cs, cs', us, hv, he, hF, hO, hN => by
    simp only [expTops] at he
    split at he
    · rename_i c' e1
      split at he
      · rename_i cs'' e2
        injection he with he; subst he
        simp only [listRep] at hv
        obtain ⟨u, us', h1, h2, h3⟩ := hv
        rw [ownIds_cons, List.nodup_append] at hN
        obtain ⟨O1, a1, a2, a3⟩ := expTop_sound h h2 e1 (fun b hb => hF b (lentIds_cons.2 (.inl hb))) (fun b hb => hO b (by rw [ownIds_cons]; simp [hb]))
        obtain ⟨O2, b1, b2, b3⟩ := expTops_sound h h3 e2 (fun b hb => hF b (lentIds_cons.2 (.inr hb))) (fun b hb => hO b (by rw [ownIds_cons]; simp [hb])) hN.2.1
        refine ⟨O1 ++ O2, ⟨u, us', O1, O2, h1, rfl, a1, b1⟩, fun g hg => ?_, ?_⟩
        · rw [ownIds_cons]
          rcases List.mem_append.1 hg with hg | hg
          · obtain ⟨b, e, gs, x1, x2⟩ := a2 g hg
            exact ⟨b, e, gs, x1, by simp [x2]⟩
          · obtain ⟨b, e, gs, x1, x2⟩ := b2 g hg
            exact ⟨b, e, gs, x1, by simp [x2]⟩
        · rw [List.nodup_append]
          refine ⟨a3, b3, fun g hg g' hg' heq => ?_⟩
          subst heq
          obtain ⟨b, e, gs, x1, x2⟩ := a2 g hg
          obtain ⟨b', e', gs', x1', x2'⟩ := b2 g hg'
          have := h.excl _ _ _ _ _ _ _ x1 x1'
          subst this
          exact hN.2.2 b x2 b x2' rfl
      · cases he
    · cases he

omit [Known] in
theorem idsOK_spec {cs : List AV} (h : idsOK cs = true) : (ownIds cs).Nodup ∧ ∀ b ∈ ownIds cs, b ∉ lentIds cs := by
  unfold idsOK at h
  split at h
  · rename_i e; rw [e]; simp
  · rename_i e
    simp only [Bool.and_eq_true, decide_eq_true_eq] at h
    refine ⟨h.1, fun b hb => ?_⟩
    have := List.all_eq_true.1 h.2 b hb
    simpa using this

omit [Known] in
theorem expCell_tup {v : AV} {cs : List AV} (he : expCell S v = some (.tup cs)) : v = .tup cs := by
  unfold expCell at he
  split at he
  · split at he
    · split at he
      · injection he with he; cases he
      · cases he
    · cases he
  · split at he
    · injection he with he
    · cases he

omit [Known] in
theorem expTop_tup {v : AV} {cs : List AV} (he : expTop S v = some (.tup cs)) : v = .tup cs := by
  unfold expTop at he
  split at he
  · split at he
    · split at he
      · split at he
        · injection he with he; cases he
        · cases he
      · cases he
    · exact expCell_tup he
  · split at he
    · injection he with he; cases he
    · cases he
  · split at he
    · injection he with he
    · cases he

theorem exportA_sound (h : Rel base T B I (sig S) w) {v v' : AV} {u : Value} (hv : vrep w v T B I u) (he : exportA S v = some v') : ∃ F, outRep w (lent T I F) base v' u := by
  unfold exportA at he
  split at he
  · rename_i cs
    split at he
    · rename_i hid
      obtain ⟨q1, q2⟩ := idsOK_spec hid
      split at he
      · rename_i l e1
        injection he with he; subst he
        simp only [vrep] at hv
        obtain ⟨us, rfl, hv⟩ := hv
        obtain ⟨O, o1, o2, o3⟩ := expTops_sound h (F := lentIds cs) hv e1 (fun b hb => hb) q2 q1
        exact ⟨lentIds cs, us, O, rfl, o1, o3⟩
      · cases he
    · cases he
  · rename_i hno
    split at he
    · rename_i hid
      obtain ⟨q1, q2⟩ := idsOK_spec hid
      obtain ⟨O, o1, o2, o3⟩ := expTop_sound h (F := lentIds [v]) hv he (fun b hb => hb) q2
      refine ⟨lentIds [v], ?_⟩
      unfold outRep
      split
      · exact absurd (expTop_tup he) (hno _)
      · exact ⟨O, o1⟩
    · cases he

def outRepN (w : World) (T : Area) (b1 : Nat) (v : AV) (u : Value) : Prop :=
  match v with
  | .agg cs => ∃ us O, u = .agg us.toArray ∧ orepL w T b1 cs us O ∧ O.Nodup
  | _ => False

theorem exportN_sound (h : Rel base T B I (sig S) w) {v v' : AV} {u : Value} (hv : vrep w v T B I u) (he : exportN S v = some v') : ∃ F, outRepN w (lent T I F) base v' u := by
  unfold exportN at he
  split at he
  · rename_i cs
    split at he
    · rename_i hid
      obtain ⟨q1, q2⟩ := idsOK_spec hid
      split at he
      · rename_i l e1
        injection he with he; subst he
        simp only [vrep] at hv
        obtain ⟨us, rfl, hv⟩ := hv
        obtain ⟨O, o1, o2, o3⟩ := expTops_sound h (F := lentIds cs) hv e1 (fun b hb => hb) q2 q1
        exact ⟨lentIds cs, us, O, rfl, o1, o3⟩
      · cases he
    · cases he
  · cases he
end
end Go.Eng
