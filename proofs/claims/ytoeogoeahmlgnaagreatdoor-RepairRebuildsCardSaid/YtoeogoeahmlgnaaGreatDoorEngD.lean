/- The rest of the operations that only compute. -/
import Derived.Test.YtoeogoeahmlgnaaGreatDoorEngC
set_option linter.all false
namespace Go.Eng
open Go.RowKit
variable [Known]

section
variable {P : Program} {X : Ctx} (hX : CtxOK P X) {w : World} {T B : Area} {I : Inj}

theorem foldl_patch (off : Nat) : ∀ (l : List Value) (k : Nat) (cs : Array Value), off + k + l.length ≤ cs.size →
    (l.zipIdx k).foldl (fun cs (p : Value × Nat) => cs.setIfInBounds (off + p.2) p.1) cs = (cs.toList.take (off + k) ++ l ++ cs.toList.drop (off + k + l.length)).toArray
  | [], k, cs, _ => by simp
  | v :: l, k, cs, h => by
    simp only [List.length_cons] at h
    rw [List.zipIdx_cons, List.foldl_cons, foldl_patch off l (k + 1) _ (by simp; omega)]
    congr 1
    simp only [Array.toList_setIfInBounds, List.length_cons]
    have hl : off + k < cs.toList.length := by simp; omega
    rw [show off + (k + 1) = off + k + 1 by omega, List.take_set, List.drop_set, if_pos (by omega), List.take_succ_eq_append_getElem hl, List.set_append, if_neg (by simp; omega)]
    rw [show off + k + (l.length + 1) = off + k + 1 + l.length by omega]
    simp [show min (off + k) cs.size = off + k by simp at hl; omega]

theorem foldl_patch' (off : Nat) (vs cs : Array Value) (h : off + vs.size ≤ cs.size) :
    vs.zipIdx.foldl (fun cs (c, j) => cs.setIfInBounds (off + j) c) cs = (cs.toList.take off ++ vs.toList ++ cs.toList.drop (off + vs.size)).toArray := by
  rw [← Array.foldl_toList, Array.toList_zipIdx]
  have := foldl_patch off vs.toList 0 cs (by simpa using h)
  simpa using this

/-- Parts with their places, in both spellings. -/
def partsRep (w : World) (T B : Area) (I : Inj) : List (Nat × AV) → List (Nat × Value) → Prop
  | [], qs => qs = []
  | p :: ps, qs => ∃ u qs', qs = (p.1, u) :: qs' ∧ vrep w p.2 T B I u ∧ partsRep w T B I ps qs'

theorem fillA_rep {fs : List (Nat × TypeId)} {pl : Nat → Option (Nat × Nat)} (hpl : ∀ i off t ti, fs[i]? = some (off, t) → X.ty t = some ti → pl i = some (off, ti.size)) :
    ∀ {parts : List (Nat × AV)} {qs : List (Nat × Value)} {cells out : List AV} {us : List Value}, fillA X fs cells parts = some out → listRep w cells T B I us → partsRep w T B I parts qs →
      ∃ us', Instr.fill pl us.toArray qs = some us' ∧ listRep w out T B I us'.toList
  | [], qs, cells, out, us, h, h1, h2 => by
    simp only [partsRep] at h2; subst h2
    simp only [fillA] at h
    injection h with h; subst h
    exact ⟨_, rfl, by simpa using h1⟩
  | (i, v) :: rest, qs, cells, out, us, h, h1, h2 => by
    simp only [partsRep] at h2
    obtain ⟨u, qs', rfl, hu, hqs⟩ := h2
    simp only [fillA] at h
    split at h
    · cases h
    · rename_i off t e1
      split at h
      · cases h
      · rename_i ti e2
        split at h
        · rename_i hc
          obtain ⟨c1, c2, c3⟩ := hc
          obtain ⟨k1, k2⟩ := cells_rep c3 hu
          have l1 := listRep_len k1
          have l2 := listRep_len h1
          simp only [Array.length_toList] at l1
          have hnew : listRep w (patch cells off v.cells) T B I (us.take off ++ u.cells.toList ++ us.drop (off + u.cells.size)) := by
            unfold patch
            rw [l1]
            exact listRep_append (listRep_append (listRep_take _ h1) k1) (listRep_drop _ h1)
          obtain ⟨us', f1, f2⟩ := fillA_rep hpl h hnew hqs
          refine ⟨us', ?_, f2⟩
          simp only [Instr.fill, hpl i off t ti e1 e2]
          rw [if_neg (by simp [l1, c1, l2]; omega), foldl_patch' off u.cells us.toArray (by simp [l1, l2]; omega)]
          exact f1
        · cases h

include hX in
theorem run_buildA {t : TypeId} {parts : List (Nat × AV)} {qs : Array (Nat × Value)} {v : AV} (h : buildA X t parts = some v) (hq : partsRep w T B I parts qs.toList) :
    ∃ u, (∀ w1, (Instr.build t qs).run P w1 = .ok u w1) ∧ vrep w v T B I u := by
  unfold buildA at h
  split at h
  · rename_i z0 fs e1
    obtain ⟨ti, d, z, k1, k2, k3, _, _, k6, _, k8⟩ := (hX.ty _ _ e1).ok
    simp only [descOK] at k8
    obtain ⟨fields, rfl, hfs, hm⟩ := k8
    rw [Option.map_eq_some_iff] at h
    obtain ⟨out, h, rfl⟩ := h
    -- the places
    · obtain ⟨places, hpl⟩ := Option.isSome_iff_exists.1 hm
      have hplace : ∀ (i off : Nat) (ft : TypeId) (fi : TyI), fs[i]? = some (off, ft) → X.ty ft = some fi → places.toArray[i]? = some (off, fi.size) := by
        intro i off ft fi e2 e3
        obtain ⟨fti, _, _, q1, _, _, q4, _⟩ := (hX.ty _ _ e3).ok
        rw [← hfs, List.getElem?_map] at e2
        cases hq2 : fields.toList[i]? with
        | none => rw [hq2] at e2; simp at e2
        | some fd =>
          rw [hq2] at e2; simp at e2
          obtain ⟨rfl, rfl⟩ := e2
          have key : ∀ (l : List Field) (pl : List (Nat × Nat)), l.mapM (fun f => (P.info? f.type).map fun i => (f.offset, i.size)) = some pl → ∀ (i : Nat) (fd : Field), l[i]? = some fd → pl[i]? = (P.info? fd.type).map fun i => (fd.offset, i.size) := by
            intro l
            induction l with
            | nil => intro pl _ i fd h; simp at h
            | cons x xs ih =>
              intro pl hp i fd h
              simp only [List.mapM_cons, Option.bind_eq_bind, Option.pure_def] at hp
              cases hi : P.info? x.type with
              | none => simp [hi] at hp
              | some ix =>
                cases hr : xs.mapM (fun f => (P.info? f.type).map fun i => (f.offset, i.size)) with
                | none => simp [hi, hr] at hp
                | some rest =>
                  simp [hi, hr] at hp
                  subst hp
                  cases i with
                  | zero => simp at h; subst h; simp [hi]
                  | succ i => simpa using ih rest hr i fd (by simpa using h)
          have := key _ _ hpl i fd hq2
          rw [q1] at this
          simpa [q4] using this
      obtain ⟨us', f1, f2⟩ := fillA_rep (pl := (places.toArray[·]?)) hplace h (zero_rep k6) hq
      refine ⟨.agg us', fun w1 => run_build w1 t qs us' ?_, ?_⟩
      · unfold Program.built
        rw [k1, k2]
        simp only [k3, hpl]
        simpa using f1
      · simp only [vrep]
        exact ⟨us'.toList, by simp, f2⟩
  · cases h

/-! ### Slices, lengths -/
def optRep (w : World) (T B : Area) (I : Inj) : Option AV → Option Value → Prop
  | none, u => u = none
  | some v, u => ∃ x, u = some x ∧ vrep w v T B I x

theorem bound_run {lo : Option AV} {lo' : Option Value} {d l y : Nat} (code : BoundsCode) (h : boundA lo d = some l) (hr : optRep w T B I lo lo') (hy : l ≤ y) :
    (lo' = none ∧ lo = none ∧ l = d) ∨ ∃ x, lo' = some x ∧ ∀ w1, (Instr.sliceBound x y code).run P w1 = .ok l w1 := by
  unfold boundA at h
  split at h
  · injection h with h
    simp only [optRep] at hr
    exact .inl ⟨hr, rfl, h.symm⟩
  · simp only [optRep] at hr
    obtain ⟨x, rfl, hr⟩ := hr
    simp only [vrep] at hr; subst hr
    split at h
    · rename_i n hn
      injection h with h; subst h
      refine .inr ⟨_, rfl, fun w1 => ?_⟩
      have : n ≤ (y : Int) := by omega
      simp [Instr.sliceBound, asIntOf, hn, this]
    · cases h
  · cases h

theorem bounds_run {isS : Bool} {lo hi : Option AV} {lo' hi' : Option Value} {len cap l h : Nat} (e1 : boundA lo 0 = some l) (e2 : boundA hi len = some h) (r1 : optRep w T B I lo lo') (r2 : optRep w T B I hi hi') (hlh : l ≤ h) (hhl : h ≤ len) (hlc : len ≤ cap) :
    ∀ w1, (Instr.sliceBounds isS len cap lo' hi' none).run P w1 = .ok (l, h, cap) w1 := by
  intro w1
  have hh := bound_run (P := P) (if isS then .sliceAcap else .sliceAlen) e2 r2 (y := cap) (by omega)
  have hl := bound_run (P := P) .sliceB e1 r1 (y := h) hlh
  unfold Instr.sliceBounds
  rcases hh with ⟨rfl, _, rfl⟩ | ⟨x, rfl, hx⟩ <;> rcases hl with ⟨rfl, _, rfl⟩ | ⟨y, rfl, hy⟩
  · simp
  · simp [hy]
  · simp [hx]
  · simp [hx, hy]

include hX in
theorem run_sliceA {t : TypeId} {x v : AV} {lo hi mx : Option AV} {u1 : Value} {lo' hi' mx' : Option Value} (h : sliceA X t x lo hi mx = some v) (h1 : vrep w x T B I u1) (r1 : optRep w T B I lo lo') (r2 : optRep w T B I hi hi') (r3 : optRep w T B I mx mx') :
    ∃ u, (∀ w1, (Instr.sliceAt t u1 lo' hi' mx').run P w1 = .ok u w1) ∧ vrep w v T B I u := by
  have addz : ∀ (g o l sz : Nat), ({ block := g, off := o, spot := none } : Addr).add (l * sz) = ⟨g, o + l * sz, none⟩ := fun g o l sz => by
    unfold Addr.add; split
    · rename_i h0; simp [h0]
    · rfl
  unfold sliceA at h
  split at h
  · rename_i s e1
    obtain ⟨ti, d, z, _, _, _, _, _, _, _, k8, q1, _⟩ := ty_run (hX.ty _ _ e1)
    simp only [descOK] at k8
    subst k8
    simp only [vrep] at h1; subst h1
    simp only [optRep] at r3; subst r3
    split at h
    · rename_i l hh b1 b2
      split at h
      · rename_i hc
        injection h with h; subst h
        exact ⟨_, fun w1 => by simp [Instr.sliceAt, Instr.slice, q1, bounds_run (P := P) b1 b2 r1 r2 hc.1 hc.2 (Nat.le_refl _)]; rfl, by simp only [vrep]⟩
      · cases h
    · cases h
  · rename_i el b e off len sz e1
    obtain ⟨ti, d, z, _, _, _, _, _, _, _, k8, q1, _⟩ := ty_run (hX.ty _ _ e1)
    simp only [descOK] at k8
    subst k8
    simp only [optRep] at r3; subst r3
    split at h
    · rename_i l hh ei b1 b2 e2
      obtain ⟨_, _, _, _, _, _, _, _, _, _, _, _, q2, _⟩ := ty_run (hX.ty _ _ e2)
      split at h
      · rename_i hc
        obtain ⟨c1, c2, c3⟩ := hc
        simp only [vrep] at h1
        rcases h1 with ⟨rfl, rfl, rfl, ao, rfl⟩ | ⟨g, gs, cap, hi, rfl, c4, c5, c6⟩
        · obtain rfl : hh = 0 := by omega
          obtain rfl : l = 0 := by omega
          simp only [if_true] at h
          injection h with h; subst h
          exact ⟨.slice ao 0 0, fun w1 => by simp [Instr.sliceAt, Instr.slice, q1, q2, bounds_run (P := P) b1 b2 r1 r2 c1 c2 (Nat.le_refl _)], by simp [vrep]⟩
        · have hrun : ∀ w1, (Instr.sliceAt t (.slice (some ⟨g, off * sz, none⟩) len cap) lo' hi' none).run P w1 = .ok (.slice (if cap = l then some ⟨g, off * sz, none⟩ else some ⟨g, off * sz + l * sz, none⟩) (hh - l) (cap - l)) w1 := fun w1 => by
            simp only [Instr.sliceAt, Instr.slice, q1, q2, Sem.run_bind, Result.andThen_ok, bounds_run (P := P) b1 b2 r1 r2 c1 c2 c4, Sem.run_pure, Option.map_some]
            rw [← c3, addz]
          refine ⟨_, hrun, ?_⟩
          split at h
          · rename_i hl0
            subst hl0
            injection h with h; subst h
            simp only [vrep]
            refine .inr ⟨g, gs, cap, hi, ?_, by omega, c5, c6⟩
            split <;> simp
          · split at h
            · rename_i hl0 hlh
              subst hlh
              injection h with h; subst h
              simp only [vrep, List.length_nil]
              exact ⟨_, cap - l, by simp; rfl, by omega, by omega, by split <;> simp, by simp⟩
            · rename_i hl0 hlh
              injection h with h; subst h
              simp only [vrep]
              refine .inr ⟨g, gs, cap - l, hi, ?_, by omega, by omega, ?_⟩
              · rw [if_neg (by omega), Nat.add_mul]
              · rwa [show off + l + (cap - l) = off + cap by omega]
      · cases h
    · cases h
  · rename_i el st sz rows e1
    obtain ⟨ti, d, z, _, _, _, _, _, _, _, k8, q1, _⟩ := ty_run (hX.ty _ _ e1)
    simp only [descOK] at k8
    subst k8
    simp only [optRep] at r3; subst r3
    split at h
    · rename_i l hh ei b1 b2 e2
      obtain ⟨_, _, _, _, _, _, _, _, _, _, _, _, q2, _⟩ := ty_run (hX.ty _ _ e2)
      split at h
      · rename_i hc
        obtain ⟨c1, c2, c3⟩ := hc
        injection h with h; subst h
        simp only [vrep] at h1
        obtain ⟨ao, cap, rfl, c4, c5, c6, c7⟩ := h1
        have hlen : ((rows.drop l).take (hh - l)).length = hh - l := by simp; omega
        by_cases he : hh = l
        · subst he
          refine ⟨.slice (if cap = hh then ao else ao.map (·.add (hh * ei.size))) (hh - hh) (cap - hh), fun w1 => ?_, ?_⟩
          · simp only [Instr.sliceAt, Instr.slice, q1, q2, Sem.run_bind, Result.andThen_ok, bounds_run (P := P) b1 b2 r1 r2 c1 c2 c4, Sem.run_pure]
          · simp only [vrep, hlen]
            refine ⟨_, cap - hh, rfl, by omega, by omega, ?_, fun h0 => absurd (by simp) h0⟩
            split
            · intro h0; omega
            · intro h0; have := c6 (by cases ao <;> simp_all); omega
        · obtain ⟨g, off, rfl, p1, p2⟩ := c7 (by intro h0; subst h0; simp at c2; omega)
          refine ⟨.slice (some ⟨g, off + l * sz, none⟩) (hh - l) (cap - l), fun w1 => ?_, ?_⟩
          · simp only [Instr.sliceAt, Instr.slice, q1, q2, Sem.run_bind, Result.andThen_ok, bounds_run (P := P) b1 b2 r1 r2 c1 c2 c4, Sem.run_pure, Option.map_some]
            rw [if_neg (by omega), ← c3, addz]
          · simp only [vrep, hlen]
            exact ⟨_, cap - l, rfl, by omega, by omega, by simp, fun _ => ⟨g, _, rfl, p1, rowsRep_take _ (rowsRep_drop _ p2)⟩⟩
      · cases h
    · cases h
  · rename_i el e1
    obtain ⟨ti, d, z, _, _, _, _, _, _, _, k8, q1, _⟩ := ty_run (hX.ty _ _ e1)
    simp only [descOK] at k8
    subst k8
    simp only [optRep] at r3; subst r3
    split at h
    · rename_i ei b1 b2 e2
      obtain ⟨_, _, _, _, _, _, _, _, _, _, _, _, q2, _⟩ := ty_run (hX.ty _ _ e2)
      injection h with h; subst h
      simp only [vrep] at h1; subst h1
      refine ⟨.slice none 0 0, fun w1 => by simp [Instr.sliceAt, Instr.slice, q1, q2, bounds_run (P := P) b1 b2 r1 r2 (Nat.le_refl 0) (Nat.le_refl 0) (Nat.le_refl 0)], ?_⟩
      simp only [vrep]
      exact ⟨none, 0, rfl, Nat.le_refl _, Nat.zero_le _, fun _ => rfl, fun h => absurd rfl h⟩
    · cases h
  -- s[:0:0]
  all_goals (try (cases h; done))
  all_goals
    have hsl : ∃ ao n cap, u1 = .slice ao n cap := by
      first
        | (simp only [vrep] at h1; subst h1; exact ⟨_, _, _, rfl⟩)
        | (simp only [vrep] at h1; obtain ⟨ao, rfl⟩ := h1; exact ⟨_, _, _, rfl⟩)
        | (simp only [vrep] at h1; obtain ⟨ao, cap, rfl, _⟩ := h1; exact ⟨_, _, _, rfl⟩)
        | (simp only [vrep] at h1; rcases h1 with ⟨_, _, _, _, rfl⟩ | ⟨_, _, _, _, rfl, _⟩ <;> exact ⟨_, _, _, rfl⟩)
    obtain ⟨ao, n, cap, rfl⟩ := hsl
    split at h
    · injection h with h; subst h
      have b1 : boundA lo 0 = some 0 := by assumption
      have b2 : boundA hi 1 = some 0 := by assumption
      obtain ⟨ti, d, z, _, _, _, _, _, _, _, k8, q1, _⟩ := ty_run (hX.ty t _ (by assumption))
      simp only [descOK] at k8
      subst k8
      simp only [optRep] at r3
      obtain ⟨m', rfl, r3⟩ := r3
      simp only [vrep] at r3; subst r3
      have hl := bound_run (P := P) .slice3C b1 r1 (y := 0) (Nat.le_refl _)
      have hh := bound_run (P := P) .slice3B b2 r2 (y := 0) (Nat.le_refl _)
      rcases hh with ⟨_, _, h0⟩ | ⟨x, rfl, hx⟩
      · omega
      have hm : ∀ k w1, (Instr.sliceBound (.int k 0) cap .slice3Acap).run P w1 = .ok 0 w1 := fun k w1 => by simp [Instr.sliceBound, asIntOf]
      refine ⟨.slice ao 0 0, fun w1 => ?_, by simp only [vrep]; exact ⟨ao, rfl⟩⟩
      obtain ⟨_, _, _, _, _, _, _, _, _, _, _, _, hsz, _⟩ := ty_run (hX.ty _ _ (show X.ty _ = some _ by assumption))
      rcases hl with ⟨rfl, _, _⟩ | ⟨y, rfl, hy⟩
      · simp [Instr.sliceAt, Instr.slice, Instr.sliceBounds, q1, hm, hx, hsz]
      · simp [Instr.sliceAt, Instr.slice, Instr.sliceBounds, q1, hm, hx, hy, hsz]
    · cases h

theorem len_rep {x : AV} {u : Value} {n : Nat} (h : lenA x = some n) (h1 : vrep w x T B I u) : (∃ s, x = .str s ∧ u = .string s ∧ n = s.size) ∨ ((∀ s, x ≠ .str s) ∧ ∃ ao cap, u = .slice ao n cap) := by
  unfold lenA at h
  split at h
  all_goals (try (cases h; done))
  all_goals
    injection h with h; subst h
    simp only [vrep] at h1
  · exact .inl ⟨_, rfl, h1, rfl⟩
  · refine .inr ⟨by simp, ?_⟩
    rcases h1 with ⟨_, _, rfl, _, rfl⟩ | ⟨g, gs, cap, _, rfl, _⟩
    · exact ⟨_, _, rfl⟩
    · exact ⟨_, _, rfl⟩
  · obtain ⟨ao, cap, rfl, _⟩ := h1
    exact .inr ⟨by simp, _, _, rfl⟩
  · obtain ⟨ao, rfl⟩ := h1
    exact .inr ⟨by simp, _, _, rfl⟩
  · subst h1
    exact .inr ⟨by simp, _, _, rfl⟩

theorem minmaxGo_rep (mx : Bool) : ∀ {ys : List AV} {vs : List Value} {x v : AV} {u : Value}, minmaxGo mx x ys = some v → vrep w x T B I u → listRep w ys T B I vs →
    ∃ r, (∀ w1, (vs.foldlM (if mx then Builtin.max2 else Builtin.min2) u).run P w1 = .ok r w1) ∧ vrep w v T B I r
  | [], vs, x, v, u, h, hu, hvs => by
    simp only [listRep] at hvs; subst hvs
    have : some x = some v := by cases x <;> exact h
    injection this with h; subst h
    exact ⟨u, fun w1 => by simp, hu⟩
  | y :: ys, vs, x, v, u, h, hu, hvs => by
    simp only [listRep] at hvs
    obtain ⟨u2, vs', rfl, hu2, hvs⟩ := hvs
    unfold minmaxGo at h
    split at h
    · rename_i heq; cases heq
    · rename_i k a k' b rest heq
      injection heq with e1 e2
      subst e1 e2
      simp only [vrep] at hu hu2
      subst hu hu2
      obtain ⟨r, hr, hv⟩ := minmaxGo_rep (u := .int k (if mx then (if b > a then b else a) else (if b < a then b else a))) mx h (by simp only [vrep]) hvs
      refine ⟨r, fun w1 => ?_, hv⟩
      cases mx <;> simpa [Builtin.max2, Builtin.min2] using hr w1
    · cases h

theorem minmax_rep (mx : Bool) {xs : List AV} {us : List Value} {v : AV} (at_ : Array TypeId) (ty : TypeId) (h : minmaxA mx xs = some v) (h1 : listRep w xs T B I us) :
    ∃ u, (∀ w1, (if mx then Builtin.max_ at_ ty us.toArray else Builtin.min_ at_ ty us.toArray).run P w1 = .ok u w1) ∧ vrep w v T B I u := by
  cases xs with
  | nil => simp [minmaxA] at h
  | cons x xs =>
    simp only [listRep] at h1
    obtain ⟨u, us', rfl, hu, hus⟩ := h1
    obtain ⟨r, hr, hv⟩ := minmaxGo_rep (P := P) mx h hu hus
    refine ⟨r, fun w1 => ?_, hv⟩
    cases mx <;> simp [Builtin.max_, Builtin.min_] at hr ⊢ <;> exact hr w1
end
end Go.Eng
