/- A call by value. -/
import Derived.Test.YtoeogoeahmlgnaaGreatDoorEngJ
set_option linter.all false
namespace Go.Eng
open Go.RowKit
variable [Known]

/-- What is known of a way to carry out calls. -/
def CallSound (P : Program) (call : CallFn) : Prop :=
  ∀ f args S r S', call f args S = some (r, S') → ∀ base T B I w vs, Rel base T B I (sig S) w → listRep w args T B I vs →
    Calls P f vs.toArray w fun e w' => ∃ u T' B' I', e = .returned u ∧ Step base T B I w T' B' I' w' ∧ Rel base T' B' I' (sig S') w' ∧ vrep w' r T' B' I' u

section
variable {P : Program} {base : Nat} {T B : Area} {I : Inj} {S' : Sig} {w : World}

theorem rel_start (hTB : ∀ g, T g → g < w.heap.size) (hk : ∀ g o, Known.blk g = some o → w.heap[g]? = some o) : Rel w.heap.size T (fun g => g < w.heap.size) noInj (sig []) w :=
  ⟨Nat.le_refl _, hTB, fun _ h => h, fun _ _ _ _ h => (by simp [noInj] at h), fun _ _ _ _ _ _ _ h => (by simp [noInj] at h), fun _ _ _ _ h => (by simp [noInj] at h), fun g o k => ⟨(Array.getElem?_eq_some_iff.1 (hk g o k)).1, hk g o k⟩⟩

omit [Known] in
theorem orepL_mono {w : World} {T : Area} {b1 b2 : Nat} (hb : b2 ≤ b1) {v : AV} {u : Value} {O : List Nat} (h : orep w T b1 v u O) : orep w T b2 v u O := by
  cases v <;> simp only [orep] at h ⊢ <;> first | exact h | skip
  rcases h with h | ⟨g, c, ty, cap, h1, h2, h3, h4, h5, h6⟩
  · exact .inl h
  · exact .inr ⟨g, c, ty, cap, h1, h2, h3, h4, Nat.le_trans hb h5, h6⟩

/-- One component becomes the caller's. -/
theorem adopt1_sound (h : Rel base T B I S' w) {id b1 : Nat} {v : AV} {u : Value} {O : List Nat} (hv : orep w T b1 v u O) (hb : base ≤ b1) (hB : ∀ g ∈ O, ¬ B g) (hI : ∀ g ∈ O, ∀ b e gs, I b e ≠ some (g, gs))
    (hfresh : ∀ b e, NewB id (adopt1 id v).2 b e → I b e = none) (hS : ∀ k blk, (adopt1 id v).2[k]? = some blk → Holds S' (id + k) blk) :
    ∃ I', Step base T B I w T B I' w ∧ Rel base T B I' S' w ∧ vrep w (adopt1 id v).1 T B I' u ∧ (∀ b e p, I' b e = some p → I b e = some p ∨ NewB id (adopt1 id v).2 b e) ∧ (∀ b e g gs, I' b e = some (g, gs) → I b e = some (g, gs) ∨ g ∈ O) := by
  by_cases ho : ∃ sz rows, v = .osl sz rows
  · obtain ⟨sz, rows, rfl⟩ := ho
    simp only [adopt1] at hfresh hS ⊢
    have hS0 : Holds S' id (.arr rows sz 0 true) := hS 0 _ rfl
    have hf0 : I id rows.length = none := hfresh id _ (NewB.one rfl (Nat.le_refl _))
    simp only [orep] at hv
    rcases hv with ⟨rfl, ⟨ao, rfl⟩, rfl⟩ | ⟨g, c, ty, cap, rfl, rfl, h1, h2, h3, h4, h5, h6, h7⟩
    · exact ⟨I, Step.refl, h, by simp [vrep], fun _ _ _ h => .inl h, fun _ _ _ _ h => .inl h⟩
    · have hnew := h.newBlk (b := id) (g := g) (rows := rows) (sz := sz) (pr := true) (c := c) (ty := ty) hf0 hS0 (Nat.le_trans hb h3) (hB g (by simp)) (hI g (by simp)) h5 (Nat.le_trans (Nat.mul_le_mul_right _ h1) h6) h7
      refine ⟨_, Step.inj hf0, hnew, ?_, put_fresh (by simp [Blk.len]), fun b e g' gs hp => ?_⟩
      · simp only [vrep]
        exact .inr ⟨g, c.size, cap, Inj.put_self, by simp, h1, h2, by simpa using h6⟩
      · unfold Inj.put at hp
        split at hp
        · injection hp with hp; injection hp with q1 _; subst q1; exact .inr (by simp)
        · exact .inl hp
  · have e1 : adopt1 id v = (v, []) := by cases v <;> first | rfl | exact absurd ⟨_, _, rfl⟩ ho
    have e2 : O = [] ∧ vrep w v T T noInj u := by cases v <;> first | exact hv | exact absurd ⟨_, _, rfl⟩ ho
    rw [e1]
    exact ⟨I, Step.refl, h, vrep_mono v ⟨fun _ h => h, h.TB, fun _ _ _ h => (by simp [noInj] at h), fun _ _ => rfl⟩ (fun _ h => h) e2.2, fun _ _ _ h => .inl h, fun _ _ _ _ h => .inl h⟩

omit [Known] in
theorem NewB.left {id : Nat} {nb nb' : List Blk} {b e : Nat} (h : NewB id nb b e) : NewB id (nb ++ nb') b e := by
  obtain ⟨k, blk, h1, h2, h3⟩ := h
  exact ⟨k, blk, by rw [List.getElem?_append_left (List.getElem?_eq_some_iff.1 h1).1]; exact h1, h2, h3⟩
omit [Known] in
theorem NewB.right {id : Nat} {nb nb' : List Blk} {b e : Nat} (h : NewB (id + nb.length) nb' b e) : NewB id (nb ++ nb') b e := by
  obtain ⟨k, blk, h1, h2, h3⟩ := h
  exact ⟨nb.length + k, blk, by rw [List.getElem?_append_right (by omega), Nat.add_sub_cancel_left]; exact h1, by omega, h3⟩
omit [Known] in
theorem NewB.at {id : Nat} {nb : List Blk} {b e : Nat} (h : NewB id nb b e) : id ≤ b ∧ b < id + nb.length := by
  obtain ⟨k, blk, h1, h2, h3⟩ := h
  have := (List.getElem?_eq_some_iff.1 h1).1
  omega

theorem adoptL_sound : ∀ {cs : List AV} {us : List Value} {I : Inj} {id b1 : Nat} {O : List Nat}, Rel base T B I S' w → orepL w T b1 cs us O → base ≤ b1 → O.Nodup → (∀ g ∈ O, ¬ B g) → (∀ g ∈ O, ∀ b e gs, I b e ≠ some (g, gs)) →
    (∀ b e, NewB id (adoptL id cs).2 b e → I b e = none) → (∀ k blk, (adoptL id cs).2[k]? = some blk → Holds S' (id + k) blk) →
    ∃ I', Step base T B I w T B I' w ∧ Rel base T B I' S' w ∧ listRep w (adoptL id cs).1 T B I' us ∧ (∀ b e p, I' b e = some p → I b e = some p ∨ NewB id (adoptL id cs).2 b e)
  | [], us, I, id, b1, O, h, hv, _, _, _, _, _, _ => by
    simp only [orepL] at hv
    obtain ⟨rfl, rfl⟩ := hv
    exact ⟨I, Step.refl, h, by simp [adoptL, listRep], fun _ _ _ h => .inl h⟩
  | c :: cs, us, I, id, b1, O, h, hv, hb, hN, hB, hI, hfresh, hS => by
    simp only [orepL] at hv
    obtain ⟨u, us', O1, O2, rfl, rfl, hc, hcs⟩ := hv
    simp only [adoptL] at hfresh hS ⊢
    rw [List.nodup_append] at hN
    obtain ⟨I1, s1, r1, v1, f1, g1⟩ := adopt1_sound h hc hb (fun g hg => hB g (by simp [hg])) (fun g hg => hI g (by simp [hg])) (fun b e hn => hfresh b e hn.left) (fun k blk hk => hS k blk (by
      rw [List.getElem?_append_left (List.getElem?_eq_some_iff.1 hk).1]; exact hk))
    obtain ⟨I2, s2, r2, v2, f2⟩ := adoptL_sound (id := id + (adopt1 id c).2.length) r1 hcs hb hN.2.1 (fun g hg => hB g (by simp [hg])) (fun g hg b e gs hi => by
        rcases g1 b e g gs hi with h1 | h1
        · exact hI g (by simp [hg]) b e gs h1
        · exact hN.2.2 g h1 g hg rfl) (fun b e hn => by
        cases hq : I1 b e with
        | none => rfl
        | some p =>
          rcases f1 b e p hq with h3 | h3
          · rw [hfresh b e hn.right] at h3; cases h3
          · have := hn.at; have := h3.at; omega) (fun k blk hk => by
        have := hS ((adopt1 id c).2.length + k) blk (by rw [List.getElem?_append_right (by omega), Nat.add_sub_cancel_left]; exact hk)
        rwa [← Nat.add_assoc] at this)
    refine ⟨I2, s1.trans s2, r2, ?_, fun b e p hp => ?_⟩
    · simp only [listRep]
      exact ⟨u, us', rfl, vrep_mono _ s2.mono h.TB v1, v2⟩
    · rcases f2 b e p hp with h3 | h3
      · rcases f1 b e p h3 with h4 | h4
        · exact .inl h4
        · exact .inr h4.left
      · exact .inr h3.right

theorem adoptA_sound (h : Rel base T B I S' w) {id b1 : Nat} {v : AV} {u : Value} (hv : outRep w T b1 v u) (hb : base ≤ b1) (hB : ∀ g, b1 ≤ g → ¬ T g → ¬ B g) (hI : ∀ g, b1 ≤ g → ∀ b e gs, I b e ≠ some (g, gs))
    (hfresh : ∀ b e, NewB id (adoptA id v).2 b e → I b e = none) (hS : ∀ k blk, (adoptA id v).2[k]? = some blk → Holds S' (id + k) blk) :
    ∃ I', Step base T B I w T B I' w ∧ Rel base T B I' S' w ∧ vrep w (adoptA id v).1 T B I' u ∧ (∀ b e p, I' b e = some p → I b e = some p ∨ NewB id (adoptA id v).2 b e) := by
  have own : ∀ {v : AV} {u : Value} {O : List Nat}, orep w T b1 v u O → ∀ g ∈ O, b1 ≤ g ∧ ¬ T g := fun {v u O} ho g hg => by
    cases v <;> simp only [orep] at ho <;> first
      | (rw [ho.1] at hg; simp at hg; done)
      | skip
    rcases ho with ⟨_, _, rfl⟩ | ⟨g', c, ty, cap, rfl, _, _, _, h5, h6, _⟩
    · simp at hg
    · simp at hg; subst hg; exact ⟨h5, h6⟩
  have ownL : ∀ {cs : List AV} {us : List Value} {O : List Nat}, orepL w T b1 cs us O → ∀ g ∈ O, b1 ≤ g ∧ ¬ T g := fun {cs} => by
    induction cs with
    | nil => intro us O ho g hg; simp only [orepL] at ho; rw [ho.2] at hg; simp at hg
    | cons c cs ih =>
      intro us O ho g hg
      simp only [orepL] at ho
      obtain ⟨u, us', O1, O2, _, rfl, h1, h2⟩ := ho
      rcases List.mem_append.1 hg with hg | hg
      · exact own h1 g hg
      · exact ih h2 g hg
  by_cases ht : ∃ cs, v = .tup cs
  · obtain ⟨cs, rfl⟩ := ht
    simp only [outRep] at hv
    obtain ⟨us, O, rfl, ho, hN⟩ := hv
    simp only [adoptA] at hfresh hS ⊢
    obtain ⟨I', s, r, v', f⟩ := adoptL_sound h ho hb hN (fun g hg => hB g (ownL ho g hg).1 (ownL ho g hg).2) (fun g hg => hI g (ownL ho g hg).1) hfresh hS
    exact ⟨I', s, r, by simp only [vrep]; exact ⟨us, rfl, v'⟩, f⟩
  · have e1 : adoptA id v = adopt1 id v := by cases v <;> first | rfl | exact absurd ⟨_, rfl⟩ ht
    have e2 : ∃ O, orep w T b1 v u O := by cases v <;> first | exact hv | exact absurd ⟨_, rfl⟩ ht
    obtain ⟨O, ho⟩ := e2
    rw [e1] at hfresh hS ⊢
    obtain ⟨I', s, r, v', f, _⟩ := adopt1_sound h ho hb (fun g hg => hB g (own ho g hg).1 (own ho g hg).2) (fun g hg => hI g (own ho g hg).1) hfresh hS
    exact ⟨I', s, r, v', f⟩

theorem callV_sound {call : CallFn} (hC : CallSound P call) {S : Store} (h : Rel base T B I S' w) (hSS : Ext S S') {f : FuncId} {args args' : List AV} {r : AV} {vs : List Value} {id : Nat} (hargs : listRep w args T B I vs)
    (hsn : snapL S args = some args') (hcv : callV call f args' = some r) (hfresh : ∀ b e, NewB id (adoptA id r).2 b e → I b e = none) (hS : ∀ k blk, (adoptA id r).2[k]? = some blk → Holds S' (id + k) blk) :
    Calls P f vs.toArray w fun e w' => ∃ u T' B' I', e = .returned u ∧ Step base T B I w T' B' I' w' ∧ Rel base T' B' I' S' w' ∧ vrep w' (adoptA id r).1 T' B' I' u ∧
      ∀ b e p, I' b e = some p → I b e = some p ∨ NewB id (adoptA id r).2 b e := by
  unfold callV at hcv
  split at hcv
  · rename_i r0 S0 e1
    have ha := snapL_sound h hSS args hsn hargs
    refine (hC f args' [] r0 S0 e1 _ _ _ _ _ _ (rel_start (fun g hg => h.Blt g (h.TB g hg)) (fun g o k => (h.known g o k).2)) ha).mono ?_
    rintro e w' ⟨u, T1, B1, I1, rfl, st, rl, hr⟩
    obtain ⟨F, ho⟩ := exportA_sound rl hr hcv
    have hsz := st.below.size
    -- the areas behind the call
    have hT : ∀ g, lent T1 I1 F g → T g ∨ (w.heap.size ≤ g ∧ g < w'.heap.size) := fun g hg => by
      rcases hg with hg | ⟨b, e, gs, hi, _⟩
      · rcases st.newT g hg with h1 | h1
        · exact .inl h1
        · exact .inr ⟨h1, rl.Blt g (rl.TB g hg)⟩
      · exact .inr ⟨(rl.own _ _ _ _ hi).1, rl.lt hi⟩
    have hquiet : Rel base (lent T1 I1 F) (fun g => B g ∨ lent T1 I1 F g) I S' w' := h.quiet st.below (fun g hg => .inl (st.mono.tT g hg)) (fun g hg => .inl hg) (fun g hg => .inr hg) (fun g hg => by
      rcases hg with h1 | h1
      · exact .inl h1
      · rcases hT g h1 with h2 | h2
        · exact .inl (h.TB g h2)
        · exact .inr h2)
    have hstep : Step base T B I w (lent T1 I1 F) (fun g => B g ∨ lent T1 I1 F g) I w' := Step.quiet h st.below (fun g hg => .inl (st.mono.tT g hg)) (fun g hg => .inl hg) (fun g hg => (hT g hg).imp (fun h => h) (fun h => h.1)) (fun g hg => by
      rcases hg with h1 | h1
      · exact .inl h1
      · rcases hT g h1 with h2 | h2
        · exact .inl (h.TB g h2)
        · exact .inr h2.1)
    obtain ⟨I', s2, r2, v2, f2⟩ := adoptA_sound hquiet (id := id) ho h.base_le (fun g hg hn => by
      rintro (h1 | h1)
      · have := h.Blt g h1; omega
      · exact hn h1) (fun g hg b e gs hi => by have := h.lt hi; omega) hfresh hS
    exact ⟨u, _, _, I', rfl, hstep.trans s2, r2, v2, f2⟩
  · cases hcv

omit [Known] in
theorem orepL_own {w : World} {T : Area} {b1 : Nat} : ∀ {cs : List AV} {us : List Value} {O : List Nat}, orepL w T b1 cs us O → ∀ g ∈ O, b1 ≤ g ∧ ¬ T g
  | [], _, _, ho, g, hg => by simp only [orepL] at ho; rw [ho.2] at hg; simp at hg
  | c :: cs, us, O, ho, g, hg => by
    simp only [orepL] at ho
    obtain ⟨u, us', O1, O2, _, rfl, h1, h2⟩ := ho
    rcases List.mem_append.1 hg with hg | hg
    · cases c <;> simp only [orep] at h1 <;> first
        | (rw [h1.1] at hg; simp at hg; done)
        | skip
      rcases h1 with ⟨_, _, rfl⟩ | ⟨g', c, ty, cap, rfl, _, _, _, h5, h6, _⟩
      · simp at hg
      · simp at hg; subst hg; exact ⟨h5, h6⟩
    · exact orepL_own h2 g hg

theorem adoptN_sound (h : Rel base T B I S' w) {id b1 : Nat} {v : AV} {u : Value} (hv : outRepN w T b1 v u) (hb : base ≤ b1) (hB : ∀ g, b1 ≤ g → ¬ T g → ¬ B g) (hI : ∀ g, b1 ≤ g → ∀ b e gs, I b e ≠ some (g, gs))
    (hfresh : ∀ b e, NewB id (adoptN id v).2 b e → I b e = none) (hS : ∀ k blk, (adoptN id v).2[k]? = some blk → Holds S' (id + k) blk) :
    ∃ I', Step base T B I w T B I' w ∧ Rel base T B I' S' w ∧ vrep w (adoptN id v).1 T B I' u ∧ (∀ b e p, I' b e = some p → I b e = some p ∨ NewB id (adoptN id v).2 b e) := by
  unfold outRepN at hv
  split at hv
  · rename_i cs
    obtain ⟨us, O, rfl, ho, hN⟩ := hv
    simp only [adoptN] at hfresh hS ⊢
    obtain ⟨I', s, r, v', f⟩ := adoptL_sound h ho hb hN (fun g hg => hB g (orepL_own ho g hg).1 (orepL_own ho g hg).2) (fun g hg => hI g (orepL_own ho g hg).1) hfresh hS
    exact ⟨I', s, r, by simp only [vrep]; exact ⟨us, rfl, v'⟩, f⟩
  · exact hv.elim

theorem callVN_sound {call : CallFn} (hC : CallSound P call) {S : Store} (h : Rel base T B I S' w) (hSS : Ext S S') {f : FuncId} {args args' : List AV} {r : AV} {vs : List Value} {id : Nat} (hargs : listRep w args T B I vs)
    (hsn : snapL S args = some args') (hcv : callVN call f args' = some r) (hfresh : ∀ b e, NewB id (adoptN id r).2 b e → I b e = none) (hS : ∀ k blk, (adoptN id r).2[k]? = some blk → Holds S' (id + k) blk) :
    Calls P f vs.toArray w fun e w' => ∃ u T' B' I', e = .returned u ∧ Step base T B I w T' B' I' w' ∧ Rel base T' B' I' S' w' ∧ vrep w' (adoptN id r).1 T' B' I' u ∧
      ∀ b e p, I' b e = some p → I b e = some p ∨ NewB id (adoptN id r).2 b e := by
  unfold callVN at hcv
  split at hcv
  · rename_i r0 S0 e1
    have ha := snapL_sound h hSS args hsn hargs
    refine (hC f args' [] r0 S0 e1 _ _ _ _ _ _ (rel_start (fun g hg => h.Blt g (h.TB g hg)) (fun g o k => (h.known g o k).2)) ha).mono ?_
    rintro e w' ⟨u, T1, B1, I1, rfl, st, rl, hr⟩
    obtain ⟨F, ho⟩ := exportN_sound rl hr hcv
    have hsz := st.below.size
    -- the areas behind the call
    have hT : ∀ g, lent T1 I1 F g → T g ∨ (w.heap.size ≤ g ∧ g < w'.heap.size) := fun g hg => by
      rcases hg with hg | ⟨b, e, gs, hi, _⟩
      · rcases st.newT g hg with h1 | h1
        · exact .inl h1
        · exact .inr ⟨h1, rl.Blt g (rl.TB g hg)⟩
      · exact .inr ⟨(rl.own _ _ _ _ hi).1, rl.lt hi⟩
    have hquiet : Rel base (lent T1 I1 F) (fun g => B g ∨ lent T1 I1 F g) I S' w' := h.quiet st.below (fun g hg => .inl (st.mono.tT g hg)) (fun g hg => .inl hg) (fun g hg => .inr hg) (fun g hg => by
      rcases hg with h1 | h1
      · exact .inl h1
      · rcases hT g h1 with h2 | h2
        · exact .inl (h.TB g h2)
        · exact .inr h2)
    have hstep : Step base T B I w (lent T1 I1 F) (fun g => B g ∨ lent T1 I1 F g) I w' := Step.quiet h st.below (fun g hg => .inl (st.mono.tT g hg)) (fun g hg => .inl hg) (fun g hg => (hT g hg).imp (fun h => h) (fun h => h.1)) (fun g hg => by
      rcases hg with h1 | h1
      · exact .inl h1
      · rcases hT g h1 with h2 | h2
        · exact .inl (h.TB g h2)
        · exact .inr h2.1)
    obtain ⟨I', s2, r2, v2, f2⟩ := adoptN_sound hquiet (id := id) ho h.base_le (fun g hg hn => by
      rintro (h1 | h1)
      · have := h.Blt g h1; omega
      · exact hn h1) (fun g hg b e gs hi => by have := h.lt hi; omega) hfresh hS
    exact ⟨u, _, _, I', rfl, hstep.trans s2, r2, v2, f2⟩
  · cases hcv

omit [Known] in
theorem frz1_sound {w : World} {T T2 B2 : Area} {I : Inj} {b1 : Nat} {c : AV} {u : Value} {O : List Nat} (h : orep w T b1 c u O) (hT : ∀ g, T g → T2 g) (hO : ∀ g ∈ O, T2 g) (hTB : ∀ g, T2 g → B2 g) : vrep w (frz1 c) T2 B2 I u := by
  by_cases ho : ∃ sz rows, c = .osl sz rows
  · obtain ⟨sz, rows, rfl⟩ := ho
    simp only [orep] at h
    simp only [frz1, vrep]
    rcases h with ⟨rfl, ⟨ao, rfl⟩, rfl⟩ | ⟨g, c, ty, cap, rfl, rfl, h1, h2, h3, h4, h5, h6, h7⟩
    · exact ⟨ao, 0, rfl, Nat.le_refl _, Nat.zero_le _, fun _ => rfl, fun h => absurd rfl h⟩
    · refine ⟨_, cap, rfl, h1, h2, (fun h => by cases h), fun _ => ⟨g, 0, rfl, ?_, ?_⟩⟩
      · simp only [pick, if_true]; exact hO g (by simp)
      · exact rowsRep_mono _ ⟨hT, hT, fun _ _ _ h => h, fun _ _ => rfl⟩ (fun _ h => h) (fun _ => rfl) h7
  · have e1 : frz1 c = c := by cases c <;> first | rfl | exact absurd ⟨_, _, rfl⟩ ho
    have e2 : vrep w c T T noInj u := by cases c <;> first | exact h.2 | exact absurd ⟨_, _, rfl⟩ ho
    rw [e1]
    exact vrep_mono c ⟨hT, fun g hg => hTB g (hT g hg), fun _ _ _ h => (by simp [noInj] at h), fun _ _ => rfl⟩ (fun _ h => h) e2

omit [Known] in
theorem frzL_sound {w : World} {T T2 B2 : Area} {I : Inj} {b1 : Nat} (hT : ∀ g, T g → T2 g) (hTB : ∀ g, T2 g → B2 g) : ∀ {cs : List AV} {us : List Value} {O : List Nat}, orepL w T b1 cs us O → (∀ g ∈ O, T2 g) → listRep w (cs.map frz1) T2 B2 I us
  | [], us, O, h, _ => by simp only [orepL] at h; simp only [List.map_nil, listRep]; exact h.1
  | c :: cs, us, O, h, hO => by
    simp only [orepL] at h
    obtain ⟨u, us', O1, O2, rfl, rfl, h1, h2⟩ := h
    simp only [List.map_cons, listRep]
    exact ⟨u, us', rfl, frz1_sound h1 hT (fun g hg => hO g (by simp [hg])) hTB, frzL_sound hT hTB h2 (fun g hg => hO g (by simp [hg]))⟩

omit [Known] in
/-- The blocks of a result. -/
theorem out_freeze {w : World} {T : Area} {b1 : Nat} {v : AV} {u : Value} (h : outRep w T b1 v u) : ∃ O : List Nat, (∀ g ∈ O, b1 ≤ g ∧ ∃ c ty, w.heap[g]? = some (.cells c ty (0, 0))) ∧
    ∀ {T2 B2 : Area} {I : Inj}, (∀ g, T g → T2 g) → (∀ g ∈ O, T2 g) → (∀ g, T2 g → B2 g) → vrep w (freezeA v) T2 B2 I u := by
  have own : ∀ {v : AV} {u : Value} {O : List Nat}, orep w T b1 v u O → ∀ g ∈ O, b1 ≤ g ∧ ∃ c ty, w.heap[g]? = some (.cells c ty (0, 0)) := fun {v u O} ho g hg => by
    cases v <;> simp only [orep] at ho <;> first
      | (rw [ho.1] at hg; simp at hg; done)
      | skip
    rcases ho with ⟨_, _, rfl⟩ | ⟨g', c, ty, cap, rfl, _, _, _, h5, h6, h7, _⟩
    · simp at hg
    · simp at hg; subst hg; exact ⟨h5, c, ty, h7⟩
  have ownL : ∀ {cs : List AV} {us : List Value} {O : List Nat}, orepL w T b1 cs us O → ∀ g ∈ O, b1 ≤ g ∧ ∃ c ty, w.heap[g]? = some (.cells c ty (0, 0)) := fun {cs} => by
    induction cs with
    | nil => intro us O ho g hg; simp only [orepL] at ho; rw [ho.2] at hg; simp at hg
    | cons c cs ih =>
      intro us O ho g hg
      simp only [orepL] at ho
      obtain ⟨u, us', O1, O2, _, rfl, h1, h2⟩ := ho
      rcases List.mem_append.1 hg with hg | hg
      · exact own h1 g hg
      · exact ih h2 g hg
  by_cases ht : ∃ cs, v = .tup cs
  · obtain ⟨cs, rfl⟩ := ht
    simp only [outRep] at h
    obtain ⟨us, O, rfl, ho, _⟩ := h
    refine ⟨O, ownL ho, fun hT hO hTB => ?_⟩
    simp only [freezeA, vrep]
    exact ⟨us, rfl, frzL_sound hT hTB ho hO⟩
  · have e1 : freezeA v = frz1 v := by cases v <;> first | rfl | exact absurd ⟨_, rfl⟩ ht
    have e2 : ∃ O, orep w T b1 v u O := by cases v <;> first | exact h | exact absurd ⟨_, rfl⟩ ht
    obtain ⟨O, ho⟩ := e2
    refine ⟨O, own ho, fun hT hO hTB => ?_⟩
    rw [e1]
    exact frz1_sound ho hT hO hTB

theorem callZ_sound (z : Bool) {call : CallFn} (hC : CallSound P call) {S : Store} (h : Rel base T B I S' w) (hSS : Ext S S') {f : FuncId} {args args' : List AV} {r : AV} {vs : List Value} {id : Nat} (hargs : listRep w args T B I vs)
    (hsn : snapL S args = some args') (hcv : callV call f args' = some r) (hfresh : ∀ b e, NewB id (adoptZ z id r).2 b e → I b e = none) (hS : ∀ k blk, (adoptZ z id r).2[k]? = some blk → Holds S' (id + k) blk) :
    Calls P f vs.toArray w fun e w' => ∃ u T' B' I', e = .returned u ∧ Step base T B I w T' B' I' w' ∧ Rel base T' B' I' S' w' ∧ vrep w' (adoptZ z id r).1 T' B' I' u ∧
      ∀ b e p, I' b e = some p → I b e = some p ∨ NewB id (adoptZ z id r).2 b e := by
  cases z with
  | false => exact callV_sound hC h hSS hargs hsn hcv hfresh hS
  | true =>
  unfold callV at hcv
  split at hcv
  · rename_i r0 S0 e1
    have ha := snapL_sound h hSS args hsn hargs
    refine (hC f args' [] r0 S0 e1 _ _ _ _ _ _ (rel_start (fun g hg => h.Blt g (h.TB g hg)) (fun g o k => (h.known g o k).2)) ha).mono ?_
    rintro e w' ⟨u, T1, B1, I1, rfl, st, rl, hr⟩
    obtain ⟨F, ho⟩ := exportA_sound rl hr hcv
    obtain ⟨O, hO, hfz⟩ := out_freeze ho
    have hsz := st.below.size
    have hT : ∀ g, (lent T1 I1 F g ∨ g ∈ O) → T g ∨ (w.heap.size ≤ g ∧ g < w'.heap.size) := fun g hg => by
      rcases hg with (hg | ⟨b, e, gs, hi, _⟩) | hg
      · rcases st.newT g hg with h1 | h1
        · exact .inl h1
        · exact .inr ⟨h1, rl.Blt g (rl.TB g hg)⟩
      · exact .inr ⟨(rl.own _ _ _ _ hi).1, rl.lt hi⟩
      · obtain ⟨h1, c, ty, h2⟩ := hO g hg
        exact .inr ⟨h1, (Array.getElem?_eq_some_iff.1 h2).1⟩
    have hquiet : Rel base (fun g => lent T1 I1 F g ∨ g ∈ O) (fun g => B g ∨ (lent T1 I1 F g ∨ g ∈ O)) I S' w' := h.quiet st.below (fun g hg => .inl (.inl (st.mono.tT g hg))) (fun g hg => .inl hg) (fun g hg => .inr hg) (fun g hg => by
      rcases hg with h1 | h1
      · exact .inl h1
      · rcases hT g h1 with h2 | h2
        · exact .inl (h.TB g h2)
        · exact .inr h2)
    have hstep : Step base T B I w (fun g => lent T1 I1 F g ∨ g ∈ O) (fun g => B g ∨ (lent T1 I1 F g ∨ g ∈ O)) I w' := Step.quiet h st.below (fun g hg => .inl (.inl (st.mono.tT g hg))) (fun g hg => .inl hg) (fun g hg => (hT g hg).imp (fun h => h) (fun h => h.1)) (fun g hg => by
      rcases hg with h1 | h1
      · exact .inl h1
      · rcases hT g h1 with h2 | h2
        · exact .inl (h.TB g h2)
        · exact .inr h2.1)
    exact ⟨u, _, _, I, rfl, hstep, hquiet, hfz (fun g hg => .inl hg) (fun g hg => .inr hg) (fun g hg => .inr hg), fun b e p hp => .inl hp⟩
  · cases hcv
end
end Go.Eng
