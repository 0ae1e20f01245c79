/- Regions: in the text's order, and in whatever order the tape picks. -/
import Derived.Test.YtoeogoeahmlgnaaGreatDoorEngL
set_option linter.all false
namespace Go.Eng
open Go.RowKit
variable [Known]

section
variable {P : Program} {X : Ctx} {call : CallFn}

omit [Known] in
theorem put_rep {w : World} {T B : Area} {I : Inj} {fr : List AV} {a : Act} {v : AV} {u : Value} (dst : Option Tmp) (h : listRep w fr T B I a.tmps.toList) (hv : vrep w v T B I u) : listRep w (putA fr dst v) T B I (a.put dst u).tmps.toList := by
  cases dst with
  | none => exact h
  | some d =>
    simp only [putA, Act.put, Array.toList_setIfInBounds]
    exact listRep_set d v u h hv

omit [Known] in
theorem put_defers (a : Act) (dst : Option Tmp) (u : Value) : (a.put dst u).defers = a.defers := by cases dst <;> rfl

omit [Known] in
theorem guard_rep {w : World} {T B : Area} {I : Inj} {ops : Array Oper} {fr : List AV} {a : Act} {o : Oper} {b : Bool} (hg : guardA ops fr o = some b) (h : listRep w fr T B I a.tmps.toList) : Region.wanted o (yielded ops a.tmps) = b := by
  unfold guardA at hg
  unfold Region.wanted
  split at hg
  · rename_i e; injection hg with hg; subst hg; simp [e]
  · rename_i j want e
    rw [e]
    simp only
    split at hg
    · cases hg
    · rename_i d hd
      have key : ∀ v, getA fr d = v → v ≠ .junk → ∃ u, a.tmps[d]? = some u ∧ vrep w v T B I u := by
        intro v hv hne
        by_cases ht : d < fr.length
        · obtain ⟨u, h1, h2⟩ := listRep_get h d _ (List.getElem?_eq_getElem ht)
          refine ⟨u, by simpa using h1, ?_⟩
          rw [← hv]
          unfold getA
          rw [List.getD_eq_getElem?_getD, List.getElem?_eq_getElem ht]
          exact h2
        · unfold getA at hv
          rw [List.getD_eq_getElem?_getD, List.getElem?_eq_none (Nat.le_of_not_lt ht)] at hv
          exact absurd hv.symm hne
      split at hg
      · rename_i c hc
        injection hg with hg
        obtain ⟨u, h1, h2⟩ := key _ hc (by simp)
        simp only [vrep] at h2
        subst h2
        simp only [yielded, hd, Option.bind_some, h1]
        subst hg
        simp
      · rename_i vs hc
        injection hg with hg; subst hg
        obtain ⟨u, h1, h2⟩ := key _ hc (by simp)
        simp only [vrep] at h2
        subst h2
        simp only [yielded, hd, Option.bind_some, h1]
        rfl
      · cases hg

omit [Known] in
theorem junk_rep {w : World} {T B : Area} {I : Inj} : vrep w (.flat undef) T B I undef := by simp only [vrep]

section text
variable (hX : CtxOK P X) (hO : CallOK P call) (hC : CallSound P call)
include hX hO hC

/-- In the text's order. -/
theorem ops_sound {ops : Array Oper} {d : Bool} {Q : Exit → Act → World → Prop} {base : Nat} : ∀ (l : List Oper) {fr : List AV} {S : Store} {st' : St}, opsA X d call ops l ⟨fr, S⟩ = some st' → ∀ {T B : Area} {I : Inj} {w : World} {a : Act}, Rel base T B I (sig S) w → listRep w fr T B I a.tmps.toList →
    (∀ a' w' T' B' I', Step base T B I w T' B' I' w' → Rel base T' B' I' (sig st'.S) w' → listRep w' st'.fr T' B' I' a'.tmps.toList → a'.defers = a.defers → Q .normal a' w') → wpList P ops Q l a w
  | [], fr, S, st', hs, T, B, I, w, a, h, hfr, hK => by
    simp only [opsA] at hs
    injection hs with hs; subst hs
    exact hK a w T B I Step.refl h hfr rfl
  | o :: rest, fr, S, st', hs, T, B, I, w, a, h, hfr, hK => by
    simp only [opsA] at hs
    split at hs
    · rename_i hg
      split at hs
      · cases hs
      split at hs
      · rename_i v S1 e1
        unfold wpList
        rw [if_pos (guard_rep hg hfr)]
        refine .inl (full_step hX hO hC h (eval_rep hfr) e1 fun u w' T' B' I' h1 h2 h3 => ?_)
        refine ops_sound rest hs h2 (put_rep o.dst (listRep_mono _ h1.mono h.TB hfr) h3) fun a' w'' T'' B'' I'' k1 k2 k3 k4 => ?_
        exact hK a' w'' T'' B'' I'' (h1.trans k1) k2 k3 (by rw [k4, put_defers])
      · cases hs
    · rename_i hg
      unfold wpList
      rw [if_neg (by rw [guard_rep hg hfr]; simp)]
      refine ops_sound rest hs h (put_rep o.dst hfr junk_rep) fun a' w'' T'' B'' I'' k1 k2 k3 k4 => ?_
      exact hK a' w'' T'' B'' I'' k1 k2 k3 (by rw [k4, put_defers])
    · cases hs
end text

/-! ### Whatever order -/
/-- An operation that looks at no block and makes none. -/
def pureKind (o : Oper) : Bool :=
  match o.op with
  | .move _ | .assign _ | .pick .. | .nilCheck _ | .binOp .. | .unOp .. | .build .. | .field .. | .fieldAddr .. | .indexAddr .. | .index .. | .slice .. | .makeFunc .. | .makeInterface .. | .extract .. => true
  | .call { callee := .builtin .len, .. } | .call { callee := .builtin .max, .. } | .call { callee := .builtin .min, .. } => true
  | _ => false

def edgeTo (o : Oper) (i : Nat) : Bool := o.after.toList.any fun e => Region.binds .any e && e.on == i

/-- Edges over some steps. -/
def reach (ops : Array Oper) : Nat → Oper → Nat → Bool
  | 0, _, _ => false
  | n + 1, o, i => o.after.toList.any fun e => Region.binds .any e && (e.on == i || match ops[e.on]? with | some o' => reach ops n o' i | none => false)
def edgeR (ops : Array Oper) (o : Oper) (i : Nat) : Bool := edgeTo o i || reach ops 4 o i

omit [Known] in
theorem reach_done {ops : Array Oper} {D : Nat → Bool} (hcl : ∀ k ok, ops[k]? = some ok → D k = true → ∀ e ∈ ok.after, Region.binds .any e = true → D e.on = true) :
    ∀ (n : Nat) {o : Oper} {i : Nat}, (∀ e ∈ o.after, Region.binds .any e = true → D e.on = true) → reach ops n o i = true → D i = true
  | 0, _, _, _, h => by simp [reach] at h
  | n + 1, o, i, hr, h => by
    rw [reach, List.any_eq_true] at h
    obtain ⟨e, he, hb⟩ := h
    rw [Bool.and_eq_true] at hb
    have hd := hr e (by simpa using he) hb.1
    have hb2 := hb.2
    rw [Bool.or_eq_true] at hb2
    rcases hb2 with h1 | h1
    · rw [beq_iff_eq] at h1; rw [← h1]; exact hd
    · split at h1
      · rename_i o' ho'
        exact reach_done hcl n (hcl _ _ ho' hd) h1
      · cases h1
omit [Known] in
theorem edgeR_done {ops : Array Oper} {D : Nat → Bool} (hcl : ∀ k ok, ops[k]? = some ok → D k = true → ∀ e ∈ ok.after, Region.binds .any e = true → D e.on = true) {o : Oper} {i : Nat} (hr : ∀ e ∈ o.after, Region.binds .any e = true → D e.on = true) (h : edgeR ops o i = true) : D i = true := by
  rw [edgeR, Bool.or_eq_true] at h
  rcases h with h | h
  · unfold edgeTo at h
    rw [List.any_eq_true] at h
    obtain ⟨e, he, hb⟩ := h
    simp only [Bool.and_eq_true, beq_iff_eq] at hb
    rw [← hb.2]
    exact hr e (by simpa using he) hb.1
  · exact reach_done hcl 4 hr h

/-- May this load come behind that store? -/
def lateS (X : Ctx) (ops : Array Oper) (i : Nat) (oi oj : Oper) : Bool :=
  match oi.op, oj.op with
  | .load _ (.tmp t), .store .. => (X.late oj.pos).contains t && (List.range ops.size).all fun k => decide (k < i) || (match ops[k]? with | some o => decide (o.dst ≠ some t) | none => true)
  | _, _ => false

def regOK (X : Ctx) (ops : Array Oper) : Bool :=
  (List.range ops.size).all fun j => match ops[j]? with
    | none => true
    | some oj => (oj.after.all fun e => !Region.binds .any e || decide (e.on < j)) && (List.range j).all fun i => match ops[i]? with
      | none => true
      | some oi => (edgeTo oj i || oi.apart ops oj) && (oi.dst.isNone || oi.dst != oj.dst) && (!effKind X oj || pureKind oi || edgeR ops oj i || lateS X ops i oi oj) && (!effKind X oi || pureKind oj || effKind X oj)

omit [Known] in
theorem pure_same {S S2 : Store} {fr : List AV} {o : Oper} {v : AV} (hp : pureKind o = true) (hs : stepA X true call ⟨fr, S⟩ o = some (v, S2)) : S2 = S := by
  obtain ⟨dst, op, ty, pos, after, guard⟩ := o
  unfold stepA at hs
  dsimp only at hs
  split at hs
  · injection hs with hs; injection hs with q1 q2; exact q2.symm
  · rename_i hpop
    clear hpop
    have nq : qopA X true S S.length fr ⟨dst, op, ty, pos, after, guard⟩ = none := by
      cases op <;> first | rfl | (simp only [pureKind] at hp; cases hp) | skip
    have nc : calleeOf X fr ⟨dst, op, ty, pos, after, guard⟩ = none := by
      cases op <;> first | rfl | skip
      rename_i c
      obtain ⟨callee, args, ats⟩ := c
      cases callee <;> first | rfl | (simp only [pureKind] at hp; cases hp)
    have ne : eopA X S fr ⟨dst, op, ty, pos, after, guard⟩ = none := by
      cases op <;> first | rfl | (simp only [pureKind] at hp; cases hp) | skip
      rename_i c
      obtain ⟨callee, args, ats⟩ := c
      cases callee <;> first | rfl | skip
      rename_i b
      cases b <;> first | rfl | (exfalso; simp [pureKind] at hp; done)
    rw [nq, nc] at hs
    dsimp only at hs
    split at hs
    · rename_i v' nb e1
      injection hs with hs; injection hs with q1 q2
      have : nb = [] := by
        cases op <;> simp only [nopA] at e1 <;> try (cases e1; done)
        · split at e1
          · simp only [if_true] at e1; injection e1 with e1; injection e1 with _ e2; exact e2.symm
          · rename_i h0; injection h0
          · rename_i h0; cases h0
          · cases e1
        · split at e1
          · rename_i h0; cases h0
          · simp only [if_true] at e1; injection e1 with e1; injection e1 with _ e2; exact e2.symm
          · rename_i h0; cases h0
          · cases e1
        · rename_i c
          obtain ⟨callee, args, ats⟩ := c
          cases callee with
          | builtin b => cases b <;> first | (exfalso; simp at e1; done) | (exfalso; simp [pureKind] at hp; done)
          | value f => cases e1
          | invoke r m => cases e1
      rw [← q2, this, List.append_nil]
    · split at hs
      · cases hs
      · rw [ne] at hs; cases hs

/-! ### Frames out of what has been done -/
def mixF (fr0 : List AV) (dst : Nat → Option Tmp) (val : Nat → AV) : Nat → (Nat → Bool) → List AV
  | 0, _ => fr0
  | n + 1, D => if D n then putA (mixF fr0 dst val n D) (dst n) (val n) else mixF fr0 dst val n D

section
variable {fr0 : List AV} {dst : Nat → Option Tmp} {val : Nat → AV}

omit [Known] in
theorem putA_len (fr : List AV) (d : Option Tmp) (v : AV) : (putA fr d v).length = fr.length := by cases d <;> simp [putA]

omit [Known] in
theorem mixF_len : ∀ (n : Nat) (D : Nat → Bool), (mixF fr0 dst val n D).length = fr0.length
  | 0, _ => rfl
  | n + 1, D => by
    simp only [mixF]
    split
    · rw [putA_len, mixF_len n D]
    · exact mixF_len n D

omit [Known] in
theorem getA_put (fr : List AV) (d : Option Tmp) (v : AV) (t : Nat) : getA (putA fr d v) t = if d = some t then (if t < fr.length then v else .junk) else getA fr t := by
  cases d with
  | none => simp [putA]
  | some d =>
    simp only [putA, getA, List.getD_eq_getElem?_getD, Option.some.injEq]
    by_cases h : d = t
    · subst h
      simp only [if_true]
      by_cases hl : d < fr.length
      · simp [hl]
      · simp [hl]
    · rw [if_neg h, List.getElem?_set_ne h]

omit [Known] in
theorem mixF_congr : ∀ (n : Nat) {D D' : Nat → Bool} {t : Nat}, (∀ k, k < n → dst k = some t → D k = D' k) → getA (mixF fr0 dst val n D) t = getA (mixF fr0 dst val n D') t
  | 0, _, _, _, _ => rfl
  | n + 1, D, D', t, h => by
    have ih := mixF_congr n (D := D) (D' := D') (t := t) fun k hk => h k (by omega)
    have el := mixF_len (fr0 := fr0) (dst := dst) (val := val) n D
    have el' := mixF_len (fr0 := fr0) (dst := dst) (val := val) n D'
    simp only [mixF]
    by_cases hd : dst n = some t
    · have := h n (by omega) hd
      rw [this]
      split
      · rw [getA_put, getA_put, el, el', if_pos hd, if_pos hd]
      · exact ih
    · have e1 : ∀ D : Nat → Bool, getA (if D n = true then putA (mixF fr0 dst val n D) (dst n) (val n) else mixF fr0 dst val n D) t = getA (mixF fr0 dst val n D) t := fun D => by
        split
        · rw [getA_put, if_neg hd]
        · rfl
      rw [e1, e1]; exact ih

omit [Known] in
theorem mixF_ext : ∀ (n : Nat) {D D' : Nat → Bool}, (∀ k, k < n → D k = D' k) → mixF fr0 dst val n D = mixF fr0 dst val n D'
  | 0, _, _, _ => rfl
  | n + 1, D, D', h => by
    simp only [mixF, mixF_ext n (fun k hk => h k (by omega)), h n (by omega)]

omit [Known] in
theorem mixF_lt : ∀ (n k : Nat), k ≤ n → mixF fr0 dst val n (fun j => decide (j < k)) = mixF fr0 dst val k (fun _ => true)
  | 0, k, h => by
    have : k = 0 := by omega
    subst this; rfl
  | n + 1, k, h => by
    by_cases hk : k = n + 1
    · subst hk
      exact mixF_ext _ fun j hj => by simp [hj]
    · simp only [mixF]
      rw [if_neg (by simp; omega)]
      exact mixF_lt n k (by omega)

omit [Known] in
theorem putA_comm {fr : List AV} {d d' : Option Tmp} {v v' : AV} (h : d.isNone = true ∨ d ≠ d') : putA (putA fr d v) d' v' = putA (putA fr d' v') d v := by
  cases d with
  | none => rfl
  | some d =>
    cases d' with
    | none => rfl
    | some d' =>
      have hne : d ≠ d' := by rcases h with h | h; cases h; exact fun e => h (by rw [e])
      simp only [putA]
      exact List.set_comm _ _ hne

omit [Known] in
theorem mixF_put : ∀ (n : Nat) {D D' : Nat → Bool} {i : Nat}, i < n → D i = false → (∀ k, D' k = (D k || decide (k = i))) → (∀ k, k < n → k ≠ i → (dst i).isNone = true ∨ dst i ≠ dst k) → mixF fr0 dst val n D' = putA (mixF fr0 dst val n D) (dst i) (val i)
  | 0, _, _, _, h, _, _, _ => by omega
  | n + 1, D, D', i, h, hD, hD', hne => by
    simp only [mixF]
    by_cases hi : i = n
    · subst hi
      have e1 : mixF fr0 dst val i D' = mixF fr0 dst val i D := mixF_ext _ fun k hk => by rw [hD' k]; simp; omega
      rw [e1, hD, hD']
      simp
    · have ih := mixF_put n (D := D) (D' := D') (i := i) (by omega) hD hD' fun k hk => hne k (by omega)
      have e2 : D' n = D n := by rw [hD' n]; simp; omega
      rw [ih, e2]
      split
      · exact (putA_comm (hne n (by omega) (fun h => hi h.symm)))
      · rfl
end

omit [Known] in
theorem trace {d : Bool} {ops : Array Oper} : ∀ (l : List Oper) {st st' : St}, opsA X d call ops l st = some st' → ∃ (frs : Nat → List AV) (Ss : Nat → Store) (val : Nat → AV), frs 0 = st.fr ∧ Ss 0 = st.S ∧ frs l.length = st'.fr ∧ Ss l.length = st'.S ∧
    ∀ k o, l[k]? = some o → frs (k + 1) = putA (frs k) o.dst (val k) ∧ ((guardA ops (frs k) o = some true ∧ stepA X d call ⟨frs k, Ss k⟩ o = some (val k, Ss (k + 1)) ∧ (d = true → lateOK X (frs k) o = true)) ∨ (guardA ops (frs k) o = some false ∧ val k = .flat undef ∧ Ss (k + 1) = Ss k))
  | [], st, st', h => by
    simp only [opsA] at h; injection h with h; subst h
    exact ⟨fun _ => st.fr, fun _ => st.S, fun _ => .junk, rfl, rfl, rfl, rfl, fun k o h => by simp at h⟩
  | o :: rest, st, st', h => by
    simp only [opsA] at h
    have go : ∀ (v : AV) (S1 : Store), opsA X d call ops rest ⟨putA st.fr o.dst v, S1⟩ = some st' → ((guardA ops st.fr o = some true ∧ stepA X d call ⟨st.fr, st.S⟩ o = some (v, S1) ∧ (d = true → lateOK X st.fr o = true)) ∨ (guardA ops st.fr o = some false ∧ v = .flat undef ∧ S1 = st.S)) →
        ∃ (frs : Nat → List AV) (Ss : Nat → Store) (val : Nat → AV), frs 0 = st.fr ∧ Ss 0 = st.S ∧ frs (o :: rest).length = st'.fr ∧ Ss (o :: rest).length = st'.S ∧
        ∀ k o', (o :: rest)[k]? = some o' → frs (k + 1) = putA (frs k) o'.dst (val k) ∧ ((guardA ops (frs k) o' = some true ∧ stepA X d call ⟨frs k, Ss k⟩ o' = some (val k, Ss (k + 1)) ∧ (d = true → lateOK X (frs k) o' = true)) ∨ (guardA ops (frs k) o' = some false ∧ val k = .flat undef ∧ Ss (k + 1) = Ss k)) := by
      intro v S1 hr hstep
      obtain ⟨frs, Ss, val, h1, h2, h3, h4, h5⟩ := trace rest hr
      refine ⟨fun | 0 => st.fr | k + 1 => frs k, fun | 0 => st.S | k + 1 => Ss k, fun | 0 => v | k + 1 => val k, rfl, rfl, h3, h4, fun k o' hk => ?_⟩
      cases k with
      | zero =>
        simp at hk; subst hk
        refine ⟨h1, ?_⟩
        rcases hstep with ⟨g1, g2, g4⟩ | ⟨g1, g2, g3⟩
        · exact .inl ⟨g1, by show _ = some (v, Ss 0); rw [h2]; exact g2, g4⟩
        · exact .inr ⟨g1, g2, by show Ss 0 = st.S; rw [h2]; exact g3⟩
      | succ k => exact h5 k o' (by simpa using hk)
    split at h
    · rename_i hg
      split at h
      · cases h
      rename_i hlt
      split at h
      · rename_i v S1 e1
        exact go v S1 h (.inl ⟨hg, e1, fun hd => by subst hd; simpa using hlt⟩)
      · cases h
    · rename_i hg
      exact go _ _ h (.inr ⟨hg, rfl, rfl⟩)
    · cases h
end
end Go.Eng
