/- A region that draws its order. -/
import Derived.Test.YtoeogoeahmlgnaaGreatDoorEngM
set_option linter.all false
namespace Go.Eng
open Go.RowKit
variable [Known]

section
variable {P : Program} {X : Ctx} {call : CallFn}

omit [Known] in
theorem eff_not_pure {o : Oper} (h : effKind X o = true) : pureKind o = false := by
  obtain ⟨dst, op, ty, pos, after, guard⟩ := o
  cases op <;> first | rfl | (simp [effKind] at h; done) | skip
  rename_i c
  obtain ⟨callee, args, ats⟩ := c
  cases callee with
  | builtin b => cases b <;> first | rfl | (simp [effKind] at h; done)
  | value f => rfl
  | invoke r m => rfl

theorem pure_step (hX : CtxOK P X) {S S2 : Store} {fr : List AV} {o : Oper} {v : AV} (hp : pureKind o = true) (hs : stepA X true call ⟨fr, S⟩ o = some (v, S2)) :
    S2 = S ∧ ∀ {w : World} {T B : Area} {I : Inj} {a : Act}, (∀ g, T g → B g) → (∀ x, vrep w (evalA fr x) T B I (a.eval x)) → ∃ u, (∀ w1, (execOp a.eval o).run P w1 = .ok (.value u) w1) ∧ vrep w v T B I u := by
  refine ⟨pure_same hp hs, fun {w T B I a} hTB hfr => ?_⟩
  cases e : popA X fr o with
  | some v' =>
    unfold stepA at hs
    simp only [e] at hs
    injection hs with hs; injection hs with q1 q2; subst q1
    exact pop_sound hX hTB hfr e
  | none =>
    obtain ⟨dst, op, ty, pos, after, guard⟩ := o
    have nilcase : ∀ (dst : Option Tmp) (op : Op) (ty : TypeId), (op = .move (.const (.slice none 0 0)) ∨ op = .assign (.const (.slice none 0 0))) → stepA X true call ⟨fr, S⟩ ⟨dst, op, ty, pos, after, guard⟩ = some (v, S2) →
        ∃ u, (∀ w1, (execOp a.eval ⟨dst, op, ty, pos, after, guard⟩).run P w1 = .ok (.value u) w1) ∧ vrep w v T B I u := by
      intro dst op ty hop hs
      rcases hop with rfl | rfl <;>
      · simp only [stepA, popA, qopA, nopA, if_true] at hs
        injection hs with hs; injection hs with q1 q2; subst q1
        exact ⟨.slice none 0 0, fun w1 => by simp [execOp, Act.eval], by simp only [vrep]⟩
    have other : nopA X true S S.length fr ⟨dst, op, ty, pos, after, guard⟩ = none → ∃ u, (∀ w1, (execOp a.eval ⟨dst, op, ty, pos, after, guard⟩).run P w1 = .ok (.value u) w1) ∧ vrep w v T B I u := by
      intro hn
      exfalso
      unfold stepA at hs
      dsimp only at hs
      rw [e, hn] at hs
      clear e hn
      have nq : qopA X true S S.length fr ⟨dst, op, ty, pos, after, guard⟩ = none := by
        cases op <;> first | rfl | (exfalso; simp [pureKind] at hp; done)
      have nc : calleeOf X fr ⟨dst, op, ty, pos, after, guard⟩ = none := by
        cases op <;> first | rfl | skip
        rename_i c
        obtain ⟨callee, args, ats⟩ := c
        cases callee <;> first | rfl | (exfalso; simp [pureKind] at hp; done)
      have ne : eopA X S fr ⟨dst, op, ty, pos, after, guard⟩ = none := by
        cases op <;> first | rfl | (exfalso; simp [pureKind] at hp; done) | skip
        rename_i c
        obtain ⟨callee, args, ats⟩ := c
        cases callee <;> first | rfl | skip
        rename_i b
        cases b <;> first | rfl | (exfalso; simp [pureKind] at hp; done)
      rw [nq, nc] at hs
      dsimp only at hs
      split at hs
      · cases hs
      · rw [ne] at hs; cases hs
    by_cases h1 : op = .move (.const (.slice none 0 0)) ∨ op = .assign (.const (.slice none 0 0))
    · exact nilcase dst op ty h1 hs
    · refine other ?_
      clear hs nilcase other e
      cases op <;> first | rfl | skip
      · unfold nopA
        split <;> first | rfl | (rename_i h0; cases h0; done) | (rename_i h0; exact absurd (.inl h0) h1)
      · unfold nopA
        split <;> first | rfl | (rename_i h0; cases h0; done) | (rename_i h0; exact absurd (.inr h0) h1)
      · rename_i c
        obtain ⟨callee, args, ats⟩ := c
        cases callee with
        | builtin b => cases b <;> first | rfl | (exfalso; simp [pureKind] at hp; done)
        | value f => rfl
        | invoke r m => rfl

omit [Known] in
theorem countP_set {l : List Nat} {p p' : Nat → Bool} {i : Nat} (hn : l.Nodup) (hi : i ∈ l) (hp : p i = true) (hp' : p' i = false) (h : ∀ k, k ≠ i → p' k = p k) : l.countP p = l.countP p' + 1 := by
  induction l with
  | nil => simp at hi
  | cons x xs ih =>
    rw [List.nodup_cons] at hn
    rcases List.mem_cons.1 hi with rfl | hi
    · have : xs.countP p = xs.countP p' := List.countP_congr fun k hk => by
        have : k ≠ i := fun e => hn.1 (e ▸ hk)
        rw [h k this]
      rw [List.countP_cons, List.countP_cons, this, hp, hp']; simp
    · have hx : x ≠ i := fun e => hn.1 (e ▸ hi)
      rw [List.countP_cons, List.countP_cons, ih hn.2 hi, h x hx]; omega

omit [Known] in
theorem lateS_not_eff {ops : Array Oper} {i : Nat} {oi oj : Oper} (h : lateS X ops i oi oj = true) : effKind X oi = false := by
  unfold lateS at h
  split at h
  · rename_i t tt t' p x h1 h2
    unfold effKind; rw [h1]
  · cases h
omit [Known] in
theorem lateS_load {ops : Array Oper} {i : Nat} {oi oj : Oper} (h : lateS X ops i oi oj = true) : ∃ t tt, oi.op = .load t (.tmp tt) ∧ ∀ q oq, i ≤ q → ops[q]? = some oq → oq.dst ≠ some tt := by
  unfold lateS at h
  split at h
  · rename_i t tt t' p x h1 h2
    refine ⟨t, tt, h1, fun q oq hq ho => ?_⟩
    simp only [Bool.and_eq_true] at h
    have := List.all_eq_true.1 h.2 q (List.mem_range.2 (Array.getElem?_eq_some_iff.1 ho).1)
    simp only [ho, Bool.or_eq_true, decide_eq_true_eq] at this
    rcases this with h3 | h3
    · omega
    · exact h3
  · cases h
/-- What a load reads. -/
def ldA (X : Ctx) (S : Store) (t : TypeId) (p : AV) : Option AV :=
  match X.ty t with
  | some i => match p with
    | .ptr b e sz row off => match rowOf S b e sz row with
      | some r => partA i r off
      | none => none
    | .tptr _ r off => partA i r off
    | .flat (.pointer (some ⟨g, 0, none⟩)) => match X.glob g with
      | some r => partA i r 0
      | none => none
    | _ => none
  | none => none
omit [Known] in
theorem ldA_q {S : Store} {id : Nat} {fr : List AV} {o : Oper} {t : TypeId} {x : Operand} {d : Bool} (ho : o.op = .load t x) : qopA X d S id fr o = (ldA X S t (evalA fr x)).map fun v => (v, []) := by
  obtain ⟨dst, op, ty, pos, after, guard⟩ := o
  simp only at ho; subst ho
  simp only [qopA, ldA]
  cases X.ty t with
  | none => rfl
  | some i =>
    simp only
    cases evalA fr x with
    | ptr b e sz row off =>
      simp only
      cases rowOf S b e sz row <;> rfl
    | tptr st r off => rfl
    | flat v =>
      cases v with
      | pointer a =>
        cases a with
        | none => rfl
        | some a =>
          obtain ⟨g, o, m⟩ := a
          cases o with
          | zero => cases m with
            | none =>
              simp only
              cases X.glob g <;> rfl
            | some _ => rfl
          | succ _ => cases m <;> rfl
      | _ => rfl
    | _ => rfl
omit [Known] in
theorem load_of_step {S S2 : Store} {fr : List AV} {o : Oper} {t : TypeId} {tt : Tmp} {v : AV} (ho : o.op = .load t (.tmp tt)) (h : stepA X true call ⟨fr, S⟩ o = some (v, S2)) : ldA X S t (getA fr tt) = some v := by
  have hq := ldA_q (X := X) (S := S) (id := S.length) (fr := fr) (d := true) ho
  have hp : popA X fr o = none := by unfold popA; rw [ho]
  unfold stepA at h
  simp only [hp, hq, evalA] at h
  cases hl : ldA X S t (getA fr tt) with
  | none =>
    exfalso
    have hn : nopA X true S S.length fr o = none := by unfold nopA; rw [ho]
    have hc : calleeOf X fr o = none := by unfold calleeOf; rw [ho]
    have he : eopA X S fr o = none := by unfold eopA; rw [ho]
    simp only [hl, Option.map_none, hn, hc, he] at h
    split at h <;> cases h
  | some v' =>
    simp only [hl, Option.map_some] at h
    injection h with h; injection h with h1 h2
    rw [h1]
omit [Known] in
theorem step_load {S : Store} {fr : List AV} {o : Oper} {t : TypeId} {tt : Tmp} {v : AV} (ho : o.op = .load t (.tmp tt)) (h : ldA X S t (getA fr tt) = some v) : stepA X true call ⟨fr, S⟩ o = some (v, S) := by
  have hq := ldA_q (X := X) (S := S) (id := S.length) (fr := fr) (d := true) ho
  have hp : popA X fr o = none := by unfold popA; rw [ho]
  unfold stepA
  simp only [hp, hq, evalA, h, Option.map_some, List.append_nil]
omit [Known] in
theorem load_ext {S S2 : Store} {t : TypeId} {p v : AV} (h : Ext S (sig S2)) (hl : ldA X S t p = some v) : ldA X S2 t p = some v := by
  unfold ldA at hl ⊢
  split at hl
  · rename_i i e1
    split at hl
    · rename_i b e sz row off
      split at hl
      · rename_i r e2
        have : rowOf S2 b e sz row = some r := by
          unfold rowOf at e2
          split at e2
          · rename_i rows sz' wep pr e3
            split at e2
            · rename_i hc
              obtain ⟨more, hm⟩ := (h _ _ e3).arr
              simp only [sig] at hm
              unfold rowOf
              rw [hm]
              simp only
              rw [if_pos hc, List.getElem?_append_left (List.getElem?_eq_some_iff.1 e2).1]
              exact e2
            · cases e2
          · cases e2
        simp only [this]; exact hl
      · cases hl
    · exact hl
    · exact hl
    · cases hl
  · cases hl
omit [Known] in
theorem load_store {ops : Array Oper} {k : Nat} {ok o : Oper} {t : TypeId} {tt : Tmp} {S S2 : Store} {fr frk : List AV} {v v' : AV} (hs : lateS X ops k ok o = true) (hok : ok.op = .load t (.tmp tt)) (hl : lateOK X fr o = true)
    (h : stepA X true call ⟨fr, S⟩ o = some (v, S2)) (hfr : getA fr tt = getA frk tt) (hld : ldA X S t (getA frk tt) = some v') : ldA X S2 t (getA frk tt) = some v' := by
  unfold lateS at hs
  rw [hok] at hs
  split at hs
  · rename_i t1 tt1 t2 p x e1 e2
    injection e1 with e3 e4
    injection e4 with e5
    subst e3 e5
    simp only [Bool.and_eq_true, List.contains_iff_mem] at hs
    unfold lateOK at hl
    rw [e2] at hl
    simp only at hl
    have ha := List.all_eq_true.1 hl tt hs.1
    rw [hfr] at ha
    -- what the store writes
    have hp : popA X fr o = none := by unfold popA; rw [e2]
    have hq : qopA X true S S.length fr o = none := by unfold qopA; rw [e2]
    have hn : nopA X true S S.length fr o = none := by unfold nopA; rw [e2]
    have hc : calleeOf X fr o = none := by unfold calleeOf; rw [e2]
    unfold stepA at h
    simp only [hp, hq, hn, hc] at h
    split at h
    · cases h
    · unfold eopA at h
      rw [e2] at h
      simp only at h
      split at h
      · rename_i i b e sz row off e6 e7
        split at h
        · rename_i rows sz' wep pr e8
          split at h
          · injection h with h; injection h with h1 h2
            subst h2
            unfold ldA at hld ⊢
            split at hld
            · rename_i i1 e11
              split at hld
              · rename_i b0 e0 sz0 row0 off0 e9
                rw [e7, e9] at ha
                simp only [apartA, decide_eq_true_eq] at ha
                simp only [rowOf, List.getElem?_set_ne (fun h => ha h.symm)] at hld ⊢
                exact hld
              · exact hld
              · exact hld
              · cases hld
            · cases hld
          · cases h
        · cases h
      · cases h
  · cases hs

variable (hX : CtxOK P X) (hO : CallOK P call) (hC : CallSound P call)
include hX hO hC

theorem drawn_sound {ops : Array Oper} {id : Nat} {Q : Exit → Act → World → Prop} {base : Nat} {fr0 : List AV} {S0 : Store} {st' : St} (hok : regOK X ops = true) (hs : opsA X true call ops ops.toList ⟨fr0, S0⟩ = some st')
    {T0 B0 : Area} {I0 : Inj} {w0 : World} {a0 : Act} (h0 : Rel base T0 B0 I0 (sig S0) w0) (hfr0 : listRep w0 fr0 T0 B0 I0 a0.tmps.toList)
    (hK : ∀ a' w' T' B' I', Step base T0 B0 I0 w0 T' B' I' w' → Rel base T' B' I' (sig st'.S) w' → listRep w' st'.fr T' B' I' a'.tmps.toList → a'.defers = a0.defers → Q .normal a' w') : (Code.region id ops true).wp P Q a0 w0 := by
  obtain ⟨frs, Ss, val, t1, t2, t3, t4, t5⟩ := trace ops.toList hs
  simp only [Array.length_toList] at t3 t4
  dsimp only at t1 t2
  -- what the check gives
  have hspec : ∀ j oj, ops[j]? = some oj → (∀ e ∈ oj.after, Region.binds .any e = true → e.on < j) ∧ ∀ i oi, i < j → ops[i]? = some oi → (edgeTo oj i = true ∨ oi.apart ops oj = true) ∧ (oi.dst.isNone = true ∨ oi.dst ≠ oj.dst) ∧ (effKind X oj = true → pureKind oi = true ∨ edgeR ops oj i = true ∨ lateS X ops i oi oj = true) ∧ (effKind X oi = true → pureKind oj = true ∨ effKind X oj = true) := by
    intro j oj hj
    have hjn := (Array.getElem?_eq_some_iff.1 hj).1
    have h1 := List.all_eq_true.1 hok j (List.mem_range.2 hjn)
    simp only [hj, Bool.and_eq_true] at h1
    refine ⟨fun e he hb => ?_, fun i oi hij hi => ?_⟩
    · have := Array.all_eq_true_iff_forall_mem.1 h1.1 e he
      simpa [hb] using this
    · have h2 := List.all_eq_true.1 h1.2 i (List.mem_range.2 hij)
      simp only [hi, Bool.and_eq_true, Bool.or_eq_true, Bool.not_eq_true', bne_iff_ne] at h2
      obtain ⟨⟨⟨q1, q2⟩, q3⟩, q4⟩ := h2
      refine ⟨q1, q2, fun he => ?_, fun he => ?_⟩
      · rcases q3 with ((q3 | q3) | q3) | q3
        · rw [he] at q3; cases q3
        · exact .inl q3
        · exact .inr (.inl q3)
        · exact .inr (.inr q3)
      · rcases q4 with (q4 | q4) | q4
        · rw [he] at q4; cases q4
        · exact .inl q4
        · exact .inr q4
  have hEE : ∀ {j oj i oi}, ops[j]? = some oj → i < j → ops[i]? = some oi → effKind X oj = true → effKind X oi = true → edgeR ops oj i = true := by
    intro j oj i oi hj hij hi h1 h2
    rcases ((hspec j oj hj).2 i oi hij hi).2.2.1 h1 with h3 | h3 | h3
    · rw [eff_not_pure h2] at h3; cases h3
    · exact h3
    · rw [lateS_not_eff h3] at h2; cases h2
  have hedge : ∀ {o : Oper} {i : Nat}, edgeTo o i = true → ∃ e ∈ o.after, Region.binds .any e = true ∧ e.on = i := by
    intro o i h
    unfold edgeTo at h
    rw [List.any_eq_true] at h
    obtain ⟨e, he, hb⟩ := h
    simp only [Bool.and_eq_true, beq_iff_eq] at hb
    exact ⟨e, by simpa using he, hb⟩
  let dst : Nat → Option Tmp := fun k => (ops[k]?).bind (·.dst)
  let eff : Nat → Bool := fun k => ((ops[k]?).map (effKind X)).getD false
  let pur : Nat → Bool := fun k => ((ops[k]?).map pureKind).getD false
  have hop : ∀ k, k < ops.size → ∃ o, ops[k]? = some o := fun k hk => ⟨_, Array.getElem?_eq_getElem hk⟩
  have heff : ∀ {k o}, ops[k]? = some o → eff k = effKind X o := fun {k o} h => by simp [eff, h]
  have hpur : ∀ {k o}, ops[k]? = some o → pur k = pureKind o := fun {k o} h => by simp [pur, h]
  have hdst : ∀ {k o}, ops[k]? = some o → dst k = o.dst := fun {k o} h => by simp [dst, h]
  have efflt : ∀ k, eff k = true → k < ops.size := fun k hk => by
    rcases Nat.lt_or_ge k ops.size with h | h
    · exact h
    · simp [eff, Array.getElem?_eq_none h] at hk
  have hstep : ∀ k o, ops[k]? = some o → frs (k + 1) = putA (frs k) o.dst (val k) ∧ ((guardA ops (frs k) o = some true ∧ stepA X true call ⟨frs k, Ss k⟩ o = some (val k, Ss (k + 1)) ∧ (true = true → lateOK X (frs k) o = true)) ∨ (guardA ops (frs k) o = some false ∧ val k = .flat undef ∧ Ss (k + 1) = Ss k)) := fun k o hk => t5 k o (by simpa using hk)
  -- frames
  have hF : ∀ k, k ≤ ops.size → frs k = mixF fr0 dst val k (fun _ => true) := by
    intro k
    induction k with
    | zero => intro _; exact t1
    | succ k ih =>
      intro hk
      obtain ⟨o, ho⟩ := hop k (by omega)
      rw [(hstep k o ho).1, ih (by omega)]
      simp only [mixF, if_true, hdst ho]
  -- stores
  have H1 : ∀ k, k < ops.size → eff k = false → Ext (Ss k) (sig (Ss (k + 1))) := by
    intro k hk he
    obtain ⟨o, ho⟩ := hop k hk
    rcases (hstep k o ho).2 with ⟨_, h2, _⟩ | ⟨_, _, h2⟩
    · exact (quiet_step hX hO hC (by rw [← heff ho]; exact he) h2).1
    · rw [h2]; exact Ext.refl
  have H2 : ∀ k, k < ops.size → pur k = true → Ss (k + 1) = Ss k := by
    intro k hk he
    obtain ⟨o, ho⟩ := hop k hk
    rcases (hstep k o ho).2 with ⟨_, h2, _⟩ | ⟨_, _, h2⟩
    · exact pure_same (by rw [← hpur ho]; exact he) h2
    · exact h2
  have behind : ∀ i j, i < j → j < ops.size → eff i = true → pur j = true ∨ eff j = true := by
    intro i j hij hj hi
    obtain ⟨oj, hoj⟩ := hop j hj
    obtain ⟨oi, hoi⟩ := hop i (by omega)
    rw [heff hoi] at hi
    rw [hpur hoj, heff hoj]
    exact ((hspec j oj hoj).2 i oi hij hoi).2.2.2 hi
  have H3 : ∀ j k, j < k → k ≤ ops.size → eff j = true → (∀ i, j < i → i < k → eff i = false) → Ss k = Ss (j + 1) := by
    intro j k hjk hk hj hno
    induction k with
    | zero => omega
    | succ k ih =>
      by_cases hjk' : j = k
      · subst hjk'; rfl
      · rw [H2 k (by omega) ((behind j k (by omega) (by omega) hj).resolve_right (by rw [hno k (by omega) (by omega)]; simp))]
        exact ih (by omega) (by omega) fun i h1 h2 => hno i h1 (by omega)
  have H4 : ∀ c, c ≤ ops.size → (∀ k, k < c → eff k = false) → ∀ k k', k ≤ k' → k' ≤ c → Ext (Ss k) (sig (Ss k')) := by
    intro c hc hno k k' hkk hkc
    induction k' with
    | zero =>
      have : k = 0 := by omega
      subst this; exact Ext.refl
    | succ k' ih =>
      by_cases h : k = k' + 1
      · subst h; exact Ext.refl
      · exact (ih (by omega) (by omega)).trans (H1 k' (by omega) (hno k' (by omega)))
  -- the first operation that writes
  have first : ∃ m, m ≤ ops.size ∧ (∀ k, k < m → eff k = false) ∧ (m = ops.size ∨ eff m = true) := by
    have : ∀ n, ∃ m, m ≤ n ∧ (∀ k, k < m → eff k = false) ∧ (m = n ∨ eff m = true) := by
      intro n
      induction n with
      | zero => exact ⟨0, Nat.le_refl _, fun k hk => by omega, .inl rfl⟩
      | succ n ih =>
        obtain ⟨m, h1, h2, h3⟩ := ih
        rcases h3 with h3 | h3
        · subst h3
          by_cases he : eff m = true
          · exact ⟨m, by omega, h2, .inr he⟩
          · refine ⟨m + 1, Nat.le_refl _, fun k hk => ?_, .inl rfl⟩
            by_cases hkm : k = m
            · subst hkm; simpa using he
            · exact h2 k (by omega)
        · exact ⟨m, by omega, h2, .inr h3⟩
    exact this ops.size
  obtain ⟨m, hm1, hm2, hm3⟩ := first
  let LT : Nat → Nat → Prop := fun k c => ∀ ok, ops[k]? = some ok → guardA ops (frs k) ok = some true → stepA X true call ⟨frs k, Ss c⟩ ok = some (val k, Ss c)
  let Phase : (Nat → Bool) → Inj → Nat → Prop := fun D I c =>
    (c = m ∧ (∀ k, eff k = true → D k = false) ∧ (∀ k, k < ops.size → D k = false → eff k = false → pur k = false → ∀ b e, NewV (Ss k) (Ss (k + 1)) b e → I b e = none) ∧
      ∀ k, k < m → D k = true → ∀ b e, NewV (Ss k) (Ss (k + 1)) b e → 0 < lenOf (Ss k) b → I b (lenOf (Ss k) b) ≠ none) ∨
    (∃ j, c = j + 1 ∧ eff j = true ∧ D j = true ∧ (∀ k, eff k = true → j < k → D k = false) ∧ ∀ k, k < ops.size → eff k = false → pur k = false → D k = true ∨ LT k (j + 1))
  let Inv : (Nat → Bool) → Act → World → Prop := fun D a w => ∃ T B I c, Step base T0 B0 I0 w0 T B I w ∧ Rel base T B I (sig (Ss c)) w ∧ listRep w (mixF fr0 dst val ops.size D) T B I a.tmps.toList ∧ a.defers = a0.defers ∧ Phase D I c
  have qlt : ∀ k, k < ops.size → eff k = false → pur k = false → k < m := by
    intro k hk h1 h2
    rcases Nat.lt_or_ge k m with h | h
    · exact h
    · rcases hm3 with h3 | h3
      · omega
      · rcases Nat.eq_or_lt_of_le h with h4 | h4
        · subst h4; rw [h1] at h3; cases h3
        · rcases behind m k h4 hk h3 with h5 | h5
          · rw [h5] at h2; cases h2
          · rw [h5] at h1; cases h1
  have writes : ∀ k t, (∀ q oq, k ≤ q → ops[q]? = some oq → oq.dst ≠ some t) → ∀ n, k ≤ n → n ≤ ops.size → getA (frs n) t = getA (frs k) t := by
    intro k t hno n hkn hn
    induction n with
    | zero =>
      have : k = 0 := by omega
      subst this; rfl
    | succ n ih =>
      by_cases h : k = n + 1
      · subst h; rfl
      · obtain ⟨o, ho⟩ := hop n (by omega)
        rw [(hstep n o ho).1, getA_put, if_neg (hno n o (by omega) ho)]
        exact ih (by omega) (by omega)
  have chain : ∀ k ok, ops[k]? = some ok → k < m → guardA ops (frs k) ok = some true → (∃ (j : Nat) (oj : Oper), ops[j]? = some oj ∧ effKind X oj = true ∧ lateS X ops k ok oj = true) → ∀ n, k ≤ n → n ≤ ops.size →
      (∀ (j : Nat) (oj : Oper), m ≤ j → j < n → ops[j]? = some oj → effKind X oj = true → lateS X ops k ok oj = true) → stepA X true call ⟨frs k, Ss n⟩ ok = some (val k, Ss n) := by
    intro k ok hk hkm hg ⟨j0, oj0, _, _, hl0⟩ n hkn hn hall
    obtain ⟨t, tt, hok', hno⟩ := lateS_load hl0
    have hst := (hstep k ok hk).2.resolve_right (fun h => by rw [hg] at h; exact absurd h.1 (by simp))
    refine step_load hok' ?_
    have hld := load_of_step hok' hst.2.1
    induction n with
    | zero =>
      have : k = 0 := by omega
      subst this; exact hld
    | succ n ih =>
      by_cases h : k = n + 1
      · subst h; exact hld
      · have ih := ih (by omega) (by omega) fun j oj h1 h2 => hall j oj h1 (by omega)
        obtain ⟨o, ho⟩ := hop n (by omega)
        by_cases he : eff n = true
        · have hmn : m ≤ n := by
            rcases Nat.lt_or_ge n m with h | h
            · rw [hm2 n h] at he; cases he
            · exact h
          rw [heff ho] at he
          have hl := hall n o hmn (by omega) ho he
          rcases (hstep n o ho).2 with ⟨_, h2, h3⟩ | ⟨_, _, h2⟩
          · refine load_store hl hok' (h3 rfl) h2 (writes k tt (fun q oq h1 h2 => hno q oq h1 h2) n (by omega) (by omega)) ih
          · rw [h2]; exact ih
        · exact load_ext (H1 n (by omega) (by simpa using he)) ih
  -- versions
  have disj : ∀ k k', k < m → k' < m → k ≠ k' → ∀ b e, NewV (Ss k) (Ss (k + 1)) b e → NewV (Ss k') (Ss (k' + 1)) b e → False := by
    have key : ∀ k k', k < k' → k' < m → ∀ b e, NewV (Ss k) (Ss (k + 1)) b e → NewV (Ss k') (Ss (k' + 1)) b e → False := fun k k' h1 h2 b e n1 n2 =>
      n2.2 ((H4 m hm1 hm2 (k + 1) k' (by omega) (by omega)).cov n1.1)
    intro k k' h1 h2 hne b e n1 n2
    rcases Nat.lt_or_ge k k' with h | h
    · exact key k k' h h2 b e n1 n2
    · exact key k' k (by omega) h1 b e n2 n1
  have firstCov : ∀ i n b e, i ≤ n → ¬ Cov (Ss i) b e → Cov (Ss n) b e → ∃ k, i ≤ k ∧ k < n ∧ NewV (Ss k) (Ss (k + 1)) b e := by
    intro i n b e hin hi
    induction n with
    | zero =>
      intro hn
      have : i = 0 := by omega
      subst this; exact absurd hn hi
    | succ n ih =>
      intro hn
      by_cases h : i = n + 1
      · subst h; exact absurd hn hi
      · by_cases h2 : Cov (Ss n) b e
        · obtain ⟨k, k1, k2, k3⟩ := ih (by omega) h2
          exact ⟨k, k1, by omega, k3⟩
        · exact ⟨n, by omega, by omega, hn, h2⟩
  have beyond : ∀ (D : Nat → Bool) (T B : Area) (I : Inj) (w : World) (i : Nat), Rel base T B I (sig (Ss m)) w → i < m → D i = false →
      (∀ k, k < ops.size → D k = false → eff k = false → pur k = false → ∀ b e, NewV (Ss k) (Ss (k + 1)) b e → I b e = none) → (∀ k, k < m → D k = true → ∀ b e, NewV (Ss k) (Ss (k + 1)) b e → 0 < lenOf (Ss k) b → I b (lenOf (Ss k) b) ≠ none) →
      ∀ e b e0, NewV (Ss i) (Ss (i + 1)) b e0 → 0 < e0 → ¬ Cov (Ss i) b e → I b e = none := by
    intro D T B I w i rel him hDi hA hC' e
    induction e using Nat.strongRecOn with
    | _ e ih =>
      intro b e0 hv hpos hnc
      cases hi : I b e with
      | none => rfl
      | some p =>
        exfalso
        obtain ⟨k, k1, k2, k3⟩ := firstCov i m b e (by omega) hnc (rel.cov hi)
        have hek := hm2 k k2
        have hpk : pur k = false := by
          cases h : pur k with
          | false => rfl
          | true => rw [H2 k (by omega) h] at k3; exact absurd k3 newV_self
        have hDk : D k = true := by
          cases h : D k with
          | true => rfl
          | false => rw [hA k (by omega) h hek hpk b e k3] at hi; cases hi
        have hki : k ≠ i := fun h => by rw [h, hDi] at hDk; cases hDk
        obtain ⟨c1, c2⟩ := lenOf_cov ((H4 m hm1 hm2 (i + 1) k (by omega) (by omega)).cov hv.1)
        have hlt : lenOf (Ss k) b < e := by
          rcases Nat.lt_or_ge (lenOf (Ss k) b) e with h | h
          · exact h
          · exact absurd (c1.le h) k3.2
        exact hC' k k2 hDk b e k3 (by omega) (ih _ hlt b e0 hv hpos fun h => hv.2 (h.le c2))
  -- one step
  have step : ∀ (D D' : Nat → Bool) (a : Act) (w : World) (i : Nat) (o : Oper), ops[i]? = some o → D i = false → (∀ k, D' k = (D k || decide (k = i))) → (∀ e ∈ o.after, Region.binds .any e = true → D e.on = true) →
      (∀ k ok, ops[k]? = some ok → D k = true → ∀ e ∈ ok.after, Region.binds .any e = true → D e.on = true) → Inv D a w → wpOp P ops Q i (fun a' w' => Inv D' a' w') a w := by
    intro D D' a w i o ho hDi hD' hready hclosed ⟨T, B, I, c, st, rel, hl, hdef, hph⟩
    have hin := (Array.getElem?_eq_some_iff.1 ho).1
    have hother : ∀ k, k < ops.size → k ≠ i → (dst i).isNone = true ∨ dst i ≠ dst k := by
      intro k hk hne
      obtain ⟨ok, hok'⟩ := hop k hk
      rw [hdst ho, hdst hok']
      rcases Nat.lt_or_ge k i with h | h
      · rcases ((hspec i o ho).2 k ok h hok').2.1 with h1 | h1
        · by_cases h2 : o.dst.isNone = true
          · exact .inl h2
          · right; intro e; rw [e] at h2; exact h2 h1
        · exact .inr fun e => h1 e.symm
      · exact ((hspec k ok hok').2 i o (by omega) ho).2.1
    have hput := mixF_put (fr0 := fr0) (val := val) ops.size hin hDi hD' hother
    -- what it looks at is as in the text's order
    have hlook : ∀ t, t ∈ o.looksAt ops → getA (mixF fr0 dst val ops.size D) t = getA (frs i) t := by
      intro t ht
      rw [hF i (by omega), ← mixF_lt ops.size i (by omega)]
      refine mixF_congr ops.size fun k hk hkt => ?_
      obtain ⟨ok, hok'⟩ := hop k hk
      rw [hdst hok'] at hkt
      rcases Nat.lt_trichotomy k i with h | h | h
      · rcases ((hspec i o ho).2 k ok h hok').1 with h1 | h1
        · obtain ⟨e, he1, he2, he3⟩ := hedge h1
          have := hready e he1 he2
          rw [he3] at this
          simp [this, h]
        · exact absurd ht ((Oper.apart_spec h1).1 t hkt)
      · subst h; simp [hDi]
      · rcases ((hspec k ok hok').2 i o h ho).1 with h1 | h1
        · have : D k = false := by
            cases hdk : D k with
            | false => rfl
            | true =>
              obtain ⟨e, he1, he2, he3⟩ := hedge h1
              have := hclosed k ok hok' hdk e he1 he2
              rw [he3, hDi] at this; cases this
          simp [this]; omega
        · exact absurd ht ((Oper.apart_spec h1).2.2 t hkt)
    have heval : ∀ x ∈ o.op.operands.toList, evalA (frs i) x = evalA (mixF fr0 dst val ops.size D) x := by
      intro x hx
      cases x with
      | tmp t =>
        simp only [evalA]
        refine (hlook t ?_).symm
        simp only [Oper.looksAt, List.mem_append, List.mem_filterMap]
        exact .inl ⟨_, hx, rfl⟩
      | _ => rfl
    have hguard : guardA ops (mixF fr0 dst val ops.size D) o = guardA ops (frs i) o := by
      unfold guardA
      cases hg : o.guard with
      | none => rfl
      | some g =>
        obtain ⟨j, want⟩ := g
        simp only
        cases hd : (ops[j]?).bind (·.dst) with
        | none => rfl
        | some d =>
          simp only
          rw [hlook d (by simp only [Oper.looksAt, hg, hd, List.mem_append]; right; simp)]
    obtain ⟨hfrs, hcase⟩ := hstep i o ho
    -- the relation behind it, put together
    have fin : ∀ {T' B' : Area} {I' : Inj} {w' : World} {u : Value} {c' : Nat}, Step base T B I w T' B' I' w' → Rel base T' B' I' (sig (Ss c')) w' → vrep w' (val i) T' B' I' u → Phase D' I' c' → Inv D' (a.put o.dst u) w' := by
      intro T' B' I' w' u c' h1 h2 h3 h4
      refine ⟨T', B', I', c', st.trans h1, h2, ?_, by rw [put_defers]; exact hdef, h4⟩
      rw [hput, hdst ho]
      exact put_rep o.dst (listRep_mono _ h1.mono rel.TB hl) h3
    have hfr := eval_rep hl
    -- phases
    have keep : eff i = false → ∀ I' : Inj, (∀ b e p, I b e = some p → I' b e = some p) → (∀ k, k < ops.size → D' k = false → eff k = false → pur k = false → ∀ b e, NewV (Ss k) (Ss (k + 1)) b e → I b e = none → I' b e = none) →
        (∀ b e, NewV (Ss i) (Ss (i + 1)) b e → 0 < lenOf (Ss i) b → I b (lenOf (Ss i) b) ≠ none) → Phase D' I' c := by
      intro he I' hmono hI' hCi
      rcases hph with ⟨p1, p2, p3, p6⟩ | ⟨j, p1, p2, p3, p4, p5⟩
      · refine .inl ⟨p1, fun k hk => ?_, fun k hk hd h1 h2 b e hv => ?_, fun k hk hd b e hv hpos hn => ?_⟩
        · rw [hD' k, p2 k hk]
          have : k ≠ i := fun e => by rw [e, he] at hk; cases hk
          simp [this]
        · have hd2 : D k = false := by rw [hD' k] at hd; simp at hd; exact hd.1
          exact hI' k hk hd h1 h2 b e hv (p3 k hk hd2 h1 h2 b e hv)
        · have hne : I b (lenOf (Ss k) b) ≠ none := by
            by_cases hki : k = i
            · subst hki; exact hCi b e hv hpos
            · rw [hD' k] at hd
              simp [hki] at hd
              exact p6 k hk hd b e hv hpos
          cases hi : I b (lenOf (Ss k) b) with
          | none => exact hne hi
          | some p => rw [hmono _ _ _ hi] at hn; cases hn
      · refine .inr ⟨j, p1, p2, by rw [hD' j, p3]; rfl, fun k hk hjk => ?_, fun k hk h1 h2 => (p5 k hk h1 h2).imp_left fun h => by rw [hD' k, h]; rfl⟩
        rw [hD' k, p4 k hk hjk]
        have : k ≠ i := fun e => by rw [e, he] at hk; cases hk
        simp [this]
    have wr : eff i = true → Ss c = Ss i ∧ ∀ I', Phase D' I' (i + 1) := by
      intro he
      have heo : effKind X o = true := by rw [← heff ho]; exact he
      have hnp : pureKind o = false := eff_not_pure heo
      constructor
      · rcases hph with ⟨p1, p2, p3, _⟩ | ⟨j, p1, p2, p3, p4, p5⟩
        · subst p1
          have hci : c ≤ i := by
            rcases Nat.lt_or_ge i c with h | h
            · rw [hm2 i h] at he; cases he
            · exact h
          rcases Nat.eq_or_lt_of_le hci with h | h
          · rw [h]
          · exfalso
            have hec : eff c = true := hm3.resolve_left (by omega)
            obtain ⟨oc, hoc⟩ := hop c (by omega)
            have := edgeR_done hclosed hready (hEE ho h hoc heo (by rw [← heff hoc]; exact hec))
            rw [p2 c hec] at this; cases this
        · subst p1
          have hjn := efflt j p2
          obtain ⟨oj, hoj⟩ := hop j hjn
          have hji : j < i := by
            rcases Nat.lt_trichotomy j i with h | h | h
            · exact h
            · subst h; rw [hDi] at p3; cases p3
            · exfalso
              have := edgeR_done hclosed (hclosed j oj hoj p3) (hEE hoj h ho (by rw [← heff hoj]; exact p2) heo)
              rw [hDi] at this; cases this
          refine (H3 j i hji (by omega) p2 fun k h1 h2 => ?_).symm
          cases hek : eff k with
          | false => rfl
          | true =>
            exfalso
            obtain ⟨ok, hok'⟩ := hop k (by omega)
            have := edgeR_done hclosed hready (hEE ho h2 hok' heo (by rw [← heff hok']; exact hek))
            rw [p4 k hek h1] at this; cases this
      · intro I'
        refine .inr ⟨i, rfl, he, by rw [hD' i]; simp, fun k hk hik => ?_, fun k hk h1 h2 => ?_⟩
        · obtain ⟨ok, hok'⟩ := hop k (efflt k hk)
          have : D k = false := by
            cases hdk : D k with
            | false => rfl
            | true =>
              exfalso
              have := edgeR_done hclosed (hclosed k ok hok' hdk) (hEE hok' hik ho (by rw [← heff hok']; exact hk) heo)
              rw [hDi] at this; cases this
          rw [hD' k, this]; simp; omega
        · have hki : k < i := by
            rcases Nat.lt_trichotomy k i with h | h | h
            · exact h
            · subst h; rw [he] at h1; cases h1
            · rcases behind i k h hk he with h3 | h3
              · rw [h3] at h2; cases h2
              · rw [h3] at h1; cases h1
          obtain ⟨ok, hok'⟩ := hop k hk
          cases hDk : D k with
          | true => exact .inl (by rw [hD' k, hDk]; rfl)
          | false =>
            right
            have none' : ∀ j oj, k < j → j ≤ i → ops[j]? = some oj → effKind X oj = true → lateS X ops k ok oj = true := by
              intro j oj hkj hji hj hej
              rcases ((hspec j oj hj).2 k ok hkj hok').2.2.1 hej with h3 | h3 | h3
              · rw [hpur hok'] at h2; rw [h3] at h2; cases h2
              · exfalso
                rcases Nat.eq_or_lt_of_le hji with h4 | h4
                · subst h4
                  rw [ho] at hj; injection hj with hj; subst hj
                  have := edgeR_done hclosed hready h3
                  rw [hDk] at this; cases this
                · have h5 := edgeR_done hclosed hready (hEE ho h4 hj heo hej)
                  have := edgeR_done hclosed (hclosed j oj hj h5) h3
                  rw [hDk] at this; cases this
              · exact h3
            intro ok2 hok2 hg
            rw [hok'] at hok2; injection hok2 with hok2; subst hok2
            have hkm := qlt k hk h1 h2
            exact chain k ok hok' hkm hg ⟨i, o, ho, heo, none' i o hki (Nat.le_refl _) ho heo⟩ (i + 1) (by omega) (by omega) fun j oj h3 h4 h5 h6 => none' j oj (by omega) (by omega) h5 h6
    unfold wpOp
    rw [ho]
    simp only
    rcases hcase with ⟨g1, g2, _⟩ | ⟨g1, g2, g3⟩
    · rw [if_pos (guard_rep (hguard.trans g1) hl)]
      left
      rw [stepA_congr heval] at g2
      by_cases he : eff i = true
      · obtain ⟨e1, e2⟩ := wr he
        rw [e1] at rel
        exact full_step hX hO hC rel hfr g2 fun u w' T' B' I' h1 h2 h3 => fin h1 h2 h3 (e2 I')
      · have he' : eff i = false := by simpa using he
        by_cases hp : pur i = true
        · have hpo : pureKind o = true := by rw [← hpur ho]; exact hp
          obtain ⟨_, hps⟩ := pure_step hX hpo g2
          obtain ⟨u, u1, u2⟩ := hps rel.TB hfr
          unfold Oper.wp
          rw [u1]
          have hsame := pure_same hpo g2
          exact fin Step.refl rel u2 (keep he' I (fun _ _ _ h => h) (fun _ _ _ _ _ _ _ _ h => h) (fun b e hv => by rw [hsame] at hv; exact absurd hv newV_self))
        · have hp' : pur i = false := by simpa using hp
          have him := qlt i hin he' hp'
          by_cases hlt : c ≠ m ∨ ¬ (∀ k, eff k = true → D k = false)
          · obtain ⟨j, p1, p2, p3, p4, p5⟩ := hph.resolve_left fun h => by rcases hlt with h1 | h1; exact h1 h.1; exact h1 h.2.1
            have hL := (p5 i hin he' hp').resolve_left (by rw [hDi]; simp) o ho g1
            rw [stepA_congr heval, ← p1] at hL
            refine full_step hX hO hC rel hfr hL fun u w' T' B' I' h1 h2 h3 => fin h1 h2 h3 (.inr ⟨j, p1, p2, by rw [hD' j, p3]; rfl, fun k hk hjk => ?_, fun k hk h1 h2 => (p5 k hk h1 h2).imp_left fun h => by rw [hD' k, h]; rfl⟩)
            rw [hD' k, p4 k hk hjk]
            have : k ≠ i := fun e => by rw [e, he'] at hk; cases hk
            simp [this]
          obtain ⟨p1, p2, p3, p6⟩ : c = m ∧ (∀ k, eff k = true → D k = false) ∧ (∀ k, k < ops.size → D k = false → eff k = false → pur k = false → ∀ b e, NewV (Ss k) (Ss (k + 1)) b e → I b e = none) ∧ ∀ k, k < m → D k = true → ∀ b e, NewV (Ss k) (Ss (k + 1)) b e → 0 < lenOf (Ss k) b → I b (lenOf (Ss k) b) ≠ none := by
            rcases hph with h | ⟨j, _, p2, p3, _, _⟩
            · exact h
            · exact absurd (fun h => by rw [h j p2] at p3; cases p3) (fun h => hlt (.inr h))
          have hrel := rel
          rw [p1] at hrel
          refine (quiet_step hX hO hC (by rw [← heff ho]; exact he') g2).2 rel (by rw [p1]; exact H4 m hm1 hm2 (i + 1) m (by omega) (Nat.le_refl _)) (p3 i hin hDi he' hp') (fun b e0 e hv hpos hnc => beyond D T B I w i hrel him hDi p3 p6 e b e0 hv hpos hnc) hfr fun u w' T' B' I' h1 h2 h3 h4 h5 => fin h1 h2 h3 (keep he' I' h1.mono.tI (fun k hk hd k1 k2 b e hv hn => ?_) h5)
          cases hi' : I' b e with
          | none => rfl
          | some p =>
            rcases h4 b e p hi' with h6 | h6
            · rw [hn] at h6; cases h6
            · exact (disj k i (qlt k hk k1 k2) him (fun e => by subst e; rw [hD' k] at hd; simp at hd) b e hv h6).elim
    · rw [if_neg (by rw [guard_rep (hguard.trans g1) hl]; simp)]
      have hv : vrep w (val i) T B I undef := by rw [g2]; exact junk_rep
      by_cases he : eff i = true
      · obtain ⟨e1, e2⟩ := wr he
        exact fin (c' := i + 1) Step.refl (by rw [g3, ← e1]; exact rel) hv (e2 I)
      · exact fin Step.refl rel hv (keep (by simpa using he) I (fun _ _ _ h => h) (fun _ _ _ _ _ _ _ _ h => h) (fun b e hv => by rw [g3] at hv; exact absurd hv newV_self))
  -- the end
  have done : ∀ (D : Nat → Bool) (a : Act) (w : World), (∀ k, k < ops.size → D k = true) → Inv D a w → Q .normal a w := by
    intro D a w hall ⟨T, B, I, c, st, rel, hl, hdef, hph⟩
    have hc : Ss c = Ss ops.size := by
      rcases hph with ⟨p1, p2, p3, _⟩ | ⟨j, p1, p2, p3, p4, p5⟩
      · subst p1
        rcases hm3 with h | h
        · rw [h]
        · have := p2 c h
          rw [hall c (efflt c h)] at this; cases this
      · subst p1
        have hjn := efflt j p2
        refine (H3 j ops.size hjn (Nat.le_refl _) p2 fun i h1 h2 => ?_).symm
        cases hei : eff i with
        | false => rfl
        | true => have := p4 i hei h1; rw [hall i h2] at this; cases this
    refine hK a w T B I st (by rw [← t4, ← hc]; exact rel) ?_ hdef
    rw [← t3, hF ops.size (Nat.le_refl _), mixF_ext ops.size (D := fun _ => true) (D' := D) fun k hk => (hall k hk).symm]
    exact hl
  -- every order
  have go : ∀ (fuel : Nat) (listed : Array Bool) (a : Act) (w : World), listed.size = ops.size → (List.range ops.size).countP (fun k => !listed.getD k true) = fuel →
      (∀ k ok, ops[k]? = some ok → listed.getD k false = true → ∀ e ∈ ok.after, Region.binds .any e = true → listed.getD e.on false = true) → Inv (fun k => listed.getD k false) a w → wpAny P .any ops Q fuel listed a w := by
    intro fuel
    have same : ∀ {listed : Array Bool} {k : Nat}, listed.size = ops.size → k < ops.size → listed.getD k true = listed.getD k false := fun {listed k} hsz hk => by
      simp [show k < listed.size by omega]
    have allready : ∀ {listed : Array Bool}, listed.size = ops.size → Region.ready .any ops listed = [] → ∀ k, k < ops.size → listed.getD k false = true := by
      intro listed hsz hr k
      induction k using Nat.strongRecOn with
      | _ k ih =>
        intro hk
        cases hkk : listed.getD k false with
        | true => rfl
        | false =>
          exfalso
          obtain ⟨o, ho⟩ := hop k hk
          have : k ∈ Region.ready .any ops listed := mem_ready.2 ⟨by rw [same hsz hk]; exact hkk, o, ho, fun e he hb => by
            have := (hspec k o ho).1 e he hb
            exact ih e.on this (by omega)⟩
          rw [hr] at this
          simp at this
    induction fuel with
    | zero =>
      intro listed a w hsz hcnt hcl hinv
      have hall : ∀ k, k < ops.size → listed.getD k false = true := fun k hk => by
        rw [List.countP_eq_zero] at hcnt
        have := hcnt k (List.mem_range.2 hk)
        rw [same hsz hk] at this
        simpa using this
      refine ⟨?_, done _ a w hall hinv⟩
      rw [List.eq_nil_iff_forall_not_mem]
      intro k hk
      obtain ⟨h1, o, ho, _⟩ := mem_ready.1 hk
      have hkn := (Array.getElem?_eq_some_iff.1 ho).1
      rw [same hsz hkn, hall k hkn] at h1; cases h1
    | succ fuel ih =>
      intro listed a w hsz hcnt hcl hinv
      refine ⟨fun hr => done _ a w (allready hsz hr) hinv, fun i hi => ?_⟩
      obtain ⟨h1, o, ho, h2⟩ := mem_ready.1 hi
      have hin := (Array.getElem?_eq_some_iff.1 ho).1
      have hD' : ∀ k, (listed.setIfInBounds i true).getD k false = (listed.getD k false || decide (k = i)) := by
        intro k
        by_cases hki : k = i
        · subst hki
          simp [show k < listed.size by omega]
        · rw [getD_set_ne false (fun e => hki e.symm)]; simp [hki]
      refine wpOp_mono (fun a' w' hinv' => ih (listed.setIfInBounds i true) a' w' (by simpa using hsz) ?_ ?_ hinv') (step _ _ a w i o ho (by rw [← same hsz hin]; exact h1) hD' h2 hcl hinv)
      · have hc := countP_set (l := List.range ops.size) (p := fun k => !listed.getD k true) (p' := fun k => !(listed.setIfInBounds i true).getD k true) (i := i) List.nodup_range (List.mem_range.2 hin) (by simp only [h1]; rfl) (by
          have : (listed.setIfInBounds i true).getD i true = true := by
            simp [show i < listed.size by omega]
          rw [this]; rfl) (fun k hk => by rw [getD_set_ne true (fun e => hk e.symm)])
        omega
      · intro k ok hk hd e he hb
        rw [hD'] at hd ⊢
        by_cases hki : k = i
        · subst hki
          rw [ho] at hk
          injection hk with hk; subst hk
          rw [h2 e he hb]; rfl
        · simp [hki] at hd
          rw [hcl k ok hk (by simpa using hd) e he hb]; rfl
  refine wp_region_any hX.mixed (go ops.size _ a0 _ (by simp) ?_ ?_ ?_)
  · rw [List.countP_eq_length.2]
    · simp
    · intro k hk
      have := List.mem_range.1 hk
      simp [this]
  · intro k ok hk hd
    have hkn := (Array.getElem?_eq_some_iff.1 hk).1
    simp [hkn] at hd
  · have hrel0 : Rel base T0 B0 I0 (sig S0) { w0 with drawn := w0.drawn + 1 } := h0.heap rfl
    have hfalse : (fun k => (Array.replicate ops.size false).getD k false) = fun _ => false := by
      funext k
      by_cases hk : k < ops.size <;> simp [hk]
    rw [hfalse]
    refine ⟨T0, B0, I0, m, ?_, ?_, ?_, rfl, .inl ⟨rfl, fun _ _ => rfl, fun k hk _ he' hp' b e hv => ?_, fun k _ hd => by cases hd⟩⟩
    · exact ⟨⟨fun _ h => h, fun _ h => h, fun _ _ _ h => h, fun _ _ => rfl⟩, (Below.refl _ _).drew, fun _ h => .inl h, fun _ h => .inl h⟩
    · have h1 := H4 m hm1 hm2 0 m (by omega) (Nat.le_refl _)
      rw [t2] at h1
      exact hrel0.grow fun b e p hp blk hb => h1 b blk hb
    · have e1 : mixF fr0 dst val ops.size (fun _ => false) = fr0 := by
        have : ∀ n, mixF fr0 dst val n (fun _ => false) = fr0 := fun n => by
          induction n with
          | zero => rfl
          | succ n ih => simp only [mixF, ih]; rfl
        exact this _
      rw [e1]
      exact listRep_mono (w := w0) _ ⟨fun _ h => h, fun _ h => h, fun _ _ _ h => h, fun _ _ => rfl⟩ h0.TB hfr0
    · cases hi : I0 b e with
      | none => rfl
      | some p =>
        have h1 := H4 m hm1 hm2 0 k (by omega) (Nat.le_of_lt (qlt k hk he' hp'))
        rw [t2] at h1
        exact absurd (h1.cov (h0.cov hi)) hv.2
end
end Go.Eng
