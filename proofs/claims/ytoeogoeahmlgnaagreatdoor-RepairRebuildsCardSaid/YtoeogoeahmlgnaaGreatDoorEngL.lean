/- One operation of the small machine, held against the model's. -/
import Derived.Test.YtoeogoeahmlgnaaGreatDoorEngK
set_option linter.all false
namespace Go.Eng
open Go.RowKit
variable [Known]

section
variable {P : Program} {X : Ctx}

/-! ### Only the operands count -/
section
variable {fr fr' : List AV} {o : Oper}

omit [Known] in
theorem map_congr {l : List Operand} (h : ∀ x ∈ l, evalA fr x = evalA fr' x) : l.map (evalA fr) = l.map (evalA fr') := List.map_congr_left h

omit [Known] in
theorem opt_congr {l : Option Operand} (h : ∀ x ∈ l, evalA fr x = evalA fr' x) : l.map (evalA fr) = l.map (evalA fr') := by
  cases l with
  | none => rfl
  | some x => simp [h x rfl]

omit [Known] in
theorem parts_congr {l : List (Nat × Operand)} (h : ∀ x ∈ l.map (·.2), evalA fr x = evalA fr' x) : (l.map fun p => (p.1, evalA fr p.2)) = l.map fun p => (p.1, evalA fr' p.2) :=
  List.map_congr_left fun p hp => by rw [h p.2 (List.mem_map_of_mem hp)]

omit [Known] in
theorem calleeOf_congr (h : ∀ x ∈ o.op.operands.toList, evalA fr x = evalA fr' x) : calleeOf X fr o = calleeOf X fr' o := by
  obtain ⟨dst, op, ty, pos, after, guard⟩ := o
  cases op with
  | call c =>
    obtain ⟨callee, args, argTypes⟩ := c
    cases callee with
    | value f =>
      have h1 := h f (by simp [Op.operands, Call.operands])
      have h2 : args.toList.map (evalA fr) = args.toList.map (evalA fr') := map_congr fun x hx => h x (by simp [Op.operands, Call.operands]; right; simpa using hx)
      simp only [calleeOf, h1, h2]
    | invoke r m =>
      have h1 := h r (by simp [Op.operands, Call.operands])
      have h2 : args.toList.map (evalA fr) = args.toList.map (evalA fr') := map_congr fun x hx => h x (by simp [Op.operands, Call.operands]; right; simpa using hx)
      simp only [calleeOf, h1, h2]
    | _ => rfl
  | _ => rfl

omit [Known] in
theorem popA_congr (h : ∀ x ∈ o.op.operands.toList, evalA fr x = evalA fr' x) : popA X fr o = popA X fr' o := by
  obtain ⟨dst, op, ty, pos, after, guard⟩ := o
  have e1 : ∀ {x : Operand}, x ∈ op.operands.toList → evalA fr x = evalA fr' x := fun {x} hx => h x hx
  cases op with
  | move x => have := e1 (x := x) (by simp [Op.operands]); simp only [popA]; split <;> simp_all
  | assign x => have := e1 (x := x) (by simp [Op.operands]); simp only [popA]; split <;> simp_all
  | pick c a b =>
    have h1 := e1 (x := c) (by simp [Op.operands])
    have h2 := e1 (x := a) (by simp [Op.operands])
    have h3 := e1 (x := b) (by simp [Op.operands])
    simp only [popA, h1, h2, h3]
  | nilCheck x => have := e1 (x := x) (by simp [Op.operands]); simp only [popA, this]
  | makeInterface t x => have := e1 (x := x) (by simp [Op.operands]); simp only [popA, this]
  | binOp op t x y ty =>
    have h1 := e1 (x := x) (by simp [Op.operands])
    have h2 := e1 (x := y) (by simp [Op.operands])
    simp only [popA, h1, h2]
  | unOp op t x => have := e1 (x := x) (by simp [Op.operands]); simp only [popA, this]
  | convert s d x => have := e1 (x := x) (by simp [Op.operands]); simp only [popA, this]
  | build t parts =>
    have : (parts.toList.map fun p => (p.1, evalA fr p.2)) = parts.toList.map fun p => (p.1, evalA fr' p.2) := parts_congr fun x hx => e1 (by simpa [Op.operands] using hx)
    simp only [popA, this]
  | field t x f => have := e1 (x := x) (by simp [Op.operands]); simp only [popA, this]
  | fieldAddr t x f => have := e1 (x := x) (by simp [Op.operands]); simp only [popA, this]
  | indexAddr t x y =>
    have h1 := e1 (x := x) (by simp [Op.operands])
    have h2 := e1 (x := y) (by simp [Op.operands])
    simp only [popA, h1, h2]
  | index t x y =>
    have h1 := e1 (x := x) (by simp [Op.operands])
    have h2 := e1 (x := y) (by simp [Op.operands])
    simp only [popA, h1, h2]
  | slice t x lo hi mx =>
    have h1 := e1 (x := x) (by simp [Op.operands])
    have h2 : lo.map (evalA fr) = lo.map (evalA fr') := opt_congr fun y hy => e1 (by simp [Op.operands]; simp_all)
    have h3 : hi.map (evalA fr) = hi.map (evalA fr') := opt_congr fun y hy => e1 (by simp [Op.operands]; simp_all)
    have h4 : mx.map (evalA fr) = mx.map (evalA fr') := opt_congr fun y hy => e1 (by simp [Op.operands]; simp_all)
    simp only [popA, h1, h2, h3, h4]
  | makeFunc fn first captured =>
    have h1 : captured.toList.map (evalA fr) = captured.toList.map (evalA fr') := map_congr fun x hx => e1 (by simp [Op.operands]; right; simpa using hx)
    cases fn <;> simp only [popA, h1]
  | extract x i => have := e1 (x := x) (by simp [Op.operands]); simp only [popA, this]
  | call c =>
    obtain ⟨callee, args, argTypes⟩ := c
    cases callee with
    | builtin b =>
      have h2 : ∀ x ∈ args.toList, evalA fr x = evalA fr' x := fun x hx => e1 (by simp [Op.operands, Call.operands]; simpa using hx)
      have h3 := map_congr h2
      cases b <;> simp only [popA, h3]
      split
      · rename_i x t ea et
        have := h2 x (by rw [ea]; simp)
        simp only [this]
      · rfl
    | value f => rfl
    | invoke r m => rfl
  | _ => rfl

omit [Known] in
theorem qopA_congr {d : Bool} {S : Store} {id : Nat} (h : ∀ x ∈ o.op.operands.toList, evalA fr x = evalA fr' x) : qopA X d S id fr o = qopA X d S id fr' o := by
  obtain ⟨dst, op, ty, pos, after, guard⟩ := o
  have e1 : ∀ {x : Operand}, x ∈ op.operands.toList → evalA fr x = evalA fr' x := fun {x} hx => h x hx
  cases op with
  | load t x => have := e1 (x := x) (by simp [Op.operands]); simp only [qopA, this]
  | box t x => have := e1 (x := x) (by simp [Op.operands]); simp only [qopA, this]
  | convert s d x => have := e1 (x := x) (by simp [Op.operands]); simp only [qopA, this]
  | buildSlice t n parts =>
    have : (parts.toList.map fun p => (p.1, evalA fr p.2)) = parts.toList.map fun p => (p.1, evalA fr' p.2) := parts_congr fun x hx => e1 (by simpa [Op.operands] using hx)
    simp only [qopA, this]
  | lookup t x k ok =>
    have h1 := e1 (x := x) (by simp [Op.operands])
    have h2 := e1 (x := k) (by simp [Op.operands])
    simp only [qopA, h1, h2]
  | makeMap t r => cases r <;> rfl
  | makeSlice t l c =>
    have h1 := e1 (x := l) (by simp [Op.operands])
    have h2 := e1 (x := c) (by simp [Op.operands])
    simp only [qopA, h1, h2]
  | range t x => have := e1 (x := x) (by simp [Op.operands]); simp only [qopA, this]
  | entry x => have := e1 (x := x) (by simp [Op.operands]); simp only [qopA, this]
  | _ => rfl

omit [Known] in
theorem nopA_congr {d : Bool} {S : Store} {id : Nat} (h : ∀ x ∈ o.op.operands.toList, evalA fr x = evalA fr' x) : nopA X d S id fr o = nopA X d S id fr' o := by
  obtain ⟨dst, op, ty, pos, after, guard⟩ := o
  have e1 : ∀ {x : Operand}, x ∈ op.operands.toList → evalA fr x = evalA fr' x := fun {x} hx => h x hx
  cases op with
  | call c =>
    obtain ⟨callee, args, argTypes⟩ := c
    cases callee with
    | builtin b =>
      have h2 : ∀ x ∈ args.toList, evalA fr x = evalA fr' x := fun x hx => e1 (by simp [Op.operands, Call.operands]; simpa using hx)
      cases b <;> simp only [nopA]
      split
      · rename_i s x t u ea et
        have q1 := h2 x (by rw [ea]; simp)
        have q2 := h2 s (by rw [ea]; simp)
        simp only [q1, q2]
      · rfl
    | value f => rfl
    | invoke r m => rfl
  | move x => unfold nopA; split <;> first | rfl | (rename_i heq; cases heq)
  | assign x => unfold nopA; split <;> first | rfl | (rename_i heq; cases heq)
  | _ => rfl

omit [Known] in
theorem eopA_congr {S : Store} (h : ∀ x ∈ o.op.operands.toList, evalA fr x = evalA fr' x) : eopA X S fr o = eopA X S fr' o := by
  obtain ⟨dst, op, ty, pos, after, guard⟩ := o
  have e1 : ∀ {x : Operand}, x ∈ op.operands.toList → evalA fr x = evalA fr' x := fun {x} hx => h x hx
  cases op with
  | store t x y =>
    have h1 := e1 (x := x) (by simp [Op.operands])
    have h2 := e1 (x := y) (by simp [Op.operands])
    simp only [eopA, h1, h2]
  | mapUpdate t m k x =>
    have h1 := e1 (x := m) (by simp [Op.operands])
    have h2 := e1 (x := k) (by simp [Op.operands])
    have h3 := e1 (x := x) (by simp [Op.operands])
    simp only [eopA, h1, h2, h3]
  | next x b =>
    have h1 := e1 (x := x) (by simp [Op.operands])
    cases b <;> simp only [eopA, h1]
  | call c =>
    obtain ⟨callee, args, argTypes⟩ := c
    cases callee with
    | builtin b =>
      have h2 : ∀ x ∈ args.toList, evalA fr x = evalA fr' x := fun x hx => e1 (by simp [Op.operands, Call.operands]; simpa using hx)
      cases b <;> simp only [eopA]
      · split
        · rename_i s x t u ea et
          have q1 := h2 x (by rw [ea]; simp)
          have q2 := h2 s (by rw [ea]; simp)
          simp only [q1, q2]
        · rfl
      · split
        · rename_i s t ea et
          have q2 := h2 s (by rw [ea]; simp)
          simp only [q2]
        · rfl
    | value f => rfl
    | invoke r m => rfl
  | _ => rfl

omit [Known] in
theorem apdOK_congr {S : Store} (h : ∀ x ∈ o.op.operands.toList, evalA fr x = evalA fr' x) : apdOK S fr o = apdOK S fr' o := by
  obtain ⟨dst, op, ty, pos, after, guard⟩ := o
  have e1 : ∀ {x : Operand}, x ∈ op.operands.toList → evalA fr x = evalA fr' x := fun {x} hx => h x hx
  cases op with
  | call c =>
    obtain ⟨callee, args, argTypes⟩ := c
    cases callee with
    | builtin b =>
      have h2 : ∀ x ∈ args.toList, evalA fr x = evalA fr' x := fun x hx => e1 (by simp [Op.operands, Call.operands]; simpa using hx)
      cases b <;> simp only [apdOK]
      split
      · rename_i s x ea
        have q1 := h2 x (by rw [ea]; simp)
        have q2 := h2 s (by rw [ea]; simp)
        simp only [q1, q2]
      · rfl
    | value f => rfl
    | invoke r m => rfl
  | _ => rfl

omit [Known] in
theorem stepA_congr {d : Bool} {call : CallFn} {S : Store} (h : ∀ x ∈ o.op.operands.toList, evalA fr x = evalA fr' x) : stepA X d call ⟨fr, S⟩ o = stepA X d call ⟨fr', S⟩ o := by
  simp only [stepA, popA_congr h, qopA_congr h, nopA_congr h, calleeOf_congr h, eopA_congr h, apdOK_congr h]
end

/-! ### A call -/
def CallOK (P : Program) (call : CallFn) : Prop := ∀ f args S r, call f args S = some r → ∃ fn, P.funcs[f]? = some fn ∧ (fn.name == "runtime.NumGoroutine") = false ∧ fn.body.isNone = false

omit [Known] in
theorem call_run {o : Oper} {a : Act} {fop : Operand} {args : Array Operand} {ats : Array TypeId} {g : FuncId} {cap : Array Value} {fn : Func} {w : World} (ho : o.op = .call { callee := .value fop, args, argTypes := ats }) (hf : a.eval fop = .func (.func g) #[] cap)
    (hfn : P.funcs[g]? = some fn) (h1 : (fn.name == "runtime.NumGoroutine") = false) (h2 : fn.body.isNone = false) : (execOp a.eval o).run P w = .ok (.enter g (args.map a.eval ++ cap)) w := by
  simp only [execOp, ho, resolve, Deferred.ofValue, hf, Sem.run_bind, Sem.run_pure, Result.andThen_ok, invoke, callFunc, run_program, hfn, h1, h2, Bool.false_eq_true, if_false, Array.empty_append]

omit [Known] in
theorem arr_tail (x : Value) (l : Array Value) : (#[x] ++ l).extract 1 (#[x] ++ l).size = l := by
  apply Array.toList_inj.1
  simp
omit [Known] in
theorem invoke_run {o : Oper} {a : Act} {r : Operand} {m : String} {args : Array Operand} {ats : Array TypeId} {g : FuncId} {t : TypeId} {v : Value} {fn : Func} {w : World} (ho : o.op = .call { callee := .invoke r m, args, argTypes := ats }) (hr : a.eval r = .iface t v)
    (hm : (method (P.types.size + Made.depth) t v m).run P w = .ok (g, v) w) (hfn : P.funcs[g]? = some fn) (h1 : (fn.name == "runtime.NumGoroutine") = false) (h2 : fn.body.isNone = false) : (execOp a.eval o).run P w = .ok (.enter g (#[v] ++ args.map a.eval)) w := by
  have e1 : (#[Value.iface t v] ++ args.map a.eval)[0]? = some (.iface t v) := by rw [Array.getElem?_append_left (by simp)]; rfl
  have e2 : (#[Value.iface t v] ++ args.map a.eval).extract 1 (#[Value.iface t v] ++ args.map a.eval).size = args.map a.eval := arr_tail _ _
  simp only [execOp, ho, resolve, hr, Sem.run_bind, Sem.run_pure, Result.andThen_ok, invoke, e1, e2, callMethod, callFunc, run_program, hm, hfn, h1, h2, Bool.false_eq_true, if_false]

omit [Known] in
theorem upon_enter {o : Oper} {a : Act} {K : Act → World → Prop} {Q : Exit → Act → World → Prop} {g : FuncId} {args : Array Value} {w : World} {R : Ending → World → Prop} (hR : ∀ e w', R e w' → ∃ u, e = .returned u ∧ K (a.put o.dst u) w') (h : Calls P g args w R) :
    o.upon P a K Q (.ok (.enter g args) w) := by
  simp only [Oper.upon]
  refine h.mono fun e w' he => ?_
  obtain ⟨u, rfl, hk⟩ := hR e w' he
  exact hk

/-! ### One operation -/
section
variable {base : Nat} {T B : Area} {I : Inj} {S S2 : Store} {w : World} {call : CallFn} {fr : List AV} {a : Act} {o : Oper} {v : AV} {K : Act → World → Prop} {Q : Exit → Act → World → Prop}

/-- Does it write, or call by reference? -/
def effKind (X : Ctx) (o : Oper) : Bool :=
  match o.op with
  | .store .. => true
  | .mapUpdate .. => true
  | .next .. => true
  | .call { callee := .builtin .clear, .. } => true
  | .call { callee := .value (.func f), .. } => X.byRef f
  | .call { callee := .invoke _ m, .. } => X.refM m
  | _ => false

/-! #### Versions -/
omit [Known] in
theorem Cov.le {b e e' : Nat} (h : Cov S b e) (he : e' ≤ e) : Cov S b e' := by
  obtain ⟨blk, h1, h2⟩ := h
  exact ⟨blk, h1, Nat.le_trans he h2⟩
omit [Known] in
theorem Ext.refl : Ext S (sig S) := fun _ _ h => Holds.of h
omit [Known] in
theorem Ext.trans {S1 : Store} {σ : Sig} (h : Ext S (sig S1)) (k : Ext S1 σ) : Ext S σ := fun b blk hb => by
  obtain ⟨b1, h1, h2⟩ := h b blk hb
  obtain ⟨b2, h3, h4⟩ := k b b1 h1
  exact ⟨b2, h3, h2.trans h4⟩
omit [Known] in
theorem Ext.cov {b e : Nat} (h : Ext S (sig S2)) (hc : Cov S b e) : Cov S2 b e := by
  obtain ⟨blk, h1, h2⟩ := hc
  obtain ⟨b1, h3, h4⟩ := h b blk h1
  exact ⟨b1, h3, Nat.le_trans h2 h4.len⟩
omit [Known] in
theorem Ext.app (nb : List Blk) : Ext S (sig (S ++ nb)) := fun b blk hb => Holds.of (by
  simp only [sig]
  rw [List.getElem?_append_left (List.getElem?_eq_some_iff.1 hb).1]; exact hb)
/-- The versions that a step makes. -/
def NewV (S S2 : Store) (b e : Nat) : Prop := Cov S2 b e ∧ ¬ Cov S b e
def lenOf (S : Store) (b : Nat) : Nat := match S[b]? with | some blk => blk.len | none => 0
omit [Known] in
theorem lenOf_cov {b e : Nat} (h : Cov S b e) : Cov S b (lenOf S b) ∧ e ≤ lenOf S b := by
  obtain ⟨blk, h1, h2⟩ := h
  unfold lenOf
  rw [h1]
  exact ⟨⟨blk, h1, Nat.le_refl _⟩, h2⟩
omit [Known] in
theorem newB_newV {nb : List Blk} {b e : Nat} : NewB S.length nb b e ↔ NewV S (S ++ nb) b e := by
  constructor
  · rintro ⟨k, blk, h1, h2, h3⟩
    subst h2
    refine ⟨⟨blk, by rw [List.getElem?_append_right (by omega), Nat.add_sub_cancel_left]; exact h1, h3⟩, fun ⟨blk', h4, _⟩ => ?_⟩
    have := (List.getElem?_eq_some_iff.1 h4).1; omega
  · rintro ⟨⟨blk, h1, h2⟩, h3⟩
    rcases Nat.lt_or_ge b S.length with h4 | h4
    · rw [List.getElem?_append_left h4] at h1
      exact absurd ⟨blk, h1, h2⟩ h3
    · rw [List.getElem?_append_right h4] at h1
      exact ⟨b - S.length, blk, h1, by omega, h2⟩
omit [Known] in
theorem newV_self {b e : Nat} : ¬ NewV S S b e := fun h => h.2 h.1
omit [Known] in
theorem newV_behind {nb : List Blk} {b e : Nat} (h : NewV S (S ++ nb) b e) : lenOf S b = 0 := by
  have := (newB_newV.2 h).at
  unfold lenOf
  rw [List.getElem?_eq_none (by omega)]

omit [Known] in
/-- What 'append' onto a slice of the run's own does. -/
theorem apd_shape {args : Array Operand} {ats : Array TypeId} (ho : o.op = .call { callee := .builtin .append, args, argTypes := ats }) (hq : eopA X S fr o = some (v, S2)) (hok : apdOK S fr o = true) :
    ∃ s x t el ei news b rows wep pr z1 z2 z3 z4, args = #[s, x] ∧ ats = #[t, t] ∧ X.ty t = some ⟨z1, z2, z3, z4, .slice el⟩ ∧ X.ty el = some ei ∧ ei.zero.length = ei.size ∧ rowsOf S ei.size (evalA fr x) = some (news, true) ∧ evalA fr s = .sl b rows.length 0 rows.length ei.size ∧
      S[b]? = some (.arr rows ei.size wep pr) ∧ wep ≤ rows.length ∧ (rows.length + news.length) * ei.bytes ≤ 140737488355328 ∧ rows.length + news.length ≤ 140737488355328 ∧
      ((news.length = 0 ∧ v = .sl b rows.length 0 rows.length ei.size ∧ S2 = S) ∨ (news.length ≠ 0 ∧ v = .sl b (rows.length + news.length) 0 (rows.length + news.length) ei.size ∧ S2 = S.set b (.arr (rows ++ news) ei.size wep pr))) := by
  obtain ⟨dst, op, ty, pos, after, guard⟩ := o
  simp only at ho
  subst ho
  simp only [eopA] at hq
  simp only [apdOK] at hok
  split at hq
  · rename_i s x t u ea et
    have ea' : args = #[s, x] := by rw [← Array.toList_inj]; exact ea
    have et' : ats = #[t, u] := by rw [← Array.toList_inj]; exact et
    subst ea' et'
    split at hq
    · rename_i z1 z2 z3 z4 el e1
      split at hq
      · rename_i ei e2
        split at hq
        · rename_i hc
          obtain ⟨c1, c2, c3⟩ := hc
          subst c1
          split at hq
          · rename_i news prn e3
            split at hq
            · rename_i b e off len sz e4
              split at hq
              · rename_i rows sz' wep pr e5
                split at hq
                · rename_i hc
                  obtain ⟨d1, d2, d3, d4, d5, d6, d7, d8⟩ := hc
                  subst d1 d2 d5 d6
                  subst d3
                  simp only [e4, e3] at hok
                  subst hok
                  refine ⟨s, x, t, el, ei, news, b, rows, wep, pr, _, _, _, _, rfl, rfl, e1, e2, c3, e3, e4, e5, d4, d7, d8, ?_⟩
                  split at hq
                  · rename_i h0
                    injection hq with hq; injection hq with q1 q2
                    exact .inl ⟨h0, q1.symm, q2.symm⟩
                  · rename_i h0
                    injection hq with hq; injection hq with q1 q2
                    rw [Bool.and_true] at q2
                    exact .inr ⟨h0, q1.symm, q2.symm⟩
                · cases hq
              · cases hq
            · cases hq
          · cases hq
        · cases hq
      · cases hq
    · cases hq
  · cases hq

omit [Known] in
theorem set_ext {b wep sz : Nat} {pr : Bool} {rows news : List (List AV)} (h : S[b]? = some (.arr rows sz wep pr)) : Ext S (sig (S.set b (.arr (rows ++ news) sz wep pr))) := fun b' blk hb => by
  by_cases e : b' = b
  · subst e
    rw [h] at hb; injection hb with hb; subst hb
    exact ⟨_, (sig_set h).1, news, rfl⟩
  · exact Holds.of (((sig_set h).2 b' e).trans hb)
omit [Known] in
theorem set_newV {b wep sz : Nat} {pr : Bool} {rows news : List (List AV)} (h : S[b]? = some (.arr rows sz wep pr)) {b' e : Nat} : NewV S (S.set b (.arr (rows ++ news) sz wep pr)) b' e ↔ b' = b ∧ rows.length < e ∧ e ≤ rows.length + news.length := by
  constructor
  · rintro ⟨⟨blk, h1, h2⟩, h3⟩
    by_cases e1 : b' = b
    · subst e1
      rw [show (S.set b' _)[b']? = some _ from (sig_set h).1] at h1
      injection h1 with h1; subst h1
      simp only [Blk.len, List.length_append] at h2
      refine ⟨rfl, ?_, h2⟩
      rcases Nat.lt_or_ge rows.length e with h4 | h4
      · exact h4
      · exact absurd ⟨_, h, h4⟩ h3
    · rw [show (S.set b _)[b']? = S[b']? from (sig_set h).2 b' e1] at h1
      exact absurd ⟨_, h1, h2⟩ h3
  · rintro ⟨rfl, h1, h2⟩
    refine ⟨⟨_, (sig_set h).1, by simpa [Blk.len] using h2⟩, fun ⟨blk, h3, h4⟩ => ?_⟩
    rw [h] at h3; injection h3 with h3; subst h3
    simp only [Blk.len] at h4; omega

/-- What is known of a step that writes nothing. -/
def QStep (P : Program) (S S2 : Store) (fr : List AV) (v : AV) (o : Oper) : Prop :=
  Ext S (sig S2) ∧ ∀ {base : Nat} {T B : Area} {I : Inj} {σ : Sig} {w : World} {a : Act}, Rel base T B I σ w → Ext S2 σ → (∀ b e, NewV S S2 b e → I b e = none) → (∀ b e0 e, NewV S S2 b e0 → 0 < e0 → ¬ Cov S b e → I b e = none) → (∀ x, vrep w (evalA fr x) T B I (a.eval x)) →
    ∀ {K : Act → World → Prop} {Q : Exit → Act → World → Prop}, (∀ u w' T' B' I', Step base T B I w T' B' I' w' → Rel base T' B' I' σ w' → vrep w' v T' B' I' u → (∀ b e p, I' b e = some p → I b e = some p ∨ NewV S S2 b e) →
      (∀ b e, NewV S S2 b e → 0 < lenOf S b → I b (lenOf S b) ≠ none) → K (a.put o.dst u) w') → o.wp P a w K Q

theorem apd_sound (hX : CtxOK P X) {args : Array Operand} {ats : Array TypeId} (ho : o.op = .call { callee := .builtin .append, args, argTypes := ats }) (hq : eopA X S fr o = some (v, S2)) (hok : apdOK S fr o = true) : QStep P S S2 fr v o := by
  obtain ⟨s, x, t, el, ei, news, b, rows, wep, pr, z1, z2, z3, z4, rfl, rfl, e1, e2, c3, e3, e4, e5, d4, d7, d8, hcase⟩ := apd_shape ho hq hok
  obtain ⟨_, d, _, _, ht, _, _, _, _, _, k8, _⟩ := ty_run (hX.ty _ _ e1)
  simp only [descOK] at k8
  subst k8
  have hext : Ext S (sig S2) := by
    rcases hcase with ⟨_, _, rfl⟩ | ⟨_, _, rfl⟩
    · exact Ext.refl
    · exact set_ext e5
  refine ⟨hext, fun {base T B I σ w a} h hσ hn1 hn2 hfr {K Q} hK => ?_⟩
  have hS := hext.trans hσ
  obtain ⟨xo, xc, hxu, hx1, hx2, hx3, hx4'⟩ := rowsOf_rep h hS e3 (hfr x)
  have hx4 : news ≠ [] → ∃ g off, xo = some ⟨g, off, none⟩ ∧ rowsRep w news T (if true then T else B) (if true then noInj else I) g off ei.size := fun hne =>
    let ⟨g, off, q1, q2, _⟩ := hx4' hne
    ⟨g, off, q1, q2⟩
  have hs := hfr s
  rw [e4] at hs
  have exec : ∀ r w', (Builtin.append_ #[t, t] o.type #[a.eval s, a.eval x]).run P w = .ok r w' → (execOp a.eval o).run P w = .ok (.value r) w' := fun r w' hr => by
    simp [execOp, ho, resolve, invoke, builtin, hr]
  rcases hcase with ⟨h0, rfl, rfl⟩ | ⟨h0, rfl, rfl⟩
  · obtain ⟨tei, _, _, ke1, _⟩ := (hX.ty _ _ e2).ok
    have zero : ∀ (ao : Option Addr) (n cap : Nat), a.eval s = .slice ao n cap → n ≤ cap → (execOp a.eval o).run P w = .ok (.value (a.eval s)) w := fun ao n cap hu hn => by
      refine exec _ _ ?_
      rw [hxu, hu, h0]
      exact run_append_zero (P := P) w t o.type el _ ht ke1 ao xo n cap xc hn
    have fin : (execOp a.eval o).run P w = .ok (.value (a.eval s)) w → o.wp P a w K Q := fun hr => by
      unfold Oper.wp
      rw [hr]
      exact hK _ w T B I Step.refl h hs (fun _ _ _ h => .inl h) (fun b e hv => absurd hv newV_self)
    have hs2 := hs
    simp only [vrep] at hs2
    rcases hs2 with ⟨_, _, h00, ao, hu⟩ | ⟨g, gs, cap, _, hu, hle, _⟩
    · exact fin (zero _ _ _ hu (Nat.le_refl _))
    · exact fin (zero _ _ _ hu hle)
  · have hnv : NewV S (S.set b (.arr (rows ++ news) ei.size wep pr)) b (rows.length + news.length) := (set_newV e5).2 ⟨rfl, by omega, Nat.le_refl _⟩
    obtain ⟨I', w', r, r1, r2, r3, r4, r5, r6⟩ := append_ver hX (ty := o.type) (xc := xc) (prn := true) h ht e2 hx4 c3 h0 d7 d8 hs (hσ _ _ (sig_set e5).1) (fun _ => rfl) d4 (fun e he => hn2 b _ e hnv (by omega) (fun ⟨blk, h3, h4⟩ => by
      rw [e5] at h3; injection h3 with h3; subst h3
      simp only [Blk.len] at h4; omega))
    unfold Oper.wp
    rw [exec _ _ (by rw [hxu]; exact r1)]
    refine hK r w' T B I' r2 r3 r4 (fun b' e p hp => (r5 b' e p hp).imp (fun h => h) (fun h => by rw [h.1, h.2]; exact hnv)) fun b' e hv hpos => ?_
    obtain ⟨rfl, _, _⟩ := (set_newV e5).1 hv
    have hl : lenOf S b' = rows.length := by unfold lenOf; rw [e5]; rfl
    rw [hl] at hpos ⊢
    exact r6 hpos

omit [Known] in
theorem calleeOf_spec {f : FuncId} {args : List AV} (h : calleeOf X fr o = some (f, args)) : (∃ fop as ats caps, o.op = .call { callee := .value fop, args := as, argTypes := ats } ∧ evalA fr fop = .fn f caps ∧ args = as.toList.map (evalA fr) ++ caps) ∨
    ∃ r m as ats t x, o.op = .call { callee := .invoke r m, args := as, argTypes := ats } ∧ evalA fr r = .iface t x ∧ X.meth t m = some f ∧ args = x :: as.toList.map (evalA fr) := by
  unfold calleeOf at h
  split at h
  · rename_i fop as ats ho
    split at h
    · rename_i g caps e1
      injection h with h; injection h with q1 q2; subst q1 q2
      exact .inl ⟨_, _, _, _, ho, e1, rfl⟩
    · cases h
  · rename_i r m as ats ho
    split at h
    · rename_i t x e1
      split at h
      · rename_i g e2
        injection h with h; injection h with q1 q2; subst q1 q2
        exact .inr ⟨_, _, _, _, _, _, ho, e1, e2, rfl⟩
      · cases h
    · cases h
  · cases h

/-- A call comes to its callee, with its arguments. -/
theorem callee_run (hX : CtxOK P X) {f : FuncId} {args : List AV} {fn : Func} (h : calleeOf X fr o = some (f, args)) (hfr : ∀ x, vrep w (evalA fr x) T B I (a.eval x)) (hfn : P.funcs[f]? = some fn) (h1 : (fn.name == "runtime.NumGoroutine") = false) (h2 : fn.body.isNone = false) :
    ∃ us : List Value, (execOp a.eval o).run P w = .ok (.enter f us.toArray) w ∧ listRep w args T B I us := by
  rcases calleeOf_spec h with ⟨fop, as, ats, caps, ho, hf, rfl⟩ | ⟨r, m, as, ats, t, x, ho, hr, hm, rfl⟩
  · have h3 := hfr fop
    rw [hf] at h3
    simp only [vrep] at h3
    obtain ⟨us, h4, h5⟩ := h3
    refine ⟨(as.map a.eval ++ us.toArray).toList, ?_, ?_⟩
    · rw [Array.toArray_toList]
      exact call_run ho h4 hfn h1 h2
    · simp only [Array.toList_append, Array.toList_map]
      exact listRep_append (map_of hfr _) h5
  · have h3 := hfr r
    rw [hr] at h3
    simp only [vrep] at h3
    obtain ⟨v, h4, h5⟩ := h3
    refine ⟨(#[v] ++ as.map a.eval).toList, ?_, ?_⟩
    · rw [Array.toArray_toList]
      exact invoke_run ho h4 (hX.meth _ _ _ hm v w) hfn h1 h2
    · simp only [Array.toList_append, Array.toList_map, List.cons_append, List.nil_append, listRep]
      exact ⟨v, _, rfl, h5, map_of hfr _⟩

variable (hX : CtxOK P X) (hO : CallOK P call) (hC : CallSound P call)
include hX hO hC

theorem quiet_step (he : effKind X o = false) (hs : stepA X true call ⟨fr, S⟩ o = some (v, S2)) : QStep P S S2 fr v o := by
  have fromQ : ∀ {nb : List Blk}, (∀ {base : Nat} {T B : Area} {I : Inj} {σ : Sig} {w : World} {a : Act}, Rel base T B I σ w → Ext S σ → (∀ x, vrep w (evalA fr x) T B I (a.eval x)) → (∀ b e, NewB S.length nb b e → I b e = none) → (∀ k blk, nb[k]? = some blk → Holds σ (S.length + k) blk) →
      ∃ x : Sem Value, execOp a.eval o = (do let u ← x; pure (.value u)) ∧ QOut P base T B I σ w S.length nb v x) → S2 = S ++ nb → QStep P S S2 fr v o := by
    intro nb hq h2
    subst h2
    refine ⟨Ext.app nb, fun {base T B I σ w a} h hσ hn1 _ hfr {K Q} hK => ?_⟩
    obtain ⟨x, hx, T', B', I', w', u, h1, h2, h3, h4, h5⟩ := hq h ((Ext.app nb).trans hσ) hfr (fun b e hb => hn1 b e (newB_newV.1 hb)) (fun k blk hk => hσ _ _ (by
      rw [List.getElem?_append_right (by omega), Nat.add_sub_cancel_left]; exact hk))
    unfold Oper.wp
    rw [hx]
    simp only [Sem.run_bind, h1, Result.andThen_ok, Sem.run_pure, Oper.upon]
    exact hK u w' T' B' I' h2 h3 h4 (fun b e p hp => (h5 b e p hp).imp (fun h => h) newB_newV.1) (fun b e hv hpos => by rw [newV_behind hv] at hpos; cases hpos)
  unfold stepA at hs
  dsimp only at hs
  split at hs
  · rename_i v' e1
    injection hs with hs; injection hs with q1 q2; subst q1 q2
    refine ⟨Ext.refl, fun {base T B I σ w a} h hσ _ _ hfr {K Q} hK => ?_⟩
    obtain ⟨u, h1, h2⟩ := pop_sound hX h.TB hfr e1
    unfold Oper.wp
    rw [h1]
    exact hK u w T B I Step.refl h h2 (fun _ _ _ h => .inl h) (fun b e hv => absurd hv newV_self)
  · split at hs
    · rename_i v' nb e1
      injection hs with hs; injection hs with q1 q2; subst q1
      exact fromQ (fun h hS hfr h1 h2 => qop_sound hX h hS hfr e1 h1 h2) q2.symm
    · split at hs
      · rename_i v' nb e1
        injection hs with hs; injection hs with q1 q2; subst q1
        exact fromQ (fun h hS hfr h1 h2 => nop_sound hX h hS hfr e1 h1 h2) q2.symm
      · split at hs
        · rename_i f args e1
          split at hs
          · rename_i hb
            split at hs
            · cases hs
            · rename_i hsr
              exfalso
              simp only [Bool.true_and, Bool.not_eq_true', Bool.not_eq_false] at hsr
              unfold staticRef at hsr
              unfold effKind at he
              rcases calleeOf_spec e1 with ⟨fop, as, ats, caps, ho, _, _⟩ | ⟨r, m, as, ats, t, x, ho, _⟩
              · rw [ho] at hsr he
                cases fop <;> simp_all
              · rw [ho] at hsr he
                simp_all
          · split at hs
            · rename_i args' e2
              split at hs
              · split at hs
                · rename_i r e3
                  injection hs with hs; injection hs with q1 q2; subst q1 q2
                  refine ⟨Ext.app _, fun {base T B I σ w a} h hσ hn1 _ hfr {K Q} hK => ?_⟩
                  obtain ⟨fn, k1, k2, k3⟩ : ∃ fn, P.funcs[f]? = some fn ∧ (fn.name == "runtime.NumGoroutine") = false ∧ fn.body.isNone = false := by
                    unfold callVN at e3
                    split at e3
                    · rename_i e4; exact hO _ _ _ _ e4
                    · cases e3
                  obtain ⟨us, hrun, hargs⟩ := callee_run hX e1 hfr k1 k2 k3
                  have hcv := callVN_sound hC (S := S) (id := S.length) h ((Ext.app _).trans hσ) hargs e2 e3 (fun b e hb => hn1 b e (newB_newV.1 hb)) (fun k blk hk => hσ _ _ (by
                    rw [List.getElem?_append_right (by omega), Nat.add_sub_cancel_left]; exact hk))
                  unfold Oper.wp
                  rw [hrun]
                  refine upon_enter ?_ hcv
                  rintro e w' ⟨u, T', B', I', rfl, h1, h2, h3, h4⟩
                  exact ⟨u, rfl, hK u w' T' B' I' h1 h2 h3 (fun b e p hp => (h4 b e p hp).imp (fun h => h) newB_newV.1) (fun b e hv hpos => by rw [newV_behind hv] at hpos; cases hpos)⟩
                · cases hs
              · split at hs
                · rename_i r e3
                  injection hs with hs; injection hs with q1 q2; subst q1 q2
                  refine ⟨Ext.app _, fun {base T B I σ w a} h hσ hn1 _ hfr {K Q} hK => ?_⟩
                  obtain ⟨fn, k1, k2, k3⟩ : ∃ fn, P.funcs[f]? = some fn ∧ (fn.name == "runtime.NumGoroutine") = false ∧ fn.body.isNone = false := by
                    unfold callV at e3
                    split at e3
                    · rename_i e4; exact hO _ _ _ _ e4
                    · cases e3
                  obtain ⟨us, hrun, hargs⟩ := callee_run hX e1 hfr k1 k2 k3
                  have hcv := callZ_sound (X.frz o.pos) hC (S := S) (id := S.length) h ((Ext.app _).trans hσ) hargs e2 e3 (fun b e hb => hn1 b e (newB_newV.1 hb)) (fun k blk hk => hσ _ _ (by
                    rw [List.getElem?_append_right (by omega), Nat.add_sub_cancel_left]; exact hk))
                  unfold Oper.wp
                  rw [hrun]
                  refine upon_enter ?_ hcv
                  rintro e w' ⟨u, T', B', I', rfl, h1, h2, h3, h4⟩
                  exact ⟨u, rfl, hK u w' T' B' I' h1 h2 h3 (fun b e p hp => (h4 b e p hp).imp (fun h => h) newB_newV.1) (fun b e hv hpos => by rw [newV_behind hv] at hpos; cases hpos)⟩
                · cases hs
            · cases hs
        · split at hs
          · cases hs
          · rename_i hna
            have hna' : apdOK S fr o = true := by simpa using hna
            have hs2 := hs
            unfold eopA at hs
            unfold effKind at he
            split at hs
            · rename_i ho; simp [ho] at he
            · rename_i ho; simp [ho] at he
            · rename_i ho; simp [ho] at he
            · rename_i ho; exact apd_sound hX ho hs2 hna'
            · rename_i ho; simp [ho] at he
            · cases hs

theorem full_step {d : Bool} (h : Rel base T B I (sig S) w) (hfr : ∀ x, vrep w (evalA fr x) T B I (a.eval x)) (hs : stepA X d call ⟨fr, S⟩ o = some (v, S2))
    (hK : ∀ u w' T' B' I', Step base T B I w T' B' I' w' → Rel base T' B' I' (sig S2) w' → vrep w' v T' B' I' u → K (a.put o.dst u) w') : o.wp P a w K Q := by
  have view : ∀ nb : List Blk, Rel base T B I (sig (S ++ nb)) w := fun nb => h.view fun b e p hp => by
    have hb : b < S.length := by
      rcases Nat.lt_or_ge b S.length with h1 | h1
      · exact h1
      · rw [h.fresh h1] at hp; cases hp
    simp only [sig]
    rw [List.getElem?_append_left hb]
  have fresh : ∀ (nb : List Blk) b e, NewB S.length nb b e → I b e = none := fun nb b e hb => h.fresh hb.at.1 e
  have new : ∀ (nb : List Blk) k blk, nb[k]? = some blk → Holds (sig (S ++ nb)) (S.length + k) blk := fun nb k blk hk => Holds.of (by
    simp only [sig]
    rw [List.getElem?_append_right (by omega), Nat.add_sub_cancel_left]; exact hk)
  have fromQ : ∀ {nb : List Blk}, (∃ x : Sem Value, execOp a.eval o = (do let u ← x; pure (.value u)) ∧ QOut P base T B I (sig (S ++ nb)) w S.length nb v x) → S2 = S ++ nb → o.wp P a w K Q := by
    rintro nb ⟨x, hx, T', B', I', w', u, h1, h2, h3, h4, h5⟩ h0
    subst h0
    unfold Oper.wp
    rw [hx]
    simp only [Sem.run_bind, h1, Result.andThen_ok, Sem.run_pure, Oper.upon]
    exact hK u w' T' B' I' h2 h3 h4
  unfold stepA at hs
  dsimp only at hs
  split at hs
  · rename_i v' e1
    injection hs with hs; injection hs with q1 q2; subst q1 q2
    obtain ⟨u, h1, h2⟩ := pop_sound hX h.TB hfr e1
    unfold Oper.wp
    rw [h1]
    exact hK u w T B I Step.refl h h2
  · split at hs
    · rename_i v' nb e1
      injection hs with hs; injection hs with q1 q2; subst q1
      exact fromQ (qop_sound hX (view nb) (Ext.app nb) hfr e1 (fresh nb) (new nb)) q2.symm
    · split at hs
      · rename_i v' nb e1
        injection hs with hs; injection hs with q1 q2; subst q1
        exact fromQ (nop_sound hX (view nb) (Ext.app nb) hfr e1 (fresh nb) (new nb)) q2.symm
      · split at hs
        · rename_i f args e1
          split at hs
          · split at hs
            · cases hs
            · obtain ⟨fn, k1, k2, k3⟩ := hO _ _ _ _ hs
              obtain ⟨us, hrun, hargs⟩ := callee_run hX e1 hfr k1 k2 k3
              unfold Oper.wp
              rw [hrun]
              refine upon_enter ?_ (hC _ _ _ _ _ hs _ _ _ _ _ _ h hargs)
              rintro e w' ⟨u, T', B', I', rfl, h1, h2, h3⟩
              exact ⟨u, rfl, hK u w' T' B' I' h1 h2 h3⟩
          · split at hs
            · rename_i args' e2
              split at hs
              · split at hs
                · rename_i r e3
                  injection hs with hs; injection hs with q1 q2; subst q1 q2
                  obtain ⟨fn, k1, k2, k3⟩ : ∃ fn, P.funcs[f]? = some fn ∧ (fn.name == "runtime.NumGoroutine") = false ∧ fn.body.isNone = false := by
                    unfold callVN at e3
                    split at e3
                    · rename_i e4; exact hO _ _ _ _ e4
                    · cases e3
                  obtain ⟨us, hrun, hargs⟩ := callee_run hX e1 hfr k1 k2 k3
                  have hcv := callVN_sound hC (S := S) (id := S.length) (view (adoptN S.length r).2) (Ext.app _) hargs e2 e3 (fresh _) (new _)
                  unfold Oper.wp
                  rw [hrun]
                  refine upon_enter ?_ hcv
                  rintro e w' ⟨u, T', B', I', rfl, h1, h2, h3, _⟩
                  exact ⟨u, rfl, hK u w' T' B' I' h1 h2 h3⟩
                · cases hs
              · split at hs
                · rename_i r e3
                  injection hs with hs; injection hs with q1 q2; subst q1 q2
                  obtain ⟨fn, k1, k2, k3⟩ : ∃ fn, P.funcs[f]? = some fn ∧ (fn.name == "runtime.NumGoroutine") = false ∧ fn.body.isNone = false := by
                    unfold callV at e3
                    split at e3
                    · rename_i e4; exact hO _ _ _ _ e4
                    · cases e3
                  obtain ⟨us, hrun, hargs⟩ := callee_run hX e1 hfr k1 k2 k3
                  have hcv := callZ_sound (X.frz o.pos) hC (S := S) (id := S.length) (view (adoptZ (X.frz o.pos) S.length r).2) (Ext.app _) hargs e2 e3 (fresh _) (new _)
                  unfold Oper.wp
                  rw [hrun]
                  refine upon_enter ?_ hcv
                  rintro e w' ⟨u, T', B', I', rfl, h1, h2, h3, _⟩
                  exact ⟨u, rfl, hK u w' T' B' I' h1 h2 h3⟩
                · cases hs
            · cases hs
        · split at hs
          · cases hs
          · obtain ⟨T', B', I', w', u, n, h1, h2, h3, h4, h5⟩ := eop_sound hX h hfr hs
            unfold Oper.wp
            rw [h1]
            rcases h2 with rfl | ⟨rfl, rfl⟩
            · exact hK u w' T' B' I' h3 h4 h5
            · exact hK undef w' T' B' I' h3 h4 h5
end
end
end Go.Eng
