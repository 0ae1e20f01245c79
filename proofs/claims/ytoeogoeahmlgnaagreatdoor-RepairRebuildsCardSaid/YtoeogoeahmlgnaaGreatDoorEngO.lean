/- Whole functions. -/
import Derived.Test.YtoeogoeahmlgnaaGreatDoorEngN
import Derived.LoopN
set_option linter.all false
namespace Go.Eng
open Go.RowKit
variable [Known]

def Ex.toExit : Ex → Exit
  | .normal => .normal
  | .exit id => .exit id
  | .ret => .ret

/-- Each region of the code that draws its order is in order. -/
def regsOK (X : Ctx) : Code → Bool
  | .region _ ops d => if d then regOK X ops else true
  | .seq a b | .cond _ a b => regsOK X a && regsOK X b
  | .block _ c | .loop c => regsOK X c
  | _ => true

section
variable {P : Program} {X : Ctx} {call : CallFn}

section
variable (hX : CtxOK P X) (hO : CallOK P call) (hC : CallSound P call)
include hX hO hC

theorem exec_sound {n : Nat} {base : Nat} : ∀ (c : Code), regsOK X c = true → ∀ {st st' : St} {e : Ex}, execA X call n c st = some (e, st') → ∀ {T B : Area} {I : Inj} {w : World} {a : Act} {Q : Exit → Act → World → Prop}, Rel base T B I (sig st.S) w → listRep w st.fr T B I a.tmps.toList →
    (∀ a' w' T' B' I', Step base T B I w T' B' I' w' → Rel base T' B' I' (sig st'.S) w' → listRep w' st'.fr T' B' I' a'.tmps.toList → a'.defers = a.defers → Q e.toExit a' w') → c.wp P Q a w
  | .skip, _, st, st', e, hs, T, B, I, w, a, Q, h, hfr, hK => by
    simp only [execA] at hs
    injection hs with hs; injection hs with q1 q2; subst q1 q2
    exact wp_skip (hK a w T B I Step.refl h hfr rfl)
  | .exit id, _, st, st', e, hs, T, B, I, w, a, Q, h, hfr, hK => by
    simp only [execA] at hs
    injection hs with hs; injection hs with q1 q2; subst q1 q2
    exact wp_exit (hK a w T B I Step.refl h hfr rfl)
  | .ret, _, st, st', e, hs, T, B, I, w, a, Q, h, hfr, hK => by
    simp only [execA] at hs
    injection hs with hs; injection hs with q1 q2; subst q1 q2
    exact wp_ret (hK a w T B I Step.refl h hfr rfl)
  | .region id ops d, hr, st, st', e, hs, T, B, I, w, a, Q, h, hfr, hK => by
    simp only [execA] at hs
    split at hs
    · rename_i st1 e1
      injection hs with hs; injection hs with q1 q2; subst q1 q2
      obtain ⟨fr, S⟩ := st
      cases d with
      | true => exact drawn_sound hX hO hC (by simpa [regsOK] using hr) e1 h hfr hK
      | false => exact wp_region_list (ops_sound hX hO hC ops.toList e1 h hfr hK)
    · cases hs
  | .seq x y, hr, st, st', e, hs, T, B, I, w, a, Q, h, hfr, hK => by
    simp only [regsOK, Bool.and_eq_true] at hr
    simp only [execA] at hs
    split at hs
    · rename_i st1 e1
      refine wp_seq (exec_sound x hr.1 e1 h hfr fun a' w' T' B' I' h1 h2 h3 h4 => ?_)
      refine exec_sound y hr.2 hs h2 h3 fun a'' w'' T'' B'' I'' k1 k2 k3 k4 => ?_
      exact hK a'' w'' T'' B'' I'' (h1.trans k1) k2 k3 (k4.trans h4)
    · rename_i hne
      refine wp_seq (exec_sound x hr.1 hs h hfr fun a' w' T' B' I' h1 h2 h3 h4 => ?_)
      have := hK a' w' T' B' I' h1 h2 h3 h4
      cases e with
      | normal => exact absurd hs (hne _)
      | exit id => exact this
      | ret => exact this
  | .cond c x y, hr, st, st', e, hs, T, B, I, w, a, Q, h, hfr, hK => by
    simp only [regsOK, Bool.and_eq_true] at hr
    simp only [execA] at hs
    split at hs
    · rename_i t hc
      have hv := eval_rep hfr c
      rw [hc] at hv
      simp only [vrep] at hv
      refine wp_cond hv ?_
      cases t with
      | true => exact exec_sound x hr.1 (by simpa using hs) h hfr hK
      | false => exact exec_sound y hr.2 (by simpa using hs) h hfr hK
    · cases hs
  | .block id c, hr, st, st', e, hs, T, B, I, w, a, Q, h, hfr, hK => by
    simp only [regsOK] at hr
    simp only [execA] at hs
    split at hs
    · rename_i id' st1 e1
      split at hs
      · rename_i hid
        injection hs with hs; injection hs with q1 q2; subst q1 q2
        refine wp_block (exec_sound c hr e1 h hfr fun a' w' T' B' I' h1 h2 h3 h4 => ?_)
        simp only [Ex.toExit, Exit.inBlock, hid, if_true]
        exact hK a' w' T' B' I' h1 h2 h3 h4
      · rename_i hid
        injection hs with hs; injection hs with q1 q2; subst q1 q2
        refine wp_block (exec_sound c hr e1 h hfr fun a' w' T' B' I' h1 h2 h3 h4 => ?_)
        simp only [Ex.toExit, Exit.inBlock, hid, if_false]
        exact hK a' w' T' B' I' h1 h2 h3 h4
    · rename_i hne
      refine wp_block (exec_sound c hr hs h hfr fun a' w' T' B' I' h1 h2 h3 h4 => ?_)
      have := hK a' w' T' B' I' h1 h2 h3 h4
      cases e with
      | normal => exact this
      | exit id' => exact absurd hs (hne _ _)
      | ret => exact this
  | .loop c, hr, st, st', e, hs, T, B, I, w, a, Q, h, hfr, hK => by
    simp only [regsOK] at hr
    simp only [execA] at hs
    refine wp_loop_rounds n ?_
    have go : ∀ (k : Nat) {st st' : St} {e : Ex}, loopA (execA X call n c) k st = some (e, st') → ∀ {T B : Area} {I : Inj} {w : World} {a : Act}, Rel base T B I (sig st.S) w → listRep w st.fr T B I a.tmps.toList →
        (∀ a' w' T' B' I', Step base T B I w T' B' I' w' → Rel base T' B' I' (sig st'.S) w' → listRep w' st'.fr T' B' I' a'.tmps.toList → a'.defers = a.defers → Q e.toExit a' w') → Code.rounds P c Q k a w := by
      intro k
      induction k with
      | zero => intro st st' e hs; simp [loopA] at hs
      | succ k ih =>
        intro st st' e hs T B I w a h hfr hK
        simp only [loopA] at hs
        rw [rounds_succ]
        split at hs
        · rename_i st1 e1
          refine exec_sound c hr e1 h hfr fun a' w' T' B' I' h1 h2 h3 h4 => ?_
          refine ih hs h2 h3 fun a'' w'' T'' B'' I'' k1 k2 k3 k4 => ?_
          exact hK a'' w'' T'' B'' I'' (h1.trans k1) k2 k3 (k4.trans h4)
        · rename_i hne
          refine exec_sound c hr hs h hfr fun a' w' T' B' I' h1 h2 h3 h4 => ?_
          have := hK a' w' T' B' I' h1 h2 h3 h4
          cases e with
          | normal => exact absurd hs (hne _)
          | exit id => exact this
          | ret => exact this
    exact go n hs h hfr hK
  | .rangeFunc .., _, _, _, _, hs, _, _, _, _, _, _, _, _, _ => by simp [execA] at hs
  | .scope _, _, _, _, _, hs, _, _, _, _, _, _, _, _, _ => by simp [execA] at hs
  | .label _, _, _, _, _, hs, _, _, _, _, _, _, _, _, _ => by simp [execA] at hs
  | .goto _, _, _, _, _, hs, _, _, _, _, _, _, _, _, _ => by simp [execA] at hs
  | .refuse _, _, _, _, _, hs, _, _, _, _, _, _, _, _, _ => by simp [execA] at hs
end

/-! ### Results -/
def rvSem (a : Act) : ResultVar → Sem Value
  | .tmp t => pure (a.tmps.getD t undef)
  | .cell x t => do loadVar t (← asAddr (a.tmps.getD x undef))

theorem result_rep (hX : CtxOK P X) {base : Nat} {T B : Area} {I : Inj} {st : St} {w : World} {a : Act} (h : Rel base T B I (sig st.S) w) (hfr : listRep w st.fr T B I a.tmps.toList) {r : ResultVar} {v : AV} (hr : resultA X st r = some v) :
    ∃ u, (rvSem a r).run P w = .ok u w ∧ vrep w v T B I u := by
  cases r with
  | tmp t =>
    simp only [resultA] at hr
    injection hr with hr; subst hr
    exact ⟨_, rfl, eval_rep hfr (.tmp t)⟩
  | cell x t =>
    simp only [resultA] at hr
    split at hr
    · rename_i i e1
      split at hr
      · rename_i b e sz row off e2
        split at hr
        · rename_i row' e3
          have hp := eval_rep hfr (.tmp x)
          simp only [evalA, e2, vrep] at hp
          obtain ⟨g, gs, hi, hu⟩ := hp
          obtain ⟨c1, c2⟩ := rowOf_rep h (fun b blk hb => Holds.of hb) e3 hi
          obtain ⟨u, l1, l2⟩ := load_run hX e1 c1 hr
          refine ⟨u, ?_, l2⟩
          simp only [Act.eval] at hu
          simp only [rvSem, Sem.run_bind, hu, asAddr, Sem.run_pure, Result.andThen_ok]
          simpa only [Instr.loadAt, Instr.sureAddr, Sem.run_bind, Sem.run_pure, Result.andThen_ok] using l1
        · cases hr
      · cases hr
    · cases hr

theorem results_rep (hX : CtxOK P X) {base : Nat} {T B : Area} {I : Inj} {st : St} {w : World} {a : Act} (h : Rel base T B I (sig st.S) w) (hfr : listRep w st.fr T B I a.tmps.toList) : ∀ {rs : List ResultVar} {vs : List AV}, resultsL X st rs = some vs →
    ∃ us : List Value, (rs.mapM (rvSem a)).run P w = .ok us w ∧ listRep w vs T B I us
  | [], vs, hr => by
    simp only [resultsL] at hr; injection hr with hr; subst hr
    exact ⟨[], by simp, by simp [listRep]⟩
  | r :: rs, vs, hr => by
    simp only [resultsL] at hr
    split at hr
    · rename_i v e1
      split at hr
      · rename_i vs' e2
        injection hr with hr; subst hr
        obtain ⟨u, h1, h2⟩ := result_rep hX h hfr e1
        obtain ⟨us, h3, h4⟩ := results_rep hX h hfr e2
        refine ⟨u :: us, ?_, by simp only [listRep]; exact ⟨u, us, rfl, h2, h4⟩⟩
        rw [List.mapM_cons]
        simp only [Sem.run_bind, Sem.run_pure]
        rw [h1]
        simp only [Result.andThen_ok]
        rw [h3]
        rfl
      · cases hr
    · cases hr

theorem resultsA_rep (hX : CtxOK P X) {base : Nat} {T B : Area} {I : Inj} {st : St} {w : World} {a : Act} {fn : Func} {v : AV} (h : Rel base T B I (sig st.S) w) (hfr : listRep w st.fr T B I a.tmps.toList) (hr : resultsA X fn st = some v) :
    ∃ u, (results fn a.tmps).run P w = .ok u w ∧ vrep w v T B I u := by
  unfold resultsA at hr
  have key : ∀ us : List Value, (fn.results.toList.mapM (rvSem a)).run P w = .ok us w → (results fn a.tmps).run P w = .ok (if h : us.toArray.size = 1 then us.toArray[0] else .tuple us.toArray) w := by
    intro us hus
    unfold results
    rw [Array.mapM_eq_mapM_toList]
    simp only [bind_map_left, Sem.run_bind]
    have e : ∀ f g : ResultVar → Sem Value, f = g → (fn.results.toList.mapM g).run P w = .ok us w → (fn.results.toList.mapM f).run P w = .ok us w := fun f g h k => h ▸ k
    rw [e _ _ (by funext r; cases r <;> rfl) hus]
    simp only [Result.andThen_ok, Sem.run_pure]
  split at hr
  · rename_i v' e1
    injection hr with hr; subst hr
    obtain ⟨us, h1, h2⟩ := results_rep hX h hfr e1
    simp only [listRep] at h2
    obtain ⟨u, us', rfl, h3, rfl⟩ := h2
    exact ⟨u, by rw [key _ h1]; simp, h3⟩
  · rename_i vs hne e1
    injection hr with hr; subst hr
    obtain ⟨us, h1, h2⟩ := results_rep hX h hfr e1
    refine ⟨.tuple us.toArray, ?_, by simp only [vrep]; exact ⟨us, rfl, h2⟩⟩
    have hl := listRep_len h2
    rw [key _ h1, dif_neg]
    intro h0
    simp only [List.size_toArray] at h0
    have : ∃ x, vs = [x] := List.length_eq_one_iff.1 (by omega)
    obtain ⟨x, rfl⟩ := this
    exact hne x rfl
  · cases hr

/-! ### Functions -/
/-- What a primitive owes. -/
def PrimSound (P : Program) (f : FuncId) (p : List AV → Store → Option (AV × Store)) : Prop :=
  (∃ fn, P.funcs[f]? = some fn ∧ (fn.name == "runtime.NumGoroutine") = false ∧ fn.body.isNone = false) ∧
  ∀ args S r S', p args S = some (r, S') → ∀ base T B I w vs, Rel base T B I (sig S) w → listRep w args T B I vs →
    Calls P f vs.toArray w fun e w' => ∃ u T' B' I', e = .returned u ∧ Step base T B I w T' B' I' w' ∧ Rel base T' B' I' (sig S') w' ∧ vrep w' r T' B' I' u

structure FnsOK (P : Program) (X : Ctx) : Prop where
  fn : ∀ f fn, X.fn f = some fn → P.funcs[f]? = some fn ∧ (fn.name == "runtime.NumGoroutine") = false ∧ ∀ c, fn.body = some c → regsOK X c = true
  prim : ∀ f p, X.prim f = some p → PrimSound P f p

theorem callN_ok (hF : FnsOK P X) : ∀ n, CallOK P (callN X n)
  | 0 => fun f args S r h => by simp [callN] at h
  | n + 1 => fun f args S r h => by
    simp only [callN] at h
    split at h
    · rename_i p e1; exact (hF.prim f p e1).1
    · split at h
      · cases h
      · rename_i fn e1
        obtain ⟨h1, h2, h3⟩ := hF.fn f fn e1
        split at h
        · cases h
        · rename_i c e2
          exact ⟨fn, h1, h2, by rw [e2]; rfl⟩

theorem callN_sound (hX : CtxOK P X) (hF : FnsOK P X) : ∀ n, CallSound P (callN X n)
  | 0 => fun f args S r S' h => by simp [callN] at h
  | n + 1 => fun f args S r S' h base T B I w vs hrel hargs => by
    have ih := callN_sound hX hF n
    have io := callN_ok hF n
    simp only [callN] at h
    split at h
    · rename_i p e1; exact (hF.prim f p e1).2 _ _ _ _ h _ _ _ _ _ _ hrel hargs
    · split at h
      · cases h
      · rename_i fn e1
        obtain ⟨h1, h2, h3⟩ := hF.fn f fn e1
        split at h
        · cases h
        · rename_i c e2
          have hlen := listRep_len hargs
          have fr0 : listRep w (args ++ List.replicate (fn.ntmps - args.length) (.flat undef)) T B I (vs.toArray ++ Array.replicate (fn.ntmps - vs.toArray.size) undef).toList := by
            simp only [Array.toList_append, Array.toList_replicate, List.size_toArray, hlen]
            refine listRep_append hargs ?_
            have : ∀ k, listRep w (List.replicate k (.flat undef)) T B I (List.replicate k undef) := fun k => by
              induction k with
              | zero => simp [listRep]
              | succ k ih => simp only [List.replicate_succ, listRep]; exact ⟨_, _, rfl, by simp only [vrep], ih⟩
            exact this _
          have fin : ∀ {e : Ex} {st : St}, execA X (callN X n) n c ⟨args ++ List.replicate (fn.ntmps - args.length) (.flat undef), S⟩ = some (e, st) → (e = .normal ∨ e = .ret) → (match resultsA X fn st with | some v => some (v, st.S) | none => none) = some (r, S') →
              Calls P f vs.toArray w fun e w' => ∃ u T' B' I', e = .returned u ∧ Step base T B I w T' B' I' w' ∧ Rel base T' B' I' (sig S') w' ∧ vrep w' r T' B' I' u := by
            intro e st hex he hres
            split at hres
            · rename_i v e3
              injection hres with hres; injection hres with q1 q2; subst q1 q2
              refine calls_of_wp h1 e2 ?_
              refine exec_sound hX io ih c (h3 c e2) hex hrel fr0 fun a' w' T' B' I' k1 k2 k3 k4 => ?_
              obtain ⟨u, m1, m2⟩ := resultsA_rep hX k2 k3 e3
              rcases he with rfl | rfl
              · exact ⟨k4, u, m1, u, T', B', I', rfl, k1, k2, m2⟩
              · exact ⟨k4, u, m1, u, T', B', I', rfl, k1, k2, m2⟩
            · cases hres
          split at h
          · rename_i st e3; exact fin e3 (.inl rfl) h
          · rename_i st e3; exact fin e3 (.inr rfl) h
          · cases h
end
end Go.Eng
