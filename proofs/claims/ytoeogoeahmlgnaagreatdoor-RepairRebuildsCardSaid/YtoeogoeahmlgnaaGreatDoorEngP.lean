/- More fuel changes nothing; and how to reason about a run step by step. -/
import Derived.Test.YtoeogoeahmlgnaaGreatDoorEngO
set_option linter.all false
namespace Go.Eng
open Go.RowKit

def callLe (c c' : CallFn) : Prop := ∀ f args S r, c f args S = some r → c' f args S = some r

section
variable {X : Ctx}

theorem callV_mono {c c' : CallFn} (h : callLe c c') {f : FuncId} {args : List AV} {r : AV} (hr : callV c f args = some r) : callV c' f args = some r := by
  unfold callV at hr ⊢
  split at hr
  · rename_i e1; rw [h _ _ _ _ e1]; exact hr
  · cases hr

theorem callVN_mono {c c' : CallFn} (h : callLe c c') {f : FuncId} {args : List AV} {r : AV} (hr : callVN c f args = some r) : callVN c' f args = some r := by
  unfold callVN at hr ⊢
  split at hr
  · rename_i e1; rw [h _ _ _ _ e1]; exact hr
  · cases hr

theorem stepA_mono {d : Bool} {c c' : CallFn} (h : callLe c c') {st : St} {o : Oper} {r : AV × Store} (hr : stepA X d c st o = some r) : stepA X d c' st o = some r := by
  unfold stepA at hr ⊢
  cases e1 : popA X st.fr o with
  | some v => simp only [e1] at hr ⊢; exact hr
  | none =>
    simp only [e1] at hr ⊢
    cases e2 : qopA X d st.S st.S.length st.fr o with
    | some v => simp only [e2] at hr ⊢; exact hr
    | none =>
      simp only [e2] at hr ⊢
      cases e3 : nopA X d st.S st.S.length st.fr o with
      | some v => simp only [e3] at hr ⊢; exact hr
      | none =>
        simp only [e3] at hr ⊢
        cases e4 : calleeOf X st.fr o with
        | none => simp only [e4] at hr ⊢; exact hr
        | some fa =>
          obtain ⟨f, args⟩ := fa
          simp only [e4] at hr ⊢
          by_cases hb : X.byRef f = true
          · rw [if_pos hb] at hr ⊢
            by_cases hd : (d && !staticRef X o) = true
            · rw [if_pos hd] at hr; cases hr
            · rw [if_neg hd] at hr ⊢; exact h _ _ _ _ hr
          · rw [if_neg hb] at hr ⊢
            cases e5 : snapL st.S args with
            | none => simp only [e5] at hr; cases hr
            | some args' =>
              simp only [e5] at hr ⊢
              by_cases hn : X.nest f = true
              · rw [if_pos hn] at hr ⊢
                cases e6 : callVN c f args' with
                | none => simp only [e6] at hr; cases hr
                | some r' =>
                  simp only [e6] at hr
                  rw [callVN_mono h e6]
                  exact hr
              · rw [if_neg hn] at hr ⊢
                cases e6 : callV c f args' with
                | none => simp only [e6] at hr; cases hr
                | some r' =>
                  simp only [e6] at hr
                  rw [callV_mono h e6]
                  exact hr

theorem opsA_mono {d : Bool} {c c' : CallFn} (h : callLe c c') {ops : Array Oper} : ∀ {l : List Oper} {st st' : St}, opsA X d c ops l st = some st' → opsA X d c' ops l st = some st'
  | [], _, _, hr => hr
  | o :: rest, st, st', hr => by
    simp only [opsA] at hr ⊢
    cases e1 : guardA ops st.fr o with
    | none => simp only [e1] at hr; cases hr
    | some b =>
      cases b with
      | true =>
        simp only [e1] at hr ⊢
        split at hr
        · cases hr
        rename_i hl
        rw [if_neg hl]
        cases e2 : stepA X d c st o with
        | none => simp only [e2] at hr; cases hr
        | some vs =>
          obtain ⟨v, S'⟩ := vs
          simp only [e2] at hr
          rw [stepA_mono h e2]
          exact opsA_mono h hr
      | false =>
        simp only [e1] at hr ⊢
        exact opsA_mono h hr

theorem loopA_mono {b b' : St → Option (Ex × St)} (h : ∀ st r, b st = some r → b' st = some r) : ∀ {n m : Nat}, n ≤ m → ∀ {st : St} {r : Ex × St}, loopA b n st = some r → loopA b' m st = some r
  | 0, _, _, _, _, hr => by simp [loopA] at hr
  | n + 1, 0, hnm, _, _, _ => by omega
  | n + 1, m + 1, hnm, st, r, hr => by
    simp only [loopA] at hr ⊢
    split at hr
    · rename_i st' e1
      rw [h _ _ e1]
      exact loopA_mono h (by omega) hr
    · rename_i hne
      rw [h _ _ hr]
      split
      · rename_i st' e1
        injection e1 with e1
        exact absurd (by rw [hr, e1]) (hne st')
      · rfl

theorem execA_mono {c c' : CallFn} (h : callLe c c') {n m : Nat} (hnm : n ≤ m) : ∀ (k : Code) {st : St} {r : Ex × St}, execA X c n k st = some r → execA X c' m k st = some r
  | .skip, _, _, hr => hr
  | .exit _, _, _, hr => hr
  | .ret, _, _, hr => hr
  | .region _ ops d, st, r, hr => by
    simp only [execA] at hr ⊢
    split at hr
    · rename_i st' e1; rw [opsA_mono h e1]; exact hr
    · cases hr
  | .seq a b, st, r, hr => by
    simp only [execA] at hr ⊢
    split at hr
    · rename_i st' e1
      rw [execA_mono h hnm a e1]
      exact execA_mono h hnm b hr
    · rename_i hne
      rw [execA_mono h hnm a hr]
      split
      · rename_i st' e1
        injection e1 with e1
        exact absurd (by rw [hr, e1]) (hne st')
      · rfl
  | .cond _ a b, st, r, hr => by
    simp only [execA] at hr ⊢
    split at hr
    · rename_i t e
      split at hr
      · rename_i ht; rw [if_pos ht]; exact execA_mono h hnm a hr
      · rename_i ht; rw [if_neg ht]; exact execA_mono h hnm b hr
    · cases hr
  | .block id k, st, r, hr => by
    simp only [execA] at hr ⊢
    split at hr
    · rename_i id' st' e1
      rw [execA_mono h hnm k e1]
      exact hr
    · rename_i hne
      rw [execA_mono h hnm k hr]
      split
      · rename_i id' st' e1
        injection e1 with e1
        exact absurd (by rw [hr, e1]) (hne id' st')
      · rfl
  | .loop k, st, r, hr => by
    simp only [execA] at hr ⊢
    exact loopA_mono (fun st r hk => execA_mono h hnm k hk) hnm hr
  | .rangeFunc .., _, _, hr => by simp [execA] at hr
  | .scope _, _, _, hr => by simp [execA] at hr
  | .label _, _, _, hr => by simp [execA] at hr
  | .goto _, _, _, hr => by simp [execA] at hr
  | .refuse _, _, _, hr => by simp [execA] at hr

theorem callN_step (n : Nat) : callLe (callN X n) (callN X (n + 1)) := by
  induction n with
  | zero => exact fun f args S r hr => by simp [callN] at hr
  | succ n ih =>
    intro f args S r hr
    rw [callN] at hr ⊢
    cases e0 : X.prim f with
    | some p => simp only [e0] at hr ⊢; exact hr
    | none =>
      simp only [e0] at hr ⊢
      cases e1 : X.fn f with
      | none => simp only [e1] at hr; cases hr
      | some fn =>
        simp only [e1] at hr ⊢
        cases e2 : fn.body with
        | none => simp only [e2] at hr; cases hr
        | some c =>
          simp only [e2] at hr ⊢
          split at hr
          · rename_i st e3
            rw [execA_mono ih (Nat.le_succ n) c e3]
            exact hr
          · rename_i st e3
            rw [execA_mono ih (Nat.le_succ n) c e3]
            exact hr
          · cases hr

theorem callN_mono {n m : Nat} (h : n ≤ m) : callLe (callN X n) (callN X m) := by
  induction h with
  | refl => exact fun _ _ _ _ h => h
  | step _ ih => exact fun f args S r hr => callN_step _ f args S r (ih f args S r hr)

/-! ### Predicates -/
/-- The call by value hands back something of which R holds. -/
def EvV (X : Ctx) (f : FuncId) (args : List AV) (R : AV → Prop) : Prop := ∃ n r, callV (callN X n) f args = some r ∧ R r

/-- The call by reference. -/
def EvR (X : Ctx) (f : FuncId) (args : List AV) (S : Store) (R : AV → Store → Prop) : Prop := ∃ n r S', callN X n f args S = some (r, S') ∧ R r S'

def noCall : CallFn := fun _ _ _ => none

/-- One operation. -/
def wp1 (X : Ctx) (d : Bool) (o : Oper) (K : AV → Store → Prop) (fr : List AV) (S : Store) : Prop :=
  match popA X fr o with
  | some v => K v S
  | none => match qopA X d S S.length fr o with
    | some (v, nb) => K v (S ++ nb)
    | none => match nopA X d S S.length fr o with
      | some (v, nb) => K v (S ++ nb)
      | none => match calleeOf X fr o with
        | some (f, args) =>
          if X.byRef f then (if d && !staticRef X o then False else EvR X f args S K)
          else match snapL S args with
            | some args' => if X.nest f = true then False else EvV X f args' fun r => K (adoptZ (X.frz o.pos) S.length r).1 (S ++ (adoptZ (X.frz o.pos) S.length r).2)
            | none => False
        | none => if d && !apdOK S fr o then False else match eopA X S fr o with
          | some (v, S') => K v S'
          | none => False

def latP (X : Ctx) (d : Bool) (fr : List AV) : Op → String → Prop → Prop
  | .store _ p _, pos, Q => if (d && !((X.late pos).all fun t => apartA (getA fr t) (evalA fr p))) = true then False else Q
  | _, _, Q => Q
theorem latP_iff {X : Ctx} {d : Bool} {fr : List AV} {o : Oper} {Q : Prop} : latP X d fr o.op o.pos Q ↔ (d && !lateOK X fr o) = false ∧ Q := by
  unfold latP lateOK
  split
  · rename_i t p x h
    split
    · rename_i h1; simp only [h, h1, false_iff]; simp
    · rename_i h1; simp only [Bool.not_eq_true] at h1; simp only [h, h1, true_and]
  · simp

/-- Some operations, one behind the other. -/
def wpO (X : Ctx) (d : Bool) (ops : Array Oper) : List Oper → (List AV → Store → Prop) → List AV → Store → Prop
  | [], Q, fr, S => Q fr S
  | o :: rest, Q, fr, S => match guardA ops fr o with
    | some g => if g = true then latP X d fr o.op o.pos (wp1 X d o (fun v S' => wpO X d ops rest Q (putA fr o.dst v) S') fr S) else wpO X d ops rest Q (putA fr o.dst (.flat undef)) S
    | none => False

/-- Rounds of a loop. -/
def wpL (body : (Ex → List AV → Store → Prop) → List AV → Store → Prop) (Q : Ex → List AV → Store → Prop) : Nat → List AV → Store → Prop
  | 0, _, _ => False
  | n + 1, fr, S => body (fun e fr' S' => match e with | .normal => wpL body Q n fr' S' | e => Q e fr' S') fr S

def wpC (X : Ctx) : Code → (Ex → List AV → Store → Prop) → List AV → Store → Prop
  | .skip, Q, fr, S => Q .normal fr S
  | .region _ ops d, Q, fr, S => wpO X d ops ops.toList (Q .normal) fr S
  | .seq a b, Q, fr, S => wpC X a (fun e fr' S' => match e with | .normal => wpC X b Q fr' S' | e => Q e fr' S') fr S
  | .cond c a b, Q, fr, S => match evalA fr c with
    | .bool t => if t = true then wpC X a Q fr S else wpC X b Q fr S
    | _ => False
  | .block id c, Q, fr, S => wpC X c (fun e fr' S' => match e with | .exit id' => if id' = id then Q .normal fr' S' else Q (.exit id') fr' S' | e => Q e fr' S') fr S
  | .loop c, Q, fr, S => ∃ n, wpL (wpC X c) Q n fr S
  | .exit id, Q, fr, S => Q (.exit id) fr S
  | .ret, Q, fr, S => Q .ret fr S
  | _, _, _, _ => False

theorem wpO_sound {d : Bool} {ops : Array Oper} : ∀ {l : List Oper} {Q : List AV → Store → Prop} {fr : List AV} {S : Store}, wpO X d ops l Q fr S → ∃ n st', opsA X d (callN X n) ops l ⟨fr, S⟩ = some st' ∧ Q st'.fr st'.S
  | [], Q, fr, S, h => ⟨0, ⟨fr, S⟩, rfl, h⟩
  | o :: rest, Q, fr, S, h => by
    have join : ∀ {n1 : Nat} {v : AV} {S1 : Store}, guardA ops fr o = some true → (d && !lateOK X fr o) = false → stepA X d (callN X n1) ⟨fr, S⟩ o = some (v, S1) → wpO X d ops rest Q (putA fr o.dst v) S1 → ∃ n st', opsA X d (callN X n) ops (o :: rest) ⟨fr, S⟩ = some st' ∧ Q st'.fr st'.S := by
      intro n1 v S1 hg hl hs hr
      obtain ⟨n2, st', h1, h2⟩ := wpO_sound hr
      refine ⟨max n1 n2, st', ?_, h2⟩
      simp only [opsA, hg, hl, Bool.false_eq_true, if_false]
      rw [stepA_mono (callN_mono (Nat.le_max_left n1 n2)) hs]
      exact opsA_mono (callN_mono (Nat.le_max_right n1 n2)) h1
    simp only [wpO] at h
    split at h
    · rename_i g hg
      cases g with
      | false =>
        simp only [Bool.false_eq_true, if_false] at h
        obtain ⟨n2, st', h1, h2⟩ := wpO_sound h
        exact ⟨n2, st', by simp only [opsA, hg]; exact h1, h2⟩
      | true =>
      simp only [if_true, latP_iff] at h
      obtain ⟨hl, h⟩ := h
      have join := fun {n1 : Nat} {v : AV} {S1 : Store} hg => join (n1 := n1) (v := v) (S1 := S1) hg hl
      simp only [wp1] at h
      split at h
      · rename_i v e1
        exact join (n1 := 0) hg (by unfold stepA; simp only [e1]) h
      · rename_i e1
        split at h
        · rename_i v nb e2
          exact join (n1 := 0) hg (by unfold stepA; simp only [e1, e2]) h
        · rename_i e2
          split at h
          · rename_i v nb e3
            exact join (n1 := 0) hg (by unfold stepA; simp only [e1, e2, e3]) h
          · rename_i e3
            split at h
            · rename_i f args e4
              split at h
              · rename_i hb
                split at h
                · exact h.elim
                · rename_i hd
                  obtain ⟨n1, r, S', h1, h2⟩ := h
                  exact join (n1 := n1) hg (by unfold stepA; simp only [e1, e2, e3, e4]; rw [if_pos hb, if_neg hd]; exact h1) h2
              · rename_i hb
                split at h
                · rename_i args' e5
                  split at h
                  · exact h.elim
                  · rename_i hn
                    obtain ⟨n1, r, h1, h2⟩ := h
                    exact join (n1 := n1) hg (by unfold stepA; simp only [e1, e2, e3, e4]; rw [if_neg hb, e5]; simp only; rw [if_neg hn]; simp only [h1]) h2
                · exact h.elim
            · rename_i e4
              split at h
              · exact h.elim
              · rename_i hd
                split at h
                · rename_i v S' e5
                  exact join (n1 := 0) hg (by unfold stepA; simp only [e1, e2, e3, e4]; rw [if_neg hd]; exact e5) h
                · exact h.elim
    · exact h.elim

theorem wpC_sound : ∀ {c : Code} {Q : Ex → List AV → Store → Prop} {fr : List AV} {S : Store}, wpC X c Q fr S → ∃ n e st', execA X (callN X n) n c ⟨fr, S⟩ = some (e, st') ∧ Q e st'.fr st'.S
  | .skip, Q, fr, S, h => ⟨0, .normal, ⟨fr, S⟩, rfl, h⟩
  | .exit id, Q, fr, S, h => ⟨0, .exit id, ⟨fr, S⟩, rfl, h⟩
  | .ret, Q, fr, S, h => ⟨0, .ret, ⟨fr, S⟩, rfl, h⟩
  | .region id ops d, Q, fr, S, h => by
    obtain ⟨n, st', h1, h2⟩ := wpO_sound h
    exact ⟨n, .normal, st', by simp only [execA, h1], h2⟩
  | .seq a b, Q, fr, S, h => by
    obtain ⟨n, e, st', h1, h2⟩ := wpC_sound (c := a) h
    cases e with
    | normal =>
      obtain ⟨m, e2, st2, h3, h4⟩ := wpC_sound (c := b) h2
      refine ⟨max n m, e2, st2, ?_, h4⟩
      simp only [execA]
      rw [execA_mono (callN_mono (Nat.le_max_left n m)) (Nat.le_max_left n m) a h1]
      exact execA_mono (callN_mono (Nat.le_max_right n m)) (Nat.le_max_right n m) b h3
    | exit id => exact ⟨n, .exit id, st', by simp only [execA]; rw [h1], h2⟩
    | ret => exact ⟨n, .ret, st', by simp only [execA]; rw [h1], h2⟩
  | .cond c a b, Q, fr, S, h => by
    simp only [wpC] at h
    split at h
    · rename_i t e
      split at h
      · rename_i ht
        obtain ⟨n, e', st', h1, h2⟩ := wpC_sound (c := a) h
        exact ⟨n, e', st', by simp only [execA, e, ht, if_true, h1], h2⟩
      · rename_i ht
        obtain ⟨n, e', st', h1, h2⟩ := wpC_sound (c := b) h
        exact ⟨n, e', st', by simp only [execA, e]; rw [if_neg ht]; exact h1, h2⟩
    · exact h.elim
  | .block id c, Q, fr, S, h => by
    obtain ⟨n, e, st', h1, h2⟩ := wpC_sound (c := c) h
    cases e with
    | normal => exact ⟨n, .normal, st', by simp only [execA]; rw [h1], h2⟩
    | exit id' =>
      by_cases hid : id' = id
      · simp only [hid, if_true] at h2
        exact ⟨n, .normal, st', by simp only [execA]; rw [h1]; simp [hid], h2⟩
      · simp only [hid, if_false] at h2
        exact ⟨n, .exit id', st', by simp only [execA]; rw [h1]; simp [hid], h2⟩
    | ret => exact ⟨n, .ret, st', by simp only [execA]; rw [h1], h2⟩
  | .loop c, Q, fr, S, h => by
    obtain ⟨k, h⟩ := h
    have go : ∀ (k : Nat) {fr : List AV} {S : Store}, wpL (wpC X c) Q k fr S → ∃ n e st', loopA (execA X (callN X n) n c) n ⟨fr, S⟩ = some (e, st') ∧ Q e st'.fr st'.S := by
      intro k
      induction k with
      | zero => intro fr S h; exact h.elim
      | succ k ih =>
        intro fr S h
        obtain ⟨n, e, st', h1, h2⟩ := wpC_sound (c := c) h
        have other : e ≠ .normal → Q e st'.fr st'.S → ∃ n e st', loopA (execA X (callN X n) n c) n ⟨fr, S⟩ = some (e, st') ∧ Q e st'.fr st'.S := by
          intro hne hq
          refine ⟨n + 1, e, st', ?_, hq⟩
          simp only [loopA]
          rw [execA_mono (callN_mono (Nat.le_succ n)) (Nat.le_succ n) c h1]
          cases e <;> first | rfl | exact absurd rfl hne
        cases e with
        | normal =>
          obtain ⟨m, e2, st2, h3, h4⟩ := ih h2
          refine ⟨max n m + 1, e2, st2, ?_, h4⟩
          simp only [loopA]
          rw [execA_mono (callN_mono (show n ≤ max n m + 1 by omega)) (show n ≤ max n m + 1 by omega) c h1]
          exact loopA_mono (fun st r hk => execA_mono (callN_mono (show m ≤ max n m + 1 by omega)) (show m ≤ max n m + 1 by omega) c hk) (show m ≤ max n m by omega) h3
        | exit id => exact other (by simp) h2
        | ret => exact other (by simp) h2
    obtain ⟨n, e, st', h1, h2⟩ := go k h
    exact ⟨n, e, st', by simp only [execA]; exact h1, h2⟩
  | .rangeFunc .., _, _, _, h => h.elim
  | .scope _, _, _, _, h => h.elim
  | .label _, _, _, _, h => h.elim
  | .goto _, _, _, _, h => h.elim
  | .refuse _, _, _, _, h => h.elim

theorem wpO_mono {d : Bool} {ops : Array Oper} : ∀ {l : List Oper} {Q Q' : List AV → Store → Prop} {fr : List AV} {S : Store}, (∀ fr S, Q fr S → Q' fr S) → wpO X d ops l Q fr S → wpO X d ops l Q' fr S
  | [], Q, Q', fr, S, hq, h => hq _ _ h
  | o :: rest, Q, Q', fr, S, hq, h => by
    have ih : ∀ {fr : List AV} {S : Store}, wpO X d ops rest Q fr S → wpO X d ops rest Q' fr S := fun {fr S} => wpO_mono (l := rest) (fr := fr) (S := S) hq
    simp only [wpO] at h ⊢
    cases e0 : guardA ops fr o with
    | none => simp only [e0] at h
    | some g =>
      cases g with
      | false => simp only [e0, Bool.false_eq_true, if_false] at h ⊢; exact ih h
      | true =>
        simp only [e0, if_true, latP_iff] at h ⊢
        refine ⟨h.1, ?_⟩
        replace h := h.2
        simp only [wp1] at h ⊢
        cases e1 : popA X fr o with
        | some v => simp only [e1] at h ⊢; exact ih h
        | none =>
          simp only [e1] at h ⊢
          cases e2 : qopA X d S S.length fr o with
          | some v => simp only [e2] at h ⊢; exact ih h
          | none =>
            simp only [e2] at h ⊢
            cases e3 : nopA X d S S.length fr o with
            | some v => simp only [e3] at h ⊢; exact ih h
            | none =>
              simp only [e3] at h ⊢
              cases e4 : calleeOf X fr o with
              | some fa =>
                obtain ⟨f, args⟩ := fa
                simp only [e4] at h ⊢
                by_cases hb : X.byRef f = true
                · rw [if_pos hb] at h ⊢
                  by_cases hd : (d && !staticRef X o) = true
                  · rw [if_pos hd] at h; exact h.elim
                  · rw [if_neg hd] at h ⊢
                    obtain ⟨n, r, S', h1, h2⟩ := h
                    exact ⟨n, r, S', h1, ih h2⟩
                · rw [if_neg hb] at h ⊢
                  cases e5 : snapL S args with
                  | none => simp only [e5] at h
                  | some args' =>
                    simp only [e5] at h ⊢
                    by_cases hn : X.nest f = true
                    · rw [if_pos hn] at h; exact h.elim
                    · rw [if_neg hn] at h ⊢
                      obtain ⟨n, r, h1, h2⟩ := h
                      exact ⟨n, r, h1, ih h2⟩
              | none =>
                simp only [e4] at h ⊢
                by_cases hd : (d && !apdOK S fr o) = true
                · rw [if_pos hd] at h; exact h.elim
                · rw [if_neg hd] at h ⊢
                  cases e5 : eopA X S fr o with
                  | none => simp only [e5] at h
                  | some vs => simp only [e5] at h ⊢; exact ih h

theorem wpC_mono : ∀ {c : Code} {Q Q' : Ex → List AV → Store → Prop} {fr : List AV} {S : Store}, (∀ e fr S, Q e fr S → Q' e fr S) → wpC X c Q fr S → wpC X c Q' fr S
  | .skip, _, _, _, _, hq, h => hq _ _ _ h
  | .exit _, _, _, _, _, hq, h => hq _ _ _ h
  | .ret, _, _, _, _, hq, h => hq _ _ _ h
  | .region _ _ _, _, _, _, _, hq, h => wpO_mono (hq _) h
  | .seq a b, Q, Q', fr, S, hq, h => by
    refine wpC_mono (c := a) (fun e fr S h' => ?_) h
    cases e with
    | normal => exact wpC_mono (c := b) hq h'
    | exit id => exact hq _ _ _ h'
    | ret => exact hq _ _ _ h'
  | .cond c a b, Q, Q', fr, S, hq, h => by
    simp only [wpC] at h ⊢
    split at h
    · split at h
      · rename_i ht; rw [if_pos ht]; exact wpC_mono (c := a) hq h
      · rename_i ht; rw [if_neg ht]; exact wpC_mono (c := b) hq h
    · exact h.elim
  | .block id c, Q, Q', fr, S, hq, h => by
    refine wpC_mono (c := c) (fun e fr S h' => ?_) h
    cases e with
    | normal => exact hq _ _ _ h'
    | exit id' =>
      by_cases hid : id' = id
      · simp only [hid, if_true] at h' ⊢; exact hq _ _ _ h'
      · simp only [hid, if_false] at h' ⊢; exact hq _ _ _ h'
    | ret => exact hq _ _ _ h'
  | .loop c, Q, Q', fr, S, hq, h => by
    obtain ⟨n, h⟩ := h
    refine ⟨n, ?_⟩
    have go : ∀ (n : Nat) {fr : List AV} {S : Store}, wpL (wpC X c) Q n fr S → wpL (wpC X c) Q' n fr S := by
      intro n
      induction n with
      | zero => intro fr S h; exact h
      | succ n ih =>
        intro fr S h
        refine wpC_mono (c := c) (fun e fr S h' => ?_) h
        cases e with
        | normal => exact ih h'
        | exit id => exact hq _ _ _ h'
        | ret => exact hq _ _ _ h'
    exact go n h
  | .rangeFunc .., _, _, _, _, _, h => h.elim
  | .scope _, _, _, _, _, _, h => h.elim
  | .label _, _, _, _, _, _, h => h.elim
  | .goto _, _, _, _, _, _, h => h.elim
  | .refuse _, _, _, _, _, _, h => h.elim

/-- A loop, by a relation and a measure. -/
theorem wpC_loop {c : Code} {Q : Ex → List AV → Store → Prop} {fr : List AV} {S : Store} (J : List AV → Store → Prop) (μ : List AV → Store → Nat) (h0 : J fr S)
    (h : ∀ fr S, J fr S → wpC X c (fun e fr' S' => match e with | .normal => J fr' S' ∧ μ fr' S' < μ fr S | e => Q e fr' S') fr S) : wpC X (.loop c) Q fr S := by
  have go : ∀ (k : Nat) (fr : List AV) (S : Store), J fr S → μ fr S < k → wpL (wpC X c) Q k fr S := by
    intro k
    induction k with
    | zero => intro fr S _ h; omega
    | succ k ih =>
      intro fr S hj hm
      refine wpC_mono (c := c) (fun e fr' S' h' => ?_) (h fr S hj)
      cases e with
      | normal => exact ih fr' S' h'.1 (by have := h'.2; omega)
      | exit id => exact h'
      | ret => exact h'
  exact ⟨_, go (μ fr S + 1) fr S h0 (Nat.lt_succ_self _)⟩

/-- A function's body. -/
def wpF (X : Ctx) (f : FuncId) (args : List AV) (S : Store) (R : AV → Store → Prop) : Prop :=
  match X.fn f with
  | none => False
  | some fn => match fn.body with
    | none => False
    | some c => wpC X c (fun e fr S' => match e with | .exit _ => False | _ => match resultsA X fn ⟨fr, S'⟩ with | some v => R v S' | none => False) (args ++ List.replicate (fn.ntmps - args.length) (.flat undef)) S

theorem EvR_of {f : FuncId} {args : List AV} {S : Store} {R : AV → Store → Prop} (hp : X.prim f = none) (h : wpF X f args S R) : EvR X f args S R := by
  unfold wpF at h
  split at h
  · exact h.elim
  · rename_i fn e1
    split at h
    · exact h.elim
    · rename_i c e2
      obtain ⟨n, e, st', h1, h2⟩ := wpC_sound h
      have fin : (e = .normal ∨ e = .ret) → (match resultsA X fn ⟨st'.fr, st'.S⟩ with | some v => R v st'.S | none => False) → EvR X f args S R := by
        intro he hr
        split at hr
        · rename_i v e3
          refine ⟨n + 1, v, st'.S, ?_, hr⟩
          rw [callN]
          simp only [hp, e1, e2, h1]
          rcases he with rfl | rfl <;> simp only [e3]
        · exact hr.elim
      cases e with
      | normal => exact fin (.inl rfl) h2
      | exit id => exact h2.elim
      | ret => exact fin (.inr rfl) h2

theorem EvV_of {f : FuncId} {args : List AV} {R : AV → Prop} (h : EvR X f args [] fun r S => match exportA S r with | some v => R v | none => False) : EvV X f args R := by
  obtain ⟨n, r, S, h1, h2⟩ := h
  split at h2
  · rename_i v e
    exact ⟨n, v, by unfold callV; rw [h1]; exact e, h2⟩
  · exact h2.elim

theorem EvV.mono {f : FuncId} {args : List AV} {R R' : AV → Prop} (h : EvV X f args R) (hR : ∀ r, R r → R' r) : EvV X f args R' :=
  let ⟨n, r, h1, h2⟩ := h
  ⟨n, r, h1, hR r h2⟩

theorem EvR.mono {f : FuncId} {args : List AV} {S : Store} {R R' : AV → Store → Prop} (h : EvR X f args S R) (hR : ∀ r S, R r S → R' r S) : EvR X f args S R' :=
  let ⟨n, r, S', h1, h2⟩ := h
  ⟨n, r, S', h1, hR r S' h2⟩

/-- What a call hands back is one thing. -/
theorem EvV.eq {f : FuncId} {args : List AV} {r : AV} (h : EvV X f args (· = r)) (Q : AV → Prop) : EvV X f args Q ↔ Q r := by
  obtain ⟨n, r', h1, rfl⟩ := h
  constructor
  · rintro ⟨m, r2, h2, h3⟩
    have e1 := callV_mono (callN_mono (Nat.le_max_left n m)) h1
    have e2 := callV_mono (callN_mono (Nat.le_max_right n m)) h2
    rw [e1] at e2
    injection e2 with e2
    rw [e2]; exact h3
  · exact fun hq => ⟨n, r', h1, hq⟩

theorem EvR.eq {f : FuncId} {args : List AV} {S S1 : Store} {r : AV} (h : EvR X f args S fun v s => v = r ∧ s = S1) (Q : AV → Store → Prop) : EvR X f args S Q ↔ Q r S1 := by
  obtain ⟨n, r', S', h1, rfl, rfl⟩ := h
  constructor
  · rintro ⟨m, r2, S2, h2, h3⟩
    have e1 := callN_mono (Nat.le_max_left n m) _ _ _ _ h1
    have e2 := callN_mono (Nat.le_max_right n m) _ _ _ _ h2
    rw [e1] at e2
    injection e2 with e2
    injection e2 with q1 q2
    rw [q1, q2]; exact h3
  · exact fun hq => ⟨n, r', S', h1, hq⟩
end
end Go.Eng
