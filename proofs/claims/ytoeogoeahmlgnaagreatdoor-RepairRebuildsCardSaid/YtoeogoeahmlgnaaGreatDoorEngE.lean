/- An operation that only computes, as a whole. -/
import Derived.Test.YtoeogoeahmlgnaaGreatDoorEngD
set_option linter.all false
namespace Go.Eng
open Go.RowKit
variable [Known]

section
variable {P : Program} {X : Ctx} (hX : CtxOK P X) {w : World} {T B : Area} {I : Inj}

theorem parts_of {fr : List AV} {a : Act} (hfr : ∀ x, vrep w (evalA fr x) T B I (a.eval x)) : ∀ (ps : List (Nat × Operand)), partsRep w T B I (ps.map fun p => (p.1, evalA fr p.2)) (ps.map fun p => (p.1, a.eval p.2))
  | [] => by simp [partsRep]
  | p :: ps => by
    simp only [List.map_cons, partsRep]
    exact ⟨_, _, rfl, hfr p.2, parts_of hfr ps⟩

theorem opt_of {fr : List AV} {a : Act} (hfr : ∀ x, vrep w (evalA fr x) T B I (a.eval x)) (o : Option Operand) : optRep w T B I (o.map (evalA fr)) (o.map a.eval) := by
  cases o with
  | none => simp [optRep]
  | some x => simp only [Option.map_some, optRep]; exact ⟨_, rfl, hfr x⟩

theorem map_of {fr : List AV} {a : Act} (hfr : ∀ x, vrep w (evalA fr x) T B I (a.eval x)) (l : List Operand) : listRep w (l.map (evalA fr)) T B I (l.map a.eval) :=
  listRep_map l fun x _ => hfr x

include hX in
theorem pop_sound (hTB : ∀ g, T g → B g) {fr : List AV} {a : Act} {o : Oper} {v : AV} (hfr : ∀ x, vrep w (evalA fr x) T B I (a.eval x)) (h : popA X fr o = some v) :
    ∃ u, (∀ w1, (execOp a.eval o).run P w1 = .ok (.value u) w1) ∧ vrep w v T B I u := by
  unfold popA at h
  split at h
  · rename_i x ho
    split at h
    · cases h
    · injection h with h; subst h
      exact ⟨_, fun w1 => by simp only [execOp, ho]; rfl, hfr _⟩
  · rename_i x ho
    split at h
    · cases h
    · injection h with h; subst h
      exact ⟨_, fun w1 => by simp only [execOp, ho]; rfl, hfr _⟩
  · rename_i c x y ho
    split at h
    · rename_i t hc
      injection h with h; subst h
      have h1 := hfr c
      rw [hc] at h1
      simp only [vrep] at h1
      refine ⟨if t then a.eval x else a.eval y, fun w1 => ?_, ?_⟩
      · simp [execOp, ho, h1, asBool]
      · cases t
        · exact hfr y
        · exact hfr x
    · cases h
  · rename_i x ho
    have h1 := hfr x
    split at h
    · rename_i hx
      injection h with h; subst h
      rw [hx] at h1
      have h2 := h1
      simp only [vrep] at h1
      obtain ⟨g, gs, _, hu⟩ := h1
      exact ⟨_, fun w1 => by simp only [execOp, ho, hu]; rfl, hu ▸ h2⟩
    · rename_i hx
      injection h with h; subst h
      rw [hx] at h1
      have h2 := h1
      simp only [vrep] at h1
      obtain ⟨g, gs, hu, _⟩ := h1
      exact ⟨_, fun w1 => by simp only [execOp, ho, hu]; rfl, hu ▸ h2⟩
    · rename_i hx
      injection h with h; subst h
      rw [hx] at h1
      have h2 := h1
      simp only [vrep] at h1
      obtain ⟨v, hu, _⟩ := h1
      exact ⟨_, fun w1 => by simp only [execOp, ho, hu]; rfl, hu ▸ h2⟩
    · cases h
  · rename_i t x ho
    split at h
    · rename_i i e1
      split at h
      · rename_i hs
        injection h with h; subst h
        obtain ⟨_, d, _, _, _, _, _, _, _, _, k8, q1, _⟩ := ty_run (hX.ty _ _ e1)
        refine ⟨.iface t (a.eval x), fun w1 => ?_, by simp only [vrep]; exact ⟨_, rfl, hfr x⟩⟩
        have hd : ∀ l, d ≠ .interface l := by
          intro l hl
          subst hl
          generalize i.desc = dd at hs k8
          cases dd <;> simp only [descOK] at k8 <;> first | (cases k8; done) | (obtain ⟨_, h0, _⟩ := k8; cases h0; done) | (cases hs; done)
        simp only [execOp, ho, Sem.run_bind, Instr.makeInterface, q1, Result.andThen_ok]
        cases d <;> first | rfl | exact absurd rfl (hd _)
      · cases h
    · cases h
  · rename_i op t x y _ ho
    obtain ⟨u, h1, h2⟩ := run_binA hX x y h (hfr x) (hfr y)
    refine ⟨u, fun w1 => ?_, h2⟩
    have := h1 w1
    simp only [execOp, ho, Sem.run_bind] at this ⊢
    rw [this]
    rfl
  · rename_i op t x ho
    obtain ⟨u, h1, h2⟩ := run_unA (P := P) h (hfr x)
    exact ⟨u, fun w1 => by simp only [execOp, ho, Sem.run_bind, h1]; rfl, h2⟩
  · rename_i s d x ho
    obtain ⟨u, h1, h2⟩ := run_convA hX h (hfr x)
    exact ⟨u, fun w1 => by simp only [execOp, ho, Sem.run_bind, h1]; rfl, h2⟩
  · rename_i t parts ho
    obtain ⟨u, h1, h2⟩ := run_buildA hX (qs := parts.map fun p => (p.1, a.eval p.2)) h (by simpa using parts_of hfr parts.toList)
    exact ⟨u, fun w1 => by simp only [execOp, ho, Sem.run_bind]; rw [h1]; rfl, h2⟩
  · rename_i t x f ho
    obtain ⟨u, h1, h2⟩ := run_fieldA hX h (hfr x)
    exact ⟨u, fun w1 => by simp only [execOp, ho, Sem.run_bind, h1]; rfl, h2⟩
  · rename_i t x f ho
    obtain ⟨u, h1, h2⟩ := run_fieldAddrA hX h (hfr x)
    exact ⟨u, fun w1 => by simp only [execOp, ho, Sem.run_bind, h1]; rfl, h2⟩
  · rename_i t x i ho
    obtain ⟨u, h1, h2⟩ := run_indexAddrA hX hTB h (hfr x) (hfr i)
    exact ⟨u, fun w1 => by simp only [execOp, ho, Sem.run_bind, h1]; rfl, h2⟩
  · rename_i t x i ho
    obtain ⟨u, h1, h2⟩ := run_indexA hX h (hfr x) (hfr i)
    exact ⟨u, fun w1 => by simp only [execOp, ho, Sem.run_bind, h1]; rfl, h2⟩
  · rename_i t x lo hi mx ho
    obtain ⟨u, h1, h2⟩ := run_sliceA hX h (hfr x) (opt_of hfr lo) (opt_of hfr hi) (opt_of hfr mx)
    exact ⟨u, fun w1 => by simp only [execOp, ho, Sem.run_bind, h1]; rfl, h2⟩
  · rename_i f first captured ho
    split at h
    · rename_i hz
      injection h with h; subst h
      have hz' : first = #[] := by simpa using hz
      subst hz'
      refine ⟨.func (.func f) #[] (captured.map a.eval), fun w1 => by simp [execOp, ho, Instr.makeFunc], ?_⟩
      simp only [vrep]
      exact ⟨captured.toList.map a.eval, by rw [← Array.toList_map, Array.toArray_toList], map_of hfr _⟩
    · cases h
  · rename_i x i ho
    split at h
    · rename_i vs hx
      have h1 := hfr x
      rw [hx] at h1
      simp only [vrep] at h1
      obtain ⟨us, hu, h2⟩ := h1
      obtain ⟨u, k1, k2⟩ := listRep_get h2 i v h
      refine ⟨u, fun w1 => ?_, k2⟩
      simp [execOp, ho, hu, Instr.extract, k1]
    · cases h
  · rename_i args argTypes ho
    split at h
    · rename_i x t ea et
      have ea' : args = #[x] := by rw [← Array.toList_inj]; exact ea
      have et' : argTypes = #[t] := by rw [← Array.toList_inj]; exact et
      subst ea' et'
      have fin : ∀ (n : Nat), (∀ w1, (Builtin.len_ #[t] o.type #[a.eval x]).run P w1 = .ok (.int .i64 n) w1) → ∀ w1, (execOp a.eval o).run P w1 = .ok (.value (.int .i64 n)) w1 := fun n hn w1 => by
        simp [execOp, ho, resolve, invoke, builtin, hn]
      split at h
      · rename_i el n e1 en
        split at h
        · cases h
        · rename_i hno
          injection h with h; subst h
          obtain ⟨ti, d, z, _, _, _, _, _, _, _, k8, q1, _⟩ := ty_run (hX.ty _ _ e1)
          simp only [descOK] at k8
          subst k8
          rcases len_rep en (hfr x) with ⟨s, hs, _⟩ | ⟨_, ao, cap, hu⟩
          · exact absurd hs (hno s)
          · exact ⟨.int .i64 n, fin n fun w1 => by simp [Builtin.len_, q1, hu, goInt], by simp only [vrep]⟩
      · rename_i n e1 en
        split at h
        · injection h with h; subst h
          obtain ⟨ti, d, z, _, _, _, _, _, _, _, k8, q1, _⟩ := ty_run (hX.ty _ _ e1)
          simp only [descOK] at k8
          subst k8
          rcases len_rep en (hfr x) with ⟨s, hs, hu, rfl⟩ | ⟨hno, _⟩
          · exact ⟨.int .i64 s.size, fin s.size fun w1 => by simp [Builtin.len_, q1, hu, goInt], by simp only [vrep]⟩
          · exact absurd (by assumption) (hno _)
        · cases h
      · cases h
    · cases h
  · rename_i args argTypes ho
    obtain ⟨u, h1, h2⟩ := minmax_rep (P := P) true argTypes o.type h (map_of hfr _)
    simp only [if_true] at h1
    refine ⟨u, fun w1 => ?_, h2⟩
    have := h1 w1
    simp only [← Array.toList_map, Array.toArray_toList] at this
    simp [execOp, ho, resolve, invoke, builtin, this]
  · rename_i args argTypes ho
    obtain ⟨u, h1, h2⟩ := minmax_rep (P := P) false argTypes o.type h (map_of hfr _)
    simp only [Bool.false_eq_true, if_false] at h1
    refine ⟨u, fun w1 => ?_, h2⟩
    have := h1 w1
    simp only [← Array.toList_map, Array.toArray_toList] at this
    simp [execOp, ho, resolve, invoke, builtin, this]
  · cases h
end
end Go.Eng
