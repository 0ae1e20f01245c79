/- runes.Points as a primitive: the scalars of a string. -/
import Derived.Test.YtoeogoeahmlgnaaGreatDoorEngU
import Derived.Test.YtoeogoeahmlgnaaGreatDoorLu
set_option linter.all false
namespace Go.Eng
variable [Known]
open Go.RowKit

/-- runes.Points: the scalars of a valid string. -/
def primPts (args : List AV) (S : Store) : Option (AV × Store) :=
  match args with
  | [.str s] => if s.size ≤ 1073741824 then
      (match pts s.data.toList with
       | none => some (.tup [.flat (.slice none 0 0), .bool false], S)
       | some l => if l.length = 0 then some (.tup [.flat (.slice none 0 0), .bool true], S)
          else some (.tup [.sl S.length l.length 0 l.length 1, .bool true], S ++ [.arr (l.map fun n : Nat => [.int .i64 (n : Int)]) 1 0 true]))
    else none
  | _ => none

/-- The strings of an example. -/
def exStr (s : ByteArray) : Bool := decide (s = ⟨#[97]⟩) || decide (s = ⟨#[98]⟩)

/-- The same, for some strings alone. -/
def primPtsR (ok : ByteArray → Bool) (args : List AV) (S : Store) : Option (AV × Store) :=
  match args with
  | [.str s] => if ok s = true then primPts [.str s] S else none
  | _ => none

/-- What a call of it leaves. -/
def PtsOut (te : TypeId) (s : ByteArray) (w : World) (e : Ending) (W' : World) : Prop :=
  ∃ v b, e = .returned (.tuple #[v, .bool b]) ∧ Below w.heap.size w W' ∧
    match pts s.data.toList with
    | none => v = .slice none 0 0 ∧ b = false
    | some l => b = true ∧ W'.ownsRow w.heap.size te 1 v l.length (l.map fun n : Nat => .int .i64 (n : Int)) ∧ (v = .slice none 0 0 ↔ l = [])

theorem primPtsR_sound {P : Program} {f : FuncId} {te : TypeId} {fn : Func} (ok : ByteArray → Bool) (hf : P.funcs[f]? = some fn) (hnm : (fn.name == "runtime.NumGoroutine") = false) (hb : fn.body.isNone = false)
    (hc : ∀ (s : ByteArray), ok s = true → s.size ≤ 1073741824 → ∀ w : World, (∀ g o, Known.blk g = some o → w.heap[g]? = some o) → Calls P f #[.string s] w (PtsOut te s w)) :
    PrimSound P f (primPtsR ok) := by
  refine ⟨⟨fn, hf, hnm, hb⟩, ?_⟩
  intro args S r S' hp base T B I w vs hrel hargs
  unfold primPtsR at hp
  split at hp
  · rename_i s
    by_cases hok : ok s = true
    rotate_left
    · rw [if_neg hok] at hp; cases hp
    rw [if_pos hok] at hp
    simp only [primPts] at hp
    split at hp
    · rename_i hlen
      simp only [listRep, vrep] at hargs
      obtain ⟨_, _, rfl, rfl, rfl⟩ := hargs
      have hc' := hc s hok hlen w (fun g o k => (hrel.known g o k).2)
      refine hc'.mono ?_
      rintro e W' ⟨v, b, rfl, hbel, hm⟩
      have hr1 : Rel base T B I (sig S) W' := hrel.quiet hbel (fun _ h => h) (fun _ h => h) hrel.TB (fun _ h => .inl h)
      have hs1 : Step base T B I w T B I W' := Step.quiet hrel hbel (fun _ h => h) (fun _ h => h) (fun _ h => .inl h) (fun _ h => .inl h)
      split at hp
      · rename_i e1
        rw [e1] at hm
        obtain ⟨rfl, rfl⟩ := hm
        injection hp with hp; injection hp with q1 q2; subst q1 q2
        exact ⟨_, T, B, I, rfl, hs1, hr1, by simp only [vrep, listRep]; exact ⟨[.slice none 0 0, .bool false], rfl, _, _, rfl, rfl, _, _, rfl, rfl, rfl⟩⟩
      · rename_i l e1
        rw [e1] at hm
        obtain ⟨rfl, hown, hnil⟩ := hm
        split at hp
        · rename_i h0
          injection hp with hp; injection hp with q1 q2; subst q1 q2
          have h1 : l = [] := List.eq_nil_of_length_eq_zero h0
          have h2 := hnil.2 h1
          subst h2
          exact ⟨_, T, B, I, rfl, hs1, hr1, by simp only [vrep, listRep]; exact ⟨[.slice none 0 0, .bool true], rfl, _, _, rfl, rfl, _, _, rfl, rfl, rfl⟩⟩
        · rename_i h0
          injection hp with hp; injection hp with q1 q2; subst q1 q2
          have hne : l ≠ [] := fun e => h0 (by rw [e]; rfl)
          rcases hown.2 with ⟨rfl, _⟩ | ⟨gb, cap, cur, rfl, hge, hgb, k1, k2, k3, k4⟩
          · exact absurd (hnil.1 rfl) hne
          · have hfresh : ∀ e, I S.length e = none := hrel.fresh (Nat.le_refl _)
            have hview : Rel base T B I (sig (S ++ [.arr (l.map fun n : Nat => [.int .i64 (n : Int)]) 1 0 true])) W' := hr1.view fun b e p hi => by
              obtain ⟨blk, hS, _⟩ := hrel.cov hi
              simp only [sig]
              rw [List.getElem?_append_left (List.getElem?_eq_some_iff.1 hS).1]
            have hnew := hview.newBlk (b := S.length) (g := gb) (rows := l.map fun n : Nat => [.int .i64 (n : Int)]) (sz := 1) (pr := true) (c := cur) (ty := te) (hfresh _) (Holds.of (by simp [sig])) (Nat.le_trans hrel.base_le hge)
              (fun hB => absurd (hrel.Blt _ hB) (by omega)) (fun b e gs hi => absurd (hrel.lt hi) (by omega)) hgb (by simp; omega)
              (rowsRep_iff.2 fun i r hr => by
                rw [List.getElem?_map] at hr
                cases hi : l[i]? with
                | none => rw [hi] at hr; cases hr
                | some x =>
                  rw [hi] at hr
                  injection hr with hr; subst hr
                  refine ⟨rfl, ?_⟩
                  simp only [cellsRep, vrep]
                  refine ⟨⟨.int .i64 (x : Int), ?_, rfl, rfl⟩, trivial⟩
                  have hil := (List.getElem?_eq_some_iff.1 hi).1
                  have hcu : cur.toList[i]? = some (.int .i64 (x : Int)) := by
                    have := congrArg (fun q => q[i]?) k4
                    simp only [List.getElem?_map, hi, Option.map_some] at this
                    rw [List.getElem?_take_of_lt (by omega)] at this
                    exact this
                  simp only [World.cell?, hgb, Nat.zero_add, Nat.mul_one]
                  simpa using hcu)
            refine ⟨_, T, B, _, rfl, hs1.trans (Step.inj (hfresh _)), hnew, ?_⟩
            simp only [vrep, listRep, List.length_map]
            refine ⟨[_, .bool true], rfl, _, _, rfl, .inr ⟨gb, cur.size, cap, Inj.put_self, ?_, k1, k2, by omega⟩, _, _, rfl, rfl, rfl⟩
            simp
    · cases hp
  · cases hp
theorem primPts_sound {P : Program} {f : FuncId} {te : TypeId} {fn : Func} (hf : P.funcs[f]? = some fn) (hnm : (fn.name == "runtime.NumGoroutine") = false) (hb : fn.body.isNone = false)
    (hc : ∀ (s : ByteArray), s.size ≤ 1073741824 → ∀ w : World, (∀ g o, Known.blk g = some o → w.heap[g]? = some o) → Calls P f #[.string s] w (PtsOut te s w)) :
    PrimSound P f primPts := by
  have h := primPtsR_sound (te := te) (fun _ => true) hf hnm hb fun s _ => hc s
  have e : primPtsR (fun _ => true) = primPts := by
    funext args S
    unfold primPtsR
    split
    · rw [if_pos rfl]
    · rename_i hne
      unfold primPts
      split
      · exact absurd rfl (hne _)
      · rfl
  rw [e] at h
  exact h
end Go.Eng
