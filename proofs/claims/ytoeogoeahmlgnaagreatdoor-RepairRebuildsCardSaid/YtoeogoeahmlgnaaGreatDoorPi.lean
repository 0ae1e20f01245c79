/- What runes.Points hands back: the scalars of a valid string. (Turned from the worked walks of a loop over a string and of a loop that collects.) -/
import Derived.Test.YtoeogoeahmlgnaaGreatDoorProg
import Derived.Test.YtoeogoeahmlgnaaGreatDoorPt
import Derived.RangeFuncBox
import Derived.RangeFuncLeaves
import Derived.Shelf.Abstract
import Derived.WalkKit
import Derived.OwnWalkIn
import Derived.TacticsInMore
import Derived.LoopNIn
import Derived.LoopIn
import Derived.Maps.AppendAt
import Derived.CallsIn
import Derived.Lib.OthersKept
import Derived.Lib.TrimUEq
set_option linter.all false
namespace Go.Eng
variable [Known]
open Go.RowKit Go.Shelf Go.Proofs

attribute [local go_sem] Oper.semAt_some

/-- The scalars from a place on, with their places. -/
def runesG (s : ByteArray) : Nat → Nat → List (Int × Int)
  | 0, _ => []
  | k + 1, pos => if pos < s.size then ((pos : Int), ((Utf8.decode s pos).1 : Int)) :: runesG s k (pos + (Utf8.decode s pos).2) else []

def itPos (w : World) (k : Nat) : Nat := match w.heap[k]? with
  | some (.stringIter _ p) => p
  | _ => 0

/-- What a round keeps. -/
def KpS (n₀ : Nat) (W W' : World) : Prop := Below n₀ W W' ∧ KeepsWalks W W'

set_option maxRecDepth 100000 in
set_option maxHeartbeats 2000000 in
omit [Known] in
theorem scal1_in (F : Fence) (n : Nat) (h7 : F.fn 129) (hro : F.round = none) (hn : 1 ≤ n) (l Bs ob n₀ : Nat) (s : ByteArray) (J Jx : List (Int × Int) → World → Prop) (W : World) (hA : AbidesFrom W.heap.size J)
    (hY : ∀ pre x W, J pre W → pre.length < s.size → YieldAt F (n - 1) Tryz.prog l #[.int .i64 x.1, .int .i64 x.2] W fun e W' =>
      (e = .returned (.bool true) ∧ J (pre ++ [x]) W' ∧ KpS n₀ W W') ∨ (e = .returned (.bool false) ∧ Jx (pre ++ [x]) W'))
    (hBs : W.cell? ⟨Bs, ob, none⟩ = some (.string s)) (h0 : J [] W) (hn0 : n₀ ≤ W.heap.size) :
    CallsIn F n Tryz.prog 129 #[.func (.yield l) #[] #[], .pointer (some ⟨Bs, ob, none⟩)] W fun e W' => (∃ v, e = .returned v) ∧ (J (runesG s s.size 0) W' ∨ ∃ pre, Jx pre W') := by
  refine callsIn_of_wp Tryz.func129 rfl h7 ?_ hro
  simp only [Tryz.ntmps129, List.size_toArray, List.length_cons, List.length_nil, Nat.reduceAdd, Nat.reduceSub, Array.replicate_succ, Array.replicate_zero, List.push_toArray, List.append_toArray, List.nil_append, List.cons_append]
  gi_wp2
  gi_loopw [] (fun wr => ∃ pos pre k, wr.heap[W.heap.size]? = some (.stringIter s pos) ∧ J pre wr ∧ pre ++ runesG s k pos = runesG s s.size 0 ∧ s.size ≤ pos + k ∧ pre.length ≤ pos ∧ Below n₀ W wr) (fun wr => s.size - itPos wr W.heap.size)
  case atStart =>
    refine ⟨0, [], s.size, World.iter_heap W s 0, ?_, by simp, by omega, Nat.le_refl _, (Below.refl _ W).alloc hn0 _⟩
    exact hA _ _ _ none h0 (World.grownBy_alloc W _ none) (fun r e => by cases e)
  case round =>
    obtain ⟨pos, pre, k, hit, hJ, hrest, hk, hpl, hbw⟩ := hrel
    by_cases hps : pos < s.size
    · obtain ⟨k', rfl⟩ : ∃ k', k = k' + 1 := ⟨k - 1, by omega⟩
      have hnx : ∀ ty, (Instr.next (.pointer (some ⟨W.heap.size, 0, none⟩)) true ty).run Tryz.prog wr = _ := fun ty => Lib.run_next_any_at wr W.heap.size s pos ty hit hps
      have hwd := Lib.width_pos s pos
      rw [runesG, if_pos hps] at hrest
      obtain ⟨R, hR⟩ : ∃ R, (Utf8.decode s pos).1 = R := ⟨_, rfl⟩
      obtain ⟨K, hK⟩ : ∃ K, (Utf8.decode s pos).2 = K := ⟨_, rfl⟩
      have hRl : R ≤ 1114111 := by rw [← hR]; exact Lib.rune_le s pos
      rw [hR, hK] at hnx hrest
      rw [hK] at hwd
      have hit2 := Lib.iterAt_heap wr W.heap.size s pos (pos + K) hit
      have hJ2 : J pre (wr.iterAt W.heap.size s (pos + K)) := by
        refine hA _ _ _ (some W.heap.size) hJ (grownBy_putObj' wr W.heap.size (.stringIter s (pos + K))) (fun r e => ?_)
        cases e
        exact ⟨Nat.le_refl _, _, hit, rfl⟩
      have hbw2 := Lib.below_iterAt hbw (k := W.heap.size) hn0 s (pos + K)
      obtain ⟨W2, hWd⟩ : ∃ W2, wr.iterAt W.heap.size s (pos + K) = W2 := ⟨_, rfl⟩
      rw [hWd] at hnx hit2 hJ2 hbw2
      obtain ⟨fn, tmps, assign, body, hy, hRd⟩ := hY pre ((pos : Int), (R : Int)) W2 hJ2 (by omega)
      have hpos : itPos wr W.heap.size = pos := by simp [itPos, hit]
      clear hR hK hWd hJ hit
      gi_wp2
      refine hRd.mono ?_
      rintro e W3 (⟨rfl, hJ3, hk3, hk4⟩ | ⟨rfl, hJx3⟩)
      · have hit3 := hk4.same _ _ hit2 rfl
        gi_wp2
        go_roundw
        case rel => exact ⟨pos + K, pre ++ [((pos : Int), (R : Int))], k', hit3, hJ3, by rw [← hrest]; simp, by omega, by simp; omega, hbw2.trans hk3⟩
        case measure =>
          have m1 : itPos W3 W.heap.size = pos + K := by simp [itPos, hit3]
          have m2 : itPos wr W.heap.size = pos := hpos
          rw [m1, m2]; omega
      · gi_wp2
        refine bodyPost_ret (results_none rfl _ _ _) rfl ?_
        exact ⟨⟨_, rfl⟩, .inr ⟨_, hJx3⟩⟩
    · have hnx : ∀ ty, (Instr.next (.pointer (some ⟨W.heap.size, 0, none⟩)) true ty).run Tryz.prog wr = _ := fun ty => Lib.run_next_end_at wr W.heap.size s pos ty hit hps
      have hend : runesG s k pos = [] := by cases k with
        | zero => rfl
        | succ k => rw [runesG, if_neg hps]
      rw [hend, List.append_nil] at hrest
      gi_wp2
      go_end0
      exact ⟨⟨_, rfl⟩, .inl (by rw [← hrest]; exact hJ)⟩

omit [Known] in
theorem scal_stops (F : Fence) (n : Nat) (h7 : F.fn 129) (hro : F.round = none) (hn : 1 ≤ n) (Bs ob n₀ : Nat) (s : ByteArray) (w : World) (hBs : Bs < w.heap.size) (hn₀ : n₀ ≤ w.heap.size)
    (hc : w.cell? ⟨Bs, ob, none⟩ = some (.string s)) :
    SeqStopsK F n Tryz.prog 129 #[.pointer (some ⟨Bs, ob, none⟩)] (fun x : Int × Int => #[Value.int .i64 x.1, Value.int .i64 x.2]) (KpS n₀) (fun ys => ys = runesG s s.size 0) (fun _ => True) s.size w := fun l J Jx W hW hJ hJx hY h0 => by
  have hc' := (hW.cell (p := ⟨Bs, ob, none⟩) hBs).trans hc
  have hsz : n₀ ≤ W.heap.size := Nat.le_trans hn₀ hW.size
  refine (scal1_in F n h7 hro hn l Bs ob n₀ s J Jx W hJ hY hc' h0 hsz).mono ?_
  rintro e W' ⟨he, hj | ⟨pre, hj⟩⟩
  · exact ⟨he, .inl ⟨_, rfl, hj⟩⟩
  · exact ⟨he, .inr ⟨pre, trivial, hj⟩⟩

/-! ### The scalars are the reference's -/
omit [Known] in
theorem runes_pts (s : ByteArray) : ∀ (k pos : Nat) (l : List Nat), s.size ≤ pos + k → pts (s.data.toList.drop pos) = some l → (runesG s k pos).map (·.2) = l.map fun n : Nat => ((n : Nat) : Int)
  | 0, pos, l, hk, h => by
    rw [List.drop_of_length_le (by simpa using hk), pts_nil] at h
    injection h with h; subst h; rfl
  | k + 1, pos, l, hk, h => by
    rw [runesG]
    by_cases hp : pos < s.size
    · rw [if_pos hp]
      have hlt : pos < s.data.toList.length := by simpa using hp
      obtain ⟨c, r, hcr⟩ : ∃ c r, s.data.toList.drop pos = c :: r := ⟨_, _, List.drop_eq_getElem_cons hlt⟩
      have hf := fstU_decode (s.data.toList.drop pos) (by rw [hcr]; simp)
      rw [Lib.decodeL_drop] at hf
      rw [hcr] at h hf
      split at hf
      · rw [pts_none hf] at h; cases h
      · rw [pts_some (p := (Utf8.decode s pos).1) (n := (Utf8.decode s pos).2) hf] at h
        cases hr : pts ((c :: r).drop (Utf8.decode s pos).2) with
        | none => rw [hr] at h; cases h
        | some l' =>
          rw [hr] at h
          simp only [Option.map_some] at h
          injection h with h; subst h
          rw [← hcr, List.drop_drop] at hr
          have hw := Lib.width_pos s pos
          have ih := runes_pts s k (pos + (Utf8.decode s pos).2) l' (by omega) hr
          simp [ih]
    · rw [if_neg hp]
      rw [List.drop_of_length_le (by simp; omega), pts_nil] at h
      injection h with h; subst h; rfl
end Go.Eng
