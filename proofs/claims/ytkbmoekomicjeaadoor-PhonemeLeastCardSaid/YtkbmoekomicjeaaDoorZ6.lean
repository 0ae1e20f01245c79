/- Part 6 of the texts behind this claim. -/
import Derived.Test.YtkbmoekomicjeaaDoorZ5
import Derived.Test.YtkbmoekomicjeaaDoorRows
import Derived.Test.YtkbmoekomicjeaaDoorCtxS
import Derived.WalkKit
import Derived.ProofKit
import Derived.OpenShut
import Derived.LaidMore
import Derived.Lay
import Derived.Lib.LaidU8T
import Derived.Lib.LaidIn
import Derived.Stop.Joined
set_option linter.all false

/- Chapter 16: what the laid tables give, and the closings' own small facts. -/
namespace Go.Proofs.YtkbmoekomicjeaaDoor
open Go.ChangeShapes Go.WideShapes Go.ChangeAt Go.RowKit Go.Eng

theorem own : ownKnob Tryd.prog.godebug = none := by kernel_rfl

theorem bulkOK {H : Type} : BulkOK (H := H) Rows.uptoBulk Rows.uptoBulkAll where
  nil := by simp [Rows.uptoBulkAll]
  cons := fun d r => by simp [Rows.uptoBulkAll]
  one := fun d => by
    cases d with
    | lit l => cases l <;> simp [Rows.uptoBulk]
    | _ => simp [Rows.uptoBulk]
  str := fun l => by simp [Rows.uptoBulk]
  slice := fun e s => by simp [Rows.uptoBulk]
  agg := fun p => by simp [Rows.uptoBulk]

theorem noHandles : (Rows.phonemeChecksRow.laid.all fun x => x.2.handleName?.isNone) = true := by kernel_rfl

theorem laid_eq : Rows.phonemeChecksRow.laid = [("unicode/utf8.acceptRanges", Lib.acceptData), ("unicode/utf8.first", Lib.firstData)] := by kernel_rfl
theorem tabs_of {W : World} (h : laidMetH Tryd.prog Rows.phonemeChecksRow.laid W) : Lib.Utf8Tabs (Tryd.laysValid_ren.g 3) (Tryd.laysValid_ren.g 4) W := by
  rw [MakeChecks.laidMetH_plain _ _ _ noHandles, laid_eq] at h
  exact utf8Tabs_of_readsT (U8Types.of196 Tryd.laysValid) ⟨by kernel_rfl, by kernel_rfl, by kernel_rfl, by kernel_rfl, by kernel_rfl, by kernel_rfl, by kernel_rfl⟩ (Lib.laidMet.reads h (.tail _ (.head _))) (Lib.laidMet.reads h (.head _))

theorem laid_witness (os : Os) (args : Array Value) : laidMetH Tryd.prog Rows.phonemeChecksRow.laid ((World.laidAll Tryd.prog os Rows.phonemeChecksRow.laid).forCall (fun _ _ => 0) ⟨#[], args, []⟩).memory := by
  rw [MakeChecks.laidMetH_plain _ _ _ noHandles]
  exact laidMet_laidAll _ (by kernel_rfl) (by kernel_rfl)

theorem sgs_of : ∀ {rows : List (List AV)}, (∀ r ∈ rows, okR [.str, .int .i64] r) → ∃ ss : List Sg, rows = ss.map encS
  | [], _ => ⟨[], rfl⟩
  | r :: rows, h => by
    have hr := h r (by simp)
    simp only [okR, okC] at hr
    obtain ⟨_, _, rfl, ⟨s, rfl, _⟩, _, _, rfl, ⟨a, rfl, _⟩, rfl⟩ := hr
    obtain ⟨ss, rfl⟩ := sgs_of (rows := rows) fun r hr => h r (by simp [hr])
    exact ⟨⟨s, a⟩ :: ss, rfl⟩
theorem ints_of : ∀ {rows : List (List AV)}, (∀ r ∈ rows, okR [.int .i64] r) → ∃ l : List Int, rows = ints l
  | [], _ => ⟨[], rfl⟩
  | r :: rows, h => by
    have hr := h r (by simp)
    simp only [okR, okC] at hr
    obtain ⟨_, _, rfl, ⟨a, rfl, _⟩, rfl⟩ := hr
    obtain ⟨ps, rfl⟩ := ints_of (rows := rows) fun r hr => h r (by simp [hr])
    exact ⟨a :: ps, rfl⟩
end Go.Proofs.YtkbmoekomicjeaaDoor

/- Segments: slices.Equal at ints; Natural of the program. -/
namespace Go.Eng
open Go.Proofs
set_option linter.unusedSimpArgs false
set_option linter.unusedVariables false
attribute [local irreducible] wpC wpO wp1 EvV EvR wpL
attribute [local go_sem] ty3 ty4 ty33 beq_iff_eq beq_eq_false_iff_ne Int.natCast_inj Bool.not_eq_false' op1_go wpK_box wpK_alloc wpK_load wpK_store wpK_binOp wpK_unOp wpK_fieldAddr wpK_field wpK_build wpK_indexAddr wpK_slice wpK_len wpK_extract wpK_nilCheck wpK_pick wpK_makeFunc wpK_call wpK_callT wpK_max wpK_min wpK_assignT wpK_moveT wpK_assignB wpK_moveB wpK_assignI wpK_moveI wpK_assignA wpK_moveA callK_fn snapL_nil snapL_cons snap_int snap_bool snap_str snap_tsl snap_agg snap_fn snap_flat adopt_int adopt_bool adopt_str adopt_agg adopt_osl adopt_tsl adopt_tup op1_guard grdK_bool grdK_undef condK_bool someK_some pairK_some nilK_ptr nilK_tptr boxK storeK evalA_tmp evalA_int evalA_bool evalA_agg evalA_fn evalA_nil ofC_int ofC_bool getA_zero getA_succ cells_int cells_agg cells_bool cells_sl cells_tsl cell_int cell_bool cell_str cell_sl cell_esl cell_tsl cell_ptr cell_tptr cell_fn cell_nils cell_nilf List.all_cons List.all_nil Bool.and_true Bool.and_self Bool.true_and putA_some putA_none List.set_cons_zero List.set_cons_succ List.length_cons List.length_nil List.nil_append List.cons_append stabL AV.stab fieldAddrA fieldA List.getElem?_cons_zero List.getElem?_cons_succ Nat.zero_add loadA rowOf Nat.le_refl and_self true_and and_true partA binA unA intBin eqBin eqCells eqCell Option.bind_some decide_true decide_false decide_eq_true_eq ite_not Bool.not_eq_true' decide_eq_false_iff_not Bool.false_eq_true Option.map_some Option.map_none Bool.not_true Bool.not_false buildA fillA patch List.take List.drop List.map_cons List.map_nil extK List.getD_cons_zero List.getD_cons_succ minmaxA minmaxGo adoptZ_false adoptZ_true freeze_int freeze_bool freeze_str freeze_flat freeze_agg freeze_osl freeze_tsl freeze_tup frz1_bool frz1_int frz1_str frz1_agg frz1_osl frz1_tsl bne Bool.false_and Bool.and_false ne_eq not_true_eq_false not_false_eq_true List.append_nil
set_option maxHeartbeats 4000000

theorem equalE (v w : AV) (l m : List Int) (hv : SLs 1 (ints l) v) (hw : SLs 1 (ints m) w) (hl : l.length < 9223372036854775807) : EvV CX 36 [v, w] (· = .bool (decide (l = m))) := by
  refine EvV.walk rfl fn36 rfl nt36 rfl ?_
  simp only [List.length_cons, List.length_nil, List.cons_append, List.nil_append, Nat.reduceAdd, Nat.reduceSub, List.replicate]
  repeat' (first | refine go1 ?_ | refine blockK_else rfl ?_ | (refine wpC_cond fun A B hA hB => ?_; simp only [go_sem, reduceIte, Nat.reduceAdd, Nat.reduceEqDiff, Nat.reduceLT, Nat.reduceLeDiff, *, and_self, lenK_sls hv, lenK_sls hw, ints_len]; first | (refine hA.out ?_; clear hA hB A B) | (refine hB.out ?_; clear hA hB A B) | (refine iteI (fun h => hA.out ?_) (fun h => hB.out ?_) <;> clear hA hB A B) | (refine iteI (fun h => hB.out ?_) (fun h => hA.out ?_) <;> clear hA hB A B)) | (refine wpO_cons fun K hK => ?_; simp only [go_sem, reduceIte, Nat.reduceAdd, Nat.reduceEqDiff, Nat.reduceLT, Nat.reduceLeDiff, *, and_self, lenK_sls hv, lenK_sls hw, ints_len]; first | (refine hK.out _ _ ?_; clear hK K) | (refine iteI (fun h => hK.out _ _ ?_) (fun h => hK.out _ _ ?_) <;> clear hK K)))
  · have hlen := h; clear h
    refine wpC_each [4, 5, 14, 15, 16, 17, 18, 19, 20, 21, 22, 23, 24, 25] 13 l (fun pre post => ∃ post', m = pre ++ post') ?_ ?_ ?_ ?_
    · exact ⟨m, rfl⟩
    · rfl
    · intro g G h2
      obtain ⟨post', h2⟩ := h2
      have : post' = [] := by have := congrArg List.length h2; simp at this; exact List.eq_nil_of_length_eq_zero (by omega)
      subst this; simp only [List.append_nil] at h2; subst h2; simp only [garbA_cons, garbA_nil, setL_cons, setL_nil, List.set_cons_zero, List.set_cons_succ]
      repeat' (first | refine go1 ?_ | refine blockK_else rfl ?_ | (refine wpC_cond fun A B hA hB => ?_; simp only [go_sem, reduceIte, Nat.reduceAdd, Nat.reduceEqDiff, Nat.reduceLT, Nat.reduceLeDiff, *, and_self, ints_len, List.length_map, Int.lt_irrefl, List.nil_append]; first | (refine hA.out ?_; clear hA hB A B) | (refine hB.out ?_; clear hA hB A B) | (refine iteI (fun h => hA.out ?_) (fun h => hB.out ?_) <;> clear hA hB A B) | (refine iteI (fun h => hB.out ?_) (fun h => hA.out ?_) <;> clear hA hB A B)) | (refine wpO_cons fun K hK => ?_; simp only [go_sem, reduceIte, Nat.reduceAdd, Nat.reduceEqDiff, Nat.reduceLT, Nat.reduceLeDiff, *, and_self, ints_len, List.length_map, Int.lt_irrefl, List.nil_append]; first | (refine hK.out _ _ ?_; clear hK K) | (refine iteI (fun h => hK.out _ _ ?_) (fun h => hK.out _ _ ?_) <;> clear hK K)))
      simp only [resultsR, resultsL, resultA, expK_int, expK_bool, expK_str, expK_agg, expK_own, expK_tsl, resK_some, go_sem, reduceIte, Nat.reduceAdd, Nat.reduceEqDiff, Nat.reduceLT, Nat.reduceLeDiff, and_self, ]
    · intro g G pre x post h1 h2
      obtain ⟨post', h2⟩ := h2
      cases post' with
      | nil => subst h1 h2; simp at hlen
      | cons y post' =>
        subst h1 h2; simp only [garbA_cons, garbA_nil, setL_cons, setL_nil, List.set_cons_zero, List.set_cons_succ]
        have i1 := idx_sls hv (X := CX) ty33 ty3 rfl (ints_mid pre x post) (k := .i64)
        have i2 := idx_sls hw (X := CX) ty33 ty3 rfl (ints_mid pre y post') (k := .i64)
        have w1 := wrap_succ (n := pre.length) (by simp at hl; omega)
        repeat' (first | refine go1 ?_ | refine blockK_else rfl ?_ | (refine wpC_cond fun A B hA hB => ?_; simp only [go_sem, reduceIte, Nat.reduceAdd, Nat.reduceEqDiff, Nat.reduceLT, Nat.reduceLeDiff, *, and_self, getElem?_len, getElem?_lenAdd, set_len, set_lenAdd, len_mid, ints_len, List.length_map, lt_mid, List.nil_append, i1, i2, w1]; first | (refine hA.out ?_; clear hA hB A B) | (refine hB.out ?_; clear hA hB A B) | (refine iteI (fun h => hA.out ?_) (fun h => hB.out ?_) <;> clear hA hB A B) | (refine iteI (fun h => hB.out ?_) (fun h => hA.out ?_) <;> clear hA hB A B)) | (refine wpO_cons fun K hK => ?_; simp only [go_sem, reduceIte, Nat.reduceAdd, Nat.reduceEqDiff, Nat.reduceLT, Nat.reduceLeDiff, *, and_self, getElem?_len, getElem?_lenAdd, set_len, set_lenAdd, len_mid, ints_len, List.length_map, lt_mid, List.nil_append, i1, i2, w1]; first | (refine hK.out _ _ ?_; clear hK K) | (refine iteI (fun h => hK.out _ _ ?_) (fun h => hK.out _ _ ?_) <;> clear hK K)))
        · subst h
          refine each_next rfl ?_ ?_ ?_
          · exact ⟨post', by simp⟩
          · ((try simp only [eraseA_cons, eraseA_nil, setL_cons, setL_nil, List.set_cons_zero, List.set_cons_succ]); all_goals (first | rfl | (simp only [len_snoc, ints_len, List.length_map, ]; done) | (simp only [len_snoc, len_mid, ints_len, List.length_map, List.length_append, List.length_cons, List.length_nil, Nat.zero_add, ]; done) | (simp only [len_mid, len_snoc, ints_len, List.length_map, List.length_append, List.length_cons, List.length_nil, Nat.zero_add, ]; rfl)))
          · first | exact ⟨[], (List.append_nil _).symm⟩ | exact ⟨_, rfl⟩ | (simp only [List.append_assoc, List.cons_append, List.nil_append]; exact ⟨_, rfl⟩)
        · simp only [resultsR, resultsL, resultA, expK_int, expK_bool, expK_str, expK_agg, expK_own, expK_tsl, resK_some, go_sem, reduceIte, Nat.reduceAdd, Nat.reduceEqDiff, Nat.reduceLT, Nat.reduceLeDiff, and_self, ]
          simp [h]
  · simp only [resultsR, resultsL, resultA, expK_int, expK_bool, expK_str, expK_agg, expK_own, expK_tsl, resK_some, go_sem, reduceIte, Nat.reduceAdd, Nat.reduceEqDiff, Nat.reduceLT, Nat.reduceLeDiff, and_self, ]
    have : l ≠ m := by rintro rfl; simp at h
    simp [this]

/- Segments: Natural of the program. -/
open Go.Proofs
attribute [local go_sem] ty9 ty22 ty24 ty30 ty46 eq30 br19 br34 br36 br37 allocK fz59 fz60
set_option maxHeartbeats 4000000

def bX (a b : Int) : Int := IntKind.wrap .i64 ((BitVec.ofInt 64 a ^^^ BitVec.ofInt 64 b).toNat : Int)
def bN (a b : Int) : Int := IntKind.wrap .i64 ((BitVec.ofInt 64 a &&& ~~~ BitVec.ofInt 64 b).toNat : Int)
theorem intXor (a b : Int) : intBin .xor .i64 a b = some (.int .i64 (bX a b)) := rfl
theorem intAndNot (a b : Int) : intBin .andNot .i64 a b = some (.int .i64 (bN a b)) := rfl

/-- One round of Natural: the class so far, the next segment. -/
def natF (ss : List Sg) (s : Bool × Int × Int) (x : Int) : Bool × Int × Int :=
  (false, bN s.2.1 (bX (if s.1 = true then fS ss x else s.2.2) (fS ss x)), bA (if s.1 = true then fS ss x else s.2.2) (bN s.2.1 (bX (if s.1 = true then fS ss x else s.2.2) (fS ss x))))
def natP (ss : List Sg) (l : List Int) : Bool × Int × Int := l.foldl (natF ss) (true, 65535, 0)
theorem natP_snoc (ss : List Sg) (l : List Int) (x : Int) : natP ss (l ++ [x]) = natF ss (natP ss l) x := by simp [natP, List.foldl_append]
theorem natP_first (ss : List Sg) (l : List Int) : (natP ss l).1 = decide (l.length = 0) := by
  rcases snoc_cases l with rfl | ⟨a, x, rfl⟩
  · rfl
  · rw [natP_snoc]; simp [natF]

def noC : AV := .tup [.agg [.int .i64 0, .int .i64 0], .bool false]
def natV (ss : List Sg) (l : List Int) : AV := if l.all (isS ss) = true then if l.length = 0 then noC else .tup [.agg [.int .i64 (natP ss l).2.1, .int .i64 (natP ss l).2.2], .bool (decide (memS ss (natP ss l).2.1 (natP ss l).2.2 = sorted l))] else noC

theorem naturalM (v w : AV) (ss : List Sg) (l : List Int) (hv : SLs 2 (ss.map encS) v) (hw : SLs 1 (ints l) w) (hl : l.length ≤ 1000000) (hsl : ss.length ≤ 1000000) : EvV CX 21 [.agg [v], w] (· = natV ss l) := by
  have c1 := hv.cell
  have s1 := hv.snap
  have s2 := hw.snap
  have k3 : ∀ (S : Store) (m : Int), expCell S (.int .i64 m) = some (.int .i64 m) := fun _ _ => rfl
  have k5 : ∀ (S : Store) (m : Bool), expTop S (.bool m) = some (.bool m) := fun _ _ => rfl
  refine EvV.walk rfl fn21 rfl nt21 rfl ?_
  simp only [List.length_cons, List.length_nil, List.cons_append, List.nil_append, Nat.reduceAdd, Nat.reduceSub, List.replicate]
  repeat' (first | refine go1 ?_ | refine blockK_else rfl ?_ | (refine wpC_cond fun A B hA hB => ?_; simp only [go_sem, reduceIte, Nat.reduceAdd, Nat.reduceEqDiff, Nat.reduceLT, Nat.reduceLeDiff, *, and_self, lenK_sls hw, ints_len, c1]; first | (refine hA.out ?_; clear hA hB A B) | (refine hB.out ?_; clear hA hB A B) | (refine iteI (fun h => hA.out ?_) (fun h => hB.out ?_) <;> clear hA hB A B) | (refine iteI (fun h => hB.out ?_) (fun h => hA.out ?_) <;> clear hA hB A B)) | (refine wpO_cons fun K hK => ?_; simp only [go_sem, reduceIte, Nat.reduceAdd, Nat.reduceEqDiff, Nat.reduceLT, Nat.reduceLeDiff, *, and_self, lenK_sls hw, ints_len, c1]; first | (refine hK.out _ _ ?_; clear hK K) | (refine iteI (fun h => hK.out _ _ ?_) (fun h => hK.out _ _ ?_) <;> clear hK K)))
  refine wpC_loopF [5, 7, 8, 9, 14, 15, 16, 17, 18, 19, 20, 21, 22, 23, 24, 25, 26, 27, 28, 29, 30, 31, 32, 33, 34, 35, 36, 37, 38, 39, 40, 41, 42, 43, 44, 45, 46, 47, 48] (fun p : List Int × List Int => [(13, .int .i64 p.1.length)]) (fun p G => .arr [[v]] 1 0 v.stab :: .arr [[.int .i64 0, .int .i64 0]] 2 0 true :: .arr [[.int .i64 (natP ss p.1).2.1, .int .i64 (natP ss p.1).2.2]] 2 1 true :: G)
    (fun p => l = p.1 ++ p.2 ∧ p.1.all (isS ss) = true) (fun p => p.2.length) ([], l) ⟨rfl, rfl⟩ ?_ ⟨[], rfl⟩ ?_
  · rfl
  rintro ⟨pre, post⟩ g G ⟨h1, h2⟩
  simp only at h1 h2
  cases post with
  | nil =>
    rw [List.append_nil] at h1
    subst h1
    by_cases z : l.length = 0
    · have zb : ((l.length : Int) == 0) = true := by rw [z]; rfl
      have e : natV ss l = noC := by rw [natV, if_pos h2, if_pos z]
      rw [e]
      clear e z h2
      generalize (natP ss l).2.1 = M at *
      generalize (natP ss l).2.2 = V at *
      simp only [garbA_cons, garbA_nil, setL_cons, setL_nil, List.set_cons_zero, List.set_cons_succ]
      repeat' (first | refine go1 ?_ | refine blockK_else rfl ?_ | (refine wpC_cond fun A B hA hB => ?_; simp only [go_sem, reduceIte, Nat.reduceAdd, Nat.reduceEqDiff, Nat.reduceLT, Nat.reduceLeDiff, *, and_self, Int.lt_irrefl, lenK_sls hw, ints_len, zb, c1, s1]; first | (refine hA.out ?_; clear hA hB A B) | (refine hB.out ?_; clear hA hB A B) | (refine iteI (fun h => hA.out ?_) (fun h => hB.out ?_) <;> clear hA hB A B) | (refine iteI (fun h => hB.out ?_) (fun h => hA.out ?_) <;> clear hA hB A B)) | (refine wpO_cons fun K hK => ?_; simp only [go_sem, reduceIte, Nat.reduceAdd, Nat.reduceEqDiff, Nat.reduceLT, Nat.reduceLeDiff, *, and_self, Int.lt_irrefl, lenK_sls hw, ints_len, zb, c1, s1]; first | (refine hK.out _ _ ?_; clear hK K) | (refine iteI (fun h => hK.out _ _ ?_) (fun h => hK.out _ _ ?_) <;> clear hK K)))
      simp only [resultsR, resultsL, resultA, resK_some, getA_zero, getA_succ, go_sem, reduceIte, Nat.reduceAdd, Nat.reduceEqDiff, Nat.reduceLT, Nat.reduceLeDiff, and_self, List.getElem?_cons_succ, expK_tup]
      rw [if_pos (show idsOK _ = true from rfl)]
      simp only [expTops, expTop, expCells, k3, k5, noC]
      simp [AV.stab]
    · have zb : ((l.length : Int) == 0) = false := beq_false_of_ne (by omega)
      have e : natV ss l = .tup [.agg [.int .i64 (natP ss l).2.1, .int .i64 (natP ss l).2.2], .bool (decide (memS ss (natP ss l).2.1 (natP ss l).2.2 = sorted l))] := by rw [natV, if_pos h2, if_neg z]
      rw [e]
      clear e z h2
      generalize (natP ss l).2.1 = M at *
      generalize (natP ss l).2.2 = V at *
      obtain ⟨r, hr, hq⟩ := sortedE w l hw (by omega)
      have q4 := hq.rw
      have q3 := (membersM v ss M V hv hsl).rw
      have q5 := fun u (hu : SLs 1 (ints (sorted l)) u) => (equalE (.tsl false 1 (ints (memS ss M V))) u (memS ss M V) (sorted l) (.rows false) hu (by have := memN_len ss M V ss.length; unfold memS; omega)).rw
      have tM : (ints (memS ss M V)).take (memS ss M V).length = ints (memS ss M V) := by rw [← ints_len (memS ss M V)]; exact List.take_length
      have tS : (ints (sorted l)).take (sorted l).length = ints (sorted l) := by rw [← ints_len (sorted l)]; exact List.take_length
      generalize memS ss M V = A at *
      generalize hB : sorted l = B at *
      clear hq hB
      cases hr with
      | own =>
        have q5 := q5 (.tsl false 1 (ints B)) (.rows false)
        simp only [garbA_cons, garbA_nil, setL_cons, setL_nil, List.set_cons_zero, List.set_cons_succ]
        repeat' (first | refine go1 ?_ | refine blockK_else rfl ?_ | (refine wpC_cond fun A B hA hB => ?_; simp only [go_sem, reduceIte, Nat.reduceAdd, Nat.reduceEqDiff, Nat.reduceLT, Nat.reduceLeDiff, *, and_self, Int.lt_irrefl, lenK_sls hw, ints_len, zb, c1, s1, s2, q3, q4, q5, tM, tS, set_lenAdd, List.set_cons_succ, List.set_cons_zero, List.getElem?_cons_succ, Nat.zero_le, getElem?_len, getElem?_lenAdd, set_len, List.append_assoc, List.length_append, List.cons_append, ints_len, snap_sl, rowsOf_sl, ints_len, ints_take, List.take_length, Nat.zero_le, Nat.zero_add, Bool.true_or]; first | (refine hA.out ?_; clear hA hB A B) | (refine hB.out ?_; clear hA hB A B) | (refine iteI (fun h => hA.out ?_) (fun h => hB.out ?_) <;> clear hA hB A B) | (refine iteI (fun h => hB.out ?_) (fun h => hA.out ?_) <;> clear hA hB A B)) | (refine wpO_cons fun K hK => ?_; simp only [go_sem, reduceIte, Nat.reduceAdd, Nat.reduceEqDiff, Nat.reduceLT, Nat.reduceLeDiff, *, and_self, Int.lt_irrefl, lenK_sls hw, ints_len, zb, c1, s1, s2, q3, q4, q5, tM, tS, set_lenAdd, List.set_cons_succ, List.set_cons_zero, List.getElem?_cons_succ, Nat.zero_le, getElem?_len, getElem?_lenAdd, set_len, List.append_assoc, List.length_append, List.cons_append, ints_len, snap_sl, rowsOf_sl, ints_len, ints_take, List.take_length, Nat.zero_le, Nat.zero_add, Bool.true_or]; first | (refine hK.out _ _ ?_; clear hK K) | (refine iteI (fun h => hK.out _ _ ?_) (fun h => hK.out _ _ ?_) <;> clear hK K)))
        simp only [resultsR, resultsL, resultA, resK_some, getA_zero, getA_succ, go_sem, reduceIte, Nat.reduceAdd, Nat.reduceEqDiff, Nat.reduceLT, Nat.reduceLeDiff, and_self, List.getElem?_cons_succ, expK_tup]
        rw [if_pos (show idsOK _ = true from rfl)]
        simp only [expTops, expTop, expCells, k3, k5, noC]
        simp [AV.stab]
      | part =>
        have q5 := q5 (.tsl true 1 (ints B)) (.rows true)
        simp only [garbA_cons, garbA_nil, setL_cons, setL_nil, List.set_cons_zero, List.set_cons_succ]
        repeat' (first | refine go1 ?_ | refine blockK_else rfl ?_ | (refine wpC_cond fun A B hA hB => ?_; simp only [go_sem, reduceIte, Nat.reduceAdd, Nat.reduceEqDiff, Nat.reduceLT, Nat.reduceLeDiff, *, and_self, Int.lt_irrefl, lenK_sls hw, ints_len, zb, c1, s1, s2, q3, q4, q5, tM, tS, set_lenAdd, List.set_cons_succ, List.set_cons_zero, List.getElem?_cons_succ, Nat.zero_le, getElem?_len, getElem?_lenAdd, set_len, List.append_assoc, List.length_append, List.cons_append, ints_len, snap_sl, rowsOf_sl, ints_len, ints_take, List.take_length, Nat.zero_le, Nat.zero_add, Bool.true_or]; first | (refine hA.out ?_; clear hA hB A B) | (refine hB.out ?_; clear hA hB A B) | (refine iteI (fun h => hA.out ?_) (fun h => hB.out ?_) <;> clear hA hB A B) | (refine iteI (fun h => hB.out ?_) (fun h => hA.out ?_) <;> clear hA hB A B)) | (refine wpO_cons fun K hK => ?_; simp only [go_sem, reduceIte, Nat.reduceAdd, Nat.reduceEqDiff, Nat.reduceLT, Nat.reduceLeDiff, *, and_self, Int.lt_irrefl, lenK_sls hw, ints_len, zb, c1, s1, s2, q3, q4, q5, tM, tS, set_lenAdd, List.set_cons_succ, List.set_cons_zero, List.getElem?_cons_succ, Nat.zero_le, getElem?_len, getElem?_lenAdd, set_len, List.append_assoc, List.length_append, List.cons_append, ints_len, snap_sl, rowsOf_sl, ints_len, ints_take, List.take_length, Nat.zero_le, Nat.zero_add, Bool.true_or]; first | (refine hK.out _ _ ?_; clear hK K) | (refine iteI (fun h => hK.out _ _ ?_) (fun h => hK.out _ _ ?_) <;> clear hK K)))
        simp only [resultsR, resultsL, resultA, resK_some, getA_zero, getA_succ, go_sem, reduceIte, Nat.reduceAdd, Nat.reduceEqDiff, Nat.reduceLT, Nat.reduceLeDiff, and_self, List.getElem?_cons_succ, expK_tup]
        rw [if_pos (show idsOK _ = true from rfl)]
        simp only [expTops, expTop, expCells, k3, k5, noC]
        simp [AV.stab]
      | nil h =>
        have q5 := q5 (.flat (.slice none 0 0)) (.nil (by rw [h]; rfl))
        simp only [garbA_cons, garbA_nil, setL_cons, setL_nil, List.set_cons_zero, List.set_cons_succ]
        repeat' (first | refine go1 ?_ | refine blockK_else rfl ?_ | (refine wpC_cond fun A B hA hB => ?_; simp only [go_sem, reduceIte, Nat.reduceAdd, Nat.reduceEqDiff, Nat.reduceLT, Nat.reduceLeDiff, *, and_self, Int.lt_irrefl, lenK_sls hw, ints_len, zb, c1, s1, s2, q3, q4, q5, tM, tS, adopt_nils, set_lenAdd, List.set_cons_succ, List.set_cons_zero, List.getElem?_cons_succ, Nat.zero_le, getElem?_len, getElem?_lenAdd, set_len, List.append_assoc, List.length_append, List.cons_append, ints_len, snap_sl, rowsOf_sl, ints_len, ints_take, List.take_length, Nat.zero_le, Nat.zero_add, Bool.true_or]; first | (refine hA.out ?_; clear hA hB A B) | (refine hB.out ?_; clear hA hB A B) | (refine iteI (fun h => hA.out ?_) (fun h => hB.out ?_) <;> clear hA hB A B) | (refine iteI (fun h => hB.out ?_) (fun h => hA.out ?_) <;> clear hA hB A B)) | (refine wpO_cons fun K hK => ?_; simp only [go_sem, reduceIte, Nat.reduceAdd, Nat.reduceEqDiff, Nat.reduceLT, Nat.reduceLeDiff, *, and_self, Int.lt_irrefl, lenK_sls hw, ints_len, zb, c1, s1, s2, q3, q4, q5, tM, tS, adopt_nils, set_lenAdd, List.set_cons_succ, List.set_cons_zero, List.getElem?_cons_succ, Nat.zero_le, getElem?_len, getElem?_lenAdd, set_len, List.append_assoc, List.length_append, List.cons_append, ints_len, snap_sl, rowsOf_sl, ints_len, ints_take, List.take_length, Nat.zero_le, Nat.zero_add, Bool.true_or]; first | (refine hK.out _ _ ?_; clear hK K) | (refine iteI (fun h => hK.out _ _ ?_) (fun h => hK.out _ _ ?_) <;> clear hK K)))
        simp only [resultsR, resultsL, resultA, resK_some, getA_zero, getA_succ, go_sem, reduceIte, Nat.reduceAdd, Nat.reduceEqDiff, Nat.reduceLT, Nat.reduceLeDiff, and_self, List.getElem?_cons_succ, expK_tup]
        rw [if_pos (show idsOK _ = true from rfl)]
        simp only [expTops, expTop, expCells, k3, k5, noC]
        simp [AV.stab]
        rw [h]
  | cons x post =>
    have i1 := idx_sls hw (X := CX) ty33 ty3 rfl (by rw [h1]; exact ints_mid pre x post) (k := .i64)
    have hpl : pre.length + 1 ≤ l.length := by rw [h1]; simp
    have w1 := wrap_succ (n := pre.length) (by omega)
    have lt1 : (pre.length : Int) < (l.length : Int) := by omega
    have q := (segM v ss x hv).rw
    have hf := natP_first ss pre
    have hsn := natP_snoc ss pre x
    have hh1 : Hold (l = (pre ++ [x]) ++ post) := ⟨by rw [h1]; simp⟩
    cases kk : isS ss x with
    | false =>
      have e : natV ss l = noC := by rw [natV, h1, List.all_append, List.all_cons, kk]; simp
      rw [kk] at q
      rw [e]
      clear e kk hf hsn h1
      generalize (natP ss pre).2.1 = M at *
      generalize (natP ss pre).2.2 = V at *
      simp only [garbA_cons, garbA_nil, setL_cons, setL_nil, List.set_cons_zero, List.set_cons_succ]
      repeat' (first | refine go1 ?_ | refine blockK_else rfl ?_ | (refine wpC_cond fun A B hA hB => ?_; simp only [go_sem, reduceIte, Nat.reduceAdd, Nat.reduceEqDiff, Nat.reduceLT, Nat.reduceLeDiff, *, and_self, getElem?_len, getElem?_lenAdd, set_len, set_lenAdd, len_mid, ints_len, List.length_map, lt_mid, List.nil_append, c1, s1, i1, w1, q]; first | (refine hA.out ?_; clear hA hB A B) | (refine hB.out ?_; clear hA hB A B) | (refine iteI (fun h => hA.out ?_) (fun h => hB.out ?_) <;> clear hA hB A B) | (refine iteI (fun h => hB.out ?_) (fun h => hA.out ?_) <;> clear hA hB A B)) | (refine wpO_cons fun K hK => ?_; simp only [go_sem, reduceIte, Nat.reduceAdd, Nat.reduceEqDiff, Nat.reduceLT, Nat.reduceLeDiff, *, and_self, getElem?_len, getElem?_lenAdd, set_len, set_lenAdd, len_mid, ints_len, List.length_map, lt_mid, List.nil_append, c1, s1, i1, w1, q]; first | (refine hK.out _ _ ?_; clear hK K) | (refine iteI (fun h => hK.out _ _ ?_) (fun h => hK.out _ _ ?_) <;> clear hK K)))
      simp only [resultsR, resultsL, resultA, resK_some, getA_zero, getA_succ, go_sem, reduceIte, Nat.reduceAdd, Nat.reduceEqDiff, Nat.reduceLT, Nat.reduceLeDiff, and_self, List.getElem?_cons_succ, expK_tup]
      rw [if_pos (show idsOK _ = true from rfl)]
      simp only [expTops, expTop, expCells, k3, k5, noC]
      simp [AV.stab]
    | true =>
      obtain ⟨j, y, j1, j2, j3, j4⟩ := isS_at kk
      have w2 : IntKind.wrap .i64 (x - 1) = (j : Int) := by rw [wrap_small (by omega) (by omega)]; omega
      have i2 := idx_sls hv (X := CX) ty22 ty46 rfl (n := j) (row := encS y) (by rw [List.getElem?_map, j3]; rfl) (k := .i64)
      have hall : Hold ((pre ++ [x]).all (isS ss) = true) := ⟨by rw [List.all_append, h2]; simp [kk]⟩
      rw [kk] at q
      rcases hP : natP ss pre with ⟨F0, M, V⟩
      rw [hP] at hsn hf
      simp only [natF, j4] at hsn hf
      simp only [hP]
      by_cases z : pre.length = 0
      · have zb : ((pre.length : Int) == 0) = true := by rw [z]; rfl
        have hF : F0 = true := by rw [hf]; simp [z]
        rw [hF] at hsn
        simp only [Bool.false_eq_true, if_true, if_false] at hsn
        have hh2 : Hold (natP ss (pre ++ [x]) = _) := ⟨hsn⟩
        clear hsn hf hF z kk h1 h2 hP j1 j2 j3 j4
        simp only [garbA_cons, garbA_nil, setL_cons, setL_nil, List.set_cons_zero, List.set_cons_succ]
        repeat' (first | refine go1 ?_ | refine blockK_else rfl ?_ | (refine wpC_cond fun A B hA hB => ?_; simp only [go_sem, reduceIte, Nat.reduceAdd, Nat.reduceEqDiff, Nat.reduceLT, Nat.reduceLeDiff, *, and_self, getElem?_len, getElem?_lenAdd, set_len, set_lenAdd, len_mid, ints_len, List.length_map, lt_mid, List.nil_append, c1, s1, i1, i2, w1, w2, q, encS, ↓intXor, ↓intAndNot, ↓intAnd, zb, set_lenAdd, List.set_cons_succ, List.set_cons_zero, List.getElem?_cons_succ, Nat.zero_le, getElem?_len, getElem?_lenAdd, set_len, List.append_assoc, List.length_append, List.cons_append, ints_len, snap_sl, rowsOf_sl, ints_len, ints_take, List.take_length, Nat.zero_le, Nat.zero_add, Bool.true_or]; first | (refine hA.out ?_; clear hA hB A B) | (refine hB.out ?_; clear hA hB A B) | (refine iteI (fun h => hA.out ?_) (fun h => hB.out ?_) <;> clear hA hB A B) | (refine iteI (fun h => hB.out ?_) (fun h => hA.out ?_) <;> clear hA hB A B)) | (refine wpO_cons fun K hK => ?_; simp only [go_sem, reduceIte, Nat.reduceAdd, Nat.reduceEqDiff, Nat.reduceLT, Nat.reduceLeDiff, *, and_self, getElem?_len, getElem?_lenAdd, set_len, set_lenAdd, len_mid, ints_len, List.length_map, lt_mid, List.nil_append, c1, s1, i1, i2, w1, w2, q, encS, ↓intXor, ↓intAndNot, ↓intAnd, zb, set_lenAdd, List.set_cons_succ, List.set_cons_zero, List.getElem?_cons_succ, Nat.zero_le, getElem?_len, getElem?_lenAdd, set_len, List.append_assoc, List.length_append, List.cons_append, ints_len, snap_sl, rowsOf_sl, ints_len, ints_take, List.take_length, Nat.zero_le, Nat.zero_add, Bool.true_or]; first | (refine hK.out _ _ ?_; clear hK K) | (refine iteI (fun h => hK.out _ _ ?_) (fun h => hK.out _ _ ?_) <;> clear hK K)))
        refine loopF_next (pre ++ [x], post) (Nat.lt_succ_self _) ⟨hh1.out, hall.out⟩ ?_ ?_
        · ((try simp only [eraseA_cons, eraseA_nil, setL_cons, setL_nil, List.set_cons_zero, List.set_cons_succ]); all_goals (first | rfl | (simp only [len_snoc, ints_len, List.length_map, ]; done) | (simp only [len_snoc, len_mid, ints_len, List.length_map, List.length_append, List.length_cons, List.length_nil, Nat.zero_add, ]; done) | (simp only [len_mid, len_snoc, ints_len, List.length_map, List.length_append, List.length_cons, List.length_nil, Nat.zero_add, ]; rfl)))
        · simp only [hh2.out]; exact ⟨_, rfl⟩
      · have zb : ((pre.length : Int) == 0) = false := beq_false_of_ne (by omega)
        have hF : F0 = false := by rw [hf]; simp [z]
        rw [hF] at hsn
        simp only [Bool.false_eq_true, if_true, if_false] at hsn
        have hh2 : Hold (natP ss (pre ++ [x]) = _) := ⟨hsn⟩
        clear hsn hf hF z kk h1 h2 hP j1 j2 j3 j4
        simp only [garbA_cons, garbA_nil, setL_cons, setL_nil, List.set_cons_zero, List.set_cons_succ]
        repeat' (first | refine go1 ?_ | refine blockK_else rfl ?_ | (refine wpC_cond fun A B hA hB => ?_; simp only [go_sem, reduceIte, Nat.reduceAdd, Nat.reduceEqDiff, Nat.reduceLT, Nat.reduceLeDiff, *, and_self, getElem?_len, getElem?_lenAdd, set_len, set_lenAdd, len_mid, ints_len, List.length_map, lt_mid, List.nil_append, c1, s1, i1, i2, w1, w2, q, encS, ↓intXor, ↓intAndNot, ↓intAnd, zb, set_lenAdd, List.set_cons_succ, List.set_cons_zero, List.getElem?_cons_succ, Nat.zero_le, getElem?_len, getElem?_lenAdd, set_len, List.append_assoc, List.length_append, List.cons_append, ints_len, snap_sl, rowsOf_sl, ints_len, ints_take, List.take_length, Nat.zero_le, Nat.zero_add, Bool.true_or]; first | (refine hA.out ?_; clear hA hB A B) | (refine hB.out ?_; clear hA hB A B) | (refine iteI (fun h => hA.out ?_) (fun h => hB.out ?_) <;> clear hA hB A B) | (refine iteI (fun h => hB.out ?_) (fun h => hA.out ?_) <;> clear hA hB A B)) | (refine wpO_cons fun K hK => ?_; simp only [go_sem, reduceIte, Nat.reduceAdd, Nat.reduceEqDiff, Nat.reduceLT, Nat.reduceLeDiff, *, and_self, getElem?_len, getElem?_lenAdd, set_len, set_lenAdd, len_mid, ints_len, List.length_map, lt_mid, List.nil_append, c1, s1, i1, i2, w1, w2, q, encS, ↓intXor, ↓intAndNot, ↓intAnd, zb, set_lenAdd, List.set_cons_succ, List.set_cons_zero, List.getElem?_cons_succ, Nat.zero_le, getElem?_len, getElem?_lenAdd, set_len, List.append_assoc, List.length_append, List.cons_append, ints_len, snap_sl, rowsOf_sl, ints_len, ints_take, List.take_length, Nat.zero_le, Nat.zero_add, Bool.true_or]; first | (refine hK.out _ _ ?_; clear hK K) | (refine iteI (fun h => hK.out _ _ ?_) (fun h => hK.out _ _ ?_) <;> clear hK K)))
        refine loopF_next (pre ++ [x], post) (Nat.lt_succ_self _) ⟨hh1.out, hall.out⟩ ?_ ?_
        · ((try simp only [eraseA_cons, eraseA_nil, setL_cons, setL_nil, List.set_cons_zero, List.set_cons_succ]); all_goals (first | rfl | (simp only [len_snoc, ints_len, List.length_map, ]; done) | (simp only [len_snoc, len_mid, ints_len, List.length_map, List.length_append, List.length_cons, List.length_nil, Nat.zero_add, ]; done) | (simp only [len_mid, len_snoc, ints_len, List.length_map, List.length_append, List.length_cons, List.length_nil, Nat.zero_add, ]; rfl)))
        · simp only [hh2.out]; exact ⟨_, rfl⟩
end Go.Eng

/- Segments: what Natural computes, bit by bit (plain). -/
namespace Go.Eng
open Go.Proofs

theorem ofInt_nat (a : Nat) : BitVec.ofInt 64 (a : Int) = BitVec.ofNat 64 a := BitVec.ofInt_natCast 64 a
theorem bv_nat {a : Nat} (h : a < 65536) : (BitVec.ofNat 64 a).toNat = a := by rw [BitVec.toNat_ofNat]; exact Nat.mod_eq_of_lt (by omega)
theorem bA_nat {a b : Nat} (ha : a < 65536) (hb : b < 65536) : bA (a : Int) (b : Int) = ((a &&& b : Nat) : Int) := by
  have h : a &&& b ≤ a := Nat.and_le_left
  unfold bA
  rw [ofInt_nat, ofInt_nat, BitVec.toNat_and, bv_nat ha, bv_nat hb]
  exact wrap_small (by omega) (by omega)
theorem bX_nat {a b : Nat} (ha : a < 65536) (hb : b < 65536) : bX (a : Int) (b : Int) = ((a ^^^ b : Nat) : Int) := by
  have h : a ^^^ b < 2 ^ 16 := Nat.xor_lt_two_pow ha hb
  unfold bX
  rw [ofInt_nat, ofInt_nat, BitVec.toNat_xor, bv_nat ha, bv_nat hb]
  exact wrap_small (by omega) (by omega)
theorem andNotBV (x y : BitVec 64) : x &&& ~~~y = x ^^^ (x &&& y) := by
  apply BitVec.eq_of_getLsbD_eq
  intro i hi
  simp only [BitVec.getLsbD_and, BitVec.getLsbD_not, BitVec.getLsbD_xor, hi, decide_true, Bool.true_and]
  cases x.getLsbD i <;> cases y.getLsbD i <;> rfl
theorem bN_nat {a b : Nat} (ha : a < 65536) (hb : b < 65536) : bN (a : Int) (b : Int) = ((a ^^^ (a &&& b) : Nat) : Int) := by
  have h1 : a &&& b < 2 ^ 16 := Nat.and_lt_two_pow _ hb
  have h : a ^^^ (a &&& b) < 2 ^ 16 := Nat.xor_lt_two_pow ha h1
  unfold bN
  rw [ofInt_nat, ofInt_nat, andNotBV, BitVec.toNat_xor, BitVec.toNat_and, bv_nat ha, bv_nat hb]
  exact wrap_small (by omega) (by omega)

/-- The features of a segment as a number. -/
def fN (ss : List Sg) (x : Int) : Nat := (fS ss x).toNat
/-- The features lie in range. -/
def FtOK (ss : List Sg) : Prop := ∀ x, isS ss x = true → 0 ≤ fS ss x ∧ fS ss x < 65536
theorem FtOK.cast {ss : List Sg} (h : FtOK ss) {x : Int} (hx : isS ss x = true) : fS ss x = (fN ss x : Int) ∧ fN ss x < 65536 := by
  have := h x hx
  unfold fN; omega
theorem chkS_ft {ss : List Sg} (h : chkS ss = 0) : FtOK ss := by
  intro x hx
  obtain ⟨k, y, h1, h2, h3, h4⟩ := isS_at hx
  obtain ⟨a, b, e, _⟩ : ∃ a b, ss = a ++ y :: b ∧ a.length = k := by
    refine ⟨ss.take k, ss.drop (k + 1), ?_, ?_⟩
    · have hk := h2
      rw [List.getElem?_eq_getElem hk] at h3
      have e : ss[k] = y := by simpa using h3
      rw [← e]
      simp
    · simp; omega
  have := ((chkS_ok h).2 a y b e).2
  rw [h4]; exact this

/-- In the bit k all have what the first has. -/
def agr (ss : List Sg) (x0 : Int) (l : List Int) (k : Nat) : Bool := l.all fun x => (fN ss x).testBit k == (fN ss x0).testBit k
theorem agr_snoc (ss : List Sg) (x0 : Int) (l : List Int) (y : Int) (k : Nat) : agr ss x0 (l ++ [y]) k = (agr ss x0 l k && ((fN ss y).testBit k == (fN ss x0).testBit k)) := by simp [agr]

/-- Mask and Value as numbers. -/
structure NatB (ss : List Sg) (x0 : Int) (l : List Int) (M V : Nat) : Prop where
  eq : natP ss l = (false, (M : Int), (V : Int))
  m : M < 65536
  v : V < 65536
  bm : ∀ k, M.testBit k = (decide (k < 16) && agr ss x0 l k)
  bv : ∀ k, V.testBit k = (M.testBit k && (fN ss x0).testBit k)

theorem natP_bits (ss : List Sg) (hf : FtOK ss) (x0 : Int) : ∀ (n : Nat) (l : List Int), l.length = n → (x0 :: l).all (isS ss) = true → ∃ M V, NatB ss x0 (x0 :: l) M V := by
  intro n
  induction n with
  | zero =>
    intro l hl ha
    have : l = [] := List.eq_nil_of_length_eq_zero hl
    subst this
    have hx : isS ss x0 = true := by simpa using ha
    obtain ⟨c1, c2⟩ := hf.cast hx
    refine ⟨65535, fN ss x0 &&& 65535, ?_, by omega, ?_, ?_, ?_⟩
    · have e1 : bX (fS ss x0) (fS ss x0) = ((0 : Nat) : Int) := by rw [c1, bX_nat c2 c2, Nat.xor_self]
      have e2 : bN 65535 ((0 : Nat) : Int) = ((65535 : Nat) : Int) := bN_nat (a := 65535) (b := 0) (by omega) (by omega)
      have e3 : bA (fS ss x0) ((65535 : Nat) : Int) = ((fN ss x0 &&& 65535 : Nat) : Int) := by rw [c1]; exact bA_nat c2 (by omega)
      simp only [natP, List.foldl_cons, List.foldl_nil, natF, if_true, e1, e2, e3]
    · have : fN ss x0 &&& 65535 ≤ fN ss x0 := Nat.and_le_left
      omega
    · intro k
      have : (65535 : Nat) = 2 ^ 16 - 1 := rfl
      rw [this, Nat.testBit_two_pow_sub_one]
      simp [agr]
    · intro k
      rw [Nat.testBit_and, Bool.and_comm]
  | succ n ih =>
    intro l hl ha
    rcases snoc_cases l with rfl | ⟨a, y, rfl⟩
    · simp at hl
    · have ha' : (x0 :: a).all (isS ss) = true ∧ isS ss y = true := by
        simp only [List.all_cons, List.all_append, List.all_nil, Bool.and_true, Bool.and_eq_true] at ha ⊢
        exact ⟨⟨ha.1, ha.2.1⟩, ha.2.2⟩
      obtain ⟨M, V, hB⟩ := ih a (by simpa using hl) ha'.1
      obtain ⟨c1, c2⟩ := hf.cast ha'.2
      have hvx : V ^^^ fN ss y < 2 ^ 16 := Nat.xor_lt_two_pow hB.v c2
      have hma : M &&& (V ^^^ fN ss y) < 2 ^ 16 := Nat.and_lt_two_pow _ hvx
      have hm' : M ^^^ (M &&& (V ^^^ fN ss y)) < 2 ^ 16 := Nat.xor_lt_two_pow hB.m hma
      have hb' : ∀ k, (M ^^^ (M &&& (V ^^^ fN ss y))).testBit k = (M.testBit k && ((fN ss y).testBit k == (fN ss x0).testBit k)) := by
        intro k
        simp only [Nat.testBit_xor, Nat.testBit_and, hB.bv k]
        cases M.testBit k <;> cases (fN ss y).testBit k <;> cases (fN ss x0).testBit k <;> rfl
      refine ⟨M ^^^ (M &&& (V ^^^ fN ss y)), V &&& (M ^^^ (M &&& (V ^^^ fN ss y))), ?_, hm', Nat.and_lt_two_pow _ hm', ?_, ?_⟩
      · rw [← List.cons_append, natP_snoc, hB.eq, natF]
        simp only [Bool.false_eq_true, if_false]
        rw [c1, bX_nat hB.v c2, bN_nat hB.m hvx, bA_nat hB.v hm']
      · intro k
        rw [hb' k, hB.bm k, ← List.cons_append, agr_snoc, Bool.and_assoc]
      · intro k
        rw [Nat.testBit_and, hb' k, hB.bv k]
        cases M.testBit k <;> cases (fN ss y).testBit k <;> cases (fN ss x0).testBit k <;> rfl

/-- The reference's tests of one bit. -/
theorem and_bit (a k : Nat) : a &&& 2 ^ k = (a.testBit k).toNat * 2 ^ k := by
  apply Nat.eq_of_testBit_eq
  intro i
  rw [Nat.testBit_and, Nat.testBit_two_pow]
  by_cases e : k = i
  · subst e
    cases a.testBit k <;> simp [Nat.testBit_two_pow]
  · cases a.testBit k <;> simp [Nat.testBit_two_pow, e]
theorem bA_bit {a : Nat} (ha : a < 65536) {k : Nat} (hk : k < 16) : bA (a : Int) ((2 ^ k : Nat) : Int) = (((a.testBit k).toNat * 2 ^ k : Nat) : Int) := by
  have h : 2 ^ k < 2 ^ 16 := Nat.pow_lt_pow_right (by omega) hk
  rw [bA_nat ha h, and_bit]
theorem bit_eq {a b : Nat} (ha : a < 65536) (hb : b < 65536) {k : Nat} (hk : k < 16) : (bA (a : Int) ((2 ^ k : Nat) : Int) == bA (b : Int) ((2 ^ k : Nat) : Int)) = (a.testBit k == b.testBit k) := by
  rw [bA_bit ha hk, bA_bit hb hk]
  have h : 0 < 2 ^ k := Nat.two_pow_pos k
  generalize 2 ^ k = q at *
  cases a.testBit k <;> cases b.testBit k <;> simp only [Bool.toNat_true, Bool.toNat_false, Nat.one_mul, Nat.zero_mul, beq_self_eq_true]
  · exact beq_false_of_ne (by omega)
  · exact beq_false_of_ne (by omega)
theorem mod_bit (M k : Nat) : M % 2 ^ (k + 1) = M % 2 ^ k + (M.testBit k).toNat * 2 ^ k := by
  rw [Nat.mod_pow_succ, Nat.testBit_eq_decide_div_mod_eq, Nat.mul_comm]
  have h : M / 2 ^ k % 2 < 2 := Nat.mod_lt _ (by omega)
  rcases (by omega : M / 2 ^ k % 2 = 0 ∨ M / 2 ^ k % 2 = 1) with e | e <;> simp [e]
end Go.Eng

/- Segments: Natural of the reference. -/
namespace Go.Eng
open Go.Proofs
set_option linter.unusedSimpArgs false
set_option linter.unusedVariables false
attribute [local irreducible] wpC wpO wp1 EvV EvR wpL
attribute [local go_sem] ty3 ty4 ty9 ty22 ty24 ty30 ty33 ty46 eq30 br18 br20 br35 br38 allocK fz77 fz82 beq_iff_eq beq_eq_false_iff_ne Int.natCast_inj Bool.not_eq_false' op1_go wpK_box wpK_alloc wpK_load wpK_store wpK_binOp wpK_unOp wpK_fieldAddr wpK_field wpK_build wpK_indexAddr wpK_slice wpK_len wpK_extract wpK_nilCheck wpK_pick wpK_makeFunc wpK_call wpK_callT wpK_max wpK_min wpK_assignT wpK_moveT wpK_assignB wpK_moveB wpK_assignI wpK_moveI wpK_assignA wpK_moveA callK_fn snapL_nil snapL_cons snap_int snap_bool snap_str snap_tsl snap_agg snap_fn snap_flat adopt_int adopt_bool adopt_str adopt_agg adopt_osl adopt_tsl adopt_tup op1_guard grdK_bool grdK_undef condK_bool someK_some pairK_some nilK_ptr nilK_tptr boxK storeK evalA_tmp evalA_int evalA_bool evalA_agg evalA_fn evalA_nil ofC_int ofC_bool getA_zero getA_succ cells_int cells_agg cells_bool cells_sl cells_tsl cell_int cell_bool cell_str cell_sl cell_esl cell_tsl cell_ptr cell_tptr cell_fn cell_nils cell_nilf List.all_cons List.all_nil Bool.and_true Bool.and_self Bool.true_and putA_some putA_none List.set_cons_zero List.set_cons_succ List.length_cons List.length_nil List.nil_append List.cons_append stabL AV.stab fieldAddrA fieldA List.getElem?_cons_zero List.getElem?_cons_succ Nat.zero_add loadA rowOf Nat.le_refl and_self true_and and_true partA binA unA intBin eqBin eqCells eqCell Option.bind_some decide_true decide_false decide_eq_true_eq ite_not Bool.not_eq_true' decide_eq_false_iff_not Bool.false_eq_true Option.map_some Option.map_none Bool.not_true Bool.not_false buildA fillA patch List.take List.drop List.map_cons List.map_nil extK List.getD_cons_zero List.getD_cons_succ minmaxA minmaxGo adoptZ_false adoptZ_true freeze_int freeze_bool freeze_str freeze_flat freeze_agg freeze_osl freeze_tsl freeze_tup frz1_bool frz1_int frz1_str frz1_agg frz1_osl frz1_tsl bne Bool.false_and Bool.and_false ne_eq not_true_eq_false not_false_eq_true List.append_nil
set_option maxHeartbeats 4000000

theorem shlK (k : Nat) (h : k < 16) : shiftBin .shl .i64 1 (k : Int) = some (.int .i64 ((2 ^ k : Nat) : Int)) := by
  have e : ((k : Int).toNat) = k := Int.toNat_natCast k
  have h2 : 2 ^ k < 2 ^ 16 := Nat.pow_lt_pow_right (by omega) h
  have e2 : ((1 : Int) * 2 ^ (min k 64)) = ((2 ^ k : Nat) : Int) := by
    rw [Nat.min_eq_left (by omega), Int.one_mul]; exact (Int.natCast_pow 2 k).symm
  have e3 : shiftBin .shl .i64 1 (k : Int) = some (.int .i64 (IntKind.wrap .i64 ((1 : Int) * 2 ^ (min ((k : Int).toNat) 64)))) := rfl
  have e4 : ∀ q : Nat, q < 65536 → IntKind.wrap .i64 (q : Int) = (q : Int) := fun q hq => wrap_small (by omega) (by omega)
  rw [e3, e, e2, e4 _ h2]

theorem naturalR (v w : AV) (ss : List Sg) (l : List Int) (hv : SLs 2 (ss.map encS) v) (hw : SLs 1 (ints l) w) (hl : l.length ≤ 1000000) (hsl : ss.length ≤ 1000000) (hf : FtOK ss) : EvV CX 22 [.agg [v], w] (· = natV ss l) := by
  have c1 := hv.cell
  have s1 := hv.snap
  have s2 := hw.snap
  have k3 : ∀ (S : Store) (m : Int), expCell S (.int .i64 m) = some (.int .i64 m) := fun _ _ => rfl
  have k5 : ∀ (S : Store) (m : Bool), expTop S (.bool m) = some (.bool m) := fun _ _ => rfl
  have hff : Hold (FtOK ss) := ⟨hf⟩
  clear hf
  refine EvV.walk rfl fn22 rfl nt22 rfl ?_
  simp only [List.length_cons, List.length_nil, List.cons_append, List.nil_append, Nat.reduceAdd, Nat.reduceSub, List.replicate]
  repeat' (first | refine go1 ?_ | refine blockK_else rfl ?_ | (refine wpC_cond fun A B hA hB => ?_; simp only [go_sem, reduceIte, Nat.reduceAdd, Nat.reduceEqDiff, Nat.reduceLT, Nat.reduceLeDiff, *, and_self, lenK_sls hw, ints_len, c1]; first | (refine hA.out ?_; clear hA hB A B) | (refine hB.out ?_; clear hA hB A B) | (refine iteI (fun h => hA.out ?_) (fun h => hB.out ?_) <;> clear hA hB A B) | (refine iteI (fun h => hB.out ?_) (fun h => hA.out ?_) <;> clear hA hB A B)) | (refine wpO_cons fun K hK => ?_; simp only [go_sem, reduceIte, Nat.reduceAdd, Nat.reduceEqDiff, Nat.reduceLT, Nat.reduceLeDiff, *, and_self, lenK_sls hw, ints_len, c1]; first | (refine hK.out _ _ ?_; clear hK K) | (refine iteI (fun h => hK.out _ _ ?_) (fun h => hK.out _ _ ?_) <;> clear hK K)))
  refine wpC_loopF [5, 6, 16, 17, 18, 19, 20, 21, 22, 23, 24, 25, 26] (fun p : List Int × List Int => [(15, .int .i64 p.1.length)]) (fun p G => .arr [[v]] 1 0 v.stab :: .arr [[.int .i64 0, .int .i64 0]] 2 0 true :: G)
    (fun p => l = p.1 ++ p.2 ∧ p.1.all (isS ss) = true) (fun p => p.2.length) ([], l) ⟨rfl, rfl⟩ ?_ ⟨[], rfl⟩ ?_
  · rfl
  rintro ⟨pre, post⟩ g G ⟨h1, h2⟩
  simp only at h1 h2
  cases post with
  | cons x post =>
    have i1 := idx_sls hw (X := CX) ty33 ty3 rfl (by rw [h1]; exact ints_mid pre x post) (k := .i64)
    have hpl : pre.length + 1 ≤ l.length := by rw [h1]; simp
    have w1 := wrap_succ (n := pre.length) (by omega)
    have lt1 : (pre.length : Int) < (l.length : Int) := by omega
    have q := (isR v ss x hv).rw
    have hh1 : Hold (l = (pre ++ [x]) ++ post) := ⟨by rw [h1]; simp⟩
    cases kk : isS ss x with
    | false =>
      have e : natV ss l = noC := by rw [natV, h1, List.all_append, List.all_cons, kk]; simp
      rw [kk] at q
      rw [e]
      clear e kk h1
      simp only [garbA_cons, garbA_nil, setL_cons, setL_nil, List.set_cons_zero, List.set_cons_succ]
      repeat' (first | refine go1 ?_ | refine blockK_else rfl ?_ | (refine wpC_cond fun A B hA hB => ?_; simp only [go_sem, reduceIte, Nat.reduceAdd, Nat.reduceEqDiff, Nat.reduceLT, Nat.reduceLeDiff, *, and_self, getElem?_len, getElem?_lenAdd, set_len, set_lenAdd, len_mid, ints_len, List.length_map, lt_mid, List.nil_append, c1, s1, i1, w1, q]; first | (refine hA.out ?_; clear hA hB A B) | (refine hB.out ?_; clear hA hB A B) | (refine iteI (fun h => hA.out ?_) (fun h => hB.out ?_) <;> clear hA hB A B) | (refine iteI (fun h => hB.out ?_) (fun h => hA.out ?_) <;> clear hA hB A B)) | (refine wpO_cons fun K hK => ?_; simp only [go_sem, reduceIte, Nat.reduceAdd, Nat.reduceEqDiff, Nat.reduceLT, Nat.reduceLeDiff, *, and_self, getElem?_len, getElem?_lenAdd, set_len, set_lenAdd, len_mid, ints_len, List.length_map, lt_mid, List.nil_append, c1, s1, i1, w1, q]; first | (refine hK.out _ _ ?_; clear hK K) | (refine iteI (fun h => hK.out _ _ ?_) (fun h => hK.out _ _ ?_) <;> clear hK K)))
      simp only [resultsR, resultsL, resultA, resK_some, getA_zero, getA_succ, go_sem, reduceIte, Nat.reduceAdd, Nat.reduceEqDiff, Nat.reduceLT, Nat.reduceLeDiff, and_self, List.getElem?_cons_succ, expK_tup]
      rw [if_pos (show idsOK _ = true from rfl)]
      simp only [expTops, expTop, expCells, k3, k5, noC]
      simp [AV.stab]
    | true =>
      have hall : Hold ((pre ++ [x]).all (isS ss) = true) := ⟨by rw [List.all_append, h2]; simp [kk]⟩
      rw [kk] at q
      clear kk h1 h2
      simp only [garbA_cons, garbA_nil, setL_cons, setL_nil, List.set_cons_zero, List.set_cons_succ]
      repeat' (first | refine go1 ?_ | refine blockK_else rfl ?_ | (refine wpC_cond fun A B hA hB => ?_; simp only [go_sem, reduceIte, Nat.reduceAdd, Nat.reduceEqDiff, Nat.reduceLT, Nat.reduceLeDiff, *, and_self, getElem?_len, getElem?_lenAdd, set_len, set_lenAdd, len_mid, ints_len, List.length_map, lt_mid, List.nil_append, c1, s1, i1, w1, q]; first | (refine hA.out ?_; clear hA hB A B) | (refine hB.out ?_; clear hA hB A B) | (refine iteI (fun h => hA.out ?_) (fun h => hB.out ?_) <;> clear hA hB A B) | (refine iteI (fun h => hB.out ?_) (fun h => hA.out ?_) <;> clear hA hB A B)) | (refine wpO_cons fun K hK => ?_; simp only [go_sem, reduceIte, Nat.reduceAdd, Nat.reduceEqDiff, Nat.reduceLT, Nat.reduceLeDiff, *, and_self, getElem?_len, getElem?_lenAdd, set_len, set_lenAdd, len_mid, ints_len, List.length_map, lt_mid, List.nil_append, c1, s1, i1, w1, q]; first | (refine hK.out _ _ ?_; clear hK K) | (refine iteI (fun h => hK.out _ _ ?_) (fun h => hK.out _ _ ?_) <;> clear hK K)))
      refine loopF_next (pre ++ [x], post) (Nat.lt_succ_self _) ⟨hh1.out, hall.out⟩ ?_ ?_
      · ((try simp only [eraseA_cons, eraseA_nil, setL_cons, setL_nil, List.set_cons_zero, List.set_cons_succ]); all_goals (first | rfl | (simp only [len_snoc, ints_len, List.length_map, ]; done) | (simp only [len_snoc, len_mid, ints_len, List.length_map, List.length_append, List.length_cons, List.length_nil, Nat.zero_add, ]; done) | (simp only [len_mid, len_snoc, ints_len, List.length_map, List.length_append, List.length_cons, List.length_nil, Nat.zero_add, ]; rfl)))
      · exact ⟨_, rfl⟩
  | nil =>
    rw [List.append_nil] at h1
    subst h1
    by_cases z : l.length = 0
    · have zb : ((l.length : Int) == 0) = true := by rw [z]; rfl
      have e : natV ss l = noC := by rw [natV, if_pos h2, if_pos z]
      rw [e]
      clear e z h2
      simp only [garbA_cons, garbA_nil, setL_cons, setL_nil, List.set_cons_zero, List.set_cons_succ]
      repeat' (first | refine go1 ?_ | refine blockK_else rfl ?_ | (refine wpC_cond fun A B hA hB => ?_; simp only [go_sem, reduceIte, Nat.reduceAdd, Nat.reduceEqDiff, Nat.reduceLT, Nat.reduceLeDiff, *, and_self, Int.lt_irrefl, lenK_sls hw, ints_len, zb, c1, s1]; first | (refine hA.out ?_; clear hA hB A B) | (refine hB.out ?_; clear hA hB A B) | (refine iteI (fun h => hA.out ?_) (fun h => hB.out ?_) <;> clear hA hB A B) | (refine iteI (fun h => hB.out ?_) (fun h => hA.out ?_) <;> clear hA hB A B)) | (refine wpO_cons fun K hK => ?_; simp only [go_sem, reduceIte, Nat.reduceAdd, Nat.reduceEqDiff, Nat.reduceLT, Nat.reduceLeDiff, *, and_self, Int.lt_irrefl, lenK_sls hw, ints_len, zb, c1, s1]; first | (refine hK.out _ _ ?_; clear hK K) | (refine iteI (fun h => hK.out _ _ ?_) (fun h => hK.out _ _ ?_) <;> clear hK K)))
      simp only [resultsR, resultsL, resultA, resK_some, getA_zero, getA_succ, go_sem, reduceIte, Nat.reduceAdd, Nat.reduceEqDiff, Nat.reduceLT, Nat.reduceLeDiff, and_self, List.getElem?_cons_succ, expK_tup]
      rw [if_pos (show idsOK _ = true from rfl)]
      simp only [expTops, expTop, expCells, k3, k5, noC]
      simp [AV.stab]
    have zb : ((l.length : Int) == 0) = false := beq_false_of_ne (by omega)
    obtain ⟨x0, rest, hlx⟩ : ∃ x0 rest, l = x0 :: rest := by
      cases l with
      | nil => exact absurd rfl z
      | cons a b => exact ⟨a, b, rfl⟩
    obtain ⟨M, V, hB⟩ := natP_bits ss hff.out x0 rest.length rest rfl (by rw [← hlx]; exact h2)
    rw [← hlx] at hB
    have e : natV ss l = .tup [.agg [.int .i64 M, .int .i64 V], .bool (decide (memS ss M V = sorted l))] := by rw [natV, if_pos h2, if_neg z, hB.eq]
    rw [e]
    have hx0 : isS ss x0 = true := by rw [hlx] at h2; simp at h2; exact h2.1
    obtain ⟨j, y, j1, j2, j3, j4⟩ := isS_at hx0
    have w2 : IntKind.wrap .i64 (x0 - 1) = (j : Int) := by rw [wrap_small (by omega) (by omega)]; omega
    have i0 := idx_sls hw (X := CX) ty33 ty3 rfl (n := 0) (row := [.int .i64 x0]) (by rw [hlx]; rfl) (k := .i64)
    rw [show (((0 : Nat) : Int)) = 0 from rfl] at i0
    have i2 := idx_sls hv (X := CX) ty22 ty46 rfl (n := j) (row := encS y) (by rw [List.getElem?_map, j3]; rfl) (k := .i64)
    obtain ⟨f1, f2⟩ := hff.out.cast hx0
    have hy : y.feat = (fN ss x0 : Int) := by rw [← j4]; exact f1
    have hhB : Hold (NatB ss x0 l M V) := ⟨hB⟩
    have hh2 : Hold (l.all (isS ss) = true) := ⟨h2⟩
    have hhf : Hold (fN ss x0 < 65536) := ⟨f2⟩
    generalize hc0 : fN ss x0 = c0 at *
    clear e hx0 j1 j2 j3 j4 f1 f2 hB h2 z hlx
    simp only [garbA_cons, garbA_nil, setL_cons, setL_nil, List.set_cons_zero, List.set_cons_succ]
    repeat' (first | refine go1 ?_ | refine blockK_else rfl ?_ | (refine wpC_cond fun A B hA hB => ?_; simp only [go_sem, reduceIte, Nat.reduceAdd, Nat.reduceEqDiff, Nat.reduceLT, Nat.reduceLeDiff, *, and_self, Int.lt_irrefl, lenK_sls hw, ints_len, zb, c1, s1, set_lenAdd, List.set_cons_succ, List.set_cons_zero, List.getElem?_cons_succ, Nat.zero_le, getElem?_len, getElem?_lenAdd, set_len, List.append_assoc, List.length_append, List.cons_append, ints_len, snap_sl, rowsOf_sl, ints_len, ints_take, List.take_length, Nat.zero_le, Nat.zero_add, Bool.true_or]; first | (refine hA.out ?_; clear hA hB A B) | (refine hB.out ?_; clear hA hB A B) | (refine iteI (fun h => hA.out ?_) (fun h => hB.out ?_) <;> clear hA hB A B) | (refine iteI (fun h => hB.out ?_) (fun h => hA.out ?_) <;> clear hA hB A B)) | (refine wpO_cons fun K hK => ?_; simp only [go_sem, reduceIte, Nat.reduceAdd, Nat.reduceEqDiff, Nat.reduceLT, Nat.reduceLeDiff, *, and_self, Int.lt_irrefl, lenK_sls hw, ints_len, zb, c1, s1, set_lenAdd, List.set_cons_succ, List.set_cons_zero, List.getElem?_cons_succ, Nat.zero_le, getElem?_len, getElem?_lenAdd, set_len, List.append_assoc, List.length_append, List.cons_append, ints_len, snap_sl, rowsOf_sl, ints_len, ints_take, List.take_length, Nat.zero_le, Nat.zero_add, Bool.true_or]; first | (refine hK.out _ _ ?_; clear hK K) | (refine iteI (fun h => hK.out _ _ ?_) (fun h => hK.out _ _ ?_) <;> clear hK K)))
    refine wpC_loopF [9, 10, 11, 12, 32, 33, 34, 35, 36, 37, 38, 39, 40, 41, 42, 43, 44, 45, 46, 47, 48, 49, 50, 51, 52, 53, 54, 55, 56, 57, 58, 59, 60, 61, 62, 63, 64, 65, 66, 67, 68, 69, 70, 71, 72, 73, 74, 75, 76, 77, 78, 79, 80, 81, 82] (fun k : Nat => [(8, .int .i64 k)]) (fun k G' => .arr [[v]] 1 0 v.stab :: .arr [[.int .i64 0, .int .i64 0]] 2 0 true :: (G ++ .arr [[.int .i64 ((M % 2 ^ k : Nat) : Int), .int .i64 ((V % 2 ^ k : Nat) : Int)]] 2 1 true :: G'))
      (fun k => k ≤ 16) (fun k => 16 - k) 0 (by omega) ?_ ⟨[], ?_⟩ ?_
    · ((try simp only [eraseA_cons, eraseA_nil, setL_cons, setL_nil, List.set_cons_zero, List.set_cons_succ]); all_goals (first | rfl | (simp only [len_snoc, ints_len, List.length_map, ]; done) | (simp only [len_snoc, len_mid, ints_len, List.length_map, List.length_append, List.length_cons, List.length_nil, Nat.zero_add, ]; done) | (simp only [len_mid, len_snoc, ints_len, List.length_map, List.length_append, List.length_cons, List.length_nil, Nat.zero_add, ]; rfl)))
    · simp [Nat.mod_one]
    rintro k g2 G2 hk
    by_cases hk16 : k = 16
    · subst hk16
      have eM : ((M % 2 ^ 16 : Nat) : Int) = (M : Int) := by rw [Nat.mod_eq_of_lt hhB.out.m]
      have eV : ((V % 2 ^ 16 : Nat) : Int) = (V : Int) := by rw [Nat.mod_eq_of_lt hhB.out.v]
      simp only [eM, eV]
      have q3 := (membersR v ss M V hv hsl).rw
      have q4 := (sorted1 w l hw (by omega)).rw
      have q5 := (same1 (.tsl false 1 (ints (memS ss M V))) (.tsl false 1 (ints (sorted l))) (memS ss M V) (sorted l) (.rows false) (.rows false) (by have := memN_len ss M V ss.length; unfold memS; omega)).rw
      have tM : (ints (memS ss M V)).take (memS ss M V).length = ints (memS ss M V) := by rw [← ints_len (memS ss M V)]; exact List.take_length
      have tS : (ints (sorted l)).take (sorted l).length = ints (sorted l) := by rw [← ints_len (sorted l)]; exact List.take_length
      generalize memS ss M V = A at *
      generalize sorted l = B at *
      clear eM eV hhB hh2 hhf hk
      generalize (M : Int) = m at *
      generalize (V : Int) = u at *
      simp only [garbA_cons, garbA_nil, setL_cons, setL_nil, List.set_cons_zero, List.set_cons_succ]
      repeat' (first | refine go1 ?_ | refine blockK_else rfl ?_ | (refine wpC_cond fun A B hA hB => ?_; simp only [go_sem, reduceIte, Nat.reduceAdd, Nat.reduceEqDiff, Nat.reduceLT, Nat.reduceLeDiff, *, and_self, Int.lt_irrefl, c1, s1, s2, q3, q4, q5, tM, tS, set_lenAdd, List.set_cons_succ, List.set_cons_zero, List.getElem?_cons_succ, Nat.zero_le, getElem?_len, getElem?_lenAdd, set_len, List.append_assoc, List.length_append, List.cons_append, ints_len, snap_sl, rowsOf_sl, ints_len, ints_take, List.take_length, Nat.zero_le, Nat.zero_add, Bool.true_or]; first | (refine hA.out ?_; clear hA hB A B) | (refine hB.out ?_; clear hA hB A B) | (refine iteI (fun h => hA.out ?_) (fun h => hB.out ?_) <;> clear hA hB A B) | (refine iteI (fun h => hB.out ?_) (fun h => hA.out ?_) <;> clear hA hB A B)) | (refine wpO_cons fun K hK => ?_; simp only [go_sem, reduceIte, Nat.reduceAdd, Nat.reduceEqDiff, Nat.reduceLT, Nat.reduceLeDiff, *, and_self, Int.lt_irrefl, c1, s1, s2, q3, q4, q5, tM, tS, set_lenAdd, List.set_cons_succ, List.set_cons_zero, List.getElem?_cons_succ, Nat.zero_le, getElem?_len, getElem?_lenAdd, set_len, List.append_assoc, List.length_append, List.cons_append, ints_len, snap_sl, rowsOf_sl, ints_len, ints_take, List.take_length, Nat.zero_le, Nat.zero_add, Bool.true_or]; first | (refine hK.out _ _ ?_; clear hK K) | (refine iteI (fun h => hK.out _ _ ?_) (fun h => hK.out _ _ ?_) <;> clear hK K)))
      simp only [resultsR, resultsL, resultA, resK_some, getA_zero, getA_succ, go_sem, reduceIte, Nat.reduceAdd, Nat.reduceEqDiff, Nat.reduceLT, Nat.reduceLeDiff, and_self, List.getElem?_cons_succ, expK_tup]
      rw [if_pos (show idsOK _ = true from rfl)]
      simp only [expTops, expTop, expCells, k3, k5, noC]
      simp [AV.stab]
    have hkl : k < 16 := by omega
    have hb65 : 2 ^ k < 2 ^ 16 := Nat.pow_lt_pow_right (by omega) hkl
    have sh := shlK k hkl
    have w3 := wrap_succ (n := k) (by omega)
    have lt16 : ((k : Nat) : Int) < 16 := by omega
    have hM1 := mod_bit M k
    have hV1 := mod_bit V k
    have hMk := hhB.out.bm k
    have hVk := hhB.out.bv k
    rw [hc0] at hVk
    simp only [hkl, decide_true, Bool.true_and] at hMk
    have hM0 : M % 2 ^ k < 2 ^ k := Nat.mod_lt _ (Nat.two_pow_pos k)
    have hV0 : V % 2 ^ k < 2 ^ k := Nat.mod_lt _ (Nat.two_pow_pos k)
    have hcb := bA_bit hhf.out hkl
    have heq : Hold (∀ x, isS ss x = true → (bA (fN ss x : Int) ((2 ^ k : Nat) : Int) == bA (c0 : Int) ((2 ^ k : Nat) : Int)) = ((fN ss x).testBit k == c0.testBit k)) := ⟨fun x hx => bit_eq (hff.out.cast hx).2 hhf.out hkl⟩
    have hMM : Hold (agr ss x0 l k = true → IntKind.wrap .i64 (((M % 2 ^ k : Nat) : Int) + ((2 ^ k : Nat) : Int)) = ((M % 2 ^ (k + 1) : Nat) : Int) ∧ IntKind.wrap .i64 (((V % 2 ^ k : Nat) : Int) + bA (c0 : Int) ((2 ^ k : Nat) : Int)) = ((V % 2 ^ (k + 1) : Nat) : Int)) := ⟨by
      intro ha
      rw [hcb, hM1, hV1, hVk, hMk, ha]
      simp only [Bool.true_and, Bool.toNat_true, Nat.one_mul]
      have hle : (c0.testBit k).toNat * 2 ^ k ≤ 2 ^ k := by cases c0.testBit k <;> simp
      generalize (c0.testBit k).toNat * 2 ^ k = r at *
      generalize 2 ^ k = q at *
      generalize M % q = m at *
      generalize V % q = u at *
      exact ⟨by rw [wrap_small (by omega) (by omega)]; omega, by rw [wrap_small (by omega) (by omega)]; omega⟩⟩
    have hMF : Hold (agr ss x0 l k = false → M % 2 ^ (k + 1) = M % 2 ^ k ∧ V % 2 ^ (k + 1) = V % 2 ^ k) := ⟨by
      intro ha
      rw [hM1, hV1, hVk, hMk, ha]
      simp⟩
    have hsn := fun (pre : List Int) x => agr_snoc ss x0 pre x k
    rw [hc0] at hsn
    have hhs : Hold (∀ pre x, agr ss x0 (pre ++ [x]) k = (agr ss x0 pre k && ((fN ss x).testBit k == c0.testBit k))) := ⟨hsn⟩
    clear hM1 hV1 hMk hVk hM0 hV0 hcb hsn hc0 hhB hk hk16 hb65
    have go : Hold (16 - (k + 1) < 16 - k ∧ k + 1 ≤ 16) := ⟨by omega, by omega⟩
    generalize M % 2 ^ k = m0 at *
    generalize V % 2 ^ k = u0 at *
    generalize ((2 ^ k : Nat) : Int) = b at *
    simp only [garbA_cons, garbA_nil, setL_cons, setL_nil, List.set_cons_zero, List.set_cons_succ]
    repeat' (first | refine go1 ?_ | refine blockK_else rfl ?_ | (refine wpC_cond fun A B hA hB => ?_; simp only [go_sem, reduceIte, Nat.reduceAdd, Nat.reduceEqDiff, Nat.reduceLT, Nat.reduceLeDiff, *, and_self, Int.lt_irrefl, lenK_sls hw, ints_len, zb, c1, s1, s2, ↓sh, w2, i0, i2, encS, hy, ↓intAnd, lt16, set_lenAdd, List.set_cons_succ, List.set_cons_zero, List.getElem?_cons_succ, Nat.zero_le, getElem?_len, getElem?_lenAdd, set_len, List.append_assoc, List.length_append, List.cons_append, ints_len, snap_sl, rowsOf_sl, ints_len, ints_take, List.take_length, Nat.zero_le, Nat.zero_add, Bool.true_or]; first | (refine hA.out ?_; clear hA hB A B) | (refine hB.out ?_; clear hA hB A B) | (refine iteI (fun h => hA.out ?_) (fun h => hB.out ?_) <;> clear hA hB A B) | (refine iteI (fun h => hB.out ?_) (fun h => hA.out ?_) <;> clear hA hB A B)) | (refine wpO_cons fun K hK => ?_; simp only [go_sem, reduceIte, Nat.reduceAdd, Nat.reduceEqDiff, Nat.reduceLT, Nat.reduceLeDiff, *, and_self, Int.lt_irrefl, lenK_sls hw, ints_len, zb, c1, s1, s2, ↓sh, w2, i0, i2, encS, hy, ↓intAnd, lt16, set_lenAdd, List.set_cons_succ, List.set_cons_zero, List.getElem?_cons_succ, Nat.zero_le, getElem?_len, getElem?_lenAdd, set_len, List.append_assoc, List.length_append, List.cons_append, ints_len, snap_sl, rowsOf_sl, ints_len, ints_take, List.take_length, Nat.zero_le, Nat.zero_add, Bool.true_or]; first | (refine hK.out _ _ ?_; clear hK K) | (refine iteI (fun h => hK.out _ _ ?_) (fun h => hK.out _ _ ?_) <;> clear hK K)))
    refine wpC_eachE [12, 52, 53, 54, 55, 56, 57, 58, 59, 60, 61, 62, 63, 64, 65, 66, 67, 68, 69, 70, 71] 51 (fun pre => [(11, .bool (agr ss x0 pre k))]) l (fun _ _ => True) ?_ ?_ ?_ ?_
    · trivial
    · ((try simp only [eraseA_cons, eraseA_nil, setL_cons, setL_nil, List.set_cons_zero, List.set_cons_succ]); all_goals (first | rfl | (simp only [len_snoc, ints_len, List.length_map, ]; done) | (simp only [len_snoc, len_mid, ints_len, List.length_map, List.length_append, List.length_cons, List.length_nil, Nat.zero_add, ]; done) | (simp only [len_mid, len_snoc, ints_len, List.length_map, List.length_append, List.length_cons, List.length_nil, Nat.zero_add, ]; rfl)))
    · intro g3 G3 _
      cases ha : agr ss x0 l k with
      | true =>
        obtain ⟨e1, e2⟩ := hMM.out ha
        clear ha
        simp only [garbA_cons, garbA_nil, setL_cons, setL_nil, List.set_cons_zero, List.set_cons_succ]
        repeat' (first | refine go1 ?_ | refine blockK_else rfl ?_ | (refine wpC_cond fun A B hA hB => ?_; simp only [go_sem, reduceIte, Nat.reduceAdd, Nat.reduceEqDiff, Nat.reduceLT, Nat.reduceLeDiff, *, and_self, Int.lt_irrefl, c1, s1, s2, e1, e2, w3, set_lenAdd, List.set_cons_succ, List.set_cons_zero, List.getElem?_cons_succ, Nat.zero_le, getElem?_len, getElem?_lenAdd, set_len, List.append_assoc, List.length_append, List.cons_append, ints_len, snap_sl, rowsOf_sl, ints_len, ints_take, List.take_length, Nat.zero_le, Nat.zero_add, Bool.true_or]; first | (refine hA.out ?_; clear hA hB A B) | (refine hB.out ?_; clear hA hB A B) | (refine iteI (fun h => hA.out ?_) (fun h => hB.out ?_) <;> clear hA hB A B) | (refine iteI (fun h => hB.out ?_) (fun h => hA.out ?_) <;> clear hA hB A B)) | (refine wpO_cons fun K hK => ?_; simp only [go_sem, reduceIte, Nat.reduceAdd, Nat.reduceEqDiff, Nat.reduceLT, Nat.reduceLeDiff, *, and_self, Int.lt_irrefl, c1, s1, s2, e1, e2, w3, set_lenAdd, List.set_cons_succ, List.set_cons_zero, List.getElem?_cons_succ, Nat.zero_le, getElem?_len, getElem?_lenAdd, set_len, List.append_assoc, List.length_append, List.cons_append, ints_len, snap_sl, rowsOf_sl, ints_len, ints_take, List.take_length, Nat.zero_le, Nat.zero_add, Bool.true_or]; first | (refine hK.out _ _ ?_; clear hK K) | (refine iteI (fun h => hK.out _ _ ?_) (fun h => hK.out _ _ ?_) <;> clear hK K)))
        refine loopF_next (k + 1) go.out.1 go.out.2 ?_ ?_
        · ((try simp only [eraseA_cons, eraseA_nil, setL_cons, setL_nil, List.set_cons_zero, List.set_cons_succ]); all_goals (first | rfl | (simp only [len_snoc, ints_len, List.length_map, ]; done) | (simp only [len_snoc, len_mid, ints_len, List.length_map, List.length_append, List.length_cons, List.length_nil, Nat.zero_add, ]; done) | (simp only [len_mid, len_snoc, ints_len, List.length_map, List.length_append, List.length_cons, List.length_nil, Nat.zero_add, ]; rfl)))
        · exact ⟨_, rfl⟩
      | false =>
        obtain ⟨e1, e2⟩ := hMF.out ha
        have hh3 : Hold (M % 2 ^ (k + 1) = m0 ∧ V % 2 ^ (k + 1) = u0) := ⟨e1, e2⟩
        clear ha e1 e2
        simp only [garbA_cons, garbA_nil, setL_cons, setL_nil, List.set_cons_zero, List.set_cons_succ]
        repeat' (first | refine go1 ?_ | refine blockK_else rfl ?_ | (refine wpC_cond fun A B hA hB => ?_; simp only [go_sem, reduceIte, Nat.reduceAdd, Nat.reduceEqDiff, Nat.reduceLT, Nat.reduceLeDiff, *, and_self, Int.lt_irrefl, c1, s1, s2, w3, set_lenAdd, List.set_cons_succ, List.set_cons_zero, List.getElem?_cons_succ, Nat.zero_le, getElem?_len, getElem?_lenAdd, set_len, List.append_assoc, List.length_append, List.cons_append, ints_len, snap_sl, rowsOf_sl, ints_len, ints_take, List.take_length, Nat.zero_le, Nat.zero_add, Bool.true_or]; first | (refine hA.out ?_; clear hA hB A B) | (refine hB.out ?_; clear hA hB A B) | (refine iteI (fun h => hA.out ?_) (fun h => hB.out ?_) <;> clear hA hB A B) | (refine iteI (fun h => hB.out ?_) (fun h => hA.out ?_) <;> clear hA hB A B)) | (refine wpO_cons fun K hK => ?_; simp only [go_sem, reduceIte, Nat.reduceAdd, Nat.reduceEqDiff, Nat.reduceLT, Nat.reduceLeDiff, *, and_self, Int.lt_irrefl, c1, s1, s2, w3, set_lenAdd, List.set_cons_succ, List.set_cons_zero, List.getElem?_cons_succ, Nat.zero_le, getElem?_len, getElem?_lenAdd, set_len, List.append_assoc, List.length_append, List.cons_append, ints_len, snap_sl, rowsOf_sl, ints_len, ints_take, List.take_length, Nat.zero_le, Nat.zero_add, Bool.true_or]; first | (refine hK.out _ _ ?_; clear hK K) | (refine iteI (fun h => hK.out _ _ ?_) (fun h => hK.out _ _ ?_) <;> clear hK K)))
        refine loopF_next (k + 1) go.out.1 go.out.2 ?_ ?_
        · ((try simp only [eraseA_cons, eraseA_nil, setL_cons, setL_nil, List.set_cons_zero, List.set_cons_succ]); all_goals (first | rfl | (simp only [len_snoc, ints_len, List.length_map, ]; done) | (simp only [len_snoc, len_mid, ints_len, List.length_map, List.length_append, List.length_cons, List.length_nil, Nat.zero_add, ]; done) | (simp only [len_mid, len_snoc, ints_len, List.length_map, List.length_append, List.length_cons, List.length_nil, Nat.zero_add, ]; rfl)))
        · simp only [hh3.out.1, hh3.out.2]; exact ⟨_, rfl⟩
    · intro g3 G3 pre x post h1 _
      have i1 := idx_sls hw (X := CX) ty33 ty3 rfl (by rw [h1]; exact ints_mid pre x post) (k := .i64)
      have hpl : pre.length + 1 ≤ l.length := by rw [h1]; simp
      have w4 := wrap_succ (n := pre.length) (by omega)
      have lt1 : (pre.length : Int) < (l.length : Int) := by omega
      have hx : isS ss x = true := by have := hh2.out; rw [h1] at this; simp at this; exact this.2.1
      obtain ⟨j', y', n1, n2, n3, n4⟩ := isS_at hx
      have w5 : IntKind.wrap .i64 (x - 1) = (j' : Int) := by rw [wrap_small (by omega) (by omega)]; omega
      have i3 := idx_sls hv (X := CX) ty22 ty46 rfl (n := j') (row := encS y') (by rw [List.getElem?_map, n3]; rfl) (k := .i64)
      have hy' : y'.feat = (fN ss x : Int) := by rw [← n4]; exact (hff.out.cast hx).1
      have b1 := heq.out x hx
      have hs := hhs.out pre x
      have hh1 : Hold (l = pre ++ x :: post) := ⟨h1⟩
      clear i0 i2 w2 hy sh w3
      cases ha : agr ss x0 pre k with
      | true =>
        rw [ha, Bool.true_and, ← b1] at hs
        have hh3 : Hold (agr ss x0 (pre ++ [x]) k = (bA (fN ss x : Int) b == bA (c0 : Int) b)) := ⟨hs⟩
        clear ha hs b1 hx n1 n2 n3 n4 h1
        simp only [garbA_cons, garbA_nil, setL_cons, setL_nil, List.set_cons_zero, List.set_cons_succ]
        repeat' (first | refine go1 ?_ | refine blockK_else rfl ?_ | (refine wpC_cond fun A B hA hB => ?_; simp only [go_sem, reduceIte, Nat.reduceAdd, Nat.reduceEqDiff, Nat.reduceLT, Nat.reduceLeDiff, *, and_self, getElem?_len, getElem?_lenAdd, set_len, set_lenAdd, len_mid, ints_len, List.length_map, lt_mid, List.nil_append, c1, s1, i1, i3, w4, w5, encS, hy', ↓intAnd, set_lenAdd, List.set_cons_succ, List.set_cons_zero, List.getElem?_cons_succ, Nat.zero_le, getElem?_len, getElem?_lenAdd, set_len, List.append_assoc, List.length_append, List.cons_append, ints_len, snap_sl, rowsOf_sl, ints_len, ints_take, List.take_length, Nat.zero_le, Nat.zero_add, Bool.true_or]; first | (refine hA.out ?_; clear hA hB A B) | (refine hB.out ?_; clear hA hB A B) | (refine iteI (fun h => hA.out ?_) (fun h => hB.out ?_) <;> clear hA hB A B) | (refine iteI (fun h => hB.out ?_) (fun h => hA.out ?_) <;> clear hA hB A B)) | (refine wpO_cons fun K hK => ?_; simp only [go_sem, reduceIte, Nat.reduceAdd, Nat.reduceEqDiff, Nat.reduceLT, Nat.reduceLeDiff, *, and_self, getElem?_len, getElem?_lenAdd, set_len, set_lenAdd, len_mid, ints_len, List.length_map, lt_mid, List.nil_append, c1, s1, i1, i3, w4, w5, encS, hy', ↓intAnd, set_lenAdd, List.set_cons_succ, List.set_cons_zero, List.getElem?_cons_succ, Nat.zero_le, getElem?_len, getElem?_lenAdd, set_len, List.append_assoc, List.length_append, List.cons_append, ints_len, snap_sl, rowsOf_sl, ints_len, ints_take, List.take_length, Nat.zero_le, Nat.zero_add, Bool.true_or]; first | (refine hK.out _ _ ?_; clear hK K) | (refine iteI (fun h => hK.out _ _ ?_) (fun h => hK.out _ _ ?_) <;> clear hK K)))
        refine each_next hh1.out trivial ?_ ?_
        · ((try simp only [eraseA_cons, eraseA_nil, setL_cons, setL_nil, List.set_cons_zero, List.set_cons_succ]); all_goals (first | rfl | (simp only [len_snoc, ints_len, List.length_map, hh3.out]; done) | (simp only [len_snoc, len_mid, ints_len, List.length_map, List.length_append, List.length_cons, List.length_nil, Nat.zero_add, hh3.out]; done) | (simp only [len_mid, len_snoc, ints_len, List.length_map, List.length_append, List.length_cons, List.length_nil, Nat.zero_add, hh3.out]; rfl)))
        · first | exact ⟨[], (List.append_nil _).symm⟩ | exact ⟨_, rfl⟩ | (simp only [List.append_assoc, List.cons_append, List.nil_append]; exact ⟨_, rfl⟩)
      | false =>
        rw [ha, Bool.false_and] at hs
        have hh3 : Hold (agr ss x0 (pre ++ [x]) k = false) := ⟨hs⟩
        clear ha hs b1 hx n1 n2 n3 n4 h1
        simp only [garbA_cons, garbA_nil, setL_cons, setL_nil, List.set_cons_zero, List.set_cons_succ]
        repeat' (first | refine go1 ?_ | refine blockK_else rfl ?_ | (refine wpC_cond fun A B hA hB => ?_; simp only [go_sem, reduceIte, Nat.reduceAdd, Nat.reduceEqDiff, Nat.reduceLT, Nat.reduceLeDiff, *, and_self, getElem?_len, getElem?_lenAdd, set_len, set_lenAdd, len_mid, ints_len, List.length_map, lt_mid, List.nil_append, c1, s1, i1, i3, w4, w5, encS, hy', ↓intAnd, set_lenAdd, List.set_cons_succ, List.set_cons_zero, List.getElem?_cons_succ, Nat.zero_le, getElem?_len, getElem?_lenAdd, set_len, List.append_assoc, List.length_append, List.cons_append, ints_len, snap_sl, rowsOf_sl, ints_len, ints_take, List.take_length, Nat.zero_le, Nat.zero_add, Bool.true_or]; first | (refine hA.out ?_; clear hA hB A B) | (refine hB.out ?_; clear hA hB A B) | (refine iteI (fun h => hA.out ?_) (fun h => hB.out ?_) <;> clear hA hB A B) | (refine iteI (fun h => hB.out ?_) (fun h => hA.out ?_) <;> clear hA hB A B)) | (refine wpO_cons fun K hK => ?_; simp only [go_sem, reduceIte, Nat.reduceAdd, Nat.reduceEqDiff, Nat.reduceLT, Nat.reduceLeDiff, *, and_self, getElem?_len, getElem?_lenAdd, set_len, set_lenAdd, len_mid, ints_len, List.length_map, lt_mid, List.nil_append, c1, s1, i1, i3, w4, w5, encS, hy', ↓intAnd, set_lenAdd, List.set_cons_succ, List.set_cons_zero, List.getElem?_cons_succ, Nat.zero_le, getElem?_len, getElem?_lenAdd, set_len, List.append_assoc, List.length_append, List.cons_append, ints_len, snap_sl, rowsOf_sl, ints_len, ints_take, List.take_length, Nat.zero_le, Nat.zero_add, Bool.true_or]; first | (refine hK.out _ _ ?_; clear hK K) | (refine iteI (fun h => hK.out _ _ ?_) (fun h => hK.out _ _ ?_) <;> clear hK K)))
        refine each_next hh1.out trivial ?_ ?_
        · ((try simp only [eraseA_cons, eraseA_nil, setL_cons, setL_nil, List.set_cons_zero, List.set_cons_succ]); all_goals (first | rfl | (simp only [len_snoc, ints_len, List.length_map, hh3.out]; done) | (simp only [len_snoc, len_mid, ints_len, List.length_map, List.length_append, List.length_cons, List.length_nil, Nat.zero_add, hh3.out]; done) | (simp only [len_mid, len_snoc, ints_len, List.length_map, List.length_append, List.length_cons, List.length_nil, Nat.zero_add, hh3.out]; rfl)))
        · first | exact ⟨[], (List.append_nil _).symm⟩ | exact ⟨_, rfl⟩ | (simp only [List.append_assoc, List.cons_append, List.nil_append]; exact ⟨_, rfl⟩)

/- Segments: the law Natural. -/
open Go.Proofs
attribute [local go_sem] br12 br15 br21 br22 fz32 fz33 fz34 fz35 fz36
set_option maxHeartbeats 4000000

theorem natV_form (ss : List Sg) (l : List Int) : ∃ a b c, natV ss l = .tup [.agg [.int .i64 a, .int .i64 b], .bool c] := by
  unfold natV
  split
  · split
    · exact ⟨_, _, _, rfl⟩
    · exact ⟨_, _, _, rfl⟩
  · exact ⟨_, _, _, rfl⟩

theorem lawNatural (v w : AV) (ss : List Sg) (l : List Int) (hv : SLs 2 (ss.map encS) v) (hw : SLs 1 (ints l) w) : EvV CX 5 [.agg [v], w] (· = .bool true) := by
  have qa := awake.rw
  have c1 := hv.cell
  have s1 := hv.snap
  have s2 := hw.snap
  have q1 := (rightL v ss hv).rw
  cases k : rightS ss with
  | false =>
    rw [k] at q1
    clear k
    refine EvV.walk rfl fn5 rfl nt5 rfl ?_
    simp only [List.length_cons, List.length_nil, List.cons_append, List.nil_append, Nat.reduceAdd, Nat.reduceSub, List.replicate]
    repeat' (first | refine go1 ?_ | refine blockK_else rfl ?_ | (refine wpC_cond fun A B hA hB => ?_; simp only [go_sem, reduceIte, Nat.reduceAdd, Nat.reduceEqDiff, Nat.reduceLT, Nat.reduceLeDiff, *, and_self, c1, s1, q1, qa]; first | (refine hA.out ?_; clear hA hB A B) | (refine hB.out ?_; clear hA hB A B) | (refine iteI (fun h => hA.out ?_) (fun h => hB.out ?_) <;> clear hA hB A B) | (refine iteI (fun h => hB.out ?_) (fun h => hA.out ?_) <;> clear hA hB A B)) | (refine wpO_cons fun K hK => ?_; simp only [go_sem, reduceIte, Nat.reduceAdd, Nat.reduceEqDiff, Nat.reduceLT, Nat.reduceLeDiff, *, and_self, c1, s1, q1, qa]; first | (refine hK.out _ _ ?_; clear hK K) | (refine iteI (fun h => hK.out _ _ ?_) (fun h => hK.out _ _ ?_) <;> clear hK K)))
    simp only [resultsR, resultsL, resultA, expK_int, expK_bool, expK_str, expK_agg, expK_own, expK_tsl, resK_some, go_sem, reduceIte, Nat.reduceAdd, Nat.reduceEqDiff, Nat.reduceLT, Nat.reduceLeDiff, and_self, ]
  | true =>
    obtain ⟨⟨h1, h2⟩, h3⟩ := rightS_iff k
    rw [k] at q1
    clear k
    by_cases z2 : (100 : Int) < (l.length : Int)
    · refine EvV.walk rfl fn5 rfl nt5 rfl ?_
      simp only [List.length_cons, List.length_nil, List.cons_append, List.nil_append, Nat.reduceAdd, Nat.reduceSub, List.replicate]
      repeat' (first | refine go1 ?_ | refine blockK_else rfl ?_ | (refine wpC_cond fun A B hA hB => ?_; simp only [go_sem, reduceIte, Nat.reduceAdd, Nat.reduceEqDiff, Nat.reduceLT, Nat.reduceLeDiff, *, and_self, c1, s1, s2, q1, qa, lenK_sls hw, ints_len]; first | (refine hA.out ?_; clear hA hB A B) | (refine hB.out ?_; clear hA hB A B) | (refine iteI (fun h => hA.out ?_) (fun h => hB.out ?_) <;> clear hA hB A B) | (refine iteI (fun h => hB.out ?_) (fun h => hA.out ?_) <;> clear hA hB A B)) | (refine wpO_cons fun K hK => ?_; simp only [go_sem, reduceIte, Nat.reduceAdd, Nat.reduceEqDiff, Nat.reduceLT, Nat.reduceLeDiff, *, and_self, c1, s1, s2, q1, qa, lenK_sls hw, ints_len]; first | (refine hK.out _ _ ?_; clear hK K) | (refine iteI (fun h => hK.out _ _ ?_) (fun h => hK.out _ _ ?_) <;> clear hK K)))
      simp only [resultsR, resultsL, resultA, expK_int, expK_bool, expK_str, expK_agg, expK_own, expK_tsl, resK_some, go_sem, reduceIte, Nat.reduceAdd, Nat.reduceEqDiff, Nat.reduceLT, Nat.reduceLeDiff, and_self, ]
    have q2 := (naturalM v w ss l hv hw (by omega) (by omega)).rw
    have q3 := (naturalR v w ss l hv hw (by omega) (by omega) (chkS_ft h3)).rw
    obtain ⟨a, b, c, e⟩ := natV_form ss l
    rw [e] at q2 q3
    clear h1 h2 h3 e
    have b1 : (c == c) = true := beq_self_eq_true _
    refine EvV.walk rfl fn5 rfl nt5 rfl ?_
    simp only [List.length_cons, List.length_nil, List.cons_append, List.nil_append, Nat.reduceAdd, Nat.reduceSub, List.replicate]
    repeat' (first | refine go1 ?_ | refine blockK_else rfl ?_ | (refine wpC_cond fun A B hA hB => ?_; simp only [go_sem, reduceIte, Nat.reduceAdd, Nat.reduceEqDiff, Nat.reduceLT, Nat.reduceLeDiff, *, and_self, c1, s1, s2, q1, q2, q3, qa, lenK_sls hw, ints_len, beq_self_eq_true, b1, List.getElem?_cons_succ, List.set_cons_succ, List.set_cons_zero]; first | (refine hA.out ?_; clear hA hB A B) | (refine hB.out ?_; clear hA hB A B) | (refine iteI (fun h => hA.out ?_) (fun h => hB.out ?_) <;> clear hA hB A B) | (refine iteI (fun h => hB.out ?_) (fun h => hA.out ?_) <;> clear hA hB A B)) | (refine wpO_cons fun K hK => ?_; simp only [go_sem, reduceIte, Nat.reduceAdd, Nat.reduceEqDiff, Nat.reduceLT, Nat.reduceLeDiff, *, and_self, c1, s1, s2, q1, q2, q3, qa, lenK_sls hw, ints_len, beq_self_eq_true, b1, List.getElem?_cons_succ, List.set_cons_succ, List.set_cons_zero]; first | (refine hK.out _ _ ?_; clear hK K) | (refine iteI (fun h => hK.out _ _ ?_) (fun h => hK.out _ _ ?_) <;> clear hK K)))
    simp only [resultsR, resultsL, resultA, expK_int, expK_bool, expK_str, expK_agg, expK_own, expK_tsl, resK_some, go_sem, reduceIte, Nat.reduceAdd, Nat.reduceEqDiff, Nat.reduceLT, Nat.reduceLeDiff, and_self, ]

/- Segments: the class of Natural is the least one (the law Least). -/
open Go.Proofs
attribute [local go_sem] br16 br19 br29 fz40 fz41 fz42 fz43 fz44 fz45 fz46 fz47
set_option maxHeartbeats 4000000

theorem mem_minusG (x : Int) (b : List Int) : ∀ (a out : List Int), x ∈ a.foldl (fun out x => if b.contains x then out else put out x) out ↔ x ∈ out ∨ (x ∈ a ∧ ¬ x ∈ b)
  | [], out => by simp
  | y :: a, out => by
    rw [List.foldl_cons, mem_minusG x b a]
    by_cases h : b.contains y = true
    · rw [if_pos h]
      have : y ∈ b := by simpa using h
      constructor
      · rintro (h1 | h1)
        · exact .inl h1
        · exact .inr ⟨by simp [h1.1], h1.2⟩
      · rintro (h1 | ⟨h1, h2⟩)
        · exact .inl h1
        · rcases List.mem_cons.1 h1 with rfl | h1
          · exact absurd this h2
          · exact .inr ⟨h1, h2⟩
    · rw [if_neg h, mem_put]
      have : ¬ y ∈ b := by simpa using h
      constructor
      · rintro ((rfl | h1) | h1)
        · exact .inr ⟨by simp, this⟩
        · exact .inl h1
        · exact .inr ⟨by simp [h1.1], h1.2⟩
      · rintro (h1 | ⟨h1, h2⟩)
        · exact .inl (.inr h1)
        · rcases List.mem_cons.1 h1 with rfl | h1
          · exact .inl (.inl rfl)
          · exact .inr ⟨h1, h2⟩
theorem minus_nil {a b : List Int} : minus a b = [] ↔ ∀ x ∈ a, x ∈ b := by
  unfold minus
  rw [List.eq_nil_iff_forall_not_mem]
  constructor
  · intro h x hx
    have h1 := h x
    rw [mem_minusG] at h1
    by_cases hb : x ∈ b
    · exact hb
    · exact absurd (.inr ⟨hx, hb⟩) h1
  · intro h x
    rw [mem_minusG]
    rintro (h1 | h1)
    · simp at h1
    · exact h1.2 (h x h1.1)

/-- All of the list lie in the class. -/
theorem natB_in {ss : List Sg} (hf : FtOK ss) {x0 : Int} {l : List Int} {M V : Nat} (hB : NatB ss x0 l M V) {x : Int} (hx : x ∈ l) (h : isS ss x = true) : inS ss M V x = true := by
  obtain ⟨c1, c2⟩ := hf.cast h
  rw [inS, h, c1, bA_nat c2 hB.m]
  simp only [Bool.true_and, decide_eq_true_eq]
  have e : fN ss x &&& M = V := by
    apply Nat.eq_of_testBit_eq
    intro k
    rw [Nat.testBit_and, hB.bv k]
    cases hM : M.testBit k with
    | false => simp
    | true =>
      have h1 := hB.bm k
      rw [hM] at h1
      have h2 := (Bool.and_eq_true _ _ ▸ h1.symm).2
      have h3 := List.all_eq_true.1 h2 x hx
      have h4 : (fN ss x).testBit k = (fN ss x0).testBit k := by simpa using h3
      rw [h4]; simp
  rw [e]
theorem testBit_hi {a : Nat} (h : a < 65536) {i : Nat} (hi : ¬ i < 16) : a.testBit i = false :=
  Nat.testBit_lt_two_pow (Nat.lt_of_lt_of_le (show a < 2 ^ 16 from h) (Nat.pow_le_pow_right (by omega) (by omega)))
/-- The class is the least one. -/
theorem natB_least {ss : List Sg} (hf : FtOK ss) {x0 : Int} {l : List Int} {M V : Nat} (hB : NatB ss x0 l M V) (h0 : x0 ∈ l) (hs : ∀ x ∈ l, isS ss x = true) {m c : Int} (wc : (Lit.int .i64 c).wf = true)
    (hall : ∀ x ∈ l, inS ss m c x = true) {y : Int} (hy : inS ss M V y = true) : inS ss m c y = true := by
  have hy1 : isS ss y = true := by rw [inS] at hy; exact (Bool.and_eq_true _ _ ▸ hy).1
  have key : ∀ x, isS ss x = true → inS ss m c x = true → ∀ i, i < 64 → ((fN ss x).testBit i && (BitVec.ofInt 64 m).getLsbD i) = (BitVec.ofInt 64 c).getLsbD i := by
    intro x hx hx2 i hi
    obtain ⟨c1, _⟩ := hf.cast hx
    rw [inS, hx, c1] at hx2
    simp only [Bool.true_and, decide_eq_true_eq] at hx2
    rw [bA_iff wc, ofInt_nat] at hx2
    rw [← hx2, BitVec.getLsbD_and, BitVec.getLsbD_ofNat]
    simp [hi]
  have k0 := key x0 (hs x0 h0) (hall x0 h0)
  obtain ⟨d1, d2⟩ := hf.cast hy1
  obtain ⟨_, f2⟩ := hf.cast (hs x0 h0)
  have e : fN ss y &&& M = V := by
    rw [inS, hy1, d1, bA_nat d2 hB.m] at hy
    simp only [Bool.true_and, decide_eq_true_eq] at hy
    omega
  rw [inS, hy1, d1]
  simp only [Bool.true_and, decide_eq_true_eq]
  rw [bA_iff wc, ofInt_nat]
  apply BitVec.eq_of_getLsbD_eq
  intro i hi
  rw [BitVec.getLsbD_and, BitVec.getLsbD_ofNat, ← k0 i hi]
  simp only [hi, decide_true, Bool.true_and]
  by_cases h16 : i < 16
  · cases hm : (BitVec.ofInt 64 m).getLsbD i with
    | false => simp
    | true =>
      have ha : agr ss x0 l i = true := by
        refine List.all_eq_true.2 fun x hx => ?_
        have k1 := key x (hs x hx) (hall x hx) i hi
        rw [← k0 i hi, hm, Bool.and_true, Bool.and_true] at k1
        rw [k1]; exact beq_self_eq_true _
      have hM : M.testBit i = true := by rw [hB.bm i, ha]; simp [h16]
      have hV := hB.bv i
      rw [hM, Bool.true_and, ← e, Nat.testBit_and, hM, Bool.and_true] at hV
      rw [hV]
  · rw [testBit_hi d2 h16, testBit_hi f2 h16]

theorem lenT {sz : Nat} {rows : List (List AV)} {a c : Nat} {b : Bool} {d : List AV} {el : TypeId} : lenK (some ⟨a, b, c, d, .slice el⟩) (.tsl true sz rows) = some (.int .i64 rows.length) := lenK_sls (.rows true)

theorem lawLeast (v w : AV) (ss : List Sg) (l : List Int) (m c : Int) (hv : SLs 2 (ss.map encS) v) (hw : SLs 1 (ints l) w) (wc : (Lit.int .i64 c).wf = true) : EvV CX 7 [.agg [v], w, .agg [.int .i64 m, .int .i64 c]] (· = .bool true) := by
  have qa := awake.rw
  have c1 := hv.cell
  have s1 := hv.snap
  have s2 := hw.snap
  have q1 := (rightL v ss hv).rw
  cases k : rightS ss with
  | false =>
    rw [k] at q1
    clear k wc
    refine EvV.walk rfl fn7 rfl nt7 rfl ?_
    simp only [List.length_cons, List.length_nil, List.cons_append, List.nil_append, Nat.reduceAdd, Nat.reduceSub, List.replicate]
    repeat' (first | refine go1 ?_ | refine blockK_else rfl ?_ | (refine wpC_cond fun A B hA hB => ?_; simp only [go_sem, reduceIte, Nat.reduceAdd, Nat.reduceEqDiff, Nat.reduceLT, Nat.reduceLeDiff, *, and_self, c1, s1, q1, qa]; first | (refine hA.out ?_; clear hA hB A B) | (refine hB.out ?_; clear hA hB A B) | (refine iteI (fun h => hA.out ?_) (fun h => hB.out ?_) <;> clear hA hB A B) | (refine iteI (fun h => hB.out ?_) (fun h => hA.out ?_) <;> clear hA hB A B)) | (refine wpO_cons fun K hK => ?_; simp only [go_sem, reduceIte, Nat.reduceAdd, Nat.reduceEqDiff, Nat.reduceLT, Nat.reduceLeDiff, *, and_self, c1, s1, q1, qa]; first | (refine hK.out _ _ ?_; clear hK K) | (refine iteI (fun h => hK.out _ _ ?_) (fun h => hK.out _ _ ?_) <;> clear hK K)))
    simp only [resultsR, resultsL, resultA, expK_int, expK_bool, expK_str, expK_agg, expK_own, expK_tsl, resK_some, go_sem, reduceIte, Nat.reduceAdd, Nat.reduceEqDiff, Nat.reduceLT, Nat.reduceLeDiff, and_self, ]
  | true =>
    obtain ⟨⟨h1, h2⟩, h3⟩ := rightS_iff k
    rw [k] at q1
    clear k
    have hff := chkS_ft h3
    by_cases z2 : (100 : Int) < (l.length : Int)
    · clear hff wc
      refine EvV.walk rfl fn7 rfl nt7 rfl ?_
      simp only [List.length_cons, List.length_nil, List.cons_append, List.nil_append, Nat.reduceAdd, Nat.reduceSub, List.replicate]
      repeat' (first | refine go1 ?_ | refine blockK_else rfl ?_ | (refine wpC_cond fun A B hA hB => ?_; simp only [go_sem, reduceIte, Nat.reduceAdd, Nat.reduceEqDiff, Nat.reduceLT, Nat.reduceLeDiff, *, and_self, c1, s1, s2, q1, qa, lenK_sls hw, ints_len]; first | (refine hA.out ?_; clear hA hB A B) | (refine hB.out ?_; clear hA hB A B) | (refine iteI (fun h => hA.out ?_) (fun h => hB.out ?_) <;> clear hA hB A B) | (refine iteI (fun h => hB.out ?_) (fun h => hA.out ?_) <;> clear hA hB A B)) | (refine wpO_cons fun K hK => ?_; simp only [go_sem, reduceIte, Nat.reduceAdd, Nat.reduceEqDiff, Nat.reduceLT, Nat.reduceLeDiff, *, and_self, c1, s1, s2, q1, qa, lenK_sls hw, ints_len]; first | (refine hK.out _ _ ?_; clear hK K) | (refine iteI (fun h => hK.out _ _ ?_) (fun h => hK.out _ _ ?_) <;> clear hK K)))
      simp only [resultsR, resultsL, resultA, expK_int, expK_bool, expK_str, expK_agg, expK_own, expK_tsl, resK_some, go_sem, reduceIte, Nat.reduceAdd, Nat.reduceEqDiff, Nat.reduceLT, Nat.reduceLeDiff, and_self, ]
    by_cases z : l.length = 0
    · have zb : ((l.length : Int) == 0) = true := by rw [z]; rfl
      clear hff wc z
      refine EvV.walk rfl fn7 rfl nt7 rfl ?_
      simp only [List.length_cons, List.length_nil, List.cons_append, List.nil_append, Nat.reduceAdd, Nat.reduceSub, List.replicate]
      repeat' (first | refine go1 ?_ | refine blockK_else rfl ?_ | (refine wpC_cond fun A B hA hB => ?_; simp only [go_sem, reduceIte, Nat.reduceAdd, Nat.reduceEqDiff, Nat.reduceLT, Nat.reduceLeDiff, *, and_self, c1, s1, s2, q1, qa, zb, lenK_sls hw, ints_len]; first | (refine hA.out ?_; clear hA hB A B) | (refine hB.out ?_; clear hA hB A B) | (refine iteI (fun h => hA.out ?_) (fun h => hB.out ?_) <;> clear hA hB A B) | (refine iteI (fun h => hB.out ?_) (fun h => hA.out ?_) <;> clear hA hB A B)) | (refine wpO_cons fun K hK => ?_; simp only [go_sem, reduceIte, Nat.reduceAdd, Nat.reduceEqDiff, Nat.reduceLT, Nat.reduceLeDiff, *, and_self, c1, s1, s2, q1, qa, zb, lenK_sls hw, ints_len]; first | (refine hK.out _ _ ?_; clear hK K) | (refine iteI (fun h => hK.out _ _ ?_) (fun h => hK.out _ _ ?_) <;> clear hK K)))
      simp only [resultsR, resultsL, resultA, expK_int, expK_bool, expK_str, expK_agg, expK_own, expK_tsl, resK_some, go_sem, reduceIte, Nat.reduceAdd, Nat.reduceEqDiff, Nat.reduceLT, Nat.reduceLeDiff, and_self, ]
    have zb : ((l.length : Int) == 0) = false := beq_false_of_ne (by omega)
    obtain ⟨x0, rest, hlx⟩ : ∃ x0 rest, l = x0 :: rest := by
      cases l with
      | nil => exact absurd rfl z
      | cons a b => exact ⟨a, b, rfl⟩
    have hh0 : Hold (l = x0 :: rest) := ⟨hlx⟩
    have hhf : Hold (FtOK ss) := ⟨hff⟩
    have hhc : Hold ((Lit.int .i64 c).wf = true) := ⟨wc⟩
    have hl1 : l.length ≤ 100 := by omega
    clear hff wc hlx h2 h3
    refine EvV.walk rfl fn7 rfl nt7 rfl ?_
    simp only [List.length_cons, List.length_nil, List.cons_append, List.nil_append, Nat.reduceAdd, Nat.reduceSub, List.replicate]
    repeat' (first | refine go1 ?_ | refine blockK_else rfl ?_ | (refine wpC_cond fun A B hA hB => ?_; simp only [go_sem, reduceIte, Nat.reduceAdd, Nat.reduceEqDiff, Nat.reduceLT, Nat.reduceLeDiff, *, and_self, c1, s1, s2, q1, qa, zb, lenK_sls hw, ints_len]; first | (refine hA.out ?_; clear hA hB A B) | (refine hB.out ?_; clear hA hB A B) | (refine iteI (fun h => hA.out ?_) (fun h => hB.out ?_) <;> clear hA hB A B) | (refine iteI (fun h => hB.out ?_) (fun h => hA.out ?_) <;> clear hA hB A B)) | (refine wpO_cons fun K hK => ?_; simp only [go_sem, reduceIte, Nat.reduceAdd, Nat.reduceEqDiff, Nat.reduceLT, Nat.reduceLeDiff, *, and_self, c1, s1, s2, q1, qa, zb, lenK_sls hw, ints_len]; first | (refine hK.out _ _ ?_; clear hK K) | (refine iteI (fun h => hK.out _ _ ?_) (fun h => hK.out _ _ ?_) <;> clear hK K)))
    refine wpC_eachE [6, 8, 29, 30, 31, 32, 33, 34, 35, 36, 37, 38, 39, 40, 41, 42, 43, 44, 45, 46, 47, 48, 49, 50, 51, 52, 53, 54, 55, 56, 57] 28 (fun pre => [(7, .bool (pre.all (inS ss m c)))]) l (fun pre _ => pre.all (isS ss) = true) ?_ ?_ ?_ ?_
    · rfl
    · ((try simp only [eraseA_cons, eraseA_nil, setL_cons, setL_nil, List.set_cons_zero, List.set_cons_succ]); all_goals (first | rfl | (simp only [len_snoc, ints_len, List.length_map, ]; done) | (simp only [len_snoc, len_mid, ints_len, List.length_map, List.length_append, List.length_cons, List.length_nil, Nat.zero_add, ]; done) | (simp only [len_mid, len_snoc, ints_len, List.length_map, List.length_append, List.length_cons, List.length_nil, Nat.zero_add, ]; rfl)))
    · intro g G hall
      have hs : ∀ x ∈ l, isS ss x = true := fun x hx => List.all_eq_true.1 hall x hx
      obtain ⟨M, V, hB⟩ := natP_bits ss hhf.out x0 rest.length rest rfl (by rw [← hh0.out]; exact hall)
      rw [← hh0.out] at hB
      have e : natV ss l = .tup [.agg [.int .i64 M, .int .i64 V], .bool (decide (memS ss M V = sorted l))] := by rw [natV, if_pos hall, if_neg z, hB.eq]
      have q2 := (naturalM v w ss l hv hw (by omega) (by omega)).rw
      rw [e] at q2
      have q3 := (membersM v ss M V hv (by omega)).rw
      have q4 := (membersM v ss m c hv (by omega)).rw
      have lA := memN_len ss M V ss.length
      have lC := memN_len ss m c ss.length
      have q5 := (minus1 w (.tsl true 1 (ints (memS ss M V))) l (memS ss M V) hw (.rows true) (by omega) (by unfold memS; omega)).rw
      have q6 := (minus1 (.tsl true 1 (ints (memS ss M V))) w (memS ss M V) l (.rows true) hw (by unfold memS; omega) (by omega)).rw
      have q7 := (minus1 (.tsl true 1 (ints (memS ss M V))) (.tsl true 1 (ints (memS ss m c))) (memS ss M V) (memS ss m c) (.rows true) (.rows true) (by unfold memS; omega) (by unfold memS; omega)).rw
      have s3 : ∀ l S, snap S (.tsl true 1 (ints l)) = some (.tsl true 1 (ints l)) := fun l S => by simp only [snap]
      have hlA : ∀ x ∈ l, x ∈ memS ss M V := fun x hx => by
        obtain ⟨k, y, j1, j2, j3, j4⟩ := isS_at (hs x hx)
        exact mem_memS.2 ⟨⟨k, j2, by omega⟩, natB_in hhf.out hB hx (hs x hx)⟩
      have e5 : minus l (memS ss M V) = [] := minus_nil.2 hlA
      rw [e5] at q5
      have hL : l.all (inS ss m c) = true → minus (memS ss M V) (memS ss m c) = [] := fun ha => minus_nil.2 fun y hy => by
        rw [mem_memS] at hy ⊢
        exact ⟨hy.1, natB_least hhf.out hB (by rw [hh0.out]; simp) hs hhc.out (fun x hx => List.all_eq_true.1 ha x hx) hy.2⟩
      have hLh : Hold (l.all (inS ss m c) = true → minus (memS ss M V) (memS ss m c) = []) := ⟨hL⟩
      have hD : (decide (memS ss M V = sorted l) = true ∧ minus (memS ss M V) l = []) ∨ (decide (memS ss M V = sorted l) = false ∧ (((minus (memS ss M V) l).length : Int) == 0) = false) := by
        by_cases h : memS ss M V = sorted l
        · exact .inl ⟨by simp [h], minus_nil.2 fun x hx => by rw [h, mem_sorted] at hx; exact hx⟩
        · refine .inr ⟨by simp [h], beq_false_of_ne fun h0 => h ?_⟩
          have hn : minus (memS ss M V) l = [] := List.eq_nil_of_length_eq_zero (by omega)
          exact up_unique (memS_up _ _ _) (sorted_up _) fun x => by rw [mem_sorted]; exact ⟨fun hx => minus_nil.1 hn x hx, hlA x⟩
      clear e hL hlA e5 hs hall hB lA lC z h1 hh0
      generalize memS ss M V = A at *
      generalize memS ss m c = C at *
      generalize decide (A = sorted l) = D at *
      have e0 : ints ([] : List Int) = [] := rfl
      rw [e0] at q5
      rcases hD with ⟨hD1, hD2⟩ | ⟨hD1, hD2⟩
      · subst hD1
        rw [hD2, e0] at q6
        clear hD2
        cases ha : l.all (inS ss m c) with
        | true =>
          have e7 := hLh.out ha
          rw [e7, e0] at q7
          clear hLh ha e7
          simp only [garbA_cons, garbA_nil, setL_cons, setL_nil, List.set_cons_zero, List.set_cons_succ]
          repeat' (first | refine go1 ?_ | refine blockK_else rfl ?_ | (refine wpC_cond fun A B hA hB => ?_; simp only [go_sem, reduceIte, Nat.reduceAdd, Nat.reduceEqDiff, Nat.reduceLT, Nat.reduceLeDiff, *, and_self, Int.lt_irrefl, c1, s1, s2, s3, q2, q3, q4, q5, q6, q7, qa, lenT, List.length_nil, lenK_sls hw, ints_len, beq_self_eq_true, set_lenAdd, List.set_cons_succ, List.set_cons_zero, List.getElem?_cons_succ, Nat.zero_le, getElem?_len, getElem?_lenAdd, set_len, List.append_assoc, List.length_append, List.cons_append, ints_len, snap_sl, rowsOf_sl, ints_len, ints_take, List.take_length, Nat.zero_le, Nat.zero_add, Bool.true_or]; first | (refine hA.out ?_; clear hA hB A B) | (refine hB.out ?_; clear hA hB A B) | (refine iteI (fun h => hA.out ?_) (fun h => hB.out ?_) <;> clear hA hB A B) | (refine iteI (fun h => hB.out ?_) (fun h => hA.out ?_) <;> clear hA hB A B)) | (refine wpO_cons fun K hK => ?_; simp only [go_sem, reduceIte, Nat.reduceAdd, Nat.reduceEqDiff, Nat.reduceLT, Nat.reduceLeDiff, *, and_self, Int.lt_irrefl, c1, s1, s2, s3, q2, q3, q4, q5, q6, q7, qa, lenT, List.length_nil, lenK_sls hw, ints_len, beq_self_eq_true, set_lenAdd, List.set_cons_succ, List.set_cons_zero, List.getElem?_cons_succ, Nat.zero_le, getElem?_len, getElem?_lenAdd, set_len, List.append_assoc, List.length_append, List.cons_append, ints_len, snap_sl, rowsOf_sl, ints_len, ints_take, List.take_length, Nat.zero_le, Nat.zero_add, Bool.true_or]; first | (refine hK.out _ _ ?_; clear hK K) | (refine iteI (fun h => hK.out _ _ ?_) (fun h => hK.out _ _ ?_) <;> clear hK K)))
          simp only [resultsR, resultsL, resultA, expK_int, expK_bool, expK_str, expK_agg, expK_own, expK_tsl, resK_some, go_sem, reduceIte, Nat.reduceAdd, Nat.reduceEqDiff, Nat.reduceLT, Nat.reduceLeDiff, and_self, ]
        | false =>
          clear hLh ha
          simp only [garbA_cons, garbA_nil, setL_cons, setL_nil, List.set_cons_zero, List.set_cons_succ]
          repeat' (first | refine go1 ?_ | refine blockK_else rfl ?_ | (refine wpC_cond fun A B hA hB => ?_; simp only [go_sem, reduceIte, Nat.reduceAdd, Nat.reduceEqDiff, Nat.reduceLT, Nat.reduceLeDiff, *, and_self, Int.lt_irrefl, c1, s1, s2, s3, q2, q3, q4, q5, q6, q7, qa, lenT, List.length_nil, lenK_sls hw, ints_len, beq_self_eq_true, set_lenAdd, List.set_cons_succ, List.set_cons_zero, List.getElem?_cons_succ, Nat.zero_le, getElem?_len, getElem?_lenAdd, set_len, List.append_assoc, List.length_append, List.cons_append, ints_len, snap_sl, rowsOf_sl, ints_len, ints_take, List.take_length, Nat.zero_le, Nat.zero_add, Bool.true_or]; first | (refine hA.out ?_; clear hA hB A B) | (refine hB.out ?_; clear hA hB A B) | (refine iteI (fun h => hA.out ?_) (fun h => hB.out ?_) <;> clear hA hB A B) | (refine iteI (fun h => hB.out ?_) (fun h => hA.out ?_) <;> clear hA hB A B)) | (refine wpO_cons fun K hK => ?_; simp only [go_sem, reduceIte, Nat.reduceAdd, Nat.reduceEqDiff, Nat.reduceLT, Nat.reduceLeDiff, *, and_self, Int.lt_irrefl, c1, s1, s2, s3, q2, q3, q4, q5, q6, q7, qa, lenT, List.length_nil, lenK_sls hw, ints_len, beq_self_eq_true, set_lenAdd, List.set_cons_succ, List.set_cons_zero, List.getElem?_cons_succ, Nat.zero_le, getElem?_len, getElem?_lenAdd, set_len, List.append_assoc, List.length_append, List.cons_append, ints_len, snap_sl, rowsOf_sl, ints_len, ints_take, List.take_length, Nat.zero_le, Nat.zero_add, Bool.true_or]; first | (refine hK.out _ _ ?_; clear hK K) | (refine iteI (fun h => hK.out _ _ ?_) (fun h => hK.out _ _ ?_) <;> clear hK K)))
          simp only [resultsR, resultsL, resultA, expK_int, expK_bool, expK_str, expK_agg, expK_own, expK_tsl, resK_some, go_sem, reduceIte, Nat.reduceAdd, Nat.reduceEqDiff, Nat.reduceLT, Nat.reduceLeDiff, and_self, ]
      · subst hD1
        generalize minus A l = AL at *
        cases ha : l.all (inS ss m c) with
        | true =>
          have e7 := hLh.out ha
          rw [e7, e0] at q7
          clear hLh ha e7
          simp only [garbA_cons, garbA_nil, setL_cons, setL_nil, List.set_cons_zero, List.set_cons_succ]
          repeat' (first | refine go1 ?_ | refine blockK_else rfl ?_ | (refine wpC_cond fun A B hA hB => ?_; simp only [go_sem, reduceIte, Nat.reduceAdd, Nat.reduceEqDiff, Nat.reduceLT, Nat.reduceLeDiff, *, and_self, Int.lt_irrefl, c1, s1, s2, s3, q2, q3, q4, q5, q6, q7, qa, lenT, List.length_nil, lenK_sls hw, ints_len, hD2, set_lenAdd, List.set_cons_succ, List.set_cons_zero, List.getElem?_cons_succ, Nat.zero_le, getElem?_len, getElem?_lenAdd, set_len, List.append_assoc, List.length_append, List.cons_append, ints_len, snap_sl, rowsOf_sl, ints_len, ints_take, List.take_length, Nat.zero_le, Nat.zero_add, Bool.true_or]; first | (refine hA.out ?_; clear hA hB A B) | (refine hB.out ?_; clear hA hB A B) | (refine iteI (fun h => hA.out ?_) (fun h => hB.out ?_) <;> clear hA hB A B) | (refine iteI (fun h => hB.out ?_) (fun h => hA.out ?_) <;> clear hA hB A B)) | (refine wpO_cons fun K hK => ?_; simp only [go_sem, reduceIte, Nat.reduceAdd, Nat.reduceEqDiff, Nat.reduceLT, Nat.reduceLeDiff, *, and_self, Int.lt_irrefl, c1, s1, s2, s3, q2, q3, q4, q5, q6, q7, qa, lenT, List.length_nil, lenK_sls hw, ints_len, hD2, set_lenAdd, List.set_cons_succ, List.set_cons_zero, List.getElem?_cons_succ, Nat.zero_le, getElem?_len, getElem?_lenAdd, set_len, List.append_assoc, List.length_append, List.cons_append, ints_len, snap_sl, rowsOf_sl, ints_len, ints_take, List.take_length, Nat.zero_le, Nat.zero_add, Bool.true_or]; first | (refine hK.out _ _ ?_; clear hK K) | (refine iteI (fun h => hK.out _ _ ?_) (fun h => hK.out _ _ ?_) <;> clear hK K)))
          simp only [resultsR, resultsL, resultA, expK_int, expK_bool, expK_str, expK_agg, expK_own, expK_tsl, resK_some, go_sem, reduceIte, Nat.reduceAdd, Nat.reduceEqDiff, Nat.reduceLT, Nat.reduceLeDiff, and_self, ]
        | false =>
          clear hLh ha
          simp only [garbA_cons, garbA_nil, setL_cons, setL_nil, List.set_cons_zero, List.set_cons_succ]
          repeat' (first | refine go1 ?_ | refine blockK_else rfl ?_ | (refine wpC_cond fun A B hA hB => ?_; simp only [go_sem, reduceIte, Nat.reduceAdd, Nat.reduceEqDiff, Nat.reduceLT, Nat.reduceLeDiff, *, and_self, Int.lt_irrefl, c1, s1, s2, s3, q2, q3, q4, q5, q6, q7, qa, lenT, List.length_nil, lenK_sls hw, ints_len, hD2, set_lenAdd, List.set_cons_succ, List.set_cons_zero, List.getElem?_cons_succ, Nat.zero_le, getElem?_len, getElem?_lenAdd, set_len, List.append_assoc, List.length_append, List.cons_append, ints_len, snap_sl, rowsOf_sl, ints_len, ints_take, List.take_length, Nat.zero_le, Nat.zero_add, Bool.true_or]; first | (refine hA.out ?_; clear hA hB A B) | (refine hB.out ?_; clear hA hB A B) | (refine iteI (fun h => hA.out ?_) (fun h => hB.out ?_) <;> clear hA hB A B) | (refine iteI (fun h => hB.out ?_) (fun h => hA.out ?_) <;> clear hA hB A B)) | (refine wpO_cons fun K hK => ?_; simp only [go_sem, reduceIte, Nat.reduceAdd, Nat.reduceEqDiff, Nat.reduceLT, Nat.reduceLeDiff, *, and_self, Int.lt_irrefl, c1, s1, s2, s3, q2, q3, q4, q5, q6, q7, qa, lenT, List.length_nil, lenK_sls hw, ints_len, hD2, set_lenAdd, List.set_cons_succ, List.set_cons_zero, List.getElem?_cons_succ, Nat.zero_le, getElem?_len, getElem?_lenAdd, set_len, List.append_assoc, List.length_append, List.cons_append, ints_len, snap_sl, rowsOf_sl, ints_len, ints_take, List.take_length, Nat.zero_le, Nat.zero_add, Bool.true_or]; first | (refine hK.out _ _ ?_; clear hK K) | (refine iteI (fun h => hK.out _ _ ?_) (fun h => hK.out _ _ ?_) <;> clear hK K)))
          simp only [resultsR, resultsL, resultA, expK_int, expK_bool, expK_str, expK_agg, expK_own, expK_tsl, resK_some, go_sem, reduceIte, Nat.reduceAdd, Nat.reduceEqDiff, Nat.reduceLT, Nat.reduceLeDiff, and_self, ]
    · intro g G pre x post h1 h2
      have i1 := idx_sls hw (X := CX) ty33 ty3 rfl (by rw [h1]; exact ints_mid pre x post) (k := .i64)
      have hpl : pre.length + 1 ≤ l.length := by rw [h1]; simp
      have w1 := wrap_succ (n := pre.length) (by omega)
      have lt1 : (pre.length : Int) < (l.length : Int) := by omega
      have hh1 : Hold (l = pre ++ x :: post) := ⟨h1⟩
      have q := (inM v ss m c x hv (by omega)).rw
      clear h1
      by_cases y1 : x < 1
      · clear q h2
        simp only [garbA_cons, garbA_nil, setL_cons, setL_nil, List.set_cons_zero, List.set_cons_succ]
        repeat' (first | refine go1 ?_ | refine blockK_else rfl ?_ | (refine wpC_cond fun A B hA hB => ?_; simp only [go_sem, reduceIte, Nat.reduceAdd, Nat.reduceEqDiff, Nat.reduceLT, Nat.reduceLeDiff, *, and_self, getElem?_len, getElem?_lenAdd, set_len, set_lenAdd, len_mid, ints_len, List.length_map, lt_mid, List.nil_append, c1, s1, s2, i1, w1, qa, lenK_sls hv, List.length_map]; first | (refine hA.out ?_; clear hA hB A B) | (refine hB.out ?_; clear hA hB A B) | (refine iteI (fun h => hA.out ?_) (fun h => hB.out ?_) <;> clear hA hB A B) | (refine iteI (fun h => hB.out ?_) (fun h => hA.out ?_) <;> clear hA hB A B)) | (refine wpO_cons fun K hK => ?_; simp only [go_sem, reduceIte, Nat.reduceAdd, Nat.reduceEqDiff, Nat.reduceLT, Nat.reduceLeDiff, *, and_self, getElem?_len, getElem?_lenAdd, set_len, set_lenAdd, len_mid, ints_len, List.length_map, lt_mid, List.nil_append, c1, s1, s2, i1, w1, qa, lenK_sls hv, List.length_map]; first | (refine hK.out _ _ ?_; clear hK K) | (refine iteI (fun h => hK.out _ _ ?_) (fun h => hK.out _ _ ?_) <;> clear hK K)))
        simp only [resultsR, resultsL, resultA, expK_int, expK_bool, expK_str, expK_agg, expK_own, expK_tsl, resK_some, go_sem, reduceIte, Nat.reduceAdd, Nat.reduceEqDiff, Nat.reduceLT, Nat.reduceLeDiff, and_self, ]
      by_cases y2 : (ss.length : Int) < x
      · clear q h2
        simp only [garbA_cons, garbA_nil, setL_cons, setL_nil, List.set_cons_zero, List.set_cons_succ]
        repeat' (first | refine go1 ?_ | refine blockK_else rfl ?_ | (refine wpC_cond fun A B hA hB => ?_; simp only [go_sem, reduceIte, Nat.reduceAdd, Nat.reduceEqDiff, Nat.reduceLT, Nat.reduceLeDiff, *, and_self, getElem?_len, getElem?_lenAdd, set_len, set_lenAdd, len_mid, ints_len, List.length_map, lt_mid, List.nil_append, c1, s1, s2, i1, w1, qa, lenK_sls hv, List.length_map]; first | (refine hA.out ?_; clear hA hB A B) | (refine hB.out ?_; clear hA hB A B) | (refine iteI (fun h => hA.out ?_) (fun h => hB.out ?_) <;> clear hA hB A B) | (refine iteI (fun h => hB.out ?_) (fun h => hA.out ?_) <;> clear hA hB A B)) | (refine wpO_cons fun K hK => ?_; simp only [go_sem, reduceIte, Nat.reduceAdd, Nat.reduceEqDiff, Nat.reduceLT, Nat.reduceLeDiff, *, and_self, getElem?_len, getElem?_lenAdd, set_len, set_lenAdd, len_mid, ints_len, List.length_map, lt_mid, List.nil_append, c1, s1, s2, i1, w1, qa, lenK_sls hv, List.length_map]; first | (refine hK.out _ _ ?_; clear hK K) | (refine iteI (fun h => hK.out _ _ ?_) (fun h => hK.out _ _ ?_) <;> clear hK K)))
        simp only [resultsR, resultsL, resultA, expK_int, expK_bool, expK_str, expK_agg, expK_own, expK_tsl, resK_some, go_sem, reduceIte, Nat.reduceAdd, Nat.reduceEqDiff, Nat.reduceLT, Nat.reduceLeDiff, and_self, ]
      have hx : isS ss x = true := by simp [isS]; omega
      have hall : Hold ((pre ++ [x]).all (isS ss) = true) := ⟨by rw [List.all_append, h2]; simp [hx]⟩
      clear h2 hx
      have hn : (pre ++ [x]).all (inS ss m c) = (pre.all (inS ss m c) && inS ss m c x) := by simp
      cases ha : pre.all (inS ss m c) with
      | true =>
        rw [ha, Bool.true_and] at hn
        have hh2 : Hold ((pre ++ [x]).all (inS ss m c) = inS ss m c x) := ⟨hn⟩
        clear ha hn
        generalize inS ss m c x = I at *
        simp only [garbA_cons, garbA_nil, setL_cons, setL_nil, List.set_cons_zero, List.set_cons_succ]
        repeat' (first | refine go1 ?_ | refine blockK_else rfl ?_ | (refine wpC_cond fun A B hA hB => ?_; simp only [go_sem, reduceIte, Nat.reduceAdd, Nat.reduceEqDiff, Nat.reduceLT, Nat.reduceLeDiff, *, and_self, getElem?_len, getElem?_lenAdd, set_len, set_lenAdd, len_mid, ints_len, List.length_map, lt_mid, List.nil_append, c1, s1, s2, i1, w1, q, lenK_sls hv, List.length_map]; first | (refine hA.out ?_; clear hA hB A B) | (refine hB.out ?_; clear hA hB A B) | (refine iteI (fun h => hA.out ?_) (fun h => hB.out ?_) <;> clear hA hB A B) | (refine iteI (fun h => hB.out ?_) (fun h => hA.out ?_) <;> clear hA hB A B)) | (refine wpO_cons fun K hK => ?_; simp only [go_sem, reduceIte, Nat.reduceAdd, Nat.reduceEqDiff, Nat.reduceLT, Nat.reduceLeDiff, *, and_self, getElem?_len, getElem?_lenAdd, set_len, set_lenAdd, len_mid, ints_len, List.length_map, lt_mid, List.nil_append, c1, s1, s2, i1, w1, q, lenK_sls hv, List.length_map]; first | (refine hK.out _ _ ?_; clear hK K) | (refine iteI (fun h => hK.out _ _ ?_) (fun h => hK.out _ _ ?_) <;> clear hK K)))
        refine each_next hh1.out hall.out ?_ ?_
        · ((try simp only [eraseA_cons, eraseA_nil, setL_cons, setL_nil, List.set_cons_zero, List.set_cons_succ]); all_goals (first | rfl | (simp only [len_snoc, ints_len, List.length_map, hh2.out]; done) | (simp only [len_snoc, len_mid, ints_len, List.length_map, List.length_append, List.length_cons, List.length_nil, Nat.zero_add, hh2.out]; done) | (simp only [len_mid, len_snoc, ints_len, List.length_map, List.length_append, List.length_cons, List.length_nil, Nat.zero_add, hh2.out]; rfl)))
        · first | exact ⟨[], (List.append_nil _).symm⟩ | exact ⟨_, rfl⟩ | (simp only [List.append_assoc, List.cons_append, List.nil_append]; exact ⟨_, rfl⟩)
      | false =>
        rw [ha, Bool.false_and] at hn
        have hh2 : Hold ((pre ++ [x]).all (inS ss m c) = false) := ⟨hn⟩
        clear ha hn
        simp only [garbA_cons, garbA_nil, setL_cons, setL_nil, List.set_cons_zero, List.set_cons_succ]
        repeat' (first | refine go1 ?_ | refine blockK_else rfl ?_ | (refine wpC_cond fun A B hA hB => ?_; simp only [go_sem, reduceIte, Nat.reduceAdd, Nat.reduceEqDiff, Nat.reduceLT, Nat.reduceLeDiff, *, and_self, getElem?_len, getElem?_lenAdd, set_len, set_lenAdd, len_mid, ints_len, List.length_map, lt_mid, List.nil_append, c1, s1, s2, i1, w1, q, lenK_sls hv, List.length_map]; first | (refine hA.out ?_; clear hA hB A B) | (refine hB.out ?_; clear hA hB A B) | (refine iteI (fun h => hA.out ?_) (fun h => hB.out ?_) <;> clear hA hB A B) | (refine iteI (fun h => hB.out ?_) (fun h => hA.out ?_) <;> clear hA hB A B)) | (refine wpO_cons fun K hK => ?_; simp only [go_sem, reduceIte, Nat.reduceAdd, Nat.reduceEqDiff, Nat.reduceLT, Nat.reduceLeDiff, *, and_self, getElem?_len, getElem?_lenAdd, set_len, set_lenAdd, len_mid, ints_len, List.length_map, lt_mid, List.nil_append, c1, s1, s2, i1, w1, q, lenK_sls hv, List.length_map]; first | (refine hK.out _ _ ?_; clear hK K) | (refine iteI (fun h => hK.out _ _ ?_) (fun h => hK.out _ _ ?_) <;> clear hK K)))
        refine each_next hh1.out hall.out ?_ ?_
        · ((try simp only [eraseA_cons, eraseA_nil, setL_cons, setL_nil, List.set_cons_zero, List.set_cons_succ]); all_goals (first | rfl | (simp only [len_snoc, ints_len, List.length_map, hh2.out]; done) | (simp only [len_snoc, len_mid, ints_len, List.length_map, List.length_append, List.length_cons, List.length_nil, Nat.zero_add, hh2.out]; done) | (simp only [len_mid, len_snoc, ints_len, List.length_map, List.length_append, List.length_cons, List.length_nil, Nat.zero_add, hh2.out]; rfl)))
        · first | exact ⟨[], (List.append_nil _).symm⟩ | exact ⟨_, rfl⟩ | (simp only [List.append_assoc, List.cons_append, List.nil_append]; exact ⟨_, rfl⟩)
end Go.Eng
