/- Part 5 of the texts behind this claim. -/
import Derived.Test.YtkbmoekomicjeaaDoorZ4
set_option linter.all false

/- Segments: Word, Text, as the program and the reference do them; the law Words. -/
namespace Go.Eng
open Go.Proofs
set_option linter.unusedSimpArgs false
set_option linter.unusedVariables false
attribute [local irreducible] wpC wpO wp1 EvV EvR wpL
attribute [local go_sem] ty3 ty4 ty22 ty24 ty46 br34 fz62 ty33 ty56 fz89 br52 fz90 ty27 br41 br42 br35 fz84 ty9 fz63 beq_iff_eq beq_eq_false_iff_ne Int.natCast_inj Bool.not_eq_false' op1_go wpK_box wpK_alloc wpK_load wpK_store wpK_binOp wpK_unOp wpK_fieldAddr wpK_field wpK_build wpK_indexAddr wpK_slice wpK_len wpK_extract wpK_nilCheck wpK_pick wpK_makeFunc wpK_call wpK_callT wpK_max wpK_min wpK_assignT wpK_moveT wpK_assignB wpK_moveB wpK_assignI wpK_moveI wpK_assignA wpK_moveA callK_fn snapL_nil snapL_cons snap_int snap_bool snap_str snap_tsl snap_agg snap_fn snap_flat adopt_int adopt_bool adopt_str adopt_agg adopt_osl adopt_tsl adopt_tup op1_guard grdK_bool grdK_undef condK_bool someK_some pairK_some nilK_ptr nilK_tptr boxK storeK evalA_tmp evalA_int evalA_bool evalA_agg evalA_fn evalA_nil ofC_int ofC_bool getA_zero getA_succ cells_int cells_agg cells_bool cells_sl cells_tsl cell_int cell_bool cell_str cell_sl cell_esl cell_tsl cell_ptr cell_tptr cell_fn cell_nils cell_nilf List.all_cons List.all_nil Bool.and_true Bool.and_self Bool.true_and putA_some putA_none List.set_cons_zero List.set_cons_succ List.length_cons List.length_nil List.nil_append List.cons_append stabL AV.stab fieldAddrA fieldA List.getElem?_cons_zero List.getElem?_cons_succ Nat.zero_add loadA rowOf Nat.le_refl and_self true_and and_true partA binA unA intBin eqBin eqCells eqCell Option.bind_some decide_true decide_false decide_eq_true_eq ite_not Bool.not_eq_true' decide_eq_false_iff_not Bool.false_eq_true Option.map_some Option.map_none Bool.not_true Bool.not_false buildA fillA patch List.take List.drop List.map_cons List.map_nil extK List.getD_cons_zero List.getD_cons_succ minmaxA minmaxGo adoptZ_false adoptZ_true freeze_int freeze_bool freeze_str freeze_flat freeze_agg freeze_osl freeze_tsl freeze_tup frz1_bool frz1_int frz1_str frz1_agg frz1_osl frz1_tsl bne Bool.false_and Bool.and_false ne_eq not_true_eq_false not_false_eq_true List.append_nil
set_option maxHeartbeats 4000000

theorem word1 (v : AV) (ss : List Sg) (n : Int) (hv : SLs 2 (ss.map encS) v) (st : Bool) : EvV CX 42 [.int .i64 n, .tptr st [v] 0] (· = .bool (!isS ss n)) := by
  have c1 := hv.cell
  have s1 := hv.snap
  have q := (segM v ss n hv).rw
  refine EvV.walk rfl fn42 rfl nt42 rfl ?_
  simp only [List.length_cons, List.length_nil, List.cons_append, List.nil_append, Nat.reduceAdd, Nat.reduceSub, List.replicate]
  repeat' (first | refine go1 ?_ | refine blockK_else rfl ?_ | (refine wpC_cond fun A B hA hB => ?_; simp only [go_sem, reduceIte, Nat.reduceAdd, Nat.reduceEqDiff, Nat.reduceLT, Nat.reduceLeDiff, *, and_self, c1, s1, q]; first | (refine hA.out ?_; clear hA hB A B) | (refine hB.out ?_; clear hA hB A B) | (refine iteI (fun h => hA.out ?_) (fun h => hB.out ?_) <;> clear hA hB A B) | (refine iteI (fun h => hB.out ?_) (fun h => hA.out ?_) <;> clear hA hB A B)) | (refine wpO_cons fun K hK => ?_; simp only [go_sem, reduceIte, Nat.reduceAdd, Nat.reduceEqDiff, Nat.reduceLT, Nat.reduceLeDiff, *, and_self, c1, s1, q]; first | (refine hK.out _ _ ?_; clear hK K) | (refine iteI (fun h => hK.out _ _ ?_) (fun h => hK.out _ _ ?_) <;> clear hK K)))
  simp only [resultsR, resultsL, resultA, expK_int, expK_bool, expK_str, expK_agg, expK_own, expK_tsl, resK_some, go_sem, reduceIte, Nat.reduceAdd, Nat.reduceEqDiff, Nat.reduceLT, Nat.reduceLeDiff, and_self, ]

/-- The place of the first number that is no segment; -1 if there is none. -/
def badW (ss : List Sg) : List Int → Nat → Int
  | [], _ => -1
  | x :: l, k => if isS ss x = true then badW ss l (k + 1) else (k : Int)
theorem badW_all (ss : List Sg) : ∀ (l : List Int) (k : Nat), decide (0 ≤ badW ss l k) = !l.all (isS ss)
  | [], k => rfl
  | x :: l, k => by
    rw [badW, List.all_cons]
    by_cases h : isS ss x = true
    · rw [if_pos h, badW_all ss l, h, Bool.true_and]
    · rw [if_neg h]; simp [h]

theorem indexWE (v w : AV) (ss : List Sg) (l : List Int) (hv : SLs 2 (ss.map encS) v) (hw : SLs 1 (ints l) w) (hl : l.length < 9223372036854775807) (st : Bool) :
    EvV CX 52 [w, .fn 42 [.tptr st [v] 0]] (· = .int .i64 (badW ss l 0)) := by
  have hs : ∀ S, snap S (.tptr st [v] 0) = some (.tptr st [v] 0) := fun S => by simp only [snap]
  have b1 : CX.byRef 42 = false := br42
  refine EvV.walk rfl fn52 rfl nt52 rfl ?_
  simp only [List.length_cons, List.length_nil, List.cons_append, List.nil_append, Nat.reduceAdd, Nat.reduceSub, List.replicate]
  repeat' (first | refine go1 ?_ | refine blockK_else rfl ?_ | (refine wpC_cond fun A B hA hB => ?_; simp only [go_sem, reduceIte, Nat.reduceAdd, Nat.reduceEqDiff, Nat.reduceLT, Nat.reduceLeDiff, *, and_self, lenK_sls hw]; first | (refine hA.out ?_; clear hA hB A B) | (refine hB.out ?_; clear hA hB A B) | (refine iteI (fun h => hA.out ?_) (fun h => hB.out ?_) <;> clear hA hB A B) | (refine iteI (fun h => hB.out ?_) (fun h => hA.out ?_) <;> clear hA hB A B)) | (refine wpO_cons fun K hK => ?_; simp only [go_sem, reduceIte, Nat.reduceAdd, Nat.reduceEqDiff, Nat.reduceLT, Nat.reduceLeDiff, *, and_self, lenK_sls hw]; first | (refine hK.out _ _ ?_; clear hK K) | (refine iteI (fun h => hK.out _ _ ?_) (fun h => hK.out _ _ ?_) <;> clear hK K)))
  refine wpC_each [4, 5, 9, 10, 11, 12, 13, 14, 15, 16, 17, 18] 8 l (fun pre post => badW ss l 0 = badW ss post pre.length) ?_ ?_ ?_ ?_
  · rfl
  · rfl
  · intro g G h2
    rw [h2]; simp only [garbA_cons, garbA_nil, setL_cons, setL_nil, List.set_cons_zero, List.set_cons_succ]
    repeat' (first | refine go1 ?_ | refine blockK_else rfl ?_ | (refine wpC_cond fun A B hA hB => ?_; simp only [go_sem, reduceIte, Nat.reduceAdd, Nat.reduceEqDiff, Nat.reduceLT, Nat.reduceLeDiff, *, and_self, ints_len, List.length_map, Int.lt_irrefl, List.nil_append]; first | (refine hA.out ?_; clear hA hB A B) | (refine hB.out ?_; clear hA hB A B) | (refine iteI (fun h => hA.out ?_) (fun h => hB.out ?_) <;> clear hA hB A B) | (refine iteI (fun h => hB.out ?_) (fun h => hA.out ?_) <;> clear hA hB A B)) | (refine wpO_cons fun K hK => ?_; simp only [go_sem, reduceIte, Nat.reduceAdd, Nat.reduceEqDiff, Nat.reduceLT, Nat.reduceLeDiff, *, and_self, ints_len, List.length_map, Int.lt_irrefl, List.nil_append]; first | (refine hK.out _ _ ?_; clear hK K) | (refine iteI (fun h => hK.out _ _ ?_) (fun h => hK.out _ _ ?_) <;> clear hK K)))
    simp only [resultsR, resultsL, resultA, expK_int, expK_bool, expK_str, expK_agg, expK_own, expK_tsl, resK_some, go_sem, reduceIte, Nat.reduceAdd, Nat.reduceEqDiff, Nat.reduceLT, Nat.reduceLeDiff, and_self, ]
    rfl
  · intro g G pre x post h1 h2
    rw [h2]; subst h1; simp only [garbA_cons, garbA_nil, setL_cons, setL_nil, List.set_cons_zero, List.set_cons_succ]
    have i1 := idx_sls hw (X := CX) ty33 ty3 rfl (ints_mid pre x post) (k := .i64)
    have w1 := wrap_succ (n := pre.length) (by simp at hl; omega)
    have q := (word1 v ss x hv st).rw
    cases hx : isS ss x with
    | true =>
      rw [hx] at q
      have hh : Hold (isS ss x = true) := ⟨hx⟩
      clear hx
      repeat' (first | refine go1 ?_ | refine blockK_else rfl ?_ | (refine wpC_cond fun A B hA hB => ?_; simp only [go_sem, reduceIte, Nat.reduceAdd, Nat.reduceEqDiff, Nat.reduceLT, Nat.reduceLeDiff, *, and_self, getElem?_len, getElem?_lenAdd, set_len, set_lenAdd, len_mid, ints_len, List.length_map, lt_mid, List.nil_append, i1, w1, hs, q, b1]; first | (refine hA.out ?_; clear hA hB A B) | (refine hB.out ?_; clear hA hB A B) | (refine iteI (fun h => hA.out ?_) (fun h => hB.out ?_) <;> clear hA hB A B) | (refine iteI (fun h => hB.out ?_) (fun h => hA.out ?_) <;> clear hA hB A B)) | (refine wpO_cons fun K hK => ?_; simp only [go_sem, reduceIte, Nat.reduceAdd, Nat.reduceEqDiff, Nat.reduceLT, Nat.reduceLeDiff, *, and_self, getElem?_len, getElem?_lenAdd, set_len, set_lenAdd, len_mid, ints_len, List.length_map, lt_mid, List.nil_append, i1, w1, hs, q, b1]; first | (refine hK.out _ _ ?_; clear hK K) | (refine iteI (fun h => hK.out _ _ ?_) (fun h => hK.out _ _ ?_) <;> clear hK K)))
      refine each_next rfl ?_ ?_ ?_
      · rw [badW, if_pos hh.out, len_snoc]
      · ((try simp only [eraseA_cons, eraseA_nil, setL_cons, setL_nil, List.set_cons_zero, List.set_cons_succ]); all_goals (first | rfl | (simp only [len_snoc, ints_len, List.length_map, ]; done) | (simp only [len_snoc, len_mid, ints_len, List.length_map, List.length_append, List.length_cons, List.length_nil, Nat.zero_add, ]; done) | (simp only [len_mid, len_snoc, ints_len, List.length_map, List.length_append, List.length_cons, List.length_nil, Nat.zero_add, ]; rfl)))
      · first | exact ⟨[], (List.append_nil _).symm⟩ | exact ⟨_, rfl⟩ | (simp only [List.append_assoc, List.cons_append, List.nil_append]; exact ⟨_, rfl⟩)
    | false =>
      rw [hx] at q
      have hh : Hold (¬ isS ss x = true) := ⟨by simp [hx]⟩
      clear hx
      repeat' (first | refine go1 ?_ | refine blockK_else rfl ?_ | (refine wpC_cond fun A B hA hB => ?_; simp only [go_sem, reduceIte, Nat.reduceAdd, Nat.reduceEqDiff, Nat.reduceLT, Nat.reduceLeDiff, *, and_self, getElem?_len, getElem?_lenAdd, set_len, set_lenAdd, len_mid, ints_len, List.length_map, lt_mid, List.nil_append, i1, w1, hs, q, b1]; first | (refine hA.out ?_; clear hA hB A B) | (refine hB.out ?_; clear hA hB A B) | (refine iteI (fun h => hA.out ?_) (fun h => hB.out ?_) <;> clear hA hB A B) | (refine iteI (fun h => hB.out ?_) (fun h => hA.out ?_) <;> clear hA hB A B)) | (refine wpO_cons fun K hK => ?_; simp only [go_sem, reduceIte, Nat.reduceAdd, Nat.reduceEqDiff, Nat.reduceLT, Nat.reduceLeDiff, *, and_self, getElem?_len, getElem?_lenAdd, set_len, set_lenAdd, len_mid, ints_len, List.length_map, lt_mid, List.nil_append, i1, w1, hs, q, b1]; first | (refine hK.out _ _ ?_; clear hK K) | (refine iteI (fun h => hK.out _ _ ?_) (fun h => hK.out _ _ ?_) <;> clear hK K)))
      simp only [resultsR, resultsL, resultA, expK_int, expK_bool, expK_str, expK_agg, expK_own, expK_tsl, resK_some, go_sem, reduceIte, Nat.reduceAdd, Nat.reduceEqDiff, Nat.reduceLT, Nat.reduceLeDiff, and_self, ]
      rw [badW, if_neg hh.out]
theorem containsWE (v w : AV) (ss : List Sg) (l : List Int) (hv : SLs 2 (ss.map encS) v) (hw : SLs 1 (ints l) w) (hl : l.length < 9223372036854775807) (st : Bool) :
    EvV CX 41 [w, .fn 42 [.tptr st [v] 0]] (· = .bool (!l.all (isS ss))) := by
  have q := (indexWE v w ss l hv hw hl st).rw
  have s1 := hw.snap
  have hs : ∀ S, snap S (.tptr st [v] 0) = some (.tptr st [v] 0) := fun S => by simp only [snap]
  have e := badW_all ss l 0
  refine EvV.walk rfl fn41 rfl nt41 rfl ?_
  simp only [List.length_cons, List.length_nil, List.cons_append, List.nil_append, Nat.reduceAdd, Nat.reduceSub, List.replicate]
  repeat' (first | refine go1 ?_ | refine blockK_else rfl ?_ | (refine wpC_cond fun A B hA hB => ?_; simp only [go_sem, reduceIte, Nat.reduceAdd, Nat.reduceEqDiff, Nat.reduceLT, Nat.reduceLeDiff, *, and_self, s1, hs, q, e, snap_fn]; first | (refine hA.out ?_; clear hA hB A B) | (refine hB.out ?_; clear hA hB A B) | (refine iteI (fun h => hA.out ?_) (fun h => hB.out ?_) <;> clear hA hB A B) | (refine iteI (fun h => hB.out ?_) (fun h => hA.out ?_) <;> clear hA hB A B)) | (refine wpO_cons fun K hK => ?_; simp only [go_sem, reduceIte, Nat.reduceAdd, Nat.reduceEqDiff, Nat.reduceLT, Nat.reduceLeDiff, *, and_self, s1, hs, q, e, snap_fn]; first | (refine hK.out _ _ ?_; clear hK K) | (refine iteI (fun h => hK.out _ _ ?_) (fun h => hK.out _ _ ?_) <;> clear hK K)))
  simp only [resultsR, resultsL, resultA, expK_int, expK_bool, expK_str, expK_agg, expK_own, expK_tsl, resK_some, go_sem, reduceIte, Nat.reduceAdd, Nat.reduceEqDiff, Nat.reduceLT, Nat.reduceLeDiff, and_self, e]

/-- What is wrong with a word. -/
def wordF (ss : List Sg) (l : List Int) : Int := if l.length = 0 then 4 else if 24 < l.length then 5 else if l.all (isS ss) = true then 0 else 19

theorem wordM (v w : AV) (ss : List Sg) (l : List Int) (hv : SLs 2 (ss.map encS) v) (hvs : v.stab = true) (hw : SLs 1 (ints l) w) (hl : l.length < 9223372036854775807) : EvV CX 25 [.agg [v], w] (· = .int .i64 (wordF ss l)) := by
  have c1 := hv.cell
  have s1 := hv.snap
  have s2 := hw.snap
  by_cases k0 : l.length = 0
  · have z : ((l.length : Int) == 0) = true := by rw [k0]; rfl
    have e : wordF ss l = 4 := by rw [wordF, if_pos k0]
    rw [e]
    clear e k0
    refine EvV.walk rfl fn25 rfl nt25 rfl ?_
    simp only [List.length_cons, List.length_nil, List.cons_append, List.nil_append, Nat.reduceAdd, Nat.reduceSub, List.replicate]
    repeat' (first | refine go1 ?_ | refine blockK_else rfl ?_ | (refine wpC_cond fun A B hA hB => ?_; simp only [go_sem, reduceIte, Nat.reduceAdd, Nat.reduceEqDiff, Nat.reduceLT, Nat.reduceLeDiff, *, and_self, lenK_sls hw, ints_len, c1]; first | (refine hA.out ?_; clear hA hB A B) | (refine hB.out ?_; clear hA hB A B) | (refine iteI (fun h => hA.out ?_) (fun h => hB.out ?_) <;> clear hA hB A B) | (refine iteI (fun h => hB.out ?_) (fun h => hA.out ?_) <;> clear hA hB A B)) | (refine wpO_cons fun K hK => ?_; simp only [go_sem, reduceIte, Nat.reduceAdd, Nat.reduceEqDiff, Nat.reduceLT, Nat.reduceLeDiff, *, and_self, lenK_sls hw, ints_len, c1]; first | (refine hK.out _ _ ?_; clear hK K) | (refine iteI (fun h => hK.out _ _ ?_) (fun h => hK.out _ _ ?_) <;> clear hK K)))
    simp only [resultsR, resultsL, resultA, expK_int, expK_bool, expK_str, expK_agg, expK_own, expK_tsl, resK_some, go_sem, reduceIte, Nat.reduceAdd, Nat.reduceEqDiff, Nat.reduceLT, Nat.reduceLeDiff, and_self, ]
  have z : ((l.length : Int) == 0) = false := beq_false_of_ne (by omega)
  by_cases k1 : 24 < l.length
  · have z1 : (24 : Int) < (l.length : Int) := by omega
    have e : wordF ss l = 5 := by rw [wordF, if_neg k0, if_pos k1]
    rw [e]
    clear e k0 k1
    refine EvV.walk rfl fn25 rfl nt25 rfl ?_
    simp only [List.length_cons, List.length_nil, List.cons_append, List.nil_append, Nat.reduceAdd, Nat.reduceSub, List.replicate]
    repeat' (first | refine go1 ?_ | refine blockK_else rfl ?_ | (refine wpC_cond fun A B hA hB => ?_; simp only [go_sem, reduceIte, Nat.reduceAdd, Nat.reduceEqDiff, Nat.reduceLT, Nat.reduceLeDiff, *, and_self, lenK_sls hw, ints_len, c1]; first | (refine hA.out ?_; clear hA hB A B) | (refine hB.out ?_; clear hA hB A B) | (refine iteI (fun h => hA.out ?_) (fun h => hB.out ?_) <;> clear hA hB A B) | (refine iteI (fun h => hB.out ?_) (fun h => hA.out ?_) <;> clear hA hB A B)) | (refine wpO_cons fun K hK => ?_; simp only [go_sem, reduceIte, Nat.reduceAdd, Nat.reduceEqDiff, Nat.reduceLT, Nat.reduceLeDiff, *, and_self, lenK_sls hw, ints_len, c1]; first | (refine hK.out _ _ ?_; clear hK K) | (refine iteI (fun h => hK.out _ _ ?_) (fun h => hK.out _ _ ?_) <;> clear hK K)))
    simp only [resultsR, resultsL, resultA, expK_int, expK_bool, expK_str, expK_agg, expK_own, expK_tsl, resK_some, go_sem, reduceIte, Nat.reduceAdd, Nat.reduceEqDiff, Nat.reduceLT, Nat.reduceLeDiff, and_self, ]
  have z1 : ¬ (24 : Int) < (l.length : Int) := by omega
  have q := fun st => (containsWE v w ss l hv hw hl st).rw
  have hs : ∀ (C : Store), snap (.arr [[v]] 1 0 true :: C) (.ptr 0 1 1 0 0) = some (.tptr false [v] 0) := fun C => by
    simp [snap, rowOf, cleanL, hv.clean]
  cases k2 : l.all (isS ss) with
  | true =>
    have e : wordF ss l = 0 := by rw [wordF, if_neg k0, if_neg k1, k2]; rfl
    rw [k2] at q
    rw [e]
    clear e k0 k1 k2
    refine EvV.walk rfl fn25 rfl nt25 rfl ?_
    simp only [List.length_cons, List.length_nil, List.cons_append, List.nil_append, Nat.reduceAdd, Nat.reduceSub, List.replicate]
    repeat' (first | refine go1 ?_ | refine blockK_else rfl ?_ | (refine wpC_cond fun A B hA hB => ?_; simp only [go_sem, reduceIte, Nat.reduceAdd, Nat.reduceEqDiff, Nat.reduceLT, Nat.reduceLeDiff, *, and_self, lenK_sls hw, ints_len, c1, s1, s2, hs, q]; first | (refine hA.out ?_; clear hA hB A B) | (refine hB.out ?_; clear hA hB A B) | (refine iteI (fun h => hA.out ?_) (fun h => hB.out ?_) <;> clear hA hB A B) | (refine iteI (fun h => hB.out ?_) (fun h => hA.out ?_) <;> clear hA hB A B)) | (refine wpO_cons fun K hK => ?_; simp only [go_sem, reduceIte, Nat.reduceAdd, Nat.reduceEqDiff, Nat.reduceLT, Nat.reduceLeDiff, *, and_self, lenK_sls hw, ints_len, c1, s1, s2, hs, q]; first | (refine hK.out _ _ ?_; clear hK K) | (refine iteI (fun h => hK.out _ _ ?_) (fun h => hK.out _ _ ?_) <;> clear hK K)))
    simp only [resultsR, resultsL, resultA, expK_int, expK_bool, expK_str, expK_agg, expK_own, expK_tsl, resK_some, go_sem, reduceIte, Nat.reduceAdd, Nat.reduceEqDiff, Nat.reduceLT, Nat.reduceLeDiff, and_self, ]
  | false =>
    have e : wordF ss l = 19 := by rw [wordF, if_neg k0, if_neg k1, k2]; rfl
    rw [k2] at q
    rw [e]
    clear e k0 k1 k2
    refine EvV.walk rfl fn25 rfl nt25 rfl ?_
    simp only [List.length_cons, List.length_nil, List.cons_append, List.nil_append, Nat.reduceAdd, Nat.reduceSub, List.replicate]
    repeat' (first | refine go1 ?_ | refine blockK_else rfl ?_ | (refine wpC_cond fun A B hA hB => ?_; simp only [go_sem, reduceIte, Nat.reduceAdd, Nat.reduceEqDiff, Nat.reduceLT, Nat.reduceLeDiff, *, and_self, lenK_sls hw, ints_len, c1, s1, s2, hs, q]; first | (refine hA.out ?_; clear hA hB A B) | (refine hB.out ?_; clear hA hB A B) | (refine iteI (fun h => hA.out ?_) (fun h => hB.out ?_) <;> clear hA hB A B) | (refine iteI (fun h => hB.out ?_) (fun h => hA.out ?_) <;> clear hA hB A B)) | (refine wpO_cons fun K hK => ?_; simp only [go_sem, reduceIte, Nat.reduceAdd, Nat.reduceEqDiff, Nat.reduceLT, Nat.reduceLeDiff, *, and_self, lenK_sls hw, ints_len, c1, s1, s2, hs, q]; first | (refine hK.out _ _ ?_; clear hK K) | (refine iteI (fun h => hK.out _ _ ?_) (fun h => hK.out _ _ ?_) <;> clear hK K)))
    simp only [resultsR, resultsL, resultA, expK_int, expK_bool, expK_str, expK_agg, expK_own, expK_tsl, resK_some, go_sem, reduceIte, Nat.reduceAdd, Nat.reduceEqDiff, Nat.reduceLT, Nat.reduceLeDiff, and_self, ]

theorem wordR (v w : AV) (ss : List Sg) (l : List Int) (hv : SLs 2 (ss.map encS) v) (hw : SLs 1 (ints l) w) (hl : l.length < 9223372036854775807) : EvV CX 26 [.agg [v], w] (· = .int .i64 (wordF ss l)) := by
  have c1 := hv.cell
  have s1 := hv.snap
  by_cases k0 : l.length = 0
  · have z : ((l.length : Int) == 0) = true := by rw [k0]; rfl
    have e : wordF ss l = 4 := by rw [wordF, if_pos k0]
    rw [e]
    clear e k0
    refine EvV.walk rfl fn26 rfl nt26 rfl ?_
    simp only [List.length_cons, List.length_nil, List.cons_append, List.nil_append, Nat.reduceAdd, Nat.reduceSub, List.replicate]
    repeat' (first | refine go1 ?_ | refine blockK_else rfl ?_ | (refine wpC_cond fun A B hA hB => ?_; simp only [go_sem, reduceIte, Nat.reduceAdd, Nat.reduceEqDiff, Nat.reduceLT, Nat.reduceLeDiff, *, and_self, lenK_sls hw, ints_len, c1]; first | (refine hA.out ?_; clear hA hB A B) | (refine hB.out ?_; clear hA hB A B) | (refine iteI (fun h => hA.out ?_) (fun h => hB.out ?_) <;> clear hA hB A B) | (refine iteI (fun h => hB.out ?_) (fun h => hA.out ?_) <;> clear hA hB A B)) | (refine wpO_cons fun K hK => ?_; simp only [go_sem, reduceIte, Nat.reduceAdd, Nat.reduceEqDiff, Nat.reduceLT, Nat.reduceLeDiff, *, and_self, lenK_sls hw, ints_len, c1]; first | (refine hK.out _ _ ?_; clear hK K) | (refine iteI (fun h => hK.out _ _ ?_) (fun h => hK.out _ _ ?_) <;> clear hK K)))
    simp only [resultsR, resultsL, resultA, expK_int, expK_bool, expK_str, expK_agg, expK_own, expK_tsl, resK_some, go_sem, reduceIte, Nat.reduceAdd, Nat.reduceEqDiff, Nat.reduceLT, Nat.reduceLeDiff, and_self, ]
  have z : ((l.length : Int) == 0) = false := beq_false_of_ne (by omega)
  by_cases k1 : 24 < l.length
  · have z1 : (24 : Int) < (l.length : Int) := by omega
    have e : wordF ss l = 5 := by rw [wordF, if_neg k0, if_pos k1]
    rw [e]
    clear e k0 k1
    refine EvV.walk rfl fn26 rfl nt26 rfl ?_
    simp only [List.length_cons, List.length_nil, List.cons_append, List.nil_append, Nat.reduceAdd, Nat.reduceSub, List.replicate]
    repeat' (first | refine go1 ?_ | refine blockK_else rfl ?_ | (refine wpC_cond fun A B hA hB => ?_; simp only [go_sem, reduceIte, Nat.reduceAdd, Nat.reduceEqDiff, Nat.reduceLT, Nat.reduceLeDiff, *, and_self, lenK_sls hw, ints_len, c1]; first | (refine hA.out ?_; clear hA hB A B) | (refine hB.out ?_; clear hA hB A B) | (refine iteI (fun h => hA.out ?_) (fun h => hB.out ?_) <;> clear hA hB A B) | (refine iteI (fun h => hB.out ?_) (fun h => hA.out ?_) <;> clear hA hB A B)) | (refine wpO_cons fun K hK => ?_; simp only [go_sem, reduceIte, Nat.reduceAdd, Nat.reduceEqDiff, Nat.reduceLT, Nat.reduceLeDiff, *, and_self, lenK_sls hw, ints_len, c1]; first | (refine hK.out _ _ ?_; clear hK K) | (refine iteI (fun h => hK.out _ _ ?_) (fun h => hK.out _ _ ?_) <;> clear hK K)))
    simp only [resultsR, resultsL, resultA, expK_int, expK_bool, expK_str, expK_agg, expK_own, expK_tsl, resK_some, go_sem, reduceIte, Nat.reduceAdd, Nat.reduceEqDiff, Nat.reduceLT, Nat.reduceLeDiff, and_self, ]
  have z1 : ¬ (24 : Int) < (l.length : Int) := by omega
  have e : wordF ss l = if l.all (isS ss) = true then 0 else 19 := by rw [wordF, if_neg k0, if_neg k1]
  rw [e]
  clear e k0 k1
  refine EvV.walk rfl fn26 rfl nt26 rfl ?_
  simp only [List.length_cons, List.length_nil, List.cons_append, List.nil_append, Nat.reduceAdd, Nat.reduceSub, List.replicate]
  repeat' (first | refine go1 ?_ | refine blockK_else rfl ?_ | (refine wpC_cond fun A B hA hB => ?_; simp only [go_sem, reduceIte, Nat.reduceAdd, Nat.reduceEqDiff, Nat.reduceLT, Nat.reduceLeDiff, *, and_self, lenK_sls hw, ints_len, c1]; first | (refine hA.out ?_; clear hA hB A B) | (refine hB.out ?_; clear hA hB A B) | (refine iteI (fun h => hA.out ?_) (fun h => hB.out ?_) <;> clear hA hB A B) | (refine iteI (fun h => hB.out ?_) (fun h => hA.out ?_) <;> clear hA hB A B)) | (refine wpO_cons fun K hK => ?_; simp only [go_sem, reduceIte, Nat.reduceAdd, Nat.reduceEqDiff, Nat.reduceLT, Nat.reduceLeDiff, *, and_self, lenK_sls hw, ints_len, c1]; first | (refine hK.out _ _ ?_; clear hK K) | (refine iteI (fun h => hK.out _ _ ?_) (fun h => hK.out _ _ ?_) <;> clear hK K)))
  refine wpC_each [4, 5, 15, 16, 17, 18, 19, 20, 21, 22, 23, 24] 14 l (fun pre post => l.all (isS ss) = post.all (isS ss)) ?_ ?_ ?_ ?_
  · rfl
  · ((try simp only [eraseA_cons, eraseA_nil, setL_cons, setL_nil, List.set_cons_zero, List.set_cons_succ]); all_goals (first | rfl | (simp only [len_snoc, ints_len, List.length_map, ]; done) | (simp only [len_snoc, len_mid, ints_len, List.length_map, List.length_append, List.length_cons, List.length_nil, Nat.zero_add, ]; done) | (simp only [len_mid, len_snoc, ints_len, List.length_map, List.length_append, List.length_cons, List.length_nil, Nat.zero_add, ]; rfl)))
  · intro g G h2
    rw [h2]; simp only [garbA_cons, garbA_nil, setL_cons, setL_nil, List.set_cons_zero, List.set_cons_succ]
    repeat' (first | refine go1 ?_ | refine blockK_else rfl ?_ | (refine wpC_cond fun A B hA hB => ?_; simp only [go_sem, reduceIte, Nat.reduceAdd, Nat.reduceEqDiff, Nat.reduceLT, Nat.reduceLeDiff, *, and_self, ints_len, List.length_map, Int.lt_irrefl, List.nil_append]; first | (refine hA.out ?_; clear hA hB A B) | (refine hB.out ?_; clear hA hB A B) | (refine iteI (fun h => hA.out ?_) (fun h => hB.out ?_) <;> clear hA hB A B) | (refine iteI (fun h => hB.out ?_) (fun h => hA.out ?_) <;> clear hA hB A B)) | (refine wpO_cons fun K hK => ?_; simp only [go_sem, reduceIte, Nat.reduceAdd, Nat.reduceEqDiff, Nat.reduceLT, Nat.reduceLeDiff, *, and_self, ints_len, List.length_map, Int.lt_irrefl, List.nil_append]; first | (refine hK.out _ _ ?_; clear hK K) | (refine iteI (fun h => hK.out _ _ ?_) (fun h => hK.out _ _ ?_) <;> clear hK K)))
    simp only [resultsR, resultsL, resultA, expK_int, expK_bool, expK_str, expK_agg, expK_own, expK_tsl, resK_some, go_sem, reduceIte, Nat.reduceAdd, Nat.reduceEqDiff, Nat.reduceLT, Nat.reduceLeDiff, and_self, ]
  · intro g G pre x post h1 h2
    have i1 := idx_sls hw (X := CX) ty33 ty3 rfl (by rw [h1]; exact ints_mid pre x post) (k := .i64)
    have w1 := wrap_succ (n := pre.length) (by have := congrArg List.length h1; simp at this; omega)
    have lt1 : (pre.length : Int) < (l.length : Int) := by rw [h1]; simp; omega
    have q := (isR v ss x hv).rw
    have hh1 : Hold (l = pre ++ x :: post) := ⟨h1⟩
    rw [h2, List.all_cons]
    have hh2 : Hold (l.all (isS ss) = (x :: post).all (isS ss)) := ⟨h2⟩
    clear h1 h2
    simp only [garbA_cons, garbA_nil, setL_cons, setL_nil, List.set_cons_zero, List.set_cons_succ]
    cases hx : isS ss x with
    | true =>
      have hh3 : Hold (l.all (isS ss) = post.all (isS ss)) := ⟨by rw [hh2.out, List.all_cons, hx, Bool.true_and]⟩
      rw [hx] at q
      rw [Bool.true_and, ← hh3.out]
      clear hx
      repeat' (first | refine go1 ?_ | refine blockK_else rfl ?_ | (refine wpC_cond fun A B hA hB => ?_; simp only [go_sem, reduceIte, Nat.reduceAdd, Nat.reduceEqDiff, Nat.reduceLT, Nat.reduceLeDiff, *, and_self, getElem?_len, getElem?_lenAdd, set_len, set_lenAdd, len_mid, ints_len, List.length_map, lt_mid, List.nil_append, c1, s1, i1, w1, q]; first | (refine hA.out ?_; clear hA hB A B) | (refine hB.out ?_; clear hA hB A B) | (refine iteI (fun h => hA.out ?_) (fun h => hB.out ?_) <;> clear hA hB A B) | (refine iteI (fun h => hB.out ?_) (fun h => hA.out ?_) <;> clear hA hB A B)) | (refine wpO_cons fun K hK => ?_; simp only [go_sem, reduceIte, Nat.reduceAdd, Nat.reduceEqDiff, Nat.reduceLT, Nat.reduceLeDiff, *, and_self, getElem?_len, getElem?_lenAdd, set_len, set_lenAdd, len_mid, ints_len, List.length_map, lt_mid, List.nil_append, c1, s1, i1, w1, q]; first | (refine hK.out _ _ ?_; clear hK K) | (refine iteI (fun h => hK.out _ _ ?_) (fun h => hK.out _ _ ?_) <;> clear hK K)))
      refine each_next hh1.out hh3.out ?_ ?_
      · ((try simp only [eraseA_cons, eraseA_nil, setL_cons, setL_nil, List.set_cons_zero, List.set_cons_succ]); all_goals (first | rfl | (simp only [len_snoc, ints_len, List.length_map, ]; done) | (simp only [len_snoc, len_mid, ints_len, List.length_map, List.length_append, List.length_cons, List.length_nil, Nat.zero_add, ]; done) | (simp only [len_mid, len_snoc, ints_len, List.length_map, List.length_append, List.length_cons, List.length_nil, Nat.zero_add, ]; rfl)))
      · first | exact ⟨[], (List.append_nil _).symm⟩ | exact ⟨_, rfl⟩ | (simp only [List.append_assoc, List.cons_append, List.nil_append]; exact ⟨_, rfl⟩)
    | false =>
      rw [hx] at q
      rw [Bool.false_and, if_neg (by simp)]
      clear hx
      repeat' (first | refine go1 ?_ | refine blockK_else rfl ?_ | (refine wpC_cond fun A B hA hB => ?_; simp only [go_sem, reduceIte, Nat.reduceAdd, Nat.reduceEqDiff, Nat.reduceLT, Nat.reduceLeDiff, *, and_self, getElem?_len, getElem?_lenAdd, set_len, set_lenAdd, len_mid, ints_len, List.length_map, lt_mid, List.nil_append, c1, s1, i1, w1, q]; first | (refine hA.out ?_; clear hA hB A B) | (refine hB.out ?_; clear hA hB A B) | (refine iteI (fun h => hA.out ?_) (fun h => hB.out ?_) <;> clear hA hB A B) | (refine iteI (fun h => hB.out ?_) (fun h => hA.out ?_) <;> clear hA hB A B)) | (refine wpO_cons fun K hK => ?_; simp only [go_sem, reduceIte, Nat.reduceAdd, Nat.reduceEqDiff, Nat.reduceLT, Nat.reduceLeDiff, *, and_self, getElem?_len, getElem?_lenAdd, set_len, set_lenAdd, len_mid, ints_len, List.length_map, lt_mid, List.nil_append, c1, s1, i1, w1, q]; first | (refine hK.out _ _ ?_; clear hK K) | (refine iteI (fun h => hK.out _ _ ?_) (fun h => hK.out _ _ ?_) <;> clear hK K)))
      simp only [resultsR, resultsL, resultA, expK_int, expK_bool, expK_str, expK_agg, expK_own, expK_tsl, resK_some, go_sem, reduceIte, Nat.reduceAdd, Nat.reduceEqDiff, Nat.reduceLT, Nat.reduceLeDiff, and_self, ]

/-- The name of a segment; nothing for another number. -/
def nmS (ss : List Sg) (n : Int) : ByteArray := if isS ss n = true then ((ss[(n - 1).toNat]?).map Sg.name).getD .empty else .empty
def txt (ss : List Sg) : List Int → ByteArray := fun l => l.foldl (fun s n => if isS ss n = true then s ++ nmS ss n else s) .empty
theorem txt_snoc (ss : List Sg) (l : List Int) (x : Int) : txt ss (l ++ [x]) = if isS ss x = true then txt ss l ++ nmS ss x else txt ss l := by simp [txt, List.foldl_append]
theorem nmS_at {ss : List Sg} {n : Int} (h : isS ss n = true) : ∃ (k : Nat) (x : Sg), n = (k : Int) + 1 ∧ k < ss.length ∧ ss[k]? = some x ∧ nmS ss n = x.name := by
  obtain ⟨k, x, h1, h2, h3, _⟩ := isS_at h
  refine ⟨k, x, h1, h2, h3, ?_⟩
  have : (n - 1).toNat = k := by omega
  rw [nmS, if_pos h, this, h3]; rfl
theorem txt_size {ss : List Sg} {B : Nat} (hB : ∀ x ∈ ss, x.name.size ≤ B) : ∀ (r l : List Int), l = r.reverse → (txt ss l).size ≤ l.length * B
  | [], l, h => by subst h; simp [txt]
  | x :: r, l, h => by
    subst h
    have ih := txt_size hB r r.reverse rfl
    rw [List.reverse_cons, txt_snoc, List.length_append, List.length_singleton, Nat.succ_mul]
    by_cases k : isS ss x = true
    · rw [if_pos k]
      obtain ⟨_, y, _, _, h3, h4⟩ := nmS_at k
      have := hB y (List.mem_of_getElem? h3)
      rw [ByteArray.size_append, h4]
      omega
    · rw [if_neg k]; omega

theorem strAdd {a b : ByteArray} (h : a.size + b.size ≤ 9223372036854775807) : strBin .add a b = some (.str (a ++ b)) := by
  rw [strBin, if_neg (by omega)]

theorem textM (v w : AV) (ss : List Sg) (l : List Int) (hv : SLs 2 (ss.map encS) v) (hw : SLs 1 (ints l) w) (hl : l.length ≤ 1000000) (hsl : ss.length ≤ 1000000) (hn : ∀ x ∈ ss, x.name.size ≤ 1000000) : EvV CX 27 [.agg [v], w] (· = .str (txt ss l)) := by
  have c1 := hv.cell
  have s1 := hv.snap
  refine EvV.walk rfl fn27 rfl nt27 rfl ?_
  simp only [List.length_cons, List.length_nil, List.cons_append, List.nil_append, Nat.reduceAdd, Nat.reduceSub, List.replicate]
  repeat' (first | refine go1 ?_ | refine blockK_else rfl ?_ | (refine wpC_cond fun A B hA hB => ?_; simp only [go_sem, reduceIte, Nat.reduceAdd, Nat.reduceEqDiff, Nat.reduceLT, Nat.reduceLeDiff, *, and_self, lenK_sls hw, ints_len, c1, evalA_str, wpK_assignS]; first | (refine hA.out ?_; clear hA hB A B) | (refine hB.out ?_; clear hA hB A B) | (refine iteI (fun h => hA.out ?_) (fun h => hB.out ?_) <;> clear hA hB A B) | (refine iteI (fun h => hB.out ?_) (fun h => hA.out ?_) <;> clear hA hB A B)) | (refine wpO_cons fun K hK => ?_; simp only [go_sem, reduceIte, Nat.reduceAdd, Nat.reduceEqDiff, Nat.reduceLT, Nat.reduceLeDiff, *, and_self, lenK_sls hw, ints_len, c1, evalA_str, wpK_assignS]; first | (refine hK.out _ _ ?_; clear hK K) | (refine iteI (fun h => hK.out _ _ ?_) (fun h => hK.out _ _ ?_) <;> clear hK K)))
  refine wpC_eachE [7, 11, 12, 13, 14, 15, 16, 17, 18, 19, 20, 21, 22, 23, 24, 25, 26] 10 (fun pre => [(5, .str (txt ss pre))]) l (fun _ _ => True) ?_ ?_ ?_ ?_
  · trivial
  · ((try simp only [eraseA_cons, eraseA_nil, setL_cons, setL_nil, List.set_cons_zero, List.set_cons_succ]); all_goals (first | rfl | (simp only [len_snoc, ints_len, List.length_map, ]; done) | (simp only [len_snoc, len_mid, ints_len, List.length_map, List.length_append, List.length_cons, List.length_nil, Nat.zero_add, ]; done) | (simp only [len_mid, len_snoc, ints_len, List.length_map, List.length_append, List.length_cons, List.length_nil, Nat.zero_add, ]; rfl)))
  · intro g G _
    simp only [garbA_cons, garbA_nil, setL_cons, setL_nil, List.set_cons_zero, List.set_cons_succ]
    repeat' (first | refine go1 ?_ | refine blockK_else rfl ?_ | (refine wpC_cond fun A B hA hB => ?_; simp only [go_sem, reduceIte, Nat.reduceAdd, Nat.reduceEqDiff, Nat.reduceLT, Nat.reduceLeDiff, *, and_self, wpK_assignS, wpK_moveS, evalA_str, ints_len, List.length_map, Int.lt_irrefl, List.nil_append]; first | (refine hA.out ?_; clear hA hB A B) | (refine hB.out ?_; clear hA hB A B) | (refine iteI (fun h => hA.out ?_) (fun h => hB.out ?_) <;> clear hA hB A B) | (refine iteI (fun h => hB.out ?_) (fun h => hA.out ?_) <;> clear hA hB A B)) | (refine wpO_cons fun K hK => ?_; simp only [go_sem, reduceIte, Nat.reduceAdd, Nat.reduceEqDiff, Nat.reduceLT, Nat.reduceLeDiff, *, and_self, wpK_assignS, wpK_moveS, evalA_str, ints_len, List.length_map, Int.lt_irrefl, List.nil_append]; first | (refine hK.out _ _ ?_; clear hK K) | (refine iteI (fun h => hK.out _ _ ?_) (fun h => hK.out _ _ ?_) <;> clear hK K)))
    simp only [resultsR, resultsL, resultA, expK_int, expK_bool, expK_str, expK_agg, expK_own, expK_tsl, resK_some, go_sem, reduceIte, Nat.reduceAdd, Nat.reduceEqDiff, Nat.reduceLT, Nat.reduceLeDiff, and_self, ]
  · intro g G pre x post h1 _
    have i1 := idx_sls hw (X := CX) ty33 ty3 rfl (by rw [h1]; exact ints_mid pre x post) (k := .i64)
    have hpl : pre.length + 1 ≤ l.length := by rw [h1]; simp
    have w1 := wrap_succ (n := pre.length) (by omega)
    have lt1 : (pre.length : Int) < (l.length : Int) := by omega
    have q := (segM v ss x hv).rw
    have hsz := txt_size hn pre.reverse pre (by simp)
    have hsn := txt_snoc ss pre x
    have hh1 : Hold (l = pre ++ x :: post) := ⟨h1⟩
    generalize txt ss pre = T at *
    clear h1
    cases hx : isS ss x with
    | true =>
      obtain ⟨j, y, k1, k2, k3, k4⟩ := nmS_at hx
      have w2 : IntKind.wrap .i64 (x - 1) = (j : Int) := by rw [wrap_small (by omega) (by omega)]; omega
      have i2 := idx_sls hv (X := CX) ty22 ty46 rfl (n := j) (row := encS y) (by rw [List.getElem?_map, k3]; rfl) (k := .i64)
      have hy := hn y (List.mem_of_getElem? k3)
      have ha := strAdd (a := T) (b := y.name) (by have := Nat.mul_le_mul_right 1000000 (show pre.length ≤ 1000000 by omega); omega)
      rw [if_pos hx, k4] at hsn
      rw [hx] at q
      have hh2 : Hold (txt ss (pre ++ [x]) = T ++ y.name) := ⟨hsn⟩
      clear hx k1 k2 k3 k4 hsn hsz hy
      simp only [garbA_cons, garbA_nil, setL_cons, setL_nil, List.set_cons_zero, List.set_cons_succ]
      repeat' (first | refine go1 ?_ | refine blockK_else rfl ?_ | (refine wpC_cond fun A B hA hB => ?_; simp only [go_sem, reduceIte, Nat.reduceAdd, Nat.reduceEqDiff, Nat.reduceLT, Nat.reduceLeDiff, *, and_self, wpK_assignS, wpK_moveS, evalA_str, c1, s1, encS, i1, i2, w1, w2, q, ha]; first | (refine hA.out ?_; clear hA hB A B) | (refine hB.out ?_; clear hA hB A B) | (refine iteI (fun h => hA.out ?_) (fun h => hB.out ?_) <;> clear hA hB A B) | (refine iteI (fun h => hB.out ?_) (fun h => hA.out ?_) <;> clear hA hB A B)) | (refine wpO_cons fun K hK => ?_; simp only [go_sem, reduceIte, Nat.reduceAdd, Nat.reduceEqDiff, Nat.reduceLT, Nat.reduceLeDiff, *, and_self, wpK_assignS, wpK_moveS, evalA_str, c1, s1, encS, i1, i2, w1, w2, q, ha]; first | (refine hK.out _ _ ?_; clear hK K) | (refine iteI (fun h => hK.out _ _ ?_) (fun h => hK.out _ _ ?_) <;> clear hK K)))
      refine each_next hh1.out trivial ?_ ?_
      · ((try simp only [eraseA_cons, eraseA_nil, setL_cons, setL_nil, List.set_cons_zero, List.set_cons_succ]); all_goals (first | rfl | (simp only [len_snoc, ints_len, List.length_map, hh2.out]; done) | (simp only [len_snoc, len_mid, ints_len, List.length_map, List.length_append, List.length_cons, List.length_nil, Nat.zero_add, hh2.out]; done) | (simp only [len_mid, len_snoc, ints_len, List.length_map, List.length_append, List.length_cons, List.length_nil, Nat.zero_add, hh2.out]; rfl)))
      · first | exact ⟨[], (List.append_nil _).symm⟩ | exact ⟨_, rfl⟩ | (simp only [List.append_assoc, List.cons_append, List.nil_append]; exact ⟨_, rfl⟩)
    | false =>
      rw [if_neg (by simp [hx])] at hsn
      rw [hx] at q
      have hh2 : Hold (txt ss (pre ++ [x]) = T) := ⟨hsn⟩
      clear hx hsn hsz
      simp only [garbA_cons, garbA_nil, setL_cons, setL_nil, List.set_cons_zero, List.set_cons_succ]
      repeat' (first | refine go1 ?_ | refine blockK_else rfl ?_ | (refine wpC_cond fun A B hA hB => ?_; simp only [go_sem, reduceIte, Nat.reduceAdd, Nat.reduceEqDiff, Nat.reduceLT, Nat.reduceLeDiff, *, and_self, wpK_assignS, wpK_moveS, evalA_str, c1, s1, i1, w1, q]; first | (refine hA.out ?_; clear hA hB A B) | (refine hB.out ?_; clear hA hB A B) | (refine iteI (fun h => hA.out ?_) (fun h => hB.out ?_) <;> clear hA hB A B) | (refine iteI (fun h => hB.out ?_) (fun h => hA.out ?_) <;> clear hA hB A B)) | (refine wpO_cons fun K hK => ?_; simp only [go_sem, reduceIte, Nat.reduceAdd, Nat.reduceEqDiff, Nat.reduceLT, Nat.reduceLeDiff, *, and_self, wpK_assignS, wpK_moveS, evalA_str, c1, s1, i1, w1, q]; first | (refine hK.out _ _ ?_; clear hK K) | (refine iteI (fun h => hK.out _ _ ?_) (fun h => hK.out _ _ ?_) <;> clear hK K)))
      refine each_next hh1.out trivial ?_ ?_
      · ((try simp only [eraseA_cons, eraseA_nil, setL_cons, setL_nil, List.set_cons_zero, List.set_cons_succ]); all_goals (first | rfl | (simp only [len_snoc, ints_len, List.length_map, hh2.out]; done) | (simp only [len_snoc, len_mid, ints_len, List.length_map, List.length_append, List.length_cons, List.length_nil, Nat.zero_add, hh2.out]; done) | (simp only [len_mid, len_snoc, ints_len, List.length_map, List.length_append, List.length_cons, List.length_nil, Nat.zero_add, hh2.out]; rfl)))
      · first | exact ⟨[], (List.append_nil _).symm⟩ | exact ⟨_, rfl⟩ | (simp only [List.append_assoc, List.cons_append, List.nil_append]; exact ⟨_, rfl⟩)

/- Segments: the reference's Text; the law Words. -/
open Go.Proofs
attribute [local go_sem] fz64 br12 br15 br23 br24 br25 br26 br27 br28 fz37 fz38 fz39
set_option maxHeartbeats 4000000

theorem textR (v w : AV) (ss : List Sg) (l : List Int) (hv : SLs 2 (ss.map encS) v) (hw : SLs 1 (ints l) w) (hl : l.length ≤ 1000000) (hsl : ss.length ≤ 1000000) (hn : ∀ x ∈ ss, x.name.size ≤ 1000000) : EvV CX 28 [.agg [v], w] (· = .str (txt ss l)) := by
  have c1 := hv.cell
  have s1 := hv.snap
  refine EvV.walk rfl fn28 rfl nt28 rfl ?_
  simp only [List.length_cons, List.length_nil, List.cons_append, List.nil_append, Nat.reduceAdd, Nat.reduceSub, List.replicate]
  repeat' (first | refine go1 ?_ | refine blockK_else rfl ?_ | (refine wpC_cond fun A B hA hB => ?_; simp only [go_sem, reduceIte, Nat.reduceAdd, Nat.reduceEqDiff, Nat.reduceLT, Nat.reduceLeDiff, *, and_self, lenK_sls hw, ints_len, c1, evalA_str, wpK_assignS]; first | (refine hA.out ?_; clear hA hB A B) | (refine hB.out ?_; clear hA hB A B) | (refine iteI (fun h => hA.out ?_) (fun h => hB.out ?_) <;> clear hA hB A B) | (refine iteI (fun h => hB.out ?_) (fun h => hA.out ?_) <;> clear hA hB A B)) | (refine wpO_cons fun K hK => ?_; simp only [go_sem, reduceIte, Nat.reduceAdd, Nat.reduceEqDiff, Nat.reduceLT, Nat.reduceLeDiff, *, and_self, lenK_sls hw, ints_len, c1, evalA_str, wpK_assignS]; first | (refine hK.out _ _ ?_; clear hK K) | (refine iteI (fun h => hK.out _ _ ?_) (fun h => hK.out _ _ ?_) <;> clear hK K)))
  refine wpC_eachE [6, 10, 11, 12, 13, 14, 15, 16, 17, 18, 19, 20, 21, 22, 23, 24, 25, 26, 27, 28, 29, 30] 9 (fun pre => [(5, .str (txt ss pre))]) l (fun _ _ => True) ?_ ?_ ?_ ?_
  · trivial
  · ((try simp only [eraseA_cons, eraseA_nil, setL_cons, setL_nil, List.set_cons_zero, List.set_cons_succ]); all_goals (first | rfl | (simp only [len_snoc, ints_len, List.length_map, ]; done) | (simp only [len_snoc, len_mid, ints_len, List.length_map, List.length_append, List.length_cons, List.length_nil, Nat.zero_add, ]; done) | (simp only [len_mid, len_snoc, ints_len, List.length_map, List.length_append, List.length_cons, List.length_nil, Nat.zero_add, ]; rfl)))
  · intro g G _
    simp only [garbA_cons, garbA_nil, setL_cons, setL_nil, List.set_cons_zero, List.set_cons_succ]
    repeat' (first | refine go1 ?_ | refine blockK_else rfl ?_ | (refine wpC_cond fun A B hA hB => ?_; simp only [go_sem, reduceIte, Nat.reduceAdd, Nat.reduceEqDiff, Nat.reduceLT, Nat.reduceLeDiff, *, and_self, wpK_assignS, wpK_moveS, evalA_str, ints_len, List.length_map, Int.lt_irrefl, List.nil_append]; first | (refine hA.out ?_; clear hA hB A B) | (refine hB.out ?_; clear hA hB A B) | (refine iteI (fun h => hA.out ?_) (fun h => hB.out ?_) <;> clear hA hB A B) | (refine iteI (fun h => hB.out ?_) (fun h => hA.out ?_) <;> clear hA hB A B)) | (refine wpO_cons fun K hK => ?_; simp only [go_sem, reduceIte, Nat.reduceAdd, Nat.reduceEqDiff, Nat.reduceLT, Nat.reduceLeDiff, *, and_self, wpK_assignS, wpK_moveS, evalA_str, ints_len, List.length_map, Int.lt_irrefl, List.nil_append]; first | (refine hK.out _ _ ?_; clear hK K) | (refine iteI (fun h => hK.out _ _ ?_) (fun h => hK.out _ _ ?_) <;> clear hK K)))
    simp only [resultsR, resultsL, resultA, expK_int, expK_bool, expK_str, expK_agg, expK_own, expK_tsl, resK_some, go_sem, reduceIte, Nat.reduceAdd, Nat.reduceEqDiff, Nat.reduceLT, Nat.reduceLeDiff, and_self, ]
  · intro g G pre x post h1 _
    have i1 := idx_sls hw (X := CX) ty33 ty3 rfl (by rw [h1]; exact ints_mid pre x post) (k := .i64)
    have hpl : pre.length + 1 ≤ l.length := by rw [h1]; simp
    have w1 := wrap_succ (n := pre.length) (by omega)
    have lt1 : (pre.length : Int) < (l.length : Int) := by omega
    have q := (isR v ss x hv).rw
    have hsz := txt_size hn pre.reverse pre (by simp)
    have hsn := txt_snoc ss pre x
    have hh1 : Hold (l = pre ++ x :: post) := ⟨h1⟩
    generalize txt ss pre = T at *
    clear h1
    cases hx : isS ss x with
    | true =>
      obtain ⟨j, y, k1, k2, k3, k4⟩ := nmS_at hx
      have w2 : IntKind.wrap .i64 (x - 1) = (j : Int) := by rw [wrap_small (by omega) (by omega)]; omega
      have i2 := idx_sls hv (X := CX) ty22 ty46 rfl (n := j) (row := encS y) (by rw [List.getElem?_map, k3]; rfl) (k := .i64)
      have hy := hn y (List.mem_of_getElem? k3)
      have ha := strAdd (a := T) (b := y.name) (by have := Nat.mul_le_mul_right 1000000 (show pre.length ≤ 1000000 by omega); omega)
      rw [if_pos hx, k4] at hsn
      rw [hx] at q
      have hh2 : Hold (txt ss (pre ++ [x]) = T ++ y.name) := ⟨hsn⟩
      clear hx k1 k2 k3 k4 hsn hsz hy
      simp only [garbA_cons, garbA_nil, setL_cons, setL_nil, List.set_cons_zero, List.set_cons_succ]
      repeat' (first | refine go1 ?_ | refine blockK_else rfl ?_ | (refine wpC_cond fun A B hA hB => ?_; simp only [go_sem, reduceIte, Nat.reduceAdd, Nat.reduceEqDiff, Nat.reduceLT, Nat.reduceLeDiff, *, and_self, wpK_assignS, wpK_moveS, evalA_str, c1, s1, encS, i1, i2, w1, w2, q, ha]; first | (refine hA.out ?_; clear hA hB A B) | (refine hB.out ?_; clear hA hB A B) | (refine iteI (fun h => hA.out ?_) (fun h => hB.out ?_) <;> clear hA hB A B) | (refine iteI (fun h => hB.out ?_) (fun h => hA.out ?_) <;> clear hA hB A B)) | (refine wpO_cons fun K hK => ?_; simp only [go_sem, reduceIte, Nat.reduceAdd, Nat.reduceEqDiff, Nat.reduceLT, Nat.reduceLeDiff, *, and_self, wpK_assignS, wpK_moveS, evalA_str, c1, s1, encS, i1, i2, w1, w2, q, ha]; first | (refine hK.out _ _ ?_; clear hK K) | (refine iteI (fun h => hK.out _ _ ?_) (fun h => hK.out _ _ ?_) <;> clear hK K)))
      refine each_next hh1.out trivial ?_ ?_
      · ((try simp only [eraseA_cons, eraseA_nil, setL_cons, setL_nil, List.set_cons_zero, List.set_cons_succ]); all_goals (first | rfl | (simp only [len_snoc, ints_len, List.length_map, hh2.out]; done) | (simp only [len_snoc, len_mid, ints_len, List.length_map, List.length_append, List.length_cons, List.length_nil, Nat.zero_add, hh2.out]; done) | (simp only [len_mid, len_snoc, ints_len, List.length_map, List.length_append, List.length_cons, List.length_nil, Nat.zero_add, hh2.out]; rfl)))
      · first | exact ⟨[], (List.append_nil _).symm⟩ | exact ⟨_, rfl⟩ | (simp only [List.append_assoc, List.cons_append, List.nil_append]; exact ⟨_, rfl⟩)
    | false =>
      rw [if_neg (by simp [hx])] at hsn
      rw [hx] at q
      have hh2 : Hold (txt ss (pre ++ [x]) = T) := ⟨hsn⟩
      clear hx hsn hsz
      simp only [garbA_cons, garbA_nil, setL_cons, setL_nil, List.set_cons_zero, List.set_cons_succ]
      repeat' (first | refine go1 ?_ | refine blockK_else rfl ?_ | (refine wpC_cond fun A B hA hB => ?_; simp only [go_sem, reduceIte, Nat.reduceAdd, Nat.reduceEqDiff, Nat.reduceLT, Nat.reduceLeDiff, *, and_self, wpK_assignS, wpK_moveS, evalA_str, c1, s1, i1, w1, q]; first | (refine hA.out ?_; clear hA hB A B) | (refine hB.out ?_; clear hA hB A B) | (refine iteI (fun h => hA.out ?_) (fun h => hB.out ?_) <;> clear hA hB A B) | (refine iteI (fun h => hB.out ?_) (fun h => hA.out ?_) <;> clear hA hB A B)) | (refine wpO_cons fun K hK => ?_; simp only [go_sem, reduceIte, Nat.reduceAdd, Nat.reduceEqDiff, Nat.reduceLT, Nat.reduceLeDiff, *, and_self, wpK_assignS, wpK_moveS, evalA_str, c1, s1, i1, w1, q]; first | (refine hK.out _ _ ?_; clear hK K) | (refine iteI (fun h => hK.out _ _ ?_) (fun h => hK.out _ _ ?_) <;> clear hK K)))
      refine each_next hh1.out trivial ?_ ?_
      · ((try simp only [eraseA_cons, eraseA_nil, setL_cons, setL_nil, List.set_cons_zero, List.set_cons_succ]); all_goals (first | rfl | (simp only [len_snoc, ints_len, List.length_map, hh2.out]; done) | (simp only [len_snoc, len_mid, ints_len, List.length_map, List.length_append, List.length_cons, List.length_nil, Nat.zero_add, hh2.out]; done) | (simp only [len_mid, len_snoc, ints_len, List.length_map, List.length_append, List.length_cons, List.length_nil, Nat.zero_add, hh2.out]; rfl)))
      · first | exact ⟨[], (List.append_nil _).symm⟩ | exact ⟨_, rfl⟩ | (simp only [List.append_assoc, List.cons_append, List.nil_append]; exact ⟨_, rfl⟩)

theorem lawWords (v w : AV) (ss : List Sg) (l : List Int) (n : ByteArray) (hv : SLs 2 (ss.map encS) v) (hvs : v.stab = true) (hw : SLs 1 (ints l) w) : EvV CX 6 [.agg [v], w, .str n] (· = .bool true) := by
  have qa := awake.rw
  have c1 := hv.cell
  have s1 := hv.snap
  have s2 := hw.snap
  have q1 := (rightL v ss hv).rw
  cases k : rightS ss with
  | false =>
    rw [k] at q1
    clear k
    refine EvV.walk rfl fn6 rfl nt6 rfl ?_
    simp only [List.length_cons, List.length_nil, List.cons_append, List.nil_append, Nat.reduceAdd, Nat.reduceSub, List.replicate]
    repeat' (first | refine go1 ?_ | refine blockK_else rfl ?_ | (refine wpC_cond fun A B hA hB => ?_; simp only [go_sem, reduceIte, Nat.reduceAdd, Nat.reduceEqDiff, Nat.reduceLT, Nat.reduceLeDiff, *, and_self, c1, s1, q1, qa]; first | (refine hA.out ?_; clear hA hB A B) | (refine hB.out ?_; clear hA hB A B) | (refine iteI (fun h => hA.out ?_) (fun h => hB.out ?_) <;> clear hA hB A B) | (refine iteI (fun h => hB.out ?_) (fun h => hA.out ?_) <;> clear hA hB A B)) | (refine wpO_cons fun K hK => ?_; simp only [go_sem, reduceIte, Nat.reduceAdd, Nat.reduceEqDiff, Nat.reduceLT, Nat.reduceLeDiff, *, and_self, c1, s1, q1, qa]; first | (refine hK.out _ _ ?_; clear hK K) | (refine iteI (fun h => hK.out _ _ ?_) (fun h => hK.out _ _ ?_) <;> clear hK K)))
    simp only [resultsR, resultsL, resultA, expK_int, expK_bool, expK_str, expK_agg, expK_own, expK_tsl, resK_some, go_sem, reduceIte, Nat.reduceAdd, Nat.reduceEqDiff, Nat.reduceLT, Nat.reduceLeDiff, and_self, ]
  | true =>
    obtain ⟨⟨h1, h2⟩, _⟩ := rightS_iff k
    rw [k] at q1
    clear k
    by_cases z1 : (100 : Int) < (l.length : Int)
    · refine EvV.walk rfl fn6 rfl nt6 rfl ?_
      simp only [List.length_cons, List.length_nil, List.cons_append, List.nil_append, Nat.reduceAdd, Nat.reduceSub, List.replicate]
      repeat' (first | refine go1 ?_ | refine blockK_else rfl ?_ | (refine wpC_cond fun A B hA hB => ?_; simp only [go_sem, reduceIte, Nat.reduceAdd, Nat.reduceEqDiff, Nat.reduceLT, Nat.reduceLeDiff, *, and_self, c1, s1, q1, qa, lenK_sls hw, ints_len]; first | (refine hA.out ?_; clear hA hB A B) | (refine hB.out ?_; clear hA hB A B) | (refine iteI (fun h => hA.out ?_) (fun h => hB.out ?_) <;> clear hA hB A B) | (refine iteI (fun h => hB.out ?_) (fun h => hA.out ?_) <;> clear hA hB A B)) | (refine wpO_cons fun K hK => ?_; simp only [go_sem, reduceIte, Nat.reduceAdd, Nat.reduceEqDiff, Nat.reduceLT, Nat.reduceLeDiff, *, and_self, c1, s1, q1, qa, lenK_sls hw, ints_len]; first | (refine hK.out _ _ ?_; clear hK K) | (refine iteI (fun h => hK.out _ _ ?_) (fun h => hK.out _ _ ?_) <;> clear hK K)))
      simp only [resultsR, resultsL, resultA, expK_int, expK_bool, expK_str, expK_agg, expK_own, expK_tsl, resK_some, go_sem, reduceIte, Nat.reduceAdd, Nat.reduceEqDiff, Nat.reduceLT, Nat.reduceLeDiff, and_self, ]
    by_cases z2 : (100 : Int) < (n.size : Int)
    · refine EvV.walk rfl fn6 rfl nt6 rfl ?_
      simp only [List.length_cons, List.length_nil, List.cons_append, List.nil_append, Nat.reduceAdd, Nat.reduceSub, List.replicate]
      repeat' (first | refine go1 ?_ | refine blockK_else rfl ?_ | (refine wpC_cond fun A B hA hB => ?_; simp only [go_sem, reduceIte, Nat.reduceAdd, Nat.reduceEqDiff, Nat.reduceLT, Nat.reduceLeDiff, *, and_self, c1, s1, q1, qa, lenK_sls hw, ints_len, lenK_str, wpK_moveS, evalA_str]; first | (refine hA.out ?_; clear hA hB A B) | (refine hB.out ?_; clear hA hB A B) | (refine iteI (fun h => hA.out ?_) (fun h => hB.out ?_) <;> clear hA hB A B) | (refine iteI (fun h => hB.out ?_) (fun h => hA.out ?_) <;> clear hA hB A B)) | (refine wpO_cons fun K hK => ?_; simp only [go_sem, reduceIte, Nat.reduceAdd, Nat.reduceEqDiff, Nat.reduceLT, Nat.reduceLeDiff, *, and_self, c1, s1, q1, qa, lenK_sls hw, ints_len, lenK_str, wpK_moveS, evalA_str]; first | (refine hK.out _ _ ?_; clear hK K) | (refine iteI (fun h => hK.out _ _ ?_) (fun h => hK.out _ _ ?_) <;> clear hK K)))
      simp only [resultsR, resultsL, resultA, expK_int, expK_bool, expK_str, expK_agg, expK_own, expK_tsl, resK_some, go_sem, reduceIte, Nat.reduceAdd, Nat.reduceEqDiff, Nat.reduceLT, Nat.reduceLeDiff, and_self, ]
    have q2 := (findM v ss n hv (by omega)).rw
    have q3 := (findR v ss n hv (by omega)).rw
    have q4 := (wordM v w ss l hv hvs hw (by omega)).rw
    have q5 := (wordR v w ss l hv hw (by omega)).rw
    have q6 := (textM v w ss l hv hw (by omega) (by omega) (fun x hx => by have := h2 x hx; omega)).rw
    have q7 := (textR v w ss l hv hw (by omega) (by omega) (fun x hx => by have := h2 x hx; omega)).rw
    have e := bL_eq (txt ss l) (txt ss l)
    simp only [decide_true] at e
    clear h1 h2
    generalize txt ss l = T at *
    generalize wordF ss l = W at *
    generalize sF ss n 0 = Fd at *
    refine EvV.walk rfl fn6 rfl nt6 rfl ?_
    simp only [List.length_cons, List.length_nil, List.cons_append, List.nil_append, Nat.reduceAdd, Nat.reduceSub, List.replicate]
    repeat' (first | refine go1 ?_ | refine blockK_else rfl ?_ | (refine wpC_cond fun A B hA hB => ?_; simp only [go_sem, reduceIte, Nat.reduceAdd, Nat.reduceEqDiff, Nat.reduceLT, Nat.reduceLeDiff, *, and_self, c1, s1, s2, q1, q2, q3, q4, q5, q6, q7, qa, lenK_sls hw, ints_len, lenK_str, wpK_moveS, evalA_str, strBin, e, beq_self_eq_true]; first | (refine hA.out ?_; clear hA hB A B) | (refine hB.out ?_; clear hA hB A B) | (refine iteI (fun h => hA.out ?_) (fun h => hB.out ?_) <;> clear hA hB A B) | (refine iteI (fun h => hB.out ?_) (fun h => hA.out ?_) <;> clear hA hB A B)) | (refine wpO_cons fun K hK => ?_; simp only [go_sem, reduceIte, Nat.reduceAdd, Nat.reduceEqDiff, Nat.reduceLT, Nat.reduceLeDiff, *, and_self, c1, s1, s2, q1, q2, q3, q4, q5, q6, q7, qa, lenK_sls hw, ints_len, lenK_str, wpK_moveS, evalA_str, strBin, e, beq_self_eq_true]; first | (refine hK.out _ _ ?_; clear hK K) | (refine iteI (fun h => hK.out _ _ ?_) (fun h => hK.out _ _ ?_) <;> clear hK K)))
    simp only [resultsR, resultsL, resultA, expK_int, expK_bool, expK_str, expK_agg, expK_own, expK_tsl, resK_some, go_sem, reduceIte, Nat.reduceAdd, Nat.reduceEqDiff, Nat.reduceLT, Nat.reduceLeDiff, and_self, ]

/- Segments: what a right inventory is; the law Finds. -/
open Go.Proofs
attribute [local go_sem] List.replicate Nat.one_mul Nat.reduceMul Nat.zero_mul bslA fz10 fz11 fz12 fz8 fz9 rowsFill
set_option maxHeartbeats 4000000

theorem segF_ok : ∀ (l pre : List Sg), segF pre l = 0 → ∀ a x b, l = a ++ x :: b → nmIn (pre ++ a) x.name = false ∧ 0 ≤ x.feat ∧ x.feat < 65536
  | [], pre, _, a, x, b, e => by simp at e
  | y :: l, pre, h, a, x, b, e => by
    rw [segF] at h
    by_cases h1 : labU y.name.data.toList = true
    · rw [if_pos h1] at h
      by_cases h2 : nmIn pre y.name = true
      · rw [if_pos h2] at h; omega
      · rw [if_neg h2] at h
        by_cases h3 : 0 ≤ y.feat ∧ y.feat < 65536
        · rw [if_pos h3] at h
          cases a with
          | nil =>
            simp only [List.nil_append, List.cons.injEq] at e
            obtain ⟨rfl, rfl⟩ := e
            rw [List.append_nil]
            exact ⟨by simpa using h2, h3⟩
          | cons z a =>
            simp only [List.cons_append, List.cons.injEq] at e
            obtain ⟨rfl, e⟩ := e
            have := segF_ok l (pre ++ [y]) h a x b e
            simpa using this
        · rw [if_neg h3] at h; omega
    · rw [if_neg h1] at h; omega
theorem chkS_ok {ss : List Sg} (h : chkS ss = 0) : ss.length ≤ 60 ∧ ∀ a x b, ss = a ++ x :: b → nmIn a x.name = false ∧ 0 ≤ x.feat ∧ x.feat < 65536 := by
  unfold chkS at h
  by_cases k : ss.length ≤ 60
  · rw [if_pos k] at h
    exact ⟨k, fun a x b e => segF_ok ss [] h a x b e⟩
  · rw [if_neg k] at h; omega
theorem sF_is : ∀ (l : List Sg) (n : ByteArray) (k : Nat), sF l n k = 0 ∨ ∃ (j : Nat) (x : Sg), l[j]? = some x ∧ x.name = n ∧ sF l n k = ((k + j + 1 : Nat) : Int)
  | [], n, k => .inl rfl
  | y :: l, n, k => by
    rw [sF]
    by_cases h : y.name = n
    · rw [if_pos h]
      exact .inr ⟨0, y, rfl, h, by omega⟩
    · rw [if_neg h]
      rcases sF_is l n (k + 1) with h1 | ⟨j, x, h1, h2, h3⟩
      · exact .inl h1
      · exact .inr ⟨j + 1, x, by simpa using h1, h2, by rw [h3]; omega⟩

theorem empty_app (a : ByteArray) : (ByteArray.empty ++ a) = a := by simp

theorem lawFinds (v : AV) (ss : List Sg) (n : ByteArray) (hv : SLs 2 (ss.map encS) v) : EvV CX 9 [.agg [v], .str n] (· = .bool true) := by
  have qa := awake.rw
  have c1 := hv.cell
  have s1 := hv.snap
  have q1 := (rightL v ss hv).rw
  cases k : rightS ss with
  | false =>
    rw [k] at q1
    clear k
    refine EvV.walk rfl fn9 rfl nt9 rfl ?_
    simp only [List.length_cons, List.length_nil, List.cons_append, List.nil_append, Nat.reduceAdd, Nat.reduceSub, List.replicate]
    repeat' (first | refine go1 ?_ | refine blockK_else rfl ?_ | (refine wpC_cond fun A B hA hB => ?_; simp only [go_sem, reduceIte, Nat.reduceAdd, Nat.reduceEqDiff, Nat.reduceLT, Nat.reduceLeDiff, *, wpK_buildSlice ty33 rfl, c1, s1, q1, qa]; first | (refine hA.out ?_; clear hA hB A B) | (refine hB.out ?_; clear hA hB A B) | (refine iteI (fun h => hA.out ?_) (fun h => hB.out ?_) <;> clear hA hB A B) | (refine iteI (fun h => hB.out ?_) (fun h => hA.out ?_) <;> clear hA hB A B)) | (refine wpO_cons fun K hK => ?_; simp only [go_sem, reduceIte, Nat.reduceAdd, Nat.reduceEqDiff, Nat.reduceLT, Nat.reduceLeDiff, *, wpK_buildSlice ty33 rfl, c1, s1, q1, qa]; first | (refine hK.out _ _ ?_; clear hK K) | (refine iteI (fun h => hK.out _ _ ?_) (fun h => hK.out _ _ ?_) <;> clear hK K)))
    simp only [resultsR, resultsL, resultA, expK_int, expK_bool, expK_str, expK_agg, expK_own, expK_tsl, resK_some, go_sem, reduceIte, Nat.reduceAdd, Nat.reduceEqDiff, Nat.reduceLT, Nat.reduceLeDiff, wpK_buildSlice ty33 rfl, ]
  | true =>
    obtain ⟨⟨h1, h2⟩, h3⟩ := rightS_iff k
    rw [k] at q1
    clear k
    by_cases z2 : (100 : Int) < (n.size : Int)
    · refine EvV.walk rfl fn9 rfl nt9 rfl ?_
      simp only [List.length_cons, List.length_nil, List.cons_append, List.nil_append, Nat.reduceAdd, Nat.reduceSub, List.replicate]
      repeat' (first | refine go1 ?_ | refine blockK_else rfl ?_ | (refine wpC_cond fun A B hA hB => ?_; simp only [go_sem, reduceIte, Nat.reduceAdd, Nat.reduceEqDiff, Nat.reduceLT, Nat.reduceLeDiff, *, wpK_buildSlice ty33 rfl, c1, s1, q1, qa, lenK_str, wpK_moveS, evalA_str]; first | (refine hA.out ?_; clear hA hB A B) | (refine hB.out ?_; clear hA hB A B) | (refine iteI (fun h => hA.out ?_) (fun h => hB.out ?_) <;> clear hA hB A B) | (refine iteI (fun h => hB.out ?_) (fun h => hA.out ?_) <;> clear hA hB A B)) | (refine wpO_cons fun K hK => ?_; simp only [go_sem, reduceIte, Nat.reduceAdd, Nat.reduceEqDiff, Nat.reduceLT, Nat.reduceLeDiff, *, wpK_buildSlice ty33 rfl, c1, s1, q1, qa, lenK_str, wpK_moveS, evalA_str]; first | (refine hK.out _ _ ?_; clear hK K) | (refine iteI (fun h => hK.out _ _ ?_) (fun h => hK.out _ _ ?_) <;> clear hK K)))
      simp only [resultsR, resultsL, resultA, expK_int, expK_bool, expK_str, expK_agg, expK_own, expK_tsl, resK_some, go_sem, reduceIte, Nat.reduceAdd, Nat.reduceEqDiff, Nat.reduceLT, Nat.reduceLeDiff, wpK_buildSlice ty33 rfl, ]
    have hok := (chkS_ok h3).2
    have q2 := fun n => (findM v ss n hv (by omega)).rw
    have q6 := fun st (l : List Int) (hl : l.length ≤ 1000000) => (textM v (.tsl st 1 (ints l)) ss l hv (.rows st) hl (by omega) (fun x hx => by have := h2 x hx; omega)).rw
    have hh1 : Hold (ss.length ≤ 80) := ⟨h1⟩
    have hhk : Hold (∀ a x b, ss = a ++ x :: b → nmIn a x.name = false ∧ 0 ≤ x.feat ∧ x.feat < 65536) := ⟨hok⟩
    have hh6 : Hold (∀ st (l : List Int), l.length ≤ 1000000 → ∀ (Q : AV → Prop), EvV CX 27 [.agg [v], .tsl st 1 (ints l)] Q = Q (.str (txt ss l))) := ⟨q6⟩
    clear h1 h2 h3 hok q6
    refine EvV.walk rfl fn9 rfl nt9 rfl ?_
    simp only [List.length_cons, List.length_nil, List.cons_append, List.nil_append, Nat.reduceAdd, Nat.reduceSub, List.replicate]
    repeat' (first | refine go1 ?_ | refine blockK_else rfl ?_ | (refine wpC_cond fun A B hA hB => ?_; simp only [go_sem, reduceIte, Nat.reduceAdd, Nat.reduceEqDiff, Nat.reduceLT, Nat.reduceLeDiff, *, wpK_buildSlice ty33 rfl, c1, s1, q1, lenK_sls hv, List.length_map, lenK_str, wpK_moveS, evalA_str]; first | (refine hA.out ?_; clear hA hB A B) | (refine hB.out ?_; clear hA hB A B) | (refine iteI (fun h => hA.out ?_) (fun h => hB.out ?_) <;> clear hA hB A B) | (refine iteI (fun h => hB.out ?_) (fun h => hA.out ?_) <;> clear hA hB A B)) | (refine wpO_cons fun K hK => ?_; simp only [go_sem, reduceIte, Nat.reduceAdd, Nat.reduceEqDiff, Nat.reduceLT, Nat.reduceLeDiff, *, wpK_buildSlice ty33 rfl, c1, s1, q1, lenK_sls hv, List.length_map, lenK_str, wpK_moveS, evalA_str]; first | (refine hK.out _ _ ?_; clear hK K) | (refine iteI (fun h => hK.out _ _ ?_) (fun h => hK.out _ _ ?_) <;> clear hK K)))
    refine wpC_each [4, 5, 20, 21, 22, 23, 24, 25, 26, 27, 28, 29, 30, 31, 32, 33, 34, 35, 36, 37, 38, 39, 40, 41, 42, 43, 44, 45, 46, 47] 19 ss (fun _ _ => True) ?_ ?_ ?_ ?_
    · trivial
    · ((try simp only [eraseA_cons, eraseA_nil, setL_cons, setL_nil, List.set_cons_zero, List.set_cons_succ]); all_goals (first | rfl | (simp only [len_snoc, ints_len, List.length_map, ]; done) | (simp only [len_snoc, len_mid, ints_len, List.length_map, List.length_append, List.length_cons, List.length_nil, Nat.zero_add, ]; done) | (simp only [len_mid, len_snoc, ints_len, List.length_map, List.length_append, List.length_cons, List.length_nil, Nat.zero_add, ]; rfl)))
    · intro g G _
      simp only [garbA_cons, garbA_nil, setL_cons, setL_nil, List.set_cons_zero, List.set_cons_succ]
      rcases sF_is ss n 0 with e | ⟨j, x, j1, j2, j3⟩
      · have q := q2 n
        rw [e] at q
        clear q2 e
        repeat' (first | refine go1 ?_ | refine blockK_else rfl ?_ | (refine wpC_cond fun A B hA hB => ?_; simp only [go_sem, reduceIte, Nat.reduceAdd, Nat.reduceEqDiff, Nat.reduceLT, Nat.reduceLeDiff, *, wpK_buildSlice ty33 rfl, c1, s1, q, qa, lenK_sls hv, List.length_map, wpK_moveS, evalA_str, ints_len, List.length_map, Int.lt_irrefl, List.nil_append]; first | (refine hA.out ?_; clear hA hB A B) | (refine hB.out ?_; clear hA hB A B) | (refine iteI (fun h => hA.out ?_) (fun h => hB.out ?_) <;> clear hA hB A B) | (refine iteI (fun h => hB.out ?_) (fun h => hA.out ?_) <;> clear hA hB A B)) | (refine wpO_cons fun K hK => ?_; simp only [go_sem, reduceIte, Nat.reduceAdd, Nat.reduceEqDiff, Nat.reduceLT, Nat.reduceLeDiff, *, wpK_buildSlice ty33 rfl, c1, s1, q, qa, lenK_sls hv, List.length_map, wpK_moveS, evalA_str, ints_len, List.length_map, Int.lt_irrefl, List.nil_append]; first | (refine hK.out _ _ ?_; clear hK K) | (refine iteI (fun h => hK.out _ _ ?_) (fun h => hK.out _ _ ?_) <;> clear hK K)))
        simp only [resultsR, resultsL, resultA, expK_int, expK_bool, expK_str, expK_agg, expK_own, expK_tsl, resK_some, go_sem, reduceIte, Nat.reduceAdd, Nat.reduceEqDiff, Nat.reduceLT, Nat.reduceLeDiff, wpK_buildSlice ty33 rfl, ]
      · have q := q2 n
        rw [Nat.zero_add] at j3
        rw [j3] at q
        have hj := (List.getElem?_eq_some_iff.1 j1).1
        have b1 : (((j + 1 : Nat) : Int) == 0) = false := beq_false_of_ne (by omega)
        have z3 : (1 : Int) ≤ ((j + 1 : Nat) : Int) := by omega
        have z4 : ((j + 1 : Nat) : Int) ≤ (ss.length : Int) := by omega
        have w1 : IntKind.wrap .i64 (((j + 1 : Nat) : Int) - 1) = (j : Int) := by have := hh1.out; rw [wrap_small (by omega) (by omega)]; omega
        have i1 := idx_sls hv (X := CX) ty22 ty46 rfl (n := j) (row := encS x) (by rw [List.getElem?_map, j1]; rfl) (k := .i64)
        have hb := bL_eq x.name n
        rw [j2] at hb
        simp only [decide_true] at hb
        subst j2
        clear q2 j1 j3 hj
        repeat' (first | refine go1 ?_ | refine blockK_else rfl ?_ | (refine wpC_cond fun A B hA hB => ?_; simp only [go_sem, reduceIte, Nat.reduceAdd, Nat.reduceEqDiff, Nat.reduceLT, Nat.reduceLeDiff, *, wpK_buildSlice ty33 rfl, c1, s1, q, qa, b1, w1, i1, encS, strBin, hb, lenK_sls hv, List.length_map, wpK_moveS, evalA_str, ints_len, List.length_map, Int.lt_irrefl, List.nil_append]; first | (refine hA.out ?_; clear hA hB A B) | (refine hB.out ?_; clear hA hB A B) | (refine iteI (fun h => hA.out ?_) (fun h => hB.out ?_) <;> clear hA hB A B) | (refine iteI (fun h => hB.out ?_) (fun h => hA.out ?_) <;> clear hA hB A B)) | (refine wpO_cons fun K hK => ?_; simp only [go_sem, reduceIte, Nat.reduceAdd, Nat.reduceEqDiff, Nat.reduceLT, Nat.reduceLeDiff, *, wpK_buildSlice ty33 rfl, c1, s1, q, qa, b1, w1, i1, encS, strBin, hb, lenK_sls hv, List.length_map, wpK_moveS, evalA_str, ints_len, List.length_map, Int.lt_irrefl, List.nil_append]; first | (refine hK.out _ _ ?_; clear hK K) | (refine iteI (fun h => hK.out _ _ ?_) (fun h => hK.out _ _ ?_) <;> clear hK K)))
        simp only [resultsR, resultsL, resultA, expK_int, expK_bool, expK_str, expK_agg, expK_own, expK_tsl, resK_some, go_sem, reduceIte, Nat.reduceAdd, Nat.reduceEqDiff, Nat.reduceLT, Nat.reduceLeDiff, wpK_buildSlice ty33 rfl, ]
    intro g G pre x post h1 _
    have i1 := idx_sls hv (X := CX) ty22 ty46 rfl (by rw [h1]; exact map_mid encS pre x post) (k := .i64)
    have hlen : pre.length < ss.length := by rw [h1]; simp
    have lt1 : (pre.length : Int) < (ss.length : Int) := by omega
    have w1 := wrap_succ (n := pre.length) (by have := hh1.out; omega)
    have q := q2 x.name
    have e := (sF_in pre x post 0).2 (hhk.out pre x post h1).1
    rw [← h1] at e
    have e' : sF ss x.name 0 = ((pre.length + 1 : Nat) : Int) := by rw [e]; omega
    rw [e'] at q
    have b1 : (((pre.length + 1 : Nat) : Int) == ((pre.length + 1 : Nat) : Int)) = true := beq_self_eq_true _
    have hi : isS ss ((pre.length + 1 : Nat) : Int) = true := by simp [isS]; omega
    have ht : txt ss [((pre.length + 1 : Nat) : Int)] = x.name := by
      have hg : ss[pre.length]? = some x := by rw [h1]; simp
      have e0 : txt ss [((pre.length + 1 : Nat) : Int)] = ByteArray.empty ++ nmS ss ((pre.length + 1 : Nat) : Int) := by simp only [txt, List.foldl_cons, List.foldl_nil, hi, if_true]
      have e1 : (((pre.length + 1 : Nat) : Int) - 1).toNat = pre.length := by omega
      rw [e0, empty_app, nmS, if_pos hi, e1, hg]; rfl
    have q6 := fun st => hh6.out st [((pre.length + 1 : Nat) : Int)] (by simp)
    have hb := bL_eq x.name x.name
    simp only [decide_true] at hb
    have hii : ints [((pre.length + 1 : Nat) : Int)] = [[.int .i64 ((pre.length + 1 : Nat) : Int)]] := rfl
    rw [ht] at q6
    rw [hii] at q6
    have hhh : Hold (ss = pre ++ x :: post) := ⟨h1⟩
    clear h1 q2 e e' hi ht hii hlen
    simp only [garbA_cons, garbA_nil, setL_cons, setL_nil, List.set_cons_zero, List.set_cons_succ]
    repeat' (first | refine go1 ?_ | refine blockK_else rfl ?_ | (refine wpC_cond fun A B hA hB => ?_; simp only [go_sem, reduceIte, Nat.reduceAdd, Nat.reduceEqDiff, Nat.reduceLT, Nat.reduceLeDiff, *, wpK_buildSlice ty33 rfl, c1, s1, q, q6, b1, w1, i1, encS, strBin, hb, lenK_sls hv, List.length_map, wpK_moveS, evalA_str, snap_sl, rowsOf_sl, ints_len, ints_take, List.take_length, Nat.zero_le, Nat.zero_add, Bool.true_or, getElem?_len, getElem?_lenAdd, set_len, set_lenAdd, len_mid, ints_len, List.length_map, lt_mid, List.nil_append, getElem?_len]; first | (refine hA.out ?_; clear hA hB A B) | (refine hB.out ?_; clear hA hB A B) | (refine iteI (fun h => hA.out ?_) (fun h => hB.out ?_) <;> clear hA hB A B) | (refine iteI (fun h => hB.out ?_) (fun h => hA.out ?_) <;> clear hA hB A B)) | (refine wpO_cons fun K hK => ?_; simp only [go_sem, reduceIte, Nat.reduceAdd, Nat.reduceEqDiff, Nat.reduceLT, Nat.reduceLeDiff, *, wpK_buildSlice ty33 rfl, c1, s1, q, q6, b1, w1, i1, encS, strBin, hb, lenK_sls hv, List.length_map, wpK_moveS, evalA_str, snap_sl, rowsOf_sl, ints_len, ints_take, List.take_length, Nat.zero_le, Nat.zero_add, Bool.true_or, getElem?_len, getElem?_lenAdd, set_len, set_lenAdd, len_mid, ints_len, List.length_map, lt_mid, List.nil_append, getElem?_len]; first | (refine hK.out _ _ ?_; clear hK K) | (refine iteI (fun h => hK.out _ _ ?_) (fun h => hK.out _ _ ?_) <;> clear hK K)))
    refine each_next hhh.out trivial ?_ ?_
    · ((try simp only [eraseA_cons, eraseA_nil, setL_cons, setL_nil, List.set_cons_zero, List.set_cons_succ]); all_goals (first | rfl | (simp only [len_snoc, ints_len, List.length_map, ]; done) | (simp only [len_snoc, len_mid, ints_len, List.length_map, List.length_append, List.length_cons, List.length_nil, Nat.zero_add, ]; done) | (simp only [len_mid, len_snoc, ints_len, List.length_map, List.length_append, List.length_cons, List.length_nil, Nat.zero_add, ]; rfl)))
    · first | exact ⟨[], (List.append_nil _).symm⟩ | exact ⟨_, rfl⟩ | (simp only [List.append_assoc, List.cons_append, List.nil_append]; exact ⟨_, rfl⟩)

/- Segments: the reference's Both; bits (plain). -/
open Go.Proofs
attribute [local go_sem] br43 br44 fz67 fz68 nilsK
set_option maxHeartbeats 4000000

def both (a b : List Int) : List Int := a.foldl (fun out x => if b.contains x then put out x else out) []
theorem both_snoc (a b : List Int) (x : Int) : both (a ++ [x]) b = if b.contains x then put (both a b) x else both a b := by simp [both, List.foldl_append]
theorem both_len (a b : List Int) : (both a b).length ≤ a.length := by
  have : ∀ (l : List Int) (out : List Int), (l.foldl (fun out x => if b.contains x then put out x else out) out).length ≤ out.length + l.length := by
    intro l
    induction l with
    | nil => intro out; simp
    | cons x l ih =>
      intro out
      simp only [List.foldl_cons, List.length_cons]
      refine Nat.le_trans (ih _) ?_
      split
      · have := put_len out x; omega
      · omega
  simpa [both] using this a []

theorem both1 (v w : AV) (a b : List Int) (hv : SLs 1 (ints a) v) (hw : SLs 1 (ints b) w) (ha : a.length ≤ 1099511627776) (hb : b.length ≤ 1099511627776) : EvV CX 30 [v, w] (· = .osl 1 (ints (both a b))) := by
  refine EvV.walk rfl fn30 rfl nt30 rfl ?_
  simp only [List.length_cons, List.length_nil, List.cons_append, List.nil_append, Nat.reduceAdd, Nat.reduceSub, List.replicate]
  repeat' (first | refine go1 ?_ | refine blockK_else rfl ?_ | (refine wpC_cond fun A B hA hB => ?_; simp only [go_sem, reduceIte, Nat.reduceAdd, Nat.reduceEqDiff, Nat.reduceLT, Nat.reduceLeDiff, *, wpK_assignN ty33 rfl, lenK_sls hv]; first | (refine hA.out ?_; clear hA hB A B) | (refine hB.out ?_; clear hA hB A B) | (refine iteI (fun h => hA.out ?_) (fun h => hB.out ?_) <;> clear hA hB A B) | (refine iteI (fun h => hB.out ?_) (fun h => hA.out ?_) <;> clear hA hB A B)) | (refine wpO_cons fun K hK => ?_; simp only [go_sem, reduceIte, Nat.reduceAdd, Nat.reduceEqDiff, Nat.reduceLT, Nat.reduceLeDiff, *, wpK_assignN ty33 rfl, lenK_sls hv]; first | (refine hK.out _ _ ?_; clear hK K) | (refine iteI (fun h => hK.out _ _ ?_) (fun h => hK.out _ _ ?_) <;> clear hK K)))
  refine wpC_loopF [6, 10, 11, 12, 13, 14, 15, 16, 17, 18, 19, 20, 21, 22, 23, 24] (fun a : List Int × List Int × List Blk => [(5, .sl (a.2.2.length + 1) (both a.1 b).length 0 (both a.1 b).length 1), (9, .int .i64 a.1.length)]) (fun a G => .arr [] 1 0 true :: (a.2.2 ++ .arr (ints (both a.1 b)) 1 0 true :: G))
    (fun p => a = p.1 ++ p.2.1) (fun a => a.2.1.length) ([], a, []) rfl ?_ ?_ ?_
  · rfl
  · exact ⟨[], rfl⟩
  rintro ⟨pre, post, G1⟩ g G h1
  simp only at h1
  subst h1; simp only [garbA_cons, garbA_nil, setL_cons, setL_nil, List.set_cons_zero, List.set_cons_succ]
  cases post with
  | nil =>
    simp only [List.append_nil] at *
    repeat' (first | refine go1 ?_ | refine blockK_else rfl ?_ | (refine wpC_cond fun A B hA hB => ?_; simp only [go_sem, reduceIte, Nat.reduceAdd, Nat.reduceEqDiff, Nat.reduceLT, Nat.reduceLeDiff, *, wpK_assignN ty33 rfl, getElem?_len, getElem?_lenAdd, set_len, set_lenAdd, len_mid, ints_len, List.length_map, lt_mid, List.nil_append, ints_len, List.length_map, Int.lt_irrefl, List.nil_append]; first | (refine hA.out ?_; clear hA hB A B) | (refine hB.out ?_; clear hA hB A B) | (refine iteI (fun h => hA.out ?_) (fun h => hB.out ?_) <;> clear hA hB A B) | (refine iteI (fun h => hB.out ?_) (fun h => hA.out ?_) <;> clear hA hB A B)) | (refine wpO_cons fun K hK => ?_; simp only [go_sem, reduceIte, Nat.reduceAdd, Nat.reduceEqDiff, Nat.reduceLT, Nat.reduceLeDiff, *, wpK_assignN ty33 rfl, getElem?_len, getElem?_lenAdd, set_len, set_lenAdd, len_mid, ints_len, List.length_map, lt_mid, List.nil_append, ints_len, List.length_map, Int.lt_irrefl, List.nil_append]; first | (refine hK.out _ _ ?_; clear hK K) | (refine iteI (fun h => hK.out _ _ ?_) (fun h => hK.out _ _ ?_) <;> clear hK K)))
    simp only [resultsR, resultsL, resultA, expK_int, expK_bool, expK_str, expK_agg, expK_own, expK_tsl, resK_some, go_sem, reduceIte, Nat.reduceAdd, Nat.reduceEqDiff, Nat.reduceLT, Nat.reduceLeDiff, wpK_assignN ty33 rfl, List.getElem?_cons_succ, getElem?_len, ints_len]
    simp
  | cons x post =>
    have i1 := idx_sls hv (X := CX) ty33 ty3 rfl (ints_mid pre x post) (k := .i64)
    have w1 := wrap_succ (n := pre.length) (by simp at ha; omega)
    have m1 := both_len pre b
    have p1 := (put1 false (both pre b) x (by simp at ha; omega)).rw
    repeat' (first | refine go1 ?_ | refine blockK_else rfl ?_ | (refine wpC_cond fun A B hA hB => ?_; simp only [go_sem, reduceIte, Nat.reduceAdd, Nat.reduceEqDiff, Nat.reduceLT, Nat.reduceLeDiff, *, wpK_assignN ty33 rfl, getElem?_len, getElem?_lenAdd, set_len, set_lenAdd, len_mid, ints_len, List.length_map, lt_mid, List.nil_append, i1, w1, hw.snap, hv.snap, (has1 w b x hw (by omega)).rw, snap_sl, rowsOf_sl, ints_len, ints_take, List.take_length, Nat.zero_le, Nat.zero_add, Bool.true_or, p1]; first | (refine hA.out ?_; clear hA hB A B) | (refine hB.out ?_; clear hA hB A B) | (refine iteI (fun h => hA.out ?_) (fun h => hB.out ?_) <;> clear hA hB A B) | (refine iteI (fun h => hB.out ?_) (fun h => hA.out ?_) <;> clear hA hB A B)) | (refine wpO_cons fun K hK => ?_; simp only [go_sem, reduceIte, Nat.reduceAdd, Nat.reduceEqDiff, Nat.reduceLT, Nat.reduceLeDiff, *, wpK_assignN ty33 rfl, getElem?_len, getElem?_lenAdd, set_len, set_lenAdd, len_mid, ints_len, List.length_map, lt_mid, List.nil_append, i1, w1, hw.snap, hv.snap, (has1 w b x hw (by omega)).rw, snap_sl, rowsOf_sl, ints_len, ints_take, List.take_length, Nat.zero_le, Nat.zero_add, Bool.true_or, p1]; first | (refine hK.out _ _ ?_; clear hK K) | (refine iteI (fun h => hK.out _ _ ?_) (fun h => hK.out _ _ ?_) <;> clear hK K)))
    · have e : both (pre ++ [x]) b = put (both pre b) x := by rw [both_snoc, if_pos (by simpa using h)]
      refine loopF_next (pre ++ [x], post, G1 ++ .arr (ints (both pre b)) 1 0 true :: G) (Nat.lt_succ_self _) (by simp) ?_ ?_
      · ((try simp only [eraseA_cons, eraseA_nil, setL_cons, setL_nil, List.set_cons_zero, List.set_cons_succ]); all_goals (first | rfl | (simp only [len_snoc, ints_len, List.length_map, e]; done) | (simp only [len_snoc, len_mid, ints_len, List.length_map, List.length_append, List.length_cons, List.length_nil, Nat.zero_add, e]; done) | (simp only [len_mid, len_snoc, ints_len, List.length_map, List.length_append, List.length_cons, List.length_nil, Nat.zero_add, e]; rfl)))
      · exact ⟨[], by simp [e]⟩
    · have e : both (pre ++ [x]) b = both pre b := by rw [both_snoc, if_neg (by simpa using h)]
      refine loopF_next (pre ++ [x], post, G1) (Nat.lt_succ_self _) (by simp) ?_ ?_
      · ((try simp only [eraseA_cons, eraseA_nil, setL_cons, setL_nil, List.set_cons_zero, List.set_cons_succ]); all_goals (first | rfl | (simp only [len_snoc, ints_len, List.length_map, e]; done) | (simp only [len_snoc, len_mid, ints_len, List.length_map, List.length_append, List.length_cons, List.length_nil, Nat.zero_add, e]; done) | (simp only [len_mid, len_snoc, ints_len, List.length_map, List.length_append, List.length_cons, List.length_nil, Nat.zero_add, e]; rfl)))
      · exact ⟨G, by simp [e]⟩

/-! ### Bits -/
theorem wrapBV (x : BitVec 64) : IntKind.wrap .i64 (x.toNat : Int) = x.toInt := by
  have h := x.isLt
  have hd : ∀ n : Int, IntKind.wrap .i64 n = if decide (n % 18446744073709551616 ≥ 9223372036854775808) = true then n % 18446744073709551616 - 18446744073709551616 else n % 18446744073709551616 := fun n => rfl
  have e : (x.toNat : Int) % 18446744073709551616 = x.toNat := by omega
  rw [BitVec.toInt_eq_toNat_cond, hd, e]
  simp only [decide_eq_true_eq]
  split <;> split <;> omega
theorem ofInt_toInt {c : Int} (h : (Lit.int .i64 c).wf = true) : (BitVec.ofInt 64 c).toInt = c := by
  have h1 : -9223372036854775808 ≤ c := by simp [Lit.wf, IntKind.min, IntKind.signed, IntKind.bits] at h; omega
  have h2 : c ≤ 9223372036854775807 := by simp [Lit.wf, IntKind.max, IntKind.signed, IntKind.bits] at h; omega
  rw [BitVec.toInt_ofInt, Int.bmod_def]
  split <;> omega
theorem bA_iff {f m c : Int} (h : (Lit.int .i64 c).wf = true) : bA f m = c ↔ BitVec.ofInt 64 f &&& BitVec.ofInt 64 m = BitVec.ofInt 64 c := by
  have e : bA f m = (BitVec.ofInt 64 f &&& BitVec.ofInt 64 m).toInt := wrapBV _
  rw [e]
  constructor
  · intro h1
    apply BitVec.eq_of_toInt_eq
    rw [h1, ofInt_toInt h]
  · intro h1
    rw [h1, ofInt_toInt h]
def bO (a b : Int) : Int := IntKind.wrap .i64 ((BitVec.ofInt 64 a ||| BitVec.ofInt 64 b).toNat : Int)
theorem bO_bv (a b : Int) : BitVec.ofInt 64 (bO a b) = BitVec.ofInt 64 a ||| BitVec.ofInt 64 b := by
  have e : bO a b = (BitVec.ofInt 64 a ||| BitVec.ofInt 64 b).toInt := wrapBV _
  rw [e, BitVec.ofInt_toInt]
theorem bA_bv (a b : Int) : BitVec.ofInt 64 (bA a b) = BitVec.ofInt 64 a &&& BitVec.ofInt 64 b := by
  have e : bA a b = (BitVec.ofInt 64 a &&& BitVec.ofInt 64 b).toInt := wrapBV _
  rw [e, BitVec.ofInt_toInt]
theorem bO_wf (a b : Int) : (Lit.int .i64 (bO a b)).wf = true := by
  have e : bO a b = (BitVec.ofInt 64 a ||| BitVec.ofInt 64 b).toInt := wrapBV _
  have h1 := BitVec.toInt_lt (x := BitVec.ofInt 64 a ||| BitVec.ofInt 64 b)
  have h2 := BitVec.le_toInt (x := BitVec.ofInt 64 a ||| BitVec.ofInt 64 b)
  rw [e]
  generalize (BitVec.ofInt 64 a ||| BitVec.ofInt 64 b).toInt = z at *
  simp [Lit.wf, IntKind.min, IntKind.max, IntKind.signed, IntKind.bits]
  omega
/-- Both classes at once. -/
theorem meet_bv (F M1 M2 V1 V2 : BitVec 64) (h1 : V1 &&& M1 = V1) (h2 : V2 &&& M2 = V2) (h3 : V1 &&& M2 = V2 &&& M1) : F &&& (M1 ||| M2) = V1 ||| V2 ↔ F &&& M1 = V1 ∧ F &&& M2 = V2 := by
  have b1 : ∀ i, (V1.getLsbD i && M1.getLsbD i) = V1.getLsbD i := fun i => by rw [← BitVec.getLsbD_and, h1]
  have b2 : ∀ i, (V2.getLsbD i && M2.getLsbD i) = V2.getLsbD i := fun i => by rw [← BitVec.getLsbD_and, h2]
  have b3 : ∀ i, (V1.getLsbD i && M2.getLsbD i) = (V2.getLsbD i && M1.getLsbD i) := fun i => by rw [← BitVec.getLsbD_and, h3, BitVec.getLsbD_and]
  constructor
  · intro h
    have b : ∀ i, (F.getLsbD i && (M1.getLsbD i || M2.getLsbD i)) = (V1.getLsbD i || V2.getLsbD i) := fun i => by rw [← BitVec.getLsbD_or, ← BitVec.getLsbD_and, h, BitVec.getLsbD_or]
    constructor
    · apply BitVec.eq_of_getLsbD_eq
      intro i _
      have c0 := b i; have c1 := b1 i; have c2 := b2 i; have c3 := b3 i
      rw [BitVec.getLsbD_and]
      clear b b1 b2 b3 h h1 h2 h3
      generalize F.getLsbD i = f at *
      generalize M1.getLsbD i = m1 at *
      generalize M2.getLsbD i = m2 at *
      generalize V1.getLsbD i = v1 at *
      generalize V2.getLsbD i = v2 at *
      revert f m1 m2 v1 v2; decide
    · apply BitVec.eq_of_getLsbD_eq
      intro i _
      have c0 := b i; have c1 := b1 i; have c2 := b2 i; have c3 := b3 i
      rw [BitVec.getLsbD_and]
      clear b b1 b2 b3 h h1 h2 h3
      generalize F.getLsbD i = f at *
      generalize M1.getLsbD i = m1 at *
      generalize M2.getLsbD i = m2 at *
      generalize V1.getLsbD i = v1 at *
      generalize V2.getLsbD i = v2 at *
      revert f m1 m2 v1 v2; decide
  · rintro ⟨h4, h5⟩
    have b4 : ∀ i, (F.getLsbD i && M1.getLsbD i) = V1.getLsbD i := fun i => by rw [← BitVec.getLsbD_and, h4]
    have b5 : ∀ i, (F.getLsbD i && M2.getLsbD i) = V2.getLsbD i := fun i => by rw [← BitVec.getLsbD_and, h5]
    apply BitVec.eq_of_getLsbD_eq
    intro i _
    rw [BitVec.getLsbD_and, BitVec.getLsbD_or, BitVec.getLsbD_or, ← b4 i, ← b5 i]
    cases F.getLsbD i <;> simp

/- Segments: the law Joins. -/
open Go.Proofs
attribute [local go_sem] appK fz13 fz14 fz15 fz16 fz17 fz18 fz19 lenK_esl lenK_nils lenK_sl lenK_tsl rowsOf_esl rowsOf_nils rowsOf_sl rowsOf_tsl
set_option maxHeartbeats 4000000

theorem txt_from (ss : List Sg) : ∀ (l : List Int) (s : ByteArray), l.foldl (fun s n => if isS ss n = true then s ++ nmS ss n else s) s = s ++ txt ss l
  | [], s => by simp [txt]
  | x :: l, s => by
    have e : txt ss (x :: l) = (if isS ss x = true then nmS ss x else .empty) ++ txt ss l := by
      have h := txt_from ss l (if isS ss x = true then nmS ss x else .empty)
      rw [← h, txt, List.foldl_cons]
      congr 1
    rw [List.foldl_cons, txt_from ss l, e]
    split
    · rw [ByteArray.append_assoc]
    · rw [empty_app]
theorem txt_app (ss : List Sg) (a b : List Int) : txt ss (a ++ b) = txt ss a ++ txt ss b := by
  have : txt ss (a ++ b) = b.foldl (fun s n => if isS ss n = true then s ++ nmS ss n else s) (txt ss a) := by rw [txt, List.foldl_append]; rfl
  rw [this, txt_from]
theorem wordF_app {ss : List Sg} {a b : List Int} (ha : wordF ss a = 0) (hb : wordF ss b = 0) : decide (wordF ss (a ++ b) = 0) = decide (a.length + b.length ≤ 24) := by
  have key : ∀ l, wordF ss l = 0 → l.length ≠ 0 ∧ l.all (isS ss) = true := fun l h => by
    unfold wordF at h
    split at h
    · omega
    · split at h
      · omega
      · split at h
        · exact ⟨by assumption, by assumption⟩
        · omega
  obtain ⟨a1, a2⟩ := key a ha
  obtain ⟨b1, b2⟩ := key b hb
  have h0 : ¬ (a ++ b).length = 0 := by simp only [List.length_append]; omega
  have h1 : (a ++ b).all (isS ss) = true := by rw [List.all_append, a2, b2]; rfl
  rw [wordF, if_neg h0, h1, List.length_append, if_pos rfl]
  by_cases h : 24 < a.length + b.length
  · rw [if_pos h]
    have : ¬ a.length + b.length ≤ 24 := by omega
    simp [this]
  · rw [if_neg h]
    have : a.length + b.length ≤ 24 := by omega
    simp [this]
theorem ints_nil : ints [] = [] := rfl

theorem lawJoins (v : AV) (ss : List Sg) (a b : List Int) (hv : SLs 2 (ss.map encS) v) (hvs : v.stab = true) : EvV CX 10 [.agg [v], .tsl true 1 (ints a), .tsl true 1 (ints b)] (· = .bool true) := by
  have qa := awake.rw
  have c1 := hv.cell
  have s1 := hv.snap
  have q1 := (rightL v ss hv).rw
  have la : SLs 1 (ints a) (.tsl true 1 (ints a)) := .rows true
  have lb : SLs 1 (ints b) (.tsl true 1 (ints b)) := .rows true
  cases k : rightS ss with
  | false =>
    rw [k] at q1
    clear k
    refine EvV.walk rfl fn10 rfl nt10 rfl ?_
    simp only [List.length_cons, List.length_nil, List.cons_append, List.nil_append, Nat.reduceAdd, Nat.reduceSub, List.replicate]
    repeat' (first | refine go1 ?_ | refine blockK_else rfl ?_ | (refine wpC_cond fun A B hA hB => ?_; simp only [go_sem, reduceIte, Nat.reduceAdd, Nat.reduceEqDiff, Nat.reduceLT, Nat.reduceLeDiff, *, wpK_append ty33 rfl, wpK_buildSlice ty33 rfl, c1, s1, q1, qa]; first | (refine hA.out ?_; clear hA hB A B) | (refine hB.out ?_; clear hA hB A B) | (refine iteI (fun h => hA.out ?_) (fun h => hB.out ?_) <;> clear hA hB A B) | (refine iteI (fun h => hB.out ?_) (fun h => hA.out ?_) <;> clear hA hB A B)) | (refine wpO_cons fun K hK => ?_; simp only [go_sem, reduceIte, Nat.reduceAdd, Nat.reduceEqDiff, Nat.reduceLT, Nat.reduceLeDiff, *, wpK_append ty33 rfl, wpK_buildSlice ty33 rfl, c1, s1, q1, qa]; first | (refine hK.out _ _ ?_; clear hK K) | (refine iteI (fun h => hK.out _ _ ?_) (fun h => hK.out _ _ ?_) <;> clear hK K)))
    simp only [resultsR, resultsL, resultA, expK_int, expK_bool, expK_str, expK_agg, expK_own, expK_tsl, resK_some, go_sem, reduceIte, Nat.reduceAdd, Nat.reduceEqDiff, Nat.reduceLT, Nat.reduceLeDiff, wpK_append ty33 rfl, wpK_buildSlice ty33 rfl, ]
  | true =>
    obtain ⟨⟨h1, h2⟩, _⟩ := rightS_iff k
    rw [k] at q1
    clear k
    by_cases z1 : (100 : Int) < (a.length : Int)
    · refine EvV.walk rfl fn10 rfl nt10 rfl ?_
      simp only [List.length_cons, List.length_nil, List.cons_append, List.nil_append, Nat.reduceAdd, Nat.reduceSub, List.replicate]
      repeat' (first | refine go1 ?_ | refine blockK_else rfl ?_ | (refine wpC_cond fun A B hA hB => ?_; simp only [go_sem, reduceIte, Nat.reduceAdd, Nat.reduceEqDiff, Nat.reduceLT, Nat.reduceLeDiff, *, wpK_append ty33 rfl, wpK_buildSlice ty33 rfl, c1, s1, q1, qa, lenK_sls la, ints_len]; first | (refine hA.out ?_; clear hA hB A B) | (refine hB.out ?_; clear hA hB A B) | (refine iteI (fun h => hA.out ?_) (fun h => hB.out ?_) <;> clear hA hB A B) | (refine iteI (fun h => hB.out ?_) (fun h => hA.out ?_) <;> clear hA hB A B)) | (refine wpO_cons fun K hK => ?_; simp only [go_sem, reduceIte, Nat.reduceAdd, Nat.reduceEqDiff, Nat.reduceLT, Nat.reduceLeDiff, *, wpK_append ty33 rfl, wpK_buildSlice ty33 rfl, c1, s1, q1, qa, lenK_sls la, ints_len]; first | (refine hK.out _ _ ?_; clear hK K) | (refine iteI (fun h => hK.out _ _ ?_) (fun h => hK.out _ _ ?_) <;> clear hK K)))
      simp only [resultsR, resultsL, resultA, expK_int, expK_bool, expK_str, expK_agg, expK_own, expK_tsl, resK_some, go_sem, reduceIte, Nat.reduceAdd, Nat.reduceEqDiff, Nat.reduceLT, Nat.reduceLeDiff, wpK_append ty33 rfl, wpK_buildSlice ty33 rfl, ]
    by_cases z2 : (100 : Int) < (b.length : Int)
    · refine EvV.walk rfl fn10 rfl nt10 rfl ?_
      simp only [List.length_cons, List.length_nil, List.cons_append, List.nil_append, Nat.reduceAdd, Nat.reduceSub, List.replicate]
      repeat' (first | refine go1 ?_ | refine blockK_else rfl ?_ | (refine wpC_cond fun A B hA hB => ?_; simp only [go_sem, reduceIte, Nat.reduceAdd, Nat.reduceEqDiff, Nat.reduceLT, Nat.reduceLeDiff, *, wpK_append ty33 rfl, wpK_buildSlice ty33 rfl, c1, s1, q1, qa, lenK_sls la, lenK_sls lb, ints_len]; first | (refine hA.out ?_; clear hA hB A B) | (refine hB.out ?_; clear hA hB A B) | (refine iteI (fun h => hA.out ?_) (fun h => hB.out ?_) <;> clear hA hB A B) | (refine iteI (fun h => hB.out ?_) (fun h => hA.out ?_) <;> clear hA hB A B)) | (refine wpO_cons fun K hK => ?_; simp only [go_sem, reduceIte, Nat.reduceAdd, Nat.reduceEqDiff, Nat.reduceLT, Nat.reduceLeDiff, *, wpK_append ty33 rfl, wpK_buildSlice ty33 rfl, c1, s1, q1, qa, lenK_sls la, lenK_sls lb, ints_len]; first | (refine hK.out _ _ ?_; clear hK K) | (refine iteI (fun h => hK.out _ _ ?_) (fun h => hK.out _ _ ?_) <;> clear hK K)))
      simp only [resultsR, resultsL, resultA, expK_int, expK_bool, expK_str, expK_agg, expK_own, expK_tsl, resK_some, go_sem, reduceIte, Nat.reduceAdd, Nat.reduceEqDiff, Nat.reduceLT, Nat.reduceLeDiff, wpK_append ty33 rfl, wpK_buildSlice ty33 rfl, ]
    have qt := fun (l : List Int) (u : AV) (hu : SLs 1 (ints l) u) (hl : l.length ≤ 1000000) => (textM v u ss l hv hu hl (by omega) (fun x hx => by have := h2 x hx; omega)).rw
    have qw := fun (l : List Int) (u : AV) (hu : SLs 1 (ints l) u) (hl : l.length ≤ 1000000) => (wordM v u ss l hv hvs hu (by omega)).rw
    have ta := qt a _ la (by omega)
    have tb := qt b _ lb (by omega)
    have wa := qw a _ la (by omega)
    have wb := qw b _ lb (by omega)
    have ab : (a ++ b).length ≤ 1000000 := by simp only [List.length_append]; omega
    have hn := txt_size (ss := ss) (B := 100) h2
    have za := hn a.reverse a (by simp)
    have zb := hn b.reverse b (by simp)
    have hadd : ¬ (((txt ss a).size + (txt ss b).size : Nat) : Int) > 9223372036854775807 := by omega
    have heq := bL_eq (txt ss (a ++ b)) (txt ss a ++ txt ss b)
    rw [show decide (txt ss (a ++ b) = txt ss a ++ txt ss b) = true by simp [txt_app]] at heq
    have hwf : wordF ss a = 0 → wordF ss b = 0 → (decide (wordF ss (a ++ b) = 0) == decide (a.length + b.length ≤ 24)) = true := fun h h' => by rw [wordF_app h h']; exact beq_self_eq_true _
    have hsa : ∀ S, snap S (.tsl true 1 (ints a)) = some (.tsl true 1 (ints a)) := fun S => by simp only [snap]
    have hsb : ∀ S, snap S (.tsl true 1 (ints b)) = some (.tsl true 1 (ints b)) := fun S => by simp only [snap]
    obtain ⟨XX, hX⟩ : ∃ XX, (wordF ss (a ++ b) == 0) = XX := ⟨_, rfl⟩
    have hY : wordF ss a = 0 → wordF ss b = 0 → decide (((a.length + b.length : Nat) : Int) ≤ 24) = XX := fun h h' => by
      have e := wordF_app h h'
      rw [← hX, show (wordF ss (a ++ b) == 0) = decide (wordF ss (a ++ b) = 0) from rfl, e]
      simp only [decide_eq_decide]; omega
    have sz8 : (a.length + b.length) * 8 ≤ 140737488355328 ∧ a.length + b.length ≤ 140737488355328 := by omega
    have sa8 : a.length * 8 ≤ 140737488355328 ∧ a.length ≤ 140737488355328 := by omega
    have sb8 : b.length * 8 ≤ 140737488355328 ∧ b.length ≤ 140737488355328 := by omega
    have iab : ints a ++ ints b = ints (a ++ b) := (ints_append a b).symm
    have lab : (a ++ b).length = a.length + b.length := List.length_append
    have hh1 : Hold (a.length ≤ 100 ∧ b.length ≤ 100) := ⟨by omega⟩
    have tL : (ints (a ++ b)).take (a.length + b.length) = ints (a ++ b) := by rw [← lab, ← ints_len]; exact List.take_length
    clear hn za zb h1 h2 hwf ab
    have tu := qt (a ++ b) (.tsl false 1 (ints (a ++ b))) (.rows false) (by have := hh1.out; rw [lab]; omega)
    have wu := qw (a ++ b) (.tsl false 1 (ints (a ++ b))) (.rows false) (by have := hh1.out; rw [lab]; omega)
    clear qt qw
    generalize txt ss (a ++ b) = TU at *
    generalize txt ss a = TA at *
    generalize txt ss b = TB at *
    generalize wordF ss (a ++ b) = WU at *
    generalize wordF ss a = WA at *
    generalize wordF ss b = WB at *
    
    by_cases na : a.length = 0
    · by_cases nb : b.length = 0
      · have ea : a = [] := List.eq_nil_of_length_eq_zero na
        have eb : b = [] := List.eq_nil_of_length_eq_zero nb
        have eab : ints (a ++ b) = [] := by rw [ea, eb]; rfl
        rw [eab] at tu wu iab
        clear ea eb eab tL
        obtain ⟨sz8, sz9⟩ := sz8
        obtain ⟨sa8, sa9⟩ := sa8
        obtain ⟨sb8, sb9⟩ := sb8
        by_cases k1 : WA = 0
        · have b1 : (WA == 0) = true := by rw [k1]; rfl
          by_cases k2 : WB = 0
          · have hY := hY k1 k2
            have b2 : (WB == 0) = true := by rw [k2]; rfl
            rw [na, nb, Nat.zero_add] at hY
            clear k1 k2
            refine EvV.walk rfl fn10 rfl nt10 rfl ?_
            simp only [List.length_cons, List.length_nil, List.cons_append, List.nil_append, Nat.reduceAdd, Nat.reduceSub, List.replicate]
            repeat' (first | refine go1 ?_ | refine blockK_else rfl ?_ | (refine wpC_cond fun A B hA hB => ?_; simp only [go_sem, reduceIte, Nat.reduceAdd, Nat.reduceEqDiff, Nat.reduceLT, Nat.reduceLeDiff, *, wpK_append ty33 rfl, wpK_buildSlice ty33 rfl, c1, s1, hsa, hsb, q1, qa, ta, tb, wa, wb, tu, wu, b1, b2, iab, hadd, heq, strBin, hX, lenK_sls la, lenK_sls lb, lab, sz8, sz9, sa8, sa9, sb8, sb9, na, nb, ints_nil, List.append_nil, List.nil_append, List.length_nil, List.take_nil, Nat.add_zero, Nat.zero_add, set_lenAdd, List.set_cons_succ, List.set_cons_zero, List.getElem?_cons_succ, Nat.zero_le, getElem?_len, getElem?_lenAdd, set_len, List.append_assoc, List.length_append, List.cons_append, ints_len, snap_sl, rowsOf_sl, ints_len, ints_take, List.take_length, Nat.zero_le, Nat.zero_add, Bool.true_or]; first | (refine hA.out ?_; clear hA hB A B) | (refine hB.out ?_; clear hA hB A B) | (refine iteI (fun h => hA.out ?_) (fun h => hB.out ?_) <;> clear hA hB A B) | (refine iteI (fun h => hB.out ?_) (fun h => hA.out ?_) <;> clear hA hB A B)) | (refine wpO_cons fun K hK => ?_; simp only [go_sem, reduceIte, Nat.reduceAdd, Nat.reduceEqDiff, Nat.reduceLT, Nat.reduceLeDiff, *, wpK_append ty33 rfl, wpK_buildSlice ty33 rfl, c1, s1, hsa, hsb, q1, qa, ta, tb, wa, wb, tu, wu, b1, b2, iab, hadd, heq, strBin, hX, lenK_sls la, lenK_sls lb, lab, sz8, sz9, sa8, sa9, sb8, sb9, na, nb, ints_nil, List.append_nil, List.nil_append, List.length_nil, List.take_nil, Nat.add_zero, Nat.zero_add, set_lenAdd, List.set_cons_succ, List.set_cons_zero, List.getElem?_cons_succ, Nat.zero_le, getElem?_len, getElem?_lenAdd, set_len, List.append_assoc, List.length_append, List.cons_append, ints_len, snap_sl, rowsOf_sl, ints_len, ints_take, List.take_length, Nat.zero_le, Nat.zero_add, Bool.true_or]; first | (refine hK.out _ _ ?_; clear hK K) | (refine iteI (fun h => hK.out _ _ ?_) (fun h => hK.out _ _ ?_) <;> clear hK K)))
            simp only [resultsR, resultsL, resultA, expK_int, expK_bool, expK_str, expK_agg, expK_own, expK_tsl, resK_some, go_sem, reduceIte, Nat.reduceAdd, Nat.reduceEqDiff, Nat.reduceLT, Nat.reduceLeDiff, wpK_append ty33 rfl, wpK_buildSlice ty33 rfl, ]
          · have b2 : (WB == 0) = false := beq_false_of_ne k2
            clear k1 k2 hY
            refine EvV.walk rfl fn10 rfl nt10 rfl ?_
            simp only [List.length_cons, List.length_nil, List.cons_append, List.nil_append, Nat.reduceAdd, Nat.reduceSub, List.replicate]
            repeat' (first | refine go1 ?_ | refine blockK_else rfl ?_ | (refine wpC_cond fun A B hA hB => ?_; simp only [go_sem, reduceIte, Nat.reduceAdd, Nat.reduceEqDiff, Nat.reduceLT, Nat.reduceLeDiff, *, wpK_append ty33 rfl, wpK_buildSlice ty33 rfl, c1, s1, hsa, hsb, q1, qa, ta, tb, wa, wb, tu, wu, b1, b2, iab, hadd, heq, strBin, hX, lenK_sls la, lenK_sls lb, lab, sz8, sz9, sa8, sa9, sb8, sb9, na, nb, ints_nil, List.append_nil, List.nil_append, List.length_nil, List.take_nil, Nat.add_zero, Nat.zero_add, set_lenAdd, List.set_cons_succ, List.set_cons_zero, List.getElem?_cons_succ, Nat.zero_le, getElem?_len, getElem?_lenAdd, set_len, List.append_assoc, List.length_append, List.cons_append, ints_len, snap_sl, rowsOf_sl, ints_len, ints_take, List.take_length, Nat.zero_le, Nat.zero_add, Bool.true_or]; first | (refine hA.out ?_; clear hA hB A B) | (refine hB.out ?_; clear hA hB A B) | (refine iteI (fun h => hA.out ?_) (fun h => hB.out ?_) <;> clear hA hB A B) | (refine iteI (fun h => hB.out ?_) (fun h => hA.out ?_) <;> clear hA hB A B)) | (refine wpO_cons fun K hK => ?_; simp only [go_sem, reduceIte, Nat.reduceAdd, Nat.reduceEqDiff, Nat.reduceLT, Nat.reduceLeDiff, *, wpK_append ty33 rfl, wpK_buildSlice ty33 rfl, c1, s1, hsa, hsb, q1, qa, ta, tb, wa, wb, tu, wu, b1, b2, iab, hadd, heq, strBin, hX, lenK_sls la, lenK_sls lb, lab, sz8, sz9, sa8, sa9, sb8, sb9, na, nb, ints_nil, List.append_nil, List.nil_append, List.length_nil, List.take_nil, Nat.add_zero, Nat.zero_add, set_lenAdd, List.set_cons_succ, List.set_cons_zero, List.getElem?_cons_succ, Nat.zero_le, getElem?_len, getElem?_lenAdd, set_len, List.append_assoc, List.length_append, List.cons_append, ints_len, snap_sl, rowsOf_sl, ints_len, ints_take, List.take_length, Nat.zero_le, Nat.zero_add, Bool.true_or]; first | (refine hK.out _ _ ?_; clear hK K) | (refine iteI (fun h => hK.out _ _ ?_) (fun h => hK.out _ _ ?_) <;> clear hK K)))
            simp only [resultsR, resultsL, resultA, expK_int, expK_bool, expK_str, expK_agg, expK_own, expK_tsl, resK_some, go_sem, reduceIte, Nat.reduceAdd, Nat.reduceEqDiff, Nat.reduceLT, Nat.reduceLeDiff, wpK_append ty33 rfl, wpK_buildSlice ty33 rfl, ]
        · have b1 : (WA == 0) = false := beq_false_of_ne k1
          clear k1 hY
          refine EvV.walk rfl fn10 rfl nt10 rfl ?_
          simp only [List.length_cons, List.length_nil, List.cons_append, List.nil_append, Nat.reduceAdd, Nat.reduceSub, List.replicate]
          repeat' (first | refine go1 ?_ | refine blockK_else rfl ?_ | (refine wpC_cond fun A B hA hB => ?_; simp only [go_sem, reduceIte, Nat.reduceAdd, Nat.reduceEqDiff, Nat.reduceLT, Nat.reduceLeDiff, *, wpK_append ty33 rfl, wpK_buildSlice ty33 rfl, c1, s1, hsa, hsb, q1, qa, ta, tb, wa, wb, tu, wu, b1, iab, hadd, heq, strBin, hX, lenK_sls la, lenK_sls lb, lab, sz8, sz9, sa8, sa9, sb8, sb9, na, nb, ints_nil, List.append_nil, List.nil_append, List.length_nil, List.take_nil, Nat.add_zero, Nat.zero_add, set_lenAdd, List.set_cons_succ, List.set_cons_zero, List.getElem?_cons_succ, Nat.zero_le, getElem?_len, getElem?_lenAdd, set_len, List.append_assoc, List.length_append, List.cons_append, ints_len, snap_sl, rowsOf_sl, ints_len, ints_take, List.take_length, Nat.zero_le, Nat.zero_add, Bool.true_or]; first | (refine hA.out ?_; clear hA hB A B) | (refine hB.out ?_; clear hA hB A B) | (refine iteI (fun h => hA.out ?_) (fun h => hB.out ?_) <;> clear hA hB A B) | (refine iteI (fun h => hB.out ?_) (fun h => hA.out ?_) <;> clear hA hB A B)) | (refine wpO_cons fun K hK => ?_; simp only [go_sem, reduceIte, Nat.reduceAdd, Nat.reduceEqDiff, Nat.reduceLT, Nat.reduceLeDiff, *, wpK_append ty33 rfl, wpK_buildSlice ty33 rfl, c1, s1, hsa, hsb, q1, qa, ta, tb, wa, wb, tu, wu, b1, iab, hadd, heq, strBin, hX, lenK_sls la, lenK_sls lb, lab, sz8, sz9, sa8, sa9, sb8, sb9, na, nb, ints_nil, List.append_nil, List.nil_append, List.length_nil, List.take_nil, Nat.add_zero, Nat.zero_add, set_lenAdd, List.set_cons_succ, List.set_cons_zero, List.getElem?_cons_succ, Nat.zero_le, getElem?_len, getElem?_lenAdd, set_len, List.append_assoc, List.length_append, List.cons_append, ints_len, snap_sl, rowsOf_sl, ints_len, ints_take, List.take_length, Nat.zero_le, Nat.zero_add, Bool.true_or]; first | (refine hK.out _ _ ?_; clear hK K) | (refine iteI (fun h => hK.out _ _ ?_) (fun h => hK.out _ _ ?_) <;> clear hK K)))
          simp only [resultsR, resultsL, resultA, expK_int, expK_bool, expK_str, expK_agg, expK_own, expK_tsl, resK_some, go_sem, reduceIte, Nat.reduceAdd, Nat.reduceEqDiff, Nat.reduceLT, Nat.reduceLeDiff, wpK_append ty33 rfl, wpK_buildSlice ty33 rfl, ]
      · have ea : a = [] := List.eq_nil_of_length_eq_zero na
        have eab : ints (a ++ b) = ints b := by rw [ea]; rfl
        rw [eab] at tu wu iab
        have tL : (ints b).take b.length = ints b := by rw [← ints_len b]; exact List.take_length
        clear ea eab
        obtain ⟨sz8, sz9⟩ := sz8
        obtain ⟨sa8, sa9⟩ := sa8
        obtain ⟨sb8, sb9⟩ := sb8
        by_cases k1 : WA = 0
        · have b1 : (WA == 0) = true := by rw [k1]; rfl
          by_cases k2 : WB = 0
          · have hY := hY k1 k2
            have b2 : (WB == 0) = true := by rw [k2]; rfl
            rw [na, Nat.zero_add] at hY
            clear k1 k2
            refine EvV.walk rfl fn10 rfl nt10 rfl ?_
            simp only [List.length_cons, List.length_nil, List.cons_append, List.nil_append, Nat.reduceAdd, Nat.reduceSub, List.replicate]
            repeat' (first | refine go1 ?_ | refine blockK_else rfl ?_ | (refine wpC_cond fun A B hA hB => ?_; simp only [go_sem, reduceIte, Nat.reduceAdd, Nat.reduceEqDiff, Nat.reduceLT, Nat.reduceLeDiff, *, wpK_append ty33 rfl, wpK_buildSlice ty33 rfl, c1, s1, hsa, hsb, q1, qa, ta, tb, wa, wb, tu, wu, b1, b2, iab, tL, hadd, heq, strBin, hX, lenK_sls la, lenK_sls lb, lab, sz8, sz9, sa8, sa9, sb8, sb9, na, nb, ints_nil, List.append_nil, List.nil_append, List.length_nil, List.take_nil, Nat.add_zero, Nat.zero_add, set_lenAdd, List.set_cons_succ, List.set_cons_zero, List.getElem?_cons_succ, Nat.zero_le, getElem?_len, getElem?_lenAdd, set_len, List.append_assoc, List.length_append, List.cons_append, ints_len, snap_sl, rowsOf_sl, ints_len, ints_take, List.take_length, Nat.zero_le, Nat.zero_add, Bool.true_or]; first | (refine hA.out ?_; clear hA hB A B) | (refine hB.out ?_; clear hA hB A B) | (refine iteI (fun h => hA.out ?_) (fun h => hB.out ?_) <;> clear hA hB A B) | (refine iteI (fun h => hB.out ?_) (fun h => hA.out ?_) <;> clear hA hB A B)) | (refine wpO_cons fun K hK => ?_; simp only [go_sem, reduceIte, Nat.reduceAdd, Nat.reduceEqDiff, Nat.reduceLT, Nat.reduceLeDiff, *, wpK_append ty33 rfl, wpK_buildSlice ty33 rfl, c1, s1, hsa, hsb, q1, qa, ta, tb, wa, wb, tu, wu, b1, b2, iab, tL, hadd, heq, strBin, hX, lenK_sls la, lenK_sls lb, lab, sz8, sz9, sa8, sa9, sb8, sb9, na, nb, ints_nil, List.append_nil, List.nil_append, List.length_nil, List.take_nil, Nat.add_zero, Nat.zero_add, set_lenAdd, List.set_cons_succ, List.set_cons_zero, List.getElem?_cons_succ, Nat.zero_le, getElem?_len, getElem?_lenAdd, set_len, List.append_assoc, List.length_append, List.cons_append, ints_len, snap_sl, rowsOf_sl, ints_len, ints_take, List.take_length, Nat.zero_le, Nat.zero_add, Bool.true_or]; first | (refine hK.out _ _ ?_; clear hK K) | (refine iteI (fun h => hK.out _ _ ?_) (fun h => hK.out _ _ ?_) <;> clear hK K)))
            simp only [resultsR, resultsL, resultA, expK_int, expK_bool, expK_str, expK_agg, expK_own, expK_tsl, resK_some, go_sem, reduceIte, Nat.reduceAdd, Nat.reduceEqDiff, Nat.reduceLT, Nat.reduceLeDiff, wpK_append ty33 rfl, wpK_buildSlice ty33 rfl, ]
          · have b2 : (WB == 0) = false := beq_false_of_ne k2
            clear k1 k2 hY
            refine EvV.walk rfl fn10 rfl nt10 rfl ?_
            simp only [List.length_cons, List.length_nil, List.cons_append, List.nil_append, Nat.reduceAdd, Nat.reduceSub, List.replicate]
            repeat' (first | refine go1 ?_ | refine blockK_else rfl ?_ | (refine wpC_cond fun A B hA hB => ?_; simp only [go_sem, reduceIte, Nat.reduceAdd, Nat.reduceEqDiff, Nat.reduceLT, Nat.reduceLeDiff, *, wpK_append ty33 rfl, wpK_buildSlice ty33 rfl, c1, s1, hsa, hsb, q1, qa, ta, tb, wa, wb, tu, wu, b1, b2, iab, tL, hadd, heq, strBin, hX, lenK_sls la, lenK_sls lb, lab, sz8, sz9, sa8, sa9, sb8, sb9, na, nb, ints_nil, List.append_nil, List.nil_append, List.length_nil, List.take_nil, Nat.add_zero, Nat.zero_add, set_lenAdd, List.set_cons_succ, List.set_cons_zero, List.getElem?_cons_succ, Nat.zero_le, getElem?_len, getElem?_lenAdd, set_len, List.append_assoc, List.length_append, List.cons_append, ints_len, snap_sl, rowsOf_sl, ints_len, ints_take, List.take_length, Nat.zero_le, Nat.zero_add, Bool.true_or]; first | (refine hA.out ?_; clear hA hB A B) | (refine hB.out ?_; clear hA hB A B) | (refine iteI (fun h => hA.out ?_) (fun h => hB.out ?_) <;> clear hA hB A B) | (refine iteI (fun h => hB.out ?_) (fun h => hA.out ?_) <;> clear hA hB A B)) | (refine wpO_cons fun K hK => ?_; simp only [go_sem, reduceIte, Nat.reduceAdd, Nat.reduceEqDiff, Nat.reduceLT, Nat.reduceLeDiff, *, wpK_append ty33 rfl, wpK_buildSlice ty33 rfl, c1, s1, hsa, hsb, q1, qa, ta, tb, wa, wb, tu, wu, b1, b2, iab, tL, hadd, heq, strBin, hX, lenK_sls la, lenK_sls lb, lab, sz8, sz9, sa8, sa9, sb8, sb9, na, nb, ints_nil, List.append_nil, List.nil_append, List.length_nil, List.take_nil, Nat.add_zero, Nat.zero_add, set_lenAdd, List.set_cons_succ, List.set_cons_zero, List.getElem?_cons_succ, Nat.zero_le, getElem?_len, getElem?_lenAdd, set_len, List.append_assoc, List.length_append, List.cons_append, ints_len, snap_sl, rowsOf_sl, ints_len, ints_take, List.take_length, Nat.zero_le, Nat.zero_add, Bool.true_or]; first | (refine hK.out _ _ ?_; clear hK K) | (refine iteI (fun h => hK.out _ _ ?_) (fun h => hK.out _ _ ?_) <;> clear hK K)))
            simp only [resultsR, resultsL, resultA, expK_int, expK_bool, expK_str, expK_agg, expK_own, expK_tsl, resK_some, go_sem, reduceIte, Nat.reduceAdd, Nat.reduceEqDiff, Nat.reduceLT, Nat.reduceLeDiff, wpK_append ty33 rfl, wpK_buildSlice ty33 rfl, ]
        · have b1 : (WA == 0) = false := beq_false_of_ne k1
          clear k1 hY
          refine EvV.walk rfl fn10 rfl nt10 rfl ?_
          simp only [List.length_cons, List.length_nil, List.cons_append, List.nil_append, Nat.reduceAdd, Nat.reduceSub, List.replicate]
          repeat' (first | refine go1 ?_ | refine blockK_else rfl ?_ | (refine wpC_cond fun A B hA hB => ?_; simp only [go_sem, reduceIte, Nat.reduceAdd, Nat.reduceEqDiff, Nat.reduceLT, Nat.reduceLeDiff, *, wpK_append ty33 rfl, wpK_buildSlice ty33 rfl, c1, s1, hsa, hsb, q1, qa, ta, tb, wa, wb, tu, wu, b1, iab, tL, hadd, heq, strBin, hX, lenK_sls la, lenK_sls lb, lab, sz8, sz9, sa8, sa9, sb8, sb9, na, nb, ints_nil, List.append_nil, List.nil_append, List.length_nil, List.take_nil, Nat.add_zero, Nat.zero_add, set_lenAdd, List.set_cons_succ, List.set_cons_zero, List.getElem?_cons_succ, Nat.zero_le, getElem?_len, getElem?_lenAdd, set_len, List.append_assoc, List.length_append, List.cons_append, ints_len, snap_sl, rowsOf_sl, ints_len, ints_take, List.take_length, Nat.zero_le, Nat.zero_add, Bool.true_or]; first | (refine hA.out ?_; clear hA hB A B) | (refine hB.out ?_; clear hA hB A B) | (refine iteI (fun h => hA.out ?_) (fun h => hB.out ?_) <;> clear hA hB A B) | (refine iteI (fun h => hB.out ?_) (fun h => hA.out ?_) <;> clear hA hB A B)) | (refine wpO_cons fun K hK => ?_; simp only [go_sem, reduceIte, Nat.reduceAdd, Nat.reduceEqDiff, Nat.reduceLT, Nat.reduceLeDiff, *, wpK_append ty33 rfl, wpK_buildSlice ty33 rfl, c1, s1, hsa, hsb, q1, qa, ta, tb, wa, wb, tu, wu, b1, iab, tL, hadd, heq, strBin, hX, lenK_sls la, lenK_sls lb, lab, sz8, sz9, sa8, sa9, sb8, sb9, na, nb, ints_nil, List.append_nil, List.nil_append, List.length_nil, List.take_nil, Nat.add_zero, Nat.zero_add, set_lenAdd, List.set_cons_succ, List.set_cons_zero, List.getElem?_cons_succ, Nat.zero_le, getElem?_len, getElem?_lenAdd, set_len, List.append_assoc, List.length_append, List.cons_append, ints_len, snap_sl, rowsOf_sl, ints_len, ints_take, List.take_length, Nat.zero_le, Nat.zero_add, Bool.true_or]; first | (refine hK.out _ _ ?_; clear hK K) | (refine iteI (fun h => hK.out _ _ ?_) (fun h => hK.out _ _ ?_) <;> clear hK K)))
          simp only [resultsR, resultsL, resultA, expK_int, expK_bool, expK_str, expK_agg, expK_own, expK_tsl, resK_some, go_sem, reduceIte, Nat.reduceAdd, Nat.reduceEqDiff, Nat.reduceLT, Nat.reduceLeDiff, wpK_append ty33 rfl, wpK_buildSlice ty33 rfl, ]
    · by_cases nb : b.length = 0
      · have eb : b = [] := List.eq_nil_of_length_eq_zero nb
        have eab : ints (a ++ b) = ints a := by rw [eb, List.append_nil]
        rw [eab] at tu wu iab
        have tL : (ints a).take a.length = ints a := by rw [← ints_len a]; exact List.take_length
        clear eb eab
        obtain ⟨sz8, sz9⟩ := sz8
        obtain ⟨sa8, sa9⟩ := sa8
        obtain ⟨sb8, sb9⟩ := sb8
        by_cases k1 : WA = 0
        · have b1 : (WA == 0) = true := by rw [k1]; rfl
          by_cases k2 : WB = 0
          · have hY := hY k1 k2
            have b2 : (WB == 0) = true := by rw [k2]; rfl
            rw [nb, Nat.add_zero] at hY
            clear k1 k2
            refine EvV.walk rfl fn10 rfl nt10 rfl ?_
            simp only [List.length_cons, List.length_nil, List.cons_append, List.nil_append, Nat.reduceAdd, Nat.reduceSub, List.replicate]
            repeat' (first | refine go1 ?_ | refine blockK_else rfl ?_ | (refine wpC_cond fun A B hA hB => ?_; simp only [go_sem, reduceIte, Nat.reduceAdd, Nat.reduceEqDiff, Nat.reduceLT, Nat.reduceLeDiff, *, wpK_append ty33 rfl, wpK_buildSlice ty33 rfl, c1, s1, hsa, hsb, q1, qa, ta, tb, wa, wb, tu, wu, b1, b2, iab, tL, hadd, heq, strBin, hX, lenK_sls la, lenK_sls lb, lab, sz8, sz9, sa8, sa9, sb8, sb9, na, nb, ints_nil, List.append_nil, List.nil_append, List.length_nil, List.take_nil, Nat.add_zero, Nat.zero_add, set_lenAdd, List.set_cons_succ, List.set_cons_zero, List.getElem?_cons_succ, Nat.zero_le, getElem?_len, getElem?_lenAdd, set_len, List.append_assoc, List.length_append, List.cons_append, ints_len, snap_sl, rowsOf_sl, ints_len, ints_take, List.take_length, Nat.zero_le, Nat.zero_add, Bool.true_or]; first | (refine hA.out ?_; clear hA hB A B) | (refine hB.out ?_; clear hA hB A B) | (refine iteI (fun h => hA.out ?_) (fun h => hB.out ?_) <;> clear hA hB A B) | (refine iteI (fun h => hB.out ?_) (fun h => hA.out ?_) <;> clear hA hB A B)) | (refine wpO_cons fun K hK => ?_; simp only [go_sem, reduceIte, Nat.reduceAdd, Nat.reduceEqDiff, Nat.reduceLT, Nat.reduceLeDiff, *, wpK_append ty33 rfl, wpK_buildSlice ty33 rfl, c1, s1, hsa, hsb, q1, qa, ta, tb, wa, wb, tu, wu, b1, b2, iab, tL, hadd, heq, strBin, hX, lenK_sls la, lenK_sls lb, lab, sz8, sz9, sa8, sa9, sb8, sb9, na, nb, ints_nil, List.append_nil, List.nil_append, List.length_nil, List.take_nil, Nat.add_zero, Nat.zero_add, set_lenAdd, List.set_cons_succ, List.set_cons_zero, List.getElem?_cons_succ, Nat.zero_le, getElem?_len, getElem?_lenAdd, set_len, List.append_assoc, List.length_append, List.cons_append, ints_len, snap_sl, rowsOf_sl, ints_len, ints_take, List.take_length, Nat.zero_le, Nat.zero_add, Bool.true_or]; first | (refine hK.out _ _ ?_; clear hK K) | (refine iteI (fun h => hK.out _ _ ?_) (fun h => hK.out _ _ ?_) <;> clear hK K)))
            simp only [resultsR, resultsL, resultA, expK_int, expK_bool, expK_str, expK_agg, expK_own, expK_tsl, resK_some, go_sem, reduceIte, Nat.reduceAdd, Nat.reduceEqDiff, Nat.reduceLT, Nat.reduceLeDiff, wpK_append ty33 rfl, wpK_buildSlice ty33 rfl, ]
          · have b2 : (WB == 0) = false := beq_false_of_ne k2
            clear k1 k2 hY
            refine EvV.walk rfl fn10 rfl nt10 rfl ?_
            simp only [List.length_cons, List.length_nil, List.cons_append, List.nil_append, Nat.reduceAdd, Nat.reduceSub, List.replicate]
            repeat' (first | refine go1 ?_ | refine blockK_else rfl ?_ | (refine wpC_cond fun A B hA hB => ?_; simp only [go_sem, reduceIte, Nat.reduceAdd, Nat.reduceEqDiff, Nat.reduceLT, Nat.reduceLeDiff, *, wpK_append ty33 rfl, wpK_buildSlice ty33 rfl, c1, s1, hsa, hsb, q1, qa, ta, tb, wa, wb, tu, wu, b1, b2, iab, tL, hadd, heq, strBin, hX, lenK_sls la, lenK_sls lb, lab, sz8, sz9, sa8, sa9, sb8, sb9, na, nb, ints_nil, List.append_nil, List.nil_append, List.length_nil, List.take_nil, Nat.add_zero, Nat.zero_add, set_lenAdd, List.set_cons_succ, List.set_cons_zero, List.getElem?_cons_succ, Nat.zero_le, getElem?_len, getElem?_lenAdd, set_len, List.append_assoc, List.length_append, List.cons_append, ints_len, snap_sl, rowsOf_sl, ints_len, ints_take, List.take_length, Nat.zero_le, Nat.zero_add, Bool.true_or]; first | (refine hA.out ?_; clear hA hB A B) | (refine hB.out ?_; clear hA hB A B) | (refine iteI (fun h => hA.out ?_) (fun h => hB.out ?_) <;> clear hA hB A B) | (refine iteI (fun h => hB.out ?_) (fun h => hA.out ?_) <;> clear hA hB A B)) | (refine wpO_cons fun K hK => ?_; simp only [go_sem, reduceIte, Nat.reduceAdd, Nat.reduceEqDiff, Nat.reduceLT, Nat.reduceLeDiff, *, wpK_append ty33 rfl, wpK_buildSlice ty33 rfl, c1, s1, hsa, hsb, q1, qa, ta, tb, wa, wb, tu, wu, b1, b2, iab, tL, hadd, heq, strBin, hX, lenK_sls la, lenK_sls lb, lab, sz8, sz9, sa8, sa9, sb8, sb9, na, nb, ints_nil, List.append_nil, List.nil_append, List.length_nil, List.take_nil, Nat.add_zero, Nat.zero_add, set_lenAdd, List.set_cons_succ, List.set_cons_zero, List.getElem?_cons_succ, Nat.zero_le, getElem?_len, getElem?_lenAdd, set_len, List.append_assoc, List.length_append, List.cons_append, ints_len, snap_sl, rowsOf_sl, ints_len, ints_take, List.take_length, Nat.zero_le, Nat.zero_add, Bool.true_or]; first | (refine hK.out _ _ ?_; clear hK K) | (refine iteI (fun h => hK.out _ _ ?_) (fun h => hK.out _ _ ?_) <;> clear hK K)))
            simp only [resultsR, resultsL, resultA, expK_int, expK_bool, expK_str, expK_agg, expK_own, expK_tsl, resK_some, go_sem, reduceIte, Nat.reduceAdd, Nat.reduceEqDiff, Nat.reduceLT, Nat.reduceLeDiff, wpK_append ty33 rfl, wpK_buildSlice ty33 rfl, ]
        · have b1 : (WA == 0) = false := beq_false_of_ne k1
          clear k1 hY
          refine EvV.walk rfl fn10 rfl nt10 rfl ?_
          simp only [List.length_cons, List.length_nil, List.cons_append, List.nil_append, Nat.reduceAdd, Nat.reduceSub, List.replicate]
          repeat' (first | refine go1 ?_ | refine blockK_else rfl ?_ | (refine wpC_cond fun A B hA hB => ?_; simp only [go_sem, reduceIte, Nat.reduceAdd, Nat.reduceEqDiff, Nat.reduceLT, Nat.reduceLeDiff, *, wpK_append ty33 rfl, wpK_buildSlice ty33 rfl, c1, s1, hsa, hsb, q1, qa, ta, tb, wa, wb, tu, wu, b1, iab, tL, hadd, heq, strBin, hX, lenK_sls la, lenK_sls lb, lab, sz8, sz9, sa8, sa9, sb8, sb9, na, nb, ints_nil, List.append_nil, List.nil_append, List.length_nil, List.take_nil, Nat.add_zero, Nat.zero_add, set_lenAdd, List.set_cons_succ, List.set_cons_zero, List.getElem?_cons_succ, Nat.zero_le, getElem?_len, getElem?_lenAdd, set_len, List.append_assoc, List.length_append, List.cons_append, ints_len, snap_sl, rowsOf_sl, ints_len, ints_take, List.take_length, Nat.zero_le, Nat.zero_add, Bool.true_or]; first | (refine hA.out ?_; clear hA hB A B) | (refine hB.out ?_; clear hA hB A B) | (refine iteI (fun h => hA.out ?_) (fun h => hB.out ?_) <;> clear hA hB A B) | (refine iteI (fun h => hB.out ?_) (fun h => hA.out ?_) <;> clear hA hB A B)) | (refine wpO_cons fun K hK => ?_; simp only [go_sem, reduceIte, Nat.reduceAdd, Nat.reduceEqDiff, Nat.reduceLT, Nat.reduceLeDiff, *, wpK_append ty33 rfl, wpK_buildSlice ty33 rfl, c1, s1, hsa, hsb, q1, qa, ta, tb, wa, wb, tu, wu, b1, iab, tL, hadd, heq, strBin, hX, lenK_sls la, lenK_sls lb, lab, sz8, sz9, sa8, sa9, sb8, sb9, na, nb, ints_nil, List.append_nil, List.nil_append, List.length_nil, List.take_nil, Nat.add_zero, Nat.zero_add, set_lenAdd, List.set_cons_succ, List.set_cons_zero, List.getElem?_cons_succ, Nat.zero_le, getElem?_len, getElem?_lenAdd, set_len, List.append_assoc, List.length_append, List.cons_append, ints_len, snap_sl, rowsOf_sl, ints_len, ints_take, List.take_length, Nat.zero_le, Nat.zero_add, Bool.true_or]; first | (refine hK.out _ _ ?_; clear hK K) | (refine iteI (fun h => hK.out _ _ ?_) (fun h => hK.out _ _ ?_) <;> clear hK K)))
          simp only [resultsR, resultsL, resultA, expK_int, expK_bool, expK_str, expK_agg, expK_own, expK_tsl, resK_some, go_sem, reduceIte, Nat.reduceAdd, Nat.reduceEqDiff, Nat.reduceLT, Nat.reduceLeDiff, wpK_append ty33 rfl, wpK_buildSlice ty33 rfl, ]
      · obtain ⟨sz8, sz9⟩ := sz8
        obtain ⟨sa8, sa9⟩ := sa8
        obtain ⟨sb8, sb9⟩ := sb8
        by_cases k1 : WA = 0
        · have b1 : (WA == 0) = true := by rw [k1]; rfl
          by_cases k2 : WB = 0
          · have hY := hY k1 k2
            have b2 : (WB == 0) = true := by rw [k2]; rfl
            clear k1 k2
            refine EvV.walk rfl fn10 rfl nt10 rfl ?_
            simp only [List.length_cons, List.length_nil, List.cons_append, List.nil_append, Nat.reduceAdd, Nat.reduceSub, List.replicate]
            repeat' (first | refine go1 ?_ | refine blockK_else rfl ?_ | (refine wpC_cond fun A B hA hB => ?_; simp only [go_sem, reduceIte, Nat.reduceAdd, Nat.reduceEqDiff, Nat.reduceLT, Nat.reduceLeDiff, *, wpK_append ty33 rfl, wpK_buildSlice ty33 rfl, c1, s1, hsa, hsb, q1, qa, ta, tb, wa, wb, tu, wu, b1, b2, iab, tL, hadd, heq, strBin, hX, lenK_sls la, lenK_sls lb, lab, sz8, sz9, sa8, sa9, sb8, sb9, na, nb, ints_nil, List.append_nil, List.nil_append, List.length_nil, List.take_nil, Nat.add_zero, Nat.zero_add, set_lenAdd, List.set_cons_succ, List.set_cons_zero, List.getElem?_cons_succ, Nat.zero_le, getElem?_len, getElem?_lenAdd, set_len, List.append_assoc, List.length_append, List.cons_append, ints_len, snap_sl, rowsOf_sl, ints_len, ints_take, List.take_length, Nat.zero_le, Nat.zero_add, Bool.true_or]; first | (refine hA.out ?_; clear hA hB A B) | (refine hB.out ?_; clear hA hB A B) | (refine iteI (fun h => hA.out ?_) (fun h => hB.out ?_) <;> clear hA hB A B) | (refine iteI (fun h => hB.out ?_) (fun h => hA.out ?_) <;> clear hA hB A B)) | (refine wpO_cons fun K hK => ?_; simp only [go_sem, reduceIte, Nat.reduceAdd, Nat.reduceEqDiff, Nat.reduceLT, Nat.reduceLeDiff, *, wpK_append ty33 rfl, wpK_buildSlice ty33 rfl, c1, s1, hsa, hsb, q1, qa, ta, tb, wa, wb, tu, wu, b1, b2, iab, tL, hadd, heq, strBin, hX, lenK_sls la, lenK_sls lb, lab, sz8, sz9, sa8, sa9, sb8, sb9, na, nb, ints_nil, List.append_nil, List.nil_append, List.length_nil, List.take_nil, Nat.add_zero, Nat.zero_add, set_lenAdd, List.set_cons_succ, List.set_cons_zero, List.getElem?_cons_succ, Nat.zero_le, getElem?_len, getElem?_lenAdd, set_len, List.append_assoc, List.length_append, List.cons_append, ints_len, snap_sl, rowsOf_sl, ints_len, ints_take, List.take_length, Nat.zero_le, Nat.zero_add, Bool.true_or]; first | (refine hK.out _ _ ?_; clear hK K) | (refine iteI (fun h => hK.out _ _ ?_) (fun h => hK.out _ _ ?_) <;> clear hK K)))
            simp only [resultsR, resultsL, resultA, expK_int, expK_bool, expK_str, expK_agg, expK_own, expK_tsl, resK_some, go_sem, reduceIte, Nat.reduceAdd, Nat.reduceEqDiff, Nat.reduceLT, Nat.reduceLeDiff, wpK_append ty33 rfl, wpK_buildSlice ty33 rfl, ]
          · have b2 : (WB == 0) = false := beq_false_of_ne k2
            clear k1 k2 hY
            refine EvV.walk rfl fn10 rfl nt10 rfl ?_
            simp only [List.length_cons, List.length_nil, List.cons_append, List.nil_append, Nat.reduceAdd, Nat.reduceSub, List.replicate]
            repeat' (first | refine go1 ?_ | refine blockK_else rfl ?_ | (refine wpC_cond fun A B hA hB => ?_; simp only [go_sem, reduceIte, Nat.reduceAdd, Nat.reduceEqDiff, Nat.reduceLT, Nat.reduceLeDiff, *, wpK_append ty33 rfl, wpK_buildSlice ty33 rfl, c1, s1, hsa, hsb, q1, qa, ta, tb, wa, wb, tu, wu, b1, b2, iab, tL, hadd, heq, strBin, hX, lenK_sls la, lenK_sls lb, lab, sz8, sz9, sa8, sa9, sb8, sb9, na, nb, ints_nil, List.append_nil, List.nil_append, List.length_nil, List.take_nil, Nat.add_zero, Nat.zero_add, set_lenAdd, List.set_cons_succ, List.set_cons_zero, List.getElem?_cons_succ, Nat.zero_le, getElem?_len, getElem?_lenAdd, set_len, List.append_assoc, List.length_append, List.cons_append, ints_len, snap_sl, rowsOf_sl, ints_len, ints_take, List.take_length, Nat.zero_le, Nat.zero_add, Bool.true_or]; first | (refine hA.out ?_; clear hA hB A B) | (refine hB.out ?_; clear hA hB A B) | (refine iteI (fun h => hA.out ?_) (fun h => hB.out ?_) <;> clear hA hB A B) | (refine iteI (fun h => hB.out ?_) (fun h => hA.out ?_) <;> clear hA hB A B)) | (refine wpO_cons fun K hK => ?_; simp only [go_sem, reduceIte, Nat.reduceAdd, Nat.reduceEqDiff, Nat.reduceLT, Nat.reduceLeDiff, *, wpK_append ty33 rfl, wpK_buildSlice ty33 rfl, c1, s1, hsa, hsb, q1, qa, ta, tb, wa, wb, tu, wu, b1, b2, iab, tL, hadd, heq, strBin, hX, lenK_sls la, lenK_sls lb, lab, sz8, sz9, sa8, sa9, sb8, sb9, na, nb, ints_nil, List.append_nil, List.nil_append, List.length_nil, List.take_nil, Nat.add_zero, Nat.zero_add, set_lenAdd, List.set_cons_succ, List.set_cons_zero, List.getElem?_cons_succ, Nat.zero_le, getElem?_len, getElem?_lenAdd, set_len, List.append_assoc, List.length_append, List.cons_append, ints_len, snap_sl, rowsOf_sl, ints_len, ints_take, List.take_length, Nat.zero_le, Nat.zero_add, Bool.true_or]; first | (refine hK.out _ _ ?_; clear hK K) | (refine iteI (fun h => hK.out _ _ ?_) (fun h => hK.out _ _ ?_) <;> clear hK K)))
            simp only [resultsR, resultsL, resultA, expK_int, expK_bool, expK_str, expK_agg, expK_own, expK_tsl, resK_some, go_sem, reduceIte, Nat.reduceAdd, Nat.reduceEqDiff, Nat.reduceLT, Nat.reduceLeDiff, wpK_append ty33 rfl, wpK_buildSlice ty33 rfl, ]
        · have b1 : (WA == 0) = false := beq_false_of_ne k1
          clear k1 hY
          refine EvV.walk rfl fn10 rfl nt10 rfl ?_
          simp only [List.length_cons, List.length_nil, List.cons_append, List.nil_append, Nat.reduceAdd, Nat.reduceSub, List.replicate]
          repeat' (first | refine go1 ?_ | refine blockK_else rfl ?_ | (refine wpC_cond fun A B hA hB => ?_; simp only [go_sem, reduceIte, Nat.reduceAdd, Nat.reduceEqDiff, Nat.reduceLT, Nat.reduceLeDiff, *, wpK_append ty33 rfl, wpK_buildSlice ty33 rfl, c1, s1, hsa, hsb, q1, qa, ta, tb, wa, wb, tu, wu, b1, iab, tL, hadd, heq, strBin, hX, lenK_sls la, lenK_sls lb, lab, sz8, sz9, sa8, sa9, sb8, sb9, na, nb, ints_nil, List.append_nil, List.nil_append, List.length_nil, List.take_nil, Nat.add_zero, Nat.zero_add, set_lenAdd, List.set_cons_succ, List.set_cons_zero, List.getElem?_cons_succ, Nat.zero_le, getElem?_len, getElem?_lenAdd, set_len, List.append_assoc, List.length_append, List.cons_append, ints_len, snap_sl, rowsOf_sl, ints_len, ints_take, List.take_length, Nat.zero_le, Nat.zero_add, Bool.true_or]; first | (refine hA.out ?_; clear hA hB A B) | (refine hB.out ?_; clear hA hB A B) | (refine iteI (fun h => hA.out ?_) (fun h => hB.out ?_) <;> clear hA hB A B) | (refine iteI (fun h => hB.out ?_) (fun h => hA.out ?_) <;> clear hA hB A B)) | (refine wpO_cons fun K hK => ?_; simp only [go_sem, reduceIte, Nat.reduceAdd, Nat.reduceEqDiff, Nat.reduceLT, Nat.reduceLeDiff, *, wpK_append ty33 rfl, wpK_buildSlice ty33 rfl, c1, s1, hsa, hsb, q1, qa, ta, tb, wa, wb, tu, wu, b1, iab, tL, hadd, heq, strBin, hX, lenK_sls la, lenK_sls lb, lab, sz8, sz9, sa8, sa9, sb8, sb9, na, nb, ints_nil, List.append_nil, List.nil_append, List.length_nil, List.take_nil, Nat.add_zero, Nat.zero_add, set_lenAdd, List.set_cons_succ, List.set_cons_zero, List.getElem?_cons_succ, Nat.zero_le, getElem?_len, getElem?_lenAdd, set_len, List.append_assoc, List.length_append, List.cons_append, ints_len, snap_sl, rowsOf_sl, ints_len, ints_take, List.take_length, Nat.zero_le, Nat.zero_add, Bool.true_or]; first | (refine hK.out _ _ ?_; clear hK K) | (refine iteI (fun h => hK.out _ _ ?_) (fun h => hK.out _ _ ?_) <;> clear hK K)))
          simp only [resultsR, resultsL, resultA, expK_int, expK_bool, expK_str, expK_agg, expK_own, expK_tsl, resK_some, go_sem, reduceIte, Nat.reduceAdd, Nat.reduceEqDiff, Nat.reduceLT, Nat.reduceLeDiff, wpK_append ty33 rfl, wpK_buildSlice ty33 rfl, ]

/- Segments: the law Meets. -/
open Go.Proofs
attribute [local go_sem] ty30 eq30 br18 br19 br30 allocK fz48 fz49 fz50
set_option maxHeartbeats 4000000

theorem mem_memS {ss : List Sg} {m c x : Int} : x ∈ memS ss m c ↔ (∃ i : Nat, i < ss.length ∧ x = ((i + 1 : Nat) : Int)) ∧ inS ss m c x = true := by
  unfold memS memN
  rw [List.mem_map]
  constructor
  · rintro ⟨i, h, rfl⟩
    rw [List.mem_filter, List.mem_range] at h
    exact ⟨⟨i, h.1, rfl⟩, h.2⟩
  · rintro ⟨⟨i, h, rfl⟩, h2⟩
    exact ⟨i, by rw [List.mem_filter, List.mem_range]; exact ⟨h, h2⟩, rfl⟩
theorem memS_up (ss : List Sg) (m c : Int) : UpL (memS ss m c) := by
  unfold memS memN UpL
  rw [List.pairwise_map]
  refine List.Pairwise.imp (R := (· < ·)) (fun h => by omega) ?_
  exact List.Pairwise.filter _ List.pairwise_lt_range
theorem both_up (b : List Int) : ∀ (a out : List Int), UpL out → UpL (a.foldl (fun out x => if b.contains x then put out x else out) out)
  | [], _, h => h
  | x :: a, out, h => by
    rw [List.foldl_cons]
    refine both_up b a _ ?_
    split
    · exact put_up h
    · exact h
theorem mem_bothG (x : Int) (b : List Int) : ∀ (a out : List Int), x ∈ a.foldl (fun out x => if b.contains x then put out x else out) out ↔ x ∈ out ∨ (x ∈ a ∧ x ∈ b)
  | [], out => by simp
  | y :: a, out => by
    rw [List.foldl_cons, mem_bothG x b a]
    by_cases h : b.contains y = true
    · rw [if_pos h, mem_put]
      have : y ∈ b := by simpa using h
      constructor
      · rintro ((rfl | h1) | h1)
        · exact .inr ⟨by simp, this⟩
        · exact .inl h1
        · exact .inr ⟨by simp [h1.1], h1.2⟩
      · rintro (h1 | ⟨h1, h2⟩)
        · exact .inl (.inr h1)
        · rcases List.mem_cons.1 h1 with rfl | h1
          · exact .inl (.inl rfl)
          · exact .inr ⟨h1, h2⟩
    · rw [if_neg h]
      have : ¬ y ∈ b := by simpa using h
      constructor
      · rintro (h1 | h1)
        · exact .inl h1
        · exact .inr ⟨by simp [h1.1], h1.2⟩
      · rintro (h1 | ⟨h1, h2⟩)
        · exact .inl h1
        · rcases List.mem_cons.1 h1 with rfl | h1
          · exact absurd h2 this
          · exact .inr ⟨h1, h2⟩
theorem mem_both {x : Int} {a b : List Int} : x ∈ both a b ↔ x ∈ a ∧ x ∈ b := by
  unfold both; rw [mem_bothG]; simp

theorem meetS {ss : List Sg} {m1 m2 v1 v2 : Int} (w1 : (Lit.int .i64 v1).wf = true) (w2 : (Lit.int .i64 v2).wf = true) (h1 : bA v1 m1 = v1) (h2 : bA v2 m2 = v2) (h3 : bA v1 m2 = bA v2 m1) :
    memS ss (bO m1 m2) (bO v1 v2) = both (memS ss m1 v1) (memS ss m2 v2) := by
  refine up_unique (memS_up _ _ _) (both_up _ _ _ List.Pairwise.nil) fun x => ?_
  rw [mem_both, mem_memS, mem_memS, mem_memS]
  have e3 : BitVec.ofInt 64 v1 &&& BitVec.ofInt 64 m2 = BitVec.ofInt 64 v2 &&& BitVec.ofInt 64 m1 := by rw [← bA_bv, h3, bA_bv]
  have key : inS ss (bO m1 m2) (bO v1 v2) x = true ↔ inS ss m1 v1 x = true ∧ inS ss m2 v2 x = true := by
    unfold inS
    rw [Bool.and_eq_true, Bool.and_eq_true, Bool.and_eq_true, decide_eq_true_eq, decide_eq_true_eq, decide_eq_true_eq, bA_iff (bO_wf _ _), bA_iff w1, bA_iff w2, bO_bv, bO_bv, meet_bv _ _ _ _ _ ((bA_iff w1).1 h1) ((bA_iff w2).1 h2) e3]
    constructor
    · rintro ⟨a, b, c⟩; exact ⟨⟨a, b⟩, a, c⟩
    · rintro ⟨⟨a, b⟩, _, c⟩; exact ⟨a, b, c⟩
  rw [key]
  constructor
  · rintro ⟨a, b, c⟩; exact ⟨⟨a, b⟩, a, c⟩
  · rintro ⟨⟨a, b⟩, _, c⟩; exact ⟨a, b, c⟩

theorem intAnd (a b : Int) : intBin .and .i64 a b = some (.int .i64 (bA a b)) := rfl
theorem intOr (a b : Int) : intBin .or .i64 a b = some (.int .i64 (bO a b)) := rfl

theorem lawMeets (v : AV) (ss : List Sg) (m1 v1 m2 v2 : Int) (hv : SLs 2 (ss.map encS) v) (w1 : (Lit.int .i64 v1).wf = true) (w2 : (Lit.int .i64 v2).wf = true) :
    EvV CX 8 [.agg [v], .agg [.int .i64 m1, .int .i64 v1], .agg [.int .i64 m2, .int .i64 v2]] (· = .bool true) := by
  have qa := awake.rw
  have c1 := hv.cell
  have s1 := hv.snap
  have q1 := (rightL v ss hv).rw
  cases k : rightS ss with
  | false =>
    rw [k] at q1
    clear k w1 w2
    refine EvV.walk rfl fn8 rfl nt8 rfl ?_
    simp only [List.length_cons, List.length_nil, List.cons_append, List.nil_append, Nat.reduceAdd, Nat.reduceSub, List.replicate]
    repeat' (first | refine go1 ?_ | refine blockK_else rfl ?_ | (refine wpC_cond fun A B hA hB => ?_; simp only [go_sem, reduceIte, Nat.reduceAdd, Nat.reduceEqDiff, Nat.reduceLT, Nat.reduceLeDiff, *, and_self, c1, s1, q1, qa, ↓intAnd]; first | (refine hA.out ?_; clear hA hB A B) | (refine hB.out ?_; clear hA hB A B) | (refine iteI (fun h => hA.out ?_) (fun h => hB.out ?_) <;> clear hA hB A B) | (refine iteI (fun h => hB.out ?_) (fun h => hA.out ?_) <;> clear hA hB A B)) | (refine wpO_cons fun K hK => ?_; simp only [go_sem, reduceIte, Nat.reduceAdd, Nat.reduceEqDiff, Nat.reduceLT, Nat.reduceLeDiff, *, and_self, c1, s1, q1, qa, ↓intAnd]; first | (refine hK.out _ _ ?_; clear hK K) | (refine iteI (fun h => hK.out _ _ ?_) (fun h => hK.out _ _ ?_) <;> clear hK K)))
    simp only [resultsR, resultsL, resultA, expK_int, expK_bool, expK_str, expK_agg, expK_own, expK_tsl, resK_some, go_sem, reduceIte, Nat.reduceAdd, Nat.reduceEqDiff, Nat.reduceLT, Nat.reduceLeDiff, and_self, ]
  | true =>
    obtain ⟨⟨h1, _⟩, _⟩ := rightS_iff k
    rw [k] at q1
    clear k
    by_cases k1 : bA v1 m1 = v1
    rotate_left
    · have b1 : (bA v1 m1 == v1) = false := beq_false_of_ne k1
      clear w1 w2 h1 k1
      refine EvV.walk rfl fn8 rfl nt8 rfl ?_
      simp only [List.length_cons, List.length_nil, List.cons_append, List.nil_append, Nat.reduceAdd, Nat.reduceSub, List.replicate]
      repeat' (first | refine go1 ?_ | refine blockK_else rfl ?_ | (refine wpC_cond fun A B hA hB => ?_; simp only [go_sem, reduceIte, Nat.reduceAdd, Nat.reduceEqDiff, Nat.reduceLT, Nat.reduceLeDiff, *, and_self, c1, s1, q1, qa, ↓intAnd, b1]; first | (refine hA.out ?_; clear hA hB A B) | (refine hB.out ?_; clear hA hB A B) | (refine iteI (fun h => hA.out ?_) (fun h => hB.out ?_) <;> clear hA hB A B) | (refine iteI (fun h => hB.out ?_) (fun h => hA.out ?_) <;> clear hA hB A B)) | (refine wpO_cons fun K hK => ?_; simp only [go_sem, reduceIte, Nat.reduceAdd, Nat.reduceEqDiff, Nat.reduceLT, Nat.reduceLeDiff, *, and_self, c1, s1, q1, qa, ↓intAnd, b1]; first | (refine hK.out _ _ ?_; clear hK K) | (refine iteI (fun h => hK.out _ _ ?_) (fun h => hK.out _ _ ?_) <;> clear hK K)))
      simp only [resultsR, resultsL, resultA, expK_int, expK_bool, expK_str, expK_agg, expK_own, expK_tsl, resK_some, go_sem, reduceIte, Nat.reduceAdd, Nat.reduceEqDiff, Nat.reduceLT, Nat.reduceLeDiff, and_self, ]
    have b1 : (bA v1 m1 == v1) = true := by rw [k1]; exact beq_self_eq_true _
    by_cases k2 : bA v2 m2 = v2
    rotate_left
    · have b2 : (bA v2 m2 == v2) = false := beq_false_of_ne k2
      clear w1 w2 h1 k1 k2
      refine EvV.walk rfl fn8 rfl nt8 rfl ?_
      simp only [List.length_cons, List.length_nil, List.cons_append, List.nil_append, Nat.reduceAdd, Nat.reduceSub, List.replicate]
      repeat' (first | refine go1 ?_ | refine blockK_else rfl ?_ | (refine wpC_cond fun A B hA hB => ?_; simp only [go_sem, reduceIte, Nat.reduceAdd, Nat.reduceEqDiff, Nat.reduceLT, Nat.reduceLeDiff, *, and_self, c1, s1, q1, qa, ↓intAnd, b1, b2, List.getElem?_cons_succ]; first | (refine hA.out ?_; clear hA hB A B) | (refine hB.out ?_; clear hA hB A B) | (refine iteI (fun h => hA.out ?_) (fun h => hB.out ?_) <;> clear hA hB A B) | (refine iteI (fun h => hB.out ?_) (fun h => hA.out ?_) <;> clear hA hB A B)) | (refine wpO_cons fun K hK => ?_; simp only [go_sem, reduceIte, Nat.reduceAdd, Nat.reduceEqDiff, Nat.reduceLT, Nat.reduceLeDiff, *, and_self, c1, s1, q1, qa, ↓intAnd, b1, b2, List.getElem?_cons_succ]; first | (refine hK.out _ _ ?_; clear hK K) | (refine iteI (fun h => hK.out _ _ ?_) (fun h => hK.out _ _ ?_) <;> clear hK K)))
      simp only [resultsR, resultsL, resultA, expK_int, expK_bool, expK_str, expK_agg, expK_own, expK_tsl, resK_some, go_sem, reduceIte, Nat.reduceAdd, Nat.reduceEqDiff, Nat.reduceLT, Nat.reduceLeDiff, and_self, ]
    have b2 : (bA v2 m2 == v2) = true := by rw [k2]; exact beq_self_eq_true _
    by_cases k3 : bA v1 m2 = bA v2 m1
    rotate_left
    · have b3 : (bA v1 m2 == bA v2 m1) = false := beq_false_of_ne k3
      clear w1 w2 h1 k1 k2 k3
      refine EvV.walk rfl fn8 rfl nt8 rfl ?_
      simp only [List.length_cons, List.length_nil, List.cons_append, List.nil_append, Nat.reduceAdd, Nat.reduceSub, List.replicate]
      repeat' (first | refine go1 ?_ | refine blockK_else rfl ?_ | (refine wpC_cond fun A B hA hB => ?_; simp only [go_sem, reduceIte, Nat.reduceAdd, Nat.reduceEqDiff, Nat.reduceLT, Nat.reduceLeDiff, *, and_self, c1, s1, q1, qa, ↓intAnd, b1, b2, b3, List.getElem?_cons_succ]; first | (refine hA.out ?_; clear hA hB A B) | (refine hB.out ?_; clear hA hB A B) | (refine iteI (fun h => hA.out ?_) (fun h => hB.out ?_) <;> clear hA hB A B) | (refine iteI (fun h => hB.out ?_) (fun h => hA.out ?_) <;> clear hA hB A B)) | (refine wpO_cons fun K hK => ?_; simp only [go_sem, reduceIte, Nat.reduceAdd, Nat.reduceEqDiff, Nat.reduceLT, Nat.reduceLeDiff, *, and_self, c1, s1, q1, qa, ↓intAnd, b1, b2, b3, List.getElem?_cons_succ]; first | (refine hK.out _ _ ?_; clear hK K) | (refine iteI (fun h => hK.out _ _ ?_) (fun h => hK.out _ _ ?_) <;> clear hK K)))
      simp only [resultsR, resultsL, resultA, expK_int, expK_bool, expK_str, expK_agg, expK_own, expK_tsl, resK_some, go_sem, reduceIte, Nat.reduceAdd, Nat.reduceEqDiff, Nat.reduceLT, Nat.reduceLeDiff, and_self, ]
    have b3 : (bA v1 m2 == bA v2 m1) = true := by rw [k3]; exact beq_self_eq_true _
    have e := meetS (ss := ss) w1 w2 k1 k2 k3
    have l1 := memN_len ss m1 v1 ss.length
    have l2 := memN_len ss m2 v2 ss.length
    have q2 := (membersM v ss (bO m1 m2) (bO v1 v2) hv (by omega)).rw
    have q3 := (membersM v ss m1 v1 hv (by omega)).rw
    have q4 := (membersM v ss m2 v2 hv (by omega)).rw
    have q5 := (both1 (.tsl true 1 (ints (memS ss m1 v1))) (.tsl true 1 (ints (memS ss m2 v2))) _ _ (.rows true) (.rows true) (by unfold memS; omega) (by unfold memS; omega)).rw
    have lb := both_len (memS ss m1 v1) (memS ss m2 v2)
    rw [e] at q2
    have q6 := (same1 (.tsl true 1 (ints (both (memS ss m1 v1) (memS ss m2 v2)))) (.tsl true 1 (ints (both (memS ss m1 v1) (memS ss m2 v2)))) _ _ (.rows true) (.rows true) (by unfold memS at *; omega)).rw
    have s3 : ∀ l S, snap S (.tsl true 1 (ints l)) = some (.tsl true 1 (ints l)) := fun l S => by simp only [snap]
    simp only [decide_true] at q6
    clear w1 w2 h1 k1 k2 k3 e l1 l2 lb
    refine EvV.walk rfl fn8 rfl nt8 rfl ?_
    simp only [List.length_cons, List.length_nil, List.cons_append, List.nil_append, Nat.reduceAdd, Nat.reduceSub, List.replicate]
    repeat' (first | refine go1 ?_ | refine blockK_else rfl ?_ | (refine wpC_cond fun A B hA hB => ?_; simp only [go_sem, reduceIte, Nat.reduceAdd, Nat.reduceEqDiff, Nat.reduceLT, Nat.reduceLeDiff, *, and_self, c1, s1, s3, q1, q2, q3, q4, q5, q6, qa, ↓intAnd, ↓intOr, b1, b2, b3, List.getElem?_cons_succ]; first | (refine hA.out ?_; clear hA hB A B) | (refine hB.out ?_; clear hA hB A B) | (refine iteI (fun h => hA.out ?_) (fun h => hB.out ?_) <;> clear hA hB A B) | (refine iteI (fun h => hB.out ?_) (fun h => hA.out ?_) <;> clear hA hB A B)) | (refine wpO_cons fun K hK => ?_; simp only [go_sem, reduceIte, Nat.reduceAdd, Nat.reduceEqDiff, Nat.reduceLT, Nat.reduceLeDiff, *, and_self, c1, s1, s3, q1, q2, q3, q4, q5, q6, qa, ↓intAnd, ↓intOr, b1, b2, b3, List.getElem?_cons_succ]; first | (refine hK.out _ _ ?_; clear hK K) | (refine iteI (fun h => hK.out _ _ ?_) (fun h => hK.out _ _ ?_) <;> clear hK K)))
    simp only [resultsR, resultsL, resultA, expK_int, expK_bool, expK_str, expK_agg, expK_own, expK_tsl, resK_some, go_sem, reduceIte, Nat.reduceAdd, Nat.reduceEqDiff, Nat.reduceLT, Nat.reduceLeDiff, and_self, ]
end Go.Eng
