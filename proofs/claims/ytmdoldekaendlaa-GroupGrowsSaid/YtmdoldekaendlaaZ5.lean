/- Part 5 of the texts behind this claim. -/
import Derived.Test.YtmdoldekaendlaaZ4
import Derived.Test.YtmdoldekaendlaaCtxS
import Derived.Test.YtmdoldekaendlaaEngV

/- The reference's small functions over lists of numbers: Has, Same. -/
namespace Go.Eng
open Go.Proofs
set_option linter.unusedSimpArgs false
set_option linter.unusedVariables false
attribute [local irreducible] wpC wpO wp1 EvV EvR wpL
attribute [local go_sem] ty3 ty4 ty29 beq_iff_eq beq_eq_false_iff_ne Int.natCast_inj Bool.not_eq_false' op1_go wpK_box wpK_alloc wpK_load wpK_store wpK_binOp wpK_unOp wpK_fieldAddr wpK_field wpK_build wpK_indexAddr wpK_slice wpK_len wpK_extract wpK_nilCheck wpK_pick wpK_makeFunc wpK_call wpK_callT wpK_max wpK_min wpK_assignT wpK_moveT wpK_assignB wpK_moveB wpK_assignI wpK_moveI wpK_assignA wpK_moveA callK_fn snapL_nil snapL_cons snap_int snap_bool snap_str snap_tsl snap_agg snap_fn snap_flat adopt_int adopt_bool adopt_str adopt_agg adopt_osl adopt_tsl adopt_tup op1_guard grdK_bool grdK_undef condK_bool someK_some pairK_some nilK_ptr nilK_tptr boxK storeK evalA_tmp evalA_int evalA_bool evalA_agg evalA_fn evalA_nil ofC_int ofC_bool getA_zero getA_succ cells_int cells_agg cells_bool cells_sl cells_tsl cell_int cell_bool cell_str cell_sl cell_esl cell_tsl cell_ptr cell_tptr cell_fn cell_nils cell_nilf List.all_cons List.all_nil Bool.and_true Bool.and_self Bool.true_and putA_some putA_none List.set_cons_zero List.set_cons_succ List.length_cons List.length_nil List.nil_append List.cons_append stabL AV.stab fieldAddrA fieldA List.getElem?_cons_zero List.getElem?_cons_succ Nat.zero_add loadA rowOf Nat.le_refl and_self true_and and_true partA binA unA intBin eqBin eqCells eqCell Option.bind_some decide_true decide_false decide_eq_true_eq ite_not Bool.not_eq_true' decide_eq_false_iff_not Bool.false_eq_true Option.map_some Option.map_none Bool.not_true Bool.not_false buildA fillA patch List.take List.drop List.map_cons List.map_nil extK List.getD_cons_zero List.getD_cons_succ minmaxA minmaxGo adoptZ_false adoptZ_true freeze_int freeze_bool freeze_str freeze_flat freeze_agg freeze_osl freeze_tsl freeze_tup frz1_bool frz1_int frz1_str frz1_agg frz1_osl frz1_tsl bne Bool.false_and Bool.and_false ne_eq not_true_eq_false not_false_eq_true List.append_nil

theorem has1 (v : AV) (l : List Int) (n : Int) (hv : SLs 1 (ints l) v) (hl : l.length < 9223372036854775807) : EvV CX 24 [v, .int .i64 n] (· = .bool (l.contains n)) := by
  refine EvV.walk rfl fn24 rfl nt24 rfl ?_
  simp only [List.length_cons, List.length_nil, List.cons_append, List.nil_append, Nat.reduceAdd, Nat.reduceSub, List.replicate]
  repeat' (first | refine go1 ?_ | refine blockK_else rfl ?_ | (refine wpC_cond fun A B hA hB => ?_; simp only [go_sem, reduceIte, Nat.reduceAdd, Nat.reduceEqDiff, Nat.reduceLT, Nat.reduceLeDiff, *, and_self, lenK_sls hv]; first | (refine hA.out ?_; clear hA hB A B) | (refine hB.out ?_; clear hA hB A B) | (refine iteI (fun h => hA.out ?_) (fun h => hB.out ?_) <;> clear hA hB A B) | (refine iteI (fun h => hB.out ?_) (fun h => hA.out ?_) <;> clear hA hB A B)) | (refine wpO_cons fun K hK => ?_; simp only [go_sem, reduceIte, Nat.reduceAdd, Nat.reduceEqDiff, Nat.reduceLT, Nat.reduceLeDiff, *, and_self, lenK_sls hv]; first | (refine hK.out _ _ ?_; clear hK K) | (refine iteI (fun h => hK.out _ _ ?_) (fun h => hK.out _ _ ?_) <;> clear hK K)))
  refine wpC_each [4, 5, 9, 10, 11, 12, 13, 14, 15, 16, 17] 8 l (fun _ post => l.contains n = post.contains n) ?_ ?_ ?_ ?_
  · rfl
  · rfl
  · intro g G h2
    rw [h2]; simp only [garbA_cons, garbA_nil, setL_cons, setL_nil, List.set_cons_zero, List.set_cons_succ]
    repeat' (first | refine go1 ?_ | refine blockK_else rfl ?_ | (refine wpC_cond fun A B hA hB => ?_; simp only [go_sem, reduceIte, Nat.reduceAdd, Nat.reduceEqDiff, Nat.reduceLT, Nat.reduceLeDiff, *, and_self, ints_len, List.length_map, Int.lt_irrefl, List.nil_append]; first | (refine hA.out ?_; clear hA hB A B) | (refine hB.out ?_; clear hA hB A B) | (refine iteI (fun h => hA.out ?_) (fun h => hB.out ?_) <;> clear hA hB A B) | (refine iteI (fun h => hB.out ?_) (fun h => hA.out ?_) <;> clear hA hB A B)) | (refine wpO_cons fun K hK => ?_; simp only [go_sem, reduceIte, Nat.reduceAdd, Nat.reduceEqDiff, Nat.reduceLT, Nat.reduceLeDiff, *, and_self, ints_len, List.length_map, Int.lt_irrefl, List.nil_append]; first | (refine hK.out _ _ ?_; clear hK K) | (refine iteI (fun h => hK.out _ _ ?_) (fun h => hK.out _ _ ?_) <;> clear hK K)))
    simp only [resultsR, resultsL, resultA, expK_int, expK_bool, expK_str, expK_agg, expK_own, expK_tsl, resK_some, go_sem, reduceIte, Nat.reduceAdd, Nat.reduceEqDiff, Nat.reduceLT, Nat.reduceLeDiff, and_self, List.contains_nil]
  · intro g G pre x post h1 h2
    rw [h2]; subst h1; simp only [garbA_cons, garbA_nil, setL_cons, setL_nil, List.set_cons_zero, List.set_cons_succ]
    have i1 := idx_sls hv (X := CX) ty29 ty3 rfl (ints_mid pre x post) (k := .i64)
    have w1 := wrap_succ (n := pre.length) (by simp at hl; omega)
    repeat' (first | refine go1 ?_ | refine blockK_else rfl ?_ | (refine wpC_cond fun A B hA hB => ?_; simp only [go_sem, reduceIte, Nat.reduceAdd, Nat.reduceEqDiff, Nat.reduceLT, Nat.reduceLeDiff, *, and_self, getElem?_len, getElem?_lenAdd, set_len, set_lenAdd, len_mid, ints_len, List.length_map, lt_mid, List.nil_append, i1, w1, beq_iff_eq]; first | (refine hA.out ?_; clear hA hB A B) | (refine hB.out ?_; clear hA hB A B) | (refine iteI (fun h => hA.out ?_) (fun h => hB.out ?_) <;> clear hA hB A B) | (refine iteI (fun h => hB.out ?_) (fun h => hA.out ?_) <;> clear hA hB A B)) | (refine wpO_cons fun K hK => ?_; simp only [go_sem, reduceIte, Nat.reduceAdd, Nat.reduceEqDiff, Nat.reduceLT, Nat.reduceLeDiff, *, and_self, getElem?_len, getElem?_lenAdd, set_len, set_lenAdd, len_mid, ints_len, List.length_map, lt_mid, List.nil_append, i1, w1, beq_iff_eq]; first | (refine hK.out _ _ ?_; clear hK K) | (refine iteI (fun h => hK.out _ _ ?_) (fun h => hK.out _ _ ?_) <;> clear hK K)))
    · simp only [resultsR, resultsL, resultA, expK_int, expK_bool, expK_str, expK_agg, expK_own, expK_tsl, resK_some, go_sem, reduceIte, Nat.reduceAdd, Nat.reduceEqDiff, Nat.reduceLT, Nat.reduceLeDiff, and_self, List.contains_cons]
      simp_all
    · refine each_next rfl ?_ ?_ ?_
      · have : ¬ n = x := fun e => h e.symm
        rw [List.contains_cons]; simp [this]
      · ((try simp only [eraseA_cons, eraseA_nil, setL_cons, setL_nil, List.set_cons_zero, List.set_cons_succ]); all_goals (first | rfl | (simp only [len_snoc, ints_len, List.length_map, ]; done) | (simp only [len_snoc, len_mid, ints_len, List.length_map, List.length_append, List.length_cons, List.length_nil, Nat.zero_add, ]; done) | (simp only [len_mid, len_snoc, ints_len, List.length_map, List.length_append, List.length_cons, List.length_nil, Nat.zero_add, ]; rfl)))
      · first | exact ⟨[], (List.append_nil _).symm⟩ | exact ⟨_, rfl⟩ | (simp only [List.append_assoc, List.cons_append, List.nil_append]; exact ⟨_, rfl⟩)

theorem same1 (v w : AV) (l m : List Int) (hv : SLs 1 (ints l) v) (hw : SLs 1 (ints m) w) (hl : l.length < 9223372036854775807) : EvV CX 15 [v, w] (· = .bool (decide (l = m))) := by
  refine EvV.walk rfl fn15 rfl nt15 rfl ?_
  simp only [List.length_cons, List.length_nil, List.cons_append, List.nil_append, Nat.reduceAdd, Nat.reduceSub, List.replicate]
  repeat' (first | refine go1 ?_ | refine blockK_else rfl ?_ | (refine wpC_cond fun A B hA hB => ?_; simp only [go_sem, reduceIte, Nat.reduceAdd, Nat.reduceEqDiff, Nat.reduceLT, Nat.reduceLeDiff, *, and_self, lenK_sls hv, lenK_sls hw, ints_len]; first | (refine hA.out ?_; clear hA hB A B) | (refine hB.out ?_; clear hA hB A B) | (refine iteI (fun h => hA.out ?_) (fun h => hB.out ?_) <;> clear hA hB A B) | (refine iteI (fun h => hB.out ?_) (fun h => hA.out ?_) <;> clear hA hB A B)) | (refine wpO_cons fun K hK => ?_; simp only [go_sem, reduceIte, Nat.reduceAdd, Nat.reduceEqDiff, Nat.reduceLT, Nat.reduceLeDiff, *, and_self, lenK_sls hv, lenK_sls hw, ints_len]; first | (refine hK.out _ _ ?_; clear hK K) | (refine iteI (fun h => hK.out _ _ ?_) (fun h => hK.out _ _ ?_) <;> clear hK K)))
  · have hlen := h; clear h
    refine wpC_each [4, 5, 14, 15, 16, 17, 18, 19, 20, 21, 22, 23, 24, 25] 13 l (fun pre post => ∃ post', m = pre ++ post') ?_ ?_ ?_ ?_
    · exact ⟨m, rfl⟩
    · rfl
    · intro g G h2
      obtain ⟨post', h2⟩ := h2
      have : post' = [] := by have := congrArg List.length h2; simp at this; exact List.eq_nil_of_length_eq_zero (by omega)
      subst this; simp only [List.append_nil] at h2; subst h2; simp only [garbA_cons, garbA_nil, setL_cons, setL_nil, List.set_cons_zero, List.set_cons_succ]
      repeat' (first | refine go1 ?_ | refine blockK_else rfl ?_ | (refine wpC_cond fun A B hA hB => ?_; simp only [go_sem, reduceIte, Nat.reduceAdd, Nat.reduceEqDiff, Nat.reduceLT, Nat.reduceLeDiff, *, and_self, ints_len, List.length_map, Int.lt_irrefl, List.nil_append]; first | (refine hA.out ?_; clear hA hB A B) | (refine hB.out ?_; clear hA hB A B) | (refine iteI (fun h => hA.out ?_) (fun h => hB.out ?_) <;> clear hA hB A B) | (refine iteI (fun h => hB.out ?_) (fun h => hA.out ?_) <;> clear hA hB A B)) | (refine wpO_cons fun K hK => ?_; simp only [go_sem, reduceIte, Nat.reduceAdd, Nat.reduceEqDiff, Nat.reduceLT, Nat.reduceLeDiff, *, and_self, ints_len, List.length_map, Int.lt_irrefl, List.nil_append]; first | (refine hK.out _ _ ?_; clear hK K) | (refine iteI (fun h => hK.out _ _ ?_) (fun h => hK.out _ _ ?_) <;> clear hK K)))
      simp only [resultsR, resultsL, resultA, expK_int, expK_bool, expK_str, expK_agg, expK_own, expK_tsl, resK_some, go_sem, reduceIte, Nat.reduceAdd, Nat.reduceEqDiff, Nat.reduceLT, Nat.reduceLeDiff, and_self, ]
    · intro g G pre x post h1 h2
      obtain ⟨post', h2⟩ := h2
      cases post' with
      | nil => subst h1 h2; simp at hlen
      | cons y post' =>
        subst h1 h2; simp only [garbA_cons, garbA_nil, setL_cons, setL_nil, List.set_cons_zero, List.set_cons_succ]
        have i1 := idx_sls hv (X := CX) ty29 ty3 rfl (ints_mid pre x post) (k := .i64)
        have i2 := idx_sls hw (X := CX) ty29 ty3 rfl (ints_mid pre y post') (k := .i64)
        have w1 := wrap_succ (n := pre.length) (by simp at hl; omega)
        repeat' (first | refine go1 ?_ | refine blockK_else rfl ?_ | (refine wpC_cond fun A B hA hB => ?_; simp only [go_sem, reduceIte, Nat.reduceAdd, Nat.reduceEqDiff, Nat.reduceLT, Nat.reduceLeDiff, *, and_self, getElem?_len, getElem?_lenAdd, set_len, set_lenAdd, len_mid, ints_len, List.length_map, lt_mid, List.nil_append, i1, i2, w1]; first | (refine hA.out ?_; clear hA hB A B) | (refine hB.out ?_; clear hA hB A B) | (refine iteI (fun h => hA.out ?_) (fun h => hB.out ?_) <;> clear hA hB A B) | (refine iteI (fun h => hB.out ?_) (fun h => hA.out ?_) <;> clear hA hB A B)) | (refine wpO_cons fun K hK => ?_; simp only [go_sem, reduceIte, Nat.reduceAdd, Nat.reduceEqDiff, Nat.reduceLT, Nat.reduceLeDiff, *, and_self, getElem?_len, getElem?_lenAdd, set_len, set_lenAdd, len_mid, ints_len, List.length_map, lt_mid, List.nil_append, i1, i2, w1]; first | (refine hK.out _ _ ?_; clear hK K) | (refine iteI (fun h => hK.out _ _ ?_) (fun h => hK.out _ _ ?_) <;> clear hK K)))
        · subst h
          refine each_next rfl ?_ ?_ ?_
          · exact ⟨post', by simp⟩
          · ((try simp only [eraseA_cons, eraseA_nil, setL_cons, setL_nil, List.set_cons_zero, List.set_cons_succ]); all_goals (first | rfl | (simp only [len_snoc, ints_len, List.length_map, ]; done) | (simp only [len_snoc, len_mid, ints_len, List.length_map, List.length_append, List.length_cons, List.length_nil, Nat.zero_add, ]; done) | (simp only [len_mid, len_snoc, ints_len, List.length_map, List.length_append, List.length_cons, List.length_nil, Nat.zero_add, ]; rfl)))
          · first | exact ⟨[], (List.append_nil _).symm⟩ | exact ⟨_, rfl⟩ | (simp only [List.append_assoc, List.cons_append, List.nil_append]; exact ⟨_, rfl⟩)
        · simp only [resultsR, resultsL, resultA, expK_int, expK_bool, expK_str, expK_agg, expK_own, expK_tsl, resK_some, go_sem, reduceIte, Nat.reduceAdd, Nat.reduceEqDiff, Nat.reduceLT, Nat.reduceLeDiff, and_self, ]
          simp [h]
  · simp only [resultsR, resultsL, resultA, expK_int, expK_bool, expK_str, expK_agg, expK_own, expK_tsl, resK_some, go_sem, reduceIte, Nat.reduceAdd, Nat.reduceEqDiff, Nat.reduceLT, Nat.reduceLeDiff, and_self, ]
    have : l ≠ m := by rintro rfl; simp at h
    simp [this]

/- Sets of numbers: Put, Minus. -/
open Go.Proofs
attribute [local go_sem] List.replicate Nat.one_mul Nat.reduceMul Nat.zero_mul appK bslA fz88 fz89 lenK_esl lenK_nils lenK_sl lenK_tsl nilsK rowsFill rowsOf_esl rowsOf_nils rowsOf_sl rowsOf_tsl br24 br29 fz77 fz78

def put : List Int → Int → List Int
  | [], n => [n]
  | x :: l, n => if x < n then x :: put l n else if x = n then n :: l else n :: x :: l

theorem put_len : ∀ (l : List Int) (n : Int), (put l n).length ≤ l.length + 1
  | [], n => by simp [put]
  | x :: l, n => by
    unfold put
    split
    · simp only [List.length_cons]; have := put_len l n; omega
    · split <;> simp

theorem put1 (st : Bool) (l : List Int) (n : Int) (hl : l.length ≤ 1099511627776) : EvV CX 29 [.tsl st 1 (ints l), .int .i64 n] (· = .osl 1 (ints (put l n))) := by
  have hv : SLs 1 (ints l) (.tsl st 1 (ints l)) := .rows st
  refine EvV.walk rfl fn29 rfl nt29 rfl ?_
  simp only [List.length_cons, List.length_nil, List.cons_append, List.nil_append, Nat.reduceAdd, Nat.reduceSub, List.replicate]
  repeat' (first | refine go1 ?_ | refine blockK_else rfl ?_ | (refine wpC_cond fun A B hA hB => ?_; simp only [go_sem, reduceIte, Nat.reduceAdd, Nat.reduceEqDiff, Nat.reduceLT, Nat.reduceLeDiff, *, wpK_append ty29 rfl, wpK_assignN ty29 rfl, wpK_buildSlice ty29 rfl, ]; first | (refine hA.out ?_; clear hA hB A B) | (refine hB.out ?_; clear hA hB A B) | (refine iteI (fun h => hA.out ?_) (fun h => hB.out ?_) <;> clear hA hB A B) | (refine iteI (fun h => hB.out ?_) (fun h => hA.out ?_) <;> clear hA hB A B)) | (refine wpO_cons fun K hK => ?_; simp only [go_sem, reduceIte, Nat.reduceAdd, Nat.reduceEqDiff, Nat.reduceLT, Nat.reduceLeDiff, *, wpK_append ty29 rfl, wpK_assignN ty29 rfl, wpK_buildSlice ty29 rfl, ]; first | (refine hK.out _ _ ?_; clear hK K) | (refine iteI (fun h => hK.out _ _ ?_) (fun h => hK.out _ _ ?_) <;> clear hK K)))
  refine wpC_loopF [7, 8, 9, 10, 11, 12, 13, 14, 15, 16, 17, 18, 19, 20, 21, 22, 23, 24, 25, 26, 27] (fun a : List Int × List Int => [(5, .sl 1 a.1.length 0 a.1.length 1), (6, .int .i64 a.1.length)]) (fun a G => .arr [] 1 0 true :: .arr (ints a.1) 1 0 true :: G)
    (fun a => l = a.1 ++ a.2 ∧ put l n = a.1 ++ put a.2 n) (fun a => a.2.length) ([], l) ⟨rfl, rfl⟩ ?_ ?_ ?_
  · rfl
  · exact ⟨[], rfl⟩
  rintro ⟨pre, post⟩ g G ⟨h1, h2⟩
  simp only at h1 h2
  rw [h2]; subst h1; simp only [garbA_cons, garbA_nil, setL_cons, setL_nil, List.set_cons_zero, List.set_cons_succ]
  simp only [List.length_append] at hl
  cases post with
  | nil =>
    simp only [List.append_nil] at *
    obtain ⟨b1, b2⟩ := app1 (n := pre.length) (by omega)
    have i3 := slice_from (X := CX) (st := st) (n := pre.length) (k := .i64) ty29 ty3 rfl (rows := ints pre) (rows' := []) (by rw [ints_len]; exact Nat.le_refl _) (by simp [ints])
    simp only [List.length_nil, Nat.add_zero] at hl
    repeat' (first | refine go1 ?_ | refine blockK_else rfl ?_ | (refine wpC_cond fun A B hA hB => ?_; simp only [go_sem, reduceIte, Nat.reduceAdd, Nat.reduceEqDiff, Nat.reduceLT, Nat.reduceLeDiff, *, wpK_append ty29 rfl, wpK_assignN ty29 rfl, wpK_buildSlice ty29 rfl, getElem?_len, getElem?_lenAdd, set_len, set_lenAdd, len_mid, ints_len, List.length_map, lt_mid, List.nil_append, ints_len, List.length_map, Int.lt_irrefl, List.nil_append, i3, b1, b2]; first | (refine hA.out ?_; clear hA hB A B) | (refine hB.out ?_; clear hA hB A B) | (refine iteI (fun h => hA.out ?_) (fun h => hB.out ?_) <;> clear hA hB A B) | (refine iteI (fun h => hB.out ?_) (fun h => hA.out ?_) <;> clear hA hB A B)) | (refine wpO_cons fun K hK => ?_; simp only [go_sem, reduceIte, Nat.reduceAdd, Nat.reduceEqDiff, Nat.reduceLT, Nat.reduceLeDiff, *, wpK_append ty29 rfl, wpK_assignN ty29 rfl, wpK_buildSlice ty29 rfl, getElem?_len, getElem?_lenAdd, set_len, set_lenAdd, len_mid, ints_len, List.length_map, lt_mid, List.nil_append, ints_len, List.length_map, Int.lt_irrefl, List.nil_append, i3, b1, b2]; first | (refine hK.out _ _ ?_; clear hK K) | (refine iteI (fun h => hK.out _ _ ?_) (fun h => hK.out _ _ ?_) <;> clear hK K)))
    · simp only [resultsR, resultsL, resultA, expK_int, expK_bool, expK_str, expK_agg, expK_own, expK_tsl, resK_some, go_sem, reduceIte, Nat.reduceAdd, Nat.reduceEqDiff, Nat.reduceLT, Nat.reduceLeDiff, wpK_append ty29 rfl, wpK_assignN ty29 rfl, wpK_buildSlice ty29 rfl, List.getElem?_cons_succ, ints_len, List.length_append]
      simp [put, ints]
  | cons x post =>
    obtain ⟨b1, b2⟩ := app1 (n := pre.length) (by omega)
    have b3 : (pre.length + 1 + post.length) * 8 ≤ 140737488355328 := by simp only [List.length_cons] at hl; omega
    have b4 : pre.length + 1 + post.length ≤ 140737488355328 := by omega
    have b5 : (pre.length + 1 + (post.length + 1)) * 8 ≤ 140737488355328 := by simp only [List.length_cons] at hl; omega
    have b6 : pre.length + 1 + (post.length + 1) ≤ 140737488355328 := by omega
    have i1 := idx_sls hv (X := CX) ty29 ty3 rfl (ints_mid pre x post) (k := .i64)
    have w1 := wrap_succ (n := pre.length) (by omega)
    have i3 := slice_from (X := CX) (st := st) (n := pre.length) (k := .i64) ty29 ty3 rfl (rows := ints (pre ++ x :: post)) (rows' := ints (x :: post)) (by rw [ints_len]; simp) (by rw [ints_drop]; simp)
    have i4 := slice_from (X := CX) (st := st) (n := pre.length + 1) (k := .i64) ty29 ty3 rfl (rows := ints (pre ++ x :: post)) (rows' := ints post) (by rw [ints_len]; simp) (by rw [ints_drop, ← List.drop_drop]; simp)
    by_cases hx : x = n
    · subst hx
      repeat' (first | refine go1 ?_ | refine blockK_else rfl ?_ | (refine wpC_cond fun A B hA hB => ?_; simp only [go_sem, reduceIte, Nat.reduceAdd, Nat.reduceEqDiff, Nat.reduceLT, Nat.reduceLeDiff, *, wpK_append ty29 rfl, wpK_assignN ty29 rfl, wpK_buildSlice ty29 rfl, getElem?_len, getElem?_lenAdd, set_len, set_lenAdd, len_mid, ints_len, List.length_map, lt_mid, List.nil_append, i1, i3, i4, w1, b1, b2, b3, b4, ints_len, Int.lt_irrefl, beq_self_eq_true]; first | (refine hA.out ?_; clear hA hB A B) | (refine hB.out ?_; clear hA hB A B) | (refine iteI (fun h => hA.out ?_) (fun h => hB.out ?_) <;> clear hA hB A B) | (refine iteI (fun h => hB.out ?_) (fun h => hA.out ?_) <;> clear hA hB A B)) | (refine wpO_cons fun K hK => ?_; simp only [go_sem, reduceIte, Nat.reduceAdd, Nat.reduceEqDiff, Nat.reduceLT, Nat.reduceLeDiff, *, wpK_append ty29 rfl, wpK_assignN ty29 rfl, wpK_buildSlice ty29 rfl, getElem?_len, getElem?_lenAdd, set_len, set_lenAdd, len_mid, ints_len, List.length_map, lt_mid, List.nil_append, i1, i3, i4, w1, b1, b2, b3, b4, ints_len, Int.lt_irrefl, beq_self_eq_true]; first | (refine hK.out _ _ ?_; clear hK K) | (refine iteI (fun h => hK.out _ _ ?_) (fun h => hK.out _ _ ?_) <;> clear hK K)))
      all_goals
        simp only [resultsR, resultsL, resultA, expK_int, expK_bool, expK_str, expK_agg, expK_own, expK_tsl, resK_some, go_sem, reduceIte, Nat.reduceAdd, Nat.reduceEqDiff, Nat.reduceLT, Nat.reduceLeDiff, wpK_append ty29 rfl, wpK_assignN ty29 rfl, wpK_buildSlice ty29 rfl, List.getElem?_cons_succ, ints_len, List.length_append, List.length_cons, *]
        simp [put, ints, List.eq_nil_of_length_eq_zero, *]
    · repeat' (first | refine go1 ?_ | refine blockK_else rfl ?_ | (refine wpC_cond fun A B hA hB => ?_; simp only [go_sem, reduceIte, Nat.reduceAdd, Nat.reduceEqDiff, Nat.reduceLT, Nat.reduceLeDiff, *, wpK_append ty29 rfl, wpK_assignN ty29 rfl, wpK_buildSlice ty29 rfl, getElem?_len, getElem?_lenAdd, set_len, set_lenAdd, len_mid, ints_len, List.length_map, lt_mid, List.nil_append, i1, i3, i4, w1, b1, b2, b5, b6, ints_len]; first | (refine hA.out ?_; clear hA hB A B) | (refine hB.out ?_; clear hA hB A B) | (refine iteI (fun h => hA.out ?_) (fun h => hB.out ?_) <;> clear hA hB A B) | (refine iteI (fun h => hB.out ?_) (fun h => hA.out ?_) <;> clear hA hB A B)) | (refine wpO_cons fun K hK => ?_; simp only [go_sem, reduceIte, Nat.reduceAdd, Nat.reduceEqDiff, Nat.reduceLT, Nat.reduceLeDiff, *, wpK_append ty29 rfl, wpK_assignN ty29 rfl, wpK_buildSlice ty29 rfl, getElem?_len, getElem?_lenAdd, set_len, set_lenAdd, len_mid, ints_len, List.length_map, lt_mid, List.nil_append, i1, i3, i4, w1, b1, b2, b5, b6, ints_len]; first | (refine hK.out _ _ ?_; clear hK K) | (refine iteI (fun h => hK.out _ _ ?_) (fun h => hK.out _ _ ?_) <;> clear hK K)))
      · refine loopF_next (pre ++ [x], post) (Nat.lt_succ_self _) ⟨by simp, by simp [put, h]⟩ ?_ ?_
        · ((try simp only [eraseA_cons, eraseA_nil, setL_cons, setL_nil, List.set_cons_zero, List.set_cons_succ]); all_goals (first | rfl | (simp only [len_snoc, ints_len, List.length_map, ]; done) | (simp only [len_snoc, len_mid, ints_len, List.length_map, List.length_append, List.length_cons, List.length_nil, Nat.zero_add, ]; done) | (simp only [len_mid, len_snoc, ints_len, List.length_map, List.length_append, List.length_cons, List.length_nil, Nat.zero_add, ]; rfl)))
        · exact ⟨_, by simp only [ints_append]; rfl⟩
      all_goals
        simp only [resultsR, resultsL, resultA, expK_int, expK_bool, expK_str, expK_agg, expK_own, expK_tsl, resK_some, go_sem, reduceIte, Nat.reduceAdd, Nat.reduceEqDiff, Nat.reduceLT, Nat.reduceLeDiff, wpK_append ty29 rfl, wpK_assignN ty29 rfl, wpK_buildSlice ty29 rfl, List.getElem?_cons_succ, ints_len, List.length_append, List.length_cons]
        simp [put, ints, *]

def minus (a b : List Int) : List Int := a.foldl (fun out x => if b.contains x then out else put out x) []

theorem minus_snoc (a b : List Int) (x : Int) : minus (a ++ [x]) b = if b.contains x then minus a b else put (minus a b) x := by simp [minus, List.foldl_append]

theorem minus_len (a b : List Int) : (minus a b).length ≤ a.length := by
  have : ∀ (l : List Int) (out : List Int), (l.foldl (fun out x => if b.contains x then out else put out x) out).length ≤ out.length + l.length := by
    intro l
    induction l with
    | nil => intro out; simp
    | cons x l ih =>
      intro out
      simp only [List.foldl_cons, List.length_cons]
      refine Nat.le_trans (ih _) ?_
      split
      · omega
      · have := put_len out x; omega
  simpa [minus] using this a []

theorem minus1 (v w : AV) (a b : List Int) (hv : SLs 1 (ints a) v) (hw : SLs 1 (ints b) w) (ha : a.length ≤ 1099511627776) (hb : b.length ≤ 1099511627776) : EvV CX 25 [v, w] (· = .osl 1 (ints (minus a b))) := by
  refine EvV.walk rfl fn25 rfl nt25 rfl ?_
  simp only [List.length_cons, List.length_nil, List.cons_append, List.nil_append, Nat.reduceAdd, Nat.reduceSub, List.replicate]
  repeat' (first | refine go1 ?_ | refine blockK_else rfl ?_ | (refine wpC_cond fun A B hA hB => ?_; simp only [go_sem, reduceIte, Nat.reduceAdd, Nat.reduceEqDiff, Nat.reduceLT, Nat.reduceLeDiff, *, wpK_assignN ty29 rfl, lenK_sls hv]; first | (refine hA.out ?_; clear hA hB A B) | (refine hB.out ?_; clear hA hB A B) | (refine iteI (fun h => hA.out ?_) (fun h => hB.out ?_) <;> clear hA hB A B) | (refine iteI (fun h => hB.out ?_) (fun h => hA.out ?_) <;> clear hA hB A B)) | (refine wpO_cons fun K hK => ?_; simp only [go_sem, reduceIte, Nat.reduceAdd, Nat.reduceEqDiff, Nat.reduceLT, Nat.reduceLeDiff, *, wpK_assignN ty29 rfl, lenK_sls hv]; first | (refine hK.out _ _ ?_; clear hK K) | (refine iteI (fun h => hK.out _ _ ?_) (fun h => hK.out _ _ ?_) <;> clear hK K)))
  refine wpC_loopF [6, 10, 11, 12, 13, 14, 15, 16, 17, 18, 19, 20, 21, 22, 23, 24, 25] (fun a : List Int × List Int × List Blk => [(5, .sl (a.2.2.length + 1) (minus a.1 b).length 0 (minus a.1 b).length 1), (9, .int .i64 a.1.length)]) (fun a G => .arr [] 1 0 true :: (a.2.2 ++ .arr (ints (minus a.1 b)) 1 0 true :: G))
    (fun p => a = p.1 ++ p.2.1) (fun a => a.2.1.length) ([], a, []) rfl ?_ ?_ ?_
  · rfl
  · exact ⟨[], rfl⟩
  rintro ⟨pre, post, G1⟩ g G h1
  simp only at h1
  subst h1; simp only [garbA_cons, garbA_nil, setL_cons, setL_nil, List.set_cons_zero, List.set_cons_succ]
  cases post with
  | nil =>
    simp only [List.append_nil] at *
    repeat' (first | refine go1 ?_ | refine blockK_else rfl ?_ | (refine wpC_cond fun A B hA hB => ?_; simp only [go_sem, reduceIte, Nat.reduceAdd, Nat.reduceEqDiff, Nat.reduceLT, Nat.reduceLeDiff, *, wpK_assignN ty29 rfl, getElem?_len, getElem?_lenAdd, set_len, set_lenAdd, len_mid, ints_len, List.length_map, lt_mid, List.nil_append, ints_len, List.length_map, Int.lt_irrefl, List.nil_append]; first | (refine hA.out ?_; clear hA hB A B) | (refine hB.out ?_; clear hA hB A B) | (refine iteI (fun h => hA.out ?_) (fun h => hB.out ?_) <;> clear hA hB A B) | (refine iteI (fun h => hB.out ?_) (fun h => hA.out ?_) <;> clear hA hB A B)) | (refine wpO_cons fun K hK => ?_; simp only [go_sem, reduceIte, Nat.reduceAdd, Nat.reduceEqDiff, Nat.reduceLT, Nat.reduceLeDiff, *, wpK_assignN ty29 rfl, getElem?_len, getElem?_lenAdd, set_len, set_lenAdd, len_mid, ints_len, List.length_map, lt_mid, List.nil_append, ints_len, List.length_map, Int.lt_irrefl, List.nil_append]; first | (refine hK.out _ _ ?_; clear hK K) | (refine iteI (fun h => hK.out _ _ ?_) (fun h => hK.out _ _ ?_) <;> clear hK K)))
    simp only [resultsR, resultsL, resultA, expK_int, expK_bool, expK_str, expK_agg, expK_own, expK_tsl, resK_some, go_sem, reduceIte, Nat.reduceAdd, Nat.reduceEqDiff, Nat.reduceLT, Nat.reduceLeDiff, wpK_assignN ty29 rfl, List.getElem?_cons_succ, getElem?_len, ints_len]
    simp
  | cons x post =>
    have i1 := idx_sls hv (X := CX) ty29 ty3 rfl (ints_mid pre x post) (k := .i64)
    have w1 := wrap_succ (n := pre.length) (by simp at ha; omega)
    have m1 := minus_len pre b
    have p1 := (put1 false (minus pre b) x (by simp at ha; omega)).rw
    repeat' (first | refine go1 ?_ | refine blockK_else rfl ?_ | (refine wpC_cond fun A B hA hB => ?_; simp only [go_sem, reduceIte, Nat.reduceAdd, Nat.reduceEqDiff, Nat.reduceLT, Nat.reduceLeDiff, *, wpK_assignN ty29 rfl, getElem?_len, getElem?_lenAdd, set_len, set_lenAdd, len_mid, ints_len, List.length_map, lt_mid, List.nil_append, i1, w1, hw.snap, hv.snap, (has1 w b x hw (by omega)).rw, snap_sl, rowsOf_sl, ints_len, ints_take, List.take_length, Nat.zero_le, Nat.zero_add, Bool.true_or, p1]; first | (refine hA.out ?_; clear hA hB A B) | (refine hB.out ?_; clear hA hB A B) | (refine iteI (fun h => hA.out ?_) (fun h => hB.out ?_) <;> clear hA hB A B) | (refine iteI (fun h => hB.out ?_) (fun h => hA.out ?_) <;> clear hA hB A B)) | (refine wpO_cons fun K hK => ?_; simp only [go_sem, reduceIte, Nat.reduceAdd, Nat.reduceEqDiff, Nat.reduceLT, Nat.reduceLeDiff, *, wpK_assignN ty29 rfl, getElem?_len, getElem?_lenAdd, set_len, set_lenAdd, len_mid, ints_len, List.length_map, lt_mid, List.nil_append, i1, w1, hw.snap, hv.snap, (has1 w b x hw (by omega)).rw, snap_sl, rowsOf_sl, ints_len, ints_take, List.take_length, Nat.zero_le, Nat.zero_add, Bool.true_or, p1]; first | (refine hK.out _ _ ?_; clear hK K) | (refine iteI (fun h => hK.out _ _ ?_) (fun h => hK.out _ _ ?_) <;> clear hK K)))
    · have e : minus (pre ++ [x]) b = put (minus pre b) x := by rw [minus_snoc, h]; rfl
      refine loopF_next (pre ++ [x], post, G1 ++ .arr (ints (minus pre b)) 1 0 true :: G) (Nat.lt_succ_self _) (by simp) ?_ ?_
      · ((try simp only [eraseA_cons, eraseA_nil, setL_cons, setL_nil, List.set_cons_zero, List.set_cons_succ]); all_goals (first | rfl | (simp only [len_snoc, ints_len, List.length_map, e]; done) | (simp only [len_snoc, len_mid, ints_len, List.length_map, List.length_append, List.length_cons, List.length_nil, Nat.zero_add, e]; done) | (simp only [len_mid, len_snoc, ints_len, List.length_map, List.length_append, List.length_cons, List.length_nil, Nat.zero_add, e]; rfl)))
      · exact ⟨[], by simp [e]⟩
    · have e : minus (pre ++ [x]) b = minus pre b := by rw [minus_snoc, if_pos (by simpa using h)]
      refine loopF_next (pre ++ [x], post, G1) (Nat.lt_succ_self _) (by simp) ?_ ?_
      · ((try simp only [eraseA_cons, eraseA_nil, setL_cons, setL_nil, List.set_cons_zero, List.set_cons_succ]); all_goals (first | rfl | (simp only [len_snoc, ints_len, List.length_map, e]; done) | (simp only [len_snoc, len_mid, ints_len, List.length_map, List.length_append, List.length_cons, List.length_nil, Nat.zero_add, e]; done) | (simp only [len_mid, len_snoc, ints_len, List.length_map, List.length_append, List.length_cons, List.length_nil, Nat.zero_add, e]; rfl)))
      · exact ⟨G, by simp [e]⟩
end Go.Eng

/- Increasing lists and putting into them (plain). -/
namespace Go.Eng

theorem mem_put (x n : Int) : ∀ l : List Int, x ∈ put l n ↔ x = n ∨ x ∈ l
  | [] => by simp [put]
  | y :: l => by
    unfold put
    have ih := mem_put x n l
    split
    · rw [List.mem_cons, ih, List.mem_cons]
      constructor
      · rintro (h | h | h)
        · exact .inr (.inl h)
        · exact .inl h
        · exact .inr (.inr h)
      · rintro (h | h | h)
        · exact .inr (.inl h)
        · exact .inl h
        · exact .inr (.inr h)
    · split
      · rename_i h; subst h; simp
      · simp
theorem put_up {n : Int} : ∀ {l : List Int}, UpL l → UpL (put l n)
  | [], _ => by simp [put, UpL]
  | y :: l, h => by
    have h' := List.pairwise_cons.mp h
    unfold put
    split
    · rename_i hy
      refine List.pairwise_cons.mpr ⟨fun z hz => ?_, put_up h'.2⟩
      rcases (mem_put z n l).mp hz with e | e
      · omega
      · exact h'.1 z e
    · split
      · rename_i h1 h2; subst h2; exact h
      · rename_i h1 h2
        refine List.pairwise_cons.mpr ⟨fun z hz => ?_, h⟩
        rcases List.mem_cons.mp hz with e | e
        · omega
        · have := h'.1 z e; omega
theorem mem_puts (x : Int) : ∀ (b out : List Int), x ∈ b.foldl put out ↔ x ∈ out ∨ x ∈ b
  | [], out => by simp
  | y :: b, out => by
    rw [List.foldl_cons, mem_puts x b, mem_put, List.mem_cons]
    constructor
    · rintro ((h | h) | h)
      · exact .inr (.inl h)
      · exact .inl h
      · exact .inr (.inr h)
    · rintro (h | h | h)
      · exact .inl (.inr h)
      · exact .inl (.inl h)
      · exact .inr h
theorem puts_up : ∀ (b out : List Int), UpL out → UpL (b.foldl put out)
  | [], _, h => h
  | x :: b, out, h => puts_up b (put out x) (put_up h)
theorem puts_eq {b out : List Int} (h : UpL out) : b.foldl put out = sorted (out ++ b) :=
  up_unique (puts_up b out h) (sorted_up _) fun x => by rw [mem_puts, mem_sorted, List.mem_append]
theorem up_nil : UpL [] := List.Pairwise.nil
theorem sortR_eq (l : List Int) : l.foldl put [] = sorted l := puts_eq up_nil
theorem unionR_eq (a b : List Int) : b.foldl put (sorted a) = sorted (a ++ b) := by
  rw [puts_eq (sorted_up a)]
  exact sorted_eq fun x => by rw [List.mem_append, List.mem_append, mem_sorted]
theorem sorted_sorted (l : List Int) : sorted (sorted l) = sorted l := sorted_of_up (sorted_up l)
theorem put_eq {l : List Int} (h : UpL l) (n : Int) : put l n = sorted (n :: l) := up_unique (put_up h) (sorted_up _) fun x => by rw [mem_put, mem_sorted, List.mem_cons]
theorem mem_minus (x : Int) (a b : List Int) : x ∈ minus a b ↔ x ∈ a ∧ x ∉ b := by
  have : ∀ (l out : List Int), x ∈ l.foldl (fun out x => if b.contains x then out else put out x) out ↔ x ∈ out ∨ (x ∈ l ∧ x ∉ b) := by
    intro l
    induction l with
    | nil => intro out; simp
    | cons y l ih =>
      intro out
      rw [List.foldl_cons, ih]
      by_cases hy : b.contains y = true
      · rw [if_pos hy]
        have hy' : y ∈ b := by simpa using hy
        constructor
        · rintro (h | h)
          · exact .inl h
          · exact .inr ⟨by simp [h.1], h.2⟩
        · rintro (h | ⟨h, h2⟩)
          · exact .inl h
          · rcases List.mem_cons.mp h with e | e
            · subst e; exact absurd hy' h2
            · exact .inr ⟨e, h2⟩
      · rw [if_neg hy, mem_put]
        have hy' : y ∉ b := by simpa using hy
        constructor
        · rintro ((h | h) | h)
          · subst h; exact .inr ⟨by simp, hy'⟩
          · exact .inl h
          · exact .inr ⟨by simp [h.1], h.2⟩
        · rintro (h | ⟨h, h2⟩)
          · exact .inl (.inr h)
          · rcases List.mem_cons.mp h with e | e
            · exact .inl (.inl e)
            · exact .inr ⟨e, h2⟩
  simpa [minus] using this a []
theorem up_nodup {l : List Int} (h : UpL l) : l.Nodup := h.imp (by intro a b h e; omega)
end Go.Eng

/- What is below a group, as the reference finds it (plain). -/
namespace Go.Eng

/-- One round of the reference. -/
def moreB (gs : List Grp) (out more : List Int) : List Int := out.foldl (fun more x => if isG gs x then sorted (more ++ (fnd gs x).subs) else more) more
def rndB (gs : List Grp) : Nat → List Int → List Int
  | 0, out => out
  | k + 1, out => rndB gs k (moreB gs out out)
/-- What the reference computes. -/
def belowR (gs : List Grp) (n : Int) : List Int := rndB gs gs.length (if isG gs n then sorted (fnd gs n).subs else [])

theorem moreB_up {gs : List Grp} : ∀ {out more : List Int}, UpL more → UpL (moreB gs out more)
  | [], _, h => h
  | x :: out, more, h => by
    unfold moreB
    rw [List.foldl_cons]
    refine moreB_up (out := out) ?_
    split
    · exact sorted_up _
    · exact h
theorem mem_moreB {gs : List Grp} {y : Int} : ∀ {out more : List Int}, y ∈ moreB gs out more ↔ y ∈ more ∨ ∃ x ∈ out, isG gs x = true ∧ y ∈ (fnd gs x).subs
  | [], more => by simp [moreB]
  | x :: out, more => by
    unfold moreB
    rw [List.foldl_cons]
    have ih := fun m => mem_moreB (gs := gs) (y := y) (out := out) (more := m)
    unfold moreB at ih
    rw [ih]
    by_cases hx : isG gs x = true
    · rw [if_pos hx, mem_sorted, List.mem_append]
      constructor
      · rintro ((h | h) | ⟨z, h1, h2⟩)
        · exact .inl h
        · exact .inr ⟨x, by simp, hx, h⟩
        · exact .inr ⟨z, by simp [h1], h2⟩
      · rintro (h | ⟨z, h1, h2, h3⟩)
        · exact .inl (.inl h)
        · rcases List.mem_cons.mp h1 with e | e
          · subst e; exact .inl (.inr h3)
          · exact .inr ⟨z, e, h2, h3⟩
    · rw [if_neg hx]
      constructor
      · rintro (h | ⟨z, h1, h2⟩)
        · exact .inl h
        · exact .inr ⟨z, by simp [h1], h2⟩
      · rintro (h | ⟨z, h1, h2, h3⟩)
        · exact .inl h
        · rcases List.mem_cons.mp h1 with e | e
          · subst e; exact absurd h2 hx
          · exact .inr ⟨z, e, h2, h3⟩
/-- All Subs are groups. -/
def Clo (gs : List Grp) : Prop := ∀ g ∈ gs, ∀ s ∈ g.subs, isG gs s = true
theorem Clo.fnd {gs : List Grp} (h : Clo gs) {n s : Int} (hs : s ∈ (fnd gs n).subs) : isG gs s = true := by
  rcases fnd_cases gs n with ⟨_, e⟩ | ⟨_, _, e⟩
  · rw [e] at hs; simp [noG] at hs
  · exact h _ e s hs
def Closed (gs : List Grp) (out : List Int) : Prop := ∀ x ∈ out, isG gs x = true → ∀ s ∈ (Go.Eng.fnd gs x).subs, s ∈ out
theorem rnd_spec {gs : List Grp} (hc : Clo gs) (n : Int) : ∀ (k : Nat) (out : List Int), UpL out → (∀ x ∈ out, Rch gs n x) → (Closed gs out ∨ gs.length + 1 ≤ k + out.length) →
    UpL (rndB gs k out) ∧ (∀ x ∈ rndB gs k out, Rch gs n x) ∧ Closed gs (rndB gs k out) ∧ ∀ x ∈ out, x ∈ rndB gs k out := by
  intro k
  induction k with
  | zero =>
    intro out hu hr hk
    refine ⟨hu, hr, ?_, fun x hx => hx⟩
    rcases hk with hk | hk
    · exact hk
    · exfalso
      have : out.length ≤ (gs.map (·.id)).length := nodup_len (up_nodup hu) fun x hx => isG_mem.mp (hr x hx).isG
      simp at this; omega
  | succ k ih =>
    intro out hu hr hk
    have hu' : UpL (moreB gs out out) := moreB_up hu
    have hr' : ∀ x ∈ moreB gs out out, Rch gs n x := by
      intro x hx
      rcases mem_moreB.mp hx with h | ⟨z, h1, h2, h3⟩
      · exact hr x h
      · exact .step (hr z h1) h3 (hc.fnd h3)
    have hsub : ∀ x ∈ out, x ∈ moreB gs out out := fun x hx => mem_moreB.mpr (.inl hx)
    have hk2 : Closed gs (moreB gs out out) ∨ gs.length + 1 ≤ k + (moreB gs out out).length := by
      by_cases hcl : Closed gs out
      · left
        have e : moreB gs out out = out := up_unique hu' hu fun x => by
          rw [mem_moreB]
          constructor
          · rintro (h | ⟨z, h1, h2, h3⟩)
            · exact h
            · exact hcl z h1 h2 x h3
          · exact .inl
        rw [e]; exact hcl
      · right
        have hk' := hk.resolve_left hcl
        have : out.length + 1 ≤ (moreB gs out out).length := by
          have hlt : ∃ y, y ∈ moreB gs out out ∧ y ∉ out := by
            apply Classical.byContradiction
            intro hno
            apply hcl
            intro x hx hg s hs
            apply Classical.byContradiction
            intro hns
            exact hno ⟨s, mem_moreB.mpr (.inr ⟨x, hx, hg, hs⟩), hns⟩
          obtain ⟨y, hy, hyn⟩ := hlt
          have : (y :: out).length ≤ (moreB gs out out).length := nodup_len (List.nodup_cons.mpr ⟨hyn, up_nodup hu⟩) fun x hx => by
            rcases List.mem_cons.mp hx with e | e
            · subst e; exact hy
            · exact hsub x e
          simpa using this
        omega
    obtain ⟨i1, i2, i3, i4⟩ := ih (moreB gs out out) hu' hr' hk2
    exact ⟨i1, i2, i3, fun x hx => i4 x (hsub x hx)⟩
theorem belowR_eq {gs : List Grp} (hc : Clo gs) (n : Int) : belowR gs n = below gs n := by
  unfold belowR
  by_cases hg : isG gs n = true
  · rw [if_pos hg]
    have hr : ∀ x ∈ sorted (fnd gs n).subs, Rch gs n x := fun x hx => .one ((mem_sorted _ _).mp hx) (hc.fnd ((mem_sorted _ _).mp hx))
    have hk : Closed gs (sorted (fnd gs n).subs) ∨ gs.length + 1 ≤ gs.length + (sorted (fnd gs n).subs).length := by
      cases h : sorted (fnd gs n).subs with
      | nil => left; intro x hx; cases hx
      | cons x l => right; simp only [List.length_cons]; omega
    obtain ⟨h1, h2, h3, h4⟩ := rnd_spec hc n gs.length _ (sorted_up _) hr hk
    refine up_unique h1 (below_up gs n) fun x => ?_
    rw [mem_below]
    refine ⟨h2 x, fun hx => ?_⟩
    induction hx with
    | one h hg' => exact h4 _ ((mem_sorted _ _).mpr h)
    | step hy h hg' ih => exact h3 _ ih hy.isG _ h
  · rw [if_neg hg]
    have e : (fnd gs n).subs = [] := by
      rcases fnd_cases gs n with ⟨_, e⟩ | ⟨e, _⟩
      · rw [e]; rfl
      · exact absurd e hg
    have e1 : ∀ k, rndB gs k [] = [] := by
      intro k; induction k with
      | zero => rfl
      | succ k ih => rw [rndB]; exact ih
    rw [e1]
    refine up_unique up_nil (below_up gs n) fun x => ?_
    rw [mem_below]
    constructor
    · intro h; cases h
    · intro hx
      exfalso
      induction hx with
      | one h hg' => rw [e] at h; cases h
      | step hy h hg' ih => exact ih

/-- The reference's Members. -/
def unionP (gs : List Grp) (l : List Int) (out : List Int) : List Int := l.foldl (fun out x => if isG gs x then sorted (out ++ (fnd gs x).people) else out) out
def membersR (gs : List Grp) (n : Int) : List Int := if isG gs n then unionP gs (put (belowR gs n) n) [] else []
theorem unionP_up {gs : List Grp} : ∀ {l out : List Int}, UpL out → UpL (unionP gs l out)
  | [], _, h => h
  | x :: l, out, h => by
    unfold unionP
    rw [List.foldl_cons]
    refine unionP_up (l := l) ?_
    split
    · exact sorted_up _
    · exact h
theorem mem_unionP {gs : List Grp} {y : Int} : ∀ {l out : List Int}, y ∈ unionP gs l out ↔ y ∈ out ∨ ∃ x ∈ l, y ∈ (fnd gs x).people
  | [], out => by simp [unionP]
  | x :: l, out => by
    unfold unionP
    rw [List.foldl_cons]
    have ih := fun m => mem_unionP (gs := gs) (y := y) (l := l) (out := m)
    unfold unionP at ih
    rw [ih]
    by_cases hx : isG gs x = true
    · rw [if_pos hx, mem_sorted, List.mem_append]
      constructor
      · rintro ((h | h) | ⟨z, h1, h2⟩)
        · exact .inl h
        · exact .inr ⟨x, by simp, h⟩
        · exact .inr ⟨z, by simp [h1], h2⟩
      · rintro (h | ⟨z, h1, h3⟩)
        · exact .inl (.inl h)
        · rcases List.mem_cons.mp h1 with e | e
          · subst e; exact .inl (.inr h3)
          · exact .inr ⟨z, e, h3⟩
    · rw [if_neg hx]
      have e0 : (fnd gs x).people = [] := by
        rcases fnd_cases gs x with ⟨_, e⟩ | ⟨e, _⟩
        · rw [e]; rfl
        · exact absurd e hx
      constructor
      · rintro (h | ⟨z, h1, h2⟩)
        · exact .inl h
        · exact .inr ⟨z, by simp [h1], h2⟩
      · rintro (h | ⟨z, h1, h3⟩)
        · exact .inl h
        · rcases List.mem_cons.mp h1 with e | e
          · subst e; rw [e0] at h3; cases h3
          · exact .inr ⟨z, e, h3⟩
theorem mem_members {gs : List Grp} {n y : Int} : y ∈ members gs n ↔ y ∈ (fnd gs n).people ∨ ∃ x, Rch gs n x ∧ y ∈ (fnd gs x).people := by
  unfold members pplOf
  rw [mem_sorted, List.mem_flatMap]
  constructor
  · rintro ⟨x, h1, h2⟩
    rcases List.mem_cons.mp h1 with e | e
    · subst e; exact .inl h2
    · exact .inr ⟨x, mem_below.mp e, h2⟩
  · rintro (h | ⟨x, h1, h2⟩)
    · exact ⟨n, by simp, h⟩
    · exact ⟨x, by simp [mem_below.mpr h1], h2⟩
theorem members_up (gs : List Grp) (n : Int) : UpL (members gs n) := sorted_up _
theorem membersR_eq {gs : List Grp} (hc : Clo gs) (n : Int) : membersR gs n = members gs n := by
  unfold membersR
  by_cases hg : isG gs n = true
  · rw [if_pos hg, belowR_eq hc]
    refine up_unique (unionP_up up_nil) (members_up gs n) fun y => ?_
    rw [mem_unionP, mem_members]
    constructor
    · rintro (h | ⟨x, h1, h2⟩)
      · cases h
      · rcases (mem_put _ _ _).mp h1 with e | e
        · subst e; exact .inl h2
        · exact .inr ⟨x, mem_below.mp e, h2⟩
    · rintro (h | ⟨x, h1, h2⟩)
      · exact .inr ⟨n, (mem_put _ _ _).mpr (.inl rfl), h⟩
      · exact .inr ⟨x, (mem_put _ _ _).mpr (.inr (mem_below.mpr h1)), h2⟩
  · rw [if_neg hg]
    have e : fnd gs n = noG := by
      rcases fnd_cases gs n with ⟨_, e⟩ | ⟨e, _⟩
      · exact e
      · exact absurd e hg
    refine up_unique up_nil (members_up gs n) fun y => ?_
    rw [mem_members]
    constructor
    · intro h; cases h
    · rintro (h | ⟨x, h1, h2⟩)
      · rw [e] at h; cases h
      · exfalso
        clear h2
        induction h1 with
        | one h hg' => rw [e] at h; cases h
        | step hy h hg' ih => exact ih
end Go.Eng

/- Increasing lists as the code tests them. -/
namespace Go.Eng
open Go.Proofs
set_option linter.unusedSimpArgs false
set_option linter.unusedVariables false
attribute [local irreducible] wpC wpO wp1 EvV EvR wpL
attribute [local go_sem] ty3 ty4 ty29 beq_iff_eq beq_eq_false_iff_ne Int.natCast_inj Bool.not_eq_false' op1_go wpK_box wpK_alloc wpK_load wpK_store wpK_binOp wpK_unOp wpK_fieldAddr wpK_field wpK_build wpK_indexAddr wpK_slice wpK_len wpK_extract wpK_nilCheck wpK_pick wpK_makeFunc wpK_call wpK_callT wpK_max wpK_min wpK_assignT wpK_moveT wpK_assignB wpK_moveB wpK_assignI wpK_moveI wpK_assignA wpK_moveA callK_fn snapL_nil snapL_cons snap_int snap_bool snap_str snap_tsl snap_agg snap_fn snap_flat adopt_int adopt_bool adopt_str adopt_agg adopt_osl adopt_tsl adopt_tup op1_guard grdK_bool grdK_undef condK_bool someK_some pairK_some nilK_ptr nilK_tptr boxK storeK evalA_tmp evalA_int evalA_bool evalA_agg evalA_fn evalA_nil ofC_int ofC_bool getA_zero getA_succ cells_int cells_agg cells_bool cells_sl cells_tsl cell_int cell_bool cell_str cell_sl cell_esl cell_tsl cell_ptr cell_tptr cell_fn cell_nils cell_nilf List.all_cons List.all_nil Bool.and_true Bool.and_self Bool.true_and putA_some putA_none List.set_cons_zero List.set_cons_succ List.length_cons List.length_nil List.nil_append List.cons_append stabL AV.stab fieldAddrA fieldA List.getElem?_cons_zero List.getElem?_cons_succ Nat.zero_add loadA rowOf Nat.le_refl and_self true_and and_true partA binA unA intBin eqBin eqCells eqCell Option.bind_some decide_true decide_false decide_eq_true_eq ite_not Bool.not_eq_true' decide_eq_false_iff_not Bool.false_eq_true Option.map_some Option.map_none Bool.not_true Bool.not_false buildA fillA patch List.take List.drop List.map_cons List.map_nil extK List.getD_cons_zero List.getD_cons_succ minmaxA minmaxGo adoptZ_false adoptZ_true freeze_int freeze_bool freeze_str freeze_flat freeze_agg freeze_osl freeze_tsl freeze_tup frz1_bool frz1_int frz1_str frz1_agg frz1_osl frz1_tsl bne Bool.false_and Bool.and_false ne_eq not_true_eq_false not_false_eq_true List.append_nil
set_option maxHeartbeats 4000000

def upB : List Int → Bool
  | x :: y :: l => decide (x < y) && upB (y :: l)
  | _ => true

theorem incE (v : AV) (l : List Int) (hv : SLs 1 (ints l) v) (hl : l.length < 9223372036854775807) : EvV CX 38 [v] (· = .bool (upB l)) := by
  cases l with
  | nil =>
    refine EvV.walk rfl fn38 rfl nt38 rfl ?_
    simp only [List.length_cons, List.length_nil, List.cons_append, List.nil_append, Nat.reduceAdd, Nat.reduceSub, List.replicate]
    repeat' (first | refine go1 ?_ | refine blockK_else rfl ?_ | (refine wpC_cond fun A B hA hB => ?_; simp only [go_sem, reduceIte, Nat.reduceAdd, Nat.reduceEqDiff, Nat.reduceLT, Nat.reduceLeDiff, *, and_self, lenK_sls hv]; first | (refine hA.out ?_; clear hA hB A B) | (refine hB.out ?_; clear hA hB A B) | (refine iteI (fun h => hA.out ?_) (fun h => hB.out ?_) <;> clear hA hB A B) | (refine iteI (fun h => hB.out ?_) (fun h => hA.out ?_) <;> clear hA hB A B)) | (refine wpO_cons fun K hK => ?_; simp only [go_sem, reduceIte, Nat.reduceAdd, Nat.reduceEqDiff, Nat.reduceLT, Nat.reduceLeDiff, *, and_self, lenK_sls hv]; first | (refine hK.out _ _ ?_; clear hK K) | (refine iteI (fun h => hK.out _ _ ?_) (fun h => hK.out _ _ ?_) <;> clear hK K)))
    refine wpC_loopF [2, 4, 5, 6, 7, 8, 9, 10, 11, 12, 13, 14, 15, 16, 17, 18, 19] (fun _ : Unit => [(3, .int .i64 1)]) (fun _ H => H) (fun _ => True) (fun _ => 0) () trivial ?_ ⟨_, rfl⟩ ?_
    · rfl
    rintro _ g G _
    simp only [garbA_cons, garbA_nil, setL_cons, setL_nil, List.set_cons_zero, List.set_cons_succ]
    have z : ¬ (1 : Int) < ((0 : Nat) : Int) := by omega
    repeat' (first | refine go1 ?_ | refine blockK_else rfl ?_ | (refine wpC_cond fun A B hA hB => ?_; simp only [go_sem, reduceIte, Nat.reduceAdd, Nat.reduceEqDiff, Nat.reduceLT, Nat.reduceLeDiff, *, and_self, lenK_sls hv, ints_len, List.length_nil, z]; first | (refine hA.out ?_; clear hA hB A B) | (refine hB.out ?_; clear hA hB A B) | (refine iteI (fun h => hA.out ?_) (fun h => hB.out ?_) <;> clear hA hB A B) | (refine iteI (fun h => hB.out ?_) (fun h => hA.out ?_) <;> clear hA hB A B)) | (refine wpO_cons fun K hK => ?_; simp only [go_sem, reduceIte, Nat.reduceAdd, Nat.reduceEqDiff, Nat.reduceLT, Nat.reduceLeDiff, *, and_self, lenK_sls hv, ints_len, List.length_nil, z]; first | (refine hK.out _ _ ?_; clear hK K) | (refine iteI (fun h => hK.out _ _ ?_) (fun h => hK.out _ _ ?_) <;> clear hK K)))
    simp only [resultsR, resultsL, resultA, expK_int, expK_bool, expK_str, expK_agg, expK_own, expK_tsl, resK_some, go_sem, reduceIte, Nat.reduceAdd, Nat.reduceEqDiff, Nat.reduceLT, Nat.reduceLeDiff, and_self, ]
    rfl
  | cons x0 l0 =>
  refine EvV.walk rfl fn38 rfl nt38 rfl ?_
  simp only [List.length_cons, List.length_nil, List.cons_append, List.nil_append, Nat.reduceAdd, Nat.reduceSub, List.replicate]
  repeat' (first | refine go1 ?_ | refine blockK_else rfl ?_ | (refine wpC_cond fun A B hA hB => ?_; simp only [go_sem, reduceIte, Nat.reduceAdd, Nat.reduceEqDiff, Nat.reduceLT, Nat.reduceLeDiff, *, and_self, lenK_sls hv]; first | (refine hA.out ?_; clear hA hB A B) | (refine hB.out ?_; clear hA hB A B) | (refine iteI (fun h => hA.out ?_) (fun h => hB.out ?_) <;> clear hA hB A B) | (refine iteI (fun h => hB.out ?_) (fun h => hA.out ?_) <;> clear hA hB A B)) | (refine wpO_cons fun K hK => ?_; simp only [go_sem, reduceIte, Nat.reduceAdd, Nat.reduceEqDiff, Nat.reduceLT, Nat.reduceLeDiff, *, and_self, lenK_sls hv]; first | (refine hK.out _ _ ?_; clear hK K) | (refine iteI (fun h => hK.out _ _ ?_) (fun h => hK.out _ _ ?_) <;> clear hK K)))
  refine wpC_loopF [2, 4, 5, 6, 7, 8, 9, 10, 11, 12, 13, 14, 15, 16, 17, 18, 19] (fun p : List Int × Int × List Int => [(3, .int .i64 ((p.1.length + 1 : Nat) : Int))]) (fun _ H => H)
    (fun p => x0 :: l0 = p.1 ++ p.2.1 :: p.2.2 ∧ upB (x0 :: l0) = upB (p.2.1 :: p.2.2)) (fun p => p.2.2.length) ([], x0, l0) ⟨rfl, rfl⟩ ?_ ⟨_, rfl⟩ ?_
  · rfl
  rintro ⟨pre, x, post⟩ g G ⟨h1, h2⟩
  simp only at h1 h2
  rw [h2]
  generalize x0 :: l0 = l at *
  clear h2
  subst h1
  simp only [garbA_cons, garbA_nil, setL_cons, setL_nil, List.set_cons_zero, List.set_cons_succ]
  cases post with
  | nil =>
    have z : ¬ ((pre.length + 1 : Nat) : Int) < ((pre.length + 1 : Nat) : Int) := by omega
    repeat' (first | refine go1 ?_ | refine blockK_else rfl ?_ | (refine wpC_cond fun A B hA hB => ?_; simp only [go_sem, reduceIte, Nat.reduceAdd, Nat.reduceEqDiff, Nat.reduceLT, Nat.reduceLeDiff, *, and_self, lenK_sls hv, ints_len, len_snoc, z]; first | (refine hA.out ?_; clear hA hB A B) | (refine hB.out ?_; clear hA hB A B) | (refine iteI (fun h => hA.out ?_) (fun h => hB.out ?_) <;> clear hA hB A B) | (refine iteI (fun h => hB.out ?_) (fun h => hA.out ?_) <;> clear hA hB A B)) | (refine wpO_cons fun K hK => ?_; simp only [go_sem, reduceIte, Nat.reduceAdd, Nat.reduceEqDiff, Nat.reduceLT, Nat.reduceLeDiff, *, and_self, lenK_sls hv, ints_len, len_snoc, z]; first | (refine hK.out _ _ ?_; clear hK K) | (refine iteI (fun h => hK.out _ _ ?_) (fun h => hK.out _ _ ?_) <;> clear hK K)))
    simp only [resultsR, resultsL, resultA, expK_int, expK_bool, expK_str, expK_agg, expK_own, expK_tsl, resK_some, go_sem, reduceIte, Nat.reduceAdd, Nat.reduceEqDiff, Nat.reduceLT, Nat.reduceLeDiff, and_self, ]
    rfl
  | cons y post =>
    have i1 := idx_sls hv (X := CX) ty29 ty3 rfl (ints_mid pre x (y :: post)) (k := .i64)
    have hv2 : SLs 1 (ints ((pre ++ [x]) ++ y :: post)) v := by rw [List.append_assoc]; exact hv
    have i2 := idx_sls hv2 (X := CX) ty29 ty3 rfl (ints_mid (pre ++ [x]) y post) (k := .i64)
    rw [len_snoc] at i2
    have z : ((pre.length + 1 : Nat) : Int) < ((pre ++ x :: y :: post).length : Int) := by simp; omega
    have hl2 : pre.length + 2 < 9223372036854775807 := by simp at hl; omega
    have w1 := wrap_succ (n := pre.length + 1) (by omega)
    have w2 : IntKind.wrap .i64 (((pre.length + 1 : Nat) : Int) - 1) = (pre.length : Int) := by rw [wrap_small (by omega) (by omega)]; omega
    clear hv2
    by_cases hxy : x < y
    · have h3 : ¬ y ≤ x := by omega
      repeat' (first | refine go1 ?_ | refine blockK_else rfl ?_ | (refine wpC_cond fun A B hA hB => ?_; simp only [go_sem, reduceIte, Nat.reduceAdd, Nat.reduceEqDiff, Nat.reduceLT, Nat.reduceLeDiff, *, and_self, lenK_sls hv, ints_len, z, i1, i2, w1, w2]; first | (refine hA.out ?_; clear hA hB A B) | (refine hB.out ?_; clear hA hB A B) | (refine iteI (fun h => hA.out ?_) (fun h => hB.out ?_) <;> clear hA hB A B) | (refine iteI (fun h => hB.out ?_) (fun h => hA.out ?_) <;> clear hA hB A B)) | (refine wpO_cons fun K hK => ?_; simp only [go_sem, reduceIte, Nat.reduceAdd, Nat.reduceEqDiff, Nat.reduceLT, Nat.reduceLeDiff, *, and_self, lenK_sls hv, ints_len, z, i1, i2, w1, w2]; first | (refine hK.out _ _ ?_; clear hK K) | (refine iteI (fun h => hK.out _ _ ?_) (fun h => hK.out _ _ ?_) <;> clear hK K)))
      refine loopF_next (pre ++ [x], y, post) (Nat.lt_succ_self _) ⟨by simp, ?_⟩ ?_ ⟨_, rfl⟩
      · simp only [upB, decide_eq_true hxy, Bool.true_and]
      · ((try simp only [eraseA_cons, eraseA_nil, setL_cons, setL_nil, List.set_cons_zero, List.set_cons_succ]); all_goals (first | rfl | (simp only [len_snoc, ints_len, List.length_map, ]; done) | (simp only [len_snoc, len_mid, ints_len, List.length_map, List.length_append, List.length_cons, List.length_nil, Nat.zero_add, ]; done) | (simp only [len_mid, len_snoc, ints_len, List.length_map, List.length_append, List.length_cons, List.length_nil, Nat.zero_add, ]; rfl)))
    · have h3 : y ≤ x := by omega
      repeat' (first | refine go1 ?_ | refine blockK_else rfl ?_ | (refine wpC_cond fun A B hA hB => ?_; simp only [go_sem, reduceIte, Nat.reduceAdd, Nat.reduceEqDiff, Nat.reduceLT, Nat.reduceLeDiff, *, and_self, lenK_sls hv, ints_len, z, i1, i2, w1, w2]; first | (refine hA.out ?_; clear hA hB A B) | (refine hB.out ?_; clear hA hB A B) | (refine iteI (fun h => hA.out ?_) (fun h => hB.out ?_) <;> clear hA hB A B) | (refine iteI (fun h => hB.out ?_) (fun h => hA.out ?_) <;> clear hA hB A B)) | (refine wpO_cons fun K hK => ?_; simp only [go_sem, reduceIte, Nat.reduceAdd, Nat.reduceEqDiff, Nat.reduceLT, Nat.reduceLeDiff, *, and_self, lenK_sls hv, ints_len, z, i1, i2, w1, w2]; first | (refine hK.out _ _ ?_; clear hK K) | (refine iteI (fun h => hK.out _ _ ?_) (fun h => hK.out _ _ ?_) <;> clear hK K)))
      simp only [resultsR, resultsL, resultA, expK_int, expK_bool, expK_str, expK_agg, expK_own, expK_tsl, resK_some, go_sem, reduceIte, Nat.reduceAdd, Nat.reduceEqDiff, Nat.reduceLT, Nat.reduceLeDiff, and_self, ]
      simp only [upB, decide_eq_false hxy, Bool.false_and]

/- Sets of numbers: Sorted, Union, Up. -/
open Go.Proofs
attribute [local go_sem] br29 fz92 nilsK br26 fz97 fz98

theorem puts_snoc (a out : List Int) (x : Int) : (a ++ [x]).foldl put out = put (a.foldl put out) x := by simp [List.foldl_append]
theorem puts_len : ∀ (a out : List Int), (a.foldl put out).length ≤ out.length + a.length
  | [], out => by simp
  | x :: a, out => by
    have h1 := puts_len a (put out x)
    have h2 := put_len out x
    simp only [List.foldl_cons, List.length_cons]; omega

theorem sorted1 (v : AV) (a : List Int) (hv : SLs 1 (ints a) v) (ha : a.length ≤ 1099511627776) : EvV CX 26 [v] (· = .osl 1 (ints (sorted a))) := by
  rw [← sortR_eq]
  refine EvV.walk rfl fn26 rfl nt26 rfl ?_
  simp only [List.length_cons, List.length_nil, List.cons_append, List.nil_append, Nat.reduceAdd, Nat.reduceSub, List.replicate]
  repeat' (first | refine go1 ?_ | refine blockK_else rfl ?_ | (refine wpC_cond fun A B hA hB => ?_; simp only [go_sem, reduceIte, Nat.reduceAdd, Nat.reduceEqDiff, Nat.reduceLT, Nat.reduceLeDiff, *, wpK_assignN ty29 rfl, lenK_sls hv]; first | (refine hA.out ?_; clear hA hB A B) | (refine hB.out ?_; clear hA hB A B) | (refine iteI (fun h => hA.out ?_) (fun h => hB.out ?_) <;> clear hA hB A B) | (refine iteI (fun h => hB.out ?_) (fun h => hA.out ?_) <;> clear hA hB A B)) | (refine wpO_cons fun K hK => ?_; simp only [go_sem, reduceIte, Nat.reduceAdd, Nat.reduceEqDiff, Nat.reduceLT, Nat.reduceLeDiff, *, wpK_assignN ty29 rfl, lenK_sls hv]; first | (refine hK.out _ _ ?_; clear hK K) | (refine iteI (fun h => hK.out _ _ ?_) (fun h => hK.out _ _ ?_) <;> clear hK K)))
  refine wpC_loopF [4, 8, 9, 10, 11, 12, 13, 14, 15, 16] (fun a : List Int × List Int × List Blk => [(3, .sl (a.2.2.length + 1) (a.1.foldl put []).length 0 (a.1.foldl put []).length 1), (7, .int .i64 a.1.length)]) (fun a G => .arr [] 1 0 true :: (a.2.2 ++ .arr (ints (a.1.foldl put [])) 1 0 true :: G))
    (fun p => a = p.1 ++ p.2.1) (fun a => a.2.1.length) ([], a, []) rfl ?_ ?_ ?_
  · rfl
  · exact ⟨[], rfl⟩
  rintro ⟨pre, post, G1⟩ g G h1
  simp only at h1
  subst h1; simp only [garbA_cons, garbA_nil, setL_cons, setL_nil, List.set_cons_zero, List.set_cons_succ]
  cases post with
  | nil =>
    simp only [List.append_nil] at *
    repeat' (first | refine go1 ?_ | refine blockK_else rfl ?_ | (refine wpC_cond fun A B hA hB => ?_; simp only [go_sem, reduceIte, Nat.reduceAdd, Nat.reduceEqDiff, Nat.reduceLT, Nat.reduceLeDiff, *, wpK_assignN ty29 rfl, getElem?_len, getElem?_lenAdd, set_len, set_lenAdd, len_mid, ints_len, List.length_map, lt_mid, List.nil_append, ints_len, List.length_map, Int.lt_irrefl, List.nil_append]; first | (refine hA.out ?_; clear hA hB A B) | (refine hB.out ?_; clear hA hB A B) | (refine iteI (fun h => hA.out ?_) (fun h => hB.out ?_) <;> clear hA hB A B) | (refine iteI (fun h => hB.out ?_) (fun h => hA.out ?_) <;> clear hA hB A B)) | (refine wpO_cons fun K hK => ?_; simp only [go_sem, reduceIte, Nat.reduceAdd, Nat.reduceEqDiff, Nat.reduceLT, Nat.reduceLeDiff, *, wpK_assignN ty29 rfl, getElem?_len, getElem?_lenAdd, set_len, set_lenAdd, len_mid, ints_len, List.length_map, lt_mid, List.nil_append, ints_len, List.length_map, Int.lt_irrefl, List.nil_append]; first | (refine hK.out _ _ ?_; clear hK K) | (refine iteI (fun h => hK.out _ _ ?_) (fun h => hK.out _ _ ?_) <;> clear hK K)))
    simp only [resultsR, resultsL, resultA, expK_int, expK_bool, expK_str, expK_agg, expK_own, expK_tsl, resK_some, go_sem, reduceIte, Nat.reduceAdd, Nat.reduceEqDiff, Nat.reduceLT, Nat.reduceLeDiff, wpK_assignN ty29 rfl, List.getElem?_cons_succ, getElem?_len, ints_len]
    simp
  | cons x post =>
    have i1 := idx_sls hv (X := CX) ty29 ty3 rfl (ints_mid pre x post) (k := .i64)
    have w1 := wrap_succ (n := pre.length) (by simp at ha; omega)
    have m1 := puts_len pre []
    have p1 := (put1 false (pre.foldl put []) x (by simp at ha m1; omega)).rw
    repeat' (first | refine go1 ?_ | refine blockK_else rfl ?_ | (refine wpC_cond fun A B hA hB => ?_; simp only [go_sem, reduceIte, Nat.reduceAdd, Nat.reduceEqDiff, Nat.reduceLT, Nat.reduceLeDiff, *, wpK_assignN ty29 rfl, getElem?_len, getElem?_lenAdd, set_len, set_lenAdd, len_mid, ints_len, List.length_map, lt_mid, List.nil_append, i1, w1, hv.snap, snap_sl, rowsOf_sl, ints_len, ints_take, List.take_length, Nat.zero_le, Nat.zero_add, Bool.true_or, p1]; first | (refine hA.out ?_; clear hA hB A B) | (refine hB.out ?_; clear hA hB A B) | (refine iteI (fun h => hA.out ?_) (fun h => hB.out ?_) <;> clear hA hB A B) | (refine iteI (fun h => hB.out ?_) (fun h => hA.out ?_) <;> clear hA hB A B)) | (refine wpO_cons fun K hK => ?_; simp only [go_sem, reduceIte, Nat.reduceAdd, Nat.reduceEqDiff, Nat.reduceLT, Nat.reduceLeDiff, *, wpK_assignN ty29 rfl, getElem?_len, getElem?_lenAdd, set_len, set_lenAdd, len_mid, ints_len, List.length_map, lt_mid, List.nil_append, i1, w1, hv.snap, snap_sl, rowsOf_sl, ints_len, ints_take, List.take_length, Nat.zero_le, Nat.zero_add, Bool.true_or, p1]; first | (refine hK.out _ _ ?_; clear hK K) | (refine iteI (fun h => hK.out _ _ ?_) (fun h => hK.out _ _ ?_) <;> clear hK K)))
    have e := puts_snoc pre [] x
    refine loopF_next (pre ++ [x], post, G1 ++ .arr (ints (pre.foldl put [])) 1 0 true :: G) (Nat.lt_succ_self _) (by simp) ?_ ?_
    · ((try simp only [eraseA_cons, eraseA_nil, setL_cons, setL_nil, List.set_cons_zero, List.set_cons_succ]); all_goals (first | rfl | (simp only [len_snoc, ints_len, List.length_map, e]; done) | (simp only [len_snoc, len_mid, ints_len, List.length_map, List.length_append, List.length_cons, List.length_nil, Nat.zero_add, e]; done) | (simp only [len_mid, len_snoc, ints_len, List.length_map, List.length_append, List.length_cons, List.length_nil, Nat.zero_add, e]; rfl)))
    · exact ⟨[], by simp [e]⟩

theorem union1 (v w : AV) (a b : List Int) (hv : SLs 1 (ints a) v) (hw : SLs 1 (ints b) w) (ha : a.length ≤ 1099511627) (hb : b.length ≤ 1099511627) : EvV CX 27 [v, w] (· = .osl 1 (ints (sorted (a ++ b)))) := by
  rw [← unionR_eq]
  have q := (sorted1 v a hv (by omega)).rw
  have hl := sorted_len a
  obtain ⟨A, hA⟩ : ∃ A, sorted a = A := ⟨_, rfl⟩
  rw [hA] at q hl ⊢
  clear hA
  refine EvV.walk rfl fn27 rfl nt27 rfl ?_
  simp only [List.length_cons, List.length_nil, List.cons_append, List.nil_append, Nat.reduceAdd, Nat.reduceSub, List.replicate]
  repeat' (first | refine go1 ?_ | refine blockK_else rfl ?_ | (refine wpC_cond fun A B hA hB => ?_; simp only [go_sem, reduceIte, Nat.reduceAdd, Nat.reduceEqDiff, Nat.reduceLT, Nat.reduceLeDiff, *, wpK_assignN ty29 rfl, lenK_sls hw, hv.snap, q, adopt_osl]; first | (refine hA.out ?_; clear hA hB A B) | (refine hB.out ?_; clear hA hB A B) | (refine iteI (fun h => hA.out ?_) (fun h => hB.out ?_) <;> clear hA hB A B) | (refine iteI (fun h => hB.out ?_) (fun h => hA.out ?_) <;> clear hA hB A B)) | (refine wpO_cons fun K hK => ?_; simp only [go_sem, reduceIte, Nat.reduceAdd, Nat.reduceEqDiff, Nat.reduceLT, Nat.reduceLeDiff, *, wpK_assignN ty29 rfl, lenK_sls hw, hv.snap, q, adopt_osl]; first | (refine hK.out _ _ ?_; clear hK K) | (refine iteI (fun h => hK.out _ _ ?_) (fun h => hK.out _ _ ?_) <;> clear hK K)))
  refine wpC_loopF [6, 12, 13, 14, 15, 16, 17, 18, 19, 20] (fun a : List Int × List Int × List Blk => [(5, .sl (a.2.2.length + 1) (a.1.foldl put A).length 0 (a.1.foldl put A).length 1), (11, .int .i64 a.1.length)]) (fun a G => .arr [] 1 0 true :: (a.2.2 ++ .arr (ints (a.1.foldl put A)) 1 0 true :: G))
    (fun p => b = p.1 ++ p.2.1) (fun a => a.2.1.length) ([], b, []) rfl ?_ ?_ ?_
  · ((try simp only [eraseA_cons, eraseA_nil, setL_cons, setL_nil, List.set_cons_zero, List.set_cons_succ]); all_goals (first | rfl | (simp only [len_snoc, ints_len, List.length_map, ]; done) | (simp only [len_snoc, len_mid, ints_len, List.length_map, List.length_append, List.length_cons, List.length_nil, Nat.zero_add, ]; done) | (simp only [len_mid, len_snoc, ints_len, List.length_map, List.length_append, List.length_cons, List.length_nil, Nat.zero_add, ]; rfl)))
  · exact ⟨[], rfl⟩
  rintro ⟨pre, post, G1⟩ g G h1
  simp only at h1
  subst h1; simp only [garbA_cons, garbA_nil, setL_cons, setL_nil, List.set_cons_zero, List.set_cons_succ]
  cases post with
  | nil =>
    simp only [List.append_nil] at *
    repeat' (first | refine go1 ?_ | refine blockK_else rfl ?_ | (refine wpC_cond fun A B hA hB => ?_; simp only [go_sem, reduceIte, Nat.reduceAdd, Nat.reduceEqDiff, Nat.reduceLT, Nat.reduceLeDiff, *, wpK_assignN ty29 rfl, getElem?_len, getElem?_lenAdd, set_len, set_lenAdd, len_mid, ints_len, List.length_map, lt_mid, List.nil_append, ints_len, List.length_map, Int.lt_irrefl, List.nil_append]; first | (refine hA.out ?_; clear hA hB A B) | (refine hB.out ?_; clear hA hB A B) | (refine iteI (fun h => hA.out ?_) (fun h => hB.out ?_) <;> clear hA hB A B) | (refine iteI (fun h => hB.out ?_) (fun h => hA.out ?_) <;> clear hA hB A B)) | (refine wpO_cons fun K hK => ?_; simp only [go_sem, reduceIte, Nat.reduceAdd, Nat.reduceEqDiff, Nat.reduceLT, Nat.reduceLeDiff, *, wpK_assignN ty29 rfl, getElem?_len, getElem?_lenAdd, set_len, set_lenAdd, len_mid, ints_len, List.length_map, lt_mid, List.nil_append, ints_len, List.length_map, Int.lt_irrefl, List.nil_append]; first | (refine hK.out _ _ ?_; clear hK K) | (refine iteI (fun h => hK.out _ _ ?_) (fun h => hK.out _ _ ?_) <;> clear hK K)))
    simp only [resultsR, resultsL, resultA, expK_int, expK_bool, expK_str, expK_agg, expK_own, expK_tsl, resK_some, go_sem, reduceIte, Nat.reduceAdd, Nat.reduceEqDiff, Nat.reduceLT, Nat.reduceLeDiff, wpK_assignN ty29 rfl, List.getElem?_cons_succ, getElem?_len, ints_len]
    simp
  | cons x post =>
    have i1 := idx_sls hw (X := CX) ty29 ty3 rfl (ints_mid pre x post) (k := .i64)
    have w1 := wrap_succ (n := pre.length) (by simp at hb; omega)
    have m1 := puts_len pre A
    have p1 := (put1 false (pre.foldl put A) x (by simp at hb m1; omega)).rw
    clear q
    repeat' (first | refine go1 ?_ | refine blockK_else rfl ?_ | (refine wpC_cond fun A B hA hB => ?_; simp only [go_sem, reduceIte, Nat.reduceAdd, Nat.reduceEqDiff, Nat.reduceLT, Nat.reduceLeDiff, *, wpK_assignN ty29 rfl, getElem?_len, getElem?_lenAdd, set_len, set_lenAdd, len_mid, ints_len, List.length_map, lt_mid, List.nil_append, i1, w1, hv.snap, hw.snap, snap_sl, rowsOf_sl, ints_len, ints_take, List.take_length, Nat.zero_le, Nat.zero_add, Bool.true_or, p1]; first | (refine hA.out ?_; clear hA hB A B) | (refine hB.out ?_; clear hA hB A B) | (refine iteI (fun h => hA.out ?_) (fun h => hB.out ?_) <;> clear hA hB A B) | (refine iteI (fun h => hB.out ?_) (fun h => hA.out ?_) <;> clear hA hB A B)) | (refine wpO_cons fun K hK => ?_; simp only [go_sem, reduceIte, Nat.reduceAdd, Nat.reduceEqDiff, Nat.reduceLT, Nat.reduceLeDiff, *, wpK_assignN ty29 rfl, getElem?_len, getElem?_lenAdd, set_len, set_lenAdd, len_mid, ints_len, List.length_map, lt_mid, List.nil_append, i1, w1, hv.snap, hw.snap, snap_sl, rowsOf_sl, ints_len, ints_take, List.take_length, Nat.zero_le, Nat.zero_add, Bool.true_or, p1]; first | (refine hK.out _ _ ?_; clear hK K) | (refine iteI (fun h => hK.out _ _ ?_) (fun h => hK.out _ _ ?_) <;> clear hK K)))
    have e := puts_snoc pre A x
    refine loopF_next (pre ++ [x], post, G1 ++ .arr (ints (pre.foldl put A)) 1 0 true :: G) (Nat.lt_succ_self _) (by simp) ?_ ?_
    · ((try simp only [eraseA_cons, eraseA_nil, setL_cons, setL_nil, List.set_cons_zero, List.set_cons_succ]); all_goals (first | rfl | (simp only [len_snoc, ints_len, List.length_map, e]; done) | (simp only [len_snoc, len_mid, ints_len, List.length_map, List.length_append, List.length_cons, List.length_nil, Nat.zero_add, e]; done) | (simp only [len_mid, len_snoc, ints_len, List.length_map, List.length_append, List.length_cons, List.length_nil, Nat.zero_add, e]; rfl)))
    · exact ⟨[], by simp [e]⟩

theorem up1 (v : AV) (l : List Int) (hv : SLs 1 (ints l) v) (hl : l.length < 9223372036854775807) : EvV CX 28 [v] (· = .bool (upB l)) := by
  cases l with
  | nil =>
    refine EvV.walk rfl fn28 rfl nt28 rfl ?_
    simp only [List.length_cons, List.length_nil, List.cons_append, List.nil_append, Nat.reduceAdd, Nat.reduceSub, List.replicate]
    repeat' (first | refine go1 ?_ | refine blockK_else rfl ?_ | (refine wpC_cond fun A B hA hB => ?_; simp only [go_sem, reduceIte, Nat.reduceAdd, Nat.reduceEqDiff, Nat.reduceLT, Nat.reduceLeDiff, *, and_self, lenK_sls hv]; first | (refine hA.out ?_; clear hA hB A B) | (refine hB.out ?_; clear hA hB A B) | (refine iteI (fun h => hA.out ?_) (fun h => hB.out ?_) <;> clear hA hB A B) | (refine iteI (fun h => hB.out ?_) (fun h => hA.out ?_) <;> clear hA hB A B)) | (refine wpO_cons fun K hK => ?_; simp only [go_sem, reduceIte, Nat.reduceAdd, Nat.reduceEqDiff, Nat.reduceLT, Nat.reduceLeDiff, *, and_self, lenK_sls hv]; first | (refine hK.out _ _ ?_; clear hK K) | (refine iteI (fun h => hK.out _ _ ?_) (fun h => hK.out _ _ ?_) <;> clear hK K)))
    refine wpC_loopF [2, 4, 5, 6, 7, 8, 9, 10, 11, 12, 13, 14, 15, 16, 17, 18, 19] (fun _ : Unit => [(3, .int .i64 1)]) (fun _ H => H) (fun _ => True) (fun _ => 0) () trivial ?_ ⟨_, rfl⟩ ?_
    · rfl
    rintro _ g G _
    simp only [garbA_cons, garbA_nil, setL_cons, setL_nil, List.set_cons_zero, List.set_cons_succ]
    have z : ¬ (1 : Int) < ((0 : Nat) : Int) := by omega
    repeat' (first | refine go1 ?_ | refine blockK_else rfl ?_ | (refine wpC_cond fun A B hA hB => ?_; simp only [go_sem, reduceIte, Nat.reduceAdd, Nat.reduceEqDiff, Nat.reduceLT, Nat.reduceLeDiff, *, and_self, lenK_sls hv, ints_len, List.length_nil, z]; first | (refine hA.out ?_; clear hA hB A B) | (refine hB.out ?_; clear hA hB A B) | (refine iteI (fun h => hA.out ?_) (fun h => hB.out ?_) <;> clear hA hB A B) | (refine iteI (fun h => hB.out ?_) (fun h => hA.out ?_) <;> clear hA hB A B)) | (refine wpO_cons fun K hK => ?_; simp only [go_sem, reduceIte, Nat.reduceAdd, Nat.reduceEqDiff, Nat.reduceLT, Nat.reduceLeDiff, *, and_self, lenK_sls hv, ints_len, List.length_nil, z]; first | (refine hK.out _ _ ?_; clear hK K) | (refine iteI (fun h => hK.out _ _ ?_) (fun h => hK.out _ _ ?_) <;> clear hK K)))
    simp only [resultsR, resultsL, resultA, expK_int, expK_bool, expK_str, expK_agg, expK_own, expK_tsl, resK_some, go_sem, reduceIte, Nat.reduceAdd, Nat.reduceEqDiff, Nat.reduceLT, Nat.reduceLeDiff, and_self, ]
    rfl
  | cons x0 l0 =>
  refine EvV.walk rfl fn28 rfl nt28 rfl ?_
  simp only [List.length_cons, List.length_nil, List.cons_append, List.nil_append, Nat.reduceAdd, Nat.reduceSub, List.replicate]
  repeat' (first | refine go1 ?_ | refine blockK_else rfl ?_ | (refine wpC_cond fun A B hA hB => ?_; simp only [go_sem, reduceIte, Nat.reduceAdd, Nat.reduceEqDiff, Nat.reduceLT, Nat.reduceLeDiff, *, and_self, lenK_sls hv]; first | (refine hA.out ?_; clear hA hB A B) | (refine hB.out ?_; clear hA hB A B) | (refine iteI (fun h => hA.out ?_) (fun h => hB.out ?_) <;> clear hA hB A B) | (refine iteI (fun h => hB.out ?_) (fun h => hA.out ?_) <;> clear hA hB A B)) | (refine wpO_cons fun K hK => ?_; simp only [go_sem, reduceIte, Nat.reduceAdd, Nat.reduceEqDiff, Nat.reduceLT, Nat.reduceLeDiff, *, and_self, lenK_sls hv]; first | (refine hK.out _ _ ?_; clear hK K) | (refine iteI (fun h => hK.out _ _ ?_) (fun h => hK.out _ _ ?_) <;> clear hK K)))
  refine wpC_loopF [2, 4, 5, 6, 7, 8, 9, 10, 11, 12, 13, 14, 15, 16, 17, 18, 19] (fun p : List Int × Int × List Int => [(3, .int .i64 ((p.1.length + 1 : Nat) : Int))]) (fun _ H => H)
    (fun p => x0 :: l0 = p.1 ++ p.2.1 :: p.2.2 ∧ upB (x0 :: l0) = upB (p.2.1 :: p.2.2)) (fun p => p.2.2.length) ([], x0, l0) ⟨rfl, rfl⟩ ?_ ⟨_, rfl⟩ ?_
  · rfl
  rintro ⟨pre, x, post⟩ g G ⟨h1, h2⟩
  simp only at h1 h2
  rw [h2]
  generalize x0 :: l0 = l at *
  clear h2
  subst h1
  simp only [garbA_cons, garbA_nil, setL_cons, setL_nil, List.set_cons_zero, List.set_cons_succ]
  cases post with
  | nil =>
    have z : ¬ ((pre.length + 1 : Nat) : Int) < ((pre.length + 1 : Nat) : Int) := by omega
    repeat' (first | refine go1 ?_ | refine blockK_else rfl ?_ | (refine wpC_cond fun A B hA hB => ?_; simp only [go_sem, reduceIte, Nat.reduceAdd, Nat.reduceEqDiff, Nat.reduceLT, Nat.reduceLeDiff, *, and_self, lenK_sls hv, ints_len, len_snoc, z]; first | (refine hA.out ?_; clear hA hB A B) | (refine hB.out ?_; clear hA hB A B) | (refine iteI (fun h => hA.out ?_) (fun h => hB.out ?_) <;> clear hA hB A B) | (refine iteI (fun h => hB.out ?_) (fun h => hA.out ?_) <;> clear hA hB A B)) | (refine wpO_cons fun K hK => ?_; simp only [go_sem, reduceIte, Nat.reduceAdd, Nat.reduceEqDiff, Nat.reduceLT, Nat.reduceLeDiff, *, and_self, lenK_sls hv, ints_len, len_snoc, z]; first | (refine hK.out _ _ ?_; clear hK K) | (refine iteI (fun h => hK.out _ _ ?_) (fun h => hK.out _ _ ?_) <;> clear hK K)))
    simp only [resultsR, resultsL, resultA, expK_int, expK_bool, expK_str, expK_agg, expK_own, expK_tsl, resK_some, go_sem, reduceIte, Nat.reduceAdd, Nat.reduceEqDiff, Nat.reduceLT, Nat.reduceLeDiff, and_self, ]
    rfl
  | cons y post =>
    have i1 := idx_sls hv (X := CX) ty29 ty3 rfl (ints_mid pre x (y :: post)) (k := .i64)
    have hv2 : SLs 1 (ints ((pre ++ [x]) ++ y :: post)) v := by rw [List.append_assoc]; exact hv
    have i2 := idx_sls hv2 (X := CX) ty29 ty3 rfl (ints_mid (pre ++ [x]) y post) (k := .i64)
    rw [len_snoc] at i2
    have z : ((pre.length + 1 : Nat) : Int) < ((pre ++ x :: y :: post).length : Int) := by simp; omega
    have hl2 : pre.length + 2 < 9223372036854775807 := by simp at hl; omega
    have w1 := wrap_succ (n := pre.length + 1) (by omega)
    have w2 : IntKind.wrap .i64 (((pre.length + 1 : Nat) : Int) - 1) = (pre.length : Int) := by rw [wrap_small (by omega) (by omega)]; omega
    clear hv2
    by_cases hxy : x < y
    · have h3 : ¬ y ≤ x := by omega
      repeat' (first | refine go1 ?_ | refine blockK_else rfl ?_ | (refine wpC_cond fun A B hA hB => ?_; simp only [go_sem, reduceIte, Nat.reduceAdd, Nat.reduceEqDiff, Nat.reduceLT, Nat.reduceLeDiff, *, and_self, lenK_sls hv, ints_len, z, i1, i2, w1, w2]; first | (refine hA.out ?_; clear hA hB A B) | (refine hB.out ?_; clear hA hB A B) | (refine iteI (fun h => hA.out ?_) (fun h => hB.out ?_) <;> clear hA hB A B) | (refine iteI (fun h => hB.out ?_) (fun h => hA.out ?_) <;> clear hA hB A B)) | (refine wpO_cons fun K hK => ?_; simp only [go_sem, reduceIte, Nat.reduceAdd, Nat.reduceEqDiff, Nat.reduceLT, Nat.reduceLeDiff, *, and_self, lenK_sls hv, ints_len, z, i1, i2, w1, w2]; first | (refine hK.out _ _ ?_; clear hK K) | (refine iteI (fun h => hK.out _ _ ?_) (fun h => hK.out _ _ ?_) <;> clear hK K)))
      refine loopF_next (pre ++ [x], y, post) (Nat.lt_succ_self _) ⟨by simp, ?_⟩ ?_ ⟨_, rfl⟩
      · simp only [upB, decide_eq_true hxy, Bool.true_and]
      · ((try simp only [eraseA_cons, eraseA_nil, setL_cons, setL_nil, List.set_cons_zero, List.set_cons_succ]); all_goals (first | rfl | (simp only [len_snoc, ints_len, List.length_map, ]; done) | (simp only [len_snoc, len_mid, ints_len, List.length_map, List.length_append, List.length_cons, List.length_nil, Nat.zero_add, ]; done) | (simp only [len_mid, len_snoc, ints_len, List.length_map, List.length_append, List.length_cons, List.length_nil, Nat.zero_add, ]; rfl)))
    · have h3 : y ≤ x := by omega
      repeat' (first | refine go1 ?_ | refine blockK_else rfl ?_ | (refine wpC_cond fun A B hA hB => ?_; simp only [go_sem, reduceIte, Nat.reduceAdd, Nat.reduceEqDiff, Nat.reduceLT, Nat.reduceLeDiff, *, and_self, lenK_sls hv, ints_len, z, i1, i2, w1, w2]; first | (refine hA.out ?_; clear hA hB A B) | (refine hB.out ?_; clear hA hB A B) | (refine iteI (fun h => hA.out ?_) (fun h => hB.out ?_) <;> clear hA hB A B) | (refine iteI (fun h => hB.out ?_) (fun h => hA.out ?_) <;> clear hA hB A B)) | (refine wpO_cons fun K hK => ?_; simp only [go_sem, reduceIte, Nat.reduceAdd, Nat.reduceEqDiff, Nat.reduceLT, Nat.reduceLeDiff, *, and_self, lenK_sls hv, ints_len, z, i1, i2, w1, w2]; first | (refine hK.out _ _ ?_; clear hK K) | (refine iteI (fun h => hK.out _ _ ?_) (fun h => hK.out _ _ ?_) <;> clear hK K)))
      simp only [resultsR, resultsL, resultA, expK_int, expK_bool, expK_str, expK_agg, expK_own, expK_tsl, resK_some, go_sem, reduceIte, Nat.reduceAdd, Nat.reduceEqDiff, Nat.reduceLT, Nat.reduceLeDiff, and_self, ]
      simp only [upB, decide_eq_false hxy, Bool.false_and]

/- Groups: the reference's Find, Below, Members. -/
open Go.Proofs
attribute [local go_sem] ty9 ty23 ty37 br27 br34 fz90 fz91 fz93 fz94
set_option maxHeartbeats 4000000

theorem findR {v : AV} {gs : List Grp} (h : GsOK v gs) (n : Int) : EvV CX 34 [v, .int .i64 n] (· = .int .i64 (codeOf (gIdx gs n 0))) := by
  have hv := h.sl
  have hl := h.len
  refine EvV.walk rfl fn34 rfl nt34 rfl ?_
  simp only [List.length_cons, List.length_nil, List.cons_append, List.nil_append, Nat.reduceAdd, Nat.reduceSub, List.replicate]
  repeat' (first | refine go1 ?_ | refine blockK_else rfl ?_ | (refine wpC_cond fun A B hA hB => ?_; simp only [go_sem, reduceIte, Nat.reduceAdd, Nat.reduceEqDiff, Nat.reduceLT, Nat.reduceLeDiff, *, and_self, lenK_sls hv]; first | (refine hA.out ?_; clear hA hB A B) | (refine hB.out ?_; clear hA hB A B) | (refine iteI (fun h => hA.out ?_) (fun h => hB.out ?_) <;> clear hA hB A B) | (refine iteI (fun h => hB.out ?_) (fun h => hA.out ?_) <;> clear hA hB A B)) | (refine wpO_cons fun K hK => ?_; simp only [go_sem, reduceIte, Nat.reduceAdd, Nat.reduceEqDiff, Nat.reduceLT, Nat.reduceLeDiff, *, and_self, lenK_sls hv]; first | (refine hK.out _ _ ?_; clear hK K) | (refine iteI (fun h => hK.out _ _ ?_) (fun h => hK.out _ _ ?_) <;> clear hK K)))
  refine wpC_each [4, 5, 9, 10, 11, 12, 13, 14, 15, 16, 17, 18, 19] 8 gs (fun pre post => gIdx gs n 0 = gIdx post n pre.length) ?_ ?_ ?_ ?_
  · rfl
  · rfl
  · intro g G h2
    rw [h2]; simp only [garbA_cons, garbA_nil, setL_cons, setL_nil, List.set_cons_zero, List.set_cons_succ]
    repeat' (first | refine go1 ?_ | refine blockK_else rfl ?_ | (refine wpC_cond fun A B hA hB => ?_; simp only [go_sem, reduceIte, Nat.reduceAdd, Nat.reduceEqDiff, Nat.reduceLT, Nat.reduceLeDiff, *, and_self, ints_len, List.length_map, Int.lt_irrefl, List.nil_append]; first | (refine hA.out ?_; clear hA hB A B) | (refine hB.out ?_; clear hA hB A B) | (refine iteI (fun h => hA.out ?_) (fun h => hB.out ?_) <;> clear hA hB A B) | (refine iteI (fun h => hB.out ?_) (fun h => hA.out ?_) <;> clear hA hB A B)) | (refine wpO_cons fun K hK => ?_; simp only [go_sem, reduceIte, Nat.reduceAdd, Nat.reduceEqDiff, Nat.reduceLT, Nat.reduceLeDiff, *, and_self, ints_len, List.length_map, Int.lt_irrefl, List.nil_append]; first | (refine hK.out _ _ ?_; clear hK K) | (refine iteI (fun h => hK.out _ _ ?_) (fun h => hK.out _ _ ?_) <;> clear hK K)))
    simp only [resultsR, resultsL, resultA, expK_int, expK_bool, expK_str, expK_agg, expK_own, expK_tsl, resK_some, go_sem, reduceIte, Nat.reduceAdd, Nat.reduceEqDiff, Nat.reduceLT, Nat.reduceLeDiff, and_self, ]
    rfl
  · intro g G pre x post h1 h2
    rw [h2]
    have i1 := idx_sls hv (X := CX) ty23 ty37 rfl (by rw [h1]; exact map_mid encG pre x post) (k := .i64)
    have w1 := wrap_succ (n := pre.length) (by simp [h1] at hl; omega)
    have lt1 : (pre.length : Int) < (gs.length : Int) := by rw [h1]; simp; omega
    have hh1 : Hold (gs = pre ++ x :: post) := ⟨h1⟩
    clear h1
    simp only [garbA_cons, garbA_nil, setL_cons, setL_nil, List.set_cons_zero, List.set_cons_succ]
    by_cases hx : x.id = n
    · have hh : Hold (x.id = n) := ⟨hx⟩
      have hx' : (x.id == n) = true := by simpa using hx
      clear hx h2
      repeat' (first | refine go1 ?_ | refine blockK_else rfl ?_ | (refine wpC_cond fun A B hA hB => ?_; simp only [go_sem, reduceIte, Nat.reduceAdd, Nat.reduceEqDiff, Nat.reduceLT, Nat.reduceLeDiff, *, and_self, getElem?_len, getElem?_lenAdd, set_len, set_lenAdd, len_mid, ints_len, List.length_map, lt_mid, List.nil_append, i1, w1, lt1, encG, hx']; first | (refine hA.out ?_; clear hA hB A B) | (refine hB.out ?_; clear hA hB A B) | (refine iteI (fun h => hA.out ?_) (fun h => hB.out ?_) <;> clear hA hB A B) | (refine iteI (fun h => hB.out ?_) (fun h => hA.out ?_) <;> clear hA hB A B)) | (refine wpO_cons fun K hK => ?_; simp only [go_sem, reduceIte, Nat.reduceAdd, Nat.reduceEqDiff, Nat.reduceLT, Nat.reduceLeDiff, *, and_self, getElem?_len, getElem?_lenAdd, set_len, set_lenAdd, len_mid, ints_len, List.length_map, lt_mid, List.nil_append, i1, w1, lt1, encG, hx']; first | (refine hK.out _ _ ?_; clear hK K) | (refine iteI (fun h => hK.out _ _ ?_) (fun h => hK.out _ _ ?_) <;> clear hK K)))
      simp only [resultsR, resultsL, resultA, expK_int, expK_bool, expK_str, expK_agg, expK_own, expK_tsl, resK_some, go_sem, reduceIte, Nat.reduceAdd, Nat.reduceEqDiff, Nat.reduceLT, Nat.reduceLeDiff, and_self, ]
      rw [gIdx, if_pos hh.out]; rfl
    · have hh : Hold (¬ x.id = n) := ⟨hx⟩
      have hx' : (x.id == n) = false := by simpa using hx
      have hh2 : Hold (gIdx gs n 0 = gIdx (x :: post) n pre.length) := ⟨h2⟩
      clear hx h2
      repeat' (first | refine go1 ?_ | refine blockK_else rfl ?_ | (refine wpC_cond fun A B hA hB => ?_; simp only [go_sem, reduceIte, Nat.reduceAdd, Nat.reduceEqDiff, Nat.reduceLT, Nat.reduceLeDiff, *, and_self, getElem?_len, getElem?_lenAdd, set_len, set_lenAdd, len_mid, ints_len, List.length_map, lt_mid, List.nil_append, i1, w1, lt1, encG, hx']; first | (refine hA.out ?_; clear hA hB A B) | (refine hB.out ?_; clear hA hB A B) | (refine iteI (fun h => hA.out ?_) (fun h => hB.out ?_) <;> clear hA hB A B) | (refine iteI (fun h => hB.out ?_) (fun h => hA.out ?_) <;> clear hA hB A B)) | (refine wpO_cons fun K hK => ?_; simp only [go_sem, reduceIte, Nat.reduceAdd, Nat.reduceEqDiff, Nat.reduceLT, Nat.reduceLeDiff, *, and_self, getElem?_len, getElem?_lenAdd, set_len, set_lenAdd, len_mid, ints_len, List.length_map, lt_mid, List.nil_append, i1, w1, lt1, encG, hx']; first | (refine hK.out _ _ ?_; clear hK K) | (refine iteI (fun h => hK.out _ _ ?_) (fun h => hK.out _ _ ?_) <;> clear hK K)))
      refine each_next hh1.out ?_ ?_ ?_
      · rw [gIdx, if_neg hh.out, len_snoc]
      · ((try simp only [eraseA_cons, eraseA_nil, setL_cons, setL_nil, List.set_cons_zero, List.set_cons_succ]); all_goals (first | rfl | (simp only [len_snoc, ints_len, List.length_map, ]; done) | (simp only [len_snoc, len_mid, ints_len, List.length_map, List.length_append, List.length_cons, List.length_nil, Nat.zero_add, ]; done) | (simp only [len_mid, len_snoc, ints_len, List.length_map, List.length_append, List.length_cons, List.length_nil, Nat.zero_add, ]; rfl)))
      · first | exact ⟨[], (List.append_nil _).symm⟩ | exact ⟨_, rfl⟩ | (simp only [List.append_assoc, List.cons_append, List.nil_append]; exact ⟨_, rfl⟩)

theorem map_at {β : Type} (f : β → List AV) {l a b : List β} {x : β} (h : l = a ++ x :: b) : (l.map f)[a.length]? = some (f x) := by rw [h]; exact map_mid f a x b

theorem gIdx_cases (gs : List Grp) (n : Int) : (isG gs n = false ∧ codeOf (gIdx gs n 0) = -1) ∨ ∃ a b, isG gs n = true ∧ gs = a ++ fnd gs n :: b ∧ codeOf (gIdx gs n 0) = (a.length : Int) := by
  rcases gIdx_find gs n 0 with ⟨h1, h2⟩ | ⟨a, g, b, h1, h2, h3⟩
  · exact .inl ⟨by simp [isG, h2], by rw [h1]; rfl⟩
  · refine .inr ⟨a, b, by simp [isG, h3], ?_, by rw [h2]; simp [codeOf]⟩
    rw [fnd, h3]; exact h1

/-- Lists of Subs. -/
def InB (gs : List Grp) (l : List Int) : Prop := UpL l ∧ ∀ x ∈ l, x ∈ gs.flatMap (·.subs)
theorem subs_flat {gs : List Grp} (h : ∀ g ∈ gs, g.subs.length ≤ 1000) : (gs.flatMap (·.subs)).length ≤ gs.length * 1000 := by
  induction gs with
  | nil => simp
  | cons g gs ih =>
    have h1 := h g (by simp)
    have h2 := ih fun x hx => h x (by simp [hx])
    simp only [List.flatMap_cons, List.length_append, List.length_cons]
    omega
theorem InB.len {v : AV} {gs : List Grp} {l : List Int} (h : InB gs l) (hg : GsOK v gs) : l.length ≤ 1000000 := by
  have h1 := nodup_len (up_nodup h.1) h.2
  have h2 := subs_flat hg.subs
  have := hg.len
  omega
theorem InB.more {gs : List Grp} {l : List Int} (h : InB gs l) (x : Int) : InB gs (sorted (l ++ (fnd gs x).subs)) := by
  refine ⟨sorted_up _, fun y hy => ?_⟩
  rw [mem_sorted, List.mem_append] at hy
  rcases hy with hy | hy
  · exact h.2 y hy
  · rcases fnd_cases gs x with ⟨_, e⟩ | ⟨_, _, e⟩
    · rw [e] at hy; simp [noG] at hy
    · exact List.mem_flatMap.mpr ⟨_, e, hy⟩
theorem moreB_cons (gs : List Grp) (x : Int) (out more : List Int) : moreB gs (x :: out) more = moreB gs out (if isG gs x then sorted (more ++ (fnd gs x).subs) else more) := rfl
theorem get_app {S G : Store} {b : Nat} {x : Blk} (h : S[b]? = some x) : (S ++ G)[b]? = some x := by
  rw [List.getElem?_append_left (List.getElem?_eq_some_iff.1 h).1]; exact h

theorem belowRE {v : AV} {gs : List Grp} (h : GsOK v gs) (n : Int) : EvV CX 17 [v, .int .i64 n] (· = .osl 1 (ints (belowR gs n))) := by
  have hv := h.sl.cell
  have hvs := fun S => h.sl.snap (S := S)
  have hgl := h.len
  unfold belowR
  have q := (findR h n).rw
  obtain ⟨out0, h0⟩ : ∃ o, (if isG gs n = true then sorted (fnd gs n).subs else []) = o := ⟨_, rfl⟩
  have hi0 : InB gs out0 := by
    rw [← h0]
    split
    · have := InB.more (gs := gs) (l := []) ⟨up_nil, by simp⟩ n
      simpa using this
    · exact ⟨up_nil, by simp⟩
  rw [h0]
  refine EvV.walk rfl fn17 rfl nt17 rfl ?_
  simp only [List.length_cons, List.length_nil, List.cons_append, List.nil_append, Nat.reduceAdd, Nat.reduceSub, List.replicate]
  repeat' (first | refine go1 ?_ | refine blockK_else rfl ?_ | (refine wpO_cons fun K hK => ?_; simp only [go_sem, reduceIte, Nat.reduceAdd, Nat.reduceEqDiff, Nat.reduceLT, Nat.reduceLeDiff, *, wpK_assignN ty29 rfl, hv, hvs, q, adopt_int]; first | (refine hK.out _ _ ?_; clear hK K) | (refine iteI (fun h => hK.out _ _ ?_) (fun h => hK.out _ _ ?_) <;> clear hK K)))
  refine wpC_cut [13, 14, 15, 16, 17, 18, 19, 20] (fun p : Nat × Store => [(5, .sl p.1 out0.length 0 out0.length 1)]) (fun p _ => p.2) (fun p => p.2[p.1]? = some (.arr (ints out0) 1 0 true)) ?_ ?_
  · rcases gIdx_cases gs n with ⟨e1, e2⟩ | ⟨a, b, e1, e2, e3⟩
    · rw [e1] at h0
      subst h0
      have z : ¬ (0 : Int) ≤ -1 := by omega
      rw [e2]
      clear q e1 e2
      repeat' (first | refine go1 ?_ | refine blockK_else rfl ?_ | (refine wpC_cond fun A B hA hB => ?_; simp only [go_sem, reduceIte, Nat.reduceAdd, Nat.reduceEqDiff, Nat.reduceLT, Nat.reduceLeDiff, *, wpK_assignN ty29 rfl, ]; first | (refine hA.out ?_; clear hA hB A B) | (refine hB.out ?_; clear hA hB A B) | (refine iteI (fun h => hA.out ?_) (fun h => hB.out ?_) <;> clear hA hB A B) | (refine iteI (fun h => hB.out ?_) (fun h => hA.out ?_) <;> clear hA hB A B)) | (refine wpO_cons fun K hK => ?_; simp only [go_sem, reduceIte, Nat.reduceAdd, Nat.reduceEqDiff, Nat.reduceLT, Nat.reduceLeDiff, *, wpK_assignN ty29 rfl, ]; first | (refine hK.out _ _ ?_; clear hK K) | (refine iteI (fun h => hK.out _ _ ?_) (fun h => hK.out _ _ ?_) <;> clear hK K)))
      refine cut_next (1, _) ?_ ?_ ⟨[], rfl⟩
      · rfl
      · ((try simp only [eraseA_cons, eraseA_nil, setL_cons, setL_nil, List.set_cons_zero, List.set_cons_succ]); all_goals (first | rfl | (simp only [len_snoc, ints_len, List.length_map, ]; done) | (simp only [len_snoc, len_mid, ints_len, List.length_map, List.length_append, List.length_cons, List.length_nil, Nat.zero_add, ]; done) | (simp only [len_mid, len_snoc, ints_len, List.length_map, List.length_append, List.length_cons, List.length_nil, Nat.zero_add, ]; rfl)))
    · rw [e1] at h0
      simp only [if_true] at h0
      have i1 := idx_sls h.sl (X := CX) ty23 ty37 rfl (n := a.length) (row := encG (fnd gs n)) (k := .i64) (map_at encG e2)
      have z : (0 : Int) ≤ (a.length : Int) := by omega
      have g0 := fnd_ok h n
      have gl := fnd_len h n
      have q2 := (sorted1 _ _ g0.sv (by omega)).rw
      rw [h0] at q2
      have s2 := g0.sv.snap
      rw [e3]
      clear q e1 e2 e3 h0
      repeat' (first | refine go1 ?_ | refine blockK_else rfl ?_ | (refine wpC_cond fun A B hA hB => ?_; simp only [go_sem, reduceIte, Nat.reduceAdd, Nat.reduceEqDiff, Nat.reduceLT, Nat.reduceLeDiff, *, wpK_assignN ty29 rfl, hv, hvs, i1, encG, s2, q2]; first | (refine hA.out ?_; clear hA hB A B) | (refine hB.out ?_; clear hA hB A B) | (refine iteI (fun h => hA.out ?_) (fun h => hB.out ?_) <;> clear hA hB A B) | (refine iteI (fun h => hB.out ?_) (fun h => hA.out ?_) <;> clear hA hB A B)) | (refine wpO_cons fun K hK => ?_; simp only [go_sem, reduceIte, Nat.reduceAdd, Nat.reduceEqDiff, Nat.reduceLT, Nat.reduceLeDiff, *, wpK_assignN ty29 rfl, hv, hvs, i1, encG, s2, q2]; first | (refine hK.out _ _ ?_; clear hK K) | (refine iteI (fun h => hK.out _ _ ?_) (fun h => hK.out _ _ ?_) <;> clear hK K)))
      refine cut_next (2, _) ?_ ?_ ⟨[], rfl⟩
      · rfl
      · ((try simp only [eraseA_cons, eraseA_nil, setL_cons, setL_nil, List.set_cons_zero, List.set_cons_succ]); all_goals (first | rfl | (simp only [len_snoc, ints_len, List.length_map, ]; done) | (simp only [len_snoc, len_mid, ints_len, List.length_map, List.length_append, List.length_cons, List.length_nil, Nat.zero_add, ]; done) | (simp only [len_mid, len_snoc, ints_len, List.length_map, List.length_append, List.length_cons, List.length_nil, Nat.zero_add, ]; rfl)))
  rintro ⟨b0, S0⟩ g G hb0
  simp only at hb0
  simp only [garbA_cons, garbA_nil, setL_cons, setL_nil, List.set_cons_zero, List.set_cons_succ]
  clear q h0
  repeat' (first | refine go1 ?_ | refine blockK_else rfl ?_ | (refine wpO_cons fun K hK => ?_; simp only [go_sem, reduceIte, Nat.reduceAdd, Nat.reduceEqDiff, Nat.reduceLT, Nat.reduceLeDiff, *, wpK_assignN ty29 rfl, lenK_sls h.sl]; first | (refine hK.out _ _ ?_; clear hK K) | (refine iteI (fun h => hK.out _ _ ?_) (fun h => hK.out _ _ ?_) <;> clear hK K)))
  refine wpC_loopF [7, 8, 9, 24, 25, 26, 27, 28, 29, 30, 31, 32, 33, 34, 35, 36, 37, 38, 39, 40, 41, 42, 43, 44, 45, 46, 47, 48] (fun p : Nat × List Int × Nat × Store => [(5, .sl p.2.2.1 p.2.1.length 0 p.2.1.length 1), (23, .int .i64 p.1)]) (fun p _ => p.2.2.2)
    (fun p => p.1 ≤ gs.length ∧ InB gs p.2.1 ∧ rndB gs (gs.length - p.1) p.2.1 = rndB gs gs.length out0 ∧ p.2.2.2[p.2.2.1]? = some (.arr (ints p.2.1) 1 0 true)) (fun p => gs.length - p.1) (0, out0, b0, S0) ⟨Nat.zero_le _, hi0, rfl, hb0⟩ ?_ ⟨[], rfl⟩ ?_
  · ((try simp only [eraseA_cons, eraseA_nil, setL_cons, setL_nil, List.set_cons_zero, List.set_cons_succ]); all_goals (first | rfl | (simp only [len_snoc, ints_len, List.length_map, ]; done) | (simp only [len_snoc, len_mid, ints_len, List.length_map, List.length_append, List.length_cons, List.length_nil, Nat.zero_add, ]; done) | (simp only [len_mid, len_snoc, ints_len, List.length_map, List.length_append, List.length_cons, List.length_nil, Nat.zero_add, ]; rfl)))
  rintro ⟨k, out, b, S⟩ g G ⟨hk, hi, hr, hb⟩
  simp only at hk hi hr hb
  rw [← hr]
  clear hr hb0 hi0
  simp only [garbA_cons, garbA_nil, setL_cons, setL_nil, List.set_cons_zero, List.set_cons_succ]
  by_cases hkk : k = gs.length
  · subst hkk
    rw [Nat.sub_self, rndB]
    repeat' (first | refine go1 ?_ | refine blockK_else rfl ?_ | (refine wpC_cond fun A B hA hB => ?_; simp only [go_sem, reduceIte, Nat.reduceAdd, Nat.reduceEqDiff, Nat.reduceLT, Nat.reduceLeDiff, *, wpK_assignN ty29 rfl, Int.lt_irrefl, List.length_map]; first | (refine hA.out ?_; clear hA hB A B) | (refine hB.out ?_; clear hA hB A B) | (refine iteI (fun h => hA.out ?_) (fun h => hB.out ?_) <;> clear hA hB A B) | (refine iteI (fun h => hB.out ?_) (fun h => hA.out ?_) <;> clear hA hB A B)) | (refine wpO_cons fun K hK => ?_; simp only [go_sem, reduceIte, Nat.reduceAdd, Nat.reduceEqDiff, Nat.reduceLT, Nat.reduceLeDiff, *, wpK_assignN ty29 rfl, Int.lt_irrefl, List.length_map]; first | (refine hK.out _ _ ?_; clear hK K) | (refine iteI (fun h => hK.out _ _ ?_) (fun h => hK.out _ _ ?_) <;> clear hK K)))
    simp only [resultsR, resultsL, resultA, expK_int, expK_bool, expK_str, expK_agg, expK_own, expK_tsl, resK_some, go_sem, reduceIte, Nat.reduceAdd, Nat.reduceEqDiff, Nat.reduceLT, Nat.reduceLeDiff, wpK_assignN ty29 rfl, snap_sl, rowsOf_sl, ints_len, ints_take, List.take_length, Nat.zero_le, Nat.zero_add, Bool.true_or, hb]
  have lt1 : (k : Int) < (gs.length : Int) := by omega
  have hlen := hi.len h
  repeat' (first | refine go1 ?_ | refine blockK_else rfl ?_ | (refine wpO_cons fun K hK => ?_; simp only [go_sem, reduceIte, Nat.reduceAdd, Nat.reduceEqDiff, Nat.reduceLT, Nat.reduceLeDiff, *, wpK_assignN ty29 rfl, lt1, List.length_map]; first | (refine hK.out _ _ ?_; clear hK K) | (refine iteI (fun h => hK.out _ _ ?_) (fun h => hK.out _ _ ?_) <;> clear hK K)))
  (refine wpC_cond fun A B hA hB => ?_; simp only [go_sem, reduceIte, Nat.reduceAdd, Nat.reduceEqDiff, Nat.reduceLT, Nat.reduceLeDiff, *, wpK_assignN ty29 rfl, lt1]; first | (refine hA.out ?_; clear hA hB A B) | (refine hB.out ?_; clear hA hB A B))
  repeat' (first | refine go1 ?_ | refine blockK_else rfl ?_ | (refine wpO_cons fun K hK => ?_; simp only [go_sem, reduceIte, Nat.reduceAdd, Nat.reduceEqDiff, Nat.reduceLT, Nat.reduceLeDiff, *, wpK_assignN ty29 rfl, lenK_sl]; first | (refine hK.out _ _ ?_; clear hK K) | (refine iteI (fun h => hK.out _ _ ?_) (fun h => hK.out _ _ ?_) <;> clear hK K)))
  refine wpC_loopF [8, 9, 29, 30, 31, 32, 33, 34, 35, 36, 37, 38, 39, 40, 41, 42, 43, 44, 45, 46] (fun p : List Int × List Int × List Int × Nat × Store => [(7, .sl p.2.2.2.1 p.2.2.1.length 0 p.2.2.1.length 1), (28, .int .i64 p.1.length)]) (fun p _ => p.2.2.2.2)
    (fun p => out = p.1 ++ p.2.1 ∧ InB gs p.2.2.1 ∧ moreB gs p.2.1 p.2.2.1 = moreB gs out out ∧ p.2.2.2.2[b]? = some (.arr (ints out) 1 0 true) ∧ p.2.2.2.2[p.2.2.2.1]? = some (.arr (ints p.2.2.1) 1 0 true)) (fun p => p.2.1.length) ([], out, out, b, S) ⟨rfl, hi, rfl, hb, hb⟩ ?_ ⟨[], rfl⟩ ?_
  · ((try simp only [eraseA_cons, eraseA_nil, setL_cons, setL_nil, List.set_cons_zero, List.set_cons_succ]); all_goals (first | rfl | (simp only [len_snoc, ints_len, List.length_map, ]; done) | (simp only [len_snoc, len_mid, ints_len, List.length_map, List.length_append, List.length_cons, List.length_nil, Nat.zero_add, ]; done) | (simp only [len_mid, len_snoc, ints_len, List.length_map, List.length_append, List.length_cons, List.length_nil, Nat.zero_add, ]; rfl)))
  rintro ⟨pre, post, more, b2, S2⟩ g G ⟨h1, h2, h3, h4, h5⟩
  simp only at h1 h2 h3 h4 h5
  clear hb
  simp only [garbA_cons, garbA_nil, setL_cons, setL_nil, List.set_cons_zero, List.set_cons_succ]
  cases post with
  | nil =>
    rw [List.append_nil] at h1
    have e : (out.length : Int) = (pre.length : Int) := by rw [h1]
    have hh : Hold (moreB gs out out = more) := ⟨h3.symm⟩
    clear h1 h3
    have w1 := wrap_succ (n := k) (by omega)
    repeat' (first | refine go1 ?_ | refine blockK_else rfl ?_ | (refine wpC_cond fun A B hA hB => ?_; simp only [go_sem, reduceIte, Nat.reduceAdd, Nat.reduceEqDiff, Nat.reduceLT, Nat.reduceLeDiff, *, wpK_assignN ty29 rfl, e, Int.lt_irrefl, w1]; first | (refine hA.out ?_; clear hA hB A B) | (refine hB.out ?_; clear hA hB A B) | (refine iteI (fun h => hA.out ?_) (fun h => hB.out ?_) <;> clear hA hB A B) | (refine iteI (fun h => hB.out ?_) (fun h => hA.out ?_) <;> clear hA hB A B)) | (refine wpO_cons fun K hK => ?_; simp only [go_sem, reduceIte, Nat.reduceAdd, Nat.reduceEqDiff, Nat.reduceLT, Nat.reduceLeDiff, *, wpK_assignN ty29 rfl, e, Int.lt_irrefl, w1]; first | (refine hK.out _ _ ?_; clear hK K) | (refine iteI (fun h => hK.out _ _ ?_) (fun h => hK.out _ _ ?_) <;> clear hK K)))
    refine loopF_next (k + 1, more, b2, S2) (by simp only; omega) ⟨by simp only; omega, h2, ?_, h5⟩ ?_ ⟨[], rfl⟩
    · obtain ⟨j, hj⟩ : ∃ j, gs.length - k = j + 1 := ⟨gs.length - k - 1, by omega⟩
      have hj2 : gs.length - (k + 1) = j := by omega
      simp only [hj2, hj, rndB, hh.out]
    · ((try simp only [eraseA_cons, eraseA_nil, setL_cons, setL_nil, List.set_cons_zero, List.set_cons_succ]); all_goals (first | rfl | (simp only [len_snoc, ints_len, List.length_map, ]; done) | (simp only [len_snoc, len_mid, ints_len, List.length_map, List.length_append, List.length_cons, List.length_nil, Nat.zero_add, ]; done) | (simp only [len_mid, len_snoc, ints_len, List.length_map, List.length_append, List.length_cons, List.length_nil, Nat.zero_add, ]; rfl)))
  | cons x post =>
    have hlp : pre.length < out.length := by rw [h1]; simp
    have i1 := idxS (b := b) (n := out.length) (off := 0) (len := out.length) (j := pre.length) (k := .i64) hlp
    have i2 : (ints out)[pre.length]? = some [.int .i64 x] := by rw [h1]; exact ints_mid pre x post
    have lt2 : (pre.length : Int) < (out.length : Int) := by omega
    have w1 := wrap_succ (n := pre.length) (by omega)
    have q := (findR h x).rw
    have hh1 : Hold (out = (pre ++ [x]) ++ post) := ⟨by rw [h1]; simp⟩
    have hm := h2.len h
    clear h1
    rw [moreB_cons] at h3
    rcases gIdx_cases gs x with ⟨e1, e2⟩ | ⟨a, c, e1, e2, e3⟩
    · rw [e1] at h3
      rw [e2] at q
      have hh3 : Hold (moreB gs post more = moreB gs out out) := ⟨h3⟩
      have z : ¬ (0 : Int) ≤ -1 := by omega
      clear h3 e1 e2
      repeat' (first | refine go1 ?_ | refine blockK_else rfl ?_ | (refine wpC_cond fun A B hA hB => ?_; simp only [go_sem, reduceIte, Nat.reduceAdd, Nat.reduceEqDiff, Nat.reduceLT, Nat.reduceLeDiff, *, wpK_assignN ty29 rfl, hv, hvs, i1, i2, lt2, hlp, w1, q, adopt_int, z]; first | (refine hA.out ?_; clear hA hB A B) | (refine hB.out ?_; clear hA hB A B) | (refine iteI (fun h => hA.out ?_) (fun h => hB.out ?_) <;> clear hA hB A B) | (refine iteI (fun h => hB.out ?_) (fun h => hA.out ?_) <;> clear hA hB A B)) | (refine wpO_cons fun K hK => ?_; simp only [go_sem, reduceIte, Nat.reduceAdd, Nat.reduceEqDiff, Nat.reduceLT, Nat.reduceLeDiff, *, wpK_assignN ty29 rfl, hv, hvs, i1, i2, lt2, hlp, w1, q, adopt_int, z]; first | (refine hK.out _ _ ?_; clear hK K) | (refine iteI (fun h => hK.out _ _ ?_) (fun h => hK.out _ _ ?_) <;> clear hK K)))
      repeat' (first | refine go1 ?_ | refine blockK_else rfl ?_ | (refine wpC_cond fun A B hA hB => ?_; simp only [go_sem, reduceIte, Nat.reduceAdd, Nat.reduceEqDiff, Nat.reduceLT, Nat.reduceLeDiff, *, wpK_assignN ty29 rfl, hv, hvs, i1, i2, lt2, hlp, w1, q, adopt_int, z, snap_sl, rowsOf_sl, ints_len, ints_take, List.take_length, Nat.zero_le, Nat.zero_add, Bool.true_or]; first | (refine hA.out ?_; clear hA hB A B) | (refine hB.out ?_; clear hA hB A B) | (refine iteI (fun h => hA.out ?_) (fun h => hB.out ?_) <;> clear hA hB A B) | (refine iteI (fun h => hB.out ?_) (fun h => hA.out ?_) <;> clear hA hB A B)) | (refine wpO_cons fun K hK => ?_; simp only [go_sem, reduceIte, Nat.reduceAdd, Nat.reduceEqDiff, Nat.reduceLT, Nat.reduceLeDiff, *, wpK_assignN ty29 rfl, hv, hvs, i1, i2, lt2, hlp, w1, q, adopt_int, z, snap_sl, rowsOf_sl, ints_len, ints_take, List.take_length, Nat.zero_le, Nat.zero_add, Bool.true_or]; first | (refine hK.out _ _ ?_; clear hK K) | (refine iteI (fun h => hK.out _ _ ?_) (fun h => hK.out _ _ ?_) <;> clear hK K)))
      refine loopF_next (pre ++ [x], post, more, b2, S2) (Nat.lt_succ_self _) ⟨hh1.out, h2, hh3.out, h4, h5⟩ ?_ ⟨[], rfl⟩
      · ((try simp only [eraseA_cons, eraseA_nil, setL_cons, setL_nil, List.set_cons_zero, List.set_cons_succ]); all_goals (first | rfl | (simp only [len_snoc, ints_len, List.length_map, ]; done) | (simp only [len_snoc, len_mid, ints_len, List.length_map, List.length_append, List.length_cons, List.length_nil, Nat.zero_add, ]; done) | (simp only [len_mid, len_snoc, ints_len, List.length_map, List.length_append, List.length_cons, List.length_nil, Nat.zero_add, ]; rfl)))
    · rw [e1] at h3
      rw [e3] at q
      have hh3 : Hold (moreB gs post (sorted (more ++ (fnd gs x).subs)) = moreB gs out out) := ⟨h3⟩
      have z : (0 : Int) ≤ (a.length : Int) := by omega
      have j1 := idx_sls h.sl (X := CX) ty23 ty37 rfl (n := a.length) (row := encG (fnd gs x)) (k := .i64) (map_at encG e2)
      have g0 := fnd_ok h x
      have gl := fnd_len h x
      have s2 := g0.sv.snap
      have q2 := (union1 (.tsl false 1 (ints more)) _ more _ (.rows false) g0.sv (by omega) (by omega)).rw
      clear h3 e1 e2 e3
      repeat' (first | refine go1 ?_ | refine blockK_else rfl ?_ | (refine wpC_cond fun A B hA hB => ?_; simp only [go_sem, reduceIte, Nat.reduceAdd, Nat.reduceEqDiff, Nat.reduceLT, Nat.reduceLeDiff, *, wpK_assignN ty29 rfl, hv, hvs, i1, i2, lt2, hlp, w1, q, adopt_int, z, j1, encG, s2, snap_sl, rowsOf_sl, ints_len, ints_take, List.take_length, Nat.zero_le, Nat.zero_add, Bool.true_or, q2]; first | (refine hA.out ?_; clear hA hB A B) | (refine hB.out ?_; clear hA hB A B) | (refine iteI (fun h => hA.out ?_) (fun h => hB.out ?_) <;> clear hA hB A B) | (refine iteI (fun h => hB.out ?_) (fun h => hA.out ?_) <;> clear hA hB A B)) | (refine wpO_cons fun K hK => ?_; simp only [go_sem, reduceIte, Nat.reduceAdd, Nat.reduceEqDiff, Nat.reduceLT, Nat.reduceLeDiff, *, wpK_assignN ty29 rfl, hv, hvs, i1, i2, lt2, hlp, w1, q, adopt_int, z, j1, encG, s2, snap_sl, rowsOf_sl, ints_len, ints_take, List.take_length, Nat.zero_le, Nat.zero_add, Bool.true_or, q2]; first | (refine hK.out _ _ ?_; clear hK K) | (refine iteI (fun h => hK.out _ _ ?_) (fun h => hK.out _ _ ?_) <;> clear hK K)))
      refine loopF_next (pre ++ [x], post, sorted (more ++ (fnd gs x).subs), S2.length, _) (Nat.lt_succ_self _) ⟨hh1.out, h2.more x, hh3.out, get_app h4, ?_⟩ ?_ ⟨[], rfl⟩
      · simp
      · ((try simp only [eraseA_cons, eraseA_nil, setL_cons, setL_nil, List.set_cons_zero, List.set_cons_succ]); all_goals (first | rfl | (simp only [len_snoc, ints_len, List.length_map, ]; done) | (simp only [len_snoc, len_mid, ints_len, List.length_map, List.length_append, List.length_cons, List.length_nil, Nat.zero_add, ]; done) | (simp only [len_mid, len_snoc, ints_len, List.length_map, List.length_append, List.length_cons, List.length_nil, Nat.zero_add, ]; rfl)))

/- Groups: the reference's Members, In, Of. -/
open Go.Proofs
attribute [local go_sem] br17 fz75 fz95 fz96 br19 br24 fz76 br21 fz79 fz80
set_option maxHeartbeats 4000000

/-- Lists of People. -/
def InP (gs : List Grp) (l : List Int) : Prop := UpL l ∧ ∀ x ∈ l, x ∈ gs.flatMap (·.people)
theorem ppl_flat {gs : List Grp} (h : ∀ g ∈ gs, g.people.length ≤ 1000) : (gs.flatMap (·.people)).length ≤ gs.length * 1000 := by
  induction gs with
  | nil => simp
  | cons g gs ih =>
    have h1 := h g (by simp)
    have h2 := ih fun x hx => h x (by simp [hx])
    simp only [List.flatMap_cons, List.length_append, List.length_cons]
    omega
theorem InP.len {v : AV} {gs : List Grp} {l : List Int} (h : InP gs l) (hg : GsOK v gs) : l.length ≤ 1000000 := by
  have h1 := nodup_len (up_nodup h.1) h.2
  have h2 := ppl_flat hg.ppl
  have := hg.len
  omega
theorem InP.more {gs : List Grp} {l : List Int} (h : InP gs l) (x : Int) : InP gs (sorted (l ++ (fnd gs x).people)) := by
  refine ⟨sorted_up _, fun y hy => ?_⟩
  rw [mem_sorted, List.mem_append] at hy
  rcases hy with hy | hy
  · exact h.2 y hy
  · rcases fnd_cases gs x with ⟨_, e⟩ | ⟨_, _, e⟩
    · rw [e] at hy; simp [noG] at hy
    · exact List.mem_flatMap.mpr ⟨_, e, hy⟩
theorem unionP_cons (gs : List Grp) (x : Int) (l out : List Int) : unionP gs (x :: l) out = unionP gs l (if isG gs x then sorted (out ++ (fnd gs x).people) else out) := rfl
theorem rndB_in {gs : List Grp} : ∀ (k : Nat) {out : List Int}, InB gs out → InB gs (rndB gs k out)
  | 0, _, h => h
  | k + 1, out, h => by
    refine rndB_in k ⟨moreB_up h.1, fun y hy => ?_⟩
    rcases mem_moreB.mp hy with h1 | ⟨x, h1, h2, h3⟩
    · exact h.2 y h1
    · rcases fnd_cases gs x with ⟨_, e⟩ | ⟨_, _, e⟩
      · rw [e] at h3; simp [noG] at h3
      · exact List.mem_flatMap.mpr ⟨_, e, h3⟩
theorem belowR_in (gs : List Grp) (n : Int) : InB gs (belowR gs n) := by
  unfold belowR
  refine rndB_in _ ?_
  split
  · have := InB.more (gs := gs) (l := []) ⟨up_nil, by simp⟩ n
    simpa using this
  · exact ⟨up_nil, by simp⟩
theorem unionP_in {gs : List Grp} : ∀ (l : List Int) {out : List Int}, InP gs out → InP gs (unionP gs l out)
  | [], _, h => h
  | x :: l, out, h => by
    rw [unionP_cons]
    refine unionP_in l ?_
    split
    · exact h.more x
    · exact h
theorem membersR_in (gs : List Grp) (n : Int) : InP gs (membersR gs n) := by
  unfold membersR
  split
  · exact unionP_in _ ⟨up_nil, by simp⟩
  · exact ⟨up_nil, by simp⟩

theorem membersRE {v : AV} {gs : List Grp} (h : GsOK v gs) (n : Int) : EvV CX 19 [v, .int .i64 n] (· = .osl 1 (ints (membersR gs n))) := by
  have hv := h.sl.cell
  have hvs := fun S => h.sl.snap (S := S)
  have hgl := h.len
  unfold membersR
  have q := (findR h n).rw
  rcases gIdx_cases gs n with ⟨e1, e2⟩ | ⟨a, b, e1, e2, e3⟩
  · rw [e2] at q
    rw [e1]
    have z : (-1 : Int) < 0 := by omega
    clear e1 e2
    refine EvV.walk rfl fn19 rfl nt19 rfl ?_
    simp only [List.length_cons, List.length_nil, List.cons_append, List.nil_append, Nat.reduceAdd, Nat.reduceSub, List.replicate]
    repeat' (first | refine go1 ?_ | refine blockK_else rfl ?_ | (refine wpC_cond fun A B hA hB => ?_; simp only [go_sem, reduceIte, Nat.reduceAdd, Nat.reduceEqDiff, Nat.reduceLT, Nat.reduceLeDiff, *, wpK_assignN ty29 rfl, hv, hvs, q, adopt_int, z]; first | (refine hA.out ?_; clear hA hB A B) | (refine hB.out ?_; clear hA hB A B) | (refine iteI (fun h => hA.out ?_) (fun h => hB.out ?_) <;> clear hA hB A B) | (refine iteI (fun h => hB.out ?_) (fun h => hA.out ?_) <;> clear hA hB A B)) | (refine wpO_cons fun K hK => ?_; simp only [go_sem, reduceIte, Nat.reduceAdd, Nat.reduceEqDiff, Nat.reduceLT, Nat.reduceLeDiff, *, wpK_assignN ty29 rfl, hv, hvs, q, adopt_int, z]; first | (refine hK.out _ _ ?_; clear hK K) | (refine iteI (fun h => hK.out _ _ ?_) (fun h => hK.out _ _ ?_) <;> clear hK K)))
    simp only [resultsR, resultsL, resultA, expK_int, expK_bool, expK_str, expK_agg, expK_own, expK_tsl, resK_some, go_sem, reduceIte, Nat.reduceAdd, Nat.reduceEqDiff, Nat.reduceLT, Nat.reduceLeDiff, wpK_assignN ty29 rfl, snap_sl, rowsOf_sl, ints_len, ints_take, List.take_length, Nat.zero_le, Nat.zero_add, Bool.true_or]
    rfl
  have qb := (belowRE h n).rw
  have hbi := (belowR_in gs n).len h
  have qp := (put1 false (belowR gs n) n (by omega)).rw
  have hpl := put_len (belowR gs n) n
  rw [if_pos e1]
  rw [e3] at q
  obtain ⟨B, hB⟩ : ∃ B, belowR gs n = B := ⟨_, rfl⟩
  obtain ⟨all, hA⟩ : ∃ A, put B n = A := ⟨_, rfl⟩
  rw [hB] at qb qp hbi hpl ⊢
  rw [hA] at qp hpl ⊢
  have z : ¬ (a.length : Int) < 0 := by omega
  clear e1 e2 e3 hB hA
  refine EvV.walk rfl fn19 rfl nt19 rfl ?_
  simp only [List.length_cons, List.length_nil, List.cons_append, List.nil_append, Nat.reduceAdd, Nat.reduceSub, List.replicate]
  repeat' (first | refine go1 ?_ | refine blockK_else rfl ?_ | (refine wpO_cons fun K hK => ?_; simp only [go_sem, reduceIte, Nat.reduceAdd, Nat.reduceEqDiff, Nat.reduceLT, Nat.reduceLeDiff, *, wpK_assignN ty29 rfl, hv, hvs, q, adopt_int]; first | (refine hK.out _ _ ?_; clear hK K) | (refine iteI (fun h => hK.out _ _ ?_) (fun h => hK.out _ _ ?_) <;> clear hK K)))
  (refine wpC_cond fun A B hA hB => ?_; simp only [go_sem, reduceIte, Nat.reduceAdd, Nat.reduceEqDiff, Nat.reduceLT, Nat.reduceLeDiff, *, wpK_assignN ty29 rfl, z]; first | (refine hA.out ?_; clear hA hB A B) | (refine hB.out ?_; clear hA hB A B))
  repeat' (first | refine go1 ?_ | refine blockK_else rfl ?_ | (refine wpO_cons fun K hK => ?_; simp only [go_sem, reduceIte, Nat.reduceAdd, Nat.reduceEqDiff, Nat.reduceLT, Nat.reduceLeDiff, *, wpK_assignN ty29 rfl, hv, hvs, qb, qp, adopt_osl, snap_sl, rowsOf_sl, ints_len, ints_take, List.take_length, Nat.zero_le, Nat.zero_add, Bool.true_or, lenK_sl]; first | (refine hK.out _ _ ?_; clear hK K) | (refine iteI (fun h => hK.out _ _ ?_) (fun h => hK.out _ _ ?_) <;> clear hK K)))
  refine wpC_loopF [7, 8, 21, 22, 23, 24, 25, 26, 27, 28, 29, 30, 31, 32, 33, 34, 35, 36, 37, 38] (fun p : List Int × List Int × List Int × Nat × Store => [(6, .sl p.2.2.2.1 p.2.2.1.length 0 p.2.2.1.length 1), (20, .int .i64 p.1.length)]) (fun p _ => p.2.2.2.2)
    (fun p => all = p.1 ++ p.2.1 ∧ InP gs p.2.2.1 ∧ unionP gs p.2.1 p.2.2.1 = unionP gs all [] ∧ p.2.2.2.2[2]? = some (.arr (ints all) 1 0 true) ∧ p.2.2.2.2[p.2.2.2.1]? = some (.arr (ints p.2.2.1) 1 0 true)) (fun p => p.2.1.length) ([], all, [], 3, [.arr [] 1 0 true, .arr (ints B) 1 0 true, .arr (ints all) 1 0 true, .arr [] 1 0 true]) ⟨rfl, ⟨up_nil, by simp⟩, rfl, rfl, rfl⟩ ?_ ⟨[], rfl⟩ ?_
  · ((try simp only [eraseA_cons, eraseA_nil, setL_cons, setL_nil, List.set_cons_zero, List.set_cons_succ]); all_goals (first | rfl | (simp only [len_snoc, ints_len, List.length_map, ]; done) | (simp only [len_snoc, len_mid, ints_len, List.length_map, List.length_append, List.length_cons, List.length_nil, Nat.zero_add, ]; done) | (simp only [len_mid, len_snoc, ints_len, List.length_map, List.length_append, List.length_cons, List.length_nil, Nat.zero_add, ]; rfl)))
  clear q qb qp
  rintro ⟨pre, post, out, b2, S2⟩ g G ⟨h1, h2, h3, h4, h5⟩
  simp only at h1 h2 h3 h4 h5
  simp only [garbA_cons, garbA_nil, setL_cons, setL_nil, List.set_cons_zero, List.set_cons_succ]
  cases post with
  | nil =>
    rw [List.append_nil] at h1
    have e : (all.length : Int) = (pre.length : Int) := by rw [h1]
    have hh : Hold (unionP gs all [] = out) := ⟨h3.symm⟩
    rw [hh.out]
    clear h1 h3
    repeat' (first | refine go1 ?_ | refine blockK_else rfl ?_ | (refine wpC_cond fun A B hA hB => ?_; simp only [go_sem, reduceIte, Nat.reduceAdd, Nat.reduceEqDiff, Nat.reduceLT, Nat.reduceLeDiff, *, wpK_assignN ty29 rfl, e, Int.lt_irrefl]; first | (refine hA.out ?_; clear hA hB A B) | (refine hB.out ?_; clear hA hB A B) | (refine iteI (fun h => hA.out ?_) (fun h => hB.out ?_) <;> clear hA hB A B) | (refine iteI (fun h => hB.out ?_) (fun h => hA.out ?_) <;> clear hA hB A B)) | (refine wpO_cons fun K hK => ?_; simp only [go_sem, reduceIte, Nat.reduceAdd, Nat.reduceEqDiff, Nat.reduceLT, Nat.reduceLeDiff, *, wpK_assignN ty29 rfl, e, Int.lt_irrefl]; first | (refine hK.out _ _ ?_; clear hK K) | (refine iteI (fun h => hK.out _ _ ?_) (fun h => hK.out _ _ ?_) <;> clear hK K)))
    simp only [resultsR, resultsL, resultA, expK_int, expK_bool, expK_str, expK_agg, expK_own, expK_tsl, resK_some, go_sem, reduceIte, Nat.reduceAdd, Nat.reduceEqDiff, Nat.reduceLT, Nat.reduceLeDiff, wpK_assignN ty29 rfl, snap_sl, rowsOf_sl, ints_len, ints_take, List.take_length, Nat.zero_le, Nat.zero_add, Bool.true_or, h5]
  | cons x post =>
    have hlp : pre.length < all.length := by rw [h1]; simp
    have i1 := idxS (b := 2) (n := all.length) (off := 0) (len := all.length) (j := pre.length) (k := .i64) hlp
    have i2 : (ints all)[pre.length]? = some [.int .i64 x] := by rw [h1]; exact ints_mid pre x post
    have lt2 : (pre.length : Int) < (all.length : Int) := by omega
    have w1 := wrap_succ (n := pre.length) (by omega)
    have q := (findR h x).rw
    have hh1 : Hold (all = (pre ++ [x]) ++ post) := ⟨by rw [h1]; simp⟩
    have hm := h2.len h
    clear h1
    rw [unionP_cons] at h3
    rcases gIdx_cases gs x with ⟨e1, e2⟩ | ⟨a, c, e1, e2, e3⟩
    · rw [e1] at h3
      rw [e2] at q
      have hh3 : Hold (unionP gs post out = unionP gs all []) := ⟨h3⟩
      have z : ¬ (0 : Int) ≤ -1 := by omega
      clear h3 e1 e2
      repeat' (first | refine go1 ?_ | refine blockK_else rfl ?_ | (refine wpC_cond fun A B hA hB => ?_; simp only [go_sem, reduceIte, Nat.reduceAdd, Nat.reduceEqDiff, Nat.reduceLT, Nat.reduceLeDiff, *, wpK_assignN ty29 rfl, hv, hvs, i1, i2, lt2, hlp, w1, q, adopt_int, z, snap_sl, rowsOf_sl, ints_len, ints_take, List.take_length, Nat.zero_le, Nat.zero_add, Bool.true_or]; first | (refine hA.out ?_; clear hA hB A B) | (refine hB.out ?_; clear hA hB A B) | (refine iteI (fun h => hA.out ?_) (fun h => hB.out ?_) <;> clear hA hB A B) | (refine iteI (fun h => hB.out ?_) (fun h => hA.out ?_) <;> clear hA hB A B)) | (refine wpO_cons fun K hK => ?_; simp only [go_sem, reduceIte, Nat.reduceAdd, Nat.reduceEqDiff, Nat.reduceLT, Nat.reduceLeDiff, *, wpK_assignN ty29 rfl, hv, hvs, i1, i2, lt2, hlp, w1, q, adopt_int, z, snap_sl, rowsOf_sl, ints_len, ints_take, List.take_length, Nat.zero_le, Nat.zero_add, Bool.true_or]; first | (refine hK.out _ _ ?_; clear hK K) | (refine iteI (fun h => hK.out _ _ ?_) (fun h => hK.out _ _ ?_) <;> clear hK K)))
      refine loopF_next (pre ++ [x], post, out, b2, S2) (Nat.lt_succ_self _) ⟨hh1.out, h2, hh3.out, h4, h5⟩ ?_ ⟨[], rfl⟩
      · ((try simp only [eraseA_cons, eraseA_nil, setL_cons, setL_nil, List.set_cons_zero, List.set_cons_succ]); all_goals (first | rfl | (simp only [len_snoc, ints_len, List.length_map, ]; done) | (simp only [len_snoc, len_mid, ints_len, List.length_map, List.length_append, List.length_cons, List.length_nil, Nat.zero_add, ]; done) | (simp only [len_mid, len_snoc, ints_len, List.length_map, List.length_append, List.length_cons, List.length_nil, Nat.zero_add, ]; rfl)))
    · rw [e1] at h3
      rw [e3] at q
      have hh3 : Hold (unionP gs post (sorted (out ++ (fnd gs x).people)) = unionP gs all []) := ⟨h3⟩
      have z : (0 : Int) ≤ (a.length : Int) := by omega
      have j1 := idx_sls h.sl (X := CX) ty23 ty37 rfl (n := a.length) (row := encG (fnd gs x)) (k := .i64) (map_at encG e2)
      have g0 := fnd_ok h x
      have gl := fnd_ppl h x
      have s2 := g0.pv.snap
      have q2 := (union1 (.tsl false 1 (ints out)) _ out _ (.rows false) g0.pv (by omega) (by omega)).rw
      clear h3 e1 e2 e3
      repeat' (first | refine go1 ?_ | refine blockK_else rfl ?_ | (refine wpC_cond fun A B hA hB => ?_; simp only [go_sem, reduceIte, Nat.reduceAdd, Nat.reduceEqDiff, Nat.reduceLT, Nat.reduceLeDiff, *, wpK_assignN ty29 rfl, hv, hvs, i1, i2, lt2, hlp, w1, q, adopt_int, z, j1, encG, s2, snap_sl, rowsOf_sl, ints_len, ints_take, List.take_length, Nat.zero_le, Nat.zero_add, Bool.true_or, q2]; first | (refine hA.out ?_; clear hA hB A B) | (refine hB.out ?_; clear hA hB A B) | (refine iteI (fun h => hA.out ?_) (fun h => hB.out ?_) <;> clear hA hB A B) | (refine iteI (fun h => hB.out ?_) (fun h => hA.out ?_) <;> clear hA hB A B)) | (refine wpO_cons fun K hK => ?_; simp only [go_sem, reduceIte, Nat.reduceAdd, Nat.reduceEqDiff, Nat.reduceLT, Nat.reduceLeDiff, *, wpK_assignN ty29 rfl, hv, hvs, i1, i2, lt2, hlp, w1, q, adopt_int, z, j1, encG, s2, snap_sl, rowsOf_sl, ints_len, ints_take, List.take_length, Nat.zero_le, Nat.zero_add, Bool.true_or, q2]; first | (refine hK.out _ _ ?_; clear hK K) | (refine iteI (fun h => hK.out _ _ ?_) (fun h => hK.out _ _ ?_) <;> clear hK K)))
      refine loopF_next (pre ++ [x], post, sorted (out ++ (fnd gs x).people), S2.length, _) (Nat.lt_succ_self _) ⟨hh1.out, h2.more x, hh3.out, get_app h4, ?_⟩ ?_ ⟨[], rfl⟩
      · simp
      · ((try simp only [eraseA_cons, eraseA_nil, setL_cons, setL_nil, List.set_cons_zero, List.set_cons_succ]); all_goals (first | rfl | (simp only [len_snoc, ints_len, List.length_map, ]; done) | (simp only [len_snoc, len_mid, ints_len, List.length_map, List.length_append, List.length_cons, List.length_nil, Nat.zero_add, ]; done) | (simp only [len_mid, len_snoc, ints_len, List.length_map, List.length_append, List.length_cons, List.length_nil, Nat.zero_add, ]; rfl)))

theorem inRE {v : AV} {gs : List Grp} (h : GsOK v gs) (n p : Int) : EvV CX 21 [v, .int .i64 n, .int .i64 p] (· = .bool ((membersR gs n).contains p)) := by
  have hv := h.sl.cell
  have hvs := fun S => h.sl.snap (S := S)
  have q := (membersRE h n).rw
  have hl := (membersR_in gs n).len h
  have q2 := (has1 (.tsl false 1 (ints (membersR gs n))) _ p (.rows false) (by omega)).rw
  refine EvV.walk rfl fn21 rfl nt21 rfl ?_
  simp only [List.length_cons, List.length_nil, List.cons_append, List.nil_append, Nat.reduceAdd, Nat.reduceSub, List.replicate]
  repeat' (first | refine go1 ?_ | refine blockK_else rfl ?_ | (refine wpC_cond fun A B hA hB => ?_; simp only [go_sem, reduceIte, Nat.reduceAdd, Nat.reduceEqDiff, Nat.reduceLT, Nat.reduceLeDiff, *, and_self, hv, hvs, q, q2, adopt_osl, snap_sl, rowsOf_sl, ints_len, ints_take, List.take_length, Nat.zero_le, Nat.zero_add, Bool.true_or]; first | (refine hA.out ?_; clear hA hB A B) | (refine hB.out ?_; clear hA hB A B) | (refine iteI (fun h => hA.out ?_) (fun h => hB.out ?_) <;> clear hA hB A B) | (refine iteI (fun h => hB.out ?_) (fun h => hA.out ?_) <;> clear hA hB A B)) | (refine wpO_cons fun K hK => ?_; simp only [go_sem, reduceIte, Nat.reduceAdd, Nat.reduceEqDiff, Nat.reduceLT, Nat.reduceLeDiff, *, and_self, hv, hvs, q, q2, adopt_osl, snap_sl, rowsOf_sl, ints_len, ints_take, List.take_length, Nat.zero_le, Nat.zero_add, Bool.true_or]; first | (refine hK.out _ _ ?_; clear hK K) | (refine iteI (fun h => hK.out _ _ ?_) (fun h => hK.out _ _ ?_) <;> clear hK K)))
  simp only [resultsR, resultsL, resultA, expK_int, expK_bool, expK_str, expK_agg, expK_own, expK_tsl, resK_some, go_sem, reduceIte, Nat.reduceAdd, Nat.reduceEqDiff, Nat.reduceLT, Nat.reduceLeDiff, and_self, ]

/-- The reference's Of. -/
def ofR (gs l : List Grp) (p : Int) : List Int := ((l.filter fun g => (membersR gs g.id).contains p).map (·.id)).foldl put []
theorem ofR_len (gs l : List Grp) (p : Int) : (ofR gs l p).length ≤ l.length := by
  have h1 := puts_len ((l.filter fun g => (membersR gs g.id).contains p).map (·.id)) []
  have h2 := List.length_filter_le (fun g => (membersR gs g.id).contains p) l
  unfold ofR
  simp only [List.length_map, List.length_nil] at h1
  omega
theorem ofR_snoc (gs l : List Grp) (p : Int) (x : Grp) : ofR gs (l ++ [x]) p = if (membersR gs x.id).contains p then put (ofR gs l p) x.id else ofR gs l p := by
  unfold ofR
  rw [List.filter_append, List.map_append, List.foldl_append]
  by_cases h : (membersR gs x.id).contains p = true
  · simp only [List.filter_cons, List.filter_nil, h, if_true]; rfl
  · simp only [List.filter_cons, List.filter_nil, h, if_false]; rfl

theorem ofRE {v : AV} {gs : List Grp} (h : GsOK v gs) (p : Int) : EvV CX 23 [v, .int .i64 p] (· = .osl 1 (ints (ofR gs gs p))) := by
  have hv := h.sl.cell
  have hvs := fun S => h.sl.snap (S := S)
  have hgl := h.len
  refine EvV.walk rfl fn23 rfl nt23 rfl ?_
  simp only [List.length_cons, List.length_nil, List.cons_append, List.nil_append, Nat.reduceAdd, Nat.reduceSub, List.replicate]
  repeat' (first | refine go1 ?_ | refine blockK_else rfl ?_ | (refine wpC_cond fun A B hA hB => ?_; simp only [go_sem, reduceIte, Nat.reduceAdd, Nat.reduceEqDiff, Nat.reduceLT, Nat.reduceLeDiff, *, wpK_assignN ty29 rfl, hv, hvs, lenK_sls h.sl]; first | (refine hA.out ?_; clear hA hB A B) | (refine hB.out ?_; clear hA hB A B) | (refine iteI (fun h => hA.out ?_) (fun h => hB.out ?_) <;> clear hA hB A B) | (refine iteI (fun h => hB.out ?_) (fun h => hA.out ?_) <;> clear hA hB A B)) | (refine wpO_cons fun K hK => ?_; simp only [go_sem, reduceIte, Nat.reduceAdd, Nat.reduceEqDiff, Nat.reduceLT, Nat.reduceLeDiff, *, wpK_assignN ty29 rfl, hv, hvs, lenK_sls h.sl]; first | (refine hK.out _ _ ?_; clear hK K) | (refine iteI (fun h => hK.out _ _ ?_) (fun h => hK.out _ _ ?_) <;> clear hK K)))
  refine wpC_loopF [6, 10, 11, 12, 13, 14, 15, 16, 17, 18, 19, 20, 21, 22, 23, 24, 25, 26, 27] (fun p' : List Grp × List Grp × Nat × Store => [(5, .sl p'.2.2.1 (ofR gs p'.1 p).length 0 (ofR gs p'.1 p).length 1), (9, .int .i64 p'.1.length)]) (fun p' _ => p'.2.2.2)
    (fun p' => gs = p'.1 ++ p'.2.1 ∧ p'.2.2.2[p'.2.2.1]? = some (.arr (ints (ofR gs p'.1 p)) 1 0 true)) (fun p' => p'.2.1.length) ([], gs, 1, [.arr [] 1 0 true, .arr [] 1 0 true]) ⟨rfl, rfl⟩ ?_ ⟨[], rfl⟩ ?_
  · ((try simp only [eraseA_cons, eraseA_nil, setL_cons, setL_nil, List.set_cons_zero, List.set_cons_succ]); all_goals (first | rfl | (simp only [len_snoc, ints_len, List.length_map, ]; done) | (simp only [len_snoc, len_mid, ints_len, List.length_map, List.length_append, List.length_cons, List.length_nil, Nat.zero_add, ]; done) | (simp only [len_mid, len_snoc, ints_len, List.length_map, List.length_append, List.length_cons, List.length_nil, Nat.zero_add, ]; rfl)))
  rintro ⟨pre, post, b, S⟩ g G ⟨h1, h5⟩
  simp only at h1 h5
  have hpl := ofR_len gs pre p
  cases post with
  | nil =>
    rw [List.append_nil] at h1
    have e : (gs.length : Int) = (pre.length : Int) := by rw [h1]
    have hh : Hold (ofR gs gs p = ofR gs pre p) := ⟨by rw [← h1]⟩
    rw [hh.out]
    clear h1
    simp only [garbA_cons, garbA_nil, setL_cons, setL_nil, List.set_cons_zero, List.set_cons_succ]
    repeat' (first | refine go1 ?_ | refine blockK_else rfl ?_ | (refine wpC_cond fun A B hA hB => ?_; simp only [go_sem, reduceIte, Nat.reduceAdd, Nat.reduceEqDiff, Nat.reduceLT, Nat.reduceLeDiff, *, wpK_assignN ty29 rfl, e, Int.lt_irrefl, List.length_map]; first | (refine hA.out ?_; clear hA hB A B) | (refine hB.out ?_; clear hA hB A B) | (refine iteI (fun h => hA.out ?_) (fun h => hB.out ?_) <;> clear hA hB A B) | (refine iteI (fun h => hB.out ?_) (fun h => hA.out ?_) <;> clear hA hB A B)) | (refine wpO_cons fun K hK => ?_; simp only [go_sem, reduceIte, Nat.reduceAdd, Nat.reduceEqDiff, Nat.reduceLT, Nat.reduceLeDiff, *, wpK_assignN ty29 rfl, e, Int.lt_irrefl, List.length_map]; first | (refine hK.out _ _ ?_; clear hK K) | (refine iteI (fun h => hK.out _ _ ?_) (fun h => hK.out _ _ ?_) <;> clear hK K)))
    simp only [resultsR, resultsL, resultA, expK_int, expK_bool, expK_str, expK_agg, expK_own, expK_tsl, resK_some, go_sem, reduceIte, Nat.reduceAdd, Nat.reduceEqDiff, Nat.reduceLT, Nat.reduceLeDiff, wpK_assignN ty29 rfl, snap_sl, rowsOf_sl, ints_len, ints_take, List.take_length, Nat.zero_le, Nat.zero_add, Bool.true_or, h5]
  | cons x post =>
    have i1 := idx_sls h.sl (X := CX) ty23 ty37 rfl (n := pre.length) (row := encG x) (k := .i64) (map_at encG h1)
    have lt1 : (pre.length : Int) < (gs.length : Int) := by rw [h1]; simp; omega
    have hl2 : pre.length < gs.length := by rw [h1]; simp
    have w1 := wrap_succ (n := pre.length) (by omega)
    have q := (inRE h x.id p).rw
    have hh : Hold (gs = (pre ++ [x]) ++ post) := ⟨by rw [h1]; simp⟩
    have qp := (put1 false (ofR gs pre p) x.id (by omega)).rw
    clear h1
    simp only [garbA_cons, garbA_nil, setL_cons, setL_nil, List.set_cons_zero, List.set_cons_succ]
    by_cases hm : (membersR gs x.id).contains p = true
    · have hhm : Hold ((membersR gs x.id).contains p = true) := ⟨hm⟩
      rw [hm] at q
      clear hm
      repeat' (first | refine go1 ?_ | refine blockK_else rfl ?_ | (refine wpC_cond fun A B hA hB => ?_; simp only [go_sem, reduceIte, Nat.reduceAdd, Nat.reduceEqDiff, Nat.reduceLT, Nat.reduceLeDiff, *, wpK_assignN ty29 rfl, getElem?_len, getElem?_lenAdd, set_len, set_lenAdd, len_mid, ints_len, List.length_map, lt_mid, List.nil_append, i1, lt1, w1, hv, hvs, q, qp, encG, snap_sl, rowsOf_sl, ints_len, ints_take, List.take_length, Nat.zero_le, Nat.zero_add, Bool.true_or, adopt_osl]; first | (refine hA.out ?_; clear hA hB A B) | (refine hB.out ?_; clear hA hB A B) | (refine iteI (fun h => hA.out ?_) (fun h => hB.out ?_) <;> clear hA hB A B) | (refine iteI (fun h => hB.out ?_) (fun h => hA.out ?_) <;> clear hA hB A B)) | (refine wpO_cons fun K hK => ?_; simp only [go_sem, reduceIte, Nat.reduceAdd, Nat.reduceEqDiff, Nat.reduceLT, Nat.reduceLeDiff, *, wpK_assignN ty29 rfl, getElem?_len, getElem?_lenAdd, set_len, set_lenAdd, len_mid, ints_len, List.length_map, lt_mid, List.nil_append, i1, lt1, w1, hv, hvs, q, qp, encG, snap_sl, rowsOf_sl, ints_len, ints_take, List.take_length, Nat.zero_le, Nat.zero_add, Bool.true_or, adopt_osl]; first | (refine hK.out _ _ ?_; clear hK K) | (refine iteI (fun h => hK.out _ _ ?_) (fun h => hK.out _ _ ?_) <;> clear hK K)))
      have e := ofR_snoc gs pre p x
      rw [if_pos hhm.out] at e
      refine loopF_next (pre ++ [x], post, S.length, _) (Nat.lt_succ_self _) ⟨hh.out, ?_⟩ ?_ ⟨[], rfl⟩
      · simp [e]
      · ((try simp only [eraseA_cons, eraseA_nil, setL_cons, setL_nil, List.set_cons_zero, List.set_cons_succ]); all_goals (first | rfl | (simp only [len_snoc, ints_len, List.length_map, e]; done) | (simp only [len_snoc, len_mid, ints_len, List.length_map, List.length_append, List.length_cons, List.length_nil, Nat.zero_add, e]; done) | (simp only [len_mid, len_snoc, ints_len, List.length_map, List.length_append, List.length_cons, List.length_nil, Nat.zero_add, e]; rfl)))
    · have hm : (membersR gs x.id).contains p = false := by simpa using hm
      have hhm : Hold ((membersR gs x.id).contains p = false) := ⟨hm⟩
      rw [hm] at q
      clear hm
      repeat' (first | refine go1 ?_ | refine blockK_else rfl ?_ | (refine wpC_cond fun A B hA hB => ?_; simp only [go_sem, reduceIte, Nat.reduceAdd, Nat.reduceEqDiff, Nat.reduceLT, Nat.reduceLeDiff, *, wpK_assignN ty29 rfl, getElem?_len, getElem?_lenAdd, set_len, set_lenAdd, len_mid, ints_len, List.length_map, lt_mid, List.nil_append, i1, lt1, w1, hv, hvs, q, encG, snap_sl, rowsOf_sl, ints_len, ints_take, List.take_length, Nat.zero_le, Nat.zero_add, Bool.true_or]; first | (refine hA.out ?_; clear hA hB A B) | (refine hB.out ?_; clear hA hB A B) | (refine iteI (fun h => hA.out ?_) (fun h => hB.out ?_) <;> clear hA hB A B) | (refine iteI (fun h => hB.out ?_) (fun h => hA.out ?_) <;> clear hA hB A B)) | (refine wpO_cons fun K hK => ?_; simp only [go_sem, reduceIte, Nat.reduceAdd, Nat.reduceEqDiff, Nat.reduceLT, Nat.reduceLeDiff, *, wpK_assignN ty29 rfl, getElem?_len, getElem?_lenAdd, set_len, set_lenAdd, len_mid, ints_len, List.length_map, lt_mid, List.nil_append, i1, lt1, w1, hv, hvs, q, encG, snap_sl, rowsOf_sl, ints_len, ints_take, List.take_length, Nat.zero_le, Nat.zero_add, Bool.true_or]; first | (refine hK.out _ _ ?_; clear hK K) | (refine iteI (fun h => hK.out _ _ ?_) (fun h => hK.out _ _ ?_) <;> clear hK K)))
      have e := ofR_snoc gs pre p x
      rw [hhm.out] at e
      simp only [Bool.false_eq_true, if_false] at e
      refine loopF_next (pre ++ [x], post, b, S) (Nat.lt_succ_self _) ⟨hh.out, ?_⟩ ?_ ⟨[], rfl⟩
      · rw [e]; exact h5
      · ((try simp only [eraseA_cons, eraseA_nil, setL_cons, setL_nil, List.set_cons_zero, List.set_cons_succ]); all_goals (first | rfl | (simp only [len_snoc, ints_len, List.length_map, e]; done) | (simp only [len_snoc, len_mid, ints_len, List.length_map, List.length_append, List.length_cons, List.length_nil, Nat.zero_add, e]; done) | (simp only [len_mid, len_snoc, ints_len, List.length_map, List.length_append, List.length_cons, List.length_nil, Nat.zero_add, e]; rfl)))

/- Names and persons. -/
open Go.Proofs
attribute [local go_sem] ty5 ty63
set_option maxHeartbeats 4000000

theorem toList_loop (s : ByteArray) : ∀ (k i : Nat) (r : List UInt8), s.size ≤ i + k → ByteArray.toList.loop s i r = r.reverse ++ s.data.toList.drop i := by
  intro k
  induction k with
  | zero =>
    intro i r h
    unfold ByteArray.toList.loop
    rw [if_neg (by omega), List.drop_eq_nil_of_le (by simpa using h), List.append_nil]
  | succ k ih =>
    intro i r h
    unfold ByteArray.toList.loop
    split
    · rename_i hi
      rw [ih _ _ (by omega), List.reverse_cons, List.append_assoc]
      have hi' : i < s.data.toList.length := by simpa using hi
      rw [List.drop_eq_getElem_cons hi']
      simp [ByteArray.get!, hi]
    · rw [List.drop_eq_nil_of_le (by simp; omega), List.append_nil]
theorem toList_data (s : ByteArray) : s.toList = s.data.toList := by
  unfold ByteArray.toList
  rw [toList_loop s s.size 0 [] (by omega)]; simp

def bytesR (l : List UInt8) : List (List AV) := l.map fun c => [.int .u8 (c.toNat : Int)]
def sbK (v : AV) (dst : Option Tmp) (K : List AV → Store → Prop) (fr : List AV) (S : Store) (P : Prop) : Prop :=
  match v with
  | .str s => if s.size ≤ 140737488355328 then K (putA fr dst (.tsl true 1 (bytesR s.data.toList))) S else False
  | _ => P
theorem sbK_str {s : ByteArray} {dst : Option Tmp} {K : List AV → Store → Prop} {fr : List AV} {S : Store} {P : Prop} (h : s.size ≤ 140737488355328) : sbK (.str s) dst K fr S P = K (putA fr dst (.tsl true 1 (bytesR s.data.toList))) S := if_pos h
theorem wpK_sb {X : Ctx} {d : Bool} {dst : Option Tmp} {ty : TypeId} {pos : String} {after : Array Edge} {g : Option (Nat × Bool)} {K : List AV → Store → Prop} {fr : List AV} {S : Store} {s t el : TypeId} {x : Operand} {i j e : TyI}
    (hs : X.ty s = some j) (ht : X.ty t = some i) (he : X.ty el = some e) (hj : j.desc = .str) (hi : i.desc = .slice el) (hd : e.desc = .int .u8) :
    wpK X d ⟨dst, .convert s t x, ty, pos, after, g⟩ dst K fr S = sbK (evalA fr x) dst K fr S (wp1 X d ⟨dst, .convert s t x, ty, pos, after, g⟩ (fun v S' => K (putA fr dst v) S') fr S) := by
  obtain ⟨a1, b1, c1, e1, f1⟩ := i
  obtain ⟨a2, b2, c2, e2, f2⟩ := j
  obtain ⟨a3, b3, c3, e3, f3⟩ := e
  simp only at hj hi hd; subst hj hi hd
  unfold sbK
  split
  · rename_i v hv
    have hp : popA X fr ⟨dst, .convert s t x, ty, pos, after, g⟩ = none := by simp only [popA, convA, hs, ht, hv]
    rw [wpK_qop (if v.size ≤ 140737488355328 then some (.tsl true 1 (bytesR v.data.toList), []) else none) hp (by simp only [qopA, hs, ht, hv, he, toList_data]; rfl) rfl rfl rfl]
    by_cases h : v.size ≤ 140737488355328
    · simp only [if_pos h, pairK_some, List.append_nil]
    · simp only [if_neg h, pairK]
  · unfold wpK; rfl
theorem str_get {s : ByteArray} {pre post : List UInt8} {c : UInt8} (h : s.data.toList = pre ++ c :: post) : s[pre.length]? = some c := by
  have hl : pre.length < s.size := by
    have := congrArg List.length h
    simp at this; omega
  rw [getElem?_pos s pre.length hl]
  have : s.data.toList[pre.length]? = some c := by rw [h]; simp
  have e : s[pre.length] = s.data[pre.length]'(by simpa using hl) := rfl
  rw [e]
  simpa [hl] using this
theorem str_len {s : ByteArray} {l : List UInt8} (h : s.data.toList = l) : s.size = l.length := by rw [← h]; simp
theorem index_str {X : Ctx} {t : TypeId} {a c : Nat} {b : Bool} {d : List AV} {s : ByteArray} {n : Nat} {x : UInt8} {k : IntKind} (ht : X.ty t = some ⟨a, b, c, d, .str⟩) (h : s[n]? = some x) : indexA X t (.str s) (.int k n) = some (.int .u8 (x.toNat : Int)) := by
  simp [indexA, ht, h]

theorem bytesR_len (l : List UInt8) : (bytesR l).length = l.length := by simp [bytesR]

/-- What a name may hold. -/
def lowC (c : UInt8) : Bool := decide (97 ≤ (c.toNat : Int)) && decide ((c.toNat : Int) ≤ 122)
def nameC (c : UInt8) : Bool := lowC c || (decide (48 ≤ (c.toNat : Int)) && decide ((c.toNat : Int) ≤ 57)) || decide ((c.toNat : Int) = 45) || decide ((c.toNat : Int) = 95)
def nameL : List UInt8 → Bool
  | [] => false
  | c :: l => decide (l.length + 1 ≤ 32) && lowC c && l.all nameC

def nmC : List UInt8 → Bool
  | [] => true
  | c :: l => lowC c && l.all nameC
theorem nmC_snoc (l : List UInt8) (x : UInt8) : nmC (l ++ [x]) = (nmC l && if l = [] then lowC x else nameC x) := by
  cases l with
  | nil => simp [nmC]
  | cons c l => simp [nmC, Bool.and_assoc]
theorem nmC_app (l m : List UInt8) (h : nmC l = false) : nmC (l ++ m) = false := by
  cases l with
  | nil => simp [nmC] at h
  | cons c l =>
    simp only [nmC, List.cons_append, List.all_append] at h ⊢
    rw [← Bool.and_assoc, h, Bool.false_and]
theorem nameL_ok (l : List UInt8) : nameL l = (nmC l && (decide (1 ≤ l.length) && decide (l.length ≤ 32))) := by
  cases l with
  | nil => rfl
  | cons c l => simp only [nameL, nmC, List.length_cons]; cases lowC c <;> cases l.all nameC <;> simp

theorem nameM (s : ByteArray) (hs : s.size ≤ 1000) : EvV CX 37 [.str s] (· = .bool (nameL s.data.toList)) := by
  obtain ⟨l, hl⟩ : ∃ l, s.data.toList = l := ⟨_, rfl⟩
  have hlen := str_len hl
  rw [hl]
  cases l with
  | nil =>
    have h0 : (s.toList == (⟨#[]⟩ : ByteArray).toList) = true := by rw [toList_data, toList_data, hl]; rfl
    clear hlen hl
    refine EvV.walk rfl fn37 rfl nt37 rfl ?_
    simp only [List.length_cons, List.length_nil, List.cons_append, List.nil_append, Nat.reduceAdd, Nat.reduceSub, List.replicate]
    repeat' (first | refine go1 ?_ | refine blockK_else rfl ?_ | (refine wpC_cond fun A B hA hB => ?_; simp only [go_sem, reduceIte, Nat.reduceAdd, Nat.reduceEqDiff, Nat.reduceLT, Nat.reduceLeDiff, *, and_self, evalA_str, wpK_index, strBin, h0]; first | (refine hA.out ?_; clear hA hB A B) | (refine hB.out ?_; clear hA hB A B) | (refine iteI (fun h => hA.out ?_) (fun h => hB.out ?_) <;> clear hA hB A B) | (refine iteI (fun h => hB.out ?_) (fun h => hA.out ?_) <;> clear hA hB A B)) | (refine wpO_cons fun K hK => ?_; simp only [go_sem, reduceIte, Nat.reduceAdd, Nat.reduceEqDiff, Nat.reduceLT, Nat.reduceLeDiff, *, and_self, evalA_str, wpK_index, strBin, h0]; first | (refine hK.out _ _ ?_; clear hK K) | (refine iteI (fun h => hK.out _ _ ?_) (fun h => hK.out _ _ ?_) <;> clear hK K)))
    simp only [resultsR, resultsL, resultA, expK_int, expK_bool, expK_str, expK_agg, expK_own, expK_tsl, resK_some, go_sem, reduceIte, Nat.reduceAdd, Nat.reduceEqDiff, Nat.reduceLT, Nat.reduceLeDiff, and_self, ]
    rfl
  | cons c l =>
    have h0 : (s.toList == (⟨#[]⟩ : ByteArray).toList) = false := by rw [toList_data, toList_data, hl]; rfl
    have hsz : (s.size : Int) = ((l.length + 1 : Nat) : Int) := by rw [hlen]; rfl
    have i0 := index_str (X := CX) (k := .i64) ty9 (str_get (pre := []) hl)
    have z : ((List.length ([] : List UInt8) : Nat) : Int) = 0 := rfl
    rw [z] at i0
    by_cases h32 : l.length + 1 ≤ 32
    · have n32 : ¬ ((l.length + 1 : Nat) : Int) > 32 := by omega
      have n33 : ¬ 32 < ((l.length + 1 : Nat) : Int) := by omega
      clear hlen
      have hh : Hold (s.data.toList = c :: l) := ⟨hl⟩
      clear hl
      have hsz2 : s.size ≤ 140737488355328 := by omega
      by_cases hlo : lowC c = true
      · have lo1 : ¬ (c.toNat : Int) < 97 := by simp [lowC] at hlo; omega
        have lo2 : ¬ (122 : Int) < (c.toNat : Int) := by simp [lowC] at hlo; omega
        have hE : nameL (c :: l) = (c :: l).all nameC := by
          have e : nameC c = true := by rw [nameC, hlo]; rfl
          simp only [nameL, List.all_cons, e, hlo, Bool.and_true, Bool.true_and]
          simp [h32]
        have hl := hh.out
        clear hh
        refine EvV.walk rfl fn37 rfl nt37 rfl ?_
        simp only [List.length_cons, List.length_nil, List.cons_append, List.nil_append, Nat.reduceAdd, Nat.reduceSub, List.replicate]
        repeat' (first | refine go1 ?_ | refine blockK_else rfl ?_ | (refine wpC_cond fun A B hA hB => ?_; simp only [go_sem, reduceIte, Nat.reduceAdd, Nat.reduceEqDiff, Nat.reduceLT, Nat.reduceLeDiff, *, and_self, evalA_str, wpK_index, strBin, h0, lenK_str, hsz, i0, wpK_sb ty9 ty63 ty5 rfl rfl rfl, sbK_str hsz2, lenK_tsl, bytesR_len, lo1, lo2, hl]; first | (refine hA.out ?_; clear hA hB A B) | (refine hB.out ?_; clear hA hB A B) | (refine iteI (fun h => hA.out ?_) (fun h => hB.out ?_) <;> clear hA hB A B) | (refine iteI (fun h => hB.out ?_) (fun h => hA.out ?_) <;> clear hA hB A B)) | (refine wpO_cons fun K hK => ?_; simp only [go_sem, reduceIte, Nat.reduceAdd, Nat.reduceEqDiff, Nat.reduceLT, Nat.reduceLeDiff, *, and_self, evalA_str, wpK_index, strBin, h0, lenK_str, hsz, i0, wpK_sb ty9 ty63 ty5 rfl rfl rfl, sbK_str hsz2, lenK_tsl, bytesR_len, lo1, lo2, hl]; first | (refine hK.out _ _ ?_; clear hK K) | (refine iteI (fun h => hK.out _ _ ?_) (fun h => hK.out _ _ ?_) <;> clear hK K)))
        rw [hE]
        have hlen : (l.length + 1 : Nat) = (c :: l).length := rfl
        rw [hlen]
        clear hE hl i0 h0 hsz hlo lo1 lo2 n32 n33
        have hb : (c :: l).length ≤ 32 := h32
        clear hlen h32
        generalize c :: l = L at *
        have hv : SLs 1 (bytesR L) (.tsl true 1 (bytesR L)) := .rows true
        refine wpC_each [2, 4, 26, 27, 28, 29, 30, 31, 32, 33, 34, 35, 36, 37, 38, 39, 40, 41, 42, 43, 44, 45, 46, 47, 48, 49, 50, 51] 25 L (fun pre post => L.all nameC = post.all nameC) ?_ ?_ ?_ ?_
        · rfl
        · rfl
        · intro g G h2
          rw [h2]; simp only [garbA_cons, garbA_nil, setL_cons, setL_nil, List.set_cons_zero, List.set_cons_succ]
          repeat' (first | refine go1 ?_ | refine blockK_else rfl ?_ | (refine wpC_cond fun A B hA hB => ?_; simp only [go_sem, reduceIte, Nat.reduceAdd, Nat.reduceEqDiff, Nat.reduceLT, Nat.reduceLeDiff, *, and_self, ints_len, List.length_map, Int.lt_irrefl, List.nil_append]; first | (refine hA.out ?_; clear hA hB A B) | (refine hB.out ?_; clear hA hB A B) | (refine iteI (fun h => hA.out ?_) (fun h => hB.out ?_) <;> clear hA hB A B) | (refine iteI (fun h => hB.out ?_) (fun h => hA.out ?_) <;> clear hA hB A B)) | (refine wpO_cons fun K hK => ?_; simp only [go_sem, reduceIte, Nat.reduceAdd, Nat.reduceEqDiff, Nat.reduceLT, Nat.reduceLeDiff, *, and_self, ints_len, List.length_map, Int.lt_irrefl, List.nil_append]; first | (refine hK.out _ _ ?_; clear hK K) | (refine iteI (fun h => hK.out _ _ ?_) (fun h => hK.out _ _ ?_) <;> clear hK K)))
          simp only [resultsR, resultsL, resultA, expK_int, expK_bool, expK_str, expK_agg, expK_own, expK_tsl, resK_some, go_sem, reduceIte, Nat.reduceAdd, Nat.reduceEqDiff, Nat.reduceLT, Nat.reduceLeDiff, and_self, List.all_nil]
        · intro g G pre x post h1 h2
          rw [h2]; subst h1; simp only [garbA_cons, garbA_nil, setL_cons, setL_nil, List.set_cons_zero, List.set_cons_succ]
          have i1 := idx_sls hv (X := CX) ty63 ty5 rfl (map_mid (fun c : UInt8 => [AV.int .u8 (c.toNat : Int)]) pre x post) (k := .i64)
          have w1 := wrap_succ (n := pre.length) (by simp at hb; omega)
          repeat' (first | refine go1 ?_ | refine blockK_else rfl ?_ | (refine wpC_cond fun A B hA hB => ?_; simp only [go_sem, reduceIte, Nat.reduceAdd, Nat.reduceEqDiff, Nat.reduceLT, Nat.reduceLeDiff, *, and_self, getElem?_len, getElem?_lenAdd, set_len, set_lenAdd, len_mid, ints_len, List.length_map, lt_mid, List.nil_append, i1, w1]; first | (refine hA.out ?_; clear hA hB A B) | (refine hB.out ?_; clear hA hB A B) | (refine iteI (fun h => hA.out ?_) (fun h => hB.out ?_) <;> clear hA hB A B) | (refine iteI (fun h => hB.out ?_) (fun h => hA.out ?_) <;> clear hA hB A B)) | (refine wpO_cons fun K hK => ?_; simp only [go_sem, reduceIte, Nat.reduceAdd, Nat.reduceEqDiff, Nat.reduceLT, Nat.reduceLeDiff, *, and_self, getElem?_len, getElem?_lenAdd, set_len, set_lenAdd, len_mid, ints_len, List.length_map, lt_mid, List.nil_append, i1, w1]; first | (refine hK.out _ _ ?_; clear hK K) | (refine iteI (fun h => hK.out _ _ ?_) (fun h => hK.out _ _ ?_) <;> clear hK K)))
          all_goals first
            | (refine each_next rfl ?_ ?_ ?_
               · have e : nameC x = true := by simp [nameC, lowC]; omega
                 rw [List.all_cons, e, Bool.true_and]
               · ((try simp only [eraseA_cons, eraseA_nil, setL_cons, setL_nil, List.set_cons_zero, List.set_cons_succ]); all_goals (first | rfl | (simp only [len_snoc, ints_len, List.length_map, ]; done) | (simp only [len_snoc, len_mid, ints_len, List.length_map, List.length_append, List.length_cons, List.length_nil, Nat.zero_add, ]; done) | (simp only [len_mid, len_snoc, ints_len, List.length_map, List.length_append, List.length_cons, List.length_nil, Nat.zero_add, ]; rfl)))
               · first | exact ⟨[], (List.append_nil _).symm⟩ | exact ⟨_, rfl⟩ | (simp only [List.append_assoc, List.cons_append, List.nil_append]; exact ⟨_, rfl⟩))
            | (simp only [resultsR, resultsL, resultA, expK_int, expK_bool, expK_str, expK_agg, expK_own, expK_tsl, resK_some, go_sem, reduceIte, Nat.reduceAdd, Nat.reduceEqDiff, Nat.reduceLT, Nat.reduceLeDiff, and_self, ]
               have e : nameC x = false := by simp [nameC, lowC]; omega
               simp only [List.all_cons, e, Bool.false_and])
      · have hl := hh.out
        clear hh
        have hE : nameL (c :: l) = false := by simp [nameL, hlo]
        rw [hE]
        have hlo' : (c.toNat : Int) < 97 ∨ 122 < (c.toNat : Int) := by simp [lowC] at hlo; omega
        clear hE hlo hl
        rcases hlo' with lo | lo
        · refine EvV.walk rfl fn37 rfl nt37 rfl ?_
          simp only [List.length_cons, List.length_nil, List.cons_append, List.nil_append, Nat.reduceAdd, Nat.reduceSub, List.replicate]
          repeat' (first | refine go1 ?_ | refine blockK_else rfl ?_ | (refine wpC_cond fun A B hA hB => ?_; simp only [go_sem, reduceIte, Nat.reduceAdd, Nat.reduceEqDiff, Nat.reduceLT, Nat.reduceLeDiff, *, and_self, evalA_str, wpK_index, strBin, h0, lenK_str, hsz, i0]; first | (refine hA.out ?_; clear hA hB A B) | (refine hB.out ?_; clear hA hB A B) | (refine iteI (fun h => hA.out ?_) (fun h => hB.out ?_) <;> clear hA hB A B) | (refine iteI (fun h => hB.out ?_) (fun h => hA.out ?_) <;> clear hA hB A B)) | (refine wpO_cons fun K hK => ?_; simp only [go_sem, reduceIte, Nat.reduceAdd, Nat.reduceEqDiff, Nat.reduceLT, Nat.reduceLeDiff, *, and_self, evalA_str, wpK_index, strBin, h0, lenK_str, hsz, i0]; first | (refine hK.out _ _ ?_; clear hK K) | (refine iteI (fun h => hK.out _ _ ?_) (fun h => hK.out _ _ ?_) <;> clear hK K)))
          simp only [resultsR, resultsL, resultA, expK_int, expK_bool, expK_str, expK_agg, expK_own, expK_tsl, resK_some, go_sem, reduceIte, Nat.reduceAdd, Nat.reduceEqDiff, Nat.reduceLT, Nat.reduceLeDiff, and_self, ]
        · have lo1 : ¬ (c.toNat : Int) < 97 := by omega
          refine EvV.walk rfl fn37 rfl nt37 rfl ?_
          simp only [List.length_cons, List.length_nil, List.cons_append, List.nil_append, Nat.reduceAdd, Nat.reduceSub, List.replicate]
          repeat' (first | refine go1 ?_ | refine blockK_else rfl ?_ | (refine wpC_cond fun A B hA hB => ?_; simp only [go_sem, reduceIte, Nat.reduceAdd, Nat.reduceEqDiff, Nat.reduceLT, Nat.reduceLeDiff, *, and_self, evalA_str, wpK_index, strBin, h0, lenK_str, hsz, i0]; first | (refine hA.out ?_; clear hA hB A B) | (refine hB.out ?_; clear hA hB A B) | (refine iteI (fun h => hA.out ?_) (fun h => hB.out ?_) <;> clear hA hB A B) | (refine iteI (fun h => hB.out ?_) (fun h => hA.out ?_) <;> clear hA hB A B)) | (refine wpO_cons fun K hK => ?_; simp only [go_sem, reduceIte, Nat.reduceAdd, Nat.reduceEqDiff, Nat.reduceLT, Nat.reduceLeDiff, *, and_self, evalA_str, wpK_index, strBin, h0, lenK_str, hsz, i0]; first | (refine hK.out _ _ ?_; clear hK K) | (refine iteI (fun h => hK.out _ _ ?_) (fun h => hK.out _ _ ?_) <;> clear hK K)))
          simp only [resultsR, resultsL, resultA, expK_int, expK_bool, expK_str, expK_agg, expK_own, expK_tsl, resK_some, go_sem, reduceIte, Nat.reduceAdd, Nat.reduceEqDiff, Nat.reduceLT, Nat.reduceLeDiff, and_self, ]
    · have n32 : 32 < ((l.length + 1 : Nat) : Int) := by omega
      have hE : nameL (c :: l) = false := by simp [nameL, h32]
      rw [hE]
      clear hE hl hlen h32
      refine EvV.walk rfl fn37 rfl nt37 rfl ?_
      simp only [List.length_cons, List.length_nil, List.cons_append, List.nil_append, Nat.reduceAdd, Nat.reduceSub, List.replicate]
      repeat' (first | refine go1 ?_ | refine blockK_else rfl ?_ | (refine wpC_cond fun A B hA hB => ?_; simp only [go_sem, reduceIte, Nat.reduceAdd, Nat.reduceEqDiff, Nat.reduceLT, Nat.reduceLeDiff, *, and_self, evalA_str, wpK_index, strBin, h0, lenK_str, hsz, i0]; first | (refine hA.out ?_; clear hA hB A B) | (refine hB.out ?_; clear hA hB A B) | (refine iteI (fun h => hA.out ?_) (fun h => hB.out ?_) <;> clear hA hB A B) | (refine iteI (fun h => hB.out ?_) (fun h => hA.out ?_) <;> clear hA hB A B)) | (refine wpO_cons fun K hK => ?_; simp only [go_sem, reduceIte, Nat.reduceAdd, Nat.reduceEqDiff, Nat.reduceLT, Nat.reduceLeDiff, *, and_self, evalA_str, wpK_index, strBin, h0, lenK_str, hsz, i0]; first | (refine hK.out _ _ ?_; clear hK K) | (refine iteI (fun h => hK.out _ _ ?_) (fun h => hK.out _ _ ?_) <;> clear hK K)))
      simp only [resultsR, resultsL, resultA, expK_int, expK_bool, expK_str, expK_agg, expK_own, expK_tsl, resK_some, go_sem, reduceIte, Nat.reduceAdd, Nat.reduceEqDiff, Nat.reduceLT, Nat.reduceLeDiff, and_self, ]

theorem nameR (s : ByteArray) (hs : s.size ≤ 1000) : EvV CX 44 [.str s] (· = .bool (nameL s.data.toList)) := by
  obtain ⟨l, hl⟩ : ∃ l, s.data.toList = l := ⟨_, rfl⟩
  have hlen := str_len hl
  rw [hl]
  have hsz : (s.size : Int) = (l.length : Int) := by rw [hlen]
  refine EvV.walk rfl fn44 rfl nt44 rfl ?_
  simp only [List.length_cons, List.length_nil, List.cons_append, List.nil_append, Nat.reduceAdd, Nat.reduceSub, List.replicate]
  repeat' (first | refine go1 ?_ | refine blockK_else rfl ?_ | (refine wpC_cond fun A B hA hB => ?_; simp only [go_sem, reduceIte, Nat.reduceAdd, Nat.reduceEqDiff, Nat.reduceLT, Nat.reduceLeDiff, *, and_self, ]; first | (refine hA.out ?_; clear hA hB A B) | (refine hB.out ?_; clear hA hB A B) | (refine iteI (fun h => hA.out ?_) (fun h => hB.out ?_) <;> clear hA hB A B) | (refine iteI (fun h => hB.out ?_) (fun h => hA.out ?_) <;> clear hA hB A B)) | (refine wpO_cons fun K hK => ?_; simp only [go_sem, reduceIte, Nat.reduceAdd, Nat.reduceEqDiff, Nat.reduceLT, Nat.reduceLeDiff, *, and_self, ]; first | (refine hK.out _ _ ?_; clear hK K) | (refine iteI (fun h => hK.out _ _ ?_) (fun h => hK.out _ _ ?_) <;> clear hK K)))
  refine wpC_each [2, 4, 5, 6, 7, 8, 9, 10, 11, 12, 13, 14, 15, 16, 17, 18, 19, 20, 21, 22, 23, 24, 25, 26, 27, 28, 29, 30, 31, 32, 33, 34, 35, 36, 37, 38, 39, 40, 41, 42, 43, 44, 45, 46, 47, 48, 49, 50] 3 l (fun pre _ => nmC pre = true) ?_ ?_ ?_ ?_
  · rfl
  · rfl
  · intro g G h2
    simp only [garbA_cons, garbA_nil, setL_cons, setL_nil, List.set_cons_zero, List.set_cons_succ]
    rw [nameL_ok, h2, Bool.true_and]
    repeat' (first | refine go1 ?_ | refine blockK_else rfl ?_ | (refine wpC_cond fun A B hA hB => ?_; simp only [go_sem, reduceIte, Nat.reduceAdd, Nat.reduceEqDiff, Nat.reduceLT, Nat.reduceLeDiff, *, and_self, ints_len, List.length_map, Int.lt_irrefl, List.nil_append, lenK_str, hsz]; first | (refine hA.out ?_; clear hA hB A B) | (refine hB.out ?_; clear hA hB A B) | (refine iteI (fun h => hA.out ?_) (fun h => hB.out ?_) <;> clear hA hB A B) | (refine iteI (fun h => hB.out ?_) (fun h => hA.out ?_) <;> clear hA hB A B)) | (refine wpO_cons fun K hK => ?_; simp only [go_sem, reduceIte, Nat.reduceAdd, Nat.reduceEqDiff, Nat.reduceLT, Nat.reduceLeDiff, *, and_self, ints_len, List.length_map, Int.lt_irrefl, List.nil_append, lenK_str, hsz]; first | (refine hK.out _ _ ?_; clear hK K) | (refine iteI (fun h => hK.out _ _ ?_) (fun h => hK.out _ _ ?_) <;> clear hK K)))
    · simp only [resultsR, resultsL, resultA, expK_int, expK_bool, expK_str, expK_agg, expK_own, expK_tsl, resK_some, go_sem, reduceIte, Nat.reduceAdd, Nat.reduceEqDiff, Nat.reduceLT, Nat.reduceLeDiff, and_self, ]
      have : 1 ≤ l.length := by omega
      simp [this]
      omega
    · simp only [resultsR, resultsL, resultA, expK_int, expK_bool, expK_str, expK_agg, expK_own, expK_tsl, resK_some, go_sem, reduceIte, Nat.reduceAdd, Nat.reduceEqDiff, Nat.reduceLT, Nat.reduceLeDiff, and_self, ]
      have : ¬ 1 ≤ l.length := by omega
      simp [this]
  · intro g G pre x post h1 h2
    simp only [garbA_cons, garbA_nil, setL_cons, setL_nil, List.set_cons_zero, List.set_cons_succ]
    have i0 := index_str (X := CX) (k := .i64) ty9 (str_get (hl.trans h1))
    have lt1 : (pre.length : Int) < (l.length : Int) := by rw [h1]; simp; omega
    have w1 := wrap_succ (n := pre.length) (by omega)
    have hh : Hold (s.data.toList = l) := ⟨hl⟩
    have hh1 : Hold (l = pre ++ x :: post) := ⟨h1⟩
    have hh2 : Hold (nmC pre = true) := ⟨h2⟩
    clear hl h1 h2
    repeat' (first | refine go1 ?_ | refine blockK_else rfl ?_ | (refine wpC_cond fun A B hA hB => ?_; simp only [go_sem, reduceIte, Nat.reduceAdd, Nat.reduceEqDiff, Nat.reduceLT, Nat.reduceLeDiff, *, and_self, wpK_index, i0, lenK_str, hsz, lt1, w1]; first | (refine hA.out ?_; clear hA hB A B) | (refine hB.out ?_; clear hA hB A B) | (refine iteI (fun h => hA.out ?_) (fun h => hB.out ?_) <;> clear hA hB A B) | (refine iteI (fun h => hB.out ?_) (fun h => hA.out ?_) <;> clear hA hB A B)) | (refine wpO_cons fun K hK => ?_; simp only [go_sem, reduceIte, Nat.reduceAdd, Nat.reduceEqDiff, Nat.reduceLT, Nat.reduceLeDiff, *, and_self, wpK_index, i0, lenK_str, hsz, lt1, w1]; first | (refine hK.out _ _ ?_; clear hK K) | (refine iteI (fun h => hK.out _ _ ?_) (fun h => hK.out _ _ ?_) <;> clear hK K)))
    all_goals first
      | (refine each_next hh1.out ?_ ?_ ?_
         · rw [nmC_snoc, hh2.out, Bool.true_and]
           by_cases hp : pre = []
           · have : pre.length = 0 := by rw [hp]; rfl
             rw [if_pos hp]; simp [lowC]; omega
           · have : pre.length ≠ 0 := fun e => hp (List.eq_nil_of_length_eq_zero e)
             rw [if_neg hp]; simp [nameC, lowC]; omega
         · ((try simp only [eraseA_cons, eraseA_nil, setL_cons, setL_nil, List.set_cons_zero, List.set_cons_succ]); all_goals (first | rfl | (simp only [len_snoc, ints_len, List.length_map, ]; done) | (simp only [len_snoc, len_mid, ints_len, List.length_map, List.length_append, List.length_cons, List.length_nil, Nat.zero_add, ]; done) | (simp only [len_mid, len_snoc, ints_len, List.length_map, List.length_append, List.length_cons, List.length_nil, Nat.zero_add, ]; rfl)))
         · first | exact ⟨[], (List.append_nil _).symm⟩ | exact ⟨_, rfl⟩ | (simp only [List.append_assoc, List.cons_append, List.nil_append]; exact ⟨_, rfl⟩))
      | (simp only [resultsR, resultsL, resultA, expK_int, expK_bool, expK_str, expK_agg, expK_own, expK_tsl, resK_some, go_sem, reduceIte, Nat.reduceAdd, Nat.reduceEqDiff, Nat.reduceLT, Nat.reduceLeDiff, and_self, ]
         have e : nmC (pre ++ [x]) = false := by
           rw [nmC_snoc, hh2.out, Bool.true_and]
           by_cases hp : pre = []
           · have : pre.length = 0 := by rw [hp]; rfl
             rw [if_pos hp]; simp [lowC]; omega
           · have : pre.length ≠ 0 := fun e => hp (List.eq_nil_of_length_eq_zero e)
             rw [if_neg hp]; simp [nameC, lowC]; omega
         have e2 := nmC_app _ post e
         rw [nameL_ok, hh1.out, show pre ++ x :: post = (pre ++ [x]) ++ post by simp, e2, Bool.false_and])

/- Persons; increasing lists as the code tests them. -/
open Go.Proofs
attribute [local go_sem] ty22 ty42 ty65 br49 br50 allocK fz72 fz99
set_option maxHeartbeats 4000000

structure Psn where
  id : Int
  name : ByteArray
  mem : Bool
def encP (p : Psn) : List AV := [.int .i64 p.id, .str p.name, .bool p.mem]

theorem person1E (p : Psn) (n : Int) (st : Bool) : EvV CX 50 [.agg (encP p), .tptr st [.int .i64 n] 0] (· = .bool (p.id == n)) := by
  refine EvV.walk rfl fn50 rfl nt50 rfl ?_
  simp only [List.length_cons, List.length_nil, List.cons_append, List.nil_append, Nat.reduceAdd, Nat.reduceSub, List.replicate]
  repeat' (first | refine go1 ?_ | refine blockK_else rfl ?_ | (refine wpC_cond fun A B hA hB => ?_; simp only [go_sem, reduceIte, Nat.reduceAdd, Nat.reduceEqDiff, Nat.reduceLT, Nat.reduceLeDiff, *, and_self, encP]; first | (refine hA.out ?_; clear hA hB A B) | (refine hB.out ?_; clear hA hB A B) | (refine iteI (fun h => hA.out ?_) (fun h => hB.out ?_) <;> clear hA hB A B) | (refine iteI (fun h => hB.out ?_) (fun h => hA.out ?_) <;> clear hA hB A B)) | (refine wpO_cons fun K hK => ?_; simp only [go_sem, reduceIte, Nat.reduceAdd, Nat.reduceEqDiff, Nat.reduceLT, Nat.reduceLeDiff, *, and_self, encP]; first | (refine hK.out _ _ ?_; clear hK K) | (refine iteI (fun h => hK.out _ _ ?_) (fun h => hK.out _ _ ?_) <;> clear hK K)))
  simp only [resultsR, resultsL, resultA, expK_int, expK_bool, expK_str, expK_agg, expK_own, expK_tsl, resK_some, go_sem, reduceIte, Nat.reduceAdd, Nat.reduceEqDiff, Nat.reduceLT, Nat.reduceLeDiff, and_self, ]

def pIdx (l : List Psn) (n : Int) : Nat → Option Nat
  | k => match l with
    | [] => none
    | g :: l => if g.id = n then some k else pIdx l n (k + 1)

theorem indexPE (v : AV) (ps : List Psn) (n : Int) (st : Bool) (hv : SLs 3 (ps.map encP) v) (hl : ps.length < 9223372036854775807) : EvV CX 49 [v, .fn 50 [.tptr st [.int .i64 n] 0]] (· = .int .i64 (codeOf (pIdx ps n 0))) := by
  have hs : ∀ S, snap S (.tptr st [.int .i64 n] 0) = some (.tptr st [.int .i64 n] 0) := fun S => by simp only [snap]
  have b1 : CX.byRef 50 = false := br50
  refine EvV.walk rfl fn49 rfl nt49 rfl ?_
  simp only [List.length_cons, List.length_nil, List.cons_append, List.nil_append, Nat.reduceAdd, Nat.reduceSub, List.replicate]
  repeat' (first | refine go1 ?_ | refine blockK_else rfl ?_ | (refine wpC_cond fun A B hA hB => ?_; simp only [go_sem, reduceIte, Nat.reduceAdd, Nat.reduceEqDiff, Nat.reduceLT, Nat.reduceLeDiff, *, and_self, lenK_sls hv]; first | (refine hA.out ?_; clear hA hB A B) | (refine hB.out ?_; clear hA hB A B) | (refine iteI (fun h => hA.out ?_) (fun h => hB.out ?_) <;> clear hA hB A B) | (refine iteI (fun h => hB.out ?_) (fun h => hA.out ?_) <;> clear hA hB A B)) | (refine wpO_cons fun K hK => ?_; simp only [go_sem, reduceIte, Nat.reduceAdd, Nat.reduceEqDiff, Nat.reduceLT, Nat.reduceLeDiff, *, and_self, lenK_sls hv]; first | (refine hK.out _ _ ?_; clear hK K) | (refine iteI (fun h => hK.out _ _ ?_) (fun h => hK.out _ _ ?_) <;> clear hK K)))
  refine wpC_each [4, 5, 9, 10, 11, 12, 13, 14, 15, 16, 17, 18] 8 ps (fun pre post => pIdx ps n 0 = pIdx post n pre.length) ?_ ?_ ?_ ?_
  · rfl
  · rfl
  · intro g G h2
    rw [h2]; simp only [garbA_cons, garbA_nil, setL_cons, setL_nil, List.set_cons_zero, List.set_cons_succ]
    repeat' (first | refine go1 ?_ | refine blockK_else rfl ?_ | (refine wpC_cond fun A B hA hB => ?_; simp only [go_sem, reduceIte, Nat.reduceAdd, Nat.reduceEqDiff, Nat.reduceLT, Nat.reduceLeDiff, *, and_self, ints_len, List.length_map, Int.lt_irrefl, List.nil_append]; first | (refine hA.out ?_; clear hA hB A B) | (refine hB.out ?_; clear hA hB A B) | (refine iteI (fun h => hA.out ?_) (fun h => hB.out ?_) <;> clear hA hB A B) | (refine iteI (fun h => hB.out ?_) (fun h => hA.out ?_) <;> clear hA hB A B)) | (refine wpO_cons fun K hK => ?_; simp only [go_sem, reduceIte, Nat.reduceAdd, Nat.reduceEqDiff, Nat.reduceLT, Nat.reduceLeDiff, *, and_self, ints_len, List.length_map, Int.lt_irrefl, List.nil_append]; first | (refine hK.out _ _ ?_; clear hK K) | (refine iteI (fun h => hK.out _ _ ?_) (fun h => hK.out _ _ ?_) <;> clear hK K)))
    simp only [resultsR, resultsL, resultA, expK_int, expK_bool, expK_str, expK_agg, expK_own, expK_tsl, resK_some, go_sem, reduceIte, Nat.reduceAdd, Nat.reduceEqDiff, Nat.reduceLT, Nat.reduceLeDiff, and_self, ]
    rfl
  · intro g G pre x post h1 h2
    rw [h2]; subst h1; simp only [garbA_cons, garbA_nil, setL_cons, setL_nil, List.set_cons_zero, List.set_cons_succ]
    have i1 := idx_sls hv (X := CX) ty22 ty42 rfl (map_mid encP pre x post) (k := .i64)
    have w1 := wrap_succ (n := pre.length) (by simp at hl; omega)
    have q := (person1E x n st).rw
    simp only [encP] at q
    by_cases hx : x.id = n
    · have hx' : (x.id == n) = true := by simpa using hx
      rw [hx'] at q
      have hh : Hold (x.id = n) := ⟨hx⟩
      clear hx
      repeat' (first | refine go1 ?_ | refine blockK_else rfl ?_ | (refine wpC_cond fun A B hA hB => ?_; simp only [go_sem, reduceIte, Nat.reduceAdd, Nat.reduceEqDiff, Nat.reduceLT, Nat.reduceLeDiff, *, and_self, getElem?_len, getElem?_lenAdd, set_len, set_lenAdd, len_mid, ints_len, List.length_map, lt_mid, List.nil_append, i1, w1, encP, snap_str, hs, q, b1]; first | (refine hA.out ?_; clear hA hB A B) | (refine hB.out ?_; clear hA hB A B) | (refine iteI (fun h => hA.out ?_) (fun h => hB.out ?_) <;> clear hA hB A B) | (refine iteI (fun h => hB.out ?_) (fun h => hA.out ?_) <;> clear hA hB A B)) | (refine wpO_cons fun K hK => ?_; simp only [go_sem, reduceIte, Nat.reduceAdd, Nat.reduceEqDiff, Nat.reduceLT, Nat.reduceLeDiff, *, and_self, getElem?_len, getElem?_lenAdd, set_len, set_lenAdd, len_mid, ints_len, List.length_map, lt_mid, List.nil_append, i1, w1, encP, snap_str, hs, q, b1]; first | (refine hK.out _ _ ?_; clear hK K) | (refine iteI (fun h => hK.out _ _ ?_) (fun h => hK.out _ _ ?_) <;> clear hK K)))
      simp only [resultsR, resultsL, resultA, expK_int, expK_bool, expK_str, expK_agg, expK_own, expK_tsl, resK_some, go_sem, reduceIte, Nat.reduceAdd, Nat.reduceEqDiff, Nat.reduceLT, Nat.reduceLeDiff, and_self, ]
      simp [pIdx, codeOf, hh.out]
    · have hx' : (x.id == n) = false := by simpa using hx
      rw [hx'] at q
      have hh : Hold (¬ x.id = n) := ⟨hx⟩
      clear hx
      repeat' (first | refine go1 ?_ | refine blockK_else rfl ?_ | (refine wpC_cond fun A B hA hB => ?_; simp only [go_sem, reduceIte, Nat.reduceAdd, Nat.reduceEqDiff, Nat.reduceLT, Nat.reduceLeDiff, *, and_self, getElem?_len, getElem?_lenAdd, set_len, set_lenAdd, len_mid, ints_len, List.length_map, lt_mid, List.nil_append, i1, w1, encP, snap_str, hs, q, b1]; first | (refine hA.out ?_; clear hA hB A B) | (refine hB.out ?_; clear hA hB A B) | (refine iteI (fun h => hA.out ?_) (fun h => hB.out ?_) <;> clear hA hB A B) | (refine iteI (fun h => hB.out ?_) (fun h => hA.out ?_) <;> clear hA hB A B)) | (refine wpO_cons fun K hK => ?_; simp only [go_sem, reduceIte, Nat.reduceAdd, Nat.reduceEqDiff, Nat.reduceLT, Nat.reduceLeDiff, *, and_self, getElem?_len, getElem?_lenAdd, set_len, set_lenAdd, len_mid, ints_len, List.length_map, lt_mid, List.nil_append, i1, w1, encP, snap_str, hs, q, b1]; first | (refine hK.out _ _ ?_; clear hK K) | (refine iteI (fun h => hK.out _ _ ?_) (fun h => hK.out _ _ ?_) <;> clear hK K)))
      refine each_next rfl ?_ ?_ ?_
      · rw [pIdx, if_neg hh.out, len_snoc]
      · ((try simp only [eraseA_cons, eraseA_nil, setL_cons, setL_nil, List.set_cons_zero, List.set_cons_succ]); all_goals (first | rfl | (simp only [len_snoc, ints_len, List.length_map, ]; done) | (simp only [len_snoc, len_mid, ints_len, List.length_map, List.length_append, List.length_cons, List.length_nil, Nat.zero_add, ]; done) | (simp only [len_mid, len_snoc, ints_len, List.length_map, List.length_append, List.length_cons, List.length_nil, Nat.zero_add, ]; rfl)))
      · first | exact ⟨[], (List.append_nil _).symm⟩ | exact ⟨_, rfl⟩ | (simp only [List.append_assoc, List.cons_append, List.nil_append]; exact ⟨_, rfl⟩)

def pFind (ps : List Psn) (n : Int) : Option Psn := ps.find? fun p => p.id == n
def noP : Psn := ⟨0, .empty, false⟩
theorem pIdx_find (ps : List Psn) (n : Int) : ∀ k, (pIdx ps n k = none ∧ pFind ps n = none) ∨ ∃ a g b, ps = a ++ g :: b ∧ pIdx ps n k = some (k + a.length) ∧ pFind ps n = some g := by
  induction ps with
  | nil => intro k; exact .inl ⟨rfl, rfl⟩
  | cons x gs ih =>
    intro k
    by_cases h : x.id = n
    · refine .inr ⟨[], x, gs, rfl, ?_, ?_⟩
      · rw [pIdx, if_pos h]; rfl
      · simp [pFind, h]
    · have e : pFind (x :: gs) n = pFind gs n := by simp [pFind, h]
      rw [pIdx, if_neg h, e]
      rcases ih (k + 1) with ⟨h1, h2⟩ | ⟨a, g, b, h1, h2, h3⟩
      · exact .inl ⟨h1, h2⟩
      · exact .inr ⟨x :: a, g, b, by rw [h1]; rfl, by rw [h2]; simp; omega, h3⟩
def psn (ps : List Psn) (n : Int) : Psn := (pFind ps n).getD noP
def isP (ps : List Psn) (n : Int) : Bool := (pFind ps n).isSome

theorem personE (v : AV) (ps : List Psn) (n : Int) (hv : SLs 3 (ps.map encP) v) (hl : ps.length < 9223372036854775807) : EvV CX 39 [v, .int .i64 n] (· = .tup [.agg (encP (psn ps n)), .bool (isP ps n)]) := by
  have q := (indexPE v ps n false hv hl).rw
  have hs : ∀ (C : Store), snap (.arr [[.int .i64 n]] 1 0 true :: C) (.ptr 0 1 1 0 0) = some (.tptr false [.int .i64 n] 0) := fun C => by
    simp [snap, rowOf, cleanL, AV.clean]
  have k3 : ∀ (S : Store) (m : Int), expCell S (.int .i64 m) = some (.int .i64 m) := fun _ _ => rfl
  have k4 : ∀ (S : Store) (m : ByteArray), expCell S (.str m) = some (.str m) := fun _ _ => rfl
  have k5 : ∀ (S : Store) (m : Bool), expTop S (.bool m) = some (.bool m) := fun _ _ => rfl
  have k6 : ∀ (S : Store) (m : Bool), expCell S (.bool m) = some (.bool m) := fun _ _ => rfl
  rcases pIdx_find ps n 0 with ⟨h1, h2⟩ | ⟨a, g, b, h1, h2, h3⟩
  · rw [h1] at q
    have z : (-1 : Int) < 0 := by omega
    have e : codeOf none = -1 := rfl
    rw [e] at q
    have e1 : psn ps n = noP := by simp [psn, h2]
    have e2 : isP ps n = false := by simp [isP, h2]
    rw [e1, e2]
    clear h1 h2 e1 e2
    refine EvV.walk rfl fn39 rfl nt39 rfl ?_
    simp only [List.length_cons, List.length_nil, List.cons_append, List.nil_append, Nat.reduceAdd, Nat.reduceSub, List.replicate]
    repeat' (first | refine go1 ?_ | refine blockK_else rfl ?_ | (refine wpC_cond fun A B hA hB => ?_; simp only [go_sem, reduceIte, Nat.reduceAdd, Nat.reduceEqDiff, Nat.reduceLT, Nat.reduceLeDiff, *, and_self, hv.snap, hs, q, List.getElem?_cons_succ]; first | (refine hA.out ?_; clear hA hB A B) | (refine hB.out ?_; clear hA hB A B) | (refine iteI (fun h => hA.out ?_) (fun h => hB.out ?_) <;> clear hA hB A B) | (refine iteI (fun h => hB.out ?_) (fun h => hA.out ?_) <;> clear hA hB A B)) | (refine wpO_cons fun K hK => ?_; simp only [go_sem, reduceIte, Nat.reduceAdd, Nat.reduceEqDiff, Nat.reduceLT, Nat.reduceLeDiff, *, and_self, hv.snap, hs, q, List.getElem?_cons_succ]; first | (refine hK.out _ _ ?_; clear hK K) | (refine iteI (fun h => hK.out _ _ ?_) (fun h => hK.out _ _ ?_) <;> clear hK K)))
    simp only [resultsR, resultsL, resultA, resK_some, getA_zero, getA_succ, go_sem, reduceIte, Nat.reduceAdd, Nat.reduceEqDiff, Nat.reduceLT, Nat.reduceLeDiff, and_self, List.getElem?_cons_succ, expK_tup]
    rw [if_pos (show idsOK _ = true from rfl)]
    simp only [expTops, expTop, expCells, k3, k4, k5, k6, encP, noP]
    simp [AV.stab]
  · rw [h2] at q
    have hal : a.length < ps.length := by rw [h1]; simp
    have z : ¬ ((a.length : Nat) : Int) < 0 := by omega
    have e : codeOf (some (0 + a.length)) = ((a.length : Nat) : Int) := by simp [codeOf]
    rw [e] at q
    have i1 := idx_sls hv (X := CX) ty22 ty42 rfl (n := a.length) (row := encP g) (k := .i64) (by rw [h1]; exact map_mid encP a g b)
    have e1 : psn ps n = g := by simp [psn, h3]
    have e2 : isP ps n = true := by simp [isP, h3]
    rw [e1, e2]
    clear h1 h2 h3 e1 e2
    refine EvV.walk rfl fn39 rfl nt39 rfl ?_
    simp only [List.length_cons, List.length_nil, List.cons_append, List.nil_append, Nat.reduceAdd, Nat.reduceSub, List.replicate]
    repeat' (first | refine go1 ?_ | refine blockK_else rfl ?_ | (refine wpC_cond fun A B hA hB => ?_; simp only [go_sem, reduceIte, Nat.reduceAdd, Nat.reduceEqDiff, Nat.reduceLT, Nat.reduceLeDiff, *, and_self, hv.snap, hs, q, List.getElem?_cons_succ, i1, encP]; first | (refine hA.out ?_; clear hA hB A B) | (refine hB.out ?_; clear hA hB A B) | (refine iteI (fun h => hA.out ?_) (fun h => hB.out ?_) <;> clear hA hB A B) | (refine iteI (fun h => hB.out ?_) (fun h => hA.out ?_) <;> clear hA hB A B)) | (refine wpO_cons fun K hK => ?_; simp only [go_sem, reduceIte, Nat.reduceAdd, Nat.reduceEqDiff, Nat.reduceLT, Nat.reduceLeDiff, *, and_self, hv.snap, hs, q, List.getElem?_cons_succ, i1, encP]; first | (refine hK.out _ _ ?_; clear hK K) | (refine iteI (fun h => hK.out _ _ ?_) (fun h => hK.out _ _ ?_) <;> clear hK K)))
    simp only [resultsR, resultsL, resultA, resK_some, getA_zero, getA_succ, go_sem, reduceIte, Nat.reduceAdd, Nat.reduceEqDiff, Nat.reduceLT, Nat.reduceLeDiff, and_self, List.getElem?_cons_succ, expK_tup]
    rw [if_pos (show idsOK _ = true from rfl)]
    simp only [expTops, expTop, expCells, k3, k4, k5, k6, encP]
    simp [AV.stab]

theorem personR (v : AV) (ps : List Psn) (n : Int) (hv : SLs 3 (ps.map encP) v) (hl : ps.length < 9223372036854775807) : EvV CX 45 [v, .int .i64 n] (· = .tup [.agg (encP (psn ps n)), .bool (isP ps n)]) := by
  have k3 : ∀ (S : Store) (m : Int), expCell S (.int .i64 m) = some (.int .i64 m) := fun _ _ => rfl
  have k4 : ∀ (S : Store) (m : ByteArray), expCell S (.str m) = some (.str m) := fun _ _ => rfl
  have k5 : ∀ (S : Store) (m : Bool), expTop S (.bool m) = some (.bool m) := fun _ _ => rfl
  have k6 : ∀ (S : Store) (m : Bool), expCell S (.bool m) = some (.bool m) := fun _ _ => rfl
  refine EvV.walk rfl fn45 rfl nt45 rfl ?_
  simp only [List.length_cons, List.length_nil, List.cons_append, List.nil_append, Nat.reduceAdd, Nat.reduceSub, List.replicate]
  repeat' (first | refine go1 ?_ | refine blockK_else rfl ?_ | (refine wpC_cond fun A B hA hB => ?_; simp only [go_sem, reduceIte, Nat.reduceAdd, Nat.reduceEqDiff, Nat.reduceLT, Nat.reduceLeDiff, *, and_self, lenK_sls hv]; first | (refine hA.out ?_; clear hA hB A B) | (refine hB.out ?_; clear hA hB A B) | (refine iteI (fun h => hA.out ?_) (fun h => hB.out ?_) <;> clear hA hB A B) | (refine iteI (fun h => hB.out ?_) (fun h => hA.out ?_) <;> clear hA hB A B)) | (refine wpO_cons fun K hK => ?_; simp only [go_sem, reduceIte, Nat.reduceAdd, Nat.reduceEqDiff, Nat.reduceLT, Nat.reduceLeDiff, *, and_self, lenK_sls hv]; first | (refine hK.out _ _ ?_; clear hK K) | (refine iteI (fun h => hK.out _ _ ?_) (fun h => hK.out _ _ ?_) <;> clear hK K)))
  refine wpC_each [5, 6, 10, 11, 12, 13, 14, 15, 16, 17, 18, 19, 20, 21, 22, 23] 9 ps (fun _ post => pFind ps n = pFind post n) ?_ ?_ ?_ ?_
  · rfl
  · rfl
  · intro g G h2
    simp only [garbA_cons, garbA_nil, setL_cons, setL_nil, List.set_cons_zero, List.set_cons_succ]
    have e1 : psn ps n = noP := by rw [psn, h2]; rfl
    have e2 : isP ps n = false := by rw [isP, h2]; rfl
    rw [e1, e2]
    clear h2 e1 e2
    repeat' (first | refine go1 ?_ | refine blockK_else rfl ?_ | (refine wpC_cond fun A B hA hB => ?_; simp only [go_sem, reduceIte, Nat.reduceAdd, Nat.reduceEqDiff, Nat.reduceLT, Nat.reduceLeDiff, *, and_self, ints_len, List.length_map, Int.lt_irrefl, List.nil_append, List.cons_append]; first | (refine hA.out ?_; clear hA hB A B) | (refine hB.out ?_; clear hA hB A B) | (refine iteI (fun h => hA.out ?_) (fun h => hB.out ?_) <;> clear hA hB A B) | (refine iteI (fun h => hB.out ?_) (fun h => hA.out ?_) <;> clear hA hB A B)) | (refine wpO_cons fun K hK => ?_; simp only [go_sem, reduceIte, Nat.reduceAdd, Nat.reduceEqDiff, Nat.reduceLT, Nat.reduceLeDiff, *, and_self, ints_len, List.length_map, Int.lt_irrefl, List.nil_append, List.cons_append]; first | (refine hK.out _ _ ?_; clear hK K) | (refine iteI (fun h => hK.out _ _ ?_) (fun h => hK.out _ _ ?_) <;> clear hK K)))
    simp only [resultsR, resultsL, resultA, resK_some, getA_zero, getA_succ, go_sem, reduceIte, Nat.reduceAdd, Nat.reduceEqDiff, Nat.reduceLT, Nat.reduceLeDiff, and_self, List.getElem?_cons_succ, expK_tup]
    rw [if_pos (show idsOK _ = true from rfl)]
    simp only [expTops, expTop, expCells, k3, k4, k5, k6, encP, noP]
    simp [AV.stab]
  · intro g G pre x post h1 h2
    subst h1; simp only [garbA_cons, garbA_nil, setL_cons, setL_nil, List.set_cons_zero, List.set_cons_succ]
    have i1 := idx_sls hv (X := CX) ty22 ty42 rfl (map_mid encP pre x post) (k := .i64)
    have w1 := wrap_succ (n := pre.length) (by simp at hl; omega)
    by_cases hx : x.id = n
    · subst hx
      have e0 : pFind (x :: post) x.id = some x := by simp [pFind]
      have e1 : psn (pre ++ x :: post) x.id = x := by rw [psn, h2, e0]; rfl
      have e2 : isP (pre ++ x :: post) x.id = true := by rw [isP, h2, e0]; rfl
      rw [e1, e2]
      clear e0
      have hx' : (x.id == x.id) = true := by simp
      clear h2 e1 e2
      repeat' (first | refine go1 ?_ | refine blockK_else rfl ?_ | (refine wpC_cond fun A B hA hB => ?_; simp only [go_sem, reduceIte, Nat.reduceAdd, Nat.reduceEqDiff, Nat.reduceLT, Nat.reduceLeDiff, *, and_self, getElem?_len, getElem?_lenAdd, set_len, set_lenAdd, len_mid, ints_len, List.length_map, lt_mid, List.nil_append, i1, w1, encP, hx']; first | (refine hA.out ?_; clear hA hB A B) | (refine hB.out ?_; clear hA hB A B) | (refine iteI (fun h => hA.out ?_) (fun h => hB.out ?_) <;> clear hA hB A B) | (refine iteI (fun h => hB.out ?_) (fun h => hA.out ?_) <;> clear hA hB A B)) | (refine wpO_cons fun K hK => ?_; simp only [go_sem, reduceIte, Nat.reduceAdd, Nat.reduceEqDiff, Nat.reduceLT, Nat.reduceLeDiff, *, and_self, getElem?_len, getElem?_lenAdd, set_len, set_lenAdd, len_mid, ints_len, List.length_map, lt_mid, List.nil_append, i1, w1, encP, hx']; first | (refine hK.out _ _ ?_; clear hK K) | (refine iteI (fun h => hK.out _ _ ?_) (fun h => hK.out _ _ ?_) <;> clear hK K)))
      simp only [resultsR, resultsL, resultA, resK_some, getA_zero, getA_succ, go_sem, reduceIte, Nat.reduceAdd, Nat.reduceEqDiff, Nat.reduceLT, Nat.reduceLeDiff, and_self, List.getElem?_cons_succ, expK_tup]
      rw [if_pos (show idsOK _ = true from rfl)]
      simp only [expTops, expTop, expCells, k3, k4, k5, k6, encP]
      simp [AV.stab]
    · have hx' : (x.id == n) = false := by simpa using hx
      have hh : Hold (pFind (pre ++ x :: post) n = pFind post n) := ⟨by rw [h2]; simp [pFind, hx]⟩
      clear h2
      repeat' (first | refine go1 ?_ | refine blockK_else rfl ?_ | (refine wpC_cond fun A B hA hB => ?_; simp only [go_sem, reduceIte, Nat.reduceAdd, Nat.reduceEqDiff, Nat.reduceLT, Nat.reduceLeDiff, *, and_self, getElem?_len, getElem?_lenAdd, set_len, set_lenAdd, len_mid, ints_len, List.length_map, lt_mid, List.nil_append, i1, w1, encP, hx']; first | (refine hA.out ?_; clear hA hB A B) | (refine hB.out ?_; clear hA hB A B) | (refine iteI (fun h => hA.out ?_) (fun h => hB.out ?_) <;> clear hA hB A B) | (refine iteI (fun h => hB.out ?_) (fun h => hA.out ?_) <;> clear hA hB A B)) | (refine wpO_cons fun K hK => ?_; simp only [go_sem, reduceIte, Nat.reduceAdd, Nat.reduceEqDiff, Nat.reduceLT, Nat.reduceLeDiff, *, and_self, getElem?_len, getElem?_lenAdd, set_len, set_lenAdd, len_mid, ints_len, List.length_map, lt_mid, List.nil_append, i1, w1, encP, hx']; first | (refine hK.out _ _ ?_; clear hK K) | (refine iteI (fun h => hK.out _ _ ?_) (fun h => hK.out _ _ ?_) <;> clear hK K)))
      refine each_next rfl ?_ ?_ ?_
      · exact hh.out
      · ((try simp only [eraseA_cons, eraseA_nil, setL_cons, setL_nil, List.set_cons_zero, List.set_cons_succ]); all_goals (first | rfl | (simp only [len_snoc, ints_len, List.length_map, ]; done) | (simp only [len_snoc, len_mid, ints_len, List.length_map, List.length_append, List.length_cons, List.length_nil, Nat.zero_add, ]; done) | (simp only [len_mid, len_snoc, ints_len, List.length_map, List.length_append, List.length_cons, List.length_nil, Nat.zero_add, ]; rfl)))
      · first | exact ⟨[], (List.append_nil _).symm⟩ | exact ⟨_, rfl⟩ | (simp only [List.append_assoc, List.cons_append, List.nil_append]; exact ⟨_, rfl⟩)

def idOK (n : Int) : Bool := decide (1 ≤ n) && decide (n ≤ 1099511627776)
theorem identR (n : Int) : EvV CX 43 [.int .i64 n] (· = .bool (idOK n)) := by
  unfold idOK
  refine EvV.walk rfl fn43 rfl nt43 rfl ?_
  simp only [List.length_cons, List.length_nil, List.cons_append, List.nil_append, Nat.reduceAdd, Nat.reduceSub, List.replicate]
  repeat' (first | refine go1 ?_ | refine blockK_else rfl ?_ | (refine wpC_cond fun A B hA hB => ?_; simp only [go_sem, reduceIte, Nat.reduceAdd, Nat.reduceEqDiff, Nat.reduceLT, Nat.reduceLeDiff, *, and_self, ]; first | (refine hA.out ?_; clear hA hB A B) | (refine hB.out ?_; clear hA hB A B) | (refine iteI (fun h => hA.out ?_) (fun h => hB.out ?_) <;> clear hA hB A B) | (refine iteI (fun h => hB.out ?_) (fun h => hA.out ?_) <;> clear hA hB A B)) | (refine wpO_cons fun K hK => ?_; simp only [go_sem, reduceIte, Nat.reduceAdd, Nat.reduceEqDiff, Nat.reduceLT, Nat.reduceLeDiff, *, and_self, ]; first | (refine hK.out _ _ ?_; clear hK K) | (refine iteI (fun h => hK.out _ _ ?_) (fun h => hK.out _ _ ?_) <;> clear hK K)))
  all_goals
    simp only [resultsR, resultsL, resultA, expK_int, expK_bool, expK_str, expK_agg, expK_own, expK_tsl, resK_some, go_sem, reduceIte, Nat.reduceAdd, Nat.reduceEqDiff, Nat.reduceLT, Nat.reduceLeDiff, and_self, ]
    simp [*]

/- Groups: the check of one group, in the code and in the reference. -/
open Go.Proofs
attribute [local go_sem] ty26 br37 br38 br39 fz10 fz11 fz12 fz13
set_option maxHeartbeats 4000000

def lastG (pre : List Grp) : Grp := pre.getLastD noG
def ordG (pre : List Grp) (x : Grp) : Bool := decide (pre = []) || decide ((lastG pre).id < x.id)
/-- What is wrong with a group. -/
def errG (ps : List Psn) (pre : List Grp) (x : Grp) : Int :=
  if idOK x.id = true then if ordG pre x = true then if nameL x.name.data.toList = true then if upB x.people = true then if x.people.all (isP ps) = true then if upB x.subs = true then 0 else 10 else 9 else 10 else 7 else 10 else 2

theorem idOK_cases (n : Int) : (idOK n = true ∧ ¬ n < 1 ∧ ¬ 1099511627776 < n) ∨ (idOK n = false ∧ n < 1) ∨ (idOK n = false ∧ ¬ n < 1 ∧ 1099511627776 < n) := by
  unfold idOK
  by_cases h : n < 1
  · right; left; exact ⟨by simp; omega, h⟩
  · by_cases h2 : 1099511627776 < n
    · right; right; exact ⟨by simp; omega, h, h2⟩
    · left; exact ⟨by simp; omega, h, h2⟩
theorem ordG_cases {v : AV} {gs pre post : List Grp} {x : Grp} (h : GsOK v gs) (hg : gs = pre ++ x :: post) :
    (ordG pre x = true ∧ ¬ (0 : Int) < (pre.length : Int)) ∨
    (ordG pre x = true ∧ ¬ x.id ≤ (lastG pre).id ∧ (0 : Int) < (pre.length : Int) ∧ indexAddrA CX 23 v (.int .i64 (IntKind.wrap .i64 ((pre.length : Int) - 1))) = some (.tptr (stOf v) (encG (lastG pre)) 0)) ∨
    (ordG pre x = false ∧ x.id ≤ (lastG pre).id ∧ (0 : Int) < (pre.length : Int) ∧ indexAddrA CX 23 v (.int .i64 (IntKind.wrap .i64 ((pre.length : Int) - 1))) = some (.tptr (stOf v) (encG (lastG pre)) 0)) := by
  have hgl := h.len
  by_cases hp : pre = []
  · left; exact ⟨by simp [ordG, hp], by simp [hp]⟩
  · have z0 : (0 : Int) < (pre.length : Int) := by have := List.length_pos_iff.mpr hp; omega
    have e : indexAddrA CX 23 v (.int .i64 (IntKind.wrap .i64 ((pre.length : Int) - 1))) = some (.tptr (stOf v) (encG (lastG pre)) 0) := prev_sls (f := encG) (by rw [← hg]; exact h.sl) (by rw [← hg]; omega) ty23 ty37 rfl noG z0
    by_cases hl : x.id ≤ (lastG pre).id
    · right; right; exact ⟨by simp [ordG, hp]; omega, hl, z0, e⟩
    · right; left; exact ⟨by simp [ordG, hp]; omega, hl, z0, e⟩

theorem oneE {v w : AV} {gs pre post : List Grp} {x : Grp} {ps : List Psn} (h : GsOK v gs) (hw : SLs 3 (ps.map encP) w) (hps : ps.length ≤ 1000) (hg : gs = pre ++ x :: post) (hn : x.name.size ≤ 1000) : EvV CX 30 [w, v, .int .i64 pre.length] (· = .int .i64 (errG ps pre x)) := by
  have i0 := idx_sls h.sl (X := CX) ty23 ty37 rfl (n := pre.length) (row := encG x) (k := .i64) (map_at encG hg)
  have hx := h.ok x (by rw [hg]; simp)
  have c1 := hx.pv.cell
  have c2 := hx.sv.cell
  have s1 := hx.pv.snap
  have s2 := hx.sv.snap
  have hpl := h.ppl x (by rw [hg]; simp)
  have hsl := h.subs x (by rw [hg]; simp)
  have hws := hw.snap
  have ho := ordG_cases h hg
  clear hg
  have qn := (nameM x.name hn).rw
  have qp := (incE _ _ hx.pv (by omega)).rw
  have qs := (incE _ _ hx.sv (by omega)).rw
  clear hn
  rcases idOK_cases x.id with ⟨k1, a1, a2⟩ | ⟨k1, a1⟩ | ⟨k1, a1, a2⟩
  rotate_left
  · clear ho qn qp qs
    refine EvV.walk rfl fn30 rfl nt30 rfl ?_
    simp only [List.length_cons, List.length_nil, List.cons_append, List.nil_append, Nat.reduceAdd, Nat.reduceSub, List.replicate]
    repeat' (first | refine go1 ?_ | refine blockK_else rfl ?_ | (refine wpO_cons fun K hK => ?_; simp only [go_sem, reduceIte, Nat.reduceAdd, Nat.reduceEqDiff, Nat.reduceLT, Nat.reduceLeDiff, *, and_self, i0, encG, c1, c2, s1, s2, hws, snap_str, getElem?_len, getElem?_lenAdd, set_len, set_lenAdd, len_mid, ints_len, List.length_map, lt_mid, List.nil_append, List.cons_append, Bool.not_true, Bool.not_false]; first | (refine hK.out _ _ ?_; clear hK K) | (refine iteI (fun h => hK.out _ _ ?_) (fun h => hK.out _ _ ?_) <;> clear hK K)))
    (refine wpC_cond fun A B hA hB => ?_; simp only [go_sem, reduceIte, Nat.reduceAdd, Nat.reduceEqDiff, Nat.reduceLT, Nat.reduceLeDiff, *, and_self, ]; first | (refine hA.out ?_; clear hA hB A B) | (refine hB.out ?_; clear hA hB A B))
    repeat' (first | refine go1 ?_ | refine blockK_else rfl ?_ | (refine wpO_cons fun K hK => ?_; simp only [go_sem, reduceIte, Nat.reduceAdd, Nat.reduceEqDiff, Nat.reduceLT, Nat.reduceLeDiff, *, and_self, ]; first | (refine hK.out _ _ ?_; clear hK K) | (refine iteI (fun h => hK.out _ _ ?_) (fun h => hK.out _ _ ?_) <;> clear hK K)))
    simp only [resultsR, resultsL, resultA, expK_int, expK_bool, expK_str, expK_agg, expK_own, expK_tsl, resK_some, go_sem, reduceIte, Nat.reduceAdd, Nat.reduceEqDiff, Nat.reduceLT, Nat.reduceLeDiff, and_self, ]
    simp [errG, k1]
  · clear ho qn qp qs
    refine EvV.walk rfl fn30 rfl nt30 rfl ?_
    simp only [List.length_cons, List.length_nil, List.cons_append, List.nil_append, Nat.reduceAdd, Nat.reduceSub, List.replicate]
    repeat' (first | refine go1 ?_ | refine blockK_else rfl ?_ | (refine wpO_cons fun K hK => ?_; simp only [go_sem, reduceIte, Nat.reduceAdd, Nat.reduceEqDiff, Nat.reduceLT, Nat.reduceLeDiff, *, and_self, i0, encG, c1, c2, s1, s2, hws, snap_str, getElem?_len, getElem?_lenAdd, set_len, set_lenAdd, len_mid, ints_len, List.length_map, lt_mid, List.nil_append, List.cons_append, Bool.not_true, Bool.not_false]; first | (refine hK.out _ _ ?_; clear hK K) | (refine iteI (fun h => hK.out _ _ ?_) (fun h => hK.out _ _ ?_) <;> clear hK K)))
    (refine wpC_cond fun A B hA hB => ?_; simp only [go_sem, reduceIte, Nat.reduceAdd, Nat.reduceEqDiff, Nat.reduceLT, Nat.reduceLeDiff, *, and_self, ]; first | (refine hA.out ?_; clear hA hB A B) | (refine hB.out ?_; clear hA hB A B))
    repeat' (first | refine go1 ?_ | refine blockK_else rfl ?_ | (refine wpO_cons fun K hK => ?_; simp only [go_sem, reduceIte, Nat.reduceAdd, Nat.reduceEqDiff, Nat.reduceLT, Nat.reduceLeDiff, *, and_self, ]; first | (refine hK.out _ _ ?_; clear hK K) | (refine iteI (fun h => hK.out _ _ ?_) (fun h => hK.out _ _ ?_) <;> clear hK K)))
    simp only [resultsR, resultsL, resultA, expK_int, expK_bool, expK_str, expK_agg, expK_own, expK_tsl, resK_some, go_sem, reduceIte, Nat.reduceAdd, Nat.reduceEqDiff, Nat.reduceLT, Nat.reduceLeDiff, and_self, ]
    simp [errG, k1]
  rcases ho with ⟨k2, e1⟩ | ⟨k2, e1, e2, e3⟩ | ⟨k2, e1, e2, e3⟩
  rotate_right
  · clear qn qp qs
    refine EvV.walk rfl fn30 rfl nt30 rfl ?_
    simp only [List.length_cons, List.length_nil, List.cons_append, List.nil_append, Nat.reduceAdd, Nat.reduceSub, List.replicate]
    repeat' (first | refine go1 ?_ | refine blockK_else rfl ?_ | (refine wpO_cons fun K hK => ?_; simp only [go_sem, reduceIte, Nat.reduceAdd, Nat.reduceEqDiff, Nat.reduceLT, Nat.reduceLeDiff, *, and_self, i0, encG, c1, c2, s1, s2, hws, snap_str, getElem?_len, getElem?_lenAdd, set_len, set_lenAdd, len_mid, ints_len, List.length_map, lt_mid, List.nil_append, List.cons_append, Bool.not_true, Bool.not_false]; first | (refine hK.out _ _ ?_; clear hK K) | (refine iteI (fun h => hK.out _ _ ?_) (fun h => hK.out _ _ ?_) <;> clear hK K)))
    (refine wpC_cond fun A B hA hB => ?_; simp only [go_sem, reduceIte, Nat.reduceAdd, Nat.reduceEqDiff, Nat.reduceLT, Nat.reduceLeDiff, *, and_self, ]; first | (refine hA.out ?_; clear hA hB A B) | (refine hB.out ?_; clear hA hB A B))
    repeat' (first | refine go1 ?_ | refine blockK_else rfl ?_ | (refine wpO_cons fun K hK => ?_; simp only [go_sem, reduceIte, Nat.reduceAdd, Nat.reduceEqDiff, Nat.reduceLT, Nat.reduceLeDiff, *, and_self, i0, encG, c1, c2, s1, s2, hws, snap_str, getElem?_len, getElem?_lenAdd, set_len, set_lenAdd, len_mid, ints_len, List.length_map, lt_mid, List.nil_append, List.cons_append, Bool.not_true, Bool.not_false]; first | (refine hK.out _ _ ?_; clear hK K) | (refine iteI (fun h => hK.out _ _ ?_) (fun h => hK.out _ _ ?_) <;> clear hK K)))
    (refine wpC_cond fun A B hA hB => ?_; simp only [go_sem, reduceIte, Nat.reduceAdd, Nat.reduceEqDiff, Nat.reduceLT, Nat.reduceLeDiff, *, and_self, ]; first | (refine hA.out ?_; clear hA hB A B) | (refine hB.out ?_; clear hA hB A B))
    repeat' (first | refine go1 ?_ | refine blockK_else rfl ?_ | (refine wpO_cons fun K hK => ?_; simp only [go_sem, reduceIte, Nat.reduceAdd, Nat.reduceEqDiff, Nat.reduceLT, Nat.reduceLeDiff, *, and_self, i0, encG, c1, c2, s1, s2, hws, snap_str, getElem?_len, getElem?_lenAdd, set_len, set_lenAdd, len_mid, ints_len, List.length_map, lt_mid, List.nil_append, List.cons_append, Bool.not_true, Bool.not_false]; first | (refine hK.out _ _ ?_; clear hK K) | (refine iteI (fun h => hK.out _ _ ?_) (fun h => hK.out _ _ ?_) <;> clear hK K)))
    simp only [resultsR, resultsL, resultA, expK_int, expK_bool, expK_str, expK_agg, expK_own, expK_tsl, resK_some, go_sem, reduceIte, Nat.reduceAdd, Nat.reduceEqDiff, Nat.reduceLT, Nat.reduceLeDiff, and_self, ]
    simp [errG, k1, k2]
  all_goals
    by_cases k3 : nameL x.name.data.toList = true
    rotate_left
    · have k3 : nameL x.name.data.toList = false := by simpa using k3
      clear qp qs
      refine EvV.walk rfl fn30 rfl nt30 rfl ?_
      simp only [List.length_cons, List.length_nil, List.cons_append, List.nil_append, Nat.reduceAdd, Nat.reduceSub, List.replicate]
      repeat' (first | refine go1 ?_ | refine blockK_else rfl ?_ | (refine wpO_cons fun K hK => ?_; simp only [go_sem, reduceIte, Nat.reduceAdd, Nat.reduceEqDiff, Nat.reduceLT, Nat.reduceLeDiff, *, and_self, i0, encG, c1, c2, s1, s2, hws, snap_str, getElem?_len, getElem?_lenAdd, set_len, set_lenAdd, len_mid, ints_len, List.length_map, lt_mid, List.nil_append, List.cons_append, Bool.not_true, Bool.not_false]; first | (refine hK.out _ _ ?_; clear hK K) | (refine iteI (fun h => hK.out _ _ ?_) (fun h => hK.out _ _ ?_) <;> clear hK K)))
      (refine wpC_cond fun A B hA hB => ?_; simp only [go_sem, reduceIte, Nat.reduceAdd, Nat.reduceEqDiff, Nat.reduceLT, Nat.reduceLeDiff, *, and_self, ]; first | (refine hA.out ?_; clear hA hB A B) | (refine hB.out ?_; clear hA hB A B))
      repeat' (first | refine go1 ?_ | refine blockK_else rfl ?_ | (refine wpO_cons fun K hK => ?_; simp only [go_sem, reduceIte, Nat.reduceAdd, Nat.reduceEqDiff, Nat.reduceLT, Nat.reduceLeDiff, *, and_self, i0, encG, c1, c2, s1, s2, hws, snap_str, getElem?_len, getElem?_lenAdd, set_len, set_lenAdd, len_mid, ints_len, List.length_map, lt_mid, List.nil_append, List.cons_append, Bool.not_true, Bool.not_false]; first | (refine hK.out _ _ ?_; clear hK K) | (refine iteI (fun h => hK.out _ _ ?_) (fun h => hK.out _ _ ?_) <;> clear hK K)))
      (refine wpC_cond fun A B hA hB => ?_; simp only [go_sem, reduceIte, Nat.reduceAdd, Nat.reduceEqDiff, Nat.reduceLT, Nat.reduceLeDiff, *, and_self, ]; first | (refine hA.out ?_; clear hA hB A B) | (refine hB.out ?_; clear hA hB A B))
      repeat' (first | refine go1 ?_ | refine blockK_else rfl ?_ | (refine wpO_cons fun K hK => ?_; simp only [go_sem, reduceIte, Nat.reduceAdd, Nat.reduceEqDiff, Nat.reduceLT, Nat.reduceLeDiff, *, and_self, i0, encG, c1, c2, s1, s2, hws, snap_str, getElem?_len, getElem?_lenAdd, set_len, set_lenAdd, len_mid, ints_len, List.length_map, lt_mid, List.nil_append, List.cons_append, Bool.not_true, Bool.not_false, qn]; first | (refine hK.out _ _ ?_; clear hK K) | (refine iteI (fun h => hK.out _ _ ?_) (fun h => hK.out _ _ ?_) <;> clear hK K)))
      (refine wpC_cond fun A B hA hB => ?_; simp only [go_sem, reduceIte, Nat.reduceAdd, Nat.reduceEqDiff, Nat.reduceLT, Nat.reduceLeDiff, *, and_self, ]; first | (refine hA.out ?_; clear hA hB A B) | (refine hB.out ?_; clear hA hB A B))
      repeat' (first | refine go1 ?_ | refine blockK_else rfl ?_ | (refine wpO_cons fun K hK => ?_; simp only [go_sem, reduceIte, Nat.reduceAdd, Nat.reduceEqDiff, Nat.reduceLT, Nat.reduceLeDiff, *, and_self, ]; first | (refine hK.out _ _ ?_; clear hK K) | (refine iteI (fun h => hK.out _ _ ?_) (fun h => hK.out _ _ ?_) <;> clear hK K)))
      simp only [resultsR, resultsL, resultA, expK_int, expK_bool, expK_str, expK_agg, expK_own, expK_tsl, resK_some, go_sem, reduceIte, Nat.reduceAdd, Nat.reduceEqDiff, Nat.reduceLT, Nat.reduceLeDiff, and_self, ]
      simp [errG, k1, k2, k3]
    by_cases k4 : upB x.people = true
    rotate_left
    · have k4 : upB x.people = false := by simpa using k4
      clear qs
      refine EvV.walk rfl fn30 rfl nt30 rfl ?_
      simp only [List.length_cons, List.length_nil, List.cons_append, List.nil_append, Nat.reduceAdd, Nat.reduceSub, List.replicate]
      repeat' (first | refine go1 ?_ | refine blockK_else rfl ?_ | (refine wpO_cons fun K hK => ?_; simp only [go_sem, reduceIte, Nat.reduceAdd, Nat.reduceEqDiff, Nat.reduceLT, Nat.reduceLeDiff, *, and_self, i0, encG, c1, c2, s1, s2, hws, snap_str, getElem?_len, getElem?_lenAdd, set_len, set_lenAdd, len_mid, ints_len, List.length_map, lt_mid, List.nil_append, List.cons_append, Bool.not_true, Bool.not_false]; first | (refine hK.out _ _ ?_; clear hK K) | (refine iteI (fun h => hK.out _ _ ?_) (fun h => hK.out _ _ ?_) <;> clear hK K)))
      (refine wpC_cond fun A B hA hB => ?_; simp only [go_sem, reduceIte, Nat.reduceAdd, Nat.reduceEqDiff, Nat.reduceLT, Nat.reduceLeDiff, *, and_self, ]; first | (refine hA.out ?_; clear hA hB A B) | (refine hB.out ?_; clear hA hB A B))
      repeat' (first | refine go1 ?_ | refine blockK_else rfl ?_ | (refine wpO_cons fun K hK => ?_; simp only [go_sem, reduceIte, Nat.reduceAdd, Nat.reduceEqDiff, Nat.reduceLT, Nat.reduceLeDiff, *, and_self, i0, encG, c1, c2, s1, s2, hws, snap_str, getElem?_len, getElem?_lenAdd, set_len, set_lenAdd, len_mid, ints_len, List.length_map, lt_mid, List.nil_append, List.cons_append, Bool.not_true, Bool.not_false]; first | (refine hK.out _ _ ?_; clear hK K) | (refine iteI (fun h => hK.out _ _ ?_) (fun h => hK.out _ _ ?_) <;> clear hK K)))
      (refine wpC_cond fun A B hA hB => ?_; simp only [go_sem, reduceIte, Nat.reduceAdd, Nat.reduceEqDiff, Nat.reduceLT, Nat.reduceLeDiff, *, and_self, ]; first | (refine hA.out ?_; clear hA hB A B) | (refine hB.out ?_; clear hA hB A B))
      repeat' (first | refine go1 ?_ | refine blockK_else rfl ?_ | (refine wpO_cons fun K hK => ?_; simp only [go_sem, reduceIte, Nat.reduceAdd, Nat.reduceEqDiff, Nat.reduceLT, Nat.reduceLeDiff, *, and_self, i0, encG, c1, c2, s1, s2, hws, snap_str, getElem?_len, getElem?_lenAdd, set_len, set_lenAdd, len_mid, ints_len, List.length_map, lt_mid, List.nil_append, List.cons_append, Bool.not_true, Bool.not_false, qn]; first | (refine hK.out _ _ ?_; clear hK K) | (refine iteI (fun h => hK.out _ _ ?_) (fun h => hK.out _ _ ?_) <;> clear hK K)))
      (refine wpC_cond fun A B hA hB => ?_; simp only [go_sem, reduceIte, Nat.reduceAdd, Nat.reduceEqDiff, Nat.reduceLT, Nat.reduceLeDiff, *, and_self, ]; first | (refine hA.out ?_; clear hA hB A B) | (refine hB.out ?_; clear hA hB A B))
      repeat' (first | refine go1 ?_ | refine blockK_else rfl ?_ | (refine wpO_cons fun K hK => ?_; simp only [go_sem, reduceIte, Nat.reduceAdd, Nat.reduceEqDiff, Nat.reduceLT, Nat.reduceLeDiff, *, and_self, i0, encG, c1, c2, s1, s2, hws, snap_str, getElem?_len, getElem?_lenAdd, set_len, set_lenAdd, len_mid, ints_len, List.length_map, lt_mid, List.nil_append, List.cons_append, Bool.not_true, Bool.not_false, qp]; first | (refine hK.out _ _ ?_; clear hK K) | (refine iteI (fun h => hK.out _ _ ?_) (fun h => hK.out _ _ ?_) <;> clear hK K)))
      (refine wpC_cond fun A B hA hB => ?_; simp only [go_sem, reduceIte, Nat.reduceAdd, Nat.reduceEqDiff, Nat.reduceLT, Nat.reduceLeDiff, *, and_self, ]; first | (refine hA.out ?_; clear hA hB A B) | (refine hB.out ?_; clear hA hB A B))
      repeat' (first | refine go1 ?_ | refine blockK_else rfl ?_ | (refine wpO_cons fun K hK => ?_; simp only [go_sem, reduceIte, Nat.reduceAdd, Nat.reduceEqDiff, Nat.reduceLT, Nat.reduceLeDiff, *, and_self, ]; first | (refine hK.out _ _ ?_; clear hK K) | (refine iteI (fun h => hK.out _ _ ?_) (fun h => hK.out _ _ ?_) <;> clear hK K)))
      simp only [resultsR, resultsL, resultA, expK_int, expK_bool, expK_str, expK_agg, expK_own, expK_tsl, resK_some, go_sem, reduceIte, Nat.reduceAdd, Nat.reduceEqDiff, Nat.reduceLT, Nat.reduceLeDiff, and_self, ]
      simp [errG, k1, k2, k3, k4]
    refine EvV.walk rfl fn30 rfl nt30 rfl ?_
    simp only [List.length_cons, List.length_nil, List.cons_append, List.nil_append, Nat.reduceAdd, Nat.reduceSub, List.replicate]
    repeat' (first | refine go1 ?_ | refine blockK_else rfl ?_ | (refine wpO_cons fun K hK => ?_; simp only [go_sem, reduceIte, Nat.reduceAdd, Nat.reduceEqDiff, Nat.reduceLT, Nat.reduceLeDiff, *, and_self, i0, encG, c1, c2, s1, s2, hws, snap_str, getElem?_len, getElem?_lenAdd, set_len, set_lenAdd, len_mid, ints_len, List.length_map, lt_mid, List.nil_append, List.cons_append, Bool.not_true, Bool.not_false]; first | (refine hK.out _ _ ?_; clear hK K) | (refine iteI (fun h => hK.out _ _ ?_) (fun h => hK.out _ _ ?_) <;> clear hK K)))
    (refine wpC_cond fun A B hA hB => ?_; simp only [go_sem, reduceIte, Nat.reduceAdd, Nat.reduceEqDiff, Nat.reduceLT, Nat.reduceLeDiff, *, and_self, ]; first | (refine hA.out ?_; clear hA hB A B) | (refine hB.out ?_; clear hA hB A B))
    repeat' (first | refine go1 ?_ | refine blockK_else rfl ?_ | (refine wpO_cons fun K hK => ?_; simp only [go_sem, reduceIte, Nat.reduceAdd, Nat.reduceEqDiff, Nat.reduceLT, Nat.reduceLeDiff, *, and_self, i0, encG, c1, c2, s1, s2, hws, snap_str, getElem?_len, getElem?_lenAdd, set_len, set_lenAdd, len_mid, ints_len, List.length_map, lt_mid, List.nil_append, List.cons_append, Bool.not_true, Bool.not_false]; first | (refine hK.out _ _ ?_; clear hK K) | (refine iteI (fun h => hK.out _ _ ?_) (fun h => hK.out _ _ ?_) <;> clear hK K)))
    (refine wpC_cond fun A B hA hB => ?_; simp only [go_sem, reduceIte, Nat.reduceAdd, Nat.reduceEqDiff, Nat.reduceLT, Nat.reduceLeDiff, *, and_self, ]; first | (refine hA.out ?_; clear hA hB A B) | (refine hB.out ?_; clear hA hB A B))
    repeat' (first | refine go1 ?_ | refine blockK_else rfl ?_ | (refine wpO_cons fun K hK => ?_; simp only [go_sem, reduceIte, Nat.reduceAdd, Nat.reduceEqDiff, Nat.reduceLT, Nat.reduceLeDiff, *, and_self, i0, encG, c1, c2, s1, s2, hws, snap_str, getElem?_len, getElem?_lenAdd, set_len, set_lenAdd, len_mid, ints_len, List.length_map, lt_mid, List.nil_append, List.cons_append, Bool.not_true, Bool.not_false, qn]; first | (refine hK.out _ _ ?_; clear hK K) | (refine iteI (fun h => hK.out _ _ ?_) (fun h => hK.out _ _ ?_) <;> clear hK K)))
    (refine wpC_cond fun A B hA hB => ?_; simp only [go_sem, reduceIte, Nat.reduceAdd, Nat.reduceEqDiff, Nat.reduceLT, Nat.reduceLeDiff, *, and_self, ]; first | (refine hA.out ?_; clear hA hB A B) | (refine hB.out ?_; clear hA hB A B))
    repeat' (first | refine go1 ?_ | refine blockK_else rfl ?_ | (refine wpO_cons fun K hK => ?_; simp only [go_sem, reduceIte, Nat.reduceAdd, Nat.reduceEqDiff, Nat.reduceLT, Nat.reduceLeDiff, *, and_self, i0, encG, c1, c2, s1, s2, hws, snap_str, getElem?_len, getElem?_lenAdd, set_len, set_lenAdd, len_mid, ints_len, List.length_map, lt_mid, List.nil_append, List.cons_append, Bool.not_true, Bool.not_false, qp]; first | (refine hK.out _ _ ?_; clear hK K) | (refine iteI (fun h => hK.out _ _ ?_) (fun h => hK.out _ _ ?_) <;> clear hK K)))
    (refine wpC_cond fun A B hA hB => ?_; simp only [go_sem, reduceIte, Nat.reduceAdd, Nat.reduceEqDiff, Nat.reduceLT, Nat.reduceLeDiff, *, and_self, ]; first | (refine hA.out ?_; clear hA hB A B) | (refine hB.out ?_; clear hA hB A B))
    repeat' (first | refine go1 ?_ | refine blockK_else rfl ?_ | (refine wpO_cons fun K hK => ?_; simp only [go_sem, reduceIte, Nat.reduceAdd, Nat.reduceEqDiff, Nat.reduceLT, Nat.reduceLeDiff, *, and_self, i0, encG, c1, c2, s1, s2, hws, snap_str, getElem?_len, getElem?_lenAdd, set_len, set_lenAdd, len_mid, ints_len, List.length_map, lt_mid, List.nil_append, List.cons_append, Bool.not_true, Bool.not_false, lenK_sls hx.pv]; first | (refine hK.out _ _ ?_; clear hK K) | (refine iteI (fun h => hK.out _ _ ?_) (fun h => hK.out _ _ ?_) <;> clear hK K)))
    clear qn qp
    refine wpC_each [6, 9, 10, 11, 53, 54, 55, 56, 57, 58, 59, 60, 61, 62, 63, 64] 52 x.people (fun _ post => x.people.all (isP ps) = post.all (isP ps)) ?_ ?_ ?_ ?_
    · rfl
    · rfl
    · intro g G hE
      simp only [garbA_cons, garbA_nil, setL_cons, setL_nil, List.set_cons_zero, List.set_cons_succ]
      have k5 : x.people.all (isP ps) = true := by rw [hE]; rfl
      clear hE
      repeat' (first | refine go1 ?_ | refine blockK_else rfl ?_ | (refine wpO_cons fun K hK => ?_; simp only [go_sem, reduceIte, Nat.reduceAdd, Nat.reduceEqDiff, Nat.reduceLT, Nat.reduceLeDiff, *, and_self, ints_len, List.length_map, Int.lt_irrefl, List.nil_append]; first | (refine hK.out _ _ ?_; clear hK K) | (refine iteI (fun h => hK.out _ _ ?_) (fun h => hK.out _ _ ?_) <;> clear hK K)))
      (refine wpC_cond fun A B hA hB => ?_; simp only [go_sem, reduceIte, Nat.reduceAdd, Nat.reduceEqDiff, Nat.reduceLT, Nat.reduceLeDiff, *, and_self, ints_len, List.length_map, Int.lt_irrefl, List.nil_append]; first | (refine hA.out ?_; clear hA hB A B) | (refine hB.out ?_; clear hA hB A B))
      repeat' (first | refine go1 ?_ | refine blockK_else rfl ?_ | (refine wpO_cons fun K hK => ?_; simp only [go_sem, reduceIte, Nat.reduceAdd, Nat.reduceEqDiff, Nat.reduceLT, Nat.reduceLeDiff, *, and_self, i0, encG, c1, c2, s1, s2, hws, snap_str, getElem?_len, getElem?_lenAdd, set_len, set_lenAdd, len_mid, ints_len, List.length_map, lt_mid, List.nil_append, List.cons_append, Bool.not_true, Bool.not_false, qs]; first | (refine hK.out _ _ ?_; clear hK K) | (refine iteI (fun h => hK.out _ _ ?_) (fun h => hK.out _ _ ?_) <;> clear hK K)))
      by_cases k6 : upB x.subs = true
      · (refine wpC_cond fun A B hA hB => ?_; simp only [go_sem, reduceIte, Nat.reduceAdd, Nat.reduceEqDiff, Nat.reduceLT, Nat.reduceLeDiff, *, and_self, ]; first | (refine hA.out ?_; clear hA hB A B) | (refine hB.out ?_; clear hA hB A B))
        repeat' (first | refine go1 ?_ | refine blockK_else rfl ?_ | (refine wpO_cons fun K hK => ?_; simp only [go_sem, reduceIte, Nat.reduceAdd, Nat.reduceEqDiff, Nat.reduceLT, Nat.reduceLeDiff, *, and_self, ]; first | (refine hK.out _ _ ?_; clear hK K) | (refine iteI (fun h => hK.out _ _ ?_) (fun h => hK.out _ _ ?_) <;> clear hK K)))
        simp only [resultsR, resultsL, resultA, expK_int, expK_bool, expK_str, expK_agg, expK_own, expK_tsl, resK_some, go_sem, reduceIte, Nat.reduceAdd, Nat.reduceEqDiff, Nat.reduceLT, Nat.reduceLeDiff, and_self, ]
        simp only [errG, k1, k2, k3, k4, k5, k6, if_true]
      · have k6 : upB x.subs = false := by simpa using k6
        (refine wpC_cond fun A B hA hB => ?_; simp only [go_sem, reduceIte, Nat.reduceAdd, Nat.reduceEqDiff, Nat.reduceLT, Nat.reduceLeDiff, *, and_self, ]; first | (refine hA.out ?_; clear hA hB A B) | (refine hB.out ?_; clear hA hB A B))
        repeat' (first | refine go1 ?_ | refine blockK_else rfl ?_ | (refine wpO_cons fun K hK => ?_; simp only [go_sem, reduceIte, Nat.reduceAdd, Nat.reduceEqDiff, Nat.reduceLT, Nat.reduceLeDiff, *, and_self, ]; first | (refine hK.out _ _ ?_; clear hK K) | (refine iteI (fun h => hK.out _ _ ?_) (fun h => hK.out _ _ ?_) <;> clear hK K)))
        simp only [resultsR, resultsL, resultA, expK_int, expK_bool, expK_str, expK_agg, expK_own, expK_tsl, resK_some, go_sem, reduceIte, Nat.reduceAdd, Nat.reduceEqDiff, Nat.reduceLT, Nat.reduceLeDiff, and_self, ]
        simp [errG, k1, k2, k3, k4, k5, k6]
    · intro g G pr y po h1 hE
      simp only [garbA_cons, garbA_nil, setL_cons, setL_nil, List.set_cons_zero, List.set_cons_succ]
      have j1 := idx_sls hx.pv (X := CX) ty29 ty3 rfl (by rw [h1]; exact ints_mid pr y po) (k := .i64)
      have lt1 : (pr.length : Int) < (x.people.length : Int) := by rw [h1]; simp; omega
      have w1 := wrap_succ (n := pr.length) (by omega)
      have q := (personE w ps y hw (by omega)).rw
      have hh1 : Hold (x.people = pr ++ y :: po) := ⟨h1⟩
      have hhE : Hold (x.people.all (isP ps) = (y :: po).all (isP ps)) := ⟨hE⟩
      clear h1 hE
      by_cases k5 : isP ps y = true
      · repeat' (first | refine go1 ?_ | refine blockK_else rfl ?_ | (refine wpO_cons fun K hK => ?_; simp only [go_sem, reduceIte, Nat.reduceAdd, Nat.reduceEqDiff, Nat.reduceLT, Nat.reduceLeDiff, *, and_self, i0, encG, c1, c2, s1, s2, hws, snap_str, getElem?_len, getElem?_lenAdd, set_len, set_lenAdd, len_mid, ints_len, List.length_map, lt_mid, List.nil_append, List.cons_append, Bool.not_true, Bool.not_false, ints_len]; first | (refine hK.out _ _ ?_; clear hK K) | (refine iteI (fun h => hK.out _ _ ?_) (fun h => hK.out _ _ ?_) <;> clear hK K)))
        (refine wpC_cond fun A B hA hB => ?_; simp only [go_sem, reduceIte, Nat.reduceAdd, Nat.reduceEqDiff, Nat.reduceLT, Nat.reduceLeDiff, *, and_self, lt1]; first | (refine hA.out ?_; clear hA hB A B) | (refine hB.out ?_; clear hA hB A B))
        repeat' (first | refine go1 ?_ | refine blockK_else rfl ?_ | (refine wpO_cons fun K hK => ?_; simp only [go_sem, reduceIte, Nat.reduceAdd, Nat.reduceEqDiff, Nat.reduceLT, Nat.reduceLeDiff, *, and_self, i0, encG, c1, c2, s1, s2, hws, snap_str, getElem?_len, getElem?_lenAdd, set_len, set_lenAdd, len_mid, ints_len, List.length_map, lt_mid, List.nil_append, List.cons_append, Bool.not_true, Bool.not_false, j1, q, adopt_two, encP]; first | (refine hK.out _ _ ?_; clear hK K) | (refine iteI (fun h => hK.out _ _ ?_) (fun h => hK.out _ _ ?_) <;> clear hK K)))
        (refine wpC_cond fun A B hA hB => ?_; simp only [go_sem, reduceIte, Nat.reduceAdd, Nat.reduceEqDiff, Nat.reduceLT, Nat.reduceLeDiff, *, and_self, ]; first | (refine hA.out ?_; clear hA hB A B) | (refine hB.out ?_; clear hA hB A B))
        repeat' (first | refine go1 ?_ | refine blockK_else rfl ?_ | (refine wpO_cons fun K hK => ?_; simp only [go_sem, reduceIte, Nat.reduceAdd, Nat.reduceEqDiff, Nat.reduceLT, Nat.reduceLeDiff, *, and_self, w1]; first | (refine hK.out _ _ ?_; clear hK K) | (refine iteI (fun h => hK.out _ _ ?_) (fun h => hK.out _ _ ?_) <;> clear hK K)))
        refine each_next hh1.out ?_ ?_ ?_
        · rw [hhE.out, List.all_cons, k5, Bool.true_and]
        · ((try simp only [eraseA_cons, eraseA_nil, setL_cons, setL_nil, List.set_cons_zero, List.set_cons_succ]); all_goals (first | rfl | (simp only [len_snoc, ints_len, List.length_map, ]; done) | (simp only [len_snoc, len_mid, ints_len, List.length_map, List.length_append, List.length_cons, List.length_nil, Nat.zero_add, ]; done) | (simp only [len_mid, len_snoc, ints_len, List.length_map, List.length_append, List.length_cons, List.length_nil, Nat.zero_add, ]; rfl)))
        · first | exact ⟨[], (List.append_nil _).symm⟩ | exact ⟨_, rfl⟩ | (simp only [List.append_assoc, List.cons_append, List.nil_append]; exact ⟨_, rfl⟩)
      · have k5 : isP ps y = false := by simpa using k5
        repeat' (first | refine go1 ?_ | refine blockK_else rfl ?_ | (refine wpO_cons fun K hK => ?_; simp only [go_sem, reduceIte, Nat.reduceAdd, Nat.reduceEqDiff, Nat.reduceLT, Nat.reduceLeDiff, *, and_self, i0, encG, c1, c2, s1, s2, hws, snap_str, getElem?_len, getElem?_lenAdd, set_len, set_lenAdd, len_mid, ints_len, List.length_map, lt_mid, List.nil_append, List.cons_append, Bool.not_true, Bool.not_false, ints_len]; first | (refine hK.out _ _ ?_; clear hK K) | (refine iteI (fun h => hK.out _ _ ?_) (fun h => hK.out _ _ ?_) <;> clear hK K)))
        (refine wpC_cond fun A B hA hB => ?_; simp only [go_sem, reduceIte, Nat.reduceAdd, Nat.reduceEqDiff, Nat.reduceLT, Nat.reduceLeDiff, *, and_self, lt1]; first | (refine hA.out ?_; clear hA hB A B) | (refine hB.out ?_; clear hA hB A B))
        repeat' (first | refine go1 ?_ | refine blockK_else rfl ?_ | (refine wpO_cons fun K hK => ?_; simp only [go_sem, reduceIte, Nat.reduceAdd, Nat.reduceEqDiff, Nat.reduceLT, Nat.reduceLeDiff, *, and_self, i0, encG, c1, c2, s1, s2, hws, snap_str, getElem?_len, getElem?_lenAdd, set_len, set_lenAdd, len_mid, ints_len, List.length_map, lt_mid, List.nil_append, List.cons_append, Bool.not_true, Bool.not_false, j1, q, adopt_two, encP]; first | (refine hK.out _ _ ?_; clear hK K) | (refine iteI (fun h => hK.out _ _ ?_) (fun h => hK.out _ _ ?_) <;> clear hK K)))
        (refine wpC_cond fun A B hA hB => ?_; simp only [go_sem, reduceIte, Nat.reduceAdd, Nat.reduceEqDiff, Nat.reduceLT, Nat.reduceLeDiff, *, and_self, ]; first | (refine hA.out ?_; clear hA hB A B) | (refine hB.out ?_; clear hA hB A B))
        repeat' (first | refine go1 ?_ | refine blockK_else rfl ?_ | (refine wpO_cons fun K hK => ?_; simp only [go_sem, reduceIte, Nat.reduceAdd, Nat.reduceEqDiff, Nat.reduceLT, Nat.reduceLeDiff, *, and_self, w1]; first | (refine hK.out _ _ ?_; clear hK K) | (refine iteI (fun h => hK.out _ _ ?_) (fun h => hK.out _ _ ?_) <;> clear hK K)))
        simp only [resultsR, resultsL, resultA, expK_int, expK_bool, expK_str, expK_agg, expK_own, expK_tsl, resK_some, go_sem, reduceIte, Nat.reduceAdd, Nat.reduceEqDiff, Nat.reduceLT, Nat.reduceLeDiff, and_self, ]
        have e : x.people.all (isP ps) = false := by rw [hhE.out, List.all_cons, k5, Bool.false_and]
        simp [errG, k1, k2, k3, k4, e]

/- Groups: the check of one group, in the reference. -/
open Go.Proofs
attribute [local go_sem] br28 br43 br44 br45 fz81 fz82 fz83 fz84 fz85
set_option maxHeartbeats 4000000

theorem oneR {v w : AV} {gs pre post : List Grp} {x : Grp} {ps : List Psn} (h : GsOK v gs) (hw : SLs 3 (ps.map encP) w) (hps : ps.length ≤ 1000) (hg : gs = pre ++ x :: post) (hn : x.name.size ≤ 1000) : EvV CX 33 [w, v, .int .i64 pre.length] (· = .int .i64 (errG ps pre x)) := by
  have i0 := idx_sls h.sl (X := CX) ty23 ty37 rfl (n := pre.length) (row := encG x) (k := .i64) (map_at encG hg)
  have hx := h.ok x (by rw [hg]; simp)
  have c1 := hx.pv.cell
  have c2 := hx.sv.cell
  have s1 := hx.pv.snap
  have s2 := hx.sv.snap
  have hpl := h.ppl x (by rw [hg]; simp)
  have hsl := h.subs x (by rw [hg]; simp)
  have hws := hw.snap
  have ho := ordG_cases h hg
  clear hg
  have qn := (nameR x.name hn).rw
  have qp := (up1 _ _ hx.pv (by omega)).rw
  have qs := (up1 _ _ hx.sv (by omega)).rw
  have qi := (identR x.id).rw
  clear hn
  rcases idOK_cases x.id with ⟨k1, a1, a2⟩ | ⟨k1, a1⟩ | ⟨k1, a1, a2⟩
  rotate_left
  · clear ho qn qp qs
    refine EvV.walk rfl fn33 rfl nt33 rfl ?_
    simp only [List.length_cons, List.length_nil, List.cons_append, List.nil_append, Nat.reduceAdd, Nat.reduceSub, List.replicate]
    repeat' (first | refine go1 ?_ | refine blockK_else rfl ?_ | (refine wpO_cons fun K hK => ?_; simp only [go_sem, reduceIte, Nat.reduceAdd, Nat.reduceEqDiff, Nat.reduceLT, Nat.reduceLeDiff, *, and_self, i0, encG, c1, c2, s1, s2, hws, snap_str, getElem?_len, getElem?_lenAdd, set_len, set_lenAdd, len_mid, ints_len, List.length_map, lt_mid, List.nil_append, List.cons_append, Bool.not_true, Bool.not_false, qi]; first | (refine hK.out _ _ ?_; clear hK K) | (refine iteI (fun h => hK.out _ _ ?_) (fun h => hK.out _ _ ?_) <;> clear hK K)))
    (refine wpC_cond fun A B hA hB => ?_; simp only [go_sem, reduceIte, Nat.reduceAdd, Nat.reduceEqDiff, Nat.reduceLT, Nat.reduceLeDiff, *, and_self, ]; first | (refine hA.out ?_; clear hA hB A B) | (refine hB.out ?_; clear hA hB A B))
    repeat' (first | refine go1 ?_ | refine blockK_else rfl ?_ | (refine wpO_cons fun K hK => ?_; simp only [go_sem, reduceIte, Nat.reduceAdd, Nat.reduceEqDiff, Nat.reduceLT, Nat.reduceLeDiff, *, and_self, ]; first | (refine hK.out _ _ ?_; clear hK K) | (refine iteI (fun h => hK.out _ _ ?_) (fun h => hK.out _ _ ?_) <;> clear hK K)))
    simp only [resultsR, resultsL, resultA, expK_int, expK_bool, expK_str, expK_agg, expK_own, expK_tsl, resK_some, go_sem, reduceIte, Nat.reduceAdd, Nat.reduceEqDiff, Nat.reduceLT, Nat.reduceLeDiff, and_self, ]
    simp [errG, k1]
  · clear ho qn qp qs
    refine EvV.walk rfl fn33 rfl nt33 rfl ?_
    simp only [List.length_cons, List.length_nil, List.cons_append, List.nil_append, Nat.reduceAdd, Nat.reduceSub, List.replicate]
    repeat' (first | refine go1 ?_ | refine blockK_else rfl ?_ | (refine wpO_cons fun K hK => ?_; simp only [go_sem, reduceIte, Nat.reduceAdd, Nat.reduceEqDiff, Nat.reduceLT, Nat.reduceLeDiff, *, and_self, i0, encG, c1, c2, s1, s2, hws, snap_str, getElem?_len, getElem?_lenAdd, set_len, set_lenAdd, len_mid, ints_len, List.length_map, lt_mid, List.nil_append, List.cons_append, Bool.not_true, Bool.not_false, qi]; first | (refine hK.out _ _ ?_; clear hK K) | (refine iteI (fun h => hK.out _ _ ?_) (fun h => hK.out _ _ ?_) <;> clear hK K)))
    (refine wpC_cond fun A B hA hB => ?_; simp only [go_sem, reduceIte, Nat.reduceAdd, Nat.reduceEqDiff, Nat.reduceLT, Nat.reduceLeDiff, *, and_self, ]; first | (refine hA.out ?_; clear hA hB A B) | (refine hB.out ?_; clear hA hB A B))
    repeat' (first | refine go1 ?_ | refine blockK_else rfl ?_ | (refine wpO_cons fun K hK => ?_; simp only [go_sem, reduceIte, Nat.reduceAdd, Nat.reduceEqDiff, Nat.reduceLT, Nat.reduceLeDiff, *, and_self, ]; first | (refine hK.out _ _ ?_; clear hK K) | (refine iteI (fun h => hK.out _ _ ?_) (fun h => hK.out _ _ ?_) <;> clear hK K)))
    simp only [resultsR, resultsL, resultA, expK_int, expK_bool, expK_str, expK_agg, expK_own, expK_tsl, resK_some, go_sem, reduceIte, Nat.reduceAdd, Nat.reduceEqDiff, Nat.reduceLT, Nat.reduceLeDiff, and_self, ]
    simp [errG, k1]
  rcases ho with ⟨k2, e1⟩ | ⟨k2, e1, e2, e3⟩ | ⟨k2, e1, e2, e3⟩
  rotate_right
  · clear qn qp qs
    refine EvV.walk rfl fn33 rfl nt33 rfl ?_
    simp only [List.length_cons, List.length_nil, List.cons_append, List.nil_append, Nat.reduceAdd, Nat.reduceSub, List.replicate]
    repeat' (first | refine go1 ?_ | refine blockK_else rfl ?_ | (refine wpO_cons fun K hK => ?_; simp only [go_sem, reduceIte, Nat.reduceAdd, Nat.reduceEqDiff, Nat.reduceLT, Nat.reduceLeDiff, *, and_self, i0, encG, c1, c2, s1, s2, hws, snap_str, getElem?_len, getElem?_lenAdd, set_len, set_lenAdd, len_mid, ints_len, List.length_map, lt_mid, List.nil_append, List.cons_append, Bool.not_true, Bool.not_false, qi]; first | (refine hK.out _ _ ?_; clear hK K) | (refine iteI (fun h => hK.out _ _ ?_) (fun h => hK.out _ _ ?_) <;> clear hK K)))
    (refine wpC_cond fun A B hA hB => ?_; simp only [go_sem, reduceIte, Nat.reduceAdd, Nat.reduceEqDiff, Nat.reduceLT, Nat.reduceLeDiff, *, and_self, ]; first | (refine hA.out ?_; clear hA hB A B) | (refine hB.out ?_; clear hA hB A B))
    repeat' (first | refine go1 ?_ | refine blockK_else rfl ?_ | (refine wpO_cons fun K hK => ?_; simp only [go_sem, reduceIte, Nat.reduceAdd, Nat.reduceEqDiff, Nat.reduceLT, Nat.reduceLeDiff, *, and_self, i0, encG, c1, c2, s1, s2, hws, snap_str, getElem?_len, getElem?_lenAdd, set_len, set_lenAdd, len_mid, ints_len, List.length_map, lt_mid, List.nil_append, List.cons_append, Bool.not_true, Bool.not_false]; first | (refine hK.out _ _ ?_; clear hK K) | (refine iteI (fun h => hK.out _ _ ?_) (fun h => hK.out _ _ ?_) <;> clear hK K)))
    (refine wpC_cond fun A B hA hB => ?_; simp only [go_sem, reduceIte, Nat.reduceAdd, Nat.reduceEqDiff, Nat.reduceLT, Nat.reduceLeDiff, *, and_self, ]; first | (refine hA.out ?_; clear hA hB A B) | (refine hB.out ?_; clear hA hB A B))
    repeat' (first | refine go1 ?_ | refine blockK_else rfl ?_ | (refine wpO_cons fun K hK => ?_; simp only [go_sem, reduceIte, Nat.reduceAdd, Nat.reduceEqDiff, Nat.reduceLT, Nat.reduceLeDiff, *, and_self, i0, encG, c1, c2, s1, s2, hws, snap_str, getElem?_len, getElem?_lenAdd, set_len, set_lenAdd, len_mid, ints_len, List.length_map, lt_mid, List.nil_append, List.cons_append, Bool.not_true, Bool.not_false]; first | (refine hK.out _ _ ?_; clear hK K) | (refine iteI (fun h => hK.out _ _ ?_) (fun h => hK.out _ _ ?_) <;> clear hK K)))
    simp only [resultsR, resultsL, resultA, expK_int, expK_bool, expK_str, expK_agg, expK_own, expK_tsl, resK_some, go_sem, reduceIte, Nat.reduceAdd, Nat.reduceEqDiff, Nat.reduceLT, Nat.reduceLeDiff, and_self, ]
    simp [errG, k1, k2]
  all_goals
    by_cases k3 : nameL x.name.data.toList = true
    rotate_left
    · have k3 : nameL x.name.data.toList = false := by simpa using k3
      clear qp qs
      refine EvV.walk rfl fn33 rfl nt33 rfl ?_
      simp only [List.length_cons, List.length_nil, List.cons_append, List.nil_append, Nat.reduceAdd, Nat.reduceSub, List.replicate]
      repeat' (first | refine go1 ?_ | refine blockK_else rfl ?_ | (refine wpO_cons fun K hK => ?_; simp only [go_sem, reduceIte, Nat.reduceAdd, Nat.reduceEqDiff, Nat.reduceLT, Nat.reduceLeDiff, *, and_self, i0, encG, c1, c2, s1, s2, hws, snap_str, getElem?_len, getElem?_lenAdd, set_len, set_lenAdd, len_mid, ints_len, List.length_map, lt_mid, List.nil_append, List.cons_append, Bool.not_true, Bool.not_false, qi]; first | (refine hK.out _ _ ?_; clear hK K) | (refine iteI (fun h => hK.out _ _ ?_) (fun h => hK.out _ _ ?_) <;> clear hK K)))
      (refine wpC_cond fun A B hA hB => ?_; simp only [go_sem, reduceIte, Nat.reduceAdd, Nat.reduceEqDiff, Nat.reduceLT, Nat.reduceLeDiff, *, and_self, ]; first | (refine hA.out ?_; clear hA hB A B) | (refine hB.out ?_; clear hA hB A B))
      repeat' (first | refine go1 ?_ | refine blockK_else rfl ?_ | (refine wpO_cons fun K hK => ?_; simp only [go_sem, reduceIte, Nat.reduceAdd, Nat.reduceEqDiff, Nat.reduceLT, Nat.reduceLeDiff, *, and_self, i0, encG, c1, c2, s1, s2, hws, snap_str, getElem?_len, getElem?_lenAdd, set_len, set_lenAdd, len_mid, ints_len, List.length_map, lt_mid, List.nil_append, List.cons_append, Bool.not_true, Bool.not_false]; first | (refine hK.out _ _ ?_; clear hK K) | (refine iteI (fun h => hK.out _ _ ?_) (fun h => hK.out _ _ ?_) <;> clear hK K)))
      (refine wpC_cond fun A B hA hB => ?_; simp only [go_sem, reduceIte, Nat.reduceAdd, Nat.reduceEqDiff, Nat.reduceLT, Nat.reduceLeDiff, *, and_self, ]; first | (refine hA.out ?_; clear hA hB A B) | (refine hB.out ?_; clear hA hB A B))
      repeat' (first | refine go1 ?_ | refine blockK_else rfl ?_ | (refine wpO_cons fun K hK => ?_; simp only [go_sem, reduceIte, Nat.reduceAdd, Nat.reduceEqDiff, Nat.reduceLT, Nat.reduceLeDiff, *, and_self, i0, encG, c1, c2, s1, s2, hws, snap_str, getElem?_len, getElem?_lenAdd, set_len, set_lenAdd, len_mid, ints_len, List.length_map, lt_mid, List.nil_append, List.cons_append, Bool.not_true, Bool.not_false, qn]; first | (refine hK.out _ _ ?_; clear hK K) | (refine iteI (fun h => hK.out _ _ ?_) (fun h => hK.out _ _ ?_) <;> clear hK K)))
      (refine wpC_cond fun A B hA hB => ?_; simp only [go_sem, reduceIte, Nat.reduceAdd, Nat.reduceEqDiff, Nat.reduceLT, Nat.reduceLeDiff, *, and_self, ]; first | (refine hA.out ?_; clear hA hB A B) | (refine hB.out ?_; clear hA hB A B))
      repeat' (first | refine go1 ?_ | refine blockK_else rfl ?_ | (refine wpO_cons fun K hK => ?_; simp only [go_sem, reduceIte, Nat.reduceAdd, Nat.reduceEqDiff, Nat.reduceLT, Nat.reduceLeDiff, *, and_self, ]; first | (refine hK.out _ _ ?_; clear hK K) | (refine iteI (fun h => hK.out _ _ ?_) (fun h => hK.out _ _ ?_) <;> clear hK K)))
      simp only [resultsR, resultsL, resultA, expK_int, expK_bool, expK_str, expK_agg, expK_own, expK_tsl, resK_some, go_sem, reduceIte, Nat.reduceAdd, Nat.reduceEqDiff, Nat.reduceLT, Nat.reduceLeDiff, and_self, ]
      simp [errG, k1, k2, k3]
    by_cases k4 : upB x.people = true
    rotate_left
    · have k4 : upB x.people = false := by simpa using k4
      clear qs
      refine EvV.walk rfl fn33 rfl nt33 rfl ?_
      simp only [List.length_cons, List.length_nil, List.cons_append, List.nil_append, Nat.reduceAdd, Nat.reduceSub, List.replicate]
      repeat' (first | refine go1 ?_ | refine blockK_else rfl ?_ | (refine wpO_cons fun K hK => ?_; simp only [go_sem, reduceIte, Nat.reduceAdd, Nat.reduceEqDiff, Nat.reduceLT, Nat.reduceLeDiff, *, and_self, i0, encG, c1, c2, s1, s2, hws, snap_str, getElem?_len, getElem?_lenAdd, set_len, set_lenAdd, len_mid, ints_len, List.length_map, lt_mid, List.nil_append, List.cons_append, Bool.not_true, Bool.not_false, qi]; first | (refine hK.out _ _ ?_; clear hK K) | (refine iteI (fun h => hK.out _ _ ?_) (fun h => hK.out _ _ ?_) <;> clear hK K)))
      (refine wpC_cond fun A B hA hB => ?_; simp only [go_sem, reduceIte, Nat.reduceAdd, Nat.reduceEqDiff, Nat.reduceLT, Nat.reduceLeDiff, *, and_self, ]; first | (refine hA.out ?_; clear hA hB A B) | (refine hB.out ?_; clear hA hB A B))
      repeat' (first | refine go1 ?_ | refine blockK_else rfl ?_ | (refine wpO_cons fun K hK => ?_; simp only [go_sem, reduceIte, Nat.reduceAdd, Nat.reduceEqDiff, Nat.reduceLT, Nat.reduceLeDiff, *, and_self, i0, encG, c1, c2, s1, s2, hws, snap_str, getElem?_len, getElem?_lenAdd, set_len, set_lenAdd, len_mid, ints_len, List.length_map, lt_mid, List.nil_append, List.cons_append, Bool.not_true, Bool.not_false]; first | (refine hK.out _ _ ?_; clear hK K) | (refine iteI (fun h => hK.out _ _ ?_) (fun h => hK.out _ _ ?_) <;> clear hK K)))
      (refine wpC_cond fun A B hA hB => ?_; simp only [go_sem, reduceIte, Nat.reduceAdd, Nat.reduceEqDiff, Nat.reduceLT, Nat.reduceLeDiff, *, and_self, ]; first | (refine hA.out ?_; clear hA hB A B) | (refine hB.out ?_; clear hA hB A B))
      repeat' (first | refine go1 ?_ | refine blockK_else rfl ?_ | (refine wpO_cons fun K hK => ?_; simp only [go_sem, reduceIte, Nat.reduceAdd, Nat.reduceEqDiff, Nat.reduceLT, Nat.reduceLeDiff, *, and_self, i0, encG, c1, c2, s1, s2, hws, snap_str, getElem?_len, getElem?_lenAdd, set_len, set_lenAdd, len_mid, ints_len, List.length_map, lt_mid, List.nil_append, List.cons_append, Bool.not_true, Bool.not_false, qn]; first | (refine hK.out _ _ ?_; clear hK K) | (refine iteI (fun h => hK.out _ _ ?_) (fun h => hK.out _ _ ?_) <;> clear hK K)))
      (refine wpC_cond fun A B hA hB => ?_; simp only [go_sem, reduceIte, Nat.reduceAdd, Nat.reduceEqDiff, Nat.reduceLT, Nat.reduceLeDiff, *, and_self, ]; first | (refine hA.out ?_; clear hA hB A B) | (refine hB.out ?_; clear hA hB A B))
      repeat' (first | refine go1 ?_ | refine blockK_else rfl ?_ | (refine wpO_cons fun K hK => ?_; simp only [go_sem, reduceIte, Nat.reduceAdd, Nat.reduceEqDiff, Nat.reduceLT, Nat.reduceLeDiff, *, and_self, i0, encG, c1, c2, s1, s2, hws, snap_str, getElem?_len, getElem?_lenAdd, set_len, set_lenAdd, len_mid, ints_len, List.length_map, lt_mid, List.nil_append, List.cons_append, Bool.not_true, Bool.not_false, qp]; first | (refine hK.out _ _ ?_; clear hK K) | (refine iteI (fun h => hK.out _ _ ?_) (fun h => hK.out _ _ ?_) <;> clear hK K)))
      (refine wpC_cond fun A B hA hB => ?_; simp only [go_sem, reduceIte, Nat.reduceAdd, Nat.reduceEqDiff, Nat.reduceLT, Nat.reduceLeDiff, *, and_self, ]; first | (refine hA.out ?_; clear hA hB A B) | (refine hB.out ?_; clear hA hB A B))
      repeat' (first | refine go1 ?_ | refine blockK_else rfl ?_ | (refine wpO_cons fun K hK => ?_; simp only [go_sem, reduceIte, Nat.reduceAdd, Nat.reduceEqDiff, Nat.reduceLT, Nat.reduceLeDiff, *, and_self, ]; first | (refine hK.out _ _ ?_; clear hK K) | (refine iteI (fun h => hK.out _ _ ?_) (fun h => hK.out _ _ ?_) <;> clear hK K)))
      simp only [resultsR, resultsL, resultA, expK_int, expK_bool, expK_str, expK_agg, expK_own, expK_tsl, resK_some, go_sem, reduceIte, Nat.reduceAdd, Nat.reduceEqDiff, Nat.reduceLT, Nat.reduceLeDiff, and_self, ]
      simp [errG, k1, k2, k3, k4]
    refine EvV.walk rfl fn33 rfl nt33 rfl ?_
    simp only [List.length_cons, List.length_nil, List.cons_append, List.nil_append, Nat.reduceAdd, Nat.reduceSub, List.replicate]
    repeat' (first | refine go1 ?_ | refine blockK_else rfl ?_ | (refine wpO_cons fun K hK => ?_; simp only [go_sem, reduceIte, Nat.reduceAdd, Nat.reduceEqDiff, Nat.reduceLT, Nat.reduceLeDiff, *, and_self, i0, encG, c1, c2, s1, s2, hws, snap_str, getElem?_len, getElem?_lenAdd, set_len, set_lenAdd, len_mid, ints_len, List.length_map, lt_mid, List.nil_append, List.cons_append, Bool.not_true, Bool.not_false, qi]; first | (refine hK.out _ _ ?_; clear hK K) | (refine iteI (fun h => hK.out _ _ ?_) (fun h => hK.out _ _ ?_) <;> clear hK K)))
    (refine wpC_cond fun A B hA hB => ?_; simp only [go_sem, reduceIte, Nat.reduceAdd, Nat.reduceEqDiff, Nat.reduceLT, Nat.reduceLeDiff, *, and_self, ]; first | (refine hA.out ?_; clear hA hB A B) | (refine hB.out ?_; clear hA hB A B))
    repeat' (first | refine go1 ?_ | refine blockK_else rfl ?_ | (refine wpO_cons fun K hK => ?_; simp only [go_sem, reduceIte, Nat.reduceAdd, Nat.reduceEqDiff, Nat.reduceLT, Nat.reduceLeDiff, *, and_self, i0, encG, c1, c2, s1, s2, hws, snap_str, getElem?_len, getElem?_lenAdd, set_len, set_lenAdd, len_mid, ints_len, List.length_map, lt_mid, List.nil_append, List.cons_append, Bool.not_true, Bool.not_false]; first | (refine hK.out _ _ ?_; clear hK K) | (refine iteI (fun h => hK.out _ _ ?_) (fun h => hK.out _ _ ?_) <;> clear hK K)))
    (refine wpC_cond fun A B hA hB => ?_; simp only [go_sem, reduceIte, Nat.reduceAdd, Nat.reduceEqDiff, Nat.reduceLT, Nat.reduceLeDiff, *, and_self, ]; first | (refine hA.out ?_; clear hA hB A B) | (refine hB.out ?_; clear hA hB A B))
    repeat' (first | refine go1 ?_ | refine blockK_else rfl ?_ | (refine wpO_cons fun K hK => ?_; simp only [go_sem, reduceIte, Nat.reduceAdd, Nat.reduceEqDiff, Nat.reduceLT, Nat.reduceLeDiff, *, and_self, i0, encG, c1, c2, s1, s2, hws, snap_str, getElem?_len, getElem?_lenAdd, set_len, set_lenAdd, len_mid, ints_len, List.length_map, lt_mid, List.nil_append, List.cons_append, Bool.not_true, Bool.not_false, qn]; first | (refine hK.out _ _ ?_; clear hK K) | (refine iteI (fun h => hK.out _ _ ?_) (fun h => hK.out _ _ ?_) <;> clear hK K)))
    (refine wpC_cond fun A B hA hB => ?_; simp only [go_sem, reduceIte, Nat.reduceAdd, Nat.reduceEqDiff, Nat.reduceLT, Nat.reduceLeDiff, *, and_self, ]; first | (refine hA.out ?_; clear hA hB A B) | (refine hB.out ?_; clear hA hB A B))
    repeat' (first | refine go1 ?_ | refine blockK_else rfl ?_ | (refine wpO_cons fun K hK => ?_; simp only [go_sem, reduceIte, Nat.reduceAdd, Nat.reduceEqDiff, Nat.reduceLT, Nat.reduceLeDiff, *, and_self, i0, encG, c1, c2, s1, s2, hws, snap_str, getElem?_len, getElem?_lenAdd, set_len, set_lenAdd, len_mid, ints_len, List.length_map, lt_mid, List.nil_append, List.cons_append, Bool.not_true, Bool.not_false, qp]; first | (refine hK.out _ _ ?_; clear hK K) | (refine iteI (fun h => hK.out _ _ ?_) (fun h => hK.out _ _ ?_) <;> clear hK K)))
    (refine wpC_cond fun A B hA hB => ?_; simp only [go_sem, reduceIte, Nat.reduceAdd, Nat.reduceEqDiff, Nat.reduceLT, Nat.reduceLeDiff, *, and_self, ]; first | (refine hA.out ?_; clear hA hB A B) | (refine hB.out ?_; clear hA hB A B))
    repeat' (first | refine go1 ?_ | refine blockK_else rfl ?_ | (refine wpO_cons fun K hK => ?_; simp only [go_sem, reduceIte, Nat.reduceAdd, Nat.reduceEqDiff, Nat.reduceLT, Nat.reduceLeDiff, *, and_self, i0, encG, c1, c2, s1, s2, hws, snap_str, getElem?_len, getElem?_lenAdd, set_len, set_lenAdd, len_mid, ints_len, List.length_map, lt_mid, List.nil_append, List.cons_append, Bool.not_true, Bool.not_false, lenK_sls hx.pv]; first | (refine hK.out _ _ ?_; clear hK K) | (refine iteI (fun h => hK.out _ _ ?_) (fun h => hK.out _ _ ?_) <;> clear hK K)))
    clear qn qp qi
    refine wpC_each [6, 8, 9, 10, 44, 45, 46, 47, 48, 49, 50, 51, 52, 53, 54, 55, 56, 57, 58] 43 x.people (fun _ post => x.people.all (isP ps) = post.all (isP ps)) ?_ ?_ ?_ ?_
    · rfl
    · rfl
    · intro g G hE
      simp only [garbA_cons, garbA_nil, setL_cons, setL_nil, List.set_cons_zero, List.set_cons_succ]
      have k5 : x.people.all (isP ps) = true := by rw [hE]; rfl
      clear hE
      repeat' (first | refine go1 ?_ | refine blockK_else rfl ?_ | (refine wpO_cons fun K hK => ?_; simp only [go_sem, reduceIte, Nat.reduceAdd, Nat.reduceEqDiff, Nat.reduceLT, Nat.reduceLeDiff, *, and_self, ints_len, List.length_map, Int.lt_irrefl, List.nil_append]; first | (refine hK.out _ _ ?_; clear hK K) | (refine iteI (fun h => hK.out _ _ ?_) (fun h => hK.out _ _ ?_) <;> clear hK K)))
      (refine wpC_cond fun A B hA hB => ?_; simp only [go_sem, reduceIte, Nat.reduceAdd, Nat.reduceEqDiff, Nat.reduceLT, Nat.reduceLeDiff, *, and_self, ints_len, List.length_map, Int.lt_irrefl, List.nil_append]; first | (refine hA.out ?_; clear hA hB A B) | (refine hB.out ?_; clear hA hB A B))
      repeat' (first | refine go1 ?_ | refine blockK_else rfl ?_ | (refine wpO_cons fun K hK => ?_; simp only [go_sem, reduceIte, Nat.reduceAdd, Nat.reduceEqDiff, Nat.reduceLT, Nat.reduceLeDiff, *, and_self, i0, encG, c1, c2, s1, s2, hws, snap_str, getElem?_len, getElem?_lenAdd, set_len, set_lenAdd, len_mid, ints_len, List.length_map, lt_mid, List.nil_append, List.cons_append, Bool.not_true, Bool.not_false, qs]; first | (refine hK.out _ _ ?_; clear hK K) | (refine iteI (fun h => hK.out _ _ ?_) (fun h => hK.out _ _ ?_) <;> clear hK K)))
      by_cases k6 : upB x.subs = true
      · (refine wpC_cond fun A B hA hB => ?_; simp only [go_sem, reduceIte, Nat.reduceAdd, Nat.reduceEqDiff, Nat.reduceLT, Nat.reduceLeDiff, *, and_self, ]; first | (refine hA.out ?_; clear hA hB A B) | (refine hB.out ?_; clear hA hB A B))
        repeat' (first | refine go1 ?_ | refine blockK_else rfl ?_ | (refine wpO_cons fun K hK => ?_; simp only [go_sem, reduceIte, Nat.reduceAdd, Nat.reduceEqDiff, Nat.reduceLT, Nat.reduceLeDiff, *, and_self, ]; first | (refine hK.out _ _ ?_; clear hK K) | (refine iteI (fun h => hK.out _ _ ?_) (fun h => hK.out _ _ ?_) <;> clear hK K)))
        simp only [resultsR, resultsL, resultA, expK_int, expK_bool, expK_str, expK_agg, expK_own, expK_tsl, resK_some, go_sem, reduceIte, Nat.reduceAdd, Nat.reduceEqDiff, Nat.reduceLT, Nat.reduceLeDiff, and_self, ]
        simp only [errG, k1, k2, k3, k4, k5, k6, if_true]
      · have k6 : upB x.subs = false := by simpa using k6
        (refine wpC_cond fun A B hA hB => ?_; simp only [go_sem, reduceIte, Nat.reduceAdd, Nat.reduceEqDiff, Nat.reduceLT, Nat.reduceLeDiff, *, and_self, ]; first | (refine hA.out ?_; clear hA hB A B) | (refine hB.out ?_; clear hA hB A B))
        repeat' (first | refine go1 ?_ | refine blockK_else rfl ?_ | (refine wpO_cons fun K hK => ?_; simp only [go_sem, reduceIte, Nat.reduceAdd, Nat.reduceEqDiff, Nat.reduceLT, Nat.reduceLeDiff, *, and_self, ]; first | (refine hK.out _ _ ?_; clear hK K) | (refine iteI (fun h => hK.out _ _ ?_) (fun h => hK.out _ _ ?_) <;> clear hK K)))
        simp only [resultsR, resultsL, resultA, expK_int, expK_bool, expK_str, expK_agg, expK_own, expK_tsl, resK_some, go_sem, reduceIte, Nat.reduceAdd, Nat.reduceEqDiff, Nat.reduceLT, Nat.reduceLeDiff, and_self, ]
        simp [errG, k1, k2, k3, k4, k5, k6]
    · intro g G pr y po h1 hE
      simp only [garbA_cons, garbA_nil, setL_cons, setL_nil, List.set_cons_zero, List.set_cons_succ]
      have j1 := idx_sls hx.pv (X := CX) ty29 ty3 rfl (by rw [h1]; exact ints_mid pr y po) (k := .i64)
      have lt1 : (pr.length : Int) < (x.people.length : Int) := by rw [h1]; simp; omega
      have w1 := wrap_succ (n := pr.length) (by omega)
      have q := (personR w ps y hw (by omega)).rw
      have hh1 : Hold (x.people = pr ++ y :: po) := ⟨h1⟩
      have hhE : Hold (x.people.all (isP ps) = (y :: po).all (isP ps)) := ⟨hE⟩
      clear h1 hE
      by_cases k5 : isP ps y = true
      · repeat' (first | refine go1 ?_ | refine blockK_else rfl ?_ | (refine wpO_cons fun K hK => ?_; simp only [go_sem, reduceIte, Nat.reduceAdd, Nat.reduceEqDiff, Nat.reduceLT, Nat.reduceLeDiff, *, and_self, i0, encG, c1, c2, s1, s2, hws, snap_str, getElem?_len, getElem?_lenAdd, set_len, set_lenAdd, len_mid, ints_len, List.length_map, lt_mid, List.nil_append, List.cons_append, Bool.not_true, Bool.not_false, ints_len]; first | (refine hK.out _ _ ?_; clear hK K) | (refine iteI (fun h => hK.out _ _ ?_) (fun h => hK.out _ _ ?_) <;> clear hK K)))
        (refine wpC_cond fun A B hA hB => ?_; simp only [go_sem, reduceIte, Nat.reduceAdd, Nat.reduceEqDiff, Nat.reduceLT, Nat.reduceLeDiff, *, and_self, lt1]; first | (refine hA.out ?_; clear hA hB A B) | (refine hB.out ?_; clear hA hB A B))
        repeat' (first | refine go1 ?_ | refine blockK_else rfl ?_ | (refine wpO_cons fun K hK => ?_; simp only [go_sem, reduceIte, Nat.reduceAdd, Nat.reduceEqDiff, Nat.reduceLT, Nat.reduceLeDiff, *, and_self, i0, encG, c1, c2, s1, s2, hws, snap_str, getElem?_len, getElem?_lenAdd, set_len, set_lenAdd, len_mid, ints_len, List.length_map, lt_mid, List.nil_append, List.cons_append, Bool.not_true, Bool.not_false, j1, q, adopt_two, encP]; first | (refine hK.out _ _ ?_; clear hK K) | (refine iteI (fun h => hK.out _ _ ?_) (fun h => hK.out _ _ ?_) <;> clear hK K)))
        (refine wpC_cond fun A B hA hB => ?_; simp only [go_sem, reduceIte, Nat.reduceAdd, Nat.reduceEqDiff, Nat.reduceLT, Nat.reduceLeDiff, *, and_self, ]; first | (refine hA.out ?_; clear hA hB A B) | (refine hB.out ?_; clear hA hB A B))
        repeat' (first | refine go1 ?_ | refine blockK_else rfl ?_ | (refine wpO_cons fun K hK => ?_; simp only [go_sem, reduceIte, Nat.reduceAdd, Nat.reduceEqDiff, Nat.reduceLT, Nat.reduceLeDiff, *, and_self, w1]; first | (refine hK.out _ _ ?_; clear hK K) | (refine iteI (fun h => hK.out _ _ ?_) (fun h => hK.out _ _ ?_) <;> clear hK K)))
        refine each_next hh1.out ?_ ?_ ?_
        · rw [hhE.out, List.all_cons, k5, Bool.true_and]
        · ((try simp only [eraseA_cons, eraseA_nil, setL_cons, setL_nil, List.set_cons_zero, List.set_cons_succ]); all_goals (first | rfl | (simp only [len_snoc, ints_len, List.length_map, ]; done) | (simp only [len_snoc, len_mid, ints_len, List.length_map, List.length_append, List.length_cons, List.length_nil, Nat.zero_add, ]; done) | (simp only [len_mid, len_snoc, ints_len, List.length_map, List.length_append, List.length_cons, List.length_nil, Nat.zero_add, ]; rfl)))
        · first | exact ⟨[], (List.append_nil _).symm⟩ | exact ⟨_, rfl⟩ | (simp only [List.append_assoc, List.cons_append, List.nil_append]; exact ⟨_, rfl⟩)
      · have k5 : isP ps y = false := by simpa using k5
        repeat' (first | refine go1 ?_ | refine blockK_else rfl ?_ | (refine wpO_cons fun K hK => ?_; simp only [go_sem, reduceIte, Nat.reduceAdd, Nat.reduceEqDiff, Nat.reduceLT, Nat.reduceLeDiff, *, and_self, i0, encG, c1, c2, s1, s2, hws, snap_str, getElem?_len, getElem?_lenAdd, set_len, set_lenAdd, len_mid, ints_len, List.length_map, lt_mid, List.nil_append, List.cons_append, Bool.not_true, Bool.not_false, ints_len]; first | (refine hK.out _ _ ?_; clear hK K) | (refine iteI (fun h => hK.out _ _ ?_) (fun h => hK.out _ _ ?_) <;> clear hK K)))
        (refine wpC_cond fun A B hA hB => ?_; simp only [go_sem, reduceIte, Nat.reduceAdd, Nat.reduceEqDiff, Nat.reduceLT, Nat.reduceLeDiff, *, and_self, lt1]; first | (refine hA.out ?_; clear hA hB A B) | (refine hB.out ?_; clear hA hB A B))
        repeat' (first | refine go1 ?_ | refine blockK_else rfl ?_ | (refine wpO_cons fun K hK => ?_; simp only [go_sem, reduceIte, Nat.reduceAdd, Nat.reduceEqDiff, Nat.reduceLT, Nat.reduceLeDiff, *, and_self, i0, encG, c1, c2, s1, s2, hws, snap_str, getElem?_len, getElem?_lenAdd, set_len, set_lenAdd, len_mid, ints_len, List.length_map, lt_mid, List.nil_append, List.cons_append, Bool.not_true, Bool.not_false, j1, q, adopt_two, encP]; first | (refine hK.out _ _ ?_; clear hK K) | (refine iteI (fun h => hK.out _ _ ?_) (fun h => hK.out _ _ ?_) <;> clear hK K)))
        (refine wpC_cond fun A B hA hB => ?_; simp only [go_sem, reduceIte, Nat.reduceAdd, Nat.reduceEqDiff, Nat.reduceLT, Nat.reduceLeDiff, *, and_self, ]; first | (refine hA.out ?_; clear hA hB A B) | (refine hB.out ?_; clear hA hB A B))
        repeat' (first | refine go1 ?_ | refine blockK_else rfl ?_ | (refine wpO_cons fun K hK => ?_; simp only [go_sem, reduceIte, Nat.reduceAdd, Nat.reduceEqDiff, Nat.reduceLT, Nat.reduceLeDiff, *, and_self, w1]; first | (refine hK.out _ _ ?_; clear hK K) | (refine iteI (fun h => hK.out _ _ ?_) (fun h => hK.out _ _ ?_) <;> clear hK K)))
        simp only [resultsR, resultsL, resultA, expK_int, expK_bool, expK_str, expK_agg, expK_own, expK_tsl, resK_some, go_sem, reduceIte, Nat.reduceAdd, Nat.reduceEqDiff, Nat.reduceLT, Nat.reduceLeDiff, and_self, ]
        have e : x.people.all (isP ps) = false := by rw [hhE.out, List.all_cons, k5, Bool.false_and]
        simp [errG, k1, k2, k3, k4, e]
end Go.Eng
