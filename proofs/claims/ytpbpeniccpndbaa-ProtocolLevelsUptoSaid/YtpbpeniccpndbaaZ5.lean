/- Part 5 of the texts behind this claim. -/
import Derived.Test.YtpbpeniccpndbaaZ4
import Derived.Test.YtpbpeniccpndbaaCtxS
import Derived.Test.YtpbpeniccpndbaaEngV
import Derived.Test.YtpbpeniccpndbaaEngR

/- The reference's small functions over lists of numbers: Has, Same. -/
namespace Go.Eng
open Go.Proofs
set_option linter.unusedSimpArgs false
set_option linter.unusedVariables false
attribute [local irreducible] wpC wpO wp1 EvV EvR wpL
attribute [local go_sem] ty3 ty4 ty23 beq_iff_eq beq_eq_false_iff_ne Int.natCast_inj Bool.not_eq_false' op1_go wpK_box wpK_alloc wpK_load wpK_store wpK_binOp wpK_unOp wpK_fieldAddr wpK_field wpK_build wpK_indexAddr wpK_slice wpK_len wpK_extract wpK_nilCheck wpK_pick wpK_makeFunc wpK_call wpK_callT wpK_max wpK_min wpK_assignT wpK_moveT wpK_assignB wpK_moveB wpK_assignI wpK_moveI wpK_assignA wpK_moveA callK_fn snapL_nil snapL_cons snap_int snap_bool snap_str snap_tsl snap_agg snap_fn snap_flat adopt_int adopt_bool adopt_str adopt_agg adopt_osl adopt_tsl adopt_tup op1_guard grdK_bool grdK_undef condK_bool someK_some pairK_some nilK_ptr nilK_tptr boxK storeK evalA_tmp evalA_int evalA_bool evalA_agg evalA_fn evalA_nil ofC_int ofC_bool getA_zero getA_succ cells_int cells_agg cells_bool cells_sl cells_tsl cell_int cell_bool cell_str cell_sl cell_esl cell_tsl cell_ptr cell_tptr cell_fn cell_nils cell_nilf List.all_cons List.all_nil Bool.and_true Bool.and_self Bool.true_and putA_some putA_none List.set_cons_zero List.set_cons_succ List.length_cons List.length_nil List.nil_append List.cons_append stabL AV.stab fieldAddrA fieldA List.getElem?_cons_zero List.getElem?_cons_succ Nat.zero_add loadA rowOf Nat.le_refl and_self true_and and_true partA binA unA intBin eqBin eqCells eqCell Option.bind_some decide_true decide_false decide_eq_true_eq ite_not Bool.not_eq_true' decide_eq_false_iff_not Bool.false_eq_true Option.map_some Option.map_none Bool.not_true Bool.not_false buildA fillA patch List.take List.drop List.map_cons List.map_nil extK List.getD_cons_zero List.getD_cons_succ minmaxA minmaxGo adoptZ_false adoptZ_true freeze_int freeze_bool freeze_str freeze_flat freeze_agg freeze_osl freeze_tsl freeze_tup frz1_bool frz1_int frz1_str frz1_agg frz1_osl frz1_tsl bne Bool.false_and Bool.and_false ne_eq not_true_eq_false not_false_eq_true List.append_nil

theorem has1 (v : AV) (l : List Int) (n : Int) (hv : SLs 1 (ints l) v) (hl : l.length < 9223372036854775807) : EvV CX 42 [v, .int .i64 n] (· = .bool (l.contains n)) := by
  refine EvV.walk rfl fn42 rfl nt42 rfl ?_
  simp only [List.length_cons, List.length_nil, List.cons_append, List.nil_append, Nat.reduceAdd, Nat.reduceSub, List.replicate]
  repeat' (first | refine go1 ?_ | refine blockK_else rfl ?_ | (refine wpC_cond fun A B hA hB => ?_; simp only [go_sem, reduceIte, Nat.reduceAdd, Nat.reduceEqDiff, Nat.reduceLT, Nat.reduceLeDiff, *, and_self, lenK_sls hv]; first | (refine hA.out ?_; clear hA hB A B) | (refine hB.out ?_; clear hA hB A B) | (refine iteI (fun h => hA.out ?_) (fun h => hB.out ?_) <;> clear hA hB A B) | (refine iteI (fun h => hB.out ?_) (fun h => hA.out ?_) <;> clear hA hB A B)) | (refine wpO_cons fun K hK => ?_; simp only [go_sem, reduceIte, Nat.reduceAdd, Nat.reduceEqDiff, Nat.reduceLT, Nat.reduceLeDiff, *, and_self, lenK_sls hv]; first | (refine hK.out _ _ ?_; clear hK K) | (refine iteI (fun h => hK.out _ _ ?_) (fun h => hK.out _ _ ?_) <;> clear hK K)))
  refine wpC_each [4, 5, 9, 10, 11, 12, 13, 14, 15, 16, 17] 8 l (fun _ post => l.contains n = post.contains n) ?_ ?_ ?_ ?_
  · rfl
  · rfl
  · intro g G h2
    rw [h2]; simp only [garbA_cons, garbA_nil, setL_cons, setL_nil, List.set_cons_zero, List.set_cons_succ]
    repeat' (first | refine go1 ?_ | refine blockK_else rfl ?_ | (refine wpC_cond fun A B hA hB => ?_; simp only [go_sem, reduceIte, Nat.reduceAdd, Nat.reduceEqDiff, Nat.reduceLT, Nat.reduceLeDiff, *, and_self, ints_len, List.length_map, Int.lt_irrefl, List.nil_append]; first | (refine hA.out ?_; clear hA hB A B) | (refine hB.out ?_; clear hA hB A B) | (refine iteI (fun h => hA.out ?_) (fun h => hB.out ?_) <;> clear hA hB A B) | (refine iteI (fun h => hB.out ?_) (fun h => hA.out ?_) <;> clear hA hB A B)) | (refine wpO_cons fun K hK => ?_; simp only [go_sem, reduceIte, Nat.reduceAdd, Nat.reduceEqDiff, Nat.reduceLT, Nat.reduceLeDiff, *, and_self, ints_len, List.length_map, Int.lt_irrefl, List.nil_append]; first | (refine hK.out _ _ ?_; clear hK K) | (refine iteI (fun h => hK.out _ _ ?_) (fun h => hK.out _ _ ?_) <;> clear hK K)))
    simp only [resultsR, resultsL, resultA, expK_int, expK_bool, expK_str, expK_agg, expK_own, expK_tsl, resK_some, go_sem, reduceIte, Nat.reduceAdd, Nat.reduceEqDiff, Nat.reduceLT, Nat.reduceLeDiff, and_self, List.contains_nil]
  · intro g G pre x post h1 h2
    rw [h2]; subst h1; simp only [garbA_cons, garbA_nil, setL_cons, setL_nil, List.set_cons_zero, List.set_cons_succ]
    have i1 := idx_sls hv (X := CX) ty23 ty3 rfl (ints_mid pre x post) (k := .i64)
    have w1 := wrap_succ (n := pre.length) (by simp at hl; omega)
    repeat' (first | refine go1 ?_ | refine blockK_else rfl ?_ | (refine wpC_cond fun A B hA hB => ?_; simp only [go_sem, reduceIte, Nat.reduceAdd, Nat.reduceEqDiff, Nat.reduceLT, Nat.reduceLeDiff, *, and_self, getElem?_len, getElem?_lenAdd, set_len, set_lenAdd, len_mid, ints_len, List.length_map, lt_mid, List.nil_append, i1, w1, beq_iff_eq]; first | (refine hA.out ?_; clear hA hB A B) | (refine hB.out ?_; clear hA hB A B) | (refine iteI (fun h => hA.out ?_) (fun h => hB.out ?_) <;> clear hA hB A B) | (refine iteI (fun h => hB.out ?_) (fun h => hA.out ?_) <;> clear hA hB A B)) | (refine wpO_cons fun K hK => ?_; simp only [go_sem, reduceIte, Nat.reduceAdd, Nat.reduceEqDiff, Nat.reduceLT, Nat.reduceLeDiff, *, and_self, getElem?_len, getElem?_lenAdd, set_len, set_lenAdd, len_mid, ints_len, List.length_map, lt_mid, List.nil_append, i1, w1, beq_iff_eq]; first | (refine hK.out _ _ ?_; clear hK K) | (refine iteI (fun h => hK.out _ _ ?_) (fun h => hK.out _ _ ?_) <;> clear hK K)))
    · simp only [resultsR, resultsL, resultA, expK_int, expK_bool, expK_str, expK_agg, expK_own, expK_tsl, resK_some, go_sem, reduceIte, Nat.reduceAdd, Nat.reduceEqDiff, Nat.reduceLT, Nat.reduceLeDiff, and_self, List.contains_cons]
      simp_all
    · refine each_next rfl ?_ ?_ ?_
      · have : ¬ n = x := fun e => h e.symm
        rw [List.contains_cons]; simp [this]
      · ((try simp only [eraseA_cons, eraseA_nil, setL_cons, setL_nil, List.set_cons_zero, List.set_cons_succ]); all_goals (first | rfl | (simp only [len_snoc, ints_len, List.length_map, ]; done) | (simp only [len_snoc, len_mid, ints_len, List.length_map, List.length_append, List.length_cons, List.length_nil, Nat.zero_add, ]; done) | (simp only [len_mid, len_snoc, ints_len, List.length_map, List.length_append, List.length_cons, List.length_nil, Nat.zero_add, ]; rfl)))
      · first | exact ⟨[], (List.append_nil _).symm⟩ | exact ⟨_, rfl⟩ | (simp only [List.append_assoc, List.cons_append, List.nil_append]; exact ⟨_, rfl⟩)

theorem same1 (v w : AV) (l m : List Int) (hv : SLs 1 (ints l) v) (hw : SLs 1 (ints m) w) (hl : l.length < 9223372036854775807) : EvV CX 35 [v, w] (· = .bool (decide (l = m))) := by
  refine EvV.walk rfl fn35 rfl nt35 rfl ?_
  simp only [List.length_cons, List.length_nil, List.cons_append, List.nil_append, Nat.reduceAdd, Nat.reduceSub, List.replicate]
  repeat' (first | refine go1 ?_ | refine blockK_else rfl ?_ | (refine wpC_cond fun A B hA hB => ?_; simp only [go_sem, reduceIte, Nat.reduceAdd, Nat.reduceEqDiff, Nat.reduceLT, Nat.reduceLeDiff, *, and_self, lenK_sls hv, lenK_sls hw, ints_len]; first | (refine hA.out ?_; clear hA hB A B) | (refine hB.out ?_; clear hA hB A B) | (refine iteI (fun h => hA.out ?_) (fun h => hB.out ?_) <;> clear hA hB A B) | (refine iteI (fun h => hB.out ?_) (fun h => hA.out ?_) <;> clear hA hB A B)) | (refine wpO_cons fun K hK => ?_; simp only [go_sem, reduceIte, Nat.reduceAdd, Nat.reduceEqDiff, Nat.reduceLT, Nat.reduceLeDiff, *, and_self, lenK_sls hv, lenK_sls hw, ints_len]; first | (refine hK.out _ _ ?_; clear hK K) | (refine iteI (fun h => hK.out _ _ ?_) (fun h => hK.out _ _ ?_) <;> clear hK K)))
  · have hlen := h; clear h
    refine wpC_each [4, 5, 14, 15, 16, 17, 18, 19, 20, 21, 22, 23, 24, 25] 13 l (fun pre post => ∃ post', m = pre ++ post') ?_ ?_ ?_ ?_
    · exact ⟨m, rfl⟩
    · rfl
    · intro g G h2
      obtain ⟨post', h2⟩ := h2
      have : post' = [] := by have := congrArg List.length h2; simp at this; exact List.eq_nil_of_length_eq_zero (by omega)
      subst this; simp only [List.append_nil] at h2; subst h2; simp only [garbA_cons, garbA_nil, setL_cons, setL_nil, List.set_cons_zero, List.set_cons_succ]
      repeat' (first | refine go1 ?_ | refine blockK_else rfl ?_ | (refine wpC_cond fun A B hA hB => ?_; simp only [go_sem, reduceIte, Nat.reduceAdd, Nat.reduceEqDiff, Nat.reduceLT, Nat.reduceLeDiff, *, and_self, ints_len, List.length_map, Int.lt_irrefl, List.nil_append]; first | (refine hA.out ?_; clear hA hB A B) | (refine hB.out ?_; clear hA hB A B) | (refine iteI (fun h => hA.out ?_) (fun h => hB.out ?_) <;> clear hA hB A B) | (refine iteI (fun h => hB.out ?_) (fun h => hA.out ?_) <;> clear hA hB A B)) | (refine wpO_cons fun K hK => ?_; simp only [go_sem, reduceIte, Nat.reduceAdd, Nat.reduceEqDiff, Nat.reduceLT, Nat.reduceLeDiff, *, and_self, ints_len, List.length_map, Int.lt_irrefl, List.nil_append]; first | (refine hK.out _ _ ?_; clear hK K) | (refine iteI (fun h => hK.out _ _ ?_) (fun h => hK.out _ _ ?_) <;> clear hK K)))
      simp only [resultsR, resultsL, resultA, expK_int, expK_bool, expK_str, expK_agg, expK_own, expK_tsl, resK_some, go_sem, reduceIte, Nat.reduceAdd, Nat.reduceEqDiff, Nat.reduceLT, Nat.reduceLeDiff, and_self, ]
    · intro g G pre x post h1 h2
      obtain ⟨post', h2⟩ := h2
      cases post' with
      | nil => subst h1 h2; simp at hlen
      | cons y post' =>
        subst h1 h2; simp only [garbA_cons, garbA_nil, setL_cons, setL_nil, List.set_cons_zero, List.set_cons_succ]
        have i1 := idx_sls hv (X := CX) ty23 ty3 rfl (ints_mid pre x post) (k := .i64)
        have i2 := idx_sls hw (X := CX) ty23 ty3 rfl (ints_mid pre y post') (k := .i64)
        have w1 := wrap_succ (n := pre.length) (by simp at hl; omega)
        repeat' (first | refine go1 ?_ | refine blockK_else rfl ?_ | (refine wpC_cond fun A B hA hB => ?_; simp only [go_sem, reduceIte, Nat.reduceAdd, Nat.reduceEqDiff, Nat.reduceLT, Nat.reduceLeDiff, *, and_self, getElem?_len, getElem?_lenAdd, set_len, set_lenAdd, len_mid, ints_len, List.length_map, lt_mid, List.nil_append, i1, i2, w1]; first | (refine hA.out ?_; clear hA hB A B) | (refine hB.out ?_; clear hA hB A B) | (refine iteI (fun h => hA.out ?_) (fun h => hB.out ?_) <;> clear hA hB A B) | (refine iteI (fun h => hB.out ?_) (fun h => hA.out ?_) <;> clear hA hB A B)) | (refine wpO_cons fun K hK => ?_; simp only [go_sem, reduceIte, Nat.reduceAdd, Nat.reduceEqDiff, Nat.reduceLT, Nat.reduceLeDiff, *, and_self, getElem?_len, getElem?_lenAdd, set_len, set_lenAdd, len_mid, ints_len, List.length_map, lt_mid, List.nil_append, i1, i2, w1]; first | (refine hK.out _ _ ?_; clear hK K) | (refine iteI (fun h => hK.out _ _ ?_) (fun h => hK.out _ _ ?_) <;> clear hK K)))
        · subst h
          refine each_next rfl ?_ ?_ ?_
          · exact ⟨post', by simp⟩
          · ((try simp only [eraseA_cons, eraseA_nil, setL_cons, setL_nil, List.set_cons_zero, List.set_cons_succ]); all_goals (first | rfl | (simp only [len_snoc, ints_len, List.length_map, ]; done) | (simp only [len_snoc, len_mid, ints_len, List.length_map, List.length_append, List.length_cons, List.length_nil, Nat.zero_add, ]; done) | (simp only [len_mid, len_snoc, ints_len, List.length_map, List.length_append, List.length_cons, List.length_nil, Nat.zero_add, ]; rfl)))
          · first | exact ⟨[], (List.append_nil _).symm⟩ | exact ⟨_, rfl⟩ | (simp only [List.append_assoc, List.cons_append, List.nil_append]; exact ⟨_, rfl⟩)
        · simp only [resultsR, resultsL, resultA, expK_int, expK_bool, expK_str, expK_agg, expK_own, expK_tsl, resK_some, go_sem, reduceIte, Nat.reduceAdd, Nat.reduceEqDiff, Nat.reduceLT, Nat.reduceLeDiff, and_self, ]
          simp [h]
  · simp only [resultsR, resultsL, resultA, expK_int, expK_bool, expK_str, expK_agg, expK_own, expK_tsl, resK_some, go_sem, reduceIte, Nat.reduceAdd, Nat.reduceEqDiff, Nat.reduceLT, Nat.reduceLeDiff, and_self, ]
    have : l ≠ m := by rintro rfl; simp at h
    simp [this]

/- Sets of numbers: Put, Minus. -/
open Go.Proofs
attribute [local go_sem] List.replicate Nat.one_mul Nat.reduceMul Nat.zero_mul appK bslA fz91 fz92 lenK_esl lenK_nils lenK_sl lenK_tsl nilsK rowsFill rowsOf_esl rowsOf_nils rowsOf_sl rowsOf_tsl br42 br47 fz73 fz74

def put : List Int → Int → List Int
  | [], n => [n]
  | x :: l, n => if x < n then x :: put l n else if x = n then n :: l else n :: x :: l

theorem put_len : ∀ (l : List Int) (n : Int), (put l n).length ≤ l.length + 1
  | [], n => by simp [put]
  | x :: l, n => by
    unfold put
    split
    · simp only [List.length_cons]; have := put_len l n; omega
    · split <;> simp

theorem put1 (st : Bool) (l : List Int) (n : Int) (hl : l.length ≤ 1099511627776) : EvV CX 47 [.tsl st 1 (ints l), .int .i64 n] (· = .osl 1 (ints (put l n))) := by
  have hv : SLs 1 (ints l) (.tsl st 1 (ints l)) := .rows st
  refine EvV.walk rfl fn47 rfl nt47 rfl ?_
  simp only [List.length_cons, List.length_nil, List.cons_append, List.nil_append, Nat.reduceAdd, Nat.reduceSub, List.replicate]
  repeat' (first | refine go1 ?_ | refine blockK_else rfl ?_ | (refine wpC_cond fun A B hA hB => ?_; simp only [go_sem, reduceIte, Nat.reduceAdd, Nat.reduceEqDiff, Nat.reduceLT, Nat.reduceLeDiff, *, wpK_append ty23 rfl, wpK_assignN ty23 rfl, wpK_buildSlice ty23 rfl, ]; first | (refine hA.out ?_; clear hA hB A B) | (refine hB.out ?_; clear hA hB A B) | (refine iteI (fun h => hA.out ?_) (fun h => hB.out ?_) <;> clear hA hB A B) | (refine iteI (fun h => hB.out ?_) (fun h => hA.out ?_) <;> clear hA hB A B)) | (refine wpO_cons fun K hK => ?_; simp only [go_sem, reduceIte, Nat.reduceAdd, Nat.reduceEqDiff, Nat.reduceLT, Nat.reduceLeDiff, *, wpK_append ty23 rfl, wpK_assignN ty23 rfl, wpK_buildSlice ty23 rfl, ]; first | (refine hK.out _ _ ?_; clear hK K) | (refine iteI (fun h => hK.out _ _ ?_) (fun h => hK.out _ _ ?_) <;> clear hK K)))
  refine wpC_loopF [7, 8, 9, 10, 11, 12, 13, 14, 15, 16, 17, 18, 19, 20, 21, 22, 23, 24, 25, 26, 27] (fun a : List Int × List Int => [(5, .sl 1 a.1.length 0 a.1.length 1), (6, .int .i64 a.1.length)]) (fun a G => .arr [] 1 0 true :: .arr (ints a.1) 1 0 true :: G)
    (fun a => l = a.1 ++ a.2 ∧ put l n = a.1 ++ put a.2 n) (fun a => a.2.length) ([], l) ⟨rfl, rfl⟩ ?_ ?_ ?_
  · rfl
  · exact ⟨[], rfl⟩
  rintro ⟨pre, post⟩ g G ⟨h1, h2⟩
  simp only at h1 h2
  rw [h2]; subst h1; simp only [garbA_cons, garbA_nil, setL_cons, setL_nil, List.set_cons_zero, List.set_cons_succ]
  simp only [List.length_append] at hl
  cases post with
  | nil =>
    simp only [List.append_nil] at *
    obtain ⟨b1, b2⟩ := app1 (n := pre.length) (by omega)
    have i3 := slice_from (X := CX) (st := st) (n := pre.length) (k := .i64) ty23 ty3 rfl (rows := ints pre) (rows' := []) (by rw [ints_len]; exact Nat.le_refl _) (by simp [ints])
    simp only [List.length_nil, Nat.add_zero] at hl
    repeat' (first | refine go1 ?_ | refine blockK_else rfl ?_ | (refine wpC_cond fun A B hA hB => ?_; simp only [go_sem, reduceIte, Nat.reduceAdd, Nat.reduceEqDiff, Nat.reduceLT, Nat.reduceLeDiff, *, wpK_append ty23 rfl, wpK_assignN ty23 rfl, wpK_buildSlice ty23 rfl, getElem?_len, getElem?_lenAdd, set_len, set_lenAdd, len_mid, ints_len, List.length_map, lt_mid, List.nil_append, ints_len, List.length_map, Int.lt_irrefl, List.nil_append, i3, b1, b2]; first | (refine hA.out ?_; clear hA hB A B) | (refine hB.out ?_; clear hA hB A B) | (refine iteI (fun h => hA.out ?_) (fun h => hB.out ?_) <;> clear hA hB A B) | (refine iteI (fun h => hB.out ?_) (fun h => hA.out ?_) <;> clear hA hB A B)) | (refine wpO_cons fun K hK => ?_; simp only [go_sem, reduceIte, Nat.reduceAdd, Nat.reduceEqDiff, Nat.reduceLT, Nat.reduceLeDiff, *, wpK_append ty23 rfl, wpK_assignN ty23 rfl, wpK_buildSlice ty23 rfl, getElem?_len, getElem?_lenAdd, set_len, set_lenAdd, len_mid, ints_len, List.length_map, lt_mid, List.nil_append, ints_len, List.length_map, Int.lt_irrefl, List.nil_append, i3, b1, b2]; first | (refine hK.out _ _ ?_; clear hK K) | (refine iteI (fun h => hK.out _ _ ?_) (fun h => hK.out _ _ ?_) <;> clear hK K)))
    · simp only [resultsR, resultsL, resultA, expK_int, expK_bool, expK_str, expK_agg, expK_own, expK_tsl, resK_some, go_sem, reduceIte, Nat.reduceAdd, Nat.reduceEqDiff, Nat.reduceLT, Nat.reduceLeDiff, wpK_append ty23 rfl, wpK_assignN ty23 rfl, wpK_buildSlice ty23 rfl, List.getElem?_cons_succ, ints_len, List.length_append]
      simp [put, ints]
  | cons x post =>
    obtain ⟨b1, b2⟩ := app1 (n := pre.length) (by omega)
    have b3 : (pre.length + 1 + post.length) * 8 ≤ 140737488355328 := by simp only [List.length_cons] at hl; omega
    have b4 : pre.length + 1 + post.length ≤ 140737488355328 := by omega
    have b5 : (pre.length + 1 + (post.length + 1)) * 8 ≤ 140737488355328 := by simp only [List.length_cons] at hl; omega
    have b6 : pre.length + 1 + (post.length + 1) ≤ 140737488355328 := by omega
    have i1 := idx_sls hv (X := CX) ty23 ty3 rfl (ints_mid pre x post) (k := .i64)
    have w1 := wrap_succ (n := pre.length) (by omega)
    have i3 := slice_from (X := CX) (st := st) (n := pre.length) (k := .i64) ty23 ty3 rfl (rows := ints (pre ++ x :: post)) (rows' := ints (x :: post)) (by rw [ints_len]; simp) (by rw [ints_drop]; simp)
    have i4 := slice_from (X := CX) (st := st) (n := pre.length + 1) (k := .i64) ty23 ty3 rfl (rows := ints (pre ++ x :: post)) (rows' := ints post) (by rw [ints_len]; simp) (by rw [ints_drop, ← List.drop_drop]; simp)
    by_cases hx : x = n
    · subst hx
      repeat' (first | refine go1 ?_ | refine blockK_else rfl ?_ | (refine wpC_cond fun A B hA hB => ?_; simp only [go_sem, reduceIte, Nat.reduceAdd, Nat.reduceEqDiff, Nat.reduceLT, Nat.reduceLeDiff, *, wpK_append ty23 rfl, wpK_assignN ty23 rfl, wpK_buildSlice ty23 rfl, getElem?_len, getElem?_lenAdd, set_len, set_lenAdd, len_mid, ints_len, List.length_map, lt_mid, List.nil_append, i1, i3, i4, w1, b1, b2, b3, b4, ints_len, Int.lt_irrefl, beq_self_eq_true]; first | (refine hA.out ?_; clear hA hB A B) | (refine hB.out ?_; clear hA hB A B) | (refine iteI (fun h => hA.out ?_) (fun h => hB.out ?_) <;> clear hA hB A B) | (refine iteI (fun h => hB.out ?_) (fun h => hA.out ?_) <;> clear hA hB A B)) | (refine wpO_cons fun K hK => ?_; simp only [go_sem, reduceIte, Nat.reduceAdd, Nat.reduceEqDiff, Nat.reduceLT, Nat.reduceLeDiff, *, wpK_append ty23 rfl, wpK_assignN ty23 rfl, wpK_buildSlice ty23 rfl, getElem?_len, getElem?_lenAdd, set_len, set_lenAdd, len_mid, ints_len, List.length_map, lt_mid, List.nil_append, i1, i3, i4, w1, b1, b2, b3, b4, ints_len, Int.lt_irrefl, beq_self_eq_true]; first | (refine hK.out _ _ ?_; clear hK K) | (refine iteI (fun h => hK.out _ _ ?_) (fun h => hK.out _ _ ?_) <;> clear hK K)))
      all_goals
        simp only [resultsR, resultsL, resultA, expK_int, expK_bool, expK_str, expK_agg, expK_own, expK_tsl, resK_some, go_sem, reduceIte, Nat.reduceAdd, Nat.reduceEqDiff, Nat.reduceLT, Nat.reduceLeDiff, wpK_append ty23 rfl, wpK_assignN ty23 rfl, wpK_buildSlice ty23 rfl, List.getElem?_cons_succ, ints_len, List.length_append, List.length_cons, *]
        simp [put, ints, List.eq_nil_of_length_eq_zero, *]
    · repeat' (first | refine go1 ?_ | refine blockK_else rfl ?_ | (refine wpC_cond fun A B hA hB => ?_; simp only [go_sem, reduceIte, Nat.reduceAdd, Nat.reduceEqDiff, Nat.reduceLT, Nat.reduceLeDiff, *, wpK_append ty23 rfl, wpK_assignN ty23 rfl, wpK_buildSlice ty23 rfl, getElem?_len, getElem?_lenAdd, set_len, set_lenAdd, len_mid, ints_len, List.length_map, lt_mid, List.nil_append, i1, i3, i4, w1, b1, b2, b5, b6, ints_len]; first | (refine hA.out ?_; clear hA hB A B) | (refine hB.out ?_; clear hA hB A B) | (refine iteI (fun h => hA.out ?_) (fun h => hB.out ?_) <;> clear hA hB A B) | (refine iteI (fun h => hB.out ?_) (fun h => hA.out ?_) <;> clear hA hB A B)) | (refine wpO_cons fun K hK => ?_; simp only [go_sem, reduceIte, Nat.reduceAdd, Nat.reduceEqDiff, Nat.reduceLT, Nat.reduceLeDiff, *, wpK_append ty23 rfl, wpK_assignN ty23 rfl, wpK_buildSlice ty23 rfl, getElem?_len, getElem?_lenAdd, set_len, set_lenAdd, len_mid, ints_len, List.length_map, lt_mid, List.nil_append, i1, i3, i4, w1, b1, b2, b5, b6, ints_len]; first | (refine hK.out _ _ ?_; clear hK K) | (refine iteI (fun h => hK.out _ _ ?_) (fun h => hK.out _ _ ?_) <;> clear hK K)))
      · refine loopF_next (pre ++ [x], post) (Nat.lt_succ_self _) ⟨by simp, by simp [put, h]⟩ ?_ ?_
        · ((try simp only [eraseA_cons, eraseA_nil, setL_cons, setL_nil, List.set_cons_zero, List.set_cons_succ]); all_goals (first | rfl | (simp only [len_snoc, ints_len, List.length_map, ]; done) | (simp only [len_snoc, len_mid, ints_len, List.length_map, List.length_append, List.length_cons, List.length_nil, Nat.zero_add, ]; done) | (simp only [len_mid, len_snoc, ints_len, List.length_map, List.length_append, List.length_cons, List.length_nil, Nat.zero_add, ]; rfl)))
        · exact ⟨_, by simp only [ints_append]; rfl⟩
      all_goals
        simp only [resultsR, resultsL, resultA, expK_int, expK_bool, expK_str, expK_agg, expK_own, expK_tsl, resK_some, go_sem, reduceIte, Nat.reduceAdd, Nat.reduceEqDiff, Nat.reduceLT, Nat.reduceLeDiff, wpK_append ty23 rfl, wpK_assignN ty23 rfl, wpK_buildSlice ty23 rfl, List.getElem?_cons_succ, ints_len, List.length_append, List.length_cons]
        simp [put, ints, *]

def minus (a b : List Int) : List Int := a.foldl (fun out x => if b.contains x then out else put out x) []

theorem minus_snoc (a b : List Int) (x : Int) : minus (a ++ [x]) b = if b.contains x then minus a b else put (minus a b) x := by simp [minus, List.foldl_append]

theorem minus_len (a b : List Int) : (minus a b).length ≤ a.length := by
  have : ∀ (l : List Int) (out : List Int), (l.foldl (fun out x => if b.contains x then out else put out x) out).length ≤ out.length + l.length := by
    intro l
    induction l with
    | nil => intro out; simp
    | cons x l ih =>
      intro out
      simp only [List.foldl_cons, List.length_cons]
      refine Nat.le_trans (ih _) ?_
      split
      · omega
      · have := put_len out x; omega
  simpa [minus] using this a []

theorem minus1 (v w : AV) (a b : List Int) (hv : SLs 1 (ints a) v) (hw : SLs 1 (ints b) w) (ha : a.length ≤ 1099511627776) (hb : b.length ≤ 1099511627776) : EvV CX 34 [v, w] (· = .osl 1 (ints (minus a b))) := by
  refine EvV.walk rfl fn34 rfl nt34 rfl ?_
  simp only [List.length_cons, List.length_nil, List.cons_append, List.nil_append, Nat.reduceAdd, Nat.reduceSub, List.replicate]
  repeat' (first | refine go1 ?_ | refine blockK_else rfl ?_ | (refine wpC_cond fun A B hA hB => ?_; simp only [go_sem, reduceIte, Nat.reduceAdd, Nat.reduceEqDiff, Nat.reduceLT, Nat.reduceLeDiff, *, wpK_assignN ty23 rfl, lenK_sls hv]; first | (refine hA.out ?_; clear hA hB A B) | (refine hB.out ?_; clear hA hB A B) | (refine iteI (fun h => hA.out ?_) (fun h => hB.out ?_) <;> clear hA hB A B) | (refine iteI (fun h => hB.out ?_) (fun h => hA.out ?_) <;> clear hA hB A B)) | (refine wpO_cons fun K hK => ?_; simp only [go_sem, reduceIte, Nat.reduceAdd, Nat.reduceEqDiff, Nat.reduceLT, Nat.reduceLeDiff, *, wpK_assignN ty23 rfl, lenK_sls hv]; first | (refine hK.out _ _ ?_; clear hK K) | (refine iteI (fun h => hK.out _ _ ?_) (fun h => hK.out _ _ ?_) <;> clear hK K)))
  refine wpC_loopF [6, 10, 11, 12, 13, 14, 15, 16, 17, 18, 19, 20, 21, 22, 23, 24, 25] (fun a : List Int × List Int × List Blk => [(5, .sl (a.2.2.length + 1) (minus a.1 b).length 0 (minus a.1 b).length 1), (9, .int .i64 a.1.length)]) (fun a G => .arr [] 1 0 true :: (a.2.2 ++ .arr (ints (minus a.1 b)) 1 0 true :: G))
    (fun p => a = p.1 ++ p.2.1) (fun a => a.2.1.length) ([], a, []) rfl ?_ ?_ ?_
  · rfl
  · exact ⟨[], rfl⟩
  rintro ⟨pre, post, G1⟩ g G h1
  simp only at h1
  subst h1; simp only [garbA_cons, garbA_nil, setL_cons, setL_nil, List.set_cons_zero, List.set_cons_succ]
  cases post with
  | nil =>
    simp only [List.append_nil] at *
    repeat' (first | refine go1 ?_ | refine blockK_else rfl ?_ | (refine wpC_cond fun A B hA hB => ?_; simp only [go_sem, reduceIte, Nat.reduceAdd, Nat.reduceEqDiff, Nat.reduceLT, Nat.reduceLeDiff, *, wpK_assignN ty23 rfl, getElem?_len, getElem?_lenAdd, set_len, set_lenAdd, len_mid, ints_len, List.length_map, lt_mid, List.nil_append, ints_len, List.length_map, Int.lt_irrefl, List.nil_append]; first | (refine hA.out ?_; clear hA hB A B) | (refine hB.out ?_; clear hA hB A B) | (refine iteI (fun h => hA.out ?_) (fun h => hB.out ?_) <;> clear hA hB A B) | (refine iteI (fun h => hB.out ?_) (fun h => hA.out ?_) <;> clear hA hB A B)) | (refine wpO_cons fun K hK => ?_; simp only [go_sem, reduceIte, Nat.reduceAdd, Nat.reduceEqDiff, Nat.reduceLT, Nat.reduceLeDiff, *, wpK_assignN ty23 rfl, getElem?_len, getElem?_lenAdd, set_len, set_lenAdd, len_mid, ints_len, List.length_map, lt_mid, List.nil_append, ints_len, List.length_map, Int.lt_irrefl, List.nil_append]; first | (refine hK.out _ _ ?_; clear hK K) | (refine iteI (fun h => hK.out _ _ ?_) (fun h => hK.out _ _ ?_) <;> clear hK K)))
    simp only [resultsR, resultsL, resultA, expK_int, expK_bool, expK_str, expK_agg, expK_own, expK_tsl, resK_some, go_sem, reduceIte, Nat.reduceAdd, Nat.reduceEqDiff, Nat.reduceLT, Nat.reduceLeDiff, wpK_assignN ty23 rfl, List.getElem?_cons_succ, getElem?_len, ints_len]
    simp
  | cons x post =>
    have i1 := idx_sls hv (X := CX) ty23 ty3 rfl (ints_mid pre x post) (k := .i64)
    have w1 := wrap_succ (n := pre.length) (by simp at ha; omega)
    have m1 := minus_len pre b
    have p1 := (put1 false (minus pre b) x (by simp at ha; omega)).rw
    repeat' (first | refine go1 ?_ | refine blockK_else rfl ?_ | (refine wpC_cond fun A B hA hB => ?_; simp only [go_sem, reduceIte, Nat.reduceAdd, Nat.reduceEqDiff, Nat.reduceLT, Nat.reduceLeDiff, *, wpK_assignN ty23 rfl, getElem?_len, getElem?_lenAdd, set_len, set_lenAdd, len_mid, ints_len, List.length_map, lt_mid, List.nil_append, i1, w1, hw.snap, hv.snap, (has1 w b x hw (by omega)).rw, snap_sl, rowsOf_sl, ints_len, ints_take, List.take_length, Nat.zero_le, Nat.zero_add, Bool.true_or, p1]; first | (refine hA.out ?_; clear hA hB A B) | (refine hB.out ?_; clear hA hB A B) | (refine iteI (fun h => hA.out ?_) (fun h => hB.out ?_) <;> clear hA hB A B) | (refine iteI (fun h => hB.out ?_) (fun h => hA.out ?_) <;> clear hA hB A B)) | (refine wpO_cons fun K hK => ?_; simp only [go_sem, reduceIte, Nat.reduceAdd, Nat.reduceEqDiff, Nat.reduceLT, Nat.reduceLeDiff, *, wpK_assignN ty23 rfl, getElem?_len, getElem?_lenAdd, set_len, set_lenAdd, len_mid, ints_len, List.length_map, lt_mid, List.nil_append, i1, w1, hw.snap, hv.snap, (has1 w b x hw (by omega)).rw, snap_sl, rowsOf_sl, ints_len, ints_take, List.take_length, Nat.zero_le, Nat.zero_add, Bool.true_or, p1]; first | (refine hK.out _ _ ?_; clear hK K) | (refine iteI (fun h => hK.out _ _ ?_) (fun h => hK.out _ _ ?_) <;> clear hK K)))
    · have e : minus (pre ++ [x]) b = put (minus pre b) x := by rw [minus_snoc, h]; rfl
      refine loopF_next (pre ++ [x], post, G1 ++ .arr (ints (minus pre b)) 1 0 true :: G) (Nat.lt_succ_self _) (by simp) ?_ ?_
      · ((try simp only [eraseA_cons, eraseA_nil, setL_cons, setL_nil, List.set_cons_zero, List.set_cons_succ]); all_goals (first | rfl | (simp only [len_snoc, ints_len, List.length_map, e]; done) | (simp only [len_snoc, len_mid, ints_len, List.length_map, List.length_append, List.length_cons, List.length_nil, Nat.zero_add, e]; done) | (simp only [len_mid, len_snoc, ints_len, List.length_map, List.length_append, List.length_cons, List.length_nil, Nat.zero_add, e]; rfl)))
      · exact ⟨[], by simp [e]⟩
    · have e : minus (pre ++ [x]) b = minus pre b := by rw [minus_snoc, if_pos (by simpa using h)]
      refine loopF_next (pre ++ [x], post, G1) (Nat.lt_succ_self _) (by simp) ?_ ?_
      · ((try simp only [eraseA_cons, eraseA_nil, setL_cons, setL_nil, List.set_cons_zero, List.set_cons_succ]); all_goals (first | rfl | (simp only [len_snoc, ints_len, List.length_map, e]; done) | (simp only [len_snoc, len_mid, ints_len, List.length_map, List.length_append, List.length_cons, List.length_nil, Nat.zero_add, e]; done) | (simp only [len_mid, len_snoc, ints_len, List.length_map, List.length_append, List.length_cons, List.length_nil, Nat.zero_add, e]; rfl)))
      · exact ⟨G, by simp [e]⟩
end Go.Eng

/- Increasing lists and putting into them (plain). -/
namespace Go.Eng

theorem mem_put (x n : Int) : ∀ l : List Int, x ∈ put l n ↔ x = n ∨ x ∈ l
  | [] => by simp [put]
  | y :: l => by
    unfold put
    have ih := mem_put x n l
    split
    · rw [List.mem_cons, ih, List.mem_cons]
      constructor
      · rintro (h | h | h)
        · exact .inr (.inl h)
        · exact .inl h
        · exact .inr (.inr h)
      · rintro (h | h | h)
        · exact .inr (.inl h)
        · exact .inl h
        · exact .inr (.inr h)
    · split
      · rename_i h; subst h; simp
      · simp
theorem put_up {n : Int} : ∀ {l : List Int}, UpL l → UpL (put l n)
  | [], _ => by simp [put, UpL]
  | y :: l, h => by
    have h' := List.pairwise_cons.mp h
    unfold put
    split
    · rename_i hy
      refine List.pairwise_cons.mpr ⟨fun z hz => ?_, put_up h'.2⟩
      rcases (mem_put z n l).mp hz with e | e
      · omega
      · exact h'.1 z e
    · split
      · rename_i h1 h2; subst h2; exact h
      · rename_i h1 h2
        refine List.pairwise_cons.mpr ⟨fun z hz => ?_, h⟩
        rcases List.mem_cons.mp hz with e | e
        · omega
        · have := h'.1 z e; omega
theorem mem_puts (x : Int) : ∀ (b out : List Int), x ∈ b.foldl put out ↔ x ∈ out ∨ x ∈ b
  | [], out => by simp
  | y :: b, out => by
    rw [List.foldl_cons, mem_puts x b, mem_put, List.mem_cons]
    constructor
    · rintro ((h | h) | h)
      · exact .inr (.inl h)
      · exact .inl h
      · exact .inr (.inr h)
    · rintro (h | h | h)
      · exact .inl (.inr h)
      · exact .inl (.inl h)
      · exact .inr h
theorem puts_up : ∀ (b out : List Int), UpL out → UpL (b.foldl put out)
  | [], _, h => h
  | x :: b, out, h => puts_up b (put out x) (put_up h)
theorem puts_eq {b out : List Int} (h : UpL out) : b.foldl put out = sorted (out ++ b) :=
  up_unique (puts_up b out h) (sorted_up _) fun x => by rw [mem_puts, mem_sorted, List.mem_append]
theorem up_nil : UpL [] := List.Pairwise.nil
theorem sortR_eq (l : List Int) : l.foldl put [] = sorted l := puts_eq up_nil
theorem unionR_eq (a b : List Int) : b.foldl put (sorted a) = sorted (a ++ b) := by
  rw [puts_eq (sorted_up a)]
  exact sorted_eq fun x => by rw [List.mem_append, List.mem_append, mem_sorted]
theorem sorted_sorted (l : List Int) : sorted (sorted l) = sorted l := sorted_of_up (sorted_up l)
theorem put_eq {l : List Int} (h : UpL l) (n : Int) : put l n = sorted (n :: l) := up_unique (put_up h) (sorted_up _) fun x => by rw [mem_put, mem_sorted, List.mem_cons]
theorem mem_minus (x : Int) (a b : List Int) : x ∈ minus a b ↔ x ∈ a ∧ x ∉ b := by
  have : ∀ (l out : List Int), x ∈ l.foldl (fun out x => if b.contains x then out else put out x) out ↔ x ∈ out ∨ (x ∈ l ∧ x ∉ b) := by
    intro l
    induction l with
    | nil => intro out; simp
    | cons y l ih =>
      intro out
      rw [List.foldl_cons, ih]
      by_cases hy : b.contains y = true
      · rw [if_pos hy]
        have hy' : y ∈ b := by simpa using hy
        constructor
        · rintro (h | h)
          · exact .inl h
          · exact .inr ⟨by simp [h.1], h.2⟩
        · rintro (h | ⟨h, h2⟩)
          · exact .inl h
          · rcases List.mem_cons.mp h with e | e
            · subst e; exact absurd hy' h2
            · exact .inr ⟨e, h2⟩
      · rw [if_neg hy, mem_put]
        have hy' : y ∉ b := by simpa using hy
        constructor
        · rintro ((h | h) | h)
          · subst h; exact .inr ⟨by simp, hy'⟩
          · exact .inl h
          · exact .inr ⟨by simp [h.1], h.2⟩
        · rintro (h | ⟨h, h2⟩)
          · exact .inl (.inr h)
          · rcases List.mem_cons.mp h with e | e
            · exact .inl (.inl e)
            · exact .inr ⟨e, h2⟩
  simpa [minus] using this a []
theorem up_nodup {l : List Int} (h : UpL l) : l.Nodup := h.imp (by intro a b h e; omega)
end Go.Eng

/- What is below a group, as the reference finds it (plain). -/
namespace Go.Eng

/-- One round of the reference. -/
def moreB (gs : List Grp) (out more : List Int) : List Int := out.foldl (fun more x => if isG gs x then sorted (more ++ (fnd gs x).subs) else more) more
def rndB (gs : List Grp) : Nat → List Int → List Int
  | 0, out => out
  | k + 1, out => rndB gs k (moreB gs out out)
/-- What the reference computes. -/
def belowR (gs : List Grp) (n : Int) : List Int := rndB gs gs.length (if isG gs n then sorted (fnd gs n).subs else [])

theorem moreB_up {gs : List Grp} : ∀ {out more : List Int}, UpL more → UpL (moreB gs out more)
  | [], _, h => h
  | x :: out, more, h => by
    unfold moreB
    rw [List.foldl_cons]
    refine moreB_up (out := out) ?_
    split
    · exact sorted_up _
    · exact h
theorem mem_moreB {gs : List Grp} {y : Int} : ∀ {out more : List Int}, y ∈ moreB gs out more ↔ y ∈ more ∨ ∃ x ∈ out, isG gs x = true ∧ y ∈ (fnd gs x).subs
  | [], more => by simp [moreB]
  | x :: out, more => by
    unfold moreB
    rw [List.foldl_cons]
    have ih := fun m => mem_moreB (gs := gs) (y := y) (out := out) (more := m)
    unfold moreB at ih
    rw [ih]
    by_cases hx : isG gs x = true
    · rw [if_pos hx, mem_sorted, List.mem_append]
      constructor
      · rintro ((h | h) | ⟨z, h1, h2⟩)
        · exact .inl h
        · exact .inr ⟨x, by simp, hx, h⟩
        · exact .inr ⟨z, by simp [h1], h2⟩
      · rintro (h | ⟨z, h1, h2, h3⟩)
        · exact .inl (.inl h)
        · rcases List.mem_cons.mp h1 with e | e
          · subst e; exact .inl (.inr h3)
          · exact .inr ⟨z, e, h2, h3⟩
    · rw [if_neg hx]
      constructor
      · rintro (h | ⟨z, h1, h2⟩)
        · exact .inl h
        · exact .inr ⟨z, by simp [h1], h2⟩
      · rintro (h | ⟨z, h1, h2, h3⟩)
        · exact .inl h
        · rcases List.mem_cons.mp h1 with e | e
          · subst e; exact absurd h2 hx
          · exact .inr ⟨z, e, h2, h3⟩
/-- All Subs are groups. -/
def Clo (gs : List Grp) : Prop := ∀ g ∈ gs, ∀ s ∈ g.subs, isG gs s = true
theorem Clo.fnd {gs : List Grp} (h : Clo gs) {n s : Int} (hs : s ∈ (fnd gs n).subs) : isG gs s = true := by
  rcases fnd_cases gs n with ⟨_, e⟩ | ⟨_, _, e⟩
  · rw [e] at hs; simp [noG] at hs
  · exact h _ e s hs
def Closed (gs : List Grp) (out : List Int) : Prop := ∀ x ∈ out, isG gs x = true → ∀ s ∈ (Go.Eng.fnd gs x).subs, s ∈ out
theorem rnd_spec {gs : List Grp} (hc : Clo gs) (n : Int) : ∀ (k : Nat) (out : List Int), UpL out → (∀ x ∈ out, Rch gs n x) → (Closed gs out ∨ gs.length + 1 ≤ k + out.length) →
    UpL (rndB gs k out) ∧ (∀ x ∈ rndB gs k out, Rch gs n x) ∧ Closed gs (rndB gs k out) ∧ ∀ x ∈ out, x ∈ rndB gs k out := by
  intro k
  induction k with
  | zero =>
    intro out hu hr hk
    refine ⟨hu, hr, ?_, fun x hx => hx⟩
    rcases hk with hk | hk
    · exact hk
    · exfalso
      have : out.length ≤ (gs.map (·.id)).length := nodup_len (up_nodup hu) fun x hx => isG_mem.mp (hr x hx).isG
      simp at this; omega
  | succ k ih =>
    intro out hu hr hk
    have hu' : UpL (moreB gs out out) := moreB_up hu
    have hr' : ∀ x ∈ moreB gs out out, Rch gs n x := by
      intro x hx
      rcases mem_moreB.mp hx with h | ⟨z, h1, h2, h3⟩
      · exact hr x h
      · exact .step (hr z h1) h3 (hc.fnd h3)
    have hsub : ∀ x ∈ out, x ∈ moreB gs out out := fun x hx => mem_moreB.mpr (.inl hx)
    have hk2 : Closed gs (moreB gs out out) ∨ gs.length + 1 ≤ k + (moreB gs out out).length := by
      by_cases hcl : Closed gs out
      · left
        have e : moreB gs out out = out := up_unique hu' hu fun x => by
          rw [mem_moreB]
          constructor
          · rintro (h | ⟨z, h1, h2, h3⟩)
            · exact h
            · exact hcl z h1 h2 x h3
          · exact .inl
        rw [e]; exact hcl
      · right
        have hk' := hk.resolve_left hcl
        have : out.length + 1 ≤ (moreB gs out out).length := by
          have hlt : ∃ y, y ∈ moreB gs out out ∧ y ∉ out := by
            apply Classical.byContradiction
            intro hno
            apply hcl
            intro x hx hg s hs
            apply Classical.byContradiction
            intro hns
            exact hno ⟨s, mem_moreB.mpr (.inr ⟨x, hx, hg, hs⟩), hns⟩
          obtain ⟨y, hy, hyn⟩ := hlt
          have : (y :: out).length ≤ (moreB gs out out).length := nodup_len (List.nodup_cons.mpr ⟨hyn, up_nodup hu⟩) fun x hx => by
            rcases List.mem_cons.mp hx with e | e
            · subst e; exact hy
            · exact hsub x e
          simpa using this
        omega
    obtain ⟨i1, i2, i3, i4⟩ := ih (moreB gs out out) hu' hr' hk2
    exact ⟨i1, i2, i3, fun x hx => i4 x (hsub x hx)⟩
theorem belowR_eq {gs : List Grp} (hc : Clo gs) (n : Int) : belowR gs n = below gs n := by
  unfold belowR
  by_cases hg : isG gs n = true
  · rw [if_pos hg]
    have hr : ∀ x ∈ sorted (fnd gs n).subs, Rch gs n x := fun x hx => .one ((mem_sorted _ _).mp hx) (hc.fnd ((mem_sorted _ _).mp hx))
    have hk : Closed gs (sorted (fnd gs n).subs) ∨ gs.length + 1 ≤ gs.length + (sorted (fnd gs n).subs).length := by
      cases h : sorted (fnd gs n).subs with
      | nil => left; intro x hx; cases hx
      | cons x l => right; simp only [List.length_cons]; omega
    obtain ⟨h1, h2, h3, h4⟩ := rnd_spec hc n gs.length _ (sorted_up _) hr hk
    refine up_unique h1 (below_up gs n) fun x => ?_
    rw [mem_below]
    refine ⟨h2 x, fun hx => ?_⟩
    induction hx with
    | one h hg' => exact h4 _ ((mem_sorted _ _).mpr h)
    | step hy h hg' ih => exact h3 _ ih hy.isG _ h
  · rw [if_neg hg]
    have e : (fnd gs n).subs = [] := by
      rcases fnd_cases gs n with ⟨_, e⟩ | ⟨e, _⟩
      · rw [e]; rfl
      · exact absurd e hg
    have e1 : ∀ k, rndB gs k [] = [] := by
      intro k; induction k with
      | zero => rfl
      | succ k ih => rw [rndB]; exact ih
    rw [e1]
    refine up_unique up_nil (below_up gs n) fun x => ?_
    rw [mem_below]
    constructor
    · intro h; cases h
    · intro hx
      exfalso
      induction hx with
      | one h hg' => rw [e] at h; cases h
      | step hy h hg' ih => exact ih

/-- The reference's Members. -/
def unionP (gs : List Grp) (l : List Int) (out : List Int) : List Int := l.foldl (fun out x => if isG gs x then sorted (out ++ (fnd gs x).people) else out) out
def membersR (gs : List Grp) (n : Int) : List Int := if isG gs n then unionP gs (put (belowR gs n) n) [] else []
theorem unionP_up {gs : List Grp} : ∀ {l out : List Int}, UpL out → UpL (unionP gs l out)
  | [], _, h => h
  | x :: l, out, h => by
    unfold unionP
    rw [List.foldl_cons]
    refine unionP_up (l := l) ?_
    split
    · exact sorted_up _
    · exact h
theorem mem_unionP {gs : List Grp} {y : Int} : ∀ {l out : List Int}, y ∈ unionP gs l out ↔ y ∈ out ∨ ∃ x ∈ l, y ∈ (fnd gs x).people
  | [], out => by simp [unionP]
  | x :: l, out => by
    unfold unionP
    rw [List.foldl_cons]
    have ih := fun m => mem_unionP (gs := gs) (y := y) (l := l) (out := m)
    unfold unionP at ih
    rw [ih]
    by_cases hx : isG gs x = true
    · rw [if_pos hx, mem_sorted, List.mem_append]
      constructor
      · rintro ((h | h) | ⟨z, h1, h2⟩)
        · exact .inl h
        · exact .inr ⟨x, by simp, h⟩
        · exact .inr ⟨z, by simp [h1], h2⟩
      · rintro (h | ⟨z, h1, h3⟩)
        · exact .inl (.inl h)
        · rcases List.mem_cons.mp h1 with e | e
          · subst e; exact .inl (.inr h3)
          · exact .inr ⟨z, e, h3⟩
    · rw [if_neg hx]
      have e0 : (fnd gs x).people = [] := by
        rcases fnd_cases gs x with ⟨_, e⟩ | ⟨e, _⟩
        · rw [e]; rfl
        · exact absurd e hx
      constructor
      · rintro (h | ⟨z, h1, h2⟩)
        · exact .inl h
        · exact .inr ⟨z, by simp [h1], h2⟩
      · rintro (h | ⟨z, h1, h3⟩)
        · exact .inl h
        · rcases List.mem_cons.mp h1 with e | e
          · subst e; rw [e0] at h3; cases h3
          · exact .inr ⟨z, e, h3⟩
theorem mem_members {gs : List Grp} {n y : Int} : y ∈ members gs n ↔ y ∈ (fnd gs n).people ∨ ∃ x, Rch gs n x ∧ y ∈ (fnd gs x).people := by
  unfold members pplOf
  rw [mem_sorted, List.mem_flatMap]
  constructor
  · rintro ⟨x, h1, h2⟩
    rcases List.mem_cons.mp h1 with e | e
    · subst e; exact .inl h2
    · exact .inr ⟨x, mem_below.mp e, h2⟩
  · rintro (h | ⟨x, h1, h2⟩)
    · exact ⟨n, by simp, h⟩
    · exact ⟨x, by simp [mem_below.mpr h1], h2⟩
theorem members_up (gs : List Grp) (n : Int) : UpL (members gs n) := sorted_up _
theorem membersR_eq {gs : List Grp} (hc : Clo gs) (n : Int) : membersR gs n = members gs n := by
  unfold membersR
  by_cases hg : isG gs n = true
  · rw [if_pos hg, belowR_eq hc]
    refine up_unique (unionP_up up_nil) (members_up gs n) fun y => ?_
    rw [mem_unionP, mem_members]
    constructor
    · rintro (h | ⟨x, h1, h2⟩)
      · cases h
      · rcases (mem_put _ _ _).mp h1 with e | e
        · subst e; exact .inl h2
        · exact .inr ⟨x, mem_below.mp e, h2⟩
    · rintro (h | ⟨x, h1, h2⟩)
      · exact .inr ⟨n, (mem_put _ _ _).mpr (.inl rfl), h⟩
      · exact .inr ⟨x, (mem_put _ _ _).mpr (.inr (mem_below.mpr h1)), h2⟩
  · rw [if_neg hg]
    have e : fnd gs n = noG := by
      rcases fnd_cases gs n with ⟨_, e⟩ | ⟨e, _⟩
      · exact e
      · exact absurd e hg
    refine up_unique up_nil (members_up gs n) fun y => ?_
    rw [mem_members]
    constructor
    · intro h; cases h
    · rintro (h | ⟨x, h1, h2⟩)
      · rw [e] at h; cases h
      · exfalso
        clear h2
        induction h1 with
        | one h hg' => rw [e] at h; cases h
        | step hy h hg' ih => exact ih
end Go.Eng

/- Increasing lists as the code tests them. -/
namespace Go.Eng
open Go.Proofs
set_option linter.unusedSimpArgs false
set_option linter.unusedVariables false
attribute [local irreducible] wpC wpO wp1 EvV EvR wpL
attribute [local go_sem] beq_iff_eq beq_eq_false_iff_ne Int.natCast_inj Bool.not_eq_false' op1_go wpK_box wpK_alloc wpK_load wpK_store wpK_binOp wpK_unOp wpK_fieldAddr wpK_field wpK_build wpK_indexAddr wpK_slice wpK_len wpK_extract wpK_nilCheck wpK_pick wpK_makeFunc wpK_call wpK_callT wpK_max wpK_min wpK_assignT wpK_moveT wpK_assignB wpK_moveB wpK_assignI wpK_moveI wpK_assignA wpK_moveA callK_fn snapL_nil snapL_cons snap_int snap_bool snap_str snap_tsl snap_agg snap_fn snap_flat adopt_int adopt_bool adopt_str adopt_agg adopt_osl adopt_tsl adopt_tup op1_guard grdK_bool grdK_undef condK_bool someK_some pairK_some nilK_ptr nilK_tptr boxK storeK evalA_tmp evalA_int evalA_bool evalA_agg evalA_fn evalA_nil ofC_int ofC_bool getA_zero getA_succ cells_int cells_agg cells_bool cells_sl cells_tsl cell_int cell_bool cell_str cell_sl cell_esl cell_tsl cell_ptr cell_tptr cell_fn cell_nils cell_nilf List.all_cons List.all_nil Bool.and_true Bool.and_self Bool.true_and putA_some putA_none List.set_cons_zero List.set_cons_succ List.length_cons List.length_nil List.nil_append List.cons_append stabL AV.stab fieldAddrA fieldA List.getElem?_cons_zero List.getElem?_cons_succ Nat.zero_add loadA rowOf Nat.le_refl and_self true_and and_true partA binA unA intBin eqBin eqCells eqCell Option.bind_some decide_true decide_false decide_eq_true_eq ite_not Bool.not_eq_true' decide_eq_false_iff_not Bool.false_eq_true Option.map_some Option.map_none Bool.not_true Bool.not_false buildA fillA patch List.take List.drop List.map_cons List.map_nil extK List.getD_cons_zero List.getD_cons_succ minmaxA minmaxGo adoptZ_false adoptZ_true freeze_int freeze_bool freeze_str freeze_flat freeze_agg freeze_osl freeze_tsl freeze_tup frz1_bool frz1_int frz1_str frz1_agg frz1_osl frz1_tsl bne Bool.false_and Bool.and_false ne_eq not_true_eq_false not_false_eq_true List.append_nil
set_option maxHeartbeats 4000000

def upB : List Int → Bool
  | x :: y :: l => decide (x < y) && upB (y :: l)
  | _ => true

/- Sets of numbers: Sorted, Union, Up. -/
open Go.Proofs
attribute [local go_sem] ty3 ty23 br47 fz96 nilsK br51 fz103 fz104 ty4

theorem puts_snoc (a out : List Int) (x : Int) : (a ++ [x]).foldl put out = put (a.foldl put out) x := by simp [List.foldl_append]
theorem puts_len : ∀ (a out : List Int), (a.foldl put out).length ≤ out.length + a.length
  | [], out => by simp
  | x :: a, out => by
    have h1 := puts_len a (put out x)
    have h2 := put_len out x
    simp only [List.foldl_cons, List.length_cons]; omega

theorem sorted1 (v : AV) (a : List Int) (hv : SLs 1 (ints a) v) (ha : a.length ≤ 1099511627776) : EvV CX 51 [v] (· = .osl 1 (ints (sorted a))) := by
  rw [← sortR_eq]
  refine EvV.walk rfl fn51 rfl nt51 rfl ?_
  simp only [List.length_cons, List.length_nil, List.cons_append, List.nil_append, Nat.reduceAdd, Nat.reduceSub, List.replicate]
  repeat' (first | refine go1 ?_ | refine blockK_else rfl ?_ | (refine wpC_cond fun A B hA hB => ?_; simp only [go_sem, reduceIte, Nat.reduceAdd, Nat.reduceEqDiff, Nat.reduceLT, Nat.reduceLeDiff, *, wpK_assignN ty23 rfl, lenK_sls hv]; first | (refine hA.out ?_; clear hA hB A B) | (refine hB.out ?_; clear hA hB A B) | (refine iteI (fun h => hA.out ?_) (fun h => hB.out ?_) <;> clear hA hB A B) | (refine iteI (fun h => hB.out ?_) (fun h => hA.out ?_) <;> clear hA hB A B)) | (refine wpO_cons fun K hK => ?_; simp only [go_sem, reduceIte, Nat.reduceAdd, Nat.reduceEqDiff, Nat.reduceLT, Nat.reduceLeDiff, *, wpK_assignN ty23 rfl, lenK_sls hv]; first | (refine hK.out _ _ ?_; clear hK K) | (refine iteI (fun h => hK.out _ _ ?_) (fun h => hK.out _ _ ?_) <;> clear hK K)))
  refine wpC_loopF [4, 8, 9, 10, 11, 12, 13, 14, 15, 16] (fun a : List Int × List Int × List Blk => [(3, .sl (a.2.2.length + 1) (a.1.foldl put []).length 0 (a.1.foldl put []).length 1), (7, .int .i64 a.1.length)]) (fun a G => .arr [] 1 0 true :: (a.2.2 ++ .arr (ints (a.1.foldl put [])) 1 0 true :: G))
    (fun p => a = p.1 ++ p.2.1) (fun a => a.2.1.length) ([], a, []) rfl ?_ ?_ ?_
  · rfl
  · exact ⟨[], rfl⟩
  rintro ⟨pre, post, G1⟩ g G h1
  simp only at h1
  subst h1; simp only [garbA_cons, garbA_nil, setL_cons, setL_nil, List.set_cons_zero, List.set_cons_succ]
  cases post with
  | nil =>
    simp only [List.append_nil] at *
    repeat' (first | refine go1 ?_ | refine blockK_else rfl ?_ | (refine wpC_cond fun A B hA hB => ?_; simp only [go_sem, reduceIte, Nat.reduceAdd, Nat.reduceEqDiff, Nat.reduceLT, Nat.reduceLeDiff, *, wpK_assignN ty23 rfl, getElem?_len, getElem?_lenAdd, set_len, set_lenAdd, len_mid, ints_len, List.length_map, lt_mid, List.nil_append, ints_len, List.length_map, Int.lt_irrefl, List.nil_append]; first | (refine hA.out ?_; clear hA hB A B) | (refine hB.out ?_; clear hA hB A B) | (refine iteI (fun h => hA.out ?_) (fun h => hB.out ?_) <;> clear hA hB A B) | (refine iteI (fun h => hB.out ?_) (fun h => hA.out ?_) <;> clear hA hB A B)) | (refine wpO_cons fun K hK => ?_; simp only [go_sem, reduceIte, Nat.reduceAdd, Nat.reduceEqDiff, Nat.reduceLT, Nat.reduceLeDiff, *, wpK_assignN ty23 rfl, getElem?_len, getElem?_lenAdd, set_len, set_lenAdd, len_mid, ints_len, List.length_map, lt_mid, List.nil_append, ints_len, List.length_map, Int.lt_irrefl, List.nil_append]; first | (refine hK.out _ _ ?_; clear hK K) | (refine iteI (fun h => hK.out _ _ ?_) (fun h => hK.out _ _ ?_) <;> clear hK K)))
    simp only [resultsR, resultsL, resultA, expK_int, expK_bool, expK_str, expK_agg, expK_own, expK_tsl, resK_some, go_sem, reduceIte, Nat.reduceAdd, Nat.reduceEqDiff, Nat.reduceLT, Nat.reduceLeDiff, wpK_assignN ty23 rfl, List.getElem?_cons_succ, getElem?_len, ints_len]
    simp
  | cons x post =>
    have i1 := idx_sls hv (X := CX) ty23 ty3 rfl (ints_mid pre x post) (k := .i64)
    have w1 := wrap_succ (n := pre.length) (by simp at ha; omega)
    have m1 := puts_len pre []
    have p1 := (put1 false (pre.foldl put []) x (by simp at ha m1; omega)).rw
    repeat' (first | refine go1 ?_ | refine blockK_else rfl ?_ | (refine wpC_cond fun A B hA hB => ?_; simp only [go_sem, reduceIte, Nat.reduceAdd, Nat.reduceEqDiff, Nat.reduceLT, Nat.reduceLeDiff, *, wpK_assignN ty23 rfl, getElem?_len, getElem?_lenAdd, set_len, set_lenAdd, len_mid, ints_len, List.length_map, lt_mid, List.nil_append, i1, w1, hv.snap, snap_sl, rowsOf_sl, ints_len, ints_take, List.take_length, Nat.zero_le, Nat.zero_add, Bool.true_or, p1]; first | (refine hA.out ?_; clear hA hB A B) | (refine hB.out ?_; clear hA hB A B) | (refine iteI (fun h => hA.out ?_) (fun h => hB.out ?_) <;> clear hA hB A B) | (refine iteI (fun h => hB.out ?_) (fun h => hA.out ?_) <;> clear hA hB A B)) | (refine wpO_cons fun K hK => ?_; simp only [go_sem, reduceIte, Nat.reduceAdd, Nat.reduceEqDiff, Nat.reduceLT, Nat.reduceLeDiff, *, wpK_assignN ty23 rfl, getElem?_len, getElem?_lenAdd, set_len, set_lenAdd, len_mid, ints_len, List.length_map, lt_mid, List.nil_append, i1, w1, hv.snap, snap_sl, rowsOf_sl, ints_len, ints_take, List.take_length, Nat.zero_le, Nat.zero_add, Bool.true_or, p1]; first | (refine hK.out _ _ ?_; clear hK K) | (refine iteI (fun h => hK.out _ _ ?_) (fun h => hK.out _ _ ?_) <;> clear hK K)))
    have e := puts_snoc pre [] x
    refine loopF_next (pre ++ [x], post, G1 ++ .arr (ints (pre.foldl put [])) 1 0 true :: G) (Nat.lt_succ_self _) (by simp) ?_ ?_
    · ((try simp only [eraseA_cons, eraseA_nil, setL_cons, setL_nil, List.set_cons_zero, List.set_cons_succ]); all_goals (first | rfl | (simp only [len_snoc, ints_len, List.length_map, e]; done) | (simp only [len_snoc, len_mid, ints_len, List.length_map, List.length_append, List.length_cons, List.length_nil, Nat.zero_add, e]; done) | (simp only [len_mid, len_snoc, ints_len, List.length_map, List.length_append, List.length_cons, List.length_nil, Nat.zero_add, e]; rfl)))
    · exact ⟨[], by simp [e]⟩

theorem union1 (v w : AV) (a b : List Int) (hv : SLs 1 (ints a) v) (hw : SLs 1 (ints b) w) (ha : a.length ≤ 1099511627) (hb : b.length ≤ 1099511627) : EvV CX 52 [v, w] (· = .osl 1 (ints (sorted (a ++ b)))) := by
  rw [← unionR_eq]
  have q := (sorted1 v a hv (by omega)).rw
  have hl := sorted_len a
  obtain ⟨A, hA⟩ : ∃ A, sorted a = A := ⟨_, rfl⟩
  rw [hA] at q hl ⊢
  clear hA
  refine EvV.walk rfl fn52 rfl nt52 rfl ?_
  simp only [List.length_cons, List.length_nil, List.cons_append, List.nil_append, Nat.reduceAdd, Nat.reduceSub, List.replicate]
  repeat' (first | refine go1 ?_ | refine blockK_else rfl ?_ | (refine wpC_cond fun A B hA hB => ?_; simp only [go_sem, reduceIte, Nat.reduceAdd, Nat.reduceEqDiff, Nat.reduceLT, Nat.reduceLeDiff, *, wpK_assignN ty23 rfl, lenK_sls hw, hv.snap, q, adopt_osl]; first | (refine hA.out ?_; clear hA hB A B) | (refine hB.out ?_; clear hA hB A B) | (refine iteI (fun h => hA.out ?_) (fun h => hB.out ?_) <;> clear hA hB A B) | (refine iteI (fun h => hB.out ?_) (fun h => hA.out ?_) <;> clear hA hB A B)) | (refine wpO_cons fun K hK => ?_; simp only [go_sem, reduceIte, Nat.reduceAdd, Nat.reduceEqDiff, Nat.reduceLT, Nat.reduceLeDiff, *, wpK_assignN ty23 rfl, lenK_sls hw, hv.snap, q, adopt_osl]; first | (refine hK.out _ _ ?_; clear hK K) | (refine iteI (fun h => hK.out _ _ ?_) (fun h => hK.out _ _ ?_) <;> clear hK K)))
  refine wpC_loopF [6, 12, 13, 14, 15, 16, 17, 18, 19, 20] (fun a : List Int × List Int × List Blk => [(5, .sl (a.2.2.length + 1) (a.1.foldl put A).length 0 (a.1.foldl put A).length 1), (11, .int .i64 a.1.length)]) (fun a G => .arr [] 1 0 true :: (a.2.2 ++ .arr (ints (a.1.foldl put A)) 1 0 true :: G))
    (fun p => b = p.1 ++ p.2.1) (fun a => a.2.1.length) ([], b, []) rfl ?_ ?_ ?_
  · ((try simp only [eraseA_cons, eraseA_nil, setL_cons, setL_nil, List.set_cons_zero, List.set_cons_succ]); all_goals (first | rfl | (simp only [len_snoc, ints_len, List.length_map, ]; done) | (simp only [len_snoc, len_mid, ints_len, List.length_map, List.length_append, List.length_cons, List.length_nil, Nat.zero_add, ]; done) | (simp only [len_mid, len_snoc, ints_len, List.length_map, List.length_append, List.length_cons, List.length_nil, Nat.zero_add, ]; rfl)))
  · exact ⟨[], rfl⟩
  rintro ⟨pre, post, G1⟩ g G h1
  simp only at h1
  subst h1; simp only [garbA_cons, garbA_nil, setL_cons, setL_nil, List.set_cons_zero, List.set_cons_succ]
  cases post with
  | nil =>
    simp only [List.append_nil] at *
    repeat' (first | refine go1 ?_ | refine blockK_else rfl ?_ | (refine wpC_cond fun A B hA hB => ?_; simp only [go_sem, reduceIte, Nat.reduceAdd, Nat.reduceEqDiff, Nat.reduceLT, Nat.reduceLeDiff, *, wpK_assignN ty23 rfl, getElem?_len, getElem?_lenAdd, set_len, set_lenAdd, len_mid, ints_len, List.length_map, lt_mid, List.nil_append, ints_len, List.length_map, Int.lt_irrefl, List.nil_append]; first | (refine hA.out ?_; clear hA hB A B) | (refine hB.out ?_; clear hA hB A B) | (refine iteI (fun h => hA.out ?_) (fun h => hB.out ?_) <;> clear hA hB A B) | (refine iteI (fun h => hB.out ?_) (fun h => hA.out ?_) <;> clear hA hB A B)) | (refine wpO_cons fun K hK => ?_; simp only [go_sem, reduceIte, Nat.reduceAdd, Nat.reduceEqDiff, Nat.reduceLT, Nat.reduceLeDiff, *, wpK_assignN ty23 rfl, getElem?_len, getElem?_lenAdd, set_len, set_lenAdd, len_mid, ints_len, List.length_map, lt_mid, List.nil_append, ints_len, List.length_map, Int.lt_irrefl, List.nil_append]; first | (refine hK.out _ _ ?_; clear hK K) | (refine iteI (fun h => hK.out _ _ ?_) (fun h => hK.out _ _ ?_) <;> clear hK K)))
    simp only [resultsR, resultsL, resultA, expK_int, expK_bool, expK_str, expK_agg, expK_own, expK_tsl, resK_some, go_sem, reduceIte, Nat.reduceAdd, Nat.reduceEqDiff, Nat.reduceLT, Nat.reduceLeDiff, wpK_assignN ty23 rfl, List.getElem?_cons_succ, getElem?_len, ints_len]
    simp
  | cons x post =>
    have i1 := idx_sls hw (X := CX) ty23 ty3 rfl (ints_mid pre x post) (k := .i64)
    have w1 := wrap_succ (n := pre.length) (by simp at hb; omega)
    have m1 := puts_len pre A
    have p1 := (put1 false (pre.foldl put A) x (by simp at hb m1; omega)).rw
    clear q
    repeat' (first | refine go1 ?_ | refine blockK_else rfl ?_ | (refine wpC_cond fun A B hA hB => ?_; simp only [go_sem, reduceIte, Nat.reduceAdd, Nat.reduceEqDiff, Nat.reduceLT, Nat.reduceLeDiff, *, wpK_assignN ty23 rfl, getElem?_len, getElem?_lenAdd, set_len, set_lenAdd, len_mid, ints_len, List.length_map, lt_mid, List.nil_append, i1, w1, hv.snap, hw.snap, snap_sl, rowsOf_sl, ints_len, ints_take, List.take_length, Nat.zero_le, Nat.zero_add, Bool.true_or, p1]; first | (refine hA.out ?_; clear hA hB A B) | (refine hB.out ?_; clear hA hB A B) | (refine iteI (fun h => hA.out ?_) (fun h => hB.out ?_) <;> clear hA hB A B) | (refine iteI (fun h => hB.out ?_) (fun h => hA.out ?_) <;> clear hA hB A B)) | (refine wpO_cons fun K hK => ?_; simp only [go_sem, reduceIte, Nat.reduceAdd, Nat.reduceEqDiff, Nat.reduceLT, Nat.reduceLeDiff, *, wpK_assignN ty23 rfl, getElem?_len, getElem?_lenAdd, set_len, set_lenAdd, len_mid, ints_len, List.length_map, lt_mid, List.nil_append, i1, w1, hv.snap, hw.snap, snap_sl, rowsOf_sl, ints_len, ints_take, List.take_length, Nat.zero_le, Nat.zero_add, Bool.true_or, p1]; first | (refine hK.out _ _ ?_; clear hK K) | (refine iteI (fun h => hK.out _ _ ?_) (fun h => hK.out _ _ ?_) <;> clear hK K)))
    have e := puts_snoc pre A x
    refine loopF_next (pre ++ [x], post, G1 ++ .arr (ints (pre.foldl put A)) 1 0 true :: G) (Nat.lt_succ_self _) (by simp) ?_ ?_
    · ((try simp only [eraseA_cons, eraseA_nil, setL_cons, setL_nil, List.set_cons_zero, List.set_cons_succ]); all_goals (first | rfl | (simp only [len_snoc, ints_len, List.length_map, e]; done) | (simp only [len_snoc, len_mid, ints_len, List.length_map, List.length_append, List.length_cons, List.length_nil, Nat.zero_add, e]; done) | (simp only [len_mid, len_snoc, ints_len, List.length_map, List.length_append, List.length_cons, List.length_nil, Nat.zero_add, e]; rfl)))
    · exact ⟨[], by simp [e]⟩

theorem up1 (v : AV) (l : List Int) (hv : SLs 1 (ints l) v) (hl : l.length < 9223372036854775807) : EvV CX 50 [v] (· = .bool (upB l)) := by
  cases l with
  | nil =>
    refine EvV.walk rfl fn50 rfl nt50 rfl ?_
    simp only [List.length_cons, List.length_nil, List.cons_append, List.nil_append, Nat.reduceAdd, Nat.reduceSub, List.replicate]
    repeat' (first | refine go1 ?_ | refine blockK_else rfl ?_ | (refine wpC_cond fun A B hA hB => ?_; simp only [go_sem, reduceIte, Nat.reduceAdd, Nat.reduceEqDiff, Nat.reduceLT, Nat.reduceLeDiff, *, and_self, lenK_sls hv]; first | (refine hA.out ?_; clear hA hB A B) | (refine hB.out ?_; clear hA hB A B) | (refine iteI (fun h => hA.out ?_) (fun h => hB.out ?_) <;> clear hA hB A B) | (refine iteI (fun h => hB.out ?_) (fun h => hA.out ?_) <;> clear hA hB A B)) | (refine wpO_cons fun K hK => ?_; simp only [go_sem, reduceIte, Nat.reduceAdd, Nat.reduceEqDiff, Nat.reduceLT, Nat.reduceLeDiff, *, and_self, lenK_sls hv]; first | (refine hK.out _ _ ?_; clear hK K) | (refine iteI (fun h => hK.out _ _ ?_) (fun h => hK.out _ _ ?_) <;> clear hK K)))
    refine wpC_loopF [2, 4, 5, 6, 7, 8, 9, 10, 11, 12, 13, 14, 15, 16, 17, 18, 19] (fun _ : Unit => [(3, .int .i64 1)]) (fun _ H => H) (fun _ => True) (fun _ => 0) () trivial ?_ ⟨_, rfl⟩ ?_
    · rfl
    rintro _ g G _
    simp only [garbA_cons, garbA_nil, setL_cons, setL_nil, List.set_cons_zero, List.set_cons_succ]
    have z : ¬ (1 : Int) < ((0 : Nat) : Int) := by omega
    repeat' (first | refine go1 ?_ | refine blockK_else rfl ?_ | (refine wpC_cond fun A B hA hB => ?_; simp only [go_sem, reduceIte, Nat.reduceAdd, Nat.reduceEqDiff, Nat.reduceLT, Nat.reduceLeDiff, *, and_self, lenK_sls hv, ints_len, List.length_nil, z]; first | (refine hA.out ?_; clear hA hB A B) | (refine hB.out ?_; clear hA hB A B) | (refine iteI (fun h => hA.out ?_) (fun h => hB.out ?_) <;> clear hA hB A B) | (refine iteI (fun h => hB.out ?_) (fun h => hA.out ?_) <;> clear hA hB A B)) | (refine wpO_cons fun K hK => ?_; simp only [go_sem, reduceIte, Nat.reduceAdd, Nat.reduceEqDiff, Nat.reduceLT, Nat.reduceLeDiff, *, and_self, lenK_sls hv, ints_len, List.length_nil, z]; first | (refine hK.out _ _ ?_; clear hK K) | (refine iteI (fun h => hK.out _ _ ?_) (fun h => hK.out _ _ ?_) <;> clear hK K)))
    simp only [resultsR, resultsL, resultA, expK_int, expK_bool, expK_str, expK_agg, expK_own, expK_tsl, resK_some, go_sem, reduceIte, Nat.reduceAdd, Nat.reduceEqDiff, Nat.reduceLT, Nat.reduceLeDiff, and_self, ]
    rfl
  | cons x0 l0 =>
  refine EvV.walk rfl fn50 rfl nt50 rfl ?_
  simp only [List.length_cons, List.length_nil, List.cons_append, List.nil_append, Nat.reduceAdd, Nat.reduceSub, List.replicate]
  repeat' (first | refine go1 ?_ | refine blockK_else rfl ?_ | (refine wpC_cond fun A B hA hB => ?_; simp only [go_sem, reduceIte, Nat.reduceAdd, Nat.reduceEqDiff, Nat.reduceLT, Nat.reduceLeDiff, *, and_self, lenK_sls hv]; first | (refine hA.out ?_; clear hA hB A B) | (refine hB.out ?_; clear hA hB A B) | (refine iteI (fun h => hA.out ?_) (fun h => hB.out ?_) <;> clear hA hB A B) | (refine iteI (fun h => hB.out ?_) (fun h => hA.out ?_) <;> clear hA hB A B)) | (refine wpO_cons fun K hK => ?_; simp only [go_sem, reduceIte, Nat.reduceAdd, Nat.reduceEqDiff, Nat.reduceLT, Nat.reduceLeDiff, *, and_self, lenK_sls hv]; first | (refine hK.out _ _ ?_; clear hK K) | (refine iteI (fun h => hK.out _ _ ?_) (fun h => hK.out _ _ ?_) <;> clear hK K)))
  refine wpC_loopF [2, 4, 5, 6, 7, 8, 9, 10, 11, 12, 13, 14, 15, 16, 17, 18, 19] (fun p : List Int × Int × List Int => [(3, .int .i64 ((p.1.length + 1 : Nat) : Int))]) (fun _ H => H)
    (fun p => x0 :: l0 = p.1 ++ p.2.1 :: p.2.2 ∧ upB (x0 :: l0) = upB (p.2.1 :: p.2.2)) (fun p => p.2.2.length) ([], x0, l0) ⟨rfl, rfl⟩ ?_ ⟨_, rfl⟩ ?_
  · rfl
  rintro ⟨pre, x, post⟩ g G ⟨h1, h2⟩
  simp only at h1 h2
  rw [h2]
  generalize x0 :: l0 = l at *
  clear h2
  subst h1
  simp only [garbA_cons, garbA_nil, setL_cons, setL_nil, List.set_cons_zero, List.set_cons_succ]
  cases post with
  | nil =>
    have z : ¬ ((pre.length + 1 : Nat) : Int) < ((pre.length + 1 : Nat) : Int) := by omega
    repeat' (first | refine go1 ?_ | refine blockK_else rfl ?_ | (refine wpC_cond fun A B hA hB => ?_; simp only [go_sem, reduceIte, Nat.reduceAdd, Nat.reduceEqDiff, Nat.reduceLT, Nat.reduceLeDiff, *, and_self, lenK_sls hv, ints_len, len_snoc, z]; first | (refine hA.out ?_; clear hA hB A B) | (refine hB.out ?_; clear hA hB A B) | (refine iteI (fun h => hA.out ?_) (fun h => hB.out ?_) <;> clear hA hB A B) | (refine iteI (fun h => hB.out ?_) (fun h => hA.out ?_) <;> clear hA hB A B)) | (refine wpO_cons fun K hK => ?_; simp only [go_sem, reduceIte, Nat.reduceAdd, Nat.reduceEqDiff, Nat.reduceLT, Nat.reduceLeDiff, *, and_self, lenK_sls hv, ints_len, len_snoc, z]; first | (refine hK.out _ _ ?_; clear hK K) | (refine iteI (fun h => hK.out _ _ ?_) (fun h => hK.out _ _ ?_) <;> clear hK K)))
    simp only [resultsR, resultsL, resultA, expK_int, expK_bool, expK_str, expK_agg, expK_own, expK_tsl, resK_some, go_sem, reduceIte, Nat.reduceAdd, Nat.reduceEqDiff, Nat.reduceLT, Nat.reduceLeDiff, and_self, ]
    rfl
  | cons y post =>
    have i1 := idx_sls hv (X := CX) ty23 ty3 rfl (ints_mid pre x (y :: post)) (k := .i64)
    have hv2 : SLs 1 (ints ((pre ++ [x]) ++ y :: post)) v := by rw [List.append_assoc]; exact hv
    have i2 := idx_sls hv2 (X := CX) ty23 ty3 rfl (ints_mid (pre ++ [x]) y post) (k := .i64)
    rw [len_snoc] at i2
    have z : ((pre.length + 1 : Nat) : Int) < ((pre ++ x :: y :: post).length : Int) := by simp; omega
    have hl2 : pre.length + 2 < 9223372036854775807 := by simp at hl; omega
    have w1 := wrap_succ (n := pre.length + 1) (by omega)
    have w2 : IntKind.wrap .i64 (((pre.length + 1 : Nat) : Int) - 1) = (pre.length : Int) := by rw [wrap_small (by omega) (by omega)]; omega
    clear hv2
    by_cases hxy : x < y
    · have h3 : ¬ y ≤ x := by omega
      repeat' (first | refine go1 ?_ | refine blockK_else rfl ?_ | (refine wpC_cond fun A B hA hB => ?_; simp only [go_sem, reduceIte, Nat.reduceAdd, Nat.reduceEqDiff, Nat.reduceLT, Nat.reduceLeDiff, *, and_self, lenK_sls hv, ints_len, z, i1, i2, w1, w2]; first | (refine hA.out ?_; clear hA hB A B) | (refine hB.out ?_; clear hA hB A B) | (refine iteI (fun h => hA.out ?_) (fun h => hB.out ?_) <;> clear hA hB A B) | (refine iteI (fun h => hB.out ?_) (fun h => hA.out ?_) <;> clear hA hB A B)) | (refine wpO_cons fun K hK => ?_; simp only [go_sem, reduceIte, Nat.reduceAdd, Nat.reduceEqDiff, Nat.reduceLT, Nat.reduceLeDiff, *, and_self, lenK_sls hv, ints_len, z, i1, i2, w1, w2]; first | (refine hK.out _ _ ?_; clear hK K) | (refine iteI (fun h => hK.out _ _ ?_) (fun h => hK.out _ _ ?_) <;> clear hK K)))
      refine loopF_next (pre ++ [x], y, post) (Nat.lt_succ_self _) ⟨by simp, ?_⟩ ?_ ⟨_, rfl⟩
      · simp only [upB, decide_eq_true hxy, Bool.true_and]
      · ((try simp only [eraseA_cons, eraseA_nil, setL_cons, setL_nil, List.set_cons_zero, List.set_cons_succ]); all_goals (first | rfl | (simp only [len_snoc, ints_len, List.length_map, ]; done) | (simp only [len_snoc, len_mid, ints_len, List.length_map, List.length_append, List.length_cons, List.length_nil, Nat.zero_add, ]; done) | (simp only [len_mid, len_snoc, ints_len, List.length_map, List.length_append, List.length_cons, List.length_nil, Nat.zero_add, ]; rfl)))
    · have h3 : y ≤ x := by omega
      repeat' (first | refine go1 ?_ | refine blockK_else rfl ?_ | (refine wpC_cond fun A B hA hB => ?_; simp only [go_sem, reduceIte, Nat.reduceAdd, Nat.reduceEqDiff, Nat.reduceLT, Nat.reduceLeDiff, *, and_self, lenK_sls hv, ints_len, z, i1, i2, w1, w2]; first | (refine hA.out ?_; clear hA hB A B) | (refine hB.out ?_; clear hA hB A B) | (refine iteI (fun h => hA.out ?_) (fun h => hB.out ?_) <;> clear hA hB A B) | (refine iteI (fun h => hB.out ?_) (fun h => hA.out ?_) <;> clear hA hB A B)) | (refine wpO_cons fun K hK => ?_; simp only [go_sem, reduceIte, Nat.reduceAdd, Nat.reduceEqDiff, Nat.reduceLT, Nat.reduceLeDiff, *, and_self, lenK_sls hv, ints_len, z, i1, i2, w1, w2]; first | (refine hK.out _ _ ?_; clear hK K) | (refine iteI (fun h => hK.out _ _ ?_) (fun h => hK.out _ _ ?_) <;> clear hK K)))
      simp only [resultsR, resultsL, resultA, expK_int, expK_bool, expK_str, expK_agg, expK_own, expK_tsl, resK_some, go_sem, reduceIte, Nat.reduceAdd, Nat.reduceEqDiff, Nat.reduceLT, Nat.reduceLeDiff, and_self, ]
      simp only [upB, decide_eq_false hxy, Bool.false_and]

/- Groups: the reference's Find, Below, Members. -/
open Go.Proofs
attribute [local go_sem] ty9 ty22 ty53 br41 br52 fz94 fz95 fz97 fz98
set_option maxHeartbeats 4000000

theorem findR {v : AV} {gs : List Grp} (h : GsOK v gs) (n : Int) : EvV CX 41 [v, .int .i64 n] (· = .int .i64 (codeOf (gIdx gs n 0))) := by
  have hv := h.sl
  have hl := h.len
  refine EvV.walk rfl fn41 rfl nt41 rfl ?_
  simp only [List.length_cons, List.length_nil, List.cons_append, List.nil_append, Nat.reduceAdd, Nat.reduceSub, List.replicate]
  repeat' (first | refine go1 ?_ | refine blockK_else rfl ?_ | (refine wpC_cond fun A B hA hB => ?_; simp only [go_sem, reduceIte, Nat.reduceAdd, Nat.reduceEqDiff, Nat.reduceLT, Nat.reduceLeDiff, *, and_self, lenK_sls hv]; first | (refine hA.out ?_; clear hA hB A B) | (refine hB.out ?_; clear hA hB A B) | (refine iteI (fun h => hA.out ?_) (fun h => hB.out ?_) <;> clear hA hB A B) | (refine iteI (fun h => hB.out ?_) (fun h => hA.out ?_) <;> clear hA hB A B)) | (refine wpO_cons fun K hK => ?_; simp only [go_sem, reduceIte, Nat.reduceAdd, Nat.reduceEqDiff, Nat.reduceLT, Nat.reduceLeDiff, *, and_self, lenK_sls hv]; first | (refine hK.out _ _ ?_; clear hK K) | (refine iteI (fun h => hK.out _ _ ?_) (fun h => hK.out _ _ ?_) <;> clear hK K)))
  refine wpC_each [4, 5, 9, 10, 11, 12, 13, 14, 15, 16, 17, 18, 19] 8 gs (fun pre post => gIdx gs n 0 = gIdx post n pre.length) ?_ ?_ ?_ ?_
  · rfl
  · rfl
  · intro g G h2
    rw [h2]; simp only [garbA_cons, garbA_nil, setL_cons, setL_nil, List.set_cons_zero, List.set_cons_succ]
    repeat' (first | refine go1 ?_ | refine blockK_else rfl ?_ | (refine wpC_cond fun A B hA hB => ?_; simp only [go_sem, reduceIte, Nat.reduceAdd, Nat.reduceEqDiff, Nat.reduceLT, Nat.reduceLeDiff, *, and_self, ints_len, List.length_map, Int.lt_irrefl, List.nil_append]; first | (refine hA.out ?_; clear hA hB A B) | (refine hB.out ?_; clear hA hB A B) | (refine iteI (fun h => hA.out ?_) (fun h => hB.out ?_) <;> clear hA hB A B) | (refine iteI (fun h => hB.out ?_) (fun h => hA.out ?_) <;> clear hA hB A B)) | (refine wpO_cons fun K hK => ?_; simp only [go_sem, reduceIte, Nat.reduceAdd, Nat.reduceEqDiff, Nat.reduceLT, Nat.reduceLeDiff, *, and_self, ints_len, List.length_map, Int.lt_irrefl, List.nil_append]; first | (refine hK.out _ _ ?_; clear hK K) | (refine iteI (fun h => hK.out _ _ ?_) (fun h => hK.out _ _ ?_) <;> clear hK K)))
    simp only [resultsR, resultsL, resultA, expK_int, expK_bool, expK_str, expK_agg, expK_own, expK_tsl, resK_some, go_sem, reduceIte, Nat.reduceAdd, Nat.reduceEqDiff, Nat.reduceLT, Nat.reduceLeDiff, and_self, ]
    rfl
  · intro g G pre x post h1 h2
    rw [h2]
    have i1 := idx_sls hv (X := CX) ty22 ty53 rfl (by rw [h1]; exact map_mid encG pre x post) (k := .i64)
    have w1 := wrap_succ (n := pre.length) (by simp [h1] at hl; omega)
    have lt1 : (pre.length : Int) < (gs.length : Int) := by rw [h1]; simp; omega
    have hh1 : Hold (gs = pre ++ x :: post) := ⟨h1⟩
    clear h1
    simp only [garbA_cons, garbA_nil, setL_cons, setL_nil, List.set_cons_zero, List.set_cons_succ]
    by_cases hx : x.id = n
    · have hh : Hold (x.id = n) := ⟨hx⟩
      have hx' : (x.id == n) = true := by simpa using hx
      clear hx h2
      repeat' (first | refine go1 ?_ | refine blockK_else rfl ?_ | (refine wpC_cond fun A B hA hB => ?_; simp only [go_sem, reduceIte, Nat.reduceAdd, Nat.reduceEqDiff, Nat.reduceLT, Nat.reduceLeDiff, *, and_self, getElem?_len, getElem?_lenAdd, set_len, set_lenAdd, len_mid, ints_len, List.length_map, lt_mid, List.nil_append, i1, w1, lt1, encG, hx']; first | (refine hA.out ?_; clear hA hB A B) | (refine hB.out ?_; clear hA hB A B) | (refine iteI (fun h => hA.out ?_) (fun h => hB.out ?_) <;> clear hA hB A B) | (refine iteI (fun h => hB.out ?_) (fun h => hA.out ?_) <;> clear hA hB A B)) | (refine wpO_cons fun K hK => ?_; simp only [go_sem, reduceIte, Nat.reduceAdd, Nat.reduceEqDiff, Nat.reduceLT, Nat.reduceLeDiff, *, and_self, getElem?_len, getElem?_lenAdd, set_len, set_lenAdd, len_mid, ints_len, List.length_map, lt_mid, List.nil_append, i1, w1, lt1, encG, hx']; first | (refine hK.out _ _ ?_; clear hK K) | (refine iteI (fun h => hK.out _ _ ?_) (fun h => hK.out _ _ ?_) <;> clear hK K)))
      simp only [resultsR, resultsL, resultA, expK_int, expK_bool, expK_str, expK_agg, expK_own, expK_tsl, resK_some, go_sem, reduceIte, Nat.reduceAdd, Nat.reduceEqDiff, Nat.reduceLT, Nat.reduceLeDiff, and_self, ]
      rw [gIdx, if_pos hh.out]; rfl
    · have hh : Hold (¬ x.id = n) := ⟨hx⟩
      have hx' : (x.id == n) = false := by simpa using hx
      have hh2 : Hold (gIdx gs n 0 = gIdx (x :: post) n pre.length) := ⟨h2⟩
      clear hx h2
      repeat' (first | refine go1 ?_ | refine blockK_else rfl ?_ | (refine wpC_cond fun A B hA hB => ?_; simp only [go_sem, reduceIte, Nat.reduceAdd, Nat.reduceEqDiff, Nat.reduceLT, Nat.reduceLeDiff, *, and_self, getElem?_len, getElem?_lenAdd, set_len, set_lenAdd, len_mid, ints_len, List.length_map, lt_mid, List.nil_append, i1, w1, lt1, encG, hx']; first | (refine hA.out ?_; clear hA hB A B) | (refine hB.out ?_; clear hA hB A B) | (refine iteI (fun h => hA.out ?_) (fun h => hB.out ?_) <;> clear hA hB A B) | (refine iteI (fun h => hB.out ?_) (fun h => hA.out ?_) <;> clear hA hB A B)) | (refine wpO_cons fun K hK => ?_; simp only [go_sem, reduceIte, Nat.reduceAdd, Nat.reduceEqDiff, Nat.reduceLT, Nat.reduceLeDiff, *, and_self, getElem?_len, getElem?_lenAdd, set_len, set_lenAdd, len_mid, ints_len, List.length_map, lt_mid, List.nil_append, i1, w1, lt1, encG, hx']; first | (refine hK.out _ _ ?_; clear hK K) | (refine iteI (fun h => hK.out _ _ ?_) (fun h => hK.out _ _ ?_) <;> clear hK K)))
      refine each_next hh1.out ?_ ?_ ?_
      · rw [gIdx, if_neg hh.out, len_snoc]
      · ((try simp only [eraseA_cons, eraseA_nil, setL_cons, setL_nil, List.set_cons_zero, List.set_cons_succ]); all_goals (first | rfl | (simp only [len_snoc, ints_len, List.length_map, ]; done) | (simp only [len_snoc, len_mid, ints_len, List.length_map, List.length_append, List.length_cons, List.length_nil, Nat.zero_add, ]; done) | (simp only [len_mid, len_snoc, ints_len, List.length_map, List.length_append, List.length_cons, List.length_nil, Nat.zero_add, ]; rfl)))
      · first | exact ⟨[], (List.append_nil _).symm⟩ | exact ⟨_, rfl⟩ | (simp only [List.append_assoc, List.cons_append, List.nil_append]; exact ⟨_, rfl⟩)

theorem map_at {β : Type} (f : β → List AV) {l a b : List β} {x : β} (h : l = a ++ x :: b) : (l.map f)[a.length]? = some (f x) := by rw [h]; exact map_mid f a x b

theorem gIdx_cases (gs : List Grp) (n : Int) : (isG gs n = false ∧ codeOf (gIdx gs n 0) = -1) ∨ ∃ a b, isG gs n = true ∧ gs = a ++ fnd gs n :: b ∧ codeOf (gIdx gs n 0) = (a.length : Int) := by
  rcases gIdx_find gs n 0 with ⟨h1, h2⟩ | ⟨a, g, b, h1, h2, h3⟩
  · exact .inl ⟨by simp [isG, h2], by rw [h1]; rfl⟩
  · refine .inr ⟨a, b, by simp [isG, h3], ?_, by rw [h2]; simp [codeOf]⟩
    rw [fnd, h3]; exact h1

/-- Lists of Subs. -/
def InB (gs : List Grp) (l : List Int) : Prop := UpL l ∧ ∀ x ∈ l, x ∈ gs.flatMap (·.subs)
theorem subs_flat {gs : List Grp} (h : ∀ g ∈ gs, g.subs.length ≤ 1000) : (gs.flatMap (·.subs)).length ≤ gs.length * 1000 := by
  induction gs with
  | nil => simp
  | cons g gs ih =>
    have h1 := h g (by simp)
    have h2 := ih fun x hx => h x (by simp [hx])
    simp only [List.flatMap_cons, List.length_append, List.length_cons]
    omega
theorem InB.len {v : AV} {gs : List Grp} {l : List Int} (h : InB gs l) (hg : GsOK v gs) : l.length ≤ 1000000 := by
  have h1 := nodup_len (up_nodup h.1) h.2
  have h2 := subs_flat hg.subs
  have := hg.len
  omega
theorem InB.more {gs : List Grp} {l : List Int} (h : InB gs l) (x : Int) : InB gs (sorted (l ++ (fnd gs x).subs)) := by
  refine ⟨sorted_up _, fun y hy => ?_⟩
  rw [mem_sorted, List.mem_append] at hy
  rcases hy with hy | hy
  · exact h.2 y hy
  · rcases fnd_cases gs x with ⟨_, e⟩ | ⟨_, _, e⟩
    · rw [e] at hy; simp [noG] at hy
    · exact List.mem_flatMap.mpr ⟨_, e, hy⟩
theorem moreB_cons (gs : List Grp) (x : Int) (out more : List Int) : moreB gs (x :: out) more = moreB gs out (if isG gs x then sorted (more ++ (fnd gs x).subs) else more) := rfl
theorem get_app {S G : Store} {b : Nat} {x : Blk} (h : S[b]? = some x) : (S ++ G)[b]? = some x := by
  rw [List.getElem?_append_left (List.getElem?_eq_some_iff.1 h).1]; exact h

theorem belowRE {v : AV} {gs : List Grp} (h : GsOK v gs) (n : Int) : EvV CX 43 [v, .int .i64 n] (· = .osl 1 (ints (belowR gs n))) := by
  have hv := h.sl.cell
  have hvs := fun S => h.sl.snap (S := S)
  have hgl := h.len
  unfold belowR
  have q := (findR h n).rw
  obtain ⟨out0, h0⟩ : ∃ o, (if isG gs n = true then sorted (fnd gs n).subs else []) = o := ⟨_, rfl⟩
  have hi0 : InB gs out0 := by
    rw [← h0]
    split
    · have := InB.more (gs := gs) (l := []) ⟨up_nil, by simp⟩ n
      simpa using this
    · exact ⟨up_nil, by simp⟩
  rw [h0]
  refine EvV.walk rfl fn43 rfl nt43 rfl ?_
  simp only [List.length_cons, List.length_nil, List.cons_append, List.nil_append, Nat.reduceAdd, Nat.reduceSub, List.replicate]
  repeat' (first | refine go1 ?_ | refine blockK_else rfl ?_ | (refine wpO_cons fun K hK => ?_; simp only [go_sem, reduceIte, Nat.reduceAdd, Nat.reduceEqDiff, Nat.reduceLT, Nat.reduceLeDiff, *, wpK_assignN ty23 rfl, hv, hvs, q, adopt_int]; first | (refine hK.out _ _ ?_; clear hK K) | (refine iteI (fun h => hK.out _ _ ?_) (fun h => hK.out _ _ ?_) <;> clear hK K)))
  refine wpC_cut [13, 14, 15, 16, 17, 18, 19, 20] (fun p : Nat × Store => [(5, .sl p.1 out0.length 0 out0.length 1)]) (fun p _ => p.2) (fun p => p.2[p.1]? = some (.arr (ints out0) 1 0 true)) ?_ ?_
  · rcases gIdx_cases gs n with ⟨e1, e2⟩ | ⟨a, b, e1, e2, e3⟩
    · rw [e1] at h0
      subst h0
      have z : ¬ (0 : Int) ≤ -1 := by omega
      rw [e2]
      clear q e1 e2
      repeat' (first | refine go1 ?_ | refine blockK_else rfl ?_ | (refine wpC_cond fun A B hA hB => ?_; simp only [go_sem, reduceIte, Nat.reduceAdd, Nat.reduceEqDiff, Nat.reduceLT, Nat.reduceLeDiff, *, wpK_assignN ty23 rfl, ]; first | (refine hA.out ?_; clear hA hB A B) | (refine hB.out ?_; clear hA hB A B) | (refine iteI (fun h => hA.out ?_) (fun h => hB.out ?_) <;> clear hA hB A B) | (refine iteI (fun h => hB.out ?_) (fun h => hA.out ?_) <;> clear hA hB A B)) | (refine wpO_cons fun K hK => ?_; simp only [go_sem, reduceIte, Nat.reduceAdd, Nat.reduceEqDiff, Nat.reduceLT, Nat.reduceLeDiff, *, wpK_assignN ty23 rfl, ]; first | (refine hK.out _ _ ?_; clear hK K) | (refine iteI (fun h => hK.out _ _ ?_) (fun h => hK.out _ _ ?_) <;> clear hK K)))
      refine cut_next (1, _) ?_ ?_ ⟨[], rfl⟩
      · rfl
      · ((try simp only [eraseA_cons, eraseA_nil, setL_cons, setL_nil, List.set_cons_zero, List.set_cons_succ]); all_goals (first | rfl | (simp only [len_snoc, ints_len, List.length_map, ]; done) | (simp only [len_snoc, len_mid, ints_len, List.length_map, List.length_append, List.length_cons, List.length_nil, Nat.zero_add, ]; done) | (simp only [len_mid, len_snoc, ints_len, List.length_map, List.length_append, List.length_cons, List.length_nil, Nat.zero_add, ]; rfl)))
    · rw [e1] at h0
      simp only [if_true] at h0
      have i1 := idx_sls h.sl (X := CX) ty22 ty53 rfl (n := a.length) (row := encG (fnd gs n)) (k := .i64) (map_at encG e2)
      have z : (0 : Int) ≤ (a.length : Int) := by omega
      have g0 := fnd_ok h n
      have gl := fnd_len h n
      have q2 := (sorted1 _ _ g0.sv (by omega)).rw
      rw [h0] at q2
      have s2 := g0.sv.snap
      rw [e3]
      clear q e1 e2 e3 h0
      repeat' (first | refine go1 ?_ | refine blockK_else rfl ?_ | (refine wpC_cond fun A B hA hB => ?_; simp only [go_sem, reduceIte, Nat.reduceAdd, Nat.reduceEqDiff, Nat.reduceLT, Nat.reduceLeDiff, *, wpK_assignN ty23 rfl, hv, hvs, i1, encG, s2, q2]; first | (refine hA.out ?_; clear hA hB A B) | (refine hB.out ?_; clear hA hB A B) | (refine iteI (fun h => hA.out ?_) (fun h => hB.out ?_) <;> clear hA hB A B) | (refine iteI (fun h => hB.out ?_) (fun h => hA.out ?_) <;> clear hA hB A B)) | (refine wpO_cons fun K hK => ?_; simp only [go_sem, reduceIte, Nat.reduceAdd, Nat.reduceEqDiff, Nat.reduceLT, Nat.reduceLeDiff, *, wpK_assignN ty23 rfl, hv, hvs, i1, encG, s2, q2]; first | (refine hK.out _ _ ?_; clear hK K) | (refine iteI (fun h => hK.out _ _ ?_) (fun h => hK.out _ _ ?_) <;> clear hK K)))
      refine cut_next (2, _) ?_ ?_ ⟨[], rfl⟩
      · rfl
      · ((try simp only [eraseA_cons, eraseA_nil, setL_cons, setL_nil, List.set_cons_zero, List.set_cons_succ]); all_goals (first | rfl | (simp only [len_snoc, ints_len, List.length_map, ]; done) | (simp only [len_snoc, len_mid, ints_len, List.length_map, List.length_append, List.length_cons, List.length_nil, Nat.zero_add, ]; done) | (simp only [len_mid, len_snoc, ints_len, List.length_map, List.length_append, List.length_cons, List.length_nil, Nat.zero_add, ]; rfl)))
  rintro ⟨b0, S0⟩ g G hb0
  simp only at hb0
  simp only [garbA_cons, garbA_nil, setL_cons, setL_nil, List.set_cons_zero, List.set_cons_succ]
  clear q h0
  repeat' (first | refine go1 ?_ | refine blockK_else rfl ?_ | (refine wpO_cons fun K hK => ?_; simp only [go_sem, reduceIte, Nat.reduceAdd, Nat.reduceEqDiff, Nat.reduceLT, Nat.reduceLeDiff, *, wpK_assignN ty23 rfl, lenK_sls h.sl]; first | (refine hK.out _ _ ?_; clear hK K) | (refine iteI (fun h => hK.out _ _ ?_) (fun h => hK.out _ _ ?_) <;> clear hK K)))
  refine wpC_loopF [7, 8, 9, 24, 25, 26, 27, 28, 29, 30, 31, 32, 33, 34, 35, 36, 37, 38, 39, 40, 41, 42, 43, 44, 45, 46, 47, 48] (fun p : Nat × List Int × Nat × Store => [(5, .sl p.2.2.1 p.2.1.length 0 p.2.1.length 1), (23, .int .i64 p.1)]) (fun p _ => p.2.2.2)
    (fun p => p.1 ≤ gs.length ∧ InB gs p.2.1 ∧ rndB gs (gs.length - p.1) p.2.1 = rndB gs gs.length out0 ∧ p.2.2.2[p.2.2.1]? = some (.arr (ints p.2.1) 1 0 true)) (fun p => gs.length - p.1) (0, out0, b0, S0) ⟨Nat.zero_le _, hi0, rfl, hb0⟩ ?_ ⟨[], rfl⟩ ?_
  · ((try simp only [eraseA_cons, eraseA_nil, setL_cons, setL_nil, List.set_cons_zero, List.set_cons_succ]); all_goals (first | rfl | (simp only [len_snoc, ints_len, List.length_map, ]; done) | (simp only [len_snoc, len_mid, ints_len, List.length_map, List.length_append, List.length_cons, List.length_nil, Nat.zero_add, ]; done) | (simp only [len_mid, len_snoc, ints_len, List.length_map, List.length_append, List.length_cons, List.length_nil, Nat.zero_add, ]; rfl)))
  rintro ⟨k, out, b, S⟩ g G ⟨hk, hi, hr, hb⟩
  simp only at hk hi hr hb
  rw [← hr]
  clear hr hb0 hi0
  simp only [garbA_cons, garbA_nil, setL_cons, setL_nil, List.set_cons_zero, List.set_cons_succ]
  by_cases hkk : k = gs.length
  · subst hkk
    rw [Nat.sub_self, rndB]
    repeat' (first | refine go1 ?_ | refine blockK_else rfl ?_ | (refine wpC_cond fun A B hA hB => ?_; simp only [go_sem, reduceIte, Nat.reduceAdd, Nat.reduceEqDiff, Nat.reduceLT, Nat.reduceLeDiff, *, wpK_assignN ty23 rfl, Int.lt_irrefl, List.length_map]; first | (refine hA.out ?_; clear hA hB A B) | (refine hB.out ?_; clear hA hB A B) | (refine iteI (fun h => hA.out ?_) (fun h => hB.out ?_) <;> clear hA hB A B) | (refine iteI (fun h => hB.out ?_) (fun h => hA.out ?_) <;> clear hA hB A B)) | (refine wpO_cons fun K hK => ?_; simp only [go_sem, reduceIte, Nat.reduceAdd, Nat.reduceEqDiff, Nat.reduceLT, Nat.reduceLeDiff, *, wpK_assignN ty23 rfl, Int.lt_irrefl, List.length_map]; first | (refine hK.out _ _ ?_; clear hK K) | (refine iteI (fun h => hK.out _ _ ?_) (fun h => hK.out _ _ ?_) <;> clear hK K)))
    simp only [resultsR, resultsL, resultA, expK_int, expK_bool, expK_str, expK_agg, expK_own, expK_tsl, resK_some, go_sem, reduceIte, Nat.reduceAdd, Nat.reduceEqDiff, Nat.reduceLT, Nat.reduceLeDiff, wpK_assignN ty23 rfl, snap_sl, rowsOf_sl, ints_len, ints_take, List.take_length, Nat.zero_le, Nat.zero_add, Bool.true_or, hb]
  have lt1 : (k : Int) < (gs.length : Int) := by omega
  have hlen := hi.len h
  repeat' (first | refine go1 ?_ | refine blockK_else rfl ?_ | (refine wpO_cons fun K hK => ?_; simp only [go_sem, reduceIte, Nat.reduceAdd, Nat.reduceEqDiff, Nat.reduceLT, Nat.reduceLeDiff, *, wpK_assignN ty23 rfl, lt1, List.length_map]; first | (refine hK.out _ _ ?_; clear hK K) | (refine iteI (fun h => hK.out _ _ ?_) (fun h => hK.out _ _ ?_) <;> clear hK K)))
  (refine wpC_cond fun A B hA hB => ?_; simp only [go_sem, reduceIte, Nat.reduceAdd, Nat.reduceEqDiff, Nat.reduceLT, Nat.reduceLeDiff, *, wpK_assignN ty23 rfl, lt1]; first | (refine hA.out ?_; clear hA hB A B) | (refine hB.out ?_; clear hA hB A B))
  repeat' (first | refine go1 ?_ | refine blockK_else rfl ?_ | (refine wpO_cons fun K hK => ?_; simp only [go_sem, reduceIte, Nat.reduceAdd, Nat.reduceEqDiff, Nat.reduceLT, Nat.reduceLeDiff, *, wpK_assignN ty23 rfl, lenK_sl]; first | (refine hK.out _ _ ?_; clear hK K) | (refine iteI (fun h => hK.out _ _ ?_) (fun h => hK.out _ _ ?_) <;> clear hK K)))
  refine wpC_loopF [8, 9, 29, 30, 31, 32, 33, 34, 35, 36, 37, 38, 39, 40, 41, 42, 43, 44, 45, 46] (fun p : List Int × List Int × List Int × Nat × Store => [(7, .sl p.2.2.2.1 p.2.2.1.length 0 p.2.2.1.length 1), (28, .int .i64 p.1.length)]) (fun p _ => p.2.2.2.2)
    (fun p => out = p.1 ++ p.2.1 ∧ InB gs p.2.2.1 ∧ moreB gs p.2.1 p.2.2.1 = moreB gs out out ∧ p.2.2.2.2[b]? = some (.arr (ints out) 1 0 true) ∧ p.2.2.2.2[p.2.2.2.1]? = some (.arr (ints p.2.2.1) 1 0 true)) (fun p => p.2.1.length) ([], out, out, b, S) ⟨rfl, hi, rfl, hb, hb⟩ ?_ ⟨[], rfl⟩ ?_
  · ((try simp only [eraseA_cons, eraseA_nil, setL_cons, setL_nil, List.set_cons_zero, List.set_cons_succ]); all_goals (first | rfl | (simp only [len_snoc, ints_len, List.length_map, ]; done) | (simp only [len_snoc, len_mid, ints_len, List.length_map, List.length_append, List.length_cons, List.length_nil, Nat.zero_add, ]; done) | (simp only [len_mid, len_snoc, ints_len, List.length_map, List.length_append, List.length_cons, List.length_nil, Nat.zero_add, ]; rfl)))
  rintro ⟨pre, post, more, b2, S2⟩ g G ⟨h1, h2, h3, h4, h5⟩
  simp only at h1 h2 h3 h4 h5
  clear hb
  simp only [garbA_cons, garbA_nil, setL_cons, setL_nil, List.set_cons_zero, List.set_cons_succ]
  cases post with
  | nil =>
    rw [List.append_nil] at h1
    have e : (out.length : Int) = (pre.length : Int) := by rw [h1]
    have hh : Hold (moreB gs out out = more) := ⟨h3.symm⟩
    clear h1 h3
    have w1 := wrap_succ (n := k) (by omega)
    repeat' (first | refine go1 ?_ | refine blockK_else rfl ?_ | (refine wpC_cond fun A B hA hB => ?_; simp only [go_sem, reduceIte, Nat.reduceAdd, Nat.reduceEqDiff, Nat.reduceLT, Nat.reduceLeDiff, *, wpK_assignN ty23 rfl, e, Int.lt_irrefl, w1]; first | (refine hA.out ?_; clear hA hB A B) | (refine hB.out ?_; clear hA hB A B) | (refine iteI (fun h => hA.out ?_) (fun h => hB.out ?_) <;> clear hA hB A B) | (refine iteI (fun h => hB.out ?_) (fun h => hA.out ?_) <;> clear hA hB A B)) | (refine wpO_cons fun K hK => ?_; simp only [go_sem, reduceIte, Nat.reduceAdd, Nat.reduceEqDiff, Nat.reduceLT, Nat.reduceLeDiff, *, wpK_assignN ty23 rfl, e, Int.lt_irrefl, w1]; first | (refine hK.out _ _ ?_; clear hK K) | (refine iteI (fun h => hK.out _ _ ?_) (fun h => hK.out _ _ ?_) <;> clear hK K)))
    refine loopF_next (k + 1, more, b2, S2) (by simp only; omega) ⟨by simp only; omega, h2, ?_, h5⟩ ?_ ⟨[], rfl⟩
    · obtain ⟨j, hj⟩ : ∃ j, gs.length - k = j + 1 := ⟨gs.length - k - 1, by omega⟩
      have hj2 : gs.length - (k + 1) = j := by omega
      simp only [hj2, hj, rndB, hh.out]
    · ((try simp only [eraseA_cons, eraseA_nil, setL_cons, setL_nil, List.set_cons_zero, List.set_cons_succ]); all_goals (first | rfl | (simp only [len_snoc, ints_len, List.length_map, ]; done) | (simp only [len_snoc, len_mid, ints_len, List.length_map, List.length_append, List.length_cons, List.length_nil, Nat.zero_add, ]; done) | (simp only [len_mid, len_snoc, ints_len, List.length_map, List.length_append, List.length_cons, List.length_nil, Nat.zero_add, ]; rfl)))
  | cons x post =>
    have hlp : pre.length < out.length := by rw [h1]; simp
    have i1 := idxS (b := b) (n := out.length) (off := 0) (len := out.length) (j := pre.length) (k := .i64) hlp
    have i2 : (ints out)[pre.length]? = some [.int .i64 x] := by rw [h1]; exact ints_mid pre x post
    have lt2 : (pre.length : Int) < (out.length : Int) := by omega
    have w1 := wrap_succ (n := pre.length) (by omega)
    have q := (findR h x).rw
    have hh1 : Hold (out = (pre ++ [x]) ++ post) := ⟨by rw [h1]; simp⟩
    have hm := h2.len h
    clear h1
    rw [moreB_cons] at h3
    rcases gIdx_cases gs x with ⟨e1, e2⟩ | ⟨a, c, e1, e2, e3⟩
    · rw [e1] at h3
      rw [e2] at q
      have hh3 : Hold (moreB gs post more = moreB gs out out) := ⟨h3⟩
      have z : ¬ (0 : Int) ≤ -1 := by omega
      clear h3 e1 e2
      repeat' (first | refine go1 ?_ | refine blockK_else rfl ?_ | (refine wpC_cond fun A B hA hB => ?_; simp only [go_sem, reduceIte, Nat.reduceAdd, Nat.reduceEqDiff, Nat.reduceLT, Nat.reduceLeDiff, *, wpK_assignN ty23 rfl, hv, hvs, i1, i2, lt2, hlp, w1, q, adopt_int, z]; first | (refine hA.out ?_; clear hA hB A B) | (refine hB.out ?_; clear hA hB A B) | (refine iteI (fun h => hA.out ?_) (fun h => hB.out ?_) <;> clear hA hB A B) | (refine iteI (fun h => hB.out ?_) (fun h => hA.out ?_) <;> clear hA hB A B)) | (refine wpO_cons fun K hK => ?_; simp only [go_sem, reduceIte, Nat.reduceAdd, Nat.reduceEqDiff, Nat.reduceLT, Nat.reduceLeDiff, *, wpK_assignN ty23 rfl, hv, hvs, i1, i2, lt2, hlp, w1, q, adopt_int, z]; first | (refine hK.out _ _ ?_; clear hK K) | (refine iteI (fun h => hK.out _ _ ?_) (fun h => hK.out _ _ ?_) <;> clear hK K)))
      repeat' (first | refine go1 ?_ | refine blockK_else rfl ?_ | (refine wpC_cond fun A B hA hB => ?_; simp only [go_sem, reduceIte, Nat.reduceAdd, Nat.reduceEqDiff, Nat.reduceLT, Nat.reduceLeDiff, *, wpK_assignN ty23 rfl, hv, hvs, i1, i2, lt2, hlp, w1, q, adopt_int, z, snap_sl, rowsOf_sl, ints_len, ints_take, List.take_length, Nat.zero_le, Nat.zero_add, Bool.true_or]; first | (refine hA.out ?_; clear hA hB A B) | (refine hB.out ?_; clear hA hB A B) | (refine iteI (fun h => hA.out ?_) (fun h => hB.out ?_) <;> clear hA hB A B) | (refine iteI (fun h => hB.out ?_) (fun h => hA.out ?_) <;> clear hA hB A B)) | (refine wpO_cons fun K hK => ?_; simp only [go_sem, reduceIte, Nat.reduceAdd, Nat.reduceEqDiff, Nat.reduceLT, Nat.reduceLeDiff, *, wpK_assignN ty23 rfl, hv, hvs, i1, i2, lt2, hlp, w1, q, adopt_int, z, snap_sl, rowsOf_sl, ints_len, ints_take, List.take_length, Nat.zero_le, Nat.zero_add, Bool.true_or]; first | (refine hK.out _ _ ?_; clear hK K) | (refine iteI (fun h => hK.out _ _ ?_) (fun h => hK.out _ _ ?_) <;> clear hK K)))
      refine loopF_next (pre ++ [x], post, more, b2, S2) (Nat.lt_succ_self _) ⟨hh1.out, h2, hh3.out, h4, h5⟩ ?_ ⟨[], rfl⟩
      · ((try simp only [eraseA_cons, eraseA_nil, setL_cons, setL_nil, List.set_cons_zero, List.set_cons_succ]); all_goals (first | rfl | (simp only [len_snoc, ints_len, List.length_map, ]; done) | (simp only [len_snoc, len_mid, ints_len, List.length_map, List.length_append, List.length_cons, List.length_nil, Nat.zero_add, ]; done) | (simp only [len_mid, len_snoc, ints_len, List.length_map, List.length_append, List.length_cons, List.length_nil, Nat.zero_add, ]; rfl)))
    · rw [e1] at h3
      rw [e3] at q
      have hh3 : Hold (moreB gs post (sorted (more ++ (fnd gs x).subs)) = moreB gs out out) := ⟨h3⟩
      have z : (0 : Int) ≤ (a.length : Int) := by omega
      have j1 := idx_sls h.sl (X := CX) ty22 ty53 rfl (n := a.length) (row := encG (fnd gs x)) (k := .i64) (map_at encG e2)
      have g0 := fnd_ok h x
      have gl := fnd_len h x
      have s2 := g0.sv.snap
      have q2 := (union1 (.tsl false 1 (ints more)) _ more _ (.rows false) g0.sv (by omega) (by omega)).rw
      clear h3 e1 e2 e3
      repeat' (first | refine go1 ?_ | refine blockK_else rfl ?_ | (refine wpC_cond fun A B hA hB => ?_; simp only [go_sem, reduceIte, Nat.reduceAdd, Nat.reduceEqDiff, Nat.reduceLT, Nat.reduceLeDiff, *, wpK_assignN ty23 rfl, hv, hvs, i1, i2, lt2, hlp, w1, q, adopt_int, z, j1, encG, s2, snap_sl, rowsOf_sl, ints_len, ints_take, List.take_length, Nat.zero_le, Nat.zero_add, Bool.true_or, q2]; first | (refine hA.out ?_; clear hA hB A B) | (refine hB.out ?_; clear hA hB A B) | (refine iteI (fun h => hA.out ?_) (fun h => hB.out ?_) <;> clear hA hB A B) | (refine iteI (fun h => hB.out ?_) (fun h => hA.out ?_) <;> clear hA hB A B)) | (refine wpO_cons fun K hK => ?_; simp only [go_sem, reduceIte, Nat.reduceAdd, Nat.reduceEqDiff, Nat.reduceLT, Nat.reduceLeDiff, *, wpK_assignN ty23 rfl, hv, hvs, i1, i2, lt2, hlp, w1, q, adopt_int, z, j1, encG, s2, snap_sl, rowsOf_sl, ints_len, ints_take, List.take_length, Nat.zero_le, Nat.zero_add, Bool.true_or, q2]; first | (refine hK.out _ _ ?_; clear hK K) | (refine iteI (fun h => hK.out _ _ ?_) (fun h => hK.out _ _ ?_) <;> clear hK K)))
      refine loopF_next (pre ++ [x], post, sorted (more ++ (fnd gs x).subs), S2.length, _) (Nat.lt_succ_self _) ⟨hh1.out, h2.more x, hh3.out, get_app h4, ?_⟩ ?_ ⟨[], rfl⟩
      · simp
      · ((try simp only [eraseA_cons, eraseA_nil, setL_cons, setL_nil, List.set_cons_zero, List.set_cons_succ]); all_goals (first | rfl | (simp only [len_snoc, ints_len, List.length_map, ]; done) | (simp only [len_snoc, len_mid, ints_len, List.length_map, List.length_append, List.length_cons, List.length_nil, Nat.zero_add, ]; done) | (simp only [len_mid, len_snoc, ints_len, List.length_map, List.length_append, List.length_cons, List.length_nil, Nat.zero_add, ]; rfl)))

/- Groups: the reference's Members, In, Of. -/
open Go.Proofs
attribute [local go_sem] br43 fz100 fz102 fz71 br42 br46 fz72
set_option maxHeartbeats 4000000

/-- Lists of People. -/
def InP (gs : List Grp) (l : List Int) : Prop := UpL l ∧ ∀ x ∈ l, x ∈ gs.flatMap (·.people)
theorem ppl_flat {gs : List Grp} (h : ∀ g ∈ gs, g.people.length ≤ 1000) : (gs.flatMap (·.people)).length ≤ gs.length * 1000 := by
  induction gs with
  | nil => simp
  | cons g gs ih =>
    have h1 := h g (by simp)
    have h2 := ih fun x hx => h x (by simp [hx])
    simp only [List.flatMap_cons, List.length_append, List.length_cons]
    omega
theorem InP.len {v : AV} {gs : List Grp} {l : List Int} (h : InP gs l) (hg : GsOK v gs) : l.length ≤ 1000000 := by
  have h1 := nodup_len (up_nodup h.1) h.2
  have h2 := ppl_flat hg.ppl
  have := hg.len
  omega
theorem InP.more {gs : List Grp} {l : List Int} (h : InP gs l) (x : Int) : InP gs (sorted (l ++ (fnd gs x).people)) := by
  refine ⟨sorted_up _, fun y hy => ?_⟩
  rw [mem_sorted, List.mem_append] at hy
  rcases hy with hy | hy
  · exact h.2 y hy
  · rcases fnd_cases gs x with ⟨_, e⟩ | ⟨_, _, e⟩
    · rw [e] at hy; simp [noG] at hy
    · exact List.mem_flatMap.mpr ⟨_, e, hy⟩
theorem unionP_cons (gs : List Grp) (x : Int) (l out : List Int) : unionP gs (x :: l) out = unionP gs l (if isG gs x then sorted (out ++ (fnd gs x).people) else out) := rfl
theorem rndB_in {gs : List Grp} : ∀ (k : Nat) {out : List Int}, InB gs out → InB gs (rndB gs k out)
  | 0, _, h => h
  | k + 1, out, h => by
    refine rndB_in k ⟨moreB_up h.1, fun y hy => ?_⟩
    rcases mem_moreB.mp hy with h1 | ⟨x, h1, h2, h3⟩
    · exact h.2 y h1
    · rcases fnd_cases gs x with ⟨_, e⟩ | ⟨_, _, e⟩
      · rw [e] at h3; simp [noG] at h3
      · exact List.mem_flatMap.mpr ⟨_, e, h3⟩
theorem belowR_in (gs : List Grp) (n : Int) : InB gs (belowR gs n) := by
  unfold belowR
  refine rndB_in _ ?_
  split
  · have := InB.more (gs := gs) (l := []) ⟨up_nil, by simp⟩ n
    simpa using this
  · exact ⟨up_nil, by simp⟩
theorem unionP_in {gs : List Grp} : ∀ (l : List Int) {out : List Int}, InP gs out → InP gs (unionP gs l out)
  | [], _, h => h
  | x :: l, out, h => by
    rw [unionP_cons]
    refine unionP_in l ?_
    split
    · exact h.more x
    · exact h
theorem membersR_in (gs : List Grp) (n : Int) : InP gs (membersR gs n) := by
  unfold membersR
  split
  · exact unionP_in _ ⟨up_nil, by simp⟩
  · exact ⟨up_nil, by simp⟩

theorem membersRE {v : AV} {gs : List Grp} (h : GsOK v gs) (n : Int) : EvV CX 46 [v, .int .i64 n] (· = .osl 1 (ints (membersR gs n))) := by
  have hv := h.sl.cell
  have hvs := fun S => h.sl.snap (S := S)
  have hgl := h.len
  unfold membersR
  have q := (findR h n).rw
  rcases gIdx_cases gs n with ⟨e1, e2⟩ | ⟨a, b, e1, e2, e3⟩
  · rw [e2] at q
    rw [e1]
    have z : (-1 : Int) < 0 := by omega
    clear e1 e2
    refine EvV.walk rfl fn46 rfl nt46 rfl ?_
    simp only [List.length_cons, List.length_nil, List.cons_append, List.nil_append, Nat.reduceAdd, Nat.reduceSub, List.replicate]
    repeat' (first | refine go1 ?_ | refine blockK_else rfl ?_ | (refine wpC_cond fun A B hA hB => ?_; simp only [go_sem, reduceIte, Nat.reduceAdd, Nat.reduceEqDiff, Nat.reduceLT, Nat.reduceLeDiff, *, wpK_assignN ty23 rfl, hv, hvs, q, adopt_int, z]; first | (refine hA.out ?_; clear hA hB A B) | (refine hB.out ?_; clear hA hB A B) | (refine iteI (fun h => hA.out ?_) (fun h => hB.out ?_) <;> clear hA hB A B) | (refine iteI (fun h => hB.out ?_) (fun h => hA.out ?_) <;> clear hA hB A B)) | (refine wpO_cons fun K hK => ?_; simp only [go_sem, reduceIte, Nat.reduceAdd, Nat.reduceEqDiff, Nat.reduceLT, Nat.reduceLeDiff, *, wpK_assignN ty23 rfl, hv, hvs, q, adopt_int, z]; first | (refine hK.out _ _ ?_; clear hK K) | (refine iteI (fun h => hK.out _ _ ?_) (fun h => hK.out _ _ ?_) <;> clear hK K)))
    simp only [resultsR, resultsL, resultA, expK_int, expK_bool, expK_str, expK_agg, expK_own, expK_tsl, resK_some, go_sem, reduceIte, Nat.reduceAdd, Nat.reduceEqDiff, Nat.reduceLT, Nat.reduceLeDiff, wpK_assignN ty23 rfl, snap_sl, rowsOf_sl, ints_len, ints_take, List.take_length, Nat.zero_le, Nat.zero_add, Bool.true_or]
    rfl
  have qb := (belowRE h n).rw
  have hbi := (belowR_in gs n).len h
  have qp := (put1 false (belowR gs n) n (by omega)).rw
  have hpl := put_len (belowR gs n) n
  rw [if_pos e1]
  rw [e3] at q
  obtain ⟨B, hB⟩ : ∃ B, belowR gs n = B := ⟨_, rfl⟩
  obtain ⟨all, hA⟩ : ∃ A, put B n = A := ⟨_, rfl⟩
  rw [hB] at qb qp hbi hpl ⊢
  rw [hA] at qp hpl ⊢
  have z : ¬ (a.length : Int) < 0 := by omega
  clear e1 e2 e3 hB hA
  refine EvV.walk rfl fn46 rfl nt46 rfl ?_
  simp only [List.length_cons, List.length_nil, List.cons_append, List.nil_append, Nat.reduceAdd, Nat.reduceSub, List.replicate]
  repeat' (first | refine go1 ?_ | refine blockK_else rfl ?_ | (refine wpO_cons fun K hK => ?_; simp only [go_sem, reduceIte, Nat.reduceAdd, Nat.reduceEqDiff, Nat.reduceLT, Nat.reduceLeDiff, *, wpK_assignN ty23 rfl, hv, hvs, q, adopt_int]; first | (refine hK.out _ _ ?_; clear hK K) | (refine iteI (fun h => hK.out _ _ ?_) (fun h => hK.out _ _ ?_) <;> clear hK K)))
  (refine wpC_cond fun A B hA hB => ?_; simp only [go_sem, reduceIte, Nat.reduceAdd, Nat.reduceEqDiff, Nat.reduceLT, Nat.reduceLeDiff, *, wpK_assignN ty23 rfl, z]; first | (refine hA.out ?_; clear hA hB A B) | (refine hB.out ?_; clear hA hB A B))
  repeat' (first | refine go1 ?_ | refine blockK_else rfl ?_ | (refine wpO_cons fun K hK => ?_; simp only [go_sem, reduceIte, Nat.reduceAdd, Nat.reduceEqDiff, Nat.reduceLT, Nat.reduceLeDiff, *, wpK_assignN ty23 rfl, hv, hvs, qb, qp, adopt_osl, snap_sl, rowsOf_sl, ints_len, ints_take, List.take_length, Nat.zero_le, Nat.zero_add, Bool.true_or, lenK_sl]; first | (refine hK.out _ _ ?_; clear hK K) | (refine iteI (fun h => hK.out _ _ ?_) (fun h => hK.out _ _ ?_) <;> clear hK K)))
  refine wpC_loopF [7, 8, 21, 22, 23, 24, 25, 26, 27, 28, 29, 30, 31, 32, 33, 34, 35, 36, 37, 38] (fun p : List Int × List Int × List Int × Nat × Store => [(6, .sl p.2.2.2.1 p.2.2.1.length 0 p.2.2.1.length 1), (20, .int .i64 p.1.length)]) (fun p _ => p.2.2.2.2)
    (fun p => all = p.1 ++ p.2.1 ∧ InP gs p.2.2.1 ∧ unionP gs p.2.1 p.2.2.1 = unionP gs all [] ∧ p.2.2.2.2[2]? = some (.arr (ints all) 1 0 true) ∧ p.2.2.2.2[p.2.2.2.1]? = some (.arr (ints p.2.2.1) 1 0 true)) (fun p => p.2.1.length) ([], all, [], 3, [.arr [] 1 0 true, .arr (ints B) 1 0 true, .arr (ints all) 1 0 true, .arr [] 1 0 true]) ⟨rfl, ⟨up_nil, by simp⟩, rfl, rfl, rfl⟩ ?_ ⟨[], rfl⟩ ?_
  · ((try simp only [eraseA_cons, eraseA_nil, setL_cons, setL_nil, List.set_cons_zero, List.set_cons_succ]); all_goals (first | rfl | (simp only [len_snoc, ints_len, List.length_map, ]; done) | (simp only [len_snoc, len_mid, ints_len, List.length_map, List.length_append, List.length_cons, List.length_nil, Nat.zero_add, ]; done) | (simp only [len_mid, len_snoc, ints_len, List.length_map, List.length_append, List.length_cons, List.length_nil, Nat.zero_add, ]; rfl)))
  clear q qb qp
  rintro ⟨pre, post, out, b2, S2⟩ g G ⟨h1, h2, h3, h4, h5⟩
  simp only at h1 h2 h3 h4 h5
  simp only [garbA_cons, garbA_nil, setL_cons, setL_nil, List.set_cons_zero, List.set_cons_succ]
  cases post with
  | nil =>
    rw [List.append_nil] at h1
    have e : (all.length : Int) = (pre.length : Int) := by rw [h1]
    have hh : Hold (unionP gs all [] = out) := ⟨h3.symm⟩
    rw [hh.out]
    clear h1 h3
    repeat' (first | refine go1 ?_ | refine blockK_else rfl ?_ | (refine wpC_cond fun A B hA hB => ?_; simp only [go_sem, reduceIte, Nat.reduceAdd, Nat.reduceEqDiff, Nat.reduceLT, Nat.reduceLeDiff, *, wpK_assignN ty23 rfl, e, Int.lt_irrefl]; first | (refine hA.out ?_; clear hA hB A B) | (refine hB.out ?_; clear hA hB A B) | (refine iteI (fun h => hA.out ?_) (fun h => hB.out ?_) <;> clear hA hB A B) | (refine iteI (fun h => hB.out ?_) (fun h => hA.out ?_) <;> clear hA hB A B)) | (refine wpO_cons fun K hK => ?_; simp only [go_sem, reduceIte, Nat.reduceAdd, Nat.reduceEqDiff, Nat.reduceLT, Nat.reduceLeDiff, *, wpK_assignN ty23 rfl, e, Int.lt_irrefl]; first | (refine hK.out _ _ ?_; clear hK K) | (refine iteI (fun h => hK.out _ _ ?_) (fun h => hK.out _ _ ?_) <;> clear hK K)))
    simp only [resultsR, resultsL, resultA, expK_int, expK_bool, expK_str, expK_agg, expK_own, expK_tsl, resK_some, go_sem, reduceIte, Nat.reduceAdd, Nat.reduceEqDiff, Nat.reduceLT, Nat.reduceLeDiff, wpK_assignN ty23 rfl, snap_sl, rowsOf_sl, ints_len, ints_take, List.take_length, Nat.zero_le, Nat.zero_add, Bool.true_or, h5]
  | cons x post =>
    have hlp : pre.length < all.length := by rw [h1]; simp
    have i1 := idxS (b := 2) (n := all.length) (off := 0) (len := all.length) (j := pre.length) (k := .i64) hlp
    have i2 : (ints all)[pre.length]? = some [.int .i64 x] := by rw [h1]; exact ints_mid pre x post
    have lt2 : (pre.length : Int) < (all.length : Int) := by omega
    have w1 := wrap_succ (n := pre.length) (by omega)
    have q := (findR h x).rw
    have hh1 : Hold (all = (pre ++ [x]) ++ post) := ⟨by rw [h1]; simp⟩
    have hm := h2.len h
    clear h1
    rw [unionP_cons] at h3
    rcases gIdx_cases gs x with ⟨e1, e2⟩ | ⟨a, c, e1, e2, e3⟩
    · rw [e1] at h3
      rw [e2] at q
      have hh3 : Hold (unionP gs post out = unionP gs all []) := ⟨h3⟩
      have z : ¬ (0 : Int) ≤ -1 := by omega
      clear h3 e1 e2
      repeat' (first | refine go1 ?_ | refine blockK_else rfl ?_ | (refine wpC_cond fun A B hA hB => ?_; simp only [go_sem, reduceIte, Nat.reduceAdd, Nat.reduceEqDiff, Nat.reduceLT, Nat.reduceLeDiff, *, wpK_assignN ty23 rfl, hv, hvs, i1, i2, lt2, hlp, w1, q, adopt_int, z, snap_sl, rowsOf_sl, ints_len, ints_take, List.take_length, Nat.zero_le, Nat.zero_add, Bool.true_or]; first | (refine hA.out ?_; clear hA hB A B) | (refine hB.out ?_; clear hA hB A B) | (refine iteI (fun h => hA.out ?_) (fun h => hB.out ?_) <;> clear hA hB A B) | (refine iteI (fun h => hB.out ?_) (fun h => hA.out ?_) <;> clear hA hB A B)) | (refine wpO_cons fun K hK => ?_; simp only [go_sem, reduceIte, Nat.reduceAdd, Nat.reduceEqDiff, Nat.reduceLT, Nat.reduceLeDiff, *, wpK_assignN ty23 rfl, hv, hvs, i1, i2, lt2, hlp, w1, q, adopt_int, z, snap_sl, rowsOf_sl, ints_len, ints_take, List.take_length, Nat.zero_le, Nat.zero_add, Bool.true_or]; first | (refine hK.out _ _ ?_; clear hK K) | (refine iteI (fun h => hK.out _ _ ?_) (fun h => hK.out _ _ ?_) <;> clear hK K)))
      refine loopF_next (pre ++ [x], post, out, b2, S2) (Nat.lt_succ_self _) ⟨hh1.out, h2, hh3.out, h4, h5⟩ ?_ ⟨[], rfl⟩
      · ((try simp only [eraseA_cons, eraseA_nil, setL_cons, setL_nil, List.set_cons_zero, List.set_cons_succ]); all_goals (first | rfl | (simp only [len_snoc, ints_len, List.length_map, ]; done) | (simp only [len_snoc, len_mid, ints_len, List.length_map, List.length_append, List.length_cons, List.length_nil, Nat.zero_add, ]; done) | (simp only [len_mid, len_snoc, ints_len, List.length_map, List.length_append, List.length_cons, List.length_nil, Nat.zero_add, ]; rfl)))
    · rw [e1] at h3
      rw [e3] at q
      have hh3 : Hold (unionP gs post (sorted (out ++ (fnd gs x).people)) = unionP gs all []) := ⟨h3⟩
      have z : (0 : Int) ≤ (a.length : Int) := by omega
      have j1 := idx_sls h.sl (X := CX) ty22 ty53 rfl (n := a.length) (row := encG (fnd gs x)) (k := .i64) (map_at encG e2)
      have g0 := fnd_ok h x
      have gl := fnd_ppl h x
      have s2 := g0.pv.snap
      have q2 := (union1 (.tsl false 1 (ints out)) _ out _ (.rows false) g0.pv (by omega) (by omega)).rw
      clear h3 e1 e2 e3
      repeat' (first | refine go1 ?_ | refine blockK_else rfl ?_ | (refine wpC_cond fun A B hA hB => ?_; simp only [go_sem, reduceIte, Nat.reduceAdd, Nat.reduceEqDiff, Nat.reduceLT, Nat.reduceLeDiff, *, wpK_assignN ty23 rfl, hv, hvs, i1, i2, lt2, hlp, w1, q, adopt_int, z, j1, encG, s2, snap_sl, rowsOf_sl, ints_len, ints_take, List.take_length, Nat.zero_le, Nat.zero_add, Bool.true_or, q2]; first | (refine hA.out ?_; clear hA hB A B) | (refine hB.out ?_; clear hA hB A B) | (refine iteI (fun h => hA.out ?_) (fun h => hB.out ?_) <;> clear hA hB A B) | (refine iteI (fun h => hB.out ?_) (fun h => hA.out ?_) <;> clear hA hB A B)) | (refine wpO_cons fun K hK => ?_; simp only [go_sem, reduceIte, Nat.reduceAdd, Nat.reduceEqDiff, Nat.reduceLT, Nat.reduceLeDiff, *, wpK_assignN ty23 rfl, hv, hvs, i1, i2, lt2, hlp, w1, q, adopt_int, z, j1, encG, s2, snap_sl, rowsOf_sl, ints_len, ints_take, List.take_length, Nat.zero_le, Nat.zero_add, Bool.true_or, q2]; first | (refine hK.out _ _ ?_; clear hK K) | (refine iteI (fun h => hK.out _ _ ?_) (fun h => hK.out _ _ ?_) <;> clear hK K)))
      refine loopF_next (pre ++ [x], post, sorted (out ++ (fnd gs x).people), S2.length, _) (Nat.lt_succ_self _) ⟨hh1.out, h2.more x, hh3.out, get_app h4, ?_⟩ ?_ ⟨[], rfl⟩
      · simp
      · ((try simp only [eraseA_cons, eraseA_nil, setL_cons, setL_nil, List.set_cons_zero, List.set_cons_succ]); all_goals (first | rfl | (simp only [len_snoc, ints_len, List.length_map, ]; done) | (simp only [len_snoc, len_mid, ints_len, List.length_map, List.length_append, List.length_cons, List.length_nil, Nat.zero_add, ]; done) | (simp only [len_mid, len_snoc, ints_len, List.length_map, List.length_append, List.length_cons, List.length_nil, Nat.zero_add, ]; rfl)))

theorem inRE {v : AV} {gs : List Grp} (h : GsOK v gs) (n p : Int) : EvV CX 32 [v, .int .i64 n, .int .i64 p] (· = .bool ((membersR gs n).contains p)) := by
  have hv := h.sl.cell
  have hvs := fun S => h.sl.snap (S := S)
  have q := (membersRE h n).rw
  have hl := (membersR_in gs n).len h
  have q2 := (has1 (.tsl false 1 (ints (membersR gs n))) _ p (.rows false) (by omega)).rw
  refine EvV.walk rfl fn32 rfl nt32 rfl ?_
  simp only [List.length_cons, List.length_nil, List.cons_append, List.nil_append, Nat.reduceAdd, Nat.reduceSub, List.replicate]
  repeat' (first | refine go1 ?_ | refine blockK_else rfl ?_ | (refine wpC_cond fun A B hA hB => ?_; simp only [go_sem, reduceIte, Nat.reduceAdd, Nat.reduceEqDiff, Nat.reduceLT, Nat.reduceLeDiff, *, and_self, hv, hvs, q, q2, adopt_osl, snap_sl, rowsOf_sl, ints_len, ints_take, List.take_length, Nat.zero_le, Nat.zero_add, Bool.true_or]; first | (refine hA.out ?_; clear hA hB A B) | (refine hB.out ?_; clear hA hB A B) | (refine iteI (fun h => hA.out ?_) (fun h => hB.out ?_) <;> clear hA hB A B) | (refine iteI (fun h => hB.out ?_) (fun h => hA.out ?_) <;> clear hA hB A B)) | (refine wpO_cons fun K hK => ?_; simp only [go_sem, reduceIte, Nat.reduceAdd, Nat.reduceEqDiff, Nat.reduceLT, Nat.reduceLeDiff, *, and_self, hv, hvs, q, q2, adopt_osl, snap_sl, rowsOf_sl, ints_len, ints_take, List.take_length, Nat.zero_le, Nat.zero_add, Bool.true_or]; first | (refine hK.out _ _ ?_; clear hK K) | (refine iteI (fun h => hK.out _ _ ?_) (fun h => hK.out _ _ ?_) <;> clear hK K)))
  simp only [resultsR, resultsL, resultA, expK_int, expK_bool, expK_str, expK_agg, expK_own, expK_tsl, resK_some, go_sem, reduceIte, Nat.reduceAdd, Nat.reduceEqDiff, Nat.reduceLT, Nat.reduceLeDiff, and_self, ]

/-- The reference's Of. -/
def ofR (gs l : List Grp) (p : Int) : List Int := ((l.filter fun g => (membersR gs g.id).contains p).map (·.id)).foldl put []
theorem ofR_len (gs l : List Grp) (p : Int) : (ofR gs l p).length ≤ l.length := by
  have h1 := puts_len ((l.filter fun g => (membersR gs g.id).contains p).map (·.id)) []
  have h2 := List.length_filter_le (fun g => (membersR gs g.id).contains p) l
  unfold ofR
  simp only [List.length_map, List.length_nil] at h1
  omega
theorem ofR_snoc (gs l : List Grp) (p : Int) (x : Grp) : ofR gs (l ++ [x]) p = if (membersR gs x.id).contains p then put (ofR gs l p) x.id else ofR gs l p := by
  unfold ofR
  rw [List.filter_append, List.map_append, List.foldl_append]
  by_cases h : (membersR gs x.id).contains p = true
  · simp only [List.filter_cons, List.filter_nil, h, if_true]; rfl
  · simp only [List.filter_cons, List.filter_nil, h, if_false]; rfl

/- Persons; increasing lists as the code tests them. -/
open Go.Proofs
attribute [local go_sem] ty31 ty49 ty63 br36 br37 allocK fz63 fz105
set_option maxHeartbeats 4000000

structure Psn where
  id : Int
  name : ByteArray
  mem : Bool
def encP (p : Psn) : List AV := [.int .i64 p.id, .str p.name, .bool p.mem]

theorem person1E (p : Psn) (n : Int) (st : Bool) : EvV CX 37 [.agg (encP p), .tptr st [.int .i64 n] 0] (· = .bool (p.id == n)) := by
  refine EvV.walk rfl fn37 rfl nt37 rfl ?_
  simp only [List.length_cons, List.length_nil, List.cons_append, List.nil_append, Nat.reduceAdd, Nat.reduceSub, List.replicate]
  repeat' (first | refine go1 ?_ | refine blockK_else rfl ?_ | (refine wpC_cond fun A B hA hB => ?_; simp only [go_sem, reduceIte, Nat.reduceAdd, Nat.reduceEqDiff, Nat.reduceLT, Nat.reduceLeDiff, *, and_self, encP]; first | (refine hA.out ?_; clear hA hB A B) | (refine hB.out ?_; clear hA hB A B) | (refine iteI (fun h => hA.out ?_) (fun h => hB.out ?_) <;> clear hA hB A B) | (refine iteI (fun h => hB.out ?_) (fun h => hA.out ?_) <;> clear hA hB A B)) | (refine wpO_cons fun K hK => ?_; simp only [go_sem, reduceIte, Nat.reduceAdd, Nat.reduceEqDiff, Nat.reduceLT, Nat.reduceLeDiff, *, and_self, encP]; first | (refine hK.out _ _ ?_; clear hK K) | (refine iteI (fun h => hK.out _ _ ?_) (fun h => hK.out _ _ ?_) <;> clear hK K)))
  simp only [resultsR, resultsL, resultA, expK_int, expK_bool, expK_str, expK_agg, expK_own, expK_tsl, resK_some, go_sem, reduceIte, Nat.reduceAdd, Nat.reduceEqDiff, Nat.reduceLT, Nat.reduceLeDiff, and_self, ]

def pIdx (l : List Psn) (n : Int) : Nat → Option Nat
  | k => match l with
    | [] => none
    | g :: l => if g.id = n then some k else pIdx l n (k + 1)

theorem indexPE (v : AV) (ps : List Psn) (n : Int) (st : Bool) (hv : SLs 3 (ps.map encP) v) (hl : ps.length < 9223372036854775807) : EvV CX 36 [v, .fn 37 [.tptr st [.int .i64 n] 0]] (· = .int .i64 (codeOf (pIdx ps n 0))) := by
  have hs : ∀ S, snap S (.tptr st [.int .i64 n] 0) = some (.tptr st [.int .i64 n] 0) := fun S => by simp only [snap]
  have b1 : CX.byRef 37 = false := br37
  refine EvV.walk rfl fn36 rfl nt36 rfl ?_
  simp only [List.length_cons, List.length_nil, List.cons_append, List.nil_append, Nat.reduceAdd, Nat.reduceSub, List.replicate]
  repeat' (first | refine go1 ?_ | refine blockK_else rfl ?_ | (refine wpC_cond fun A B hA hB => ?_; simp only [go_sem, reduceIte, Nat.reduceAdd, Nat.reduceEqDiff, Nat.reduceLT, Nat.reduceLeDiff, *, and_self, lenK_sls hv]; first | (refine hA.out ?_; clear hA hB A B) | (refine hB.out ?_; clear hA hB A B) | (refine iteI (fun h => hA.out ?_) (fun h => hB.out ?_) <;> clear hA hB A B) | (refine iteI (fun h => hB.out ?_) (fun h => hA.out ?_) <;> clear hA hB A B)) | (refine wpO_cons fun K hK => ?_; simp only [go_sem, reduceIte, Nat.reduceAdd, Nat.reduceEqDiff, Nat.reduceLT, Nat.reduceLeDiff, *, and_self, lenK_sls hv]; first | (refine hK.out _ _ ?_; clear hK K) | (refine iteI (fun h => hK.out _ _ ?_) (fun h => hK.out _ _ ?_) <;> clear hK K)))
  refine wpC_each [4, 5, 9, 10, 11, 12, 13, 14, 15, 16, 17, 18] 8 ps (fun pre post => pIdx ps n 0 = pIdx post n pre.length) ?_ ?_ ?_ ?_
  · rfl
  · rfl
  · intro g G h2
    rw [h2]; simp only [garbA_cons, garbA_nil, setL_cons, setL_nil, List.set_cons_zero, List.set_cons_succ]
    repeat' (first | refine go1 ?_ | refine blockK_else rfl ?_ | (refine wpC_cond fun A B hA hB => ?_; simp only [go_sem, reduceIte, Nat.reduceAdd, Nat.reduceEqDiff, Nat.reduceLT, Nat.reduceLeDiff, *, and_self, ints_len, List.length_map, Int.lt_irrefl, List.nil_append]; first | (refine hA.out ?_; clear hA hB A B) | (refine hB.out ?_; clear hA hB A B) | (refine iteI (fun h => hA.out ?_) (fun h => hB.out ?_) <;> clear hA hB A B) | (refine iteI (fun h => hB.out ?_) (fun h => hA.out ?_) <;> clear hA hB A B)) | (refine wpO_cons fun K hK => ?_; simp only [go_sem, reduceIte, Nat.reduceAdd, Nat.reduceEqDiff, Nat.reduceLT, Nat.reduceLeDiff, *, and_self, ints_len, List.length_map, Int.lt_irrefl, List.nil_append]; first | (refine hK.out _ _ ?_; clear hK K) | (refine iteI (fun h => hK.out _ _ ?_) (fun h => hK.out _ _ ?_) <;> clear hK K)))
    simp only [resultsR, resultsL, resultA, expK_int, expK_bool, expK_str, expK_agg, expK_own, expK_tsl, resK_some, go_sem, reduceIte, Nat.reduceAdd, Nat.reduceEqDiff, Nat.reduceLT, Nat.reduceLeDiff, and_self, ]
    rfl
  · intro g G pre x post h1 h2
    rw [h2]; subst h1; simp only [garbA_cons, garbA_nil, setL_cons, setL_nil, List.set_cons_zero, List.set_cons_succ]
    have i1 := idx_sls hv (X := CX) ty31 ty49 rfl (map_mid encP pre x post) (k := .i64)
    have w1 := wrap_succ (n := pre.length) (by simp at hl; omega)
    have q := (person1E x n st).rw
    simp only [encP] at q
    by_cases hx : x.id = n
    · have hx' : (x.id == n) = true := by simpa using hx
      rw [hx'] at q
      have hh : Hold (x.id = n) := ⟨hx⟩
      clear hx
      repeat' (first | refine go1 ?_ | refine blockK_else rfl ?_ | (refine wpC_cond fun A B hA hB => ?_; simp only [go_sem, reduceIte, Nat.reduceAdd, Nat.reduceEqDiff, Nat.reduceLT, Nat.reduceLeDiff, *, and_self, getElem?_len, getElem?_lenAdd, set_len, set_lenAdd, len_mid, ints_len, List.length_map, lt_mid, List.nil_append, i1, w1, encP, snap_str, hs, q, b1]; first | (refine hA.out ?_; clear hA hB A B) | (refine hB.out ?_; clear hA hB A B) | (refine iteI (fun h => hA.out ?_) (fun h => hB.out ?_) <;> clear hA hB A B) | (refine iteI (fun h => hB.out ?_) (fun h => hA.out ?_) <;> clear hA hB A B)) | (refine wpO_cons fun K hK => ?_; simp only [go_sem, reduceIte, Nat.reduceAdd, Nat.reduceEqDiff, Nat.reduceLT, Nat.reduceLeDiff, *, and_self, getElem?_len, getElem?_lenAdd, set_len, set_lenAdd, len_mid, ints_len, List.length_map, lt_mid, List.nil_append, i1, w1, encP, snap_str, hs, q, b1]; first | (refine hK.out _ _ ?_; clear hK K) | (refine iteI (fun h => hK.out _ _ ?_) (fun h => hK.out _ _ ?_) <;> clear hK K)))
      simp only [resultsR, resultsL, resultA, expK_int, expK_bool, expK_str, expK_agg, expK_own, expK_tsl, resK_some, go_sem, reduceIte, Nat.reduceAdd, Nat.reduceEqDiff, Nat.reduceLT, Nat.reduceLeDiff, and_self, ]
      simp [pIdx, codeOf, hh.out]
    · have hx' : (x.id == n) = false := by simpa using hx
      rw [hx'] at q
      have hh : Hold (¬ x.id = n) := ⟨hx⟩
      clear hx
      repeat' (first | refine go1 ?_ | refine blockK_else rfl ?_ | (refine wpC_cond fun A B hA hB => ?_; simp only [go_sem, reduceIte, Nat.reduceAdd, Nat.reduceEqDiff, Nat.reduceLT, Nat.reduceLeDiff, *, and_self, getElem?_len, getElem?_lenAdd, set_len, set_lenAdd, len_mid, ints_len, List.length_map, lt_mid, List.nil_append, i1, w1, encP, snap_str, hs, q, b1]; first | (refine hA.out ?_; clear hA hB A B) | (refine hB.out ?_; clear hA hB A B) | (refine iteI (fun h => hA.out ?_) (fun h => hB.out ?_) <;> clear hA hB A B) | (refine iteI (fun h => hB.out ?_) (fun h => hA.out ?_) <;> clear hA hB A B)) | (refine wpO_cons fun K hK => ?_; simp only [go_sem, reduceIte, Nat.reduceAdd, Nat.reduceEqDiff, Nat.reduceLT, Nat.reduceLeDiff, *, and_self, getElem?_len, getElem?_lenAdd, set_len, set_lenAdd, len_mid, ints_len, List.length_map, lt_mid, List.nil_append, i1, w1, encP, snap_str, hs, q, b1]; first | (refine hK.out _ _ ?_; clear hK K) | (refine iteI (fun h => hK.out _ _ ?_) (fun h => hK.out _ _ ?_) <;> clear hK K)))
      refine each_next rfl ?_ ?_ ?_
      · rw [pIdx, if_neg hh.out, len_snoc]
      · ((try simp only [eraseA_cons, eraseA_nil, setL_cons, setL_nil, List.set_cons_zero, List.set_cons_succ]); all_goals (first | rfl | (simp only [len_snoc, ints_len, List.length_map, ]; done) | (simp only [len_snoc, len_mid, ints_len, List.length_map, List.length_append, List.length_cons, List.length_nil, Nat.zero_add, ]; done) | (simp only [len_mid, len_snoc, ints_len, List.length_map, List.length_append, List.length_cons, List.length_nil, Nat.zero_add, ]; rfl)))
      · first | exact ⟨[], (List.append_nil _).symm⟩ | exact ⟨_, rfl⟩ | (simp only [List.append_assoc, List.cons_append, List.nil_append]; exact ⟨_, rfl⟩)

def pFind (ps : List Psn) (n : Int) : Option Psn := ps.find? fun p => p.id == n
def noP : Psn := ⟨0, .empty, false⟩
theorem pIdx_find (ps : List Psn) (n : Int) : ∀ k, (pIdx ps n k = none ∧ pFind ps n = none) ∨ ∃ a g b, ps = a ++ g :: b ∧ pIdx ps n k = some (k + a.length) ∧ pFind ps n = some g := by
  induction ps with
  | nil => intro k; exact .inl ⟨rfl, rfl⟩
  | cons x gs ih =>
    intro k
    by_cases h : x.id = n
    · refine .inr ⟨[], x, gs, rfl, ?_, ?_⟩
      · rw [pIdx, if_pos h]; rfl
      · simp [pFind, h]
    · have e : pFind (x :: gs) n = pFind gs n := by simp [pFind, h]
      rw [pIdx, if_neg h, e]
      rcases ih (k + 1) with ⟨h1, h2⟩ | ⟨a, g, b, h1, h2, h3⟩
      · exact .inl ⟨h1, h2⟩
      · exact .inr ⟨x :: a, g, b, by rw [h1]; rfl, by rw [h2]; simp; omega, h3⟩
def psn (ps : List Psn) (n : Int) : Psn := (pFind ps n).getD noP
def isP (ps : List Psn) (n : Int) : Bool := (pFind ps n).isSome

theorem personE (v : AV) (ps : List Psn) (n : Int) (hv : SLs 3 (ps.map encP) v) (hl : ps.length < 9223372036854775807) : EvV CX 25 [v, .int .i64 n] (· = .tup [.agg (encP (psn ps n)), .bool (isP ps n)]) := by
  have q := (indexPE v ps n false hv hl).rw
  have hs : ∀ (C : Store), snap (.arr [[.int .i64 n]] 1 0 true :: C) (.ptr 0 1 1 0 0) = some (.tptr false [.int .i64 n] 0) := fun C => by
    simp [snap, rowOf, cleanL, AV.clean]
  have k3 : ∀ (S : Store) (m : Int), expCell S (.int .i64 m) = some (.int .i64 m) := fun _ _ => rfl
  have k4 : ∀ (S : Store) (m : ByteArray), expCell S (.str m) = some (.str m) := fun _ _ => rfl
  have k5 : ∀ (S : Store) (m : Bool), expTop S (.bool m) = some (.bool m) := fun _ _ => rfl
  have k6 : ∀ (S : Store) (m : Bool), expCell S (.bool m) = some (.bool m) := fun _ _ => rfl
  rcases pIdx_find ps n 0 with ⟨h1, h2⟩ | ⟨a, g, b, h1, h2, h3⟩
  · rw [h1] at q
    have z : (-1 : Int) < 0 := by omega
    have e : codeOf none = -1 := rfl
    rw [e] at q
    have e1 : psn ps n = noP := by simp [psn, h2]
    have e2 : isP ps n = false := by simp [isP, h2]
    rw [e1, e2]
    clear h1 h2 e1 e2
    refine EvV.walk rfl fn25 rfl nt25 rfl ?_
    simp only [List.length_cons, List.length_nil, List.cons_append, List.nil_append, Nat.reduceAdd, Nat.reduceSub, List.replicate]
    repeat' (first | refine go1 ?_ | refine blockK_else rfl ?_ | (refine wpC_cond fun A B hA hB => ?_; simp only [go_sem, reduceIte, Nat.reduceAdd, Nat.reduceEqDiff, Nat.reduceLT, Nat.reduceLeDiff, *, and_self, hv.snap, hs, q, List.getElem?_cons_succ]; first | (refine hA.out ?_; clear hA hB A B) | (refine hB.out ?_; clear hA hB A B) | (refine iteI (fun h => hA.out ?_) (fun h => hB.out ?_) <;> clear hA hB A B) | (refine iteI (fun h => hB.out ?_) (fun h => hA.out ?_) <;> clear hA hB A B)) | (refine wpO_cons fun K hK => ?_; simp only [go_sem, reduceIte, Nat.reduceAdd, Nat.reduceEqDiff, Nat.reduceLT, Nat.reduceLeDiff, *, and_self, hv.snap, hs, q, List.getElem?_cons_succ]; first | (refine hK.out _ _ ?_; clear hK K) | (refine iteI (fun h => hK.out _ _ ?_) (fun h => hK.out _ _ ?_) <;> clear hK K)))
    simp only [resultsR, resultsL, resultA, resK_some, getA_zero, getA_succ, go_sem, reduceIte, Nat.reduceAdd, Nat.reduceEqDiff, Nat.reduceLT, Nat.reduceLeDiff, and_self, List.getElem?_cons_succ, expK_tup]
    rw [if_pos (show idsOK _ = true from rfl)]
    simp only [expTops, expTop, expCells, k3, k4, k5, k6, encP, noP]
    simp [AV.stab]
  · rw [h2] at q
    have hal : a.length < ps.length := by rw [h1]; simp
    have z : ¬ ((a.length : Nat) : Int) < 0 := by omega
    have e : codeOf (some (0 + a.length)) = ((a.length : Nat) : Int) := by simp [codeOf]
    rw [e] at q
    have i1 := idx_sls hv (X := CX) ty31 ty49 rfl (n := a.length) (row := encP g) (k := .i64) (by rw [h1]; exact map_mid encP a g b)
    have e1 : psn ps n = g := by simp [psn, h3]
    have e2 : isP ps n = true := by simp [isP, h3]
    rw [e1, e2]
    clear h1 h2 h3 e1 e2
    refine EvV.walk rfl fn25 rfl nt25 rfl ?_
    simp only [List.length_cons, List.length_nil, List.cons_append, List.nil_append, Nat.reduceAdd, Nat.reduceSub, List.replicate]
    repeat' (first | refine go1 ?_ | refine blockK_else rfl ?_ | (refine wpC_cond fun A B hA hB => ?_; simp only [go_sem, reduceIte, Nat.reduceAdd, Nat.reduceEqDiff, Nat.reduceLT, Nat.reduceLeDiff, *, and_self, hv.snap, hs, q, List.getElem?_cons_succ, i1, encP]; first | (refine hA.out ?_; clear hA hB A B) | (refine hB.out ?_; clear hA hB A B) | (refine iteI (fun h => hA.out ?_) (fun h => hB.out ?_) <;> clear hA hB A B) | (refine iteI (fun h => hB.out ?_) (fun h => hA.out ?_) <;> clear hA hB A B)) | (refine wpO_cons fun K hK => ?_; simp only [go_sem, reduceIte, Nat.reduceAdd, Nat.reduceEqDiff, Nat.reduceLT, Nat.reduceLeDiff, *, and_self, hv.snap, hs, q, List.getElem?_cons_succ, i1, encP]; first | (refine hK.out _ _ ?_; clear hK K) | (refine iteI (fun h => hK.out _ _ ?_) (fun h => hK.out _ _ ?_) <;> clear hK K)))
    simp only [resultsR, resultsL, resultA, resK_some, getA_zero, getA_succ, go_sem, reduceIte, Nat.reduceAdd, Nat.reduceEqDiff, Nat.reduceLT, Nat.reduceLeDiff, and_self, List.getElem?_cons_succ, expK_tup]
    rw [if_pos (show idsOK _ = true from rfl)]
    simp only [expTops, expTop, expCells, k3, k4, k5, k6, encP]
    simp [AV.stab]

theorem personR (v : AV) (ps : List Psn) (n : Int) (hv : SLs 3 (ps.map encP) v) (hl : ps.length < 9223372036854775807) : EvV CX 31 [v, .int .i64 n] (· = .tup [.agg (encP (psn ps n)), .bool (isP ps n)]) := by
  have k3 : ∀ (S : Store) (m : Int), expCell S (.int .i64 m) = some (.int .i64 m) := fun _ _ => rfl
  have k4 : ∀ (S : Store) (m : ByteArray), expCell S (.str m) = some (.str m) := fun _ _ => rfl
  have k5 : ∀ (S : Store) (m : Bool), expTop S (.bool m) = some (.bool m) := fun _ _ => rfl
  have k6 : ∀ (S : Store) (m : Bool), expCell S (.bool m) = some (.bool m) := fun _ _ => rfl
  refine EvV.walk rfl fn31 rfl nt31 rfl ?_
  simp only [List.length_cons, List.length_nil, List.cons_append, List.nil_append, Nat.reduceAdd, Nat.reduceSub, List.replicate]
  repeat' (first | refine go1 ?_ | refine blockK_else rfl ?_ | (refine wpC_cond fun A B hA hB => ?_; simp only [go_sem, reduceIte, Nat.reduceAdd, Nat.reduceEqDiff, Nat.reduceLT, Nat.reduceLeDiff, *, and_self, lenK_sls hv]; first | (refine hA.out ?_; clear hA hB A B) | (refine hB.out ?_; clear hA hB A B) | (refine iteI (fun h => hA.out ?_) (fun h => hB.out ?_) <;> clear hA hB A B) | (refine iteI (fun h => hB.out ?_) (fun h => hA.out ?_) <;> clear hA hB A B)) | (refine wpO_cons fun K hK => ?_; simp only [go_sem, reduceIte, Nat.reduceAdd, Nat.reduceEqDiff, Nat.reduceLT, Nat.reduceLeDiff, *, and_self, lenK_sls hv]; first | (refine hK.out _ _ ?_; clear hK K) | (refine iteI (fun h => hK.out _ _ ?_) (fun h => hK.out _ _ ?_) <;> clear hK K)))
  refine wpC_each [5, 6, 10, 11, 12, 13, 14, 15, 16, 17, 18, 19, 20, 21, 22, 23] 9 ps (fun _ post => pFind ps n = pFind post n) ?_ ?_ ?_ ?_
  · rfl
  · rfl
  · intro g G h2
    simp only [garbA_cons, garbA_nil, setL_cons, setL_nil, List.set_cons_zero, List.set_cons_succ]
    have e1 : psn ps n = noP := by rw [psn, h2]; rfl
    have e2 : isP ps n = false := by rw [isP, h2]; rfl
    rw [e1, e2]
    clear h2 e1 e2
    repeat' (first | refine go1 ?_ | refine blockK_else rfl ?_ | (refine wpC_cond fun A B hA hB => ?_; simp only [go_sem, reduceIte, Nat.reduceAdd, Nat.reduceEqDiff, Nat.reduceLT, Nat.reduceLeDiff, *, and_self, ints_len, List.length_map, Int.lt_irrefl, List.nil_append, List.cons_append]; first | (refine hA.out ?_; clear hA hB A B) | (refine hB.out ?_; clear hA hB A B) | (refine iteI (fun h => hA.out ?_) (fun h => hB.out ?_) <;> clear hA hB A B) | (refine iteI (fun h => hB.out ?_) (fun h => hA.out ?_) <;> clear hA hB A B)) | (refine wpO_cons fun K hK => ?_; simp only [go_sem, reduceIte, Nat.reduceAdd, Nat.reduceEqDiff, Nat.reduceLT, Nat.reduceLeDiff, *, and_self, ints_len, List.length_map, Int.lt_irrefl, List.nil_append, List.cons_append]; first | (refine hK.out _ _ ?_; clear hK K) | (refine iteI (fun h => hK.out _ _ ?_) (fun h => hK.out _ _ ?_) <;> clear hK K)))
    simp only [resultsR, resultsL, resultA, resK_some, getA_zero, getA_succ, go_sem, reduceIte, Nat.reduceAdd, Nat.reduceEqDiff, Nat.reduceLT, Nat.reduceLeDiff, and_self, List.getElem?_cons_succ, expK_tup]
    rw [if_pos (show idsOK _ = true from rfl)]
    simp only [expTops, expTop, expCells, k3, k4, k5, k6, encP, noP]
    simp [AV.stab]
  · intro g G pre x post h1 h2
    subst h1; simp only [garbA_cons, garbA_nil, setL_cons, setL_nil, List.set_cons_zero, List.set_cons_succ]
    have i1 := idx_sls hv (X := CX) ty31 ty49 rfl (map_mid encP pre x post) (k := .i64)
    have w1 := wrap_succ (n := pre.length) (by simp at hl; omega)
    by_cases hx : x.id = n
    · subst hx
      have e0 : pFind (x :: post) x.id = some x := by simp [pFind]
      have e1 : psn (pre ++ x :: post) x.id = x := by rw [psn, h2, e0]; rfl
      have e2 : isP (pre ++ x :: post) x.id = true := by rw [isP, h2, e0]; rfl
      rw [e1, e2]
      clear e0
      have hx' : (x.id == x.id) = true := by simp
      clear h2 e1 e2
      repeat' (first | refine go1 ?_ | refine blockK_else rfl ?_ | (refine wpC_cond fun A B hA hB => ?_; simp only [go_sem, reduceIte, Nat.reduceAdd, Nat.reduceEqDiff, Nat.reduceLT, Nat.reduceLeDiff, *, and_self, getElem?_len, getElem?_lenAdd, set_len, set_lenAdd, len_mid, ints_len, List.length_map, lt_mid, List.nil_append, i1, w1, encP, hx']; first | (refine hA.out ?_; clear hA hB A B) | (refine hB.out ?_; clear hA hB A B) | (refine iteI (fun h => hA.out ?_) (fun h => hB.out ?_) <;> clear hA hB A B) | (refine iteI (fun h => hB.out ?_) (fun h => hA.out ?_) <;> clear hA hB A B)) | (refine wpO_cons fun K hK => ?_; simp only [go_sem, reduceIte, Nat.reduceAdd, Nat.reduceEqDiff, Nat.reduceLT, Nat.reduceLeDiff, *, and_self, getElem?_len, getElem?_lenAdd, set_len, set_lenAdd, len_mid, ints_len, List.length_map, lt_mid, List.nil_append, i1, w1, encP, hx']; first | (refine hK.out _ _ ?_; clear hK K) | (refine iteI (fun h => hK.out _ _ ?_) (fun h => hK.out _ _ ?_) <;> clear hK K)))
      simp only [resultsR, resultsL, resultA, resK_some, getA_zero, getA_succ, go_sem, reduceIte, Nat.reduceAdd, Nat.reduceEqDiff, Nat.reduceLT, Nat.reduceLeDiff, and_self, List.getElem?_cons_succ, expK_tup]
      rw [if_pos (show idsOK _ = true from rfl)]
      simp only [expTops, expTop, expCells, k3, k4, k5, k6, encP]
      simp [AV.stab]
    · have hx' : (x.id == n) = false := by simpa using hx
      have hh : Hold (pFind (pre ++ x :: post) n = pFind post n) := ⟨by rw [h2]; simp [pFind, hx]⟩
      clear h2
      repeat' (first | refine go1 ?_ | refine blockK_else rfl ?_ | (refine wpC_cond fun A B hA hB => ?_; simp only [go_sem, reduceIte, Nat.reduceAdd, Nat.reduceEqDiff, Nat.reduceLT, Nat.reduceLeDiff, *, and_self, getElem?_len, getElem?_lenAdd, set_len, set_lenAdd, len_mid, ints_len, List.length_map, lt_mid, List.nil_append, i1, w1, encP, hx']; first | (refine hA.out ?_; clear hA hB A B) | (refine hB.out ?_; clear hA hB A B) | (refine iteI (fun h => hA.out ?_) (fun h => hB.out ?_) <;> clear hA hB A B) | (refine iteI (fun h => hB.out ?_) (fun h => hA.out ?_) <;> clear hA hB A B)) | (refine wpO_cons fun K hK => ?_; simp only [go_sem, reduceIte, Nat.reduceAdd, Nat.reduceEqDiff, Nat.reduceLT, Nat.reduceLeDiff, *, and_self, getElem?_len, getElem?_lenAdd, set_len, set_lenAdd, len_mid, ints_len, List.length_map, lt_mid, List.nil_append, i1, w1, encP, hx']; first | (refine hK.out _ _ ?_; clear hK K) | (refine iteI (fun h => hK.out _ _ ?_) (fun h => hK.out _ _ ?_) <;> clear hK K)))
      refine each_next rfl ?_ ?_ ?_
      · exact hh.out
      · ((try simp only [eraseA_cons, eraseA_nil, setL_cons, setL_nil, List.set_cons_zero, List.set_cons_succ]); all_goals (first | rfl | (simp only [len_snoc, ints_len, List.length_map, ]; done) | (simp only [len_snoc, len_mid, ints_len, List.length_map, List.length_append, List.length_cons, List.length_nil, Nat.zero_add, ]; done) | (simp only [len_mid, len_snoc, ints_len, List.length_map, List.length_append, List.length_cons, List.length_nil, Nat.zero_add, ]; rfl)))
      · first | exact ⟨[], (List.append_nil _).symm⟩ | exact ⟨_, rfl⟩ | (simp only [List.append_assoc, List.cons_append, List.nil_append]; exact ⟨_, rfl⟩)

def idOK (n : Int) : Bool := decide (1 ≤ n) && decide (n ≤ 1099511627776)
theorem identR (n : Int) : EvV CX 38 [.int .i64 n] (· = .bool (idOK n)) := by
  unfold idOK
  refine EvV.walk rfl fn38 rfl nt38 rfl ?_
  simp only [List.length_cons, List.length_nil, List.cons_append, List.nil_append, Nat.reduceAdd, Nat.reduceSub, List.replicate]
  repeat' (first | refine go1 ?_ | refine blockK_else rfl ?_ | (refine wpC_cond fun A B hA hB => ?_; simp only [go_sem, reduceIte, Nat.reduceAdd, Nat.reduceEqDiff, Nat.reduceLT, Nat.reduceLeDiff, *, and_self, ]; first | (refine hA.out ?_; clear hA hB A B) | (refine hB.out ?_; clear hA hB A B) | (refine iteI (fun h => hA.out ?_) (fun h => hB.out ?_) <;> clear hA hB A B) | (refine iteI (fun h => hB.out ?_) (fun h => hA.out ?_) <;> clear hA hB A B)) | (refine wpO_cons fun K hK => ?_; simp only [go_sem, reduceIte, Nat.reduceAdd, Nat.reduceEqDiff, Nat.reduceLT, Nat.reduceLeDiff, *, and_self, ]; first | (refine hK.out _ _ ?_; clear hK K) | (refine iteI (fun h => hK.out _ _ ?_) (fun h => hK.out _ _ ?_) <;> clear hK K)))
  all_goals
    simp only [resultsR, resultsL, resultA, expK_int, expK_bool, expK_str, expK_agg, expK_own, expK_tsl, resK_some, go_sem, reduceIte, Nat.reduceAdd, Nat.reduceEqDiff, Nat.reduceLT, Nat.reduceLeDiff, and_self, ]
    simp [*]

/- Protocols: May and All, in the code and in the reference. -/
open Go.Proofs
attribute [local go_sem] ty25 ty35 br25 br30 fz68 fz69 br31 br32 fz88 fz90 ty39 br17 fz70 br18 fz93
set_option maxHeartbeats 4000000

noncomputable def mayF (ps : List Psn) (gs : List Grp) (lv : Int) (gl : List Int) (un pe day : Int) : Bool :=
  if day < un then false else if lv = 2 then gl.any fun g => (members gs g).contains pe else if lv = 3 then false else if lv = 1 then isP ps pe && (psn ps pe).mem else true

theorem mayE {v w : AV} {gs : List Grp} {ps : List Psn} (h : GsOK v gs) (hw : SLs 3 (ps.map encP) w) (hps : ps.length ≤ 1000) {pg : AV} {gl : List Int} (hp : SLs 1 (ints gl) pg) (hgl : gl.length ≤ 1000) (lv un pe day : Int) :
    EvV CX 17 [w, v, .agg [.int .i64 lv, pg, .int .i64 un], .agg [.int .i64 pe, .int .i64 day]] (· = .bool (mayF ps gs lv gl un pe day)) := by
  have hvs := fun S => h.sl.snap (S := S)
  have hws := hw.snap
  have c1 := hp.cell
  have s1 := hp.snap
  by_cases h1 : day < un
  · refine EvV.walk rfl fn17 rfl nt17 rfl ?_
    simp only [List.length_cons, List.length_nil, List.cons_append, List.nil_append, Nat.reduceAdd, Nat.reduceSub, List.replicate]
    repeat' (first | refine go1 ?_ | refine blockK_else rfl ?_ | (refine wpC_cond fun A B hA hB => ?_; simp only [go_sem, reduceIte, Nat.reduceAdd, Nat.reduceEqDiff, Nat.reduceLT, Nat.reduceLeDiff, *, and_self, hws, hvs, snap_str, getElem?_len, getElem?_lenAdd, set_len, set_lenAdd, len_mid, ints_len, List.length_map, lt_mid, List.nil_append, List.cons_append, Bool.not_true, Bool.not_false, adopt_int, adopt_bool, adopt_two, adopt_osl, adopt_tsl, adopt_nils, c1, s1]; first | (refine hA.out ?_; clear hA hB A B) | (refine hB.out ?_; clear hA hB A B) | (refine iteI (fun h => hA.out ?_) (fun h => hB.out ?_) <;> clear hA hB A B) | (refine iteI (fun h => hB.out ?_) (fun h => hA.out ?_) <;> clear hA hB A B)) | (refine wpO_cons fun K hK => ?_; simp only [go_sem, reduceIte, Nat.reduceAdd, Nat.reduceEqDiff, Nat.reduceLT, Nat.reduceLeDiff, *, and_self, hws, hvs, snap_str, getElem?_len, getElem?_lenAdd, set_len, set_lenAdd, len_mid, ints_len, List.length_map, lt_mid, List.nil_append, List.cons_append, Bool.not_true, Bool.not_false, adopt_int, adopt_bool, adopt_two, adopt_osl, adopt_tsl, adopt_nils, c1, s1]; first | (refine hK.out _ _ ?_; clear hK K) | (refine iteI (fun h => hK.out _ _ ?_) (fun h => hK.out _ _ ?_) <;> clear hK K)))
    simp only [resultsR, resultsL, resultA, expK_int, expK_bool, expK_str, expK_agg, expK_own, expK_tsl, resK_some, go_sem, reduceIte, Nat.reduceAdd, Nat.reduceEqDiff, Nat.reduceLT, Nat.reduceLeDiff, and_self, ]
    simp [mayF, h1]
  by_cases h2 : lv = 2
  · subst h2
    have e : mayF ps gs 2 gl un pe day = gl.any fun g => (members gs g).contains pe := by simp [mayF, h1]
    rw [e]
    clear e
    have z : ((2 : Int) == 2) = true := rfl
    refine EvV.walk rfl fn17 rfl nt17 rfl ?_
    simp only [List.length_cons, List.length_nil, List.cons_append, List.nil_append, Nat.reduceAdd, Nat.reduceSub, List.replicate]
    repeat' (first | refine go1 ?_ | refine blockK_else rfl ?_ | (refine wpC_cond fun A B hA hB => ?_; simp only [go_sem, reduceIte, Nat.reduceAdd, Nat.reduceEqDiff, Nat.reduceLT, Nat.reduceLeDiff, *, and_self, hws, hvs, snap_str, getElem?_len, getElem?_lenAdd, set_len, set_lenAdd, len_mid, ints_len, List.length_map, lt_mid, List.nil_append, List.cons_append, Bool.not_true, Bool.not_false, adopt_int, adopt_bool, adopt_two, adopt_osl, adopt_tsl, adopt_nils, c1, s1, z, lenK_sls hp, ints_len]; first | (refine hA.out ?_; clear hA hB A B) | (refine hB.out ?_; clear hA hB A B) | (refine iteI (fun h => hA.out ?_) (fun h => hB.out ?_) <;> clear hA hB A B) | (refine iteI (fun h => hB.out ?_) (fun h => hA.out ?_) <;> clear hA hB A B)) | (refine wpO_cons fun K hK => ?_; simp only [go_sem, reduceIte, Nat.reduceAdd, Nat.reduceEqDiff, Nat.reduceLT, Nat.reduceLeDiff, *, and_self, hws, hvs, snap_str, getElem?_len, getElem?_lenAdd, set_len, set_lenAdd, len_mid, ints_len, List.length_map, lt_mid, List.nil_append, List.cons_append, Bool.not_true, Bool.not_false, adopt_int, adopt_bool, adopt_two, adopt_osl, adopt_tsl, adopt_nils, c1, s1, z, lenK_sls hp, ints_len]; first | (refine hK.out _ _ ?_; clear hK K) | (refine iteI (fun h => hK.out _ _ ?_) (fun h => hK.out _ _ ?_) <;> clear hK K)))
    refine wpC_each [8, 10, 30, 31, 32, 33, 34, 35, 36, 37, 38] 29 gl (fun _ post => (gl.any fun g => (members gs g).contains pe) = post.any fun g => (members gs g).contains pe) ?_ ?_ ?_ ?_
    · rfl
    · rfl
    · intro g G hE
      rw [hE]
      simp only [garbA_cons, garbA_nil, setL_cons, setL_nil, List.set_cons_zero, List.set_cons_succ]
      repeat' (first | refine go1 ?_ | refine blockK_else rfl ?_ | (refine wpC_cond fun A B hA hB => ?_; simp only [go_sem, reduceIte, Nat.reduceAdd, Nat.reduceEqDiff, Nat.reduceLT, Nat.reduceLeDiff, *, and_self, ints_len, List.length_map, Int.lt_irrefl, List.nil_append]; first | (refine hA.out ?_; clear hA hB A B) | (refine hB.out ?_; clear hA hB A B) | (refine iteI (fun h => hA.out ?_) (fun h => hB.out ?_) <;> clear hA hB A B) | (refine iteI (fun h => hB.out ?_) (fun h => hA.out ?_) <;> clear hA hB A B)) | (refine wpO_cons fun K hK => ?_; simp only [go_sem, reduceIte, Nat.reduceAdd, Nat.reduceEqDiff, Nat.reduceLT, Nat.reduceLeDiff, *, and_self, ints_len, List.length_map, Int.lt_irrefl, List.nil_append]; first | (refine hK.out _ _ ?_; clear hK K) | (refine iteI (fun h => hK.out _ _ ?_) (fun h => hK.out _ _ ?_) <;> clear hK K)))
      simp only [resultsR, resultsL, resultA, expK_int, expK_bool, expK_str, expK_agg, expK_own, expK_tsl, resK_some, go_sem, reduceIte, Nat.reduceAdd, Nat.reduceEqDiff, Nat.reduceLT, Nat.reduceLeDiff, and_self, ]
      rfl
    · intro g G pre x post h3 hE
      rw [hE]
      have i1 := idx_sls hp (X := CX) ty23 ty3 rfl (by rw [h3]; exact ints_mid pre x post) (k := .i64)
      have lt1 : (pre.length : Int) < (gl.length : Int) := by rw [h3]; simp; omega
      have w1 := wrap_succ (n := pre.length) (by rw [h3] at hgl; simp at hgl; omega)
      have q := (inE h x pe).rw
      have hh : Hold (gl = pre ++ x :: post) := ⟨h3⟩
      have hhE : Hold ((gl.any fun g => (members gs g).contains pe) = (x :: post).any fun g => (members gs g).contains pe) := ⟨hE⟩
      clear h3 hE
      simp only [garbA_cons, garbA_nil, setL_cons, setL_nil, List.set_cons_zero, List.set_cons_succ]
      by_cases k : (members gs x).contains pe = true
      · rw [k] at q
        repeat' (first | refine go1 ?_ | refine blockK_else rfl ?_ | (refine wpC_cond fun A B hA hB => ?_; simp only [go_sem, reduceIte, Nat.reduceAdd, Nat.reduceEqDiff, Nat.reduceLT, Nat.reduceLeDiff, *, and_self, hws, hvs, snap_str, getElem?_len, getElem?_lenAdd, set_len, set_lenAdd, len_mid, ints_len, List.length_map, lt_mid, List.nil_append, List.cons_append, Bool.not_true, Bool.not_false, adopt_int, adopt_bool, adopt_two, adopt_osl, adopt_tsl, adopt_nils, i1, lt1, q]; first | (refine hA.out ?_; clear hA hB A B) | (refine hB.out ?_; clear hA hB A B) | (refine iteI (fun h => hA.out ?_) (fun h => hB.out ?_) <;> clear hA hB A B) | (refine iteI (fun h => hB.out ?_) (fun h => hA.out ?_) <;> clear hA hB A B)) | (refine wpO_cons fun K hK => ?_; simp only [go_sem, reduceIte, Nat.reduceAdd, Nat.reduceEqDiff, Nat.reduceLT, Nat.reduceLeDiff, *, and_self, hws, hvs, snap_str, getElem?_len, getElem?_lenAdd, set_len, set_lenAdd, len_mid, ints_len, List.length_map, lt_mid, List.nil_append, List.cons_append, Bool.not_true, Bool.not_false, adopt_int, adopt_bool, adopt_two, adopt_osl, adopt_tsl, adopt_nils, i1, lt1, q]; first | (refine hK.out _ _ ?_; clear hK K) | (refine iteI (fun h => hK.out _ _ ?_) (fun h => hK.out _ _ ?_) <;> clear hK K)))
        simp only [resultsR, resultsL, resultA, expK_int, expK_bool, expK_str, expK_agg, expK_own, expK_tsl, resK_some, go_sem, reduceIte, Nat.reduceAdd, Nat.reduceEqDiff, Nat.reduceLT, Nat.reduceLeDiff, and_self, ]
        rw [List.any_cons, k]; rfl
      · have k : (members gs x).contains pe = false := by simpa using k
        rw [k] at q
        repeat' (first | refine go1 ?_ | refine blockK_else rfl ?_ | (refine wpC_cond fun A B hA hB => ?_; simp only [go_sem, reduceIte, Nat.reduceAdd, Nat.reduceEqDiff, Nat.reduceLT, Nat.reduceLeDiff, *, and_self, hws, hvs, snap_str, getElem?_len, getElem?_lenAdd, set_len, set_lenAdd, len_mid, ints_len, List.length_map, lt_mid, List.nil_append, List.cons_append, Bool.not_true, Bool.not_false, adopt_int, adopt_bool, adopt_two, adopt_osl, adopt_tsl, adopt_nils, i1, lt1, w1, q]; first | (refine hA.out ?_; clear hA hB A B) | (refine hB.out ?_; clear hA hB A B) | (refine iteI (fun h => hA.out ?_) (fun h => hB.out ?_) <;> clear hA hB A B) | (refine iteI (fun h => hB.out ?_) (fun h => hA.out ?_) <;> clear hA hB A B)) | (refine wpO_cons fun K hK => ?_; simp only [go_sem, reduceIte, Nat.reduceAdd, Nat.reduceEqDiff, Nat.reduceLT, Nat.reduceLeDiff, *, and_self, hws, hvs, snap_str, getElem?_len, getElem?_lenAdd, set_len, set_lenAdd, len_mid, ints_len, List.length_map, lt_mid, List.nil_append, List.cons_append, Bool.not_true, Bool.not_false, adopt_int, adopt_bool, adopt_two, adopt_osl, adopt_tsl, adopt_nils, i1, lt1, w1, q]; first | (refine hK.out _ _ ?_; clear hK K) | (refine iteI (fun h => hK.out _ _ ?_) (fun h => hK.out _ _ ?_) <;> clear hK K)))
        refine each_next hh.out ?_ ?_ ?_
        · rw [List.any_cons, k, Bool.false_or]
        · ((try simp only [eraseA_cons, eraseA_nil, setL_cons, setL_nil, List.set_cons_zero, List.set_cons_succ]); all_goals (first | rfl | (simp only [len_snoc, ints_len, List.length_map, ]; done) | (simp only [len_snoc, len_mid, ints_len, List.length_map, List.length_append, List.length_cons, List.length_nil, Nat.zero_add, ]; done) | (simp only [len_mid, len_snoc, ints_len, List.length_map, List.length_append, List.length_cons, List.length_nil, Nat.zero_add, ]; rfl)))
        · first | exact ⟨[], (List.append_nil _).symm⟩ | exact ⟨_, rfl⟩ | (simp only [List.append_assoc, List.cons_append, List.nil_append]; exact ⟨_, rfl⟩)
  by_cases h3 : lv = 3
  · subst h3
    have z : ((3 : Int) == 3) = true := rfl
    have z2 : ((3 : Int) == 2) = false := rfl
    refine EvV.walk rfl fn17 rfl nt17 rfl ?_
    simp only [List.length_cons, List.length_nil, List.cons_append, List.nil_append, Nat.reduceAdd, Nat.reduceSub, List.replicate]
    repeat' (first | refine go1 ?_ | refine blockK_else rfl ?_ | (refine wpC_cond fun A B hA hB => ?_; simp only [go_sem, reduceIte, Nat.reduceAdd, Nat.reduceEqDiff, Nat.reduceLT, Nat.reduceLeDiff, *, and_self, hws, hvs, snap_str, getElem?_len, getElem?_lenAdd, set_len, set_lenAdd, len_mid, ints_len, List.length_map, lt_mid, List.nil_append, List.cons_append, Bool.not_true, Bool.not_false, adopt_int, adopt_bool, adopt_two, adopt_osl, adopt_tsl, adopt_nils, c1, s1, z, z2]; first | (refine hA.out ?_; clear hA hB A B) | (refine hB.out ?_; clear hA hB A B) | (refine iteI (fun h => hA.out ?_) (fun h => hB.out ?_) <;> clear hA hB A B) | (refine iteI (fun h => hB.out ?_) (fun h => hA.out ?_) <;> clear hA hB A B)) | (refine wpO_cons fun K hK => ?_; simp only [go_sem, reduceIte, Nat.reduceAdd, Nat.reduceEqDiff, Nat.reduceLT, Nat.reduceLeDiff, *, and_self, hws, hvs, snap_str, getElem?_len, getElem?_lenAdd, set_len, set_lenAdd, len_mid, ints_len, List.length_map, lt_mid, List.nil_append, List.cons_append, Bool.not_true, Bool.not_false, adopt_int, adopt_bool, adopt_two, adopt_osl, adopt_tsl, adopt_nils, c1, s1, z, z2]; first | (refine hK.out _ _ ?_; clear hK K) | (refine iteI (fun h => hK.out _ _ ?_) (fun h => hK.out _ _ ?_) <;> clear hK K)))
    simp only [resultsR, resultsL, resultA, expK_int, expK_bool, expK_str, expK_agg, expK_own, expK_tsl, resK_some, go_sem, reduceIte, Nat.reduceAdd, Nat.reduceEqDiff, Nat.reduceLT, Nat.reduceLeDiff, and_self, ]
    simp [mayF, h1]
  by_cases h4 : lv = 1
  · subst h4
    have z : ((1 : Int) == 3) = false := rfl
    have z2 : ((1 : Int) == 2) = false := rfl
    have z1 : ((1 : Int) == 1) = true := rfl
    have q := (personE w ps pe hw (by omega)).rw
    by_cases k : isP ps pe = true
    · refine EvV.walk rfl fn17 rfl nt17 rfl ?_
      simp only [List.length_cons, List.length_nil, List.cons_append, List.nil_append, Nat.reduceAdd, Nat.reduceSub, List.replicate]
      repeat' (first | refine go1 ?_ | refine blockK_else rfl ?_ | (refine wpC_cond fun A B hA hB => ?_; simp only [go_sem, reduceIte, Nat.reduceAdd, Nat.reduceEqDiff, Nat.reduceLT, Nat.reduceLeDiff, *, and_self, hws, hvs, snap_str, getElem?_len, getElem?_lenAdd, set_len, set_lenAdd, len_mid, ints_len, List.length_map, lt_mid, List.nil_append, List.cons_append, Bool.not_true, Bool.not_false, adopt_int, adopt_bool, adopt_two, adopt_osl, adopt_tsl, adopt_nils, c1, s1, z, z1, z2, q, encP]; first | (refine hA.out ?_; clear hA hB A B) | (refine hB.out ?_; clear hA hB A B) | (refine iteI (fun h => hA.out ?_) (fun h => hB.out ?_) <;> clear hA hB A B) | (refine iteI (fun h => hB.out ?_) (fun h => hA.out ?_) <;> clear hA hB A B)) | (refine wpO_cons fun K hK => ?_; simp only [go_sem, reduceIte, Nat.reduceAdd, Nat.reduceEqDiff, Nat.reduceLT, Nat.reduceLeDiff, *, and_self, hws, hvs, snap_str, getElem?_len, getElem?_lenAdd, set_len, set_lenAdd, len_mid, ints_len, List.length_map, lt_mid, List.nil_append, List.cons_append, Bool.not_true, Bool.not_false, adopt_int, adopt_bool, adopt_two, adopt_osl, adopt_tsl, adopt_nils, c1, s1, z, z1, z2, q, encP]; first | (refine hK.out _ _ ?_; clear hK K) | (refine iteI (fun h => hK.out _ _ ?_) (fun h => hK.out _ _ ?_) <;> clear hK K)))
      simp only [resultsR, resultsL, resultA, expK_int, expK_bool, expK_str, expK_agg, expK_own, expK_tsl, resK_some, go_sem, reduceIte, Nat.reduceAdd, Nat.reduceEqDiff, Nat.reduceLT, Nat.reduceLeDiff, and_self, ]
      simp [mayF, h1, k]
    · have k : isP ps pe = false := by simpa using k
      refine EvV.walk rfl fn17 rfl nt17 rfl ?_
      simp only [List.length_cons, List.length_nil, List.cons_append, List.nil_append, Nat.reduceAdd, Nat.reduceSub, List.replicate]
      repeat' (first | refine go1 ?_ | refine blockK_else rfl ?_ | (refine wpC_cond fun A B hA hB => ?_; simp only [go_sem, reduceIte, Nat.reduceAdd, Nat.reduceEqDiff, Nat.reduceLT, Nat.reduceLeDiff, *, and_self, hws, hvs, snap_str, getElem?_len, getElem?_lenAdd, set_len, set_lenAdd, len_mid, ints_len, List.length_map, lt_mid, List.nil_append, List.cons_append, Bool.not_true, Bool.not_false, adopt_int, adopt_bool, adopt_two, adopt_osl, adopt_tsl, adopt_nils, c1, s1, z, z1, z2, q, encP]; first | (refine hA.out ?_; clear hA hB A B) | (refine hB.out ?_; clear hA hB A B) | (refine iteI (fun h => hA.out ?_) (fun h => hB.out ?_) <;> clear hA hB A B) | (refine iteI (fun h => hB.out ?_) (fun h => hA.out ?_) <;> clear hA hB A B)) | (refine wpO_cons fun K hK => ?_; simp only [go_sem, reduceIte, Nat.reduceAdd, Nat.reduceEqDiff, Nat.reduceLT, Nat.reduceLeDiff, *, and_self, hws, hvs, snap_str, getElem?_len, getElem?_lenAdd, set_len, set_lenAdd, len_mid, ints_len, List.length_map, lt_mid, List.nil_append, List.cons_append, Bool.not_true, Bool.not_false, adopt_int, adopt_bool, adopt_two, adopt_osl, adopt_tsl, adopt_nils, c1, s1, z, z1, z2, q, encP]; first | (refine hK.out _ _ ?_; clear hK K) | (refine iteI (fun h => hK.out _ _ ?_) (fun h => hK.out _ _ ?_) <;> clear hK K)))
      simp only [resultsR, resultsL, resultA, expK_int, expK_bool, expK_str, expK_agg, expK_own, expK_tsl, resK_some, go_sem, reduceIte, Nat.reduceAdd, Nat.reduceEqDiff, Nat.reduceLT, Nat.reduceLeDiff, and_self, ]
      simp [mayF, h1, k]
  · refine EvV.walk rfl fn17 rfl nt17 rfl ?_
    simp only [List.length_cons, List.length_nil, List.cons_append, List.nil_append, Nat.reduceAdd, Nat.reduceSub, List.replicate]
    repeat' (first | refine go1 ?_ | refine blockK_else rfl ?_ | (refine wpC_cond fun A B hA hB => ?_; simp only [go_sem, reduceIte, Nat.reduceAdd, Nat.reduceEqDiff, Nat.reduceLT, Nat.reduceLeDiff, *, and_self, hws, hvs, snap_str, getElem?_len, getElem?_lenAdd, set_len, set_lenAdd, len_mid, ints_len, List.length_map, lt_mid, List.nil_append, List.cons_append, Bool.not_true, Bool.not_false, adopt_int, adopt_bool, adopt_two, adopt_osl, adopt_tsl, adopt_nils, c1, s1]; first | (refine hA.out ?_; clear hA hB A B) | (refine hB.out ?_; clear hA hB A B) | (refine iteI (fun h => hA.out ?_) (fun h => hB.out ?_) <;> clear hA hB A B) | (refine iteI (fun h => hB.out ?_) (fun h => hA.out ?_) <;> clear hA hB A B)) | (refine wpO_cons fun K hK => ?_; simp only [go_sem, reduceIte, Nat.reduceAdd, Nat.reduceEqDiff, Nat.reduceLT, Nat.reduceLeDiff, *, and_self, hws, hvs, snap_str, getElem?_len, getElem?_lenAdd, set_len, set_lenAdd, len_mid, ints_len, List.length_map, lt_mid, List.nil_append, List.cons_append, Bool.not_true, Bool.not_false, adopt_int, adopt_bool, adopt_two, adopt_osl, adopt_tsl, adopt_nils, c1, s1]; first | (refine hK.out _ _ ?_; clear hK K) | (refine iteI (fun h => hK.out _ _ ?_) (fun h => hK.out _ _ ?_) <;> clear hK K)))
    simp only [resultsR, resultsL, resultA, expK_int, expK_bool, expK_str, expK_agg, expK_own, expK_tsl, resK_some, go_sem, reduceIte, Nat.reduceAdd, Nat.reduceEqDiff, Nat.reduceLT, Nat.reduceLeDiff, and_self, ]
    simp [mayF, h1, h2, h3, h4]

def mayG (ps : List Psn) (gs : List Grp) (lv : Int) (gl : List Int) (un pe day : Int) : Bool :=
  if day < un then false else if lv = 0 then true else if lv = 1 then isP ps pe && (psn ps pe).mem else if lv = 2 then gl.any fun g => (membersR gs g).contains pe else false
theorem mayG_eq {ps : List Psn} {gs : List Grp} (hc : Clo gs) {lv : Int} (h0 : 0 ≤ lv) (h3 : lv ≤ 3) (gl : List Int) (un pe day : Int) : mayG ps gs lv gl un pe day = mayF ps gs lv gl un pe day := by
  unfold mayG mayF
  simp only [membersR_eq hc]
  have : lv = 0 ∨ lv = 1 ∨ lv = 2 ∨ lv = 3 := by omega
  rcases this with e | e | e | e <;> subst e <;> simp

theorem mayR {v w : AV} {gs : List Grp} {ps : List Psn} (h : GsOK v gs) (hw : SLs 3 (ps.map encP) w) (hps : ps.length ≤ 1000) {pg : AV} {gl : List Int} (hp : SLs 1 (ints gl) pg) (hgl : gl.length ≤ 1000) (lv un pe day : Int) :
    EvV CX 18 [w, v, .agg [.int .i64 lv, pg, .int .i64 un], .agg [.int .i64 pe, .int .i64 day]] (· = .bool (mayG ps gs lv gl un pe day)) := by
  have hvs := fun S => h.sl.snap (S := S)
  have hws := hw.snap
  have c1 := hp.cell
  have s1 := hp.snap
  by_cases h1 : day < un
  · refine EvV.walk rfl fn18 rfl nt18 rfl ?_
    simp only [List.length_cons, List.length_nil, List.cons_append, List.nil_append, Nat.reduceAdd, Nat.reduceSub, List.replicate]
    repeat' (first | refine go1 ?_ | refine blockK_else rfl ?_ | (refine wpC_cond fun A B hA hB => ?_; simp only [go_sem, reduceIte, Nat.reduceAdd, Nat.reduceEqDiff, Nat.reduceLT, Nat.reduceLeDiff, *, and_self, hws, hvs, snap_str, getElem?_len, getElem?_lenAdd, set_len, set_lenAdd, len_mid, ints_len, List.length_map, lt_mid, List.nil_append, List.cons_append, Bool.not_true, Bool.not_false, adopt_int, adopt_bool, adopt_two, adopt_osl, adopt_tsl, adopt_nils, c1, s1]; first | (refine hA.out ?_; clear hA hB A B) | (refine hB.out ?_; clear hA hB A B) | (refine iteI (fun h => hA.out ?_) (fun h => hB.out ?_) <;> clear hA hB A B) | (refine iteI (fun h => hB.out ?_) (fun h => hA.out ?_) <;> clear hA hB A B)) | (refine wpO_cons fun K hK => ?_; simp only [go_sem, reduceIte, Nat.reduceAdd, Nat.reduceEqDiff, Nat.reduceLT, Nat.reduceLeDiff, *, and_self, hws, hvs, snap_str, getElem?_len, getElem?_lenAdd, set_len, set_lenAdd, len_mid, ints_len, List.length_map, lt_mid, List.nil_append, List.cons_append, Bool.not_true, Bool.not_false, adopt_int, adopt_bool, adopt_two, adopt_osl, adopt_tsl, adopt_nils, c1, s1]; first | (refine hK.out _ _ ?_; clear hK K) | (refine iteI (fun h => hK.out _ _ ?_) (fun h => hK.out _ _ ?_) <;> clear hK K)))
    simp only [resultsR, resultsL, resultA, expK_int, expK_bool, expK_str, expK_agg, expK_own, expK_tsl, resK_some, go_sem, reduceIte, Nat.reduceAdd, Nat.reduceEqDiff, Nat.reduceLT, Nat.reduceLeDiff, and_self, ]
    simp [mayG, h1]
  by_cases h3 : lv = 0
  · subst h3
    have z : ((0 : Int) == 0) = true := rfl
    refine EvV.walk rfl fn18 rfl nt18 rfl ?_
    simp only [List.length_cons, List.length_nil, List.cons_append, List.nil_append, Nat.reduceAdd, Nat.reduceSub, List.replicate]
    repeat' (first | refine go1 ?_ | refine blockK_else rfl ?_ | (refine wpC_cond fun A B hA hB => ?_; simp only [go_sem, reduceIte, Nat.reduceAdd, Nat.reduceEqDiff, Nat.reduceLT, Nat.reduceLeDiff, *, and_self, hws, hvs, snap_str, getElem?_len, getElem?_lenAdd, set_len, set_lenAdd, len_mid, ints_len, List.length_map, lt_mid, List.nil_append, List.cons_append, Bool.not_true, Bool.not_false, adopt_int, adopt_bool, adopt_two, adopt_osl, adopt_tsl, adopt_nils, c1, s1, z]; first | (refine hA.out ?_; clear hA hB A B) | (refine hB.out ?_; clear hA hB A B) | (refine iteI (fun h => hA.out ?_) (fun h => hB.out ?_) <;> clear hA hB A B) | (refine iteI (fun h => hB.out ?_) (fun h => hA.out ?_) <;> clear hA hB A B)) | (refine wpO_cons fun K hK => ?_; simp only [go_sem, reduceIte, Nat.reduceAdd, Nat.reduceEqDiff, Nat.reduceLT, Nat.reduceLeDiff, *, and_self, hws, hvs, snap_str, getElem?_len, getElem?_lenAdd, set_len, set_lenAdd, len_mid, ints_len, List.length_map, lt_mid, List.nil_append, List.cons_append, Bool.not_true, Bool.not_false, adopt_int, adopt_bool, adopt_two, adopt_osl, adopt_tsl, adopt_nils, c1, s1, z]; first | (refine hK.out _ _ ?_; clear hK K) | (refine iteI (fun h => hK.out _ _ ?_) (fun h => hK.out _ _ ?_) <;> clear hK K)))
    simp only [resultsR, resultsL, resultA, expK_int, expK_bool, expK_str, expK_agg, expK_own, expK_tsl, resK_some, go_sem, reduceIte, Nat.reduceAdd, Nat.reduceEqDiff, Nat.reduceLT, Nat.reduceLeDiff, and_self, ]
    simp [mayG, h1]
  by_cases h4 : lv = 1
  · subst h4
    have z : ((1 : Int) == 0) = false := rfl
    have z1 : ((1 : Int) == 1) = true := rfl
    have q := (personR w ps pe hw (by omega)).rw
    by_cases k : isP ps pe = true
    · refine EvV.walk rfl fn18 rfl nt18 rfl ?_
      simp only [List.length_cons, List.length_nil, List.cons_append, List.nil_append, Nat.reduceAdd, Nat.reduceSub, List.replicate]
      repeat' (first | refine go1 ?_ | refine blockK_else rfl ?_ | (refine wpC_cond fun A B hA hB => ?_; simp only [go_sem, reduceIte, Nat.reduceAdd, Nat.reduceEqDiff, Nat.reduceLT, Nat.reduceLeDiff, *, and_self, hws, hvs, snap_str, getElem?_len, getElem?_lenAdd, set_len, set_lenAdd, len_mid, ints_len, List.length_map, lt_mid, List.nil_append, List.cons_append, Bool.not_true, Bool.not_false, adopt_int, adopt_bool, adopt_two, adopt_osl, adopt_tsl, adopt_nils, c1, s1, z, z1, q, encP]; first | (refine hA.out ?_; clear hA hB A B) | (refine hB.out ?_; clear hA hB A B) | (refine iteI (fun h => hA.out ?_) (fun h => hB.out ?_) <;> clear hA hB A B) | (refine iteI (fun h => hB.out ?_) (fun h => hA.out ?_) <;> clear hA hB A B)) | (refine wpO_cons fun K hK => ?_; simp only [go_sem, reduceIte, Nat.reduceAdd, Nat.reduceEqDiff, Nat.reduceLT, Nat.reduceLeDiff, *, and_self, hws, hvs, snap_str, getElem?_len, getElem?_lenAdd, set_len, set_lenAdd, len_mid, ints_len, List.length_map, lt_mid, List.nil_append, List.cons_append, Bool.not_true, Bool.not_false, adopt_int, adopt_bool, adopt_two, adopt_osl, adopt_tsl, adopt_nils, c1, s1, z, z1, q, encP]; first | (refine hK.out _ _ ?_; clear hK K) | (refine iteI (fun h => hK.out _ _ ?_) (fun h => hK.out _ _ ?_) <;> clear hK K)))
      simp only [resultsR, resultsL, resultA, expK_int, expK_bool, expK_str, expK_agg, expK_own, expK_tsl, resK_some, go_sem, reduceIte, Nat.reduceAdd, Nat.reduceEqDiff, Nat.reduceLT, Nat.reduceLeDiff, and_self, ]
      simp [mayG, h1, k]
    · have k : isP ps pe = false := by simpa using k
      refine EvV.walk rfl fn18 rfl nt18 rfl ?_
      simp only [List.length_cons, List.length_nil, List.cons_append, List.nil_append, Nat.reduceAdd, Nat.reduceSub, List.replicate]
      repeat' (first | refine go1 ?_ | refine blockK_else rfl ?_ | (refine wpC_cond fun A B hA hB => ?_; simp only [go_sem, reduceIte, Nat.reduceAdd, Nat.reduceEqDiff, Nat.reduceLT, Nat.reduceLeDiff, *, and_self, hws, hvs, snap_str, getElem?_len, getElem?_lenAdd, set_len, set_lenAdd, len_mid, ints_len, List.length_map, lt_mid, List.nil_append, List.cons_append, Bool.not_true, Bool.not_false, adopt_int, adopt_bool, adopt_two, adopt_osl, adopt_tsl, adopt_nils, c1, s1, z, z1, q, encP]; first | (refine hA.out ?_; clear hA hB A B) | (refine hB.out ?_; clear hA hB A B) | (refine iteI (fun h => hA.out ?_) (fun h => hB.out ?_) <;> clear hA hB A B) | (refine iteI (fun h => hB.out ?_) (fun h => hA.out ?_) <;> clear hA hB A B)) | (refine wpO_cons fun K hK => ?_; simp only [go_sem, reduceIte, Nat.reduceAdd, Nat.reduceEqDiff, Nat.reduceLT, Nat.reduceLeDiff, *, and_self, hws, hvs, snap_str, getElem?_len, getElem?_lenAdd, set_len, set_lenAdd, len_mid, ints_len, List.length_map, lt_mid, List.nil_append, List.cons_append, Bool.not_true, Bool.not_false, adopt_int, adopt_bool, adopt_two, adopt_osl, adopt_tsl, adopt_nils, c1, s1, z, z1, q, encP]; first | (refine hK.out _ _ ?_; clear hK K) | (refine iteI (fun h => hK.out _ _ ?_) (fun h => hK.out _ _ ?_) <;> clear hK K)))
      simp only [resultsR, resultsL, resultA, expK_int, expK_bool, expK_str, expK_agg, expK_own, expK_tsl, resK_some, go_sem, reduceIte, Nat.reduceAdd, Nat.reduceEqDiff, Nat.reduceLT, Nat.reduceLeDiff, and_self, ]
      simp [mayG, h1, k]
  by_cases h2 : lv = 2
  · subst h2
    have e : mayG ps gs 2 gl un pe day = gl.any fun g => (membersR gs g).contains pe := by simp [mayG, h1]
    rw [e]
    clear e
    have z : ((2 : Int) == 2) = true := rfl
    have z0 : ((2 : Int) == 0) = false := rfl
    have z1 : ((2 : Int) == 1) = false := rfl
    refine EvV.walk rfl fn18 rfl nt18 rfl ?_
    simp only [List.length_cons, List.length_nil, List.cons_append, List.nil_append, Nat.reduceAdd, Nat.reduceSub, List.replicate]
    repeat' (first | refine go1 ?_ | refine blockK_else rfl ?_ | (refine wpC_cond fun A B hA hB => ?_; simp only [go_sem, reduceIte, Nat.reduceAdd, Nat.reduceEqDiff, Nat.reduceLT, Nat.reduceLeDiff, *, and_self, hws, hvs, snap_str, getElem?_len, getElem?_lenAdd, set_len, set_lenAdd, len_mid, ints_len, List.length_map, lt_mid, List.nil_append, List.cons_append, Bool.not_true, Bool.not_false, adopt_int, adopt_bool, adopt_two, adopt_osl, adopt_tsl, adopt_nils, c1, s1, z, z0, z1]; first | (refine hA.out ?_; clear hA hB A B) | (refine hB.out ?_; clear hA hB A B) | (refine iteI (fun h => hA.out ?_) (fun h => hB.out ?_) <;> clear hA hB A B) | (refine iteI (fun h => hB.out ?_) (fun h => hA.out ?_) <;> clear hA hB A B)) | (refine wpO_cons fun K hK => ?_; simp only [go_sem, reduceIte, Nat.reduceAdd, Nat.reduceEqDiff, Nat.reduceLT, Nat.reduceLeDiff, *, and_self, hws, hvs, snap_str, getElem?_len, getElem?_lenAdd, set_len, set_lenAdd, len_mid, ints_len, List.length_map, lt_mid, List.nil_append, List.cons_append, Bool.not_true, Bool.not_false, adopt_int, adopt_bool, adopt_two, adopt_osl, adopt_tsl, adopt_nils, c1, s1, z, z0, z1]; first | (refine hK.out _ _ ?_; clear hK K) | (refine iteI (fun h => hK.out _ _ ?_) (fun h => hK.out _ _ ?_) <;> clear hK K)))
    refine wpC_each [8, 38, 39, 40, 41, 42, 43, 44, 45, 46, 47, 48, 49, 50, 51, 52, 53] 11 gl (fun _ post => (gl.any fun g => (membersR gs g).contains pe) = post.any fun g => (membersR gs g).contains pe) ?_ ?_ ?_ ?_
    · rfl
    · rfl
    · intro g G hE
      rw [hE]
      simp only [garbA_cons, garbA_nil, setL_cons, setL_nil, List.set_cons_zero, List.set_cons_succ]
      repeat' (first | refine go1 ?_ | refine blockK_else rfl ?_ | (refine wpC_cond fun A B hA hB => ?_; simp only [go_sem, reduceIte, Nat.reduceAdd, Nat.reduceEqDiff, Nat.reduceLT, Nat.reduceLeDiff, *, and_self, ints_len, List.length_map, Int.lt_irrefl, List.nil_append, lenK_sls hp]; first | (refine hA.out ?_; clear hA hB A B) | (refine hB.out ?_; clear hA hB A B) | (refine iteI (fun h => hA.out ?_) (fun h => hB.out ?_) <;> clear hA hB A B) | (refine iteI (fun h => hB.out ?_) (fun h => hA.out ?_) <;> clear hA hB A B)) | (refine wpO_cons fun K hK => ?_; simp only [go_sem, reduceIte, Nat.reduceAdd, Nat.reduceEqDiff, Nat.reduceLT, Nat.reduceLeDiff, *, and_self, ints_len, List.length_map, Int.lt_irrefl, List.nil_append, lenK_sls hp]; first | (refine hK.out _ _ ?_; clear hK K) | (refine iteI (fun h => hK.out _ _ ?_) (fun h => hK.out _ _ ?_) <;> clear hK K)))
      simp only [resultsR, resultsL, resultA, expK_int, expK_bool, expK_str, expK_agg, expK_own, expK_tsl, resK_some, go_sem, reduceIte, Nat.reduceAdd, Nat.reduceEqDiff, Nat.reduceLT, Nat.reduceLeDiff, and_self, ]
      rfl
    · intro g G pre x post h3 hE
      rw [hE]
      have i1 := idx_sls hp (X := CX) ty23 ty3 rfl (by rw [h3]; exact ints_mid pre x post) (k := .i64)
      have lt1 : (pre.length : Int) < (gl.length : Int) := by rw [h3]; simp; omega
      have w1 := wrap_succ (n := pre.length) (by rw [h3] at hgl; simp at hgl; omega)
      have q := (inRE h x pe).rw
      have hh : Hold (gl = pre ++ x :: post) := ⟨h3⟩
      have hhE : Hold ((gl.any fun g => (membersR gs g).contains pe) = (x :: post).any fun g => (membersR gs g).contains pe) := ⟨hE⟩
      clear h3 hE
      simp only [garbA_cons, garbA_nil, setL_cons, setL_nil, List.set_cons_zero, List.set_cons_succ]
      by_cases k : (membersR gs x).contains pe = true
      · rw [k] at q
        repeat' (first | refine go1 ?_ | refine blockK_else rfl ?_ | (refine wpC_cond fun A B hA hB => ?_; simp only [go_sem, reduceIte, Nat.reduceAdd, Nat.reduceEqDiff, Nat.reduceLT, Nat.reduceLeDiff, *, and_self, hws, hvs, snap_str, getElem?_len, getElem?_lenAdd, set_len, set_lenAdd, len_mid, ints_len, List.length_map, lt_mid, List.nil_append, List.cons_append, Bool.not_true, Bool.not_false, adopt_int, adopt_bool, adopt_two, adopt_osl, adopt_tsl, adopt_nils, i1, lt1, q, lenK_sls hp, ints_len]; first | (refine hA.out ?_; clear hA hB A B) | (refine hB.out ?_; clear hA hB A B) | (refine iteI (fun h => hA.out ?_) (fun h => hB.out ?_) <;> clear hA hB A B) | (refine iteI (fun h => hB.out ?_) (fun h => hA.out ?_) <;> clear hA hB A B)) | (refine wpO_cons fun K hK => ?_; simp only [go_sem, reduceIte, Nat.reduceAdd, Nat.reduceEqDiff, Nat.reduceLT, Nat.reduceLeDiff, *, and_self, hws, hvs, snap_str, getElem?_len, getElem?_lenAdd, set_len, set_lenAdd, len_mid, ints_len, List.length_map, lt_mid, List.nil_append, List.cons_append, Bool.not_true, Bool.not_false, adopt_int, adopt_bool, adopt_two, adopt_osl, adopt_tsl, adopt_nils, i1, lt1, q, lenK_sls hp, ints_len]; first | (refine hK.out _ _ ?_; clear hK K) | (refine iteI (fun h => hK.out _ _ ?_) (fun h => hK.out _ _ ?_) <;> clear hK K)))
        simp only [resultsR, resultsL, resultA, expK_int, expK_bool, expK_str, expK_agg, expK_own, expK_tsl, resK_some, go_sem, reduceIte, Nat.reduceAdd, Nat.reduceEqDiff, Nat.reduceLT, Nat.reduceLeDiff, and_self, ]
        rw [List.any_cons, k]; rfl
      · have k : (membersR gs x).contains pe = false := by simpa using k
        rw [k] at q
        repeat' (first | refine go1 ?_ | refine blockK_else rfl ?_ | (refine wpC_cond fun A B hA hB => ?_; simp only [go_sem, reduceIte, Nat.reduceAdd, Nat.reduceEqDiff, Nat.reduceLT, Nat.reduceLeDiff, *, and_self, hws, hvs, snap_str, getElem?_len, getElem?_lenAdd, set_len, set_lenAdd, len_mid, ints_len, List.length_map, lt_mid, List.nil_append, List.cons_append, Bool.not_true, Bool.not_false, adopt_int, adopt_bool, adopt_two, adopt_osl, adopt_tsl, adopt_nils, i1, lt1, w1, q, lenK_sls hp, ints_len]; first | (refine hA.out ?_; clear hA hB A B) | (refine hB.out ?_; clear hA hB A B) | (refine iteI (fun h => hA.out ?_) (fun h => hB.out ?_) <;> clear hA hB A B) | (refine iteI (fun h => hB.out ?_) (fun h => hA.out ?_) <;> clear hA hB A B)) | (refine wpO_cons fun K hK => ?_; simp only [go_sem, reduceIte, Nat.reduceAdd, Nat.reduceEqDiff, Nat.reduceLT, Nat.reduceLeDiff, *, and_self, hws, hvs, snap_str, getElem?_len, getElem?_lenAdd, set_len, set_lenAdd, len_mid, ints_len, List.length_map, lt_mid, List.nil_append, List.cons_append, Bool.not_true, Bool.not_false, adopt_int, adopt_bool, adopt_two, adopt_osl, adopt_tsl, adopt_nils, i1, lt1, w1, q, lenK_sls hp, ints_len]; first | (refine hK.out _ _ ?_; clear hK K) | (refine iteI (fun h => hK.out _ _ ?_) (fun h => hK.out _ _ ?_) <;> clear hK K)))
        refine each_next hh.out ?_ ?_ ?_
        · rw [List.any_cons, k, Bool.false_or]
        · ((try simp only [eraseA_cons, eraseA_nil, setL_cons, setL_nil, List.set_cons_zero, List.set_cons_succ]); all_goals (first | rfl | (simp only [len_snoc, ints_len, List.length_map, ]; done) | (simp only [len_snoc, len_mid, ints_len, List.length_map, List.length_append, List.length_cons, List.length_nil, Nat.zero_add, ]; done) | (simp only [len_mid, len_snoc, ints_len, List.length_map, List.length_append, List.length_cons, List.length_nil, Nat.zero_add, ]; rfl)))
        · first | exact ⟨[], (List.append_nil _).symm⟩ | exact ⟨_, rfl⟩ | (simp only [List.append_assoc, List.cons_append, List.nil_append]; exact ⟨_, rfl⟩)
  · refine EvV.walk rfl fn18 rfl nt18 rfl ?_
    simp only [List.length_cons, List.length_nil, List.cons_append, List.nil_append, Nat.reduceAdd, Nat.reduceSub, List.replicate]
    repeat' (first | refine go1 ?_ | refine blockK_else rfl ?_ | (refine wpC_cond fun A B hA hB => ?_; simp only [go_sem, reduceIte, Nat.reduceAdd, Nat.reduceEqDiff, Nat.reduceLT, Nat.reduceLeDiff, *, and_self, hws, hvs, snap_str, getElem?_len, getElem?_lenAdd, set_len, set_lenAdd, len_mid, ints_len, List.length_map, lt_mid, List.nil_append, List.cons_append, Bool.not_true, Bool.not_false, adopt_int, adopt_bool, adopt_two, adopt_osl, adopt_tsl, adopt_nils, c1, s1]; first | (refine hA.out ?_; clear hA hB A B) | (refine hB.out ?_; clear hA hB A B) | (refine iteI (fun h => hA.out ?_) (fun h => hB.out ?_) <;> clear hA hB A B) | (refine iteI (fun h => hB.out ?_) (fun h => hA.out ?_) <;> clear hA hB A B)) | (refine wpO_cons fun K hK => ?_; simp only [go_sem, reduceIte, Nat.reduceAdd, Nat.reduceEqDiff, Nat.reduceLT, Nat.reduceLeDiff, *, and_self, hws, hvs, snap_str, getElem?_len, getElem?_lenAdd, set_len, set_lenAdd, len_mid, ints_len, List.length_map, lt_mid, List.nil_append, List.cons_append, Bool.not_true, Bool.not_false, adopt_int, adopt_bool, adopt_two, adopt_osl, adopt_tsl, adopt_nils, c1, s1]; first | (refine hK.out _ _ ?_; clear hK K) | (refine iteI (fun h => hK.out _ _ ?_) (fun h => hK.out _ _ ?_) <;> clear hK K)))
    simp only [resultsR, resultsL, resultA, expK_int, expK_bool, expK_str, expK_agg, expK_own, expK_tsl, resK_some, go_sem, reduceIte, Nat.reduceAdd, Nat.reduceEqDiff, Nat.reduceLT, Nat.reduceLeDiff, and_self, ]
    simp [mayG, h1, h2, h3, h4]

/-! Protocols as values. -/
structure Prt where
  lv : Int
  gl : List Int
  un : Int
  gv : AV
def encR (p : Prt) : List AV := [.int .i64 p.lv, p.gv, .int .i64 p.un]
structure Prt.ok (p : Prt) : Prop where
  gv : SLs 1 (ints p.gl) p.gv
  len : p.gl.length ≤ 1000
noncomputable def mayP (ps : List Psn) (gs : List Grp) (p : Prt) (pe day : Int) : Bool := mayF ps gs p.lv p.gl p.un pe day

theorem allE {v w u : AV} {gs : List Grp} {ps : List Psn} {l : List Prt} (h : GsOK v gs) (hw : SLs 3 (ps.map encP) w) (hps : ps.length ≤ 1000) (hl : SLs 3 (l.map encR) u) (hok : ∀ p ∈ l, p.ok) (hll : l.length ≤ 1000) (pe day : Int) :
    EvV CX 19 [w, v, u, .agg [.int .i64 pe, .int .i64 day]] (· = .bool (l.all fun p => mayP ps gs p pe day)) := by
  have hvs := fun S => h.sl.snap (S := S)
  have hws := hw.snap
  refine EvV.walk rfl fn19 rfl nt19 rfl ?_
  simp only [List.length_cons, List.length_nil, List.cons_append, List.nil_append, Nat.reduceAdd, Nat.reduceSub, List.replicate]
  repeat' (first | refine go1 ?_ | refine blockK_else rfl ?_ | (refine wpC_cond fun A B hA hB => ?_; simp only [go_sem, reduceIte, Nat.reduceAdd, Nat.reduceEqDiff, Nat.reduceLT, Nat.reduceLeDiff, *, and_self, hws, hvs, snap_str, getElem?_len, getElem?_lenAdd, set_len, set_lenAdd, len_mid, ints_len, List.length_map, lt_mid, List.nil_append, List.cons_append, Bool.not_true, Bool.not_false, adopt_int, adopt_bool, adopt_two, adopt_osl, adopt_tsl, adopt_nils, lenK_sls hl]; first | (refine hA.out ?_; clear hA hB A B) | (refine hB.out ?_; clear hA hB A B) | (refine iteI (fun h => hA.out ?_) (fun h => hB.out ?_) <;> clear hA hB A B) | (refine iteI (fun h => hB.out ?_) (fun h => hA.out ?_) <;> clear hA hB A B)) | (refine wpO_cons fun K hK => ?_; simp only [go_sem, reduceIte, Nat.reduceAdd, Nat.reduceEqDiff, Nat.reduceLT, Nat.reduceLeDiff, *, and_self, hws, hvs, snap_str, getElem?_len, getElem?_lenAdd, set_len, set_lenAdd, len_mid, ints_len, List.length_map, lt_mid, List.nil_append, List.cons_append, Bool.not_true, Bool.not_false, adopt_int, adopt_bool, adopt_two, adopt_osl, adopt_tsl, adopt_nils, lenK_sls hl]; first | (refine hK.out _ _ ?_; clear hK K) | (refine iteI (fun h => hK.out _ _ ?_) (fun h => hK.out _ _ ?_) <;> clear hK K)))
  refine wpC_each [8, 10, 14, 15, 16, 17, 18, 19, 20, 21, 22, 23] 13 l (fun _ post => (l.all fun p => mayP ps gs p pe day) = post.all fun p => mayP ps gs p pe day) ?_ ?_ ?_ ?_
  · rfl
  · rfl
  · intro g G hE
    rw [hE]
    simp only [garbA_cons, garbA_nil, setL_cons, setL_nil, List.set_cons_zero, List.set_cons_succ]
    repeat' (first | refine go1 ?_ | refine blockK_else rfl ?_ | (refine wpC_cond fun A B hA hB => ?_; simp only [go_sem, reduceIte, Nat.reduceAdd, Nat.reduceEqDiff, Nat.reduceLT, Nat.reduceLeDiff, *, and_self, ints_len, List.length_map, Int.lt_irrefl, List.nil_append]; first | (refine hA.out ?_; clear hA hB A B) | (refine hB.out ?_; clear hA hB A B) | (refine iteI (fun h => hA.out ?_) (fun h => hB.out ?_) <;> clear hA hB A B) | (refine iteI (fun h => hB.out ?_) (fun h => hA.out ?_) <;> clear hA hB A B)) | (refine wpO_cons fun K hK => ?_; simp only [go_sem, reduceIte, Nat.reduceAdd, Nat.reduceEqDiff, Nat.reduceLT, Nat.reduceLeDiff, *, and_self, ints_len, List.length_map, Int.lt_irrefl, List.nil_append]; first | (refine hK.out _ _ ?_; clear hK K) | (refine iteI (fun h => hK.out _ _ ?_) (fun h => hK.out _ _ ?_) <;> clear hK K)))
    simp only [resultsR, resultsL, resultA, expK_int, expK_bool, expK_str, expK_agg, expK_own, expK_tsl, resK_some, go_sem, reduceIte, Nat.reduceAdd, Nat.reduceEqDiff, Nat.reduceLT, Nat.reduceLeDiff, and_self, ]
  · intro g G pre x post h3 hE
    rw [hE]
    have hxo := hok x (by rw [h3]; simp)
    have i1 := idx_sls hl (X := CX) ty39 ty25 rfl (n := pre.length) (row := encR x) (k := .i64) (map_at encR h3)
    have lt1 : (pre.length : Int) < (l.length : Int) := by rw [h3]; simp; omega
    have w1 := wrap_succ (n := pre.length) (by rw [h3] at hll; simp at hll; omega)
    have c1 := hxo.gv.cell
    have s1 := hxo.gv.snap
    have q := (mayE h hw hps hxo.gv hxo.len x.lv x.un pe day).rw
    have hh : Hold (l = pre ++ x :: post) := ⟨h3⟩
    have hhE : Hold ((l.all fun p => mayP ps gs p pe day) = (x :: post).all fun p => mayP ps gs p pe day) := ⟨hE⟩
    clear h3 hE
    obtain ⟨m, hm⟩ : ∃ m, mayF ps gs x.lv x.gl x.un pe day = m := ⟨_, rfl⟩
    have hm' : mayP ps gs x pe day = m := hm
    rw [hm] at q
    clear hm
    simp only [garbA_cons, garbA_nil, setL_cons, setL_nil, List.set_cons_zero, List.set_cons_succ]
    cases m with
    | true =>
      repeat' (first | refine go1 ?_ | refine blockK_else rfl ?_ | (refine wpC_cond fun A B hA hB => ?_; simp only [go_sem, reduceIte, Nat.reduceAdd, Nat.reduceEqDiff, Nat.reduceLT, Nat.reduceLeDiff, *, and_self, hws, hvs, snap_str, getElem?_len, getElem?_lenAdd, set_len, set_lenAdd, len_mid, ints_len, List.length_map, lt_mid, List.nil_append, List.cons_append, Bool.not_true, Bool.not_false, adopt_int, adopt_bool, adopt_two, adopt_osl, adopt_tsl, adopt_nils, i1, lt1, w1, q, encR, c1, s1]; first | (refine hA.out ?_; clear hA hB A B) | (refine hB.out ?_; clear hA hB A B) | (refine iteI (fun h => hA.out ?_) (fun h => hB.out ?_) <;> clear hA hB A B) | (refine iteI (fun h => hB.out ?_) (fun h => hA.out ?_) <;> clear hA hB A B)) | (refine wpO_cons fun K hK => ?_; simp only [go_sem, reduceIte, Nat.reduceAdd, Nat.reduceEqDiff, Nat.reduceLT, Nat.reduceLeDiff, *, and_self, hws, hvs, snap_str, getElem?_len, getElem?_lenAdd, set_len, set_lenAdd, len_mid, ints_len, List.length_map, lt_mid, List.nil_append, List.cons_append, Bool.not_true, Bool.not_false, adopt_int, adopt_bool, adopt_two, adopt_osl, adopt_tsl, adopt_nils, i1, lt1, w1, q, encR, c1, s1]; first | (refine hK.out _ _ ?_; clear hK K) | (refine iteI (fun h => hK.out _ _ ?_) (fun h => hK.out _ _ ?_) <;> clear hK K)))
      refine each_next hh.out ?_ ?_ ?_
      · rw [List.all_cons, hm', Bool.true_and]
      · ((try simp only [eraseA_cons, eraseA_nil, setL_cons, setL_nil, List.set_cons_zero, List.set_cons_succ]); all_goals (first | rfl | (simp only [len_snoc, ints_len, List.length_map, ]; done) | (simp only [len_snoc, len_mid, ints_len, List.length_map, List.length_append, List.length_cons, List.length_nil, Nat.zero_add, ]; done) | (simp only [len_mid, len_snoc, ints_len, List.length_map, List.length_append, List.length_cons, List.length_nil, Nat.zero_add, ]; rfl)))
      · first | exact ⟨[], (List.append_nil _).symm⟩ | exact ⟨_, rfl⟩ | (simp only [List.append_assoc, List.cons_append, List.nil_append]; exact ⟨_, rfl⟩)
    | false =>
      repeat' (first | refine go1 ?_ | refine blockK_else rfl ?_ | (refine wpC_cond fun A B hA hB => ?_; simp only [go_sem, reduceIte, Nat.reduceAdd, Nat.reduceEqDiff, Nat.reduceLT, Nat.reduceLeDiff, *, and_self, hws, hvs, snap_str, getElem?_len, getElem?_lenAdd, set_len, set_lenAdd, len_mid, ints_len, List.length_map, lt_mid, List.nil_append, List.cons_append, Bool.not_true, Bool.not_false, adopt_int, adopt_bool, adopt_two, adopt_osl, adopt_tsl, adopt_nils, i1, lt1, q, encR, c1, s1]; first | (refine hA.out ?_; clear hA hB A B) | (refine hB.out ?_; clear hA hB A B) | (refine iteI (fun h => hA.out ?_) (fun h => hB.out ?_) <;> clear hA hB A B) | (refine iteI (fun h => hB.out ?_) (fun h => hA.out ?_) <;> clear hA hB A B)) | (refine wpO_cons fun K hK => ?_; simp only [go_sem, reduceIte, Nat.reduceAdd, Nat.reduceEqDiff, Nat.reduceLT, Nat.reduceLeDiff, *, and_self, hws, hvs, snap_str, getElem?_len, getElem?_lenAdd, set_len, set_lenAdd, len_mid, ints_len, List.length_map, lt_mid, List.nil_append, List.cons_append, Bool.not_true, Bool.not_false, adopt_int, adopt_bool, adopt_two, adopt_osl, adopt_tsl, adopt_nils, i1, lt1, q, encR, c1, s1]; first | (refine hK.out _ _ ?_; clear hK K) | (refine iteI (fun h => hK.out _ _ ?_) (fun h => hK.out _ _ ?_) <;> clear hK K)))
      simp only [resultsR, resultsL, resultA, expK_int, expK_bool, expK_str, expK_agg, expK_own, expK_tsl, resK_some, go_sem, reduceIte, Nat.reduceAdd, Nat.reduceEqDiff, Nat.reduceLT, Nat.reduceLeDiff, and_self, ]
      rw [hm']; rfl

def mayQ (ps : List Psn) (gs : List Grp) (p : Prt) (pe day : Int) : Bool := mayG ps gs p.lv p.gl p.un pe day
theorem allR {v w u : AV} {gs : List Grp} {ps : List Psn} {l : List Prt} (h : GsOK v gs) (hw : SLs 3 (ps.map encP) w) (hps : ps.length ≤ 1000) (hl : SLs 3 (l.map encR) u) (hok : ∀ p ∈ l, p.ok) (hll : l.length ≤ 1000) (pe day : Int) :
    EvV CX 20 [w, v, u, .agg [.int .i64 pe, .int .i64 day]] (· = .bool (l.all fun p => mayQ ps gs p pe day)) := by
  have hvs := fun S => h.sl.snap (S := S)
  have hws := hw.snap
  refine EvV.walk rfl fn20 rfl nt20 rfl ?_
  simp only [List.length_cons, List.length_nil, List.cons_append, List.nil_append, Nat.reduceAdd, Nat.reduceSub, List.replicate]
  repeat' (first | refine go1 ?_ | refine blockK_else rfl ?_ | (refine wpC_cond fun A B hA hB => ?_; simp only [go_sem, reduceIte, Nat.reduceAdd, Nat.reduceEqDiff, Nat.reduceLT, Nat.reduceLeDiff, *, and_self, hws, hvs, snap_str, getElem?_len, getElem?_lenAdd, set_len, set_lenAdd, len_mid, ints_len, List.length_map, lt_mid, List.nil_append, List.cons_append, Bool.not_true, Bool.not_false, adopt_int, adopt_bool, adopt_two, adopt_osl, adopt_tsl, adopt_nils, lenK_sls hl]; first | (refine hA.out ?_; clear hA hB A B) | (refine hB.out ?_; clear hA hB A B) | (refine iteI (fun h => hA.out ?_) (fun h => hB.out ?_) <;> clear hA hB A B) | (refine iteI (fun h => hB.out ?_) (fun h => hA.out ?_) <;> clear hA hB A B)) | (refine wpO_cons fun K hK => ?_; simp only [go_sem, reduceIte, Nat.reduceAdd, Nat.reduceEqDiff, Nat.reduceLT, Nat.reduceLeDiff, *, and_self, hws, hvs, snap_str, getElem?_len, getElem?_lenAdd, set_len, set_lenAdd, len_mid, ints_len, List.length_map, lt_mid, List.nil_append, List.cons_append, Bool.not_true, Bool.not_false, adopt_int, adopt_bool, adopt_two, adopt_osl, adopt_tsl, adopt_nils, lenK_sls hl]; first | (refine hK.out _ _ ?_; clear hK K) | (refine iteI (fun h => hK.out _ _ ?_) (fun h => hK.out _ _ ?_) <;> clear hK K)))
  refine wpC_each [8, 10, 11, 12, 13, 14, 15, 16, 17, 18, 19, 20, 21, 22, 23, 24] 9 l (fun _ post => (l.all fun p => mayQ ps gs p pe day) = post.all fun p => mayQ ps gs p pe day) ?_ ?_ ?_ ?_
  · rfl
  · rfl
  · intro g G hE
    rw [hE]
    simp only [garbA_cons, garbA_nil, setL_cons, setL_nil, List.set_cons_zero, List.set_cons_succ]
    repeat' (first | refine go1 ?_ | refine blockK_else rfl ?_ | (refine wpC_cond fun A B hA hB => ?_; simp only [go_sem, reduceIte, Nat.reduceAdd, Nat.reduceEqDiff, Nat.reduceLT, Nat.reduceLeDiff, *, and_self, ints_len, List.length_map, Int.lt_irrefl, List.nil_append, lenK_sls hl]; first | (refine hA.out ?_; clear hA hB A B) | (refine hB.out ?_; clear hA hB A B) | (refine iteI (fun h => hA.out ?_) (fun h => hB.out ?_) <;> clear hA hB A B) | (refine iteI (fun h => hB.out ?_) (fun h => hA.out ?_) <;> clear hA hB A B)) | (refine wpO_cons fun K hK => ?_; simp only [go_sem, reduceIte, Nat.reduceAdd, Nat.reduceEqDiff, Nat.reduceLT, Nat.reduceLeDiff, *, and_self, ints_len, List.length_map, Int.lt_irrefl, List.nil_append, lenK_sls hl]; first | (refine hK.out _ _ ?_; clear hK K) | (refine iteI (fun h => hK.out _ _ ?_) (fun h => hK.out _ _ ?_) <;> clear hK K)))
    simp only [resultsR, resultsL, resultA, expK_int, expK_bool, expK_str, expK_agg, expK_own, expK_tsl, resK_some, go_sem, reduceIte, Nat.reduceAdd, Nat.reduceEqDiff, Nat.reduceLT, Nat.reduceLeDiff, and_self, ]
  · intro g G pre x post h3 hE
    rw [hE]
    have hxo := hok x (by rw [h3]; simp)
    have i1 := idx_sls hl (X := CX) ty39 ty25 rfl (n := pre.length) (row := encR x) (k := .i64) (map_at encR h3)
    have lt1 : (pre.length : Int) < (l.length : Int) := by rw [h3]; simp; omega
    have w1 := wrap_succ (n := pre.length) (by rw [h3] at hll; simp at hll; omega)
    have c1 := hxo.gv.cell
    have s1 := hxo.gv.snap
    have q := (mayR h hw hps hxo.gv hxo.len x.lv x.un pe day).rw
    have hh : Hold (l = pre ++ x :: post) := ⟨h3⟩
    have hhE : Hold ((l.all fun p => mayQ ps gs p pe day) = (x :: post).all fun p => mayQ ps gs p pe day) := ⟨hE⟩
    clear h3 hE
    obtain ⟨m, hm⟩ : ∃ m, mayG ps gs x.lv x.gl x.un pe day = m := ⟨_, rfl⟩
    have hm' : mayQ ps gs x pe day = m := hm
    rw [hm] at q
    clear hm
    simp only [garbA_cons, garbA_nil, setL_cons, setL_nil, List.set_cons_zero, List.set_cons_succ]
    cases m with
    | true =>
      repeat' (first | refine go1 ?_ | refine blockK_else rfl ?_ | (refine wpC_cond fun A B hA hB => ?_; simp only [go_sem, reduceIte, Nat.reduceAdd, Nat.reduceEqDiff, Nat.reduceLT, Nat.reduceLeDiff, *, and_self, hws, hvs, snap_str, getElem?_len, getElem?_lenAdd, set_len, set_lenAdd, len_mid, ints_len, List.length_map, lt_mid, List.nil_append, List.cons_append, Bool.not_true, Bool.not_false, adopt_int, adopt_bool, adopt_two, adopt_osl, adopt_tsl, adopt_nils, i1, lt1, w1, q, encR, c1, s1, lenK_sls hl, List.length_map]; first | (refine hA.out ?_; clear hA hB A B) | (refine hB.out ?_; clear hA hB A B) | (refine iteI (fun h => hA.out ?_) (fun h => hB.out ?_) <;> clear hA hB A B) | (refine iteI (fun h => hB.out ?_) (fun h => hA.out ?_) <;> clear hA hB A B)) | (refine wpO_cons fun K hK => ?_; simp only [go_sem, reduceIte, Nat.reduceAdd, Nat.reduceEqDiff, Nat.reduceLT, Nat.reduceLeDiff, *, and_self, hws, hvs, snap_str, getElem?_len, getElem?_lenAdd, set_len, set_lenAdd, len_mid, ints_len, List.length_map, lt_mid, List.nil_append, List.cons_append, Bool.not_true, Bool.not_false, adopt_int, adopt_bool, adopt_two, adopt_osl, adopt_tsl, adopt_nils, i1, lt1, w1, q, encR, c1, s1, lenK_sls hl, List.length_map]; first | (refine hK.out _ _ ?_; clear hK K) | (refine iteI (fun h => hK.out _ _ ?_) (fun h => hK.out _ _ ?_) <;> clear hK K)))
      refine each_next hh.out ?_ ?_ ?_
      · rw [List.all_cons, hm', Bool.true_and]
      · ((try simp only [eraseA_cons, eraseA_nil, setL_cons, setL_nil, List.set_cons_zero, List.set_cons_succ]); all_goals (first | rfl | (simp only [len_snoc, ints_len, List.length_map, ]; done) | (simp only [len_snoc, len_mid, ints_len, List.length_map, List.length_append, List.length_cons, List.length_nil, Nat.zero_add, ]; done) | (simp only [len_mid, len_snoc, ints_len, List.length_map, List.length_append, List.length_cons, List.length_nil, Nat.zero_add, ]; rfl)))
      · first | exact ⟨[], (List.append_nil _).symm⟩ | exact ⟨_, rfl⟩ | (simp only [List.append_assoc, List.cons_append, List.nil_append]; exact ⟨_, rfl⟩)
    | false =>
      repeat' (first | refine go1 ?_ | refine blockK_else rfl ?_ | (refine wpC_cond fun A B hA hB => ?_; simp only [go_sem, reduceIte, Nat.reduceAdd, Nat.reduceEqDiff, Nat.reduceLT, Nat.reduceLeDiff, *, and_self, hws, hvs, snap_str, getElem?_len, getElem?_lenAdd, set_len, set_lenAdd, len_mid, ints_len, List.length_map, lt_mid, List.nil_append, List.cons_append, Bool.not_true, Bool.not_false, adopt_int, adopt_bool, adopt_two, adopt_osl, adopt_tsl, adopt_nils, i1, lt1, q, encR, c1, s1, lenK_sls hl, List.length_map]; first | (refine hA.out ?_; clear hA hB A B) | (refine hB.out ?_; clear hA hB A B) | (refine iteI (fun h => hA.out ?_) (fun h => hB.out ?_) <;> clear hA hB A B) | (refine iteI (fun h => hB.out ?_) (fun h => hA.out ?_) <;> clear hA hB A B)) | (refine wpO_cons fun K hK => ?_; simp only [go_sem, reduceIte, Nat.reduceAdd, Nat.reduceEqDiff, Nat.reduceLT, Nat.reduceLeDiff, *, and_self, hws, hvs, snap_str, getElem?_len, getElem?_lenAdd, set_len, set_lenAdd, len_mid, ints_len, List.length_map, lt_mid, List.nil_append, List.cons_append, Bool.not_true, Bool.not_false, adopt_int, adopt_bool, adopt_two, adopt_osl, adopt_tsl, adopt_nils, i1, lt1, q, encR, c1, s1, lenK_sls hl, List.length_map]; first | (refine hK.out _ _ ?_; clear hK K) | (refine iteI (fun h => hK.out _ _ ?_) (fun h => hK.out _ _ ?_) <;> clear hK K)))
      simp only [resultsR, resultsL, resultA, expK_int, expK_bool, expK_str, expK_agg, expK_own, expK_tsl, resK_some, go_sem, reduceIte, Nat.reduceAdd, Nat.reduceEqDiff, Nat.reduceLT, Nat.reduceLeDiff, and_self, ]
      rw [hm']; rfl
end Go.Eng

/- Groups as arguments show them. -/
namespace Go.Eng
open Go.Proofs

/-- Groups as any argument shows them. -/
structure GsV (v : AV) (gs : List Grp) : Prop where
  sl : SLs 4 (gs.map encG) v
  ok : ∀ g ∈ gs, g.ok
  st : ∀ g ∈ gs, g.pv.stab = true ∧ g.sv.stab = true

end Go.Eng

/- Groups and persons: arguments as trees. -/
namespace Go.Eng
open Go.Proofs

theorem rows_ints {r : List (List AV)} (h : ∀ x ∈ r, ∃ v r', x = v :: r' ∧ (∃ n, v = .int .i64 n ∧ (Lit.int .i64 n).wf = true) ∧ r' = []) : ∃ l, r = ints l ∧ ∀ n ∈ l, (Lit.int .i64 n).wf = true :=
  ints_of fun x hx => by obtain ⟨_, _, rfl, ⟨n, rfl, hn⟩, rfl⟩ := h x hx; exact ⟨n, rfl, hn⟩
theorem gsv_aux : ∀ {rows : List (List AV)}, (∀ r ∈ rows, okR [.int .i64, .str, .sl [.int .i64], .sl [.int .i64]] r) → ∃ gs : List Grp, rows = gs.map encG ∧ (∀ g ∈ gs, g.ok) ∧ (∀ g ∈ gs, g.pv.stab = true ∧ g.sv.stab = true) ∧ ∀ g ∈ gs, g.pv ≠ .esl
  | [], _ => ⟨[], rfl, (fun _ h => by cases h), (fun _ h => by cases h), (fun _ h => by cases h)⟩
  | r :: rows, h => by
    have hr := h r (by simp)
    simp only [okR, okC] at hr
    obtain ⟨_, _, rfl, ⟨a, rfl, _⟩, _, _, rfl, ⟨s, rfl, _⟩, _, _, rfl, ⟨r1, rfl, _, k1⟩, _, _, rfl, ⟨r2, rfl, _, k2⟩, rfl⟩ := hr
    obtain ⟨l1, rfl, _⟩ := rows_ints k1
    obtain ⟨l2, rfl, _⟩ := rows_ints k2
    obtain ⟨gs, rfl, hg, hs, he⟩ := gsv_aux (rows := rows) fun r hr => h r (by simp [hr])
    refine ⟨⟨a, s, l1, l2, .tsl true 1 (ints l1), .tsl true 1 (ints l2)⟩ :: gs, rfl, fun g hgm => ?_, fun g hgm => ?_, fun g hgm => ?_⟩
    · rcases List.mem_cons.1 hgm with rfl | hgm
      · exact ⟨.rows true, .rows true⟩
      · exact hg g hgm
    · rcases List.mem_cons.1 hgm with rfl | hgm
      · exact ⟨rfl, rfl⟩
      · exact hs g hgm
    · rcases List.mem_cons.1 hgm with rfl | hgm
      · simp
      · exact he g hgm
theorem gsv_of {rows : List (List AV)} (h : ∀ r ∈ rows, okR [.int .i64, .str, .sl [.int .i64], .sl [.int .i64]] r) : ∃ gs : List Grp, rows = gs.map encG ∧ GsV (.tsl true 4 rows) gs ∧ ∀ g ∈ gs, g.pv ≠ .esl := by
  obtain ⟨gs, rfl, h1, h2, h3⟩ := gsv_aux h
  exact ⟨gs, rfl, ⟨.rows true, h1, h2⟩, h3⟩
theorem psns_of : ∀ {rows : List (List AV)}, (∀ r ∈ rows, okR [.int .i64, .str, .bool] r) → ∃ ps : List Psn, rows = ps.map encP
  | [], _ => ⟨[], rfl⟩
  | r :: rows, h => by
    have hr := h r (by simp)
    simp only [okR, okC] at hr
    obtain ⟨_, _, rfl, ⟨a, rfl, _⟩, _, _, rfl, ⟨s, rfl, _⟩, _, _, rfl, ⟨b, rfl⟩, rfl⟩ := hr
    obtain ⟨ps, rfl⟩ := psns_of (rows := rows) fun r hr => h r (by simp [hr])
    exact ⟨⟨a, s, b⟩ :: ps, rfl⟩
end Go.Eng

/- Bounds of arguments. -/
namespace Go.Eng
open Go.Proofs

theorem avBR_mem {r : List AV} : ∀ {rows : List (List AV)}, r ∈ rows → avBL r ≤ avBR rows
  | [], h => by cases h
  | x :: rows, h => by
    simp only [avBR]
    rcases List.mem_cons.mp h with e | e
    · subst e; omega
    · have := avBR_mem e; omega
theorem avBR_len : ∀ {rows : List (List AV)}, (∀ r ∈ rows, 1 ≤ avBL r) → rows.length ≤ avBR rows
  | [], _ => by simp
  | x :: rows, h => by
    have h1 := h x (by simp)
    have h2 := avBR_len (rows := rows) fun r hr => h r (by simp [hr])
    simp only [avBR, List.length_cons]; omega
theorem psn_bound {ps : List Psn} {m : Nat} (h : avBR (ps.map encP) ≤ m) : ps.length ≤ m ∧ ∀ p ∈ ps, p.name.size ≤ m := by
  constructor
  · have := avBR_len (rows := ps.map encP) fun r hr => by
      obtain ⟨p, _, rfl⟩ := List.mem_map.mp hr
      simp only [encP, avBL, avB]; omega
    rw [List.length_map] at this; omega
  · intro p hp
    have := avBR_mem (List.mem_map.mpr ⟨p, hp, rfl⟩ : encP p ∈ ps.map encP)
    simp only [encP, avBL, avB] at this; omega
theorem grp_bound {gs : List Grp} {m : Nat} (h : avBR (gs.map encG) ≤ m) : gs.length ≤ m ∧ ∀ g ∈ gs, g.name.size ≤ m := by
  constructor
  · have := avBR_len (rows := gs.map encG) fun r hr => by
      obtain ⟨p, _, rfl⟩ := List.mem_map.mp hr
      simp only [encG, avBL, avB]; omega
    rw [List.length_map] at this; omega
  · intro p hp
    have := avBR_mem (List.mem_map.mpr ⟨p, hp, rfl⟩ : encG p ∈ gs.map encG)
    simp only [encG, avBL, avB] at this; omega
theorem ints_bound {l : List Int} {m : Nat} (h : avBR (ints l) ≤ m) : l.length ≤ m := by
  have := avBR_len (rows := ints l) fun r hr => by
    obtain ⟨p, _, rfl⟩ := List.mem_map.mp hr
    simp only [avBL, avB]; omega
  rw [ints_len] at this; omega
theorem b_place {ps : List Psn} {gs : List Grp} {rest : List AV} {m : Nat} (h : avBL (.agg [.tsl true 3 (ps.map encP), .tsl true 4 (gs.map encG)] :: rest) ≤ m) (hm : m ≤ 1048576) :
    (∀ p ∈ ps, p.name.size ≤ 1048576) ∧ (∀ g ∈ gs, g.name.size ≤ 1048576) ∧ gs.length ≤ 1048576 ∧ avBL rest ≤ m := by
  simp only [avBL, avB] at h
  obtain ⟨_, h1⟩ := psn_bound (ps := ps) (m := 1048576) (by omega)
  obtain ⟨h2, h3⟩ := grp_bound (gs := gs) (m := 1048576) (by omega)
  exact ⟨h1, h3, h2, by omega⟩
theorem b_prt {lv un : Int} {gl : List Int} {rest : List AV} {m : Nat} (h : avBL (.agg [.int .i64 lv, .tsl true 1 (ints gl), .int .i64 un] :: rest) ≤ m) (hm : m ≤ 1048576) : gl.length ≤ 1048576 ∧ avBL rest ≤ m := by
  simp only [avBL, avB] at h
  exact ⟨ints_bound (by omega), by omega⟩
theorem b_prt2 {lv un lv2 un2 : Int} {gl gl2 : List Int} {rest : List AV} {m : Nat} (h : avBL (.agg [.int .i64 lv, .tsl true 1 (ints gl), .int .i64 un, .int .i64 lv2, .tsl true 1 (ints gl2), .int .i64 un2] :: rest) ≤ m) (hm : m ≤ 1048576) : gl.length ≤ 1048576 ∧ gl2.length ≤ 1048576 := by
  simp only [avBL, avB] at h
  exact ⟨ints_bound (by omega), ints_bound (by omega)⟩
end Go.Eng

/- Small functions over lists of numbers. -/
namespace Go.Eng
open Go.Proofs
set_option linter.unusedSimpArgs false
set_option linter.unusedVariables false
attribute [local irreducible] wpC wpO wp1 EvV EvR wpL
attribute [local go_sem] ty3 ty4 ty23 ty9 ty22 ty53 ty27 allocK beq_iff_eq beq_eq_false_iff_ne Int.natCast_inj Bool.not_eq_false' op1_go wpK_box wpK_alloc wpK_load wpK_store wpK_binOp wpK_unOp wpK_fieldAddr wpK_field wpK_build wpK_indexAddr wpK_slice wpK_len wpK_extract wpK_nilCheck wpK_pick wpK_makeFunc wpK_call wpK_callT wpK_max wpK_min wpK_assignT wpK_moveT wpK_assignB wpK_moveB wpK_assignI wpK_moveI wpK_assignA wpK_moveA callK_fn snapL_nil snapL_cons snap_int snap_bool snap_str snap_tsl snap_agg snap_fn snap_flat adopt_int adopt_bool adopt_str adopt_agg adopt_osl adopt_tsl adopt_tup op1_guard grdK_bool grdK_undef condK_bool someK_some pairK_some nilK_ptr nilK_tptr boxK storeK evalA_tmp evalA_int evalA_bool evalA_agg evalA_fn evalA_nil ofC_int ofC_bool getA_zero getA_succ cells_int cells_agg cells_bool cells_sl cells_tsl cell_int cell_bool cell_str cell_sl cell_esl cell_tsl cell_ptr cell_tptr cell_fn cell_nils cell_nilf List.all_cons List.all_nil Bool.and_true Bool.and_self Bool.true_and putA_some putA_none List.set_cons_zero List.set_cons_succ List.length_cons List.length_nil List.nil_append List.cons_append stabL AV.stab fieldAddrA fieldA List.getElem?_cons_zero List.getElem?_cons_succ Nat.zero_add loadA rowOf Nat.le_refl and_self true_and and_true partA binA unA intBin eqBin eqCells eqCell Option.bind_some decide_true decide_false decide_eq_true_eq ite_not Bool.not_eq_true' decide_eq_false_iff_not Bool.false_eq_true Option.map_some Option.map_none Bool.not_true Bool.not_false buildA fillA patch List.take List.drop List.map_cons List.map_nil extK List.getD_cons_zero List.getD_cons_succ minmaxA minmaxGo adoptZ_false adoptZ_true freeze_int freeze_bool freeze_str freeze_flat freeze_agg freeze_osl freeze_tsl freeze_tup frz1_bool frz1_int frz1_str frz1_agg frz1_osl frz1_tsl bne Bool.false_and Bool.and_false ne_eq not_true_eq_false not_false_eq_true List.append_nil

theorem hasP (v : AV) (l : List Int) (n : Int) (hv : SLs 1 (ints l) v) (hl : l.length < 9223372036854775807) : EvV CX 33 [v, .int .i64 n] (· = .bool (l.contains n)) := by
  refine EvV.walk rfl fn33 rfl nt33 rfl ?_
  simp only [List.length_cons, List.length_nil, List.cons_append, List.nil_append, Nat.reduceAdd, Nat.reduceSub, List.replicate]
  repeat' (first | refine go1 ?_ | refine blockK_else rfl ?_ | (refine wpC_cond fun A B hA hB => ?_; simp only [go_sem, reduceIte, Nat.reduceAdd, Nat.reduceEqDiff, Nat.reduceLT, Nat.reduceLeDiff, *, and_self, lenK_sls hv]; first | (refine hA.out ?_; clear hA hB A B) | (refine hB.out ?_; clear hA hB A B) | (refine iteI (fun h => hA.out ?_) (fun h => hB.out ?_) <;> clear hA hB A B) | (refine iteI (fun h => hB.out ?_) (fun h => hA.out ?_) <;> clear hA hB A B)) | (refine wpO_cons fun K hK => ?_; simp only [go_sem, reduceIte, Nat.reduceAdd, Nat.reduceEqDiff, Nat.reduceLT, Nat.reduceLeDiff, *, and_self, lenK_sls hv]; first | (refine hK.out _ _ ?_; clear hK K) | (refine iteI (fun h => hK.out _ _ ?_) (fun h => hK.out _ _ ?_) <;> clear hK K)))
  refine wpC_each [4, 6, 10, 11, 12, 13, 14, 15, 16] 9 l (fun _ post => l.contains n = post.contains n) ?_ ?_ ?_ ?_
  · rfl
  · rfl
  · intro g G h2
    rw [h2]; simp only [garbA_cons, garbA_nil, setL_cons, setL_nil, List.set_cons_zero, List.set_cons_succ]
    repeat' (first | refine go1 ?_ | refine blockK_else rfl ?_ | (refine wpC_cond fun A B hA hB => ?_; simp only [go_sem, reduceIte, Nat.reduceAdd, Nat.reduceEqDiff, Nat.reduceLT, Nat.reduceLeDiff, *, and_self, ints_len, List.length_map, Int.lt_irrefl, List.nil_append]; first | (refine hA.out ?_; clear hA hB A B) | (refine hB.out ?_; clear hA hB A B) | (refine iteI (fun h => hA.out ?_) (fun h => hB.out ?_) <;> clear hA hB A B) | (refine iteI (fun h => hB.out ?_) (fun h => hA.out ?_) <;> clear hA hB A B)) | (refine wpO_cons fun K hK => ?_; simp only [go_sem, reduceIte, Nat.reduceAdd, Nat.reduceEqDiff, Nat.reduceLT, Nat.reduceLeDiff, *, and_self, ints_len, List.length_map, Int.lt_irrefl, List.nil_append]; first | (refine hK.out _ _ ?_; clear hK K) | (refine iteI (fun h => hK.out _ _ ?_) (fun h => hK.out _ _ ?_) <;> clear hK K)))
    simp only [resultsR, resultsL, resultA, expK_int, expK_bool, expK_str, expK_agg, expK_own, expK_tsl, resK_some, go_sem, reduceIte, Nat.reduceAdd, Nat.reduceEqDiff, Nat.reduceLT, Nat.reduceLeDiff, and_self, List.contains_nil]
  · intro g G pre x post h1 h2
    rw [h2]; subst h1; simp only [garbA_cons, garbA_nil, setL_cons, setL_nil, List.set_cons_zero, List.set_cons_succ]
    have i1 := idx_sls hv (X := CX) ty23 ty3 rfl (ints_mid pre x post) (k := .i64)
    have w1 := wrap_succ (n := pre.length) (by simp at hl; omega)
    repeat' (first | refine go1 ?_ | refine blockK_else rfl ?_ | (refine wpC_cond fun A B hA hB => ?_; simp only [go_sem, reduceIte, Nat.reduceAdd, Nat.reduceEqDiff, Nat.reduceLT, Nat.reduceLeDiff, *, and_self, getElem?_len, getElem?_lenAdd, set_len, set_lenAdd, len_mid, ints_len, List.length_map, lt_mid, List.nil_append, i1, w1, beq_iff_eq]; first | (refine hA.out ?_; clear hA hB A B) | (refine hB.out ?_; clear hA hB A B) | (refine iteI (fun h => hA.out ?_) (fun h => hB.out ?_) <;> clear hA hB A B) | (refine iteI (fun h => hB.out ?_) (fun h => hA.out ?_) <;> clear hA hB A B)) | (refine wpO_cons fun K hK => ?_; simp only [go_sem, reduceIte, Nat.reduceAdd, Nat.reduceEqDiff, Nat.reduceLT, Nat.reduceLeDiff, *, and_self, getElem?_len, getElem?_lenAdd, set_len, set_lenAdd, len_mid, ints_len, List.length_map, lt_mid, List.nil_append, i1, w1, beq_iff_eq]; first | (refine hK.out _ _ ?_; clear hK K) | (refine iteI (fun h => hK.out _ _ ?_) (fun h => hK.out _ _ ?_) <;> clear hK K)))
    · simp only [resultsR, resultsL, resultA, expK_int, expK_bool, expK_str, expK_agg, expK_own, expK_tsl, resK_some, go_sem, reduceIte, Nat.reduceAdd, Nat.reduceEqDiff, Nat.reduceLT, Nat.reduceLeDiff, and_self, List.contains_cons]
      simp_all
    · refine each_next rfl ?_ ?_ ?_
      · have : ¬ n = x := fun e => h e.symm
        rw [List.contains_cons]; simp [this]
      · ((try simp only [eraseA_cons, eraseA_nil, setL_cons, setL_nil, List.set_cons_zero, List.set_cons_succ]); all_goals (first | rfl | (simp only [len_snoc, ints_len, List.length_map, ]; done) | (simp only [len_snoc, len_mid, ints_len, List.length_map, List.length_append, List.length_cons, List.length_nil, Nat.zero_add, ]; done) | (simp only [len_mid, len_snoc, ints_len, List.length_map, List.length_append, List.length_cons, List.length_nil, Nat.zero_add, ]; rfl)))
      · first | exact ⟨[], (List.append_nil _).symm⟩ | exact ⟨_, rfl⟩ | (simp only [List.append_assoc, List.cons_append, List.nil_append]; exact ⟨_, rfl⟩)

def known (gs : List Grp) (n : Int) : Bool := gs.any fun g => g.id == n

theorem exists44 (v : AV) (gs : List Grp) (n : Int) (hv : SLs 4 (gs.map encG) v) (hl : gs.length < 9223372036854775807) : EvV CX 27 [v, .int .i64 n] (· = .bool (known gs n)) := by
  refine EvV.walk rfl fn27 rfl nt27 rfl ?_
  simp only [List.length_cons, List.length_nil, List.cons_append, List.nil_append, Nat.reduceAdd, Nat.reduceSub, List.replicate]
  repeat' (first | refine go1 ?_ | refine blockK_else rfl ?_ | (refine wpC_cond fun A B hA hB => ?_; simp only [go_sem, reduceIte, Nat.reduceAdd, Nat.reduceEqDiff, Nat.reduceLT, Nat.reduceLeDiff, *, and_self, lenK_sls hv]; first | (refine hA.out ?_; clear hA hB A B) | (refine hB.out ?_; clear hA hB A B) | (refine iteI (fun h => hA.out ?_) (fun h => hB.out ?_) <;> clear hA hB A B) | (refine iteI (fun h => hB.out ?_) (fun h => hA.out ?_) <;> clear hA hB A B)) | (refine wpO_cons fun K hK => ?_; simp only [go_sem, reduceIte, Nat.reduceAdd, Nat.reduceEqDiff, Nat.reduceLT, Nat.reduceLeDiff, *, and_self, lenK_sls hv]; first | (refine hK.out _ _ ?_; clear hK K) | (refine iteI (fun h => hK.out _ _ ?_) (fun h => hK.out _ _ ?_) <;> clear hK K)))
  refine wpC_each [4, 6, 7, 8, 9, 10, 11, 12, 13, 14, 15, 16, 17, 18] 5 gs (fun _ post => known gs n = known post n) ?_ ?_ ?_ ?_
  · rfl
  · rfl
  · intro g G h2
    rw [h2]; simp only [garbA_cons, garbA_nil, setL_cons, setL_nil, List.set_cons_zero, List.set_cons_succ]
    repeat' (first | refine go1 ?_ | refine blockK_else rfl ?_ | (refine wpC_cond fun A B hA hB => ?_; simp only [go_sem, reduceIte, Nat.reduceAdd, Nat.reduceEqDiff, Nat.reduceLT, Nat.reduceLeDiff, *, and_self, ints_len, List.length_map, Int.lt_irrefl, List.nil_append, lenK_sls hv]; first | (refine hA.out ?_; clear hA hB A B) | (refine hB.out ?_; clear hA hB A B) | (refine iteI (fun h => hA.out ?_) (fun h => hB.out ?_) <;> clear hA hB A B) | (refine iteI (fun h => hB.out ?_) (fun h => hA.out ?_) <;> clear hA hB A B)) | (refine wpO_cons fun K hK => ?_; simp only [go_sem, reduceIte, Nat.reduceAdd, Nat.reduceEqDiff, Nat.reduceLT, Nat.reduceLeDiff, *, and_self, ints_len, List.length_map, Int.lt_irrefl, List.nil_append, lenK_sls hv]; first | (refine hK.out _ _ ?_; clear hK K) | (refine iteI (fun h => hK.out _ _ ?_) (fun h => hK.out _ _ ?_) <;> clear hK K)))
    simp only [resultsR, resultsL, resultA, expK_int, expK_bool, expK_str, expK_agg, expK_own, expK_tsl, resK_some, go_sem, reduceIte, Nat.reduceAdd, Nat.reduceEqDiff, Nat.reduceLT, Nat.reduceLeDiff, and_self, known, List.any_nil]
  · intro g G pre x post h1 h2
    rw [h2]; subst h1; simp only [garbA_cons, garbA_nil, setL_cons, setL_nil, List.set_cons_zero, List.set_cons_succ]
    have i1 := idx_sls hv (X := CX) ty22 ty53 rfl (map_mid encG pre x post) (k := .i64)
    have w1 := wrap_succ (n := pre.length) (by simp at hl; omega)
    repeat' (first | refine go1 ?_ | refine blockK_else rfl ?_ | (refine wpC_cond fun A B hA hB => ?_; simp only [go_sem, reduceIte, Nat.reduceAdd, Nat.reduceEqDiff, Nat.reduceLT, Nat.reduceLeDiff, *, and_self, getElem?_len, getElem?_lenAdd, set_len, set_lenAdd, len_mid, ints_len, List.length_map, lt_mid, List.nil_append, lenK_sls hv, i1, w1, encG]; first | (refine hA.out ?_; clear hA hB A B) | (refine hB.out ?_; clear hA hB A B) | (refine iteI (fun h => hA.out ?_) (fun h => hB.out ?_) <;> clear hA hB A B) | (refine iteI (fun h => hB.out ?_) (fun h => hA.out ?_) <;> clear hA hB A B)) | (refine wpO_cons fun K hK => ?_; simp only [go_sem, reduceIte, Nat.reduceAdd, Nat.reduceEqDiff, Nat.reduceLT, Nat.reduceLeDiff, *, and_self, getElem?_len, getElem?_lenAdd, set_len, set_lenAdd, len_mid, ints_len, List.length_map, lt_mid, List.nil_append, lenK_sls hv, i1, w1, encG]; first | (refine hK.out _ _ ?_; clear hK K) | (refine iteI (fun h => hK.out _ _ ?_) (fun h => hK.out _ _ ?_) <;> clear hK K)))
    · simp only [resultsR, resultsL, resultA, expK_int, expK_bool, expK_str, expK_agg, expK_own, expK_tsl, resK_some, go_sem, reduceIte, Nat.reduceAdd, Nat.reduceEqDiff, Nat.reduceLT, Nat.reduceLeDiff, and_self, ]
      simp [known, h]
    · refine each_next rfl ?_ ?_ ?_
      · simp [known, h]
      · ((try simp only [eraseA_cons, eraseA_nil, setL_cons, setL_nil, List.set_cons_zero, List.set_cons_succ]); all_goals (first | rfl | (simp only [len_snoc, ints_len, List.length_map, ]; done) | (simp only [len_snoc, len_mid, ints_len, List.length_map, List.length_append, List.length_cons, List.length_nil, Nat.zero_add, ]; done) | (simp only [len_mid, len_snoc, ints_len, List.length_map, List.length_append, List.length_cons, List.length_nil, Nat.zero_add, ]; rfl)))
      · first | exact ⟨[], (List.append_nil _).symm⟩ | exact ⟨_, rfl⟩ | (simp only [List.append_assoc, List.cons_append, List.nil_append]; exact ⟨_, rfl⟩)

def listedF (gs : List Grp) : List Int → List Int → Int
  | _, [] => 0
  | pre, n :: l => if (0 : Int) < (pre.length : Int) ∧ n ≤ pre.getLastD 0 then 10 else if known gs n = true then listedF gs (pre ++ [n]) l else 9

theorem known_snoc (a : List Grp) (g : Grp) (n : Int) : known (a ++ [g]) n = (known a n || g.id == n) := by simp [known, List.any_append]

theorem listed44 (v w : AV) (gs : List Grp) (l : List Int) (hv : SLs 4 (gs.map encG) v) (hok : ∀ g ∈ gs, g.ok) (hw : SLs 1 (ints l) w) (hg : gs.length < 9223372036854775807) (hl : l.length < 9223372036854775807) : EvV CX 26 [v, w] (· = .int .i64 (listedF gs [] l)) := by
  refine EvV.walk rfl fn26 rfl nt26 rfl ?_
  simp only [List.length_cons, List.length_nil, List.cons_append, List.nil_append, Nat.reduceAdd, Nat.reduceSub, List.replicate]
  repeat' (first | refine go1 ?_ | refine blockK_else rfl ?_ | (refine wpC_cond fun A B hA hB => ?_; simp only [go_sem, reduceIte, Nat.reduceAdd, Nat.reduceEqDiff, Nat.reduceLT, Nat.reduceLeDiff, *, and_self, lenK_sls hw]; first | (refine hA.out ?_; clear hA hB A B) | (refine hB.out ?_; clear hA hB A B) | (refine iteI (fun h => hA.out ?_) (fun h => hB.out ?_) <;> clear hA hB A B) | (refine iteI (fun h => hB.out ?_) (fun h => hA.out ?_) <;> clear hA hB A B)) | (refine wpO_cons fun K hK => ?_; simp only [go_sem, reduceIte, Nat.reduceAdd, Nat.reduceEqDiff, Nat.reduceLT, Nat.reduceLeDiff, *, and_self, lenK_sls hw]; first | (refine hK.out _ _ ?_; clear hK K) | (refine iteI (fun h => hK.out _ _ ?_) (fun h => hK.out _ _ ?_) <;> clear hK K)))
  refine wpC_each [4, 5, 6, 7, 9, 13, 14, 15, 16, 17, 18, 19, 20, 21, 22, 23, 24, 25, 26, 27, 28, 29, 30, 31, 32, 33, 34, 35, 36, 37, 38, 39, 40, 41, 42, 43, 44] 12 l (fun pre post => listedF gs [] l = listedF gs pre post) ?_ ?_ ?_ ?_
  · rfl
  · rfl
  · intro g G h2
    rw [h2]; simp only [garbA_cons, garbA_nil, setL_cons, setL_nil, List.set_cons_zero, List.set_cons_succ]
    repeat' (first | refine go1 ?_ | refine blockK_else rfl ?_ | (refine wpC_cond fun A B hA hB => ?_; simp only [go_sem, reduceIte, Nat.reduceAdd, Nat.reduceEqDiff, Nat.reduceLT, Nat.reduceLeDiff, *, and_self, ints_len, List.length_map, Int.lt_irrefl, List.nil_append]; first | (refine hA.out ?_; clear hA hB A B) | (refine hB.out ?_; clear hA hB A B) | (refine iteI (fun h => hA.out ?_) (fun h => hB.out ?_) <;> clear hA hB A B) | (refine iteI (fun h => hB.out ?_) (fun h => hA.out ?_) <;> clear hA hB A B)) | (refine wpO_cons fun K hK => ?_; simp only [go_sem, reduceIte, Nat.reduceAdd, Nat.reduceEqDiff, Nat.reduceLT, Nat.reduceLeDiff, *, and_self, ints_len, List.length_map, Int.lt_irrefl, List.nil_append]; first | (refine hK.out _ _ ?_; clear hK K) | (refine iteI (fun h => hK.out _ _ ?_) (fun h => hK.out _ _ ?_) <;> clear hK K)))
    simp only [resultsR, resultsL, resultA, expK_int, expK_bool, expK_str, expK_agg, expK_own, expK_tsl, resK_some, go_sem, reduceIte, Nat.reduceAdd, Nat.reduceEqDiff, Nat.reduceLT, Nat.reduceLeDiff, and_self, ]
    rfl
  · intro g G pre x post h1 h2
    rw [h2]; subst h1; simp only [garbA_cons, garbA_nil, setL_cons, setL_nil, List.set_cons_zero, List.set_cons_succ]
    have i1 := idx_sls hw (X := CX) ty23 ty3 rfl (ints_mid pre x post) (k := .i64)
    have i2 := prev_ints hw hl (X := CX) ty23 ty3 rfl (k := .i64)
    have w1 := wrap_succ (n := pre.length) (by simp at hl; omega)
    repeat' (first | refine go1 ?_ | refine blockK_else rfl ?_ | (refine wpC_cond fun A B hA hB => ?_; simp only [go_sem, reduceIte, Nat.reduceAdd, Nat.reduceEqDiff, Nat.reduceLT, Nat.reduceLeDiff, *, and_self, getElem?_len, getElem?_lenAdd, set_len, set_lenAdd, len_mid, ints_len, List.length_map, lt_mid, List.nil_append, i1, w1, lenK_sls hv]; first | (refine hA.out ?_; clear hA hB A B) | (refine hB.out ?_; clear hA hB A B) | (refine iteI (fun h => hA.out ?_) (fun h => hB.out ?_) <;> clear hA hB A B) | (refine iteI (fun h => hB.out ?_) (fun h => hA.out ?_) <;> clear hA hB A B)) | (refine wpO_cons fun K hK => ?_; simp only [go_sem, reduceIte, Nat.reduceAdd, Nat.reduceEqDiff, Nat.reduceLT, Nat.reduceLeDiff, *, and_self, getElem?_len, getElem?_lenAdd, set_len, set_lenAdd, len_mid, ints_len, List.length_map, lt_mid, List.nil_append, i1, w1, lenK_sls hv]; first | (refine hK.out _ _ ?_; clear hK K) | (refine iteI (fun h => hK.out _ _ ?_) (fun h => hK.out _ _ ?_) <;> clear hK K)))
    · simp only [resultsR, resultsL, resultA, expK_int, expK_bool, expK_str, expK_agg, expK_own, expK_tsl, resK_some, go_sem, reduceIte, Nat.reduceAdd, Nat.reduceEqDiff, Nat.reduceLT, Nat.reduceLeDiff, and_self, ]
      rw [listedF, if_pos ⟨by assumption, h⟩]
    all_goals
      have hno : ¬ ((0 : Int) < (pre.length : Int) ∧ x ≤ pre.getLastD 0) := by rintro ⟨_, _⟩; contradiction
      refine wpC_eachE [9, 31, 32, 33, 34, 35, 36, 37, 38, 39, 40, 41] 30 (fun p => [(7, .bool (known p x))]) gs (fun _ _ => True) ?_ ?_ ?_ ?_
      · trivial
      · rfl
      · intro g G h3
        simp only [garbA_cons, garbA_nil, setL_cons, setL_nil, List.set_cons_zero, List.set_cons_succ]
        repeat' (first | refine go1 ?_ | refine blockK_else rfl ?_ | (refine wpC_cond fun A B hA hB => ?_; simp only [go_sem, reduceIte, Nat.reduceAdd, Nat.reduceEqDiff, Nat.reduceLT, Nat.reduceLeDiff, *, and_self, ints_len, List.length_map, Int.lt_irrefl, List.nil_append]; first | (refine hA.out ?_; clear hA hB A B) | (refine hB.out ?_; clear hA hB A B) | (refine iteI (fun h => hA.out ?_) (fun h => hB.out ?_) <;> clear hA hB A B) | (refine iteI (fun h => hB.out ?_) (fun h => hA.out ?_) <;> clear hA hB A B)) | (refine wpO_cons fun K hK => ?_; simp only [go_sem, reduceIte, Nat.reduceAdd, Nat.reduceEqDiff, Nat.reduceLT, Nat.reduceLeDiff, *, and_self, ints_len, List.length_map, Int.lt_irrefl, List.nil_append]; first | (refine hK.out _ _ ?_; clear hK K) | (refine iteI (fun h => hK.out _ _ ?_) (fun h => hK.out _ _ ?_) <;> clear hK K)))
        · simp only [resultsR, resultsL, resultA, expK_int, expK_bool, expK_str, expK_agg, expK_own, expK_tsl, resK_some, go_sem, reduceIte, Nat.reduceAdd, Nat.reduceEqDiff, Nat.reduceLT, Nat.reduceLeDiff, and_self, ]
          rw [listedF, if_neg hno, if_neg (by simp [h])]
        · refine each_next rfl ?_ ?_ ?_
          · rw [listedF, if_neg hno, if_pos (by simpa using h)]
          · ((try simp only [eraseA_cons, eraseA_nil, setL_cons, setL_nil, List.set_cons_zero, List.set_cons_succ]); all_goals (first | rfl | (simp only [len_snoc, ints_len, List.length_map, ]; done) | (simp only [len_snoc, len_mid, ints_len, List.length_map, List.length_append, List.length_cons, List.length_nil, Nat.zero_add, ]; done) | (simp only [len_mid, len_snoc, ints_len, List.length_map, List.length_append, List.length_cons, List.length_nil, Nat.zero_add, ]; rfl)))
          · first | exact ⟨[], (List.append_nil _).symm⟩ | exact ⟨_, rfl⟩ | (simp only [List.append_assoc, List.cons_append, List.nil_append]; exact ⟨_, rfl⟩)
      · intro g G gpre y gpost h3 h4
        subst h3; simp only [garbA_cons, garbA_nil, setL_cons, setL_nil, List.set_cons_zero, List.set_cons_succ]
        have i3 := idx_sls hv (X := CX) ty22 ty53 rfl (map_mid encG gpre y gpost) (k := .i64)
        have w2 := wrap_succ (n := gpre.length) (by simp at hg; omega)
        have c1 := (hok y (by simp)).pv.cell
        have c2 := (hok y (by simp)).sv.cell
        repeat' (first | refine go1 ?_ | refine blockK_else rfl ?_ | (refine wpC_cond fun A B hA hB => ?_; simp only [go_sem, reduceIte, Nat.reduceAdd, Nat.reduceEqDiff, Nat.reduceLT, Nat.reduceLeDiff, *, and_self, getElem?_len, getElem?_lenAdd, set_len, set_lenAdd, len_mid, ints_len, List.length_map, lt_mid, List.nil_append, i3, w2, encG, c1, c2]; first | (refine hA.out ?_; clear hA hB A B) | (refine hB.out ?_; clear hA hB A B) | (refine iteI (fun h => hA.out ?_) (fun h => hB.out ?_) <;> clear hA hB A B) | (refine iteI (fun h => hB.out ?_) (fun h => hA.out ?_) <;> clear hA hB A B)) | (refine wpO_cons fun K hK => ?_; simp only [go_sem, reduceIte, Nat.reduceAdd, Nat.reduceEqDiff, Nat.reduceLT, Nat.reduceLeDiff, *, and_self, getElem?_len, getElem?_lenAdd, set_len, set_lenAdd, len_mid, ints_len, List.length_map, lt_mid, List.nil_append, i3, w2, encG, c1, c2]; first | (refine hK.out _ _ ?_; clear hK K) | (refine iteI (fun h => hK.out _ _ ?_) (fun h => hK.out _ _ ?_) <;> clear hK K)))
        all_goals
          refine each_next rfl ?_ ?_ ?_
          · trivial
          · simp only [eraseA_cons, eraseA_nil, setL_cons, setL_nil, List.set_cons_zero, List.set_cons_succ]
            simp [known_snoc, *]
          · first | exact ⟨[], (List.append_nil _).symm⟩ | exact ⟨_, rfl⟩ | (simp only [List.append_assoc, List.cons_append, List.nil_append]; exact ⟨_, rfl⟩)

/- Protocols: Copy, Check, Wider, Same. -/
open Go.Proofs
attribute [local go_sem] ty25 List.replicate Nat.one_mul Nat.reduceMul Nat.zero_mul appK bslA fz104 lenK_esl lenK_nils lenK_sl lenK_tsl rowsFill rowsOf_esl rowsOf_nils rowsOf_sl rowsOf_tsl br26 fz67 br27 fz83

theorem copy44 (gv : AV) (lv un : Int) (gs : List Int) (hv : SLs 1 (ints gs) gv) (hl : gs.length ≤ 1099511627776) : EvV CX 14 [.agg [.int .i64 lv, gv, .int .i64 un]] (· = .agg [.int .i64 lv, .tsl true 1 (ints gs), .int .i64 un]) := by
  have c1 := hv.cell
  have b1 : gs.length * 8 ≤ 140737488355328 := by omega
  have b2 : gs.length ≤ 140737488355328 := by omega
  refine EvV.walk rfl fn14 rfl nt14 rfl ?_
  simp only [List.length_cons, List.length_nil, List.cons_append, List.nil_append, Nat.reduceAdd, Nat.reduceSub, List.replicate]
  repeat' (first | refine go1 ?_ | refine blockK_else rfl ?_ | (refine wpC_cond fun A B hA hB => ?_; simp only [go_sem, reduceIte, Nat.reduceAdd, Nat.reduceEqDiff, Nat.reduceLT, Nat.reduceLeDiff, *, wpK_append ty23 rfl, wpK_buildSlice ty23 rfl, hv.rowsOf, ints_len, c1, Nat.zero_add, b1, b2, List.length_nil, Nat.zero_mul, List.getElem?_cons_succ]; first | (refine hA.out ?_; clear hA hB A B) | (refine hB.out ?_; clear hA hB A B) | (refine iteI (fun h => hA.out ?_) (fun h => hB.out ?_) <;> clear hA hB A B) | (refine iteI (fun h => hB.out ?_) (fun h => hA.out ?_) <;> clear hA hB A B)) | (refine wpO_cons fun K hK => ?_; simp only [go_sem, reduceIte, Nat.reduceAdd, Nat.reduceEqDiff, Nat.reduceLT, Nat.reduceLeDiff, *, wpK_append ty23 rfl, wpK_buildSlice ty23 rfl, hv.rowsOf, ints_len, c1, Nat.zero_add, b1, b2, List.length_nil, Nat.zero_mul, List.getElem?_cons_succ]; first | (refine hK.out _ _ ?_; clear hK K) | (refine iteI (fun h => hK.out _ _ ?_) (fun h => hK.out _ _ ?_) <;> clear hK K)))
  · have : gs = [] := List.eq_nil_of_length_eq_zero h
    subst this
    simp only [resultsR, resultsL, resultA, expK_int, expK_bool, expK_str, expK_agg, expK_own, expK_tsl, resK_some, go_sem, reduceIte, Nat.reduceAdd, Nat.reduceEqDiff, Nat.reduceLT, Nat.reduceLeDiff, wpK_append ty23 rfl, wpK_buildSlice ty23 rfl, List.getElem?_cons_succ]
    simp [expCells, expCell, rowsOf, ints, AV.stab]
  · simp only [resultsR, resultsL, resultA, expK_int, expK_bool, expK_str, expK_agg, expK_own, expK_tsl, resK_some, go_sem, reduceIte, Nat.reduceAdd, Nat.reduceEqDiff, Nat.reduceLT, Nat.reduceLeDiff, wpK_append ty23 rfl, wpK_buildSlice ty23 rfl, List.getElem?_cons_succ, ints_len]
    simp [expCells, expCell, rowsOf, ints, AV.stab]
    rw [List.take_of_length_le (by simp)]

def checkF (groups : List Grp) (lv : Int) (gs : List Int) (un : Int) : Int :=
  if lv < 0 ∨ 3 < lv then 14 else if lv ≠ 2 ∧ (0 : Int) < (gs.length : Int) then 1 else if lv = 2 ∧ (gs.length : Int) = 0 then 4
  else if listedF groups [] gs ≠ 0 then listedF groups [] gs else if un < 0 ∨ 109573 < un then 12 else 0

theorem check13 (v gv : AV) (groups : List Grp) (lv un : Int) (gs : List Int) (hv : SLs 4 (groups.map encG) v) (hok : ∀ g ∈ groups, g.ok) (hw : SLs 1 (ints gs) gv) (hg : groups.length < 9223372036854775807) (hl : gs.length < 9223372036854775807) :
    EvV CX 13 [v, .agg [.int .i64 lv, gv, .int .i64 un]] (· = .int .i64 (checkF groups lv gs un)) := by
  have c1 := hw.cell
  refine EvV.walk rfl fn13 rfl nt13 rfl ?_
  simp only [List.length_cons, List.length_nil, List.cons_append, List.nil_append, Nat.reduceAdd, Nat.reduceSub, List.replicate]
  repeat' (first | refine go1 ?_ | refine blockK_else rfl ?_ | (refine wpC_cond fun A B hA hB => ?_; simp only [go_sem, reduceIte, Nat.reduceAdd, Nat.reduceEqDiff, Nat.reduceLT, Nat.reduceLeDiff, *, and_self, lenK_sls hw, ints_len, c1, hw.snap, hv.snap, (listed44 v gv groups gs hv hok hw hg hl).rw]; first | (refine hA.out ?_; clear hA hB A B) | (refine hB.out ?_; clear hA hB A B) | (refine iteI (fun h => hA.out ?_) (fun h => hB.out ?_) <;> clear hA hB A B) | (refine iteI (fun h => hB.out ?_) (fun h => hA.out ?_) <;> clear hA hB A B)) | (refine wpO_cons fun K hK => ?_; simp only [go_sem, reduceIte, Nat.reduceAdd, Nat.reduceEqDiff, Nat.reduceLT, Nat.reduceLeDiff, *, and_self, lenK_sls hw, ints_len, c1, hw.snap, hv.snap, (listed44 v gv groups gs hv hok hw hg hl).rw]; first | (refine hK.out _ _ ?_; clear hK K) | (refine iteI (fun h => hK.out _ _ ?_) (fun h => hK.out _ _ ?_) <;> clear hK K)))
  all_goals simp only [resultsR, resultsL, resultA, expK_int, expK_bool, expK_str, expK_agg, expK_own, expK_tsl, resK_some, go_sem, reduceIte, Nat.reduceAdd, Nat.reduceEqDiff, Nat.reduceLT, Nat.reduceLeDiff, and_self, ]
  all_goals simp only [checkF, *, if_true, if_false, true_or, or_true, and_true, true_and, ne_eq, not_true_eq_false, not_false_eq_true, false_and, and_false, or_self, and_self, false_or, or_false, Bool.false_eq_true, Bool.true_and, Bool.and_true, Bool.false_and, Bool.and_false, Bool.true_or, Bool.or_true, Bool.false_or, Bool.or_false, Bool.not_true, Bool.not_false, decide_true, decide_false, not_false_iff, reduceIte]
  all_goals simp

theorem listed_pos (groups : List Grp) : ∀ (pre l : List Int), listedF groups pre l = 0 ∨ listedF groups pre l = 9 ∨ listedF groups pre l = 10
  | _, [] => .inl rfl
  | pre, n :: l => by
    unfold listedF
    split
    · exact .inr (.inr rfl)
    · split
      · exact listed_pos groups _ l
      · exact .inr (.inl rfl)

theorem check15 (v gv : AV) (groups : List Grp) (lv un : Int) (gs : List Int) (hv : SLs 4 (groups.map encG) v) (hw : SLs 1 (ints gs) gv) (hg : groups.length < 9223372036854775807) (hl : gs.length < 9223372036854775807) :
    EvV CX 15 [v, .agg [.int .i64 lv, gv, .int .i64 un]] (· = .int .i64 (checkF groups lv gs un)) := by
  have c1 := hw.cell
  refine EvV.walk rfl fn15 rfl nt15 rfl ?_
  simp only [List.length_cons, List.length_nil, List.cons_append, List.nil_append, Nat.reduceAdd, Nat.reduceSub, List.replicate]
  repeat' (first | refine go1 ?_ | refine blockK_else rfl ?_ | (refine wpC_cond fun A B hA hB => ?_; simp only [go_sem, reduceIte, Nat.reduceAdd, Nat.reduceEqDiff, Nat.reduceLT, Nat.reduceLeDiff, *, and_self, lenK_sls hw, ints_len, c1, hw.snap, hv.snap]; first | (refine hA.out ?_; clear hA hB A B) | (refine hB.out ?_; clear hA hB A B) | (refine iteI (fun h => hA.out ?_) (fun h => hB.out ?_) <;> clear hA hB A B) | (refine iteI (fun h => hB.out ?_) (fun h => hA.out ?_) <;> clear hA hB A B)) | (refine wpO_cons fun K hK => ?_; simp only [go_sem, reduceIte, Nat.reduceAdd, Nat.reduceEqDiff, Nat.reduceLT, Nat.reduceLeDiff, *, and_self, lenK_sls hw, ints_len, c1, hw.snap, hv.snap]; first | (refine hK.out _ _ ?_; clear hK K) | (refine iteI (fun h => hK.out _ _ ?_) (fun h => hK.out _ _ ?_) <;> clear hK K)))
  all_goals first
    | (exfalso; omega)
    | (simp only [resultsR, resultsL, resultA, expK_int, expK_bool, expK_str, expK_agg, expK_own, expK_tsl, resK_some, go_sem, reduceIte, Nat.reduceAdd, Nat.reduceEqDiff, Nat.reduceLT, Nat.reduceLeDiff, and_self, ]; simp only [checkF, *, if_true, if_false, true_or, or_true, and_true, true_and, ne_eq, not_true_eq_false, not_false_eq_true, false_and, and_false, or_self, and_self, false_or, or_false, Bool.false_eq_true, Bool.true_and, Bool.and_true, Bool.false_and, Bool.and_false, Bool.true_or, Bool.or_true, Bool.false_or, Bool.or_false, Bool.not_true, Bool.not_false, decide_true, decide_false, not_false_iff, reduceIte]; (try simp); done)
    | skip
  all_goals
    have hF : checkF groups lv gs un = if listedF groups [] gs ≠ 0 then listedF groups [] gs else if un < 0 ∨ 109573 < un then 12 else 0 := by
      unfold checkF; rw [if_neg (by omega), if_neg (by omega), if_neg (by omega)]
    rw [hF]; clear hF
    refine wpC_each [4, 32, 33, 34, 35, 36, 37, 38, 39, 40, 41, 42, 43, 44, 45, 46, 47, 48, 49, 50, 51, 52, 53, 54, 55, 56, 57, 58, 59, 60, 61, 62] 5 gs (fun pre post => listedF groups [] gs = listedF groups pre post) ?_ ?_ ?_ ?_
    · rfl
    · rfl
    · intro g G h2
      rw [h2]; simp only [garbA_cons, garbA_nil, setL_cons, setL_nil, List.set_cons_zero, List.set_cons_succ]
      repeat' (first | refine go1 ?_ | refine blockK_else rfl ?_ | (refine wpC_cond fun A B hA hB => ?_; simp only [go_sem, reduceIte, Nat.reduceAdd, Nat.reduceEqDiff, Nat.reduceLT, Nat.reduceLeDiff, *, and_self, ints_len, List.length_map, Int.lt_irrefl, List.nil_append, lenK_sls hw]; first | (refine hA.out ?_; clear hA hB A B) | (refine hB.out ?_; clear hA hB A B) | (refine iteI (fun h => hA.out ?_) (fun h => hB.out ?_) <;> clear hA hB A B) | (refine iteI (fun h => hB.out ?_) (fun h => hA.out ?_) <;> clear hA hB A B)) | (refine wpO_cons fun K hK => ?_; simp only [go_sem, reduceIte, Nat.reduceAdd, Nat.reduceEqDiff, Nat.reduceLT, Nat.reduceLeDiff, *, and_self, ints_len, List.length_map, Int.lt_irrefl, List.nil_append, lenK_sls hw]; first | (refine hK.out _ _ ?_; clear hK K) | (refine iteI (fun h => hK.out _ _ ?_) (fun h => hK.out _ _ ?_) <;> clear hK K)))
      all_goals simp only [resultsR, resultsL, resultA, expK_int, expK_bool, expK_str, expK_agg, expK_own, expK_tsl, resK_some, go_sem, reduceIte, Nat.reduceAdd, Nat.reduceEqDiff, Nat.reduceLT, Nat.reduceLeDiff, and_self, ]
      all_goals simp [listedF, *]
    · intro g G pre x post h1 h2
      rw [h2]; subst h1; simp only [garbA_cons, garbA_nil, setL_cons, setL_nil, List.set_cons_zero, List.set_cons_succ]
      have i1 := idx_sls hw (X := CX) ty23 ty3 rfl (ints_mid pre x post) (k := .i64)
      have i2 := prev_ints hw hl (X := CX) ty23 ty3 rfl (k := .i64)
      have w1 := wrap_succ (n := pre.length) (by simp at hl; omega)
      repeat' (first | refine go1 ?_ | refine blockK_else rfl ?_ | (refine wpC_cond fun A B hA hB => ?_; simp only [go_sem, reduceIte, Nat.reduceAdd, Nat.reduceEqDiff, Nat.reduceLT, Nat.reduceLeDiff, *, and_self, getElem?_len, getElem?_lenAdd, set_len, set_lenAdd, len_mid, ints_len, List.length_map, lt_mid, List.nil_append, i1, w1, lenK_sls hw, hv.snap, (exists44 v groups x hv hg).rw]; first | (refine hA.out ?_; clear hA hB A B) | (refine hB.out ?_; clear hA hB A B) | (refine iteI (fun h => hA.out ?_) (fun h => hB.out ?_) <;> clear hA hB A B) | (refine iteI (fun h => hB.out ?_) (fun h => hA.out ?_) <;> clear hA hB A B)) | (refine wpO_cons fun K hK => ?_; simp only [go_sem, reduceIte, Nat.reduceAdd, Nat.reduceEqDiff, Nat.reduceLT, Nat.reduceLeDiff, *, and_self, getElem?_len, getElem?_lenAdd, set_len, set_lenAdd, len_mid, ints_len, List.length_map, lt_mid, List.nil_append, i1, w1, lenK_sls hw, hv.snap, (exists44 v groups x hv hg).rw]; first | (refine hK.out _ _ ?_; clear hK K) | (refine iteI (fun h => hK.out _ _ ?_) (fun h => hK.out _ _ ?_) <;> clear hK K)))
      all_goals first
        | (simp only [resultsR, resultsL, resultA, expK_int, expK_bool, expK_str, expK_agg, expK_own, expK_tsl, resK_some, go_sem, reduceIte, Nat.reduceAdd, Nat.reduceEqDiff, Nat.reduceLT, Nat.reduceLeDiff, and_self, ]
           simp only [listedF, *, and_self, false_and, and_false, if_true, if_false, Bool.false_eq_true]; simp; done)
        | (refine each_next rfl ?_ ?_ ?_
           · have hno : ¬ ((0 : Int) < (pre.length : Int) ∧ x ≤ pre.getLastD 0) := by rintro ⟨_, _⟩; contradiction
             rw [listedF, if_neg hno, if_pos (by simpa using h)]
           · ((try simp only [eraseA_cons, eraseA_nil, setL_cons, setL_nil, List.set_cons_zero, List.set_cons_succ]); all_goals (first | rfl | (simp only [len_snoc, ints_len, List.length_map, ]; done) | (simp only [len_snoc, len_mid, ints_len, List.length_map, List.length_append, List.length_cons, List.length_nil, Nat.zero_add, ]; done) | (simp only [len_mid, len_snoc, ints_len, List.length_map, List.length_append, List.length_cons, List.length_nil, Nat.zero_add, ]; rfl)))
           · first | exact ⟨[], (List.append_nil _).symm⟩ | exact ⟨_, rfl⟩ | (simp only [List.append_assoc, List.cons_append, List.nil_append]; exact ⟨_, rfl⟩))

/- Protocols: Wider, Same. -/
open Go.Proofs
attribute [local go_sem] br33 fz66 br34 fz99 br35 fz101

def widerF (l1 : Int) (g1 : List Int) (u1 l2 : Int) (g2 : List Int) (u2 : Int) : Bool :=
  if u2 < u1 then false else if l1 = 0 then true else if l2 = 3 then true else if ¬ l1 = l2 then false else if l1 = 1 then true else if l1 = 2 then g2.all fun x => g1.contains x else false

theorem put_ne (l : List Int) (n : Int) : put l n ≠ [] := by
  cases l with
  | nil => simp [put]
  | cons x l => unfold put; split <;> (try split) <;> simp

theorem minus_nil (b : List Int) : ∀ k (a : List Int), a.length = k → (minus a b = [] ↔ ∀ x ∈ a, x ∈ b)
  | 0, a, h => by have := List.eq_nil_of_length_eq_zero h; subst this; simp [minus]
  | k + 1, a, h => by
    rcases snoc_cases a with rfl | ⟨a, x, rfl⟩
    · simp at h
    · have ih := minus_nil b k a (by simpa using h)
      rw [minus_snoc]
      by_cases hx : x ∈ b
      · rw [if_pos (by simpa using hx), ih]
        constructor
        · intro h y hy
          rcases List.mem_append.1 hy with hy | hy
          · exact h y hy
          · simp at hy; subst hy; exact hx
        · intro h y hy; exact h y (by simp [hy])
      · rw [if_neg (by simpa using hx)]
        exact ⟨fun h => absurd h (put_ne _ _), fun h => absurd (h x (by simp)) hx⟩

theorem minus_len0 (a b : List Int) : ((minus a b).length = 0) = ((a.all fun x => b.contains x) = true) := by
  rw [List.length_eq_zero_iff, minus_nil b _ a rfl]; simp

theorem minus_len1 (a b : List Int) : (((minus a b).length : Int) == 0) = a.all fun x => b.contains x := by
  rw [Bool.eq_iff_iff, beq_iff_eq, ← minus_len0]; omega

theorem wider21 (v w : AV) (l1 u1 l2 u2 : Int) (g1 g2 : List Int) (hv : SLs 1 (ints g1) v) (hw : SLs 1 (ints g2) w) (h1 : g1.length < 9223372036854775807) (h2 : g2.length < 9223372036854775807) :
    EvV CX 21 [.agg [.int .i64 l1, v, .int .i64 u1], .agg [.int .i64 l2, w, .int .i64 u2]] (· = .bool (widerF l1 g1 u1 l2 g2 u2)) := by
  have c1 := hv.cell
  have c2 := hw.cell
  refine EvV.walk rfl fn21 rfl nt21 rfl ?_
  simp only [List.length_cons, List.length_nil, List.cons_append, List.nil_append, Nat.reduceAdd, Nat.reduceSub, List.replicate]
  repeat' (first | refine go1 ?_ | refine blockK_else rfl ?_ | (refine wpC_cond fun A B hA hB => ?_; simp only [go_sem, reduceIte, Nat.reduceAdd, Nat.reduceEqDiff, Nat.reduceLT, Nat.reduceLeDiff, *, and_self, lenK_sls hw, ints_len, c1, c2, hw.snap, hv.snap]; first | (refine hA.out ?_; clear hA hB A B) | (refine hB.out ?_; clear hA hB A B) | (refine iteI (fun h => hA.out ?_) (fun h => hB.out ?_) <;> clear hA hB A B) | (refine iteI (fun h => hB.out ?_) (fun h => hA.out ?_) <;> clear hA hB A B)) | (refine wpO_cons fun K hK => ?_; simp only [go_sem, reduceIte, Nat.reduceAdd, Nat.reduceEqDiff, Nat.reduceLT, Nat.reduceLeDiff, *, and_self, lenK_sls hw, ints_len, c1, c2, hw.snap, hv.snap]; first | (refine hK.out _ _ ?_; clear hK K) | (refine iteI (fun h => hK.out _ _ ?_) (fun h => hK.out _ _ ?_) <;> clear hK K)))
  all_goals first
    | (simp only [resultsR, resultsL, resultA, expK_int, expK_bool, expK_str, expK_agg, expK_own, expK_tsl, resK_some, go_sem, reduceIte, Nat.reduceAdd, Nat.reduceEqDiff, Nat.reduceLT, Nat.reduceLeDiff, and_self, ]; simp only [widerF, *, if_true, if_false, true_or, or_true, and_true, true_and, ne_eq, not_true_eq_false, not_false_eq_true, false_and, and_false, or_self, and_self, false_or, or_false, Bool.false_eq_true, Bool.true_and, Bool.and_true, Bool.false_and, Bool.and_false, Bool.true_or, Bool.or_true, Bool.false_or, Bool.or_false, Bool.not_true, Bool.not_false, decide_true, decide_false, not_false_iff, reduceIte]; (try simp); done)
    | (simp only [resultsR, resultsL, resultA, expK_int, expK_bool, expK_str, expK_agg, expK_own, expK_tsl, resK_some, go_sem, reduceIte, Nat.reduceAdd, Nat.reduceEqDiff, Nat.reduceLT, Nat.reduceLeDiff, and_self, ]; simp only [widerF, *, if_true, if_false, true_or, or_true, and_true, true_and, ne_eq, not_true_eq_false, not_false_eq_true, false_and, and_false, or_self, and_self, false_or, or_false, Bool.false_eq_true, Bool.true_and, Bool.and_true, Bool.false_and, Bool.and_false, Bool.true_or, Bool.or_true, Bool.false_or, Bool.or_false, Bool.not_true, Bool.not_false, decide_true, decide_false, not_false_iff, reduceIte]; (try simp); omega)
    | skip
  all_goals
    have hF : widerF l1 g1 u1 l2 g2 u2 = g2.all fun x => g1.contains x := by
      simp only [widerF, *, if_true, if_false, true_or, or_true, and_true, true_and, ne_eq, not_true_eq_false, not_false_eq_true, false_and, and_false, or_self, and_self, false_or, or_false, Bool.false_eq_true, Bool.true_and, Bool.and_true, Bool.false_and, Bool.and_false, Bool.true_or, Bool.or_true, Bool.false_or, Bool.or_false, Bool.not_true, Bool.not_false, decide_true, decide_false, not_false_iff, reduceIte]; (try simp [*])
    rw [hF]; clear hF
    refine wpC_each [4, 6, 42, 43, 44, 45, 46, 47, 48, 49, 50] 41 g2 (fun _ post => (g2.all fun x => g1.contains x) = post.all fun x => g1.contains x) ?_ ?_ ?_ ?_
    · rfl
    · rfl
    · intro g G h2
      rw [h2]; simp only [garbA_cons, garbA_nil, setL_cons, setL_nil, List.set_cons_zero, List.set_cons_succ]
      repeat' (first | refine go1 ?_ | refine blockK_else rfl ?_ | (refine wpC_cond fun A B hA hB => ?_; simp only [go_sem, reduceIte, Nat.reduceAdd, Nat.reduceEqDiff, Nat.reduceLT, Nat.reduceLeDiff, *, and_self, ints_len, List.length_map, Int.lt_irrefl, List.nil_append]; first | (refine hA.out ?_; clear hA hB A B) | (refine hB.out ?_; clear hA hB A B) | (refine iteI (fun h => hA.out ?_) (fun h => hB.out ?_) <;> clear hA hB A B) | (refine iteI (fun h => hB.out ?_) (fun h => hA.out ?_) <;> clear hA hB A B)) | (refine wpO_cons fun K hK => ?_; simp only [go_sem, reduceIte, Nat.reduceAdd, Nat.reduceEqDiff, Nat.reduceLT, Nat.reduceLeDiff, *, and_self, ints_len, List.length_map, Int.lt_irrefl, List.nil_append]; first | (refine hK.out _ _ ?_; clear hK K) | (refine iteI (fun h => hK.out _ _ ?_) (fun h => hK.out _ _ ?_) <;> clear hK K)))
      simp only [resultsR, resultsL, resultA, expK_int, expK_bool, expK_str, expK_agg, expK_own, expK_tsl, resK_some, go_sem, reduceIte, Nat.reduceAdd, Nat.reduceEqDiff, Nat.reduceLT, Nat.reduceLeDiff, and_self, List.all_nil]
    · intro g G pre x post k1 k2
      rw [k2]; subst k1; simp only [garbA_cons, garbA_nil, setL_cons, setL_nil, List.set_cons_zero, List.set_cons_succ]
      have i1 := idx_sls hw (X := CX) ty23 ty3 rfl (ints_mid pre x post) (k := .i64)
      have w1 := wrap_succ (n := pre.length) (by simp at h2; omega)
      repeat' (first | refine go1 ?_ | refine blockK_else rfl ?_ | (refine wpC_cond fun A B hA hB => ?_; simp only [go_sem, reduceIte, Nat.reduceAdd, Nat.reduceEqDiff, Nat.reduceLT, Nat.reduceLeDiff, *, and_self, getElem?_len, getElem?_lenAdd, set_len, set_lenAdd, len_mid, ints_len, List.length_map, lt_mid, List.nil_append, i1, w1, hv.snap, (hasP v g1 x hv h1).rw]; first | (refine hA.out ?_; clear hA hB A B) | (refine hB.out ?_; clear hA hB A B) | (refine iteI (fun h => hA.out ?_) (fun h => hB.out ?_) <;> clear hA hB A B) | (refine iteI (fun h => hB.out ?_) (fun h => hA.out ?_) <;> clear hA hB A B)) | (refine wpO_cons fun K hK => ?_; simp only [go_sem, reduceIte, Nat.reduceAdd, Nat.reduceEqDiff, Nat.reduceLT, Nat.reduceLeDiff, *, and_self, getElem?_len, getElem?_lenAdd, set_len, set_lenAdd, len_mid, ints_len, List.length_map, lt_mid, List.nil_append, i1, w1, hv.snap, (hasP v g1 x hv h1).rw]; first | (refine hK.out _ _ ?_; clear hK K) | (refine iteI (fun h => hK.out _ _ ?_) (fun h => hK.out _ _ ?_) <;> clear hK K)))
      · simp only [resultsR, resultsL, resultA, expK_int, expK_bool, expK_str, expK_agg, expK_own, expK_tsl, resK_some, go_sem, reduceIte, Nat.reduceAdd, Nat.reduceEqDiff, Nat.reduceLT, Nat.reduceLeDiff, and_self, ]
        simp only [List.all_cons, h, Bool.false_and]
      · refine each_next rfl ?_ ?_ ?_
        · have : g1.contains x = true := by simpa using h
          simp only [List.all_cons, this, Bool.true_and]
        · ((try simp only [eraseA_cons, eraseA_nil, setL_cons, setL_nil, List.set_cons_zero, List.set_cons_succ]); all_goals (first | rfl | (simp only [len_snoc, ints_len, List.length_map, ]; done) | (simp only [len_snoc, len_mid, ints_len, List.length_map, List.length_append, List.length_cons, List.length_nil, Nat.zero_add, ]; done) | (simp only [len_mid, len_snoc, ints_len, List.length_map, List.length_append, List.length_cons, List.length_nil, Nat.zero_add, ]; rfl)))
        · first | exact ⟨[], (List.append_nil _).symm⟩ | exact ⟨_, rfl⟩ | (simp only [List.append_assoc, List.cons_append, List.nil_append]; exact ⟨_, rfl⟩)

theorem wider22 (v w : AV) (l1 u1 l2 u2 : Int) (g1 g2 : List Int) (hv : SLs 1 (ints g1) v) (hw : SLs 1 (ints g2) w) (h1 : g1.length ≤ 1099511627776) (h2 : g2.length ≤ 1099511627776) :
    EvV CX 22 [.agg [.int .i64 l1, v, .int .i64 u1], .agg [.int .i64 l2, w, .int .i64 u2]] (· = .bool (widerF l1 g1 u1 l2 g2 u2)) := by
  have c1 := hv.cell
  have c2 := hw.cell
  refine EvV.walk rfl fn22 rfl nt22 rfl ?_
  simp only [List.length_cons, List.length_nil, List.cons_append, List.nil_append, Nat.reduceAdd, Nat.reduceSub, List.replicate]
  repeat' (first | refine go1 ?_ | refine blockK_else rfl ?_ | (refine wpC_cond fun A B hA hB => ?_; simp only [go_sem, reduceIte, Nat.reduceAdd, Nat.reduceEqDiff, Nat.reduceLT, Nat.reduceLeDiff, *, and_self, lenK_sls hw, lenK_sl, ints_len, c1, c2, hw.snap, hv.snap, (minus1 w v g2 g1 hw hv h2 h1).rw]; first | (refine hA.out ?_; clear hA hB A B) | (refine hB.out ?_; clear hA hB A B) | (refine iteI (fun h => hA.out ?_) (fun h => hB.out ?_) <;> clear hA hB A B) | (refine iteI (fun h => hB.out ?_) (fun h => hA.out ?_) <;> clear hA hB A B)) | (refine wpO_cons fun K hK => ?_; simp only [go_sem, reduceIte, Nat.reduceAdd, Nat.reduceEqDiff, Nat.reduceLT, Nat.reduceLeDiff, *, and_self, lenK_sls hw, lenK_sl, ints_len, c1, c2, hw.snap, hv.snap, (minus1 w v g2 g1 hw hv h2 h1).rw]; first | (refine hK.out _ _ ?_; clear hK K) | (refine iteI (fun h => hK.out _ _ ?_) (fun h => hK.out _ _ ?_) <;> clear hK K)))
  all_goals (simp only [resultsR, resultsL, resultA, expK_int, expK_bool, expK_str, expK_agg, expK_own, expK_tsl, resK_some, go_sem, reduceIte, Nat.reduceAdd, Nat.reduceEqDiff, Nat.reduceLT, Nat.reduceLeDiff, and_self, ]; simp only [widerF, minus_len1, *, if_true, if_false, true_or, or_true, and_true, true_and, ne_eq, not_true_eq_false, not_false_eq_true, false_and, and_false, or_self, and_self, false_or, or_false, Bool.false_eq_true, Bool.true_and, Bool.and_true, Bool.false_and, Bool.and_false, Bool.true_or, Bool.or_true, Bool.false_or, Bool.or_false, Bool.not_true, Bool.not_false, decide_true, decide_false, not_false_iff, reduceIte]; (try simp only [AV.bool.injEq]); (try simp); try omega)

def sameF (l1 : Int) (g1 : List Int) (u1 l2 : Int) (g2 : List Int) (u2 : Int) : Bool := decide (l1 = l2 ∧ u1 = u2 ∧ g1 = g2)

theorem same24 (v w : AV) (l1 u1 l2 u2 : Int) (g1 g2 : List Int) (hv : SLs 1 (ints g1) v) (hw : SLs 1 (ints g2) w) (h1 : g1.length ≤ 1099511627776) (h2 : g2.length ≤ 1099511627776) :
    EvV CX 24 [.agg [.int .i64 l1, v, .int .i64 u1], .agg [.int .i64 l2, w, .int .i64 u2]] (· = .bool (sameF l1 g1 u1 l2 g2 u2)) := by
  have c1 := hv.cell
  have c2 := hw.cell
  refine EvV.walk rfl fn24 rfl nt24 rfl ?_
  simp only [List.length_cons, List.length_nil, List.cons_append, List.nil_append, Nat.reduceAdd, Nat.reduceSub, List.replicate]
  repeat' (first | refine go1 ?_ | refine blockK_else rfl ?_ | (refine wpC_cond fun A B hA hB => ?_; simp only [go_sem, reduceIte, Nat.reduceAdd, Nat.reduceEqDiff, Nat.reduceLT, Nat.reduceLeDiff, *, and_self, ints_len, c1, c2, hw.snap, hv.snap, (same1 v w g1 g2 hv hw (by omega)).rw]; first | (refine hA.out ?_; clear hA hB A B) | (refine hB.out ?_; clear hA hB A B) | (refine iteI (fun h => hA.out ?_) (fun h => hB.out ?_) <;> clear hA hB A B) | (refine iteI (fun h => hB.out ?_) (fun h => hA.out ?_) <;> clear hA hB A B)) | (refine wpO_cons fun K hK => ?_; simp only [go_sem, reduceIte, Nat.reduceAdd, Nat.reduceEqDiff, Nat.reduceLT, Nat.reduceLeDiff, *, and_self, ints_len, c1, c2, hw.snap, hv.snap, (same1 v w g1 g2 hv hw (by omega)).rw]; first | (refine hK.out _ _ ?_; clear hK K) | (refine iteI (fun h => hK.out _ _ ?_) (fun h => hK.out _ _ ?_) <;> clear hK K)))
  all_goals (simp only [resultsR, resultsL, resultA, expK_int, expK_bool, expK_str, expK_agg, expK_own, expK_tsl, resK_some, go_sem, reduceIte, Nat.reduceAdd, Nat.reduceEqDiff, Nat.reduceLT, Nat.reduceLeDiff, and_self, ]; simp only [sameF, *, if_true, if_false, true_or, or_true, and_true, true_and, ne_eq, not_true_eq_false, not_false_eq_true, false_and, and_false, or_self, and_self, false_or, or_false, Bool.false_eq_true, Bool.true_and, Bool.and_true, Bool.false_and, Bool.and_false, Bool.true_or, Bool.or_true, Bool.false_or, Bool.or_false, Bool.not_true, Bool.not_false, decide_true, decide_false, not_false_iff, reduceIte])

theorem same23 (v w : AV) (l1 u1 l2 u2 : Int) (g1 g2 : List Int) (hv : SLs 1 (ints g1) v) (hw : SLs 1 (ints g2) w) (h1 : g1.length < 9223372036854775807) (h2 : g2.length < 9223372036854775807) :
    EvV CX 23 [.agg [.int .i64 l1, v, .int .i64 u1], .agg [.int .i64 l2, w, .int .i64 u2]] (· = .bool (sameF l1 g1 u1 l2 g2 u2)) := by
  have c1 := hv.cell
  have c2 := hw.cell
  refine EvV.walk rfl fn23 rfl nt23 rfl ?_
  simp only [List.length_cons, List.length_nil, List.cons_append, List.nil_append, Nat.reduceAdd, Nat.reduceSub, List.replicate]
  repeat' (first | refine go1 ?_ | refine blockK_else rfl ?_ | (refine wpC_cond fun A B hA hB => ?_; simp only [go_sem, reduceIte, Nat.reduceAdd, Nat.reduceEqDiff, Nat.reduceLT, Nat.reduceLeDiff, *, and_self, lenK_sls hw, lenK_sls hv, ints_len, c1, c2, hw.snap, hv.snap]; first | (refine hA.out ?_; clear hA hB A B) | (refine hB.out ?_; clear hA hB A B) | (refine iteI (fun h => hA.out ?_) (fun h => hB.out ?_) <;> clear hA hB A B) | (refine iteI (fun h => hB.out ?_) (fun h => hA.out ?_) <;> clear hA hB A B)) | (refine wpO_cons fun K hK => ?_; simp only [go_sem, reduceIte, Nat.reduceAdd, Nat.reduceEqDiff, Nat.reduceLT, Nat.reduceLeDiff, *, and_self, lenK_sls hw, lenK_sls hv, ints_len, c1, c2, hw.snap, hv.snap]; first | (refine hK.out _ _ ?_; clear hK K) | (refine iteI (fun h => hK.out _ _ ?_) (fun h => hK.out _ _ ?_) <;> clear hK K)))
  all_goals first
    | (simp only [resultsR, resultsL, resultA, expK_int, expK_bool, expK_str, expK_agg, expK_own, expK_tsl, resK_some, go_sem, reduceIte, Nat.reduceAdd, Nat.reduceEqDiff, Nat.reduceLT, Nat.reduceLeDiff, and_self, ]; simp only [sameF, *, if_true, if_false, true_or, or_true, and_true, true_and, ne_eq, not_true_eq_false, not_false_eq_true, false_and, and_false, or_self, and_self, false_or, or_false, Bool.false_eq_true, Bool.true_and, Bool.and_true, Bool.false_and, Bool.and_false, Bool.true_or, Bool.or_true, Bool.false_or, Bool.or_false, Bool.not_true, Bool.not_false, decide_true, decide_false, not_false_iff, reduceIte]; done)
    | (have : g1 ≠ g2 := by (rintro rfl; contradiction)
       simp only [resultsR, resultsL, resultA, expK_int, expK_bool, expK_str, expK_agg, expK_own, expK_tsl, resK_some, go_sem, reduceIte, Nat.reduceAdd, Nat.reduceEqDiff, Nat.reduceLT, Nat.reduceLeDiff, and_self, ]; simp only [sameF, *, if_true, if_false, true_or, or_true, and_true, true_and, ne_eq, not_true_eq_false, not_false_eq_true, false_and, and_false, or_self, and_self, false_or, or_false, Bool.false_eq_true, Bool.true_and, Bool.and_true, Bool.false_and, Bool.and_false, Bool.true_or, Bool.or_true, Bool.false_or, Bool.or_false, Bool.not_true, Bool.not_false, decide_true, decide_false, not_false_iff, reduceIte]; done)
    | skip
  have hF : sameF l1 g1 u1 l2 g2 u2 = decide (g1 = g2) := by simp only [sameF, *, if_true, if_false, true_or, or_true, and_true, true_and, ne_eq, not_true_eq_false, not_false_eq_true, false_and, and_false, or_self, and_self, false_or, or_false, Bool.false_eq_true, Bool.true_and, Bool.and_true, Bool.false_and, Bool.and_false, Bool.true_or, Bool.or_true, Bool.false_or, Bool.or_false, Bool.not_true, Bool.not_false, decide_true, decide_false, not_false_iff, reduceIte]
  rw [hF]; clear hF
  have hlen := h; clear h
  refine wpC_each [4, 5, 31, 32, 33, 34, 35, 36, 37, 38, 39, 40, 41, 42, 43, 44] 30 g1 (fun pre post => ∃ post', g2 = pre ++ post') ?_ ?_ ?_ ?_
  · exact ⟨g2, rfl⟩
  · simp only [eraseA_cons, eraseA_nil, setL_cons, setL_nil, List.set_cons_zero, List.set_cons_succ]
  · intro g G h2
    obtain ⟨post', h2⟩ := h2
    have : post' = [] := by have := congrArg List.length h2; simp at this; exact List.eq_nil_of_length_eq_zero (by omega)
    subst this; simp only [List.append_nil] at h2; subst h2; simp only [garbA_cons, garbA_nil, setL_cons, setL_nil, List.set_cons_zero, List.set_cons_succ]
    repeat' (first | refine go1 ?_ | refine blockK_else rfl ?_ | (refine wpC_cond fun A B hA hB => ?_; simp only [go_sem, reduceIte, Nat.reduceAdd, Nat.reduceEqDiff, Nat.reduceLT, Nat.reduceLeDiff, *, and_self, ints_len, List.length_map, Int.lt_irrefl, List.nil_append]; first | (refine hA.out ?_; clear hA hB A B) | (refine hB.out ?_; clear hA hB A B) | (refine iteI (fun h => hA.out ?_) (fun h => hB.out ?_) <;> clear hA hB A B) | (refine iteI (fun h => hB.out ?_) (fun h => hA.out ?_) <;> clear hA hB A B)) | (refine wpO_cons fun K hK => ?_; simp only [go_sem, reduceIte, Nat.reduceAdd, Nat.reduceEqDiff, Nat.reduceLT, Nat.reduceLeDiff, *, and_self, ints_len, List.length_map, Int.lt_irrefl, List.nil_append]; first | (refine hK.out _ _ ?_; clear hK K) | (refine iteI (fun h => hK.out _ _ ?_) (fun h => hK.out _ _ ?_) <;> clear hK K)))
    simp only [resultsR, resultsL, resultA, expK_int, expK_bool, expK_str, expK_agg, expK_own, expK_tsl, resK_some, go_sem, reduceIte, Nat.reduceAdd, Nat.reduceEqDiff, Nat.reduceLT, Nat.reduceLeDiff, and_self, ]
  · intro g G pre x post k1 k2
    obtain ⟨post', k2⟩ := k2
    cases post' with
    | nil => subst k1 k2; simp at hlen
    | cons y post' =>
      subst k1 k2; simp only [garbA_cons, garbA_nil, setL_cons, setL_nil, List.set_cons_zero, List.set_cons_succ]
      have i1 := idx_sls hv (X := CX) ty23 ty3 rfl (ints_mid pre x post) (k := .i64)
      have i2 := idx_sls hw (X := CX) ty23 ty3 rfl (ints_mid pre y post') (k := .i64)
      have w1 := wrap_succ (n := pre.length) (by simp at h1; omega)
      repeat' (first | refine go1 ?_ | refine blockK_else rfl ?_ | (refine wpC_cond fun A B hA hB => ?_; simp only [go_sem, reduceIte, Nat.reduceAdd, Nat.reduceEqDiff, Nat.reduceLT, Nat.reduceLeDiff, *, and_self, getElem?_len, getElem?_lenAdd, set_len, set_lenAdd, len_mid, ints_len, List.length_map, lt_mid, List.nil_append, i1, i2, w1]; first | (refine hA.out ?_; clear hA hB A B) | (refine hB.out ?_; clear hA hB A B) | (refine iteI (fun h => hA.out ?_) (fun h => hB.out ?_) <;> clear hA hB A B) | (refine iteI (fun h => hB.out ?_) (fun h => hA.out ?_) <;> clear hA hB A B)) | (refine wpO_cons fun K hK => ?_; simp only [go_sem, reduceIte, Nat.reduceAdd, Nat.reduceEqDiff, Nat.reduceLT, Nat.reduceLeDiff, *, and_self, getElem?_len, getElem?_lenAdd, set_len, set_lenAdd, len_mid, ints_len, List.length_map, lt_mid, List.nil_append, i1, i2, w1]; first | (refine hK.out _ _ ?_; clear hK K) | (refine iteI (fun h => hK.out _ _ ?_) (fun h => hK.out _ _ ?_) <;> clear hK K)))
      · subst h
        refine each_next rfl ?_ ?_ ?_
        · exact ⟨post', by simp⟩
        · ((try simp only [eraseA_cons, eraseA_nil, setL_cons, setL_nil, List.set_cons_zero, List.set_cons_succ]); all_goals (first | rfl | (simp only [len_snoc, ints_len, List.length_map, ]; done) | (simp only [len_snoc, len_mid, ints_len, List.length_map, List.length_append, List.length_cons, List.length_nil, Nat.zero_add, ]; done) | (simp only [len_mid, len_snoc, ints_len, List.length_map, List.length_append, List.length_cons, List.length_nil, Nat.zero_add, ]; rfl)))
        · first | exact ⟨[], (List.append_nil _).symm⟩ | exact ⟨_, rfl⟩ | (simp only [List.append_assoc, List.cons_append, List.nil_append]; exact ⟨_, rfl⟩)
      · simp only [resultsR, resultsL, resultA, expK_int, expK_bool, expK_str, expK_agg, expK_own, expK_tsl, resK_some, go_sem, reduceIte, Nat.reduceAdd, Nat.reduceEqDiff, Nat.reduceLT, Nat.reduceLeDiff, and_self, ]
        simp [h]

theorem grps_of : ∀ {rows : List (List AV)}, (∀ r ∈ rows, okR [.int .i64, .str, .sl [.int .i64], .sl [.int .i64]] r) → ∃ gs : List Grp, rows = gs.map encG ∧ ∀ g ∈ gs, g.ok
  | [], _ => ⟨[], rfl, fun _ h => by cases h⟩
  | r :: rows, h => by
    have hr := h r (by simp)
    simp only [okR, okC] at hr
    obtain ⟨_, _, rfl, ⟨a, rfl, _⟩, _, _, rfl, ⟨s, rfl, _⟩, _, _, rfl, ⟨r1, rfl, _, k1⟩, _, _, rfl, ⟨r2, rfl, _, k2⟩, rfl⟩ := hr
    have one : ∀ {r : List (List AV)}, (∀ x ∈ r, ∃ v r', x = v :: r' ∧ (∃ n, v = .int .i64 n ∧ (Lit.int .i64 n).wf = true) ∧ r' = []) → ∃ l, r = ints l ∧ ∀ n ∈ l, (Lit.int .i64 n).wf = true :=
      fun hh => ints_of fun x hx => by obtain ⟨_, _, rfl, ⟨n, rfl, hn⟩, rfl⟩ := hh x hx; exact ⟨n, rfl, hn⟩
    obtain ⟨l1, rfl, _⟩ := one k1
    obtain ⟨l2, rfl, _⟩ := one k2
    obtain ⟨gs, rfl, hg⟩ := grps_of (rows := rows) fun r hr => h r (by simp [hr])
    exact ⟨⟨a, s, l1, l2, .tsl true 1 (ints l1), .tsl true 1 (ints l2)⟩ :: gs, rfl, fun g hgm => by
      rcases List.mem_cons.1 hgm with rfl | hgm
      · exact ⟨.rows true, .rows true⟩
      · exact hg g hgm⟩

theorem ints_ok {r : List (List AV)} (h : ∀ x ∈ r, okR [.int .i64] x) : ∃ l, r = ints l ∧ ∀ n ∈ l, (Lit.int .i64 n).wf = true :=
  ints_of fun x hx => by
    have := h x hx
    simp only [okR, okC] at this
    obtain ⟨_, _, rfl, ⟨n, rfl, hn⟩, rfl⟩ := this; exact ⟨n, rfl, hn⟩
end Go.Eng

/- Protocols: arguments as trees. -/
namespace Go.Eng
open Go.Proofs

theorem prts_of : ∀ {rows : List (List AV)}, (∀ r ∈ rows, okR [.int .i64, .sl [.int .i64], .int .i64] r) → ∃ l : List Prt, rows = l.map encR ∧ ∀ p ∈ l, p.gv = .tsl true 1 (ints p.gl)
  | [], _ => ⟨[], rfl, fun _ h => by cases h⟩
  | r :: rows, h => by
    have hr := h r (by simp)
    simp only [okR, okC] at hr
    obtain ⟨_, _, rfl, ⟨a, rfl, _⟩, _, _, rfl, ⟨r1, rfl, _, k1⟩, _, _, rfl, ⟨b, rfl, _⟩, rfl⟩ := hr
    obtain ⟨l1, rfl, _⟩ := rows_ints k1
    obtain ⟨l, rfl, hl⟩ := prts_of (rows := rows) fun r hr => h r (by simp [hr])
    refine ⟨⟨a, l1, b, .tsl true 1 (ints l1)⟩ :: l, rfl, fun g hgm => ?_⟩
    rcases List.mem_cons.1 hgm with rfl | hgm
    · rfl
    · exact hl g hgm
theorem b_prts {l : List Prt} {rest : List AV} {m : Nat} (hg : ∀ p ∈ l, p.gv = .tsl true 1 (ints p.gl)) (h : avBL (.tsl true 3 (l.map encR) :: rest) ≤ m) (hm : m ≤ 1048576) : l.length ≤ 1048576 ∧ ∀ p ∈ l, p.gl.length ≤ 1048576 := by
  simp only [avBL, avB] at h
  constructor
  · have := avBR_len (rows := l.map encR) fun r hr => by
      obtain ⟨p, _, rfl⟩ := List.mem_map.mp hr
      simp only [encR, avBL, avB]; omega
    rw [List.length_map] at this; omega
  · intro p hp
    have := avBR_mem (List.mem_map.mpr ⟨p, hp, rfl⟩ : encR p ∈ l.map encR)
    rw [encR, hg p hp] at this
    simp only [avBL, avB] at this
    exact ints_bound (by omega)
end Go.Eng

/- Names and persons. -/
namespace Go.Eng
open Go.Proofs
set_option linter.unusedSimpArgs false
set_option linter.unusedVariables false
attribute [local irreducible] wpC wpO wp1 EvV EvR wpL
attribute [local go_sem] ty3 ty4 ty5 ty9 beq_iff_eq beq_eq_false_iff_ne Int.natCast_inj Bool.not_eq_false' op1_go wpK_box wpK_alloc wpK_load wpK_store wpK_binOp wpK_unOp wpK_fieldAddr wpK_field wpK_build wpK_indexAddr wpK_slice wpK_len wpK_extract wpK_nilCheck wpK_pick wpK_makeFunc wpK_call wpK_callT wpK_max wpK_min wpK_assignT wpK_moveT wpK_assignB wpK_moveB wpK_assignI wpK_moveI wpK_assignA wpK_moveA callK_fn snapL_nil snapL_cons snap_int snap_bool snap_str snap_tsl snap_agg snap_fn snap_flat adopt_int adopt_bool adopt_str adopt_agg adopt_osl adopt_tsl adopt_tup op1_guard grdK_bool grdK_undef condK_bool someK_some pairK_some nilK_ptr nilK_tptr boxK storeK evalA_tmp evalA_int evalA_bool evalA_agg evalA_fn evalA_nil ofC_int ofC_bool getA_zero getA_succ cells_int cells_agg cells_bool cells_sl cells_tsl cell_int cell_bool cell_str cell_sl cell_esl cell_tsl cell_ptr cell_tptr cell_fn cell_nils cell_nilf List.all_cons List.all_nil Bool.and_true Bool.and_self Bool.true_and putA_some putA_none List.set_cons_zero List.set_cons_succ List.length_cons List.length_nil List.nil_append List.cons_append stabL AV.stab fieldAddrA fieldA List.getElem?_cons_zero List.getElem?_cons_succ Nat.zero_add loadA rowOf Nat.le_refl and_self true_and and_true partA binA unA intBin eqBin eqCells eqCell Option.bind_some decide_true decide_false decide_eq_true_eq ite_not Bool.not_eq_true' decide_eq_false_iff_not Bool.false_eq_true Option.map_some Option.map_none Bool.not_true Bool.not_false buildA fillA patch List.take List.drop List.map_cons List.map_nil extK List.getD_cons_zero List.getD_cons_succ minmaxA minmaxGo adoptZ_false adoptZ_true freeze_int freeze_bool freeze_str freeze_flat freeze_agg freeze_osl freeze_tsl freeze_tup frz1_bool frz1_int frz1_str frz1_agg frz1_osl frz1_tsl bne Bool.false_and Bool.and_false ne_eq not_true_eq_false not_false_eq_true List.append_nil
set_option maxHeartbeats 4000000

theorem toList_loop (s : ByteArray) : ∀ (k i : Nat) (r : List UInt8), s.size ≤ i + k → ByteArray.toList.loop s i r = r.reverse ++ s.data.toList.drop i := by
  intro k
  induction k with
  | zero =>
    intro i r h
    unfold ByteArray.toList.loop
    rw [if_neg (by omega), List.drop_eq_nil_of_le (by simpa using h), List.append_nil]
  | succ k ih =>
    intro i r h
    unfold ByteArray.toList.loop
    split
    · rename_i hi
      rw [ih _ _ (by omega), List.reverse_cons, List.append_assoc]
      have hi' : i < s.data.toList.length := by simpa using hi
      rw [List.drop_eq_getElem_cons hi']
      simp [ByteArray.get!, hi]
    · rw [List.drop_eq_nil_of_le (by simp; omega), List.append_nil]
theorem toList_data (s : ByteArray) : s.toList = s.data.toList := by
  unfold ByteArray.toList
  rw [toList_loop s s.size 0 [] (by omega)]; simp

def bytesR (l : List UInt8) : List (List AV) := l.map fun c => [.int .u8 (c.toNat : Int)]
def sbK (v : AV) (dst : Option Tmp) (K : List AV → Store → Prop) (fr : List AV) (S : Store) (P : Prop) : Prop :=
  match v with
  | .str s => if s.size ≤ 140737488355328 then K (putA fr dst (.tsl true 1 (bytesR s.data.toList))) S else False
  | _ => P
theorem sbK_str {s : ByteArray} {dst : Option Tmp} {K : List AV → Store → Prop} {fr : List AV} {S : Store} {P : Prop} (h : s.size ≤ 140737488355328) : sbK (.str s) dst K fr S P = K (putA fr dst (.tsl true 1 (bytesR s.data.toList))) S := if_pos h
theorem wpK_sb {X : Ctx} {d : Bool} {dst : Option Tmp} {ty : TypeId} {pos : String} {after : Array Edge} {g : Option (Nat × Bool)} {K : List AV → Store → Prop} {fr : List AV} {S : Store} {s t el : TypeId} {x : Operand} {i j e : TyI}
    (hs : X.ty s = some j) (ht : X.ty t = some i) (he : X.ty el = some e) (hj : j.desc = .str) (hi : i.desc = .slice el) (hd : e.desc = .int .u8) :
    wpK X d ⟨dst, .convert s t x, ty, pos, after, g⟩ dst K fr S = sbK (evalA fr x) dst K fr S (wp1 X d ⟨dst, .convert s t x, ty, pos, after, g⟩ (fun v S' => K (putA fr dst v) S') fr S) := by
  obtain ⟨a1, b1, c1, e1, f1⟩ := i
  obtain ⟨a2, b2, c2, e2, f2⟩ := j
  obtain ⟨a3, b3, c3, e3, f3⟩ := e
  simp only at hj hi hd; subst hj hi hd
  unfold sbK
  split
  · rename_i v hv
    have hp : popA X fr ⟨dst, .convert s t x, ty, pos, after, g⟩ = none := by simp only [popA, convA, hs, ht, hv]
    rw [wpK_qop (if v.size ≤ 140737488355328 then some (.tsl true 1 (bytesR v.data.toList), []) else none) hp (by simp only [qopA, hs, ht, hv, he, toList_data]; rfl) rfl rfl rfl]
    by_cases h : v.size ≤ 140737488355328
    · simp only [if_pos h, pairK_some, List.append_nil]
    · simp only [if_neg h, pairK]
  · unfold wpK; rfl
theorem str_get {s : ByteArray} {pre post : List UInt8} {c : UInt8} (h : s.data.toList = pre ++ c :: post) : s[pre.length]? = some c := by
  have hl : pre.length < s.size := by
    have := congrArg List.length h
    simp at this; omega
  rw [getElem?_pos s pre.length hl]
  have : s.data.toList[pre.length]? = some c := by rw [h]; simp
  have e : s[pre.length] = s.data[pre.length]'(by simpa using hl) := rfl
  rw [e]
  simpa [hl] using this
theorem str_len {s : ByteArray} {l : List UInt8} (h : s.data.toList = l) : s.size = l.length := by rw [← h]; simp
theorem index_str {X : Ctx} {t : TypeId} {a c : Nat} {b : Bool} {d : List AV} {s : ByteArray} {n : Nat} {x : UInt8} {k : IntKind} (ht : X.ty t = some ⟨a, b, c, d, .str⟩) (h : s[n]? = some x) : indexA X t (.str s) (.int k n) = some (.int .u8 (x.toNat : Int)) := by
  simp [indexA, ht, h]

theorem bytesR_len (l : List UInt8) : (bytesR l).length = l.length := by simp [bytesR]

/-- What a name may hold. -/
def lowC (c : UInt8) : Bool := decide (97 ≤ (c.toNat : Int)) && decide ((c.toNat : Int) ≤ 122)
def nameC (c : UInt8) : Bool := lowC c || (decide (48 ≤ (c.toNat : Int)) && decide ((c.toNat : Int) ≤ 57)) || decide ((c.toNat : Int) = 45) || decide ((c.toNat : Int) = 95)
def nameL : List UInt8 → Bool
  | [] => false
  | c :: l => decide (l.length + 1 ≤ 32) && lowC c && l.all nameC

def nmC : List UInt8 → Bool
  | [] => true
  | c :: l => lowC c && l.all nameC
theorem nmC_snoc (l : List UInt8) (x : UInt8) : nmC (l ++ [x]) = (nmC l && if l = [] then lowC x else nameC x) := by
  cases l with
  | nil => simp [nmC]
  | cons c l => simp [nmC, Bool.and_assoc]
theorem nmC_app (l m : List UInt8) (h : nmC l = false) : nmC (l ++ m) = false := by
  cases l with
  | nil => simp [nmC] at h
  | cons c l =>
    simp only [nmC, List.cons_append, List.all_append] at h ⊢
    rw [← Bool.and_assoc, h, Bool.false_and]
theorem nameL_ok (l : List UInt8) : nameL l = (nmC l && (decide (1 ≤ l.length) && decide (l.length ≤ 32))) := by
  cases l with
  | nil => rfl
  | cons c l => simp only [nameL, nmC, List.length_cons]; cases lowC c <;> cases l.all nameC <;> simp

theorem nameR (s : ByteArray) (hs : s.size ≤ 1048576) : EvV CX 49 [.str s] (· = .bool (nameL s.data.toList)) := by
  obtain ⟨l, hl⟩ : ∃ l, s.data.toList = l := ⟨_, rfl⟩
  have hlen := str_len hl
  rw [hl]
  have hsz : (s.size : Int) = (l.length : Int) := by rw [hlen]
  refine EvV.walk rfl fn49 rfl nt49 rfl ?_
  simp only [List.length_cons, List.length_nil, List.cons_append, List.nil_append, Nat.reduceAdd, Nat.reduceSub, List.replicate]
  repeat' (first | refine go1 ?_ | refine blockK_else rfl ?_ | (refine wpC_cond fun A B hA hB => ?_; simp only [go_sem, reduceIte, Nat.reduceAdd, Nat.reduceEqDiff, Nat.reduceLT, Nat.reduceLeDiff, *, and_self, ]; first | (refine hA.out ?_; clear hA hB A B) | (refine hB.out ?_; clear hA hB A B) | (refine iteI (fun h => hA.out ?_) (fun h => hB.out ?_) <;> clear hA hB A B) | (refine iteI (fun h => hB.out ?_) (fun h => hA.out ?_) <;> clear hA hB A B)) | (refine wpO_cons fun K hK => ?_; simp only [go_sem, reduceIte, Nat.reduceAdd, Nat.reduceEqDiff, Nat.reduceLT, Nat.reduceLeDiff, *, and_self, ]; first | (refine hK.out _ _ ?_; clear hK K) | (refine iteI (fun h => hK.out _ _ ?_) (fun h => hK.out _ _ ?_) <;> clear hK K)))
  refine wpC_each [2, 4, 5, 6, 7, 8, 9, 10, 11, 12, 13, 14, 15, 16, 17, 18, 19, 20, 21, 22, 23, 24, 25, 26, 27, 28, 29, 30, 31, 32, 33, 34, 35, 36, 37, 38, 39, 40, 41, 42, 43, 44, 45, 46, 47, 48, 49, 50] 3 l (fun pre _ => nmC pre = true) ?_ ?_ ?_ ?_
  · rfl
  · rfl
  · intro g G h2
    simp only [garbA_cons, garbA_nil, setL_cons, setL_nil, List.set_cons_zero, List.set_cons_succ]
    rw [nameL_ok, h2, Bool.true_and]
    repeat' (first | refine go1 ?_ | refine blockK_else rfl ?_ | (refine wpC_cond fun A B hA hB => ?_; simp only [go_sem, reduceIte, Nat.reduceAdd, Nat.reduceEqDiff, Nat.reduceLT, Nat.reduceLeDiff, *, and_self, ints_len, List.length_map, Int.lt_irrefl, List.nil_append, lenK_str, hsz]; first | (refine hA.out ?_; clear hA hB A B) | (refine hB.out ?_; clear hA hB A B) | (refine iteI (fun h => hA.out ?_) (fun h => hB.out ?_) <;> clear hA hB A B) | (refine iteI (fun h => hB.out ?_) (fun h => hA.out ?_) <;> clear hA hB A B)) | (refine wpO_cons fun K hK => ?_; simp only [go_sem, reduceIte, Nat.reduceAdd, Nat.reduceEqDiff, Nat.reduceLT, Nat.reduceLeDiff, *, and_self, ints_len, List.length_map, Int.lt_irrefl, List.nil_append, lenK_str, hsz]; first | (refine hK.out _ _ ?_; clear hK K) | (refine iteI (fun h => hK.out _ _ ?_) (fun h => hK.out _ _ ?_) <;> clear hK K)))
    · simp only [resultsR, resultsL, resultA, expK_int, expK_bool, expK_str, expK_agg, expK_own, expK_tsl, resK_some, go_sem, reduceIte, Nat.reduceAdd, Nat.reduceEqDiff, Nat.reduceLT, Nat.reduceLeDiff, and_self, ]
      have : 1 ≤ l.length := by omega
      simp [this]
      omega
    · simp only [resultsR, resultsL, resultA, expK_int, expK_bool, expK_str, expK_agg, expK_own, expK_tsl, resK_some, go_sem, reduceIte, Nat.reduceAdd, Nat.reduceEqDiff, Nat.reduceLT, Nat.reduceLeDiff, and_self, ]
      have : ¬ 1 ≤ l.length := by omega
      simp [this]
  · intro g G pre x post h1 h2
    simp only [garbA_cons, garbA_nil, setL_cons, setL_nil, List.set_cons_zero, List.set_cons_succ]
    have i0 := index_str (X := CX) (k := .i64) ty9 (str_get (hl.trans h1))
    have lt1 : (pre.length : Int) < (l.length : Int) := by rw [h1]; simp; omega
    have w1 := wrap_succ (n := pre.length) (by omega)
    have hh : Hold (s.data.toList = l) := ⟨hl⟩
    have hh1 : Hold (l = pre ++ x :: post) := ⟨h1⟩
    have hh2 : Hold (nmC pre = true) := ⟨h2⟩
    clear hl h1 h2
    repeat' (first | refine go1 ?_ | refine blockK_else rfl ?_ | (refine wpC_cond fun A B hA hB => ?_; simp only [go_sem, reduceIte, Nat.reduceAdd, Nat.reduceEqDiff, Nat.reduceLT, Nat.reduceLeDiff, *, and_self, wpK_index, i0, lenK_str, hsz, lt1, w1]; first | (refine hA.out ?_; clear hA hB A B) | (refine hB.out ?_; clear hA hB A B) | (refine iteI (fun h => hA.out ?_) (fun h => hB.out ?_) <;> clear hA hB A B) | (refine iteI (fun h => hB.out ?_) (fun h => hA.out ?_) <;> clear hA hB A B)) | (refine wpO_cons fun K hK => ?_; simp only [go_sem, reduceIte, Nat.reduceAdd, Nat.reduceEqDiff, Nat.reduceLT, Nat.reduceLeDiff, *, and_self, wpK_index, i0, lenK_str, hsz, lt1, w1]; first | (refine hK.out _ _ ?_; clear hK K) | (refine iteI (fun h => hK.out _ _ ?_) (fun h => hK.out _ _ ?_) <;> clear hK K)))
    all_goals first
      | (refine each_next hh1.out ?_ ?_ ?_
         · rw [nmC_snoc, hh2.out, Bool.true_and]
           by_cases hp : pre = []
           · have : pre.length = 0 := by rw [hp]; rfl
             rw [if_pos hp]; simp [lowC]; omega
           · have : pre.length ≠ 0 := fun e => hp (List.eq_nil_of_length_eq_zero e)
             rw [if_neg hp]; simp [nameC, lowC]; omega
         · ((try simp only [eraseA_cons, eraseA_nil, setL_cons, setL_nil, List.set_cons_zero, List.set_cons_succ]); all_goals (first | rfl | (simp only [len_snoc, ints_len, List.length_map, ]; done) | (simp only [len_snoc, len_mid, ints_len, List.length_map, List.length_append, List.length_cons, List.length_nil, Nat.zero_add, ]; done) | (simp only [len_mid, len_snoc, ints_len, List.length_map, List.length_append, List.length_cons, List.length_nil, Nat.zero_add, ]; rfl)))
         · first | exact ⟨[], (List.append_nil _).symm⟩ | exact ⟨_, rfl⟩ | (simp only [List.append_assoc, List.cons_append, List.nil_append]; exact ⟨_, rfl⟩))
      | (simp only [resultsR, resultsL, resultA, expK_int, expK_bool, expK_str, expK_agg, expK_own, expK_tsl, resK_some, go_sem, reduceIte, Nat.reduceAdd, Nat.reduceEqDiff, Nat.reduceLT, Nat.reduceLeDiff, and_self, ]
         have e : nmC (pre ++ [x]) = false := by
           rw [nmC_snoc, hh2.out, Bool.true_and]
           by_cases hp : pre = []
           · have : pre.length = 0 := by rw [hp]; rfl
             rw [if_pos hp]; simp [lowC]; omega
           · have : pre.length ≠ 0 := fun e => hp (List.eq_nil_of_length_eq_zero e)
             rw [if_neg hp]; simp [nameC, lowC]; omega
         have e2 := nmC_app _ post e
         rw [nameL_ok, hh1.out, show pre ++ x :: post = (pre ++ [x]) ++ post by simp, e2, Bool.false_and])

/- Groups: the check of one group, in the code and in the reference. -/
open Go.Proofs
set_option maxHeartbeats 4000000

def lastG (pre : List Grp) : Grp := pre.getLastD noG
def ordG (pre : List Grp) (x : Grp) : Bool := decide (pre = []) || decide ((lastG pre).id < x.id)
/-- What is wrong with a group. -/
def errG (ps : List Psn) (pre : List Grp) (x : Grp) : Int :=
  if idOK x.id = true then if ordG pre x = true then if nameL x.name.data.toList = true then if upB x.people = true then if x.people.all (isP ps) = true then if upB x.subs = true then 0 else 10 else 9 else 10 else 7 else 10 else 2

theorem idOK_cases (n : Int) : (idOK n = true ∧ ¬ n < 1 ∧ ¬ 1099511627776 < n) ∨ (idOK n = false ∧ n < 1) ∨ (idOK n = false ∧ ¬ n < 1 ∧ 1099511627776 < n) := by
  unfold idOK
  by_cases h : n < 1
  · right; left; exact ⟨by simp; omega, h⟩
  · by_cases h2 : 1099511627776 < n
    · right; right; exact ⟨by simp; omega, h, h2⟩
    · left; exact ⟨by simp; omega, h, h2⟩
theorem ordG_cases {v : AV} {gs pre post : List Grp} {x : Grp} (h : GsOK v gs) (hg : gs = pre ++ x :: post) :
    (ordG pre x = true ∧ ¬ (0 : Int) < (pre.length : Int)) ∨
    (ordG pre x = true ∧ ¬ x.id ≤ (lastG pre).id ∧ (0 : Int) < (pre.length : Int) ∧ indexAddrA CX 22 v (.int .i64 (IntKind.wrap .i64 ((pre.length : Int) - 1))) = some (.tptr (stOf v) (encG (lastG pre)) 0)) ∨
    (ordG pre x = false ∧ x.id ≤ (lastG pre).id ∧ (0 : Int) < (pre.length : Int) ∧ indexAddrA CX 22 v (.int .i64 (IntKind.wrap .i64 ((pre.length : Int) - 1))) = some (.tptr (stOf v) (encG (lastG pre)) 0)) := by
  have hgl := h.len
  by_cases hp : pre = []
  · left; exact ⟨by simp [ordG, hp], by simp [hp]⟩
  · have z0 : (0 : Int) < (pre.length : Int) := by have := List.length_pos_iff.mpr hp; omega
    have e : indexAddrA CX 22 v (.int .i64 (IntKind.wrap .i64 ((pre.length : Int) - 1))) = some (.tptr (stOf v) (encG (lastG pre)) 0) := prev_sls (f := encG) (by rw [← hg]; exact h.sl) (by rw [← hg]; omega) ty22 ty53 rfl noG z0
    by_cases hl : x.id ≤ (lastG pre).id
    · right; right; exact ⟨by simp [ordG, hp]; omega, hl, z0, e⟩
    · right; left; exact ⟨by simp [ordG, hp]; omega, hl, z0, e⟩

end Go.Eng
