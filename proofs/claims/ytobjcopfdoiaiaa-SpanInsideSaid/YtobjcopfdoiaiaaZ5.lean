/- Part 5 of the texts behind this claim. -/
import Derived.Test.YtobjcopfdoiaiaaZ4

/- The reference's lists of spans: Right, insert, Union. -/
namespace Go.Eng.Fo
open Go.Proofs
set_option linter.unusedSimpArgs false
set_option linter.unusedVariables false
attribute [local irreducible] wpC wpO wp1 EvV EvR wpL
attribute [local go_sem] ty3 ty4 ty23 eq23 ty30 List.all_cons List.all_nil List.replicate List.set_cons_zero Nat.one_mul Nat.reduceMul Nat.zero_mul appK bslA fz46 fz47 fz48 fz49 fz50 lenK_esl lenK_nils lenK_sl lenK_tsl nilsK rowsFill rowsOf_esl rowsOf_nils rowsOf_sl rowsOf_tsl br13 br41 fz51 fz52 fz53 beq_iff_eq beq_eq_false_iff_ne Int.natCast_inj Bool.not_eq_false' op1_go wpK_box wpK_alloc wpK_load wpK_store wpK_binOp wpK_unOp wpK_fieldAddr wpK_field wpK_build wpK_indexAddr wpK_slice wpK_len wpK_extract wpK_nilCheck wpK_pick wpK_makeFunc wpK_call wpK_callT wpK_max wpK_min wpK_assignT wpK_moveT wpK_assignB wpK_moveB wpK_assignI wpK_moveI wpK_assignA wpK_moveA callK_fn snapL_nil snapL_cons snap_int snap_bool snap_str snap_tsl snap_agg snap_fn snap_flat adopt_int adopt_bool adopt_str adopt_agg adopt_osl adopt_tsl adopt_tup op1_guard grdK_bool grdK_undef condK_bool someK_some pairK_some nilK_ptr nilK_tptr boxK storeK evalA_tmp evalA_int evalA_bool evalA_agg evalA_fn evalA_nil ofC_int ofC_bool getA_zero getA_succ cells_int cells_agg cells_bool cells_sl cells_tsl cell_int cell_bool cell_str cell_sl cell_esl cell_tsl cell_ptr cell_tptr cell_fn cell_nils cell_nilf List.all_cons List.all_nil Bool.and_true Bool.and_self Bool.true_and putA_some putA_none List.set_cons_zero List.set_cons_succ List.length_cons List.length_nil List.nil_append List.cons_append stabL AV.stab fieldAddrA fieldA List.getElem?_cons_zero List.getElem?_cons_succ Nat.zero_add loadA rowOf Nat.le_refl and_self true_and and_true partA binA unA intBin eqBin eqCells eqCell Option.bind_some decide_true decide_false decide_eq_true_eq ite_not Bool.not_eq_true' decide_eq_false_iff_not Bool.false_eq_true Option.map_some Option.map_none Bool.not_true Bool.not_false buildA fillA patch List.take List.drop List.map_cons List.map_nil extK List.getD_cons_zero List.getD_cons_succ minmaxA minmaxGo adoptZ_false adoptZ_true freeze_int freeze_bool freeze_str freeze_flat freeze_agg freeze_osl freeze_tsl freeze_tup frz1_bool frz1_int frz1_str frz1_agg frz1_osl frz1_tsl bne Bool.false_and Bool.and_false ne_eq not_true_eq_false not_false_eq_true List.append_nil
set_option maxRecDepth 20000
set_option maxHeartbeats 4000000

theorem rightR (x : El) : EvV CX 13 [.agg (encE x)] (· = .bool (rgt x)) := by
  obtain ⟨a, b⟩ := x
  refine EvV.walk rfl fn13 rfl nt13 rfl ?_
  simp only [List.length_cons, List.length_nil, List.cons_append, List.nil_append, Nat.reduceAdd, Nat.reduceSub, List.replicate]
  repeat' (first | refine go1 ?_ | refine blockK_else rfl ?_ | (refine wpC_cond fun A B hA hB => ?_; simp only [go_sem, reduceIte, Nat.reduceAdd, Nat.reduceEqDiff, Nat.reduceLT, Nat.reduceLeDiff, *, and_self, encE]; first | (refine hA.out ?_; clear hA hB A B) | (refine hB.out ?_; clear hA hB A B) | (refine iteI (fun h => hA.out ?_) (fun h => hB.out ?_) <;> clear hA hB A B) | (refine iteI (fun h => hB.out ?_) (fun h => hA.out ?_) <;> clear hA hB A B)) | (refine wpO_cons fun K hK => ?_; simp only [go_sem, reduceIte, Nat.reduceAdd, Nat.reduceEqDiff, Nat.reduceLT, Nat.reduceLeDiff, *, and_self, encE]; first | (refine hK.out _ _ ?_; clear hK K) | (refine iteI (fun h => hK.out _ _ ?_) (fun h => hK.out _ _ ?_) <;> clear hK K)))
  all_goals simp only [resultsR, resultsL, resultA, expK_int, expK_bool, expK_str, expK_agg, expK_own, expK_tsl, resK_some, go_sem, reduceIte, Nat.reduceAdd, Nat.reduceEqDiff, Nat.reduceLT, Nat.reduceLeDiff, and_self, ]
  all_goals simp [rgt, *]

theorem span_ok2 {n m : Nat} (h : n + m ≤ 8000000) : (n + m) * 16 ≤ 140737488355328 ∧ n + m ≤ 140737488355328 := by omega

theorem insertR (v : AV) (l : List El) (s : El) (hv : SLs 2 (spans l) v) (hl : l.length ≤ 2000000) : EvV CX 41 [v, .agg (encE s)] (· = .osl 2 (spans (insS l s))) := by
  unfold insS
  obtain ⟨R, hR⟩ : ∃ R, insGo [] [] s l = R := ⟨_, rfl⟩
  rw [hR]
  obtain ⟨s1, s2⟩ := s
  simp only [encE]
  refine EvV.walk rfl fn41 rfl nt41 rfl ?_
  simp only [List.length_cons, List.length_nil, List.cons_append, List.nil_append, Nat.reduceAdd, Nat.reduceSub, List.replicate]
  repeat' (first | refine go1 ?_ | refine blockK_else rfl ?_ | (refine wpO_cons fun K hK => ?_; simp only [go_sem, reduceIte, Nat.reduceAdd, Nat.reduceEqDiff, Nat.reduceLT, Nat.reduceLeDiff, *, wpK_append ty30 rfl, wpK_assignN ty30 rfl, wpK_buildSlice ty30 rfl, ]; first | (refine hK.out _ _ ?_; clear hK K) | (refine iteI (fun h => hK.out _ _ ?_) (fun h => hK.out _ _ ?_) <;> clear hK K)))
  refine wpC_loopF [10, 11, 12, 13, 14, 15, 16, 17, 18, 19, 20, 21, 22, 23, 24, 25, 26, 27, 28, 29, 30, 31, 32, 33, 34, 35, 36, 37, 38, 39, 40, 41, 42, 43, 44, 45, 46, 47, 48, 49, 50, 51, 52, 53, 54, 55, 56, 57, 58, 59, 60, 61, 62] (fun p : List El × List El × List El × List El × El × Nat × Nat × Nat × Store => [(5, .sl 2 p.2.2.1.length 0 p.2.2.1.length 2), (6, .sl 3 p.2.2.2.1.length 0 p.2.2.2.1.length 2), (7, .int .i64 p.1.length)]) (fun p _ => p.2.2.2.2.2.2.2.2)
    (fun p => l = p.1 ++ p.2.1 ∧ p.2.2.2.2.2.2.2.2[0]? = some (.arr [[.int .i64 p.2.2.2.2.1.1, .int .i64 p.2.2.2.2.1.2]] 2 p.2.2.2.2.2.1 true) ∧ p.2.2.2.2.2.2.2.2[2]? = some (.arr (spans p.2.2.1) 2 p.2.2.2.2.2.2.1 true) ∧ p.2.2.2.2.2.2.2.2[3]? = some (.arr (spans p.2.2.2.1) 2 p.2.2.2.2.2.2.2.1 true) ∧
      p.2.2.2.2.2.1 ≤ 1 ∧ p.2.2.2.2.2.2.1 ≤ p.2.2.1.length ∧ p.2.2.2.2.2.2.2.1 ≤ p.2.2.2.1.length ∧ insGo p.2.2.1 p.2.2.2.1 p.2.2.2.2.1 p.2.1 = R ∧ p.2.2.1.length + p.2.2.2.1.length ≤ p.1.length)
    (fun p => p.2.1.length) ([], l, [], [], (s1, s2), 0, 0, 0, _) ⟨rfl, rfl, rfl, rfl, by simp, by simp, by simp, hR, by simp⟩ ?_ ⟨[], rfl⟩ ?_
  · rfl
  clear hR
  rintro ⟨pre, po, bf, af, ⟨s1, s2⟩, w0, w1, w2, S⟩ g G ⟨h1, h2, h3, h4, h5, h6, h7, h8, h9⟩
  simp only at h1 h2 h3 h4 h5 h6 h7 h8 h9
  have a2 := at_app h2
  have a3 := at_app h3
  have a4 := at_app h4
  have c2 := set_app h2
  have c3 := set_app h3
  have c4 := set_app h4
  have so1 := span_ok (n := bf.length) (by have : pre.length ≤ l.length := by rw [h1]; simp
                                           omega)
  have so2 := span_ok (n := af.length) (by have : pre.length ≤ l.length := by rw [h1]; simp
                                           omega)
  simp only [garbA_cons, garbA_nil, setL_cons, setL_nil, List.set_cons_zero, List.set_cons_succ]
  cases po with
  | nil =>
    have e : (l.length : Int) = (pre.length : Int) := by rw [h1, List.append_nil]
    have e0 : l.length = pre.length := by rw [h1, List.append_nil]
    have hh : Hold (bf ++ (s1, s2) :: af = R) := ⟨h8⟩
    have hs := spans_snoc bf (s1, s2)
    simp only at hs
    clear h1 h8
    have d3 := at_set h3
    have d4 := at_set_ne h4 (b := 2) (by decide)
    have d5 : ∀ x y X, (S.set 2 x ++ X).set 2 y = S.set 2 y ++ X := fun x y X => by
      rw [List.set_append_left _ _ (by simpa using (List.getElem?_eq_some_iff.1 h3).1), List.set_set]
    have so3 := span_ok2 (n := bf.length + 1) (m := af.length) (by omega)
    have ta : (spans af).take af.length = spans af := by rw [← spans_len af]; exact List.take_length
    have ws1 : w1 ≤ bf.length + 1 := by omega
    have hs2 : spans (bf ++ [(s1, s2)]) ++ spans af = spans (bf ++ (s1, s2) :: af) := by rw [← spans_app]; simp
    have hs3 : af = [] → bf ++ [(s1, s2)] = bf ++ (s1, s2) :: af := fun e => by rw [e]
    have hl5 : (bf ++ (s1, s2) :: af).length = bf.length + 1 + af.length := by simp; omega
    by_cases haf : af.length = 0
    · have haf' : af = [] := List.eq_nil_of_length_eq_zero haf
      subst haf'
      clear hs3 hs2 hl5 ta so2 so3 haf
      have sn : spans [] = [] := rfl
      have h7' : w2 ≤ 0 := h7
      repeat' (first | refine go1 ?_ | refine blockK_else rfl ?_ | (refine wpC_cond fun A B hA hB => ?_; simp only [go_sem, reduceIte, Nat.reduceAdd, Nat.reduceEqDiff, Nat.reduceLT, Nat.reduceLeDiff, *, wpK_append ty30 rfl, wpK_assignN ty30 rfl, wpK_buildSlice ty30 rfl, lenK_sls hv, e, Int.lt_irrefl, a2, a3, a4, c3, c4, d3, d4, d5, Nat.zero_le, Nat.add_zero, getElem?_len, getElem?_lenAdd, set_len, List.append_assoc, List.length_append, spans_len, hs, snap_sl, rowsOf_sl, ints_len, ints_take, List.take_length, Nat.zero_le, Nat.zero_add, Bool.true_or, sn]; first | (refine hA.out ?_; clear hA hB A B) | (refine hB.out ?_; clear hA hB A B) | (refine iteI (fun h => hA.out ?_) (fun h => hB.out ?_) <;> clear hA hB A B) | (refine iteI (fun h => hB.out ?_) (fun h => hA.out ?_) <;> clear hA hB A B)) | (refine wpO_cons fun K hK => ?_; simp only [go_sem, reduceIte, Nat.reduceAdd, Nat.reduceEqDiff, Nat.reduceLT, Nat.reduceLeDiff, *, wpK_append ty30 rfl, wpK_assignN ty30 rfl, wpK_buildSlice ty30 rfl, lenK_sls hv, e, Int.lt_irrefl, a2, a3, a4, c3, c4, d3, d4, d5, Nat.zero_le, Nat.add_zero, getElem?_len, getElem?_lenAdd, set_len, List.append_assoc, List.length_append, spans_len, hs, snap_sl, rowsOf_sl, ints_len, ints_take, List.take_length, Nat.zero_le, Nat.zero_add, Bool.true_or, sn]; first | (refine hK.out _ _ ?_; clear hK K) | (refine iteI (fun h => hK.out _ _ ?_) (fun h => hK.out _ _ ?_) <;> clear hK K)))
      simp only [resultsR, resultsL, resultA, expK_int, expK_bool, expK_str, expK_agg, expK_own, expK_tsl, resK_some, go_sem, reduceIte, Nat.reduceAdd, Nat.reduceEqDiff, Nat.reduceLT, Nat.reduceLeDiff, wpK_append ty30 rfl, wpK_assignN ty30 rfl, wpK_buildSlice ty30 rfl, d3, spans_len, List.length_append]
      rw [← hh.out]; simp; omega
    · clear hs3
      repeat' (first | refine go1 ?_ | refine blockK_else rfl ?_ | (refine wpC_cond fun A B hA hB => ?_; simp only [go_sem, reduceIte, Nat.reduceAdd, Nat.reduceEqDiff, Nat.reduceLT, Nat.reduceLeDiff, *, wpK_append ty30 rfl, wpK_assignN ty30 rfl, wpK_buildSlice ty30 rfl, lenK_sls hv, e, Int.lt_irrefl, a2, a3, a4, c3, c4, d3, d4, d5, Nat.zero_le, getElem?_len, getElem?_lenAdd, set_len, List.append_assoc, List.length_append, spans_len, hs, snap_sl, rowsOf_sl, ints_len, ints_take, List.take_length, Nat.zero_le, Nat.zero_add, Bool.true_or, ta]; first | (refine hA.out ?_; clear hA hB A B) | (refine hB.out ?_; clear hA hB A B) | (refine iteI (fun h => hA.out ?_) (fun h => hB.out ?_) <;> clear hA hB A B) | (refine iteI (fun h => hB.out ?_) (fun h => hA.out ?_) <;> clear hA hB A B)) | (refine wpO_cons fun K hK => ?_; simp only [go_sem, reduceIte, Nat.reduceAdd, Nat.reduceEqDiff, Nat.reduceLT, Nat.reduceLeDiff, *, wpK_append ty30 rfl, wpK_assignN ty30 rfl, wpK_buildSlice ty30 rfl, lenK_sls hv, e, Int.lt_irrefl, a2, a3, a4, c3, c4, d3, d4, d5, Nat.zero_le, getElem?_len, getElem?_lenAdd, set_len, List.append_assoc, List.length_append, spans_len, hs, snap_sl, rowsOf_sl, ints_len, ints_take, List.take_length, Nat.zero_le, Nat.zero_add, Bool.true_or, ta]; first | (refine hK.out _ _ ?_; clear hK K) | (refine iteI (fun h => hK.out _ _ ?_) (fun h => hK.out _ _ ?_) <;> clear hK K)))
      simp only [resultsR, resultsL, resultA, expK_int, expK_bool, expK_str, expK_agg, expK_own, expK_tsl, resK_some, go_sem, reduceIte, Nat.reduceAdd, Nat.reduceEqDiff, Nat.reduceLT, Nat.reduceLeDiff, wpK_append ty30 rfl, wpK_assignN ty30 rfl, wpK_buildSlice ty30 rfl, d3, spans_len, hl5]
      rw [← hh.out]; simp; omega
  | cons x po =>
  have lta : (pre.length : Int) < (l.length : Int) := by rw [h1]; simp; omega
  have lta' : pre.length < l.length := by omega
  have i1 := idx_sls hv (X := CX) ty30 ty23 rfl (n := pre.length) (row := [.int .i64 x.1, .int .i64 x.2]) (spans_get (by rw [h1]; simp)) (k := .i64)
  have n1 := wrap_succ (n := pre.length) (by omega)
  have hh1 : Hold (l = (pre ++ [x]) ++ po) := ⟨by rw [h1]; simp⟩
  have hh9 : Hold (bf.length + af.length ≤ pre.length) := ⟨h9⟩
  rw [insGo] at h8
  clear h1 h9
  by_cases hc : x.2 < s1
  · rw [if_pos hc] at h8
    have hh2 : Hold (insGo (bf ++ [x]) af (s1, s2) po = R) := ⟨h8⟩
    have hs := spans_snoc bf x
    have b2 := at_set_ne h2 (b := 2) (by decide)
    have b3 := at_set h3
    have b4 := at_set_ne h4 (b := 2) (by decide)
    clear h8
    repeat' (first | refine go1 ?_ | refine blockK_else rfl ?_ | (refine wpC_cond fun A B hA hB => ?_; simp only [go_sem, reduceIte, Nat.reduceAdd, Nat.reduceEqDiff, Nat.reduceLT, Nat.reduceLeDiff, *, wpK_append ty30 rfl, wpK_assignN ty30 rfl, wpK_buildSlice ty30 rfl, lenK_sls hv, i1, a2, a3, a4, c3, c4, n1, Nat.zero_le, getElem?_len, getElem?_lenAdd, set_len, List.append_assoc, List.length_append, spans_len, hs]; first | (refine hA.out ?_; clear hA hB A B) | (refine hB.out ?_; clear hA hB A B) | (refine iteI (fun h => hA.out ?_) (fun h => hB.out ?_) <;> clear hA hB A B) | (refine iteI (fun h => hB.out ?_) (fun h => hA.out ?_) <;> clear hA hB A B)) | (refine wpO_cons fun K hK => ?_; simp only [go_sem, reduceIte, Nat.reduceAdd, Nat.reduceEqDiff, Nat.reduceLT, Nat.reduceLeDiff, *, wpK_append ty30 rfl, wpK_assignN ty30 rfl, wpK_buildSlice ty30 rfl, lenK_sls hv, i1, a2, a3, a4, c3, c4, n1, Nat.zero_le, getElem?_len, getElem?_lenAdd, set_len, List.append_assoc, List.length_append, spans_len, hs]; first | (refine hK.out _ _ ?_; clear hK K) | (refine iteI (fun h => hK.out _ _ ?_) (fun h => hK.out _ _ ?_) <;> clear hK K)))
    refine loopF_next (pre ++ [x], po, bf ++ [x], af, (s1, s2), w0, w1, w2, _) (by simp only [List.length_cons]; omega) ⟨hh1.out, b2 _ _, b3 _ _, b4 _ _, h5, ?_, h7, hh2.out, ?_⟩ ?_ ⟨[], rfl⟩
    · simp only [List.length_append, List.length_cons, List.length_nil]; omega
    · have := hh9.out; simp only [List.length_append, List.length_cons, List.length_nil]; omega
    · ((try simp only [eraseA_cons, eraseA_nil, setL_cons, setL_nil, List.set_cons_zero, List.set_cons_succ]); all_goals (first | rfl | (simp only [len_snoc, ints_len, List.length_map, ]; done) | (simp only [len_snoc, len_mid, ints_len, List.length_map, List.length_append, List.length_cons, List.length_nil, Nat.zero_add, ]; done) | (simp only [len_mid, len_snoc, ints_len, List.length_map, List.length_append, List.length_cons, List.length_nil, Nat.zero_add, ]; rfl)))
  rw [if_neg hc] at h8
  by_cases hd : s2 < x.1
  · rw [if_pos hd] at h8
    have hh2 : Hold (insGo bf (af ++ [x]) (s1, s2) po = R) := ⟨h8⟩
    have hs := spans_snoc af x
    have b2 := at_set_ne h2 (b := 3) (by decide)
    have b3 := at_set_ne h3 (b := 3) (by decide)
    have b4 := at_set h4
    clear h8
    repeat' (first | refine go1 ?_ | refine blockK_else rfl ?_ | (refine wpC_cond fun A B hA hB => ?_; simp only [go_sem, reduceIte, Nat.reduceAdd, Nat.reduceEqDiff, Nat.reduceLT, Nat.reduceLeDiff, *, wpK_append ty30 rfl, wpK_assignN ty30 rfl, wpK_buildSlice ty30 rfl, lenK_sls hv, i1, a2, a3, a4, c3, c4, n1, Nat.zero_le, getElem?_len, getElem?_lenAdd, set_len, List.append_assoc, List.length_append, spans_len, hs]; first | (refine hA.out ?_; clear hA hB A B) | (refine hB.out ?_; clear hA hB A B) | (refine iteI (fun h => hA.out ?_) (fun h => hB.out ?_) <;> clear hA hB A B) | (refine iteI (fun h => hB.out ?_) (fun h => hA.out ?_) <;> clear hA hB A B)) | (refine wpO_cons fun K hK => ?_; simp only [go_sem, reduceIte, Nat.reduceAdd, Nat.reduceEqDiff, Nat.reduceLT, Nat.reduceLeDiff, *, wpK_append ty30 rfl, wpK_assignN ty30 rfl, wpK_buildSlice ty30 rfl, lenK_sls hv, i1, a2, a3, a4, c3, c4, n1, Nat.zero_le, getElem?_len, getElem?_lenAdd, set_len, List.append_assoc, List.length_append, spans_len, hs]; first | (refine hK.out _ _ ?_; clear hK K) | (refine iteI (fun h => hK.out _ _ ?_) (fun h => hK.out _ _ ?_) <;> clear hK K)))
    refine loopF_next (pre ++ [x], po, bf, af ++ [x], (s1, s2), w0, w1, w2, _) (by simp only [List.length_cons]; omega) ⟨hh1.out, b2 _ _, b3 _ _, b4 _ _, h5, h6, ?_, hh2.out, ?_⟩ ?_ ⟨[], rfl⟩
    · simp only [List.length_append, List.length_cons, List.length_nil]; omega
    · have := hh9.out; simp only [List.length_append, List.length_cons, List.length_nil]; omega
    · ((try simp only [eraseA_cons, eraseA_nil, setL_cons, setL_nil, List.set_cons_zero, List.set_cons_succ]); all_goals (first | rfl | (simp only [len_snoc, ints_len, List.length_map, ]; done) | (simp only [len_snoc, len_mid, ints_len, List.length_map, List.length_append, List.length_cons, List.length_nil, Nat.zero_add, ]; done) | (simp only [len_mid, len_snoc, ints_len, List.length_map, List.length_append, List.length_cons, List.length_nil, Nat.zero_add, ]; rfl)))
  · rw [if_neg hd] at h8
    have hh2 : Hold (insGo bf af (min s1 x.1, max s2 x.2) po = R) := ⟨h8⟩
    have b2 : ∀ y, (S.set 0 y)[0]? = some y := fun y => by have := at_set h2 y []; rwa [List.append_nil] at this
    have b3 : ∀ y, (S.set 0 y)[2]? = some (.arr (spans bf) 2 w1 true) := fun y => by have := at_set_ne h3 (b := 0) (by decide) y []; rwa [List.append_nil] at this
    have b4 : ∀ y, (S.set 0 y)[3]? = some (.arr (spans af) 2 w2 true) := fun y => by have := at_set_ne h4 (b := 0) (by decide) y []; rwa [List.append_nil] at this
    clear h8
    repeat' (first | refine go1 ?_ | refine blockK_else rfl ?_ | (refine wpC_cond fun A B hA hB => ?_; simp only [go_sem, reduceIte, Nat.reduceAdd, Nat.reduceEqDiff, Nat.reduceLT, Nat.reduceLeDiff, *, wpK_append ty30 rfl, wpK_assignN ty30 rfl, wpK_buildSlice ty30 rfl, lenK_sls hv, i1, a2, a3, a4, c3, c4, n1, max_if, min_if, Nat.zero_le, getElem?_len, getElem?_lenAdd, set_len, List.append_assoc, List.length_append, spans_len]; first | (refine hA.out ?_; clear hA hB A B) | (refine hB.out ?_; clear hA hB A B) | (refine iteI (fun h => hA.out ?_) (fun h => hB.out ?_) <;> clear hA hB A B) | (refine iteI (fun h => hB.out ?_) (fun h => hA.out ?_) <;> clear hA hB A B)) | (refine wpO_cons fun K hK => ?_; simp only [go_sem, reduceIte, Nat.reduceAdd, Nat.reduceEqDiff, Nat.reduceLT, Nat.reduceLeDiff, *, wpK_append ty30 rfl, wpK_assignN ty30 rfl, wpK_buildSlice ty30 rfl, lenK_sls hv, i1, a2, a3, a4, c3, c4, n1, max_if, min_if, Nat.zero_le, getElem?_len, getElem?_lenAdd, set_len, List.append_assoc, List.length_append, spans_len]; first | (refine hK.out _ _ ?_; clear hK K) | (refine iteI (fun h => hK.out _ _ ?_) (fun h => hK.out _ _ ?_) <;> clear hK K)))
    refine loopF_next (pre ++ [x], po, bf, af, (min s1 x.1, max s2 x.2), 1, w1, w2, _) (by simp only [List.length_cons]; omega) ⟨hh1.out, b2 _, b3 _, b4 _, Nat.le_refl _, h6, h7, hh2.out, ?_⟩ ?_ ⟨[], rfl⟩
    · have := hh9.out; simp only [List.length_append, List.length_cons, List.length_nil]; omega
    · ((try simp only [eraseA_cons, eraseA_nil, setL_cons, setL_nil, List.set_cons_zero, List.set_cons_succ]); all_goals (first | rfl | (simp only [len_snoc, ints_len, List.length_map, ]; done) | (simp only [len_snoc, len_mid, ints_len, List.length_map, List.length_append, List.length_cons, List.length_nil, Nat.zero_add, ]; done) | (simp only [len_mid, len_snoc, ints_len, List.length_map, List.length_append, List.length_cons, List.length_nil, Nat.zero_add, ]; rfl)))

theorem uniStep_len (out : List El) (x : El) : (if rgt x = true then insS out x else out).length ≤ out.length + 1 := by
  split
  · exact insS_len _ _
  · omega

theorem unionR (v : AV) (l : List El) (hv : SLs 2 (spans l) v) (hl : l.length ≤ 1000000) : EvV CX 22 [v] (· = .osl 2 (spans (uniR l))) := by
  unfold uniR
  obtain ⟨R, hR⟩ : ∃ R, l.foldl (fun out x => if rgt x = true then insS out x else out) [] = R := ⟨_, rfl⟩
  rw [hR]
  refine EvV.walk rfl fn22 rfl nt22 rfl ?_
  simp only [List.length_cons, List.length_nil, List.cons_append, List.nil_append, Nat.reduceAdd, Nat.reduceSub, List.replicate]
  repeat' (first | refine go1 ?_ | refine blockK_else rfl ?_ | (refine wpO_cons fun K hK => ?_; simp only [go_sem, reduceIte, Nat.reduceAdd, Nat.reduceEqDiff, Nat.reduceLT, Nat.reduceLeDiff, *, wpK_assignN ty30 rfl, wpK_buildSlice ty30 rfl, ]; first | (refine hK.out _ _ ?_; clear hK K) | (refine iteI (fun h => hK.out _ _ ?_) (fun h => hK.out _ _ ?_) <;> clear hK K)))
  refine wpC_loopF [6, 7, 8, 9, 10, 11, 12, 13, 14, 15, 16, 17, 18, 19, 20, 21, 22] (fun p : List El × List El × List El × Nat × Store => [(3, .sl p.2.2.2.1 p.2.2.1.length 0 p.2.2.1.length 2), (4, .int .i64 p.1.length)]) (fun p _ => p.2.2.2.2)
    (fun p => l = p.1 ++ p.2.1 ∧ p.2.2.2.2[p.2.2.2.1]? = some (.arr (spans p.2.2.1) 2 0 true) ∧ p.2.1.foldl (fun out x => if rgt x = true then insS out x else out) p.2.2.1 = R ∧ p.2.2.1.length ≤ p.1.length)
    (fun p => p.2.1.length) ([], l, [], 1, _) ⟨rfl, rfl, hR, by simp⟩ ?_ ⟨[], rfl⟩ ?_
  · rfl
  clear hR
  rintro ⟨pre, po, out, b, S⟩ g G ⟨h1, h2, h3, h4⟩
  simp only at h1 h2 h3 h4
  simp only [garbA_cons, garbA_nil, setL_cons, setL_nil, List.set_cons_zero, List.set_cons_succ]
  cases po with
  | nil =>
    have e : (l.length : Int) = (pre.length : Int) := by rw [h1, List.append_nil]
    have hh : Hold (out = R) := ⟨h3⟩
    clear h1 h3
    repeat' (first | refine go1 ?_ | refine blockK_else rfl ?_ | (refine wpC_cond fun A B hA hB => ?_; simp only [go_sem, reduceIte, Nat.reduceAdd, Nat.reduceEqDiff, Nat.reduceLT, Nat.reduceLeDiff, *, wpK_assignN ty30 rfl, wpK_buildSlice ty30 rfl, lenK_sls hv, e, Int.lt_irrefl, spans_len]; first | (refine hA.out ?_; clear hA hB A B) | (refine hB.out ?_; clear hA hB A B) | (refine iteI (fun h => hA.out ?_) (fun h => hB.out ?_) <;> clear hA hB A B) | (refine iteI (fun h => hB.out ?_) (fun h => hA.out ?_) <;> clear hA hB A B)) | (refine wpO_cons fun K hK => ?_; simp only [go_sem, reduceIte, Nat.reduceAdd, Nat.reduceEqDiff, Nat.reduceLT, Nat.reduceLeDiff, *, wpK_assignN ty30 rfl, wpK_buildSlice ty30 rfl, lenK_sls hv, e, Int.lt_irrefl, spans_len]; first | (refine hK.out _ _ ?_; clear hK K) | (refine iteI (fun h => hK.out _ _ ?_) (fun h => hK.out _ _ ?_) <;> clear hK K)))
    simp only [resultsR, resultsL, resultA, expK_int, expK_bool, expK_str, expK_agg, expK_own, expK_tsl, resK_some, go_sem, reduceIte, Nat.reduceAdd, Nat.reduceEqDiff, Nat.reduceLT, Nat.reduceLeDiff, wpK_assignN ty30 rfl, wpK_buildSlice ty30 rfl, h2, spans_len, Nat.zero_le]
    rw [hh.out]; rfl
  | cons x po =>
    have lta : (pre.length : Int) < (l.length : Int) := by rw [h1]; simp; omega
    have i1 := idx_sls hv (X := CX) ty30 ty23 rfl (n := pre.length) (row := [.int .i64 x.1, .int .i64 x.2]) (spans_get (by rw [h1]; simp)) (k := .i64)
    have n1 := wrap_succ (n := pre.length) (by omega)
    have hh1 : Hold (l = (pre ++ [x]) ++ po) := ⟨by rw [h1]; simp⟩
    have a2 := at_app h2
    have q1 := (rightR x).rw
    have q2 := (insertR (.tsl false 2 (spans out)) out x (.rows false) (by omega)).rw
    have il := insS_len out x
    have to : (spans out).take out.length = spans out := by rw [← spans_len out]; exact List.take_length
    rw [List.foldl_cons] at h3
    simp only [encE] at q1 q2
    clear h1
    by_cases hr : rgt x = true
    · rw [if_pos hr] at h3
      rw [hr] at q1
      have hh2 : Hold (po.foldl (fun out x => if rgt x = true then insS out x else out) (insS out x) = R) := ⟨h3⟩
      clear h3 hr
      repeat' (first | refine go1 ?_ | refine blockK_else rfl ?_ | (refine wpC_cond fun A B hA hB => ?_; simp only [go_sem, reduceIte, Nat.reduceAdd, Nat.reduceEqDiff, Nat.reduceLT, Nat.reduceLeDiff, *, wpK_assignN ty30 rfl, wpK_buildSlice ty30 rfl, lenK_sls hv, i1, a2, q1, q2, n1, Nat.zero_le, getElem?_len, getElem?_lenAdd, set_len, List.append_assoc, List.length_append, spans_len, snap_sl, rowsOf_sl, ints_len, ints_take, List.take_length, Nat.zero_le, Nat.zero_add, Bool.true_or, to]; first | (refine hA.out ?_; clear hA hB A B) | (refine hB.out ?_; clear hA hB A B) | (refine iteI (fun h => hA.out ?_) (fun h => hB.out ?_) <;> clear hA hB A B) | (refine iteI (fun h => hB.out ?_) (fun h => hA.out ?_) <;> clear hA hB A B)) | (refine wpO_cons fun K hK => ?_; simp only [go_sem, reduceIte, Nat.reduceAdd, Nat.reduceEqDiff, Nat.reduceLT, Nat.reduceLeDiff, *, wpK_assignN ty30 rfl, wpK_buildSlice ty30 rfl, lenK_sls hv, i1, a2, q1, q2, n1, Nat.zero_le, getElem?_len, getElem?_lenAdd, set_len, List.append_assoc, List.length_append, spans_len, snap_sl, rowsOf_sl, ints_len, ints_take, List.take_length, Nat.zero_le, Nat.zero_add, Bool.true_or, to]; first | (refine hK.out _ _ ?_; clear hK K) | (refine iteI (fun h => hK.out _ _ ?_) (fun h => hK.out _ _ ?_) <;> clear hK K)))
      refine loopF_next (pre ++ [x], po, insS out x, S.length, _) (by simp only [List.length_cons]; omega) ⟨hh1.out, by simp only; rw [getElem?_len]; rfl, hh2.out, ?_⟩ ?_ ⟨[], rfl⟩
      · (try simp only [len_snoc]); omega
      · ((try simp only [eraseA_cons, eraseA_nil, setL_cons, setL_nil, List.set_cons_zero, List.set_cons_succ]); all_goals (first | rfl | (simp only [len_snoc, ints_len, List.length_map, ]; done) | (simp only [len_snoc, len_mid, ints_len, List.length_map, List.length_append, List.length_cons, List.length_nil, Nat.zero_add, ]; done) | (simp only [len_mid, len_snoc, ints_len, List.length_map, List.length_append, List.length_cons, List.length_nil, Nat.zero_add, ]; rfl)))
    · have hr' : rgt x = false := by simpa using hr
      rw [if_neg hr] at h3
      rw [hr'] at q1
      have hh2 : Hold (po.foldl (fun out x => if rgt x = true then insS out x else out) out = R) := ⟨h3⟩
      clear h3 hr hr'
      repeat' (first | refine go1 ?_ | refine blockK_else rfl ?_ | (refine wpC_cond fun A B hA hB => ?_; simp only [go_sem, reduceIte, Nat.reduceAdd, Nat.reduceEqDiff, Nat.reduceLT, Nat.reduceLeDiff, *, wpK_assignN ty30 rfl, wpK_buildSlice ty30 rfl, lenK_sls hv, i1, a2, q1, q2, n1, Nat.zero_le, getElem?_len, getElem?_lenAdd, set_len, List.append_assoc, List.length_append, spans_len, snap_sl, rowsOf_sl, ints_len, ints_take, List.take_length, Nat.zero_le, Nat.zero_add, Bool.true_or, to]; first | (refine hA.out ?_; clear hA hB A B) | (refine hB.out ?_; clear hA hB A B) | (refine iteI (fun h => hA.out ?_) (fun h => hB.out ?_) <;> clear hA hB A B) | (refine iteI (fun h => hB.out ?_) (fun h => hA.out ?_) <;> clear hA hB A B)) | (refine wpO_cons fun K hK => ?_; simp only [go_sem, reduceIte, Nat.reduceAdd, Nat.reduceEqDiff, Nat.reduceLT, Nat.reduceLeDiff, *, wpK_assignN ty30 rfl, wpK_buildSlice ty30 rfl, lenK_sls hv, i1, a2, q1, q2, n1, Nat.zero_le, getElem?_len, getElem?_lenAdd, set_len, List.append_assoc, List.length_append, spans_len, snap_sl, rowsOf_sl, ints_len, ints_take, List.take_length, Nat.zero_le, Nat.zero_add, Bool.true_or, to]; first | (refine hK.out _ _ ?_; clear hK K) | (refine iteI (fun h => hK.out _ _ ?_) (fun h => hK.out _ _ ?_) <;> clear hK K)))
      refine loopF_next (pre ++ [x], po, out, b, _) (by simp only [List.length_cons]; omega) ⟨hh1.out, h2, hh2.out, ?_⟩ ?_ ⟨[], rfl⟩
      · (try simp only [len_snoc]); omega
      · ((try simp only [eraseA_cons, eraseA_nil, setL_cons, setL_nil, List.set_cons_zero, List.set_cons_succ]); all_goals (first | rfl | (simp only [len_snoc, ints_len, List.length_map, ]; done) | (simp only [len_snoc, len_mid, ints_len, List.length_map, List.length_append, List.length_cons, List.length_nil, Nat.zero_add, ]; done) | (simp only [len_mid, len_snoc, ints_len, List.length_map, List.length_append, List.length_cons, List.length_nil, Nat.zero_add, ]; rfl)))

/- The reference's lists of spans: Both, without, Minus, Covers, Total, Same. -/
open Go.Proofs
attribute [local go_sem] allocK fz34 fz35 fz36 fz37 fz57
set_option maxRecDepth 20000
set_option maxHeartbeats 4000000

theorem sameR (v w : AV) (l m : List El) (hv : SLs 2 (spans l) v) (hw : SLs 2 (spans m) w) (hl : l.length < 9223372036854775807) : EvV CX 19 [v, w] (· = .bool (decide (l = m))) := by
  by_cases hlen : l.length = m.length
  · have hlen' : ((l.length : Int) == (m.length : Int)) = true := by simp [hlen]
    have hh0 : Hold (l.length = m.length) := ⟨hlen⟩
    clear hlen
    refine EvV.walk rfl fn19 rfl nt19 rfl ?_
    simp only [List.length_cons, List.length_nil, List.cons_append, List.nil_append, Nat.reduceAdd, Nat.reduceSub, List.replicate]
    repeat' (first | refine go1 ?_ | refine blockK_else rfl ?_ | (refine wpO_cons fun K hK => ?_; simp only [go_sem, reduceIte, Nat.reduceAdd, Nat.reduceEqDiff, Nat.reduceLT, Nat.reduceLeDiff, *, and_self, lenK_sls hv, lenK_sls hw, spans_len]; first | (refine hK.out _ _ ?_; clear hK K) | (refine iteI (fun h => hK.out _ _ ?_) (fun h => hK.out _ _ ?_) <;> clear hK K)))
    (refine wpC_cond fun A B hA hB => ?_; simp only [go_sem, reduceIte, Nat.reduceAdd, Nat.reduceEqDiff, Nat.reduceLT, Nat.reduceLeDiff, *, and_self, ]; first | (refine hA.out ?_; clear hA hB A B) | (refine hB.out ?_; clear hA hB A B))
    repeat' (first | refine go1 ?_ | refine blockK_else rfl ?_ | (refine wpO_cons fun K hK => ?_; simp only [go_sem, reduceIte, Nat.reduceAdd, Nat.reduceEqDiff, Nat.reduceLT, Nat.reduceLeDiff, *, and_self, ]; first | (refine hK.out _ _ ?_; clear hK K) | (refine iteI (fun h => hK.out _ _ ?_) (fun h => hK.out _ _ ?_) <;> clear hK K)))
    refine wpC_loopF [4, 11, 12, 13, 14, 15, 16, 17, 18, 19, 20, 21, 22, 23, 24, 25] (fun p : List El × List El × List El => [(5, .int .i64 p.1.length)]) (fun p G => G)
      (fun p => l = p.1 ++ p.2.1 ∧ m = p.1 ++ p.2.2) (fun p => p.2.1.length) ([], l, m) ⟨rfl, rfl⟩ ?_ ⟨_, rfl⟩ ?_
    · rfl
    rintro ⟨pre, po, pm⟩ g G ⟨h1, h2⟩
    simp only at h1 h2
    have hpl : po.length = pm.length := by have := hh0.out; rw [h1, h2] at this; simpa using this
    simp only [garbA_cons, garbA_nil, setL_cons, setL_nil, List.set_cons_zero, List.set_cons_succ]
    cases po with
    | nil =>
      have e : (l.length : Int) = (pre.length : Int) := by rw [h1, List.append_nil]
      have hh : Hold (l = m) := ⟨by rw [h1, h2, List.eq_nil_of_length_eq_zero hpl.symm]⟩
      clear h1 h2 hlen'
      repeat' (first | refine go1 ?_ | refine blockK_else rfl ?_ | (refine wpC_cond fun A B hA hB => ?_; simp only [go_sem, reduceIte, Nat.reduceAdd, Nat.reduceEqDiff, Nat.reduceLT, Nat.reduceLeDiff, *, and_self, lenK_sls hv, e, Int.lt_irrefl, spans_len]; first | (refine hA.out ?_; clear hA hB A B) | (refine hB.out ?_; clear hA hB A B) | (refine iteI (fun h => hA.out ?_) (fun h => hB.out ?_) <;> clear hA hB A B) | (refine iteI (fun h => hB.out ?_) (fun h => hA.out ?_) <;> clear hA hB A B)) | (refine wpO_cons fun K hK => ?_; simp only [go_sem, reduceIte, Nat.reduceAdd, Nat.reduceEqDiff, Nat.reduceLT, Nat.reduceLeDiff, *, and_self, lenK_sls hv, e, Int.lt_irrefl, spans_len]; first | (refine hK.out _ _ ?_; clear hK K) | (refine iteI (fun h => hK.out _ _ ?_) (fun h => hK.out _ _ ?_) <;> clear hK K)))
      simp only [resultsR, resultsL, resultA, expK_int, expK_bool, expK_str, expK_agg, expK_own, expK_tsl, resK_some, go_sem, reduceIte, Nat.reduceAdd, Nat.reduceEqDiff, Nat.reduceLT, Nat.reduceLeDiff, and_self, ]
      simp [hh.out]
    | cons x po =>
      cases pm with
      | nil => simp at hpl
      | cons y pm =>
        have lta : (pre.length : Int) < (l.length : Int) := by rw [h1]; simp; omega
        have i1 := idx_sls hv (X := CX) ty30 ty23 rfl (n := pre.length) (row := [.int .i64 x.1, .int .i64 x.2]) (spans_get (by rw [h1]; simp)) (k := .i64)
        have i2 := idx_sls hw (X := CX) ty30 ty23 rfl (n := pre.length) (row := [.int .i64 y.1, .int .i64 y.2]) (spans_get (by rw [h2]; simp)) (k := .i64)
        have n1 := wrap_succ (n := pre.length) (by omega)
        by_cases hxy : x = y
        · subst hxy
          have hh1 : Hold (l = (pre ++ [x]) ++ po ∧ m = (pre ++ [x]) ++ pm) := ⟨by rw [h1]; simp, by rw [h2]; simp⟩
          clear h1 h2 hlen' hpl
          repeat' (first | refine go1 ?_ | refine blockK_else rfl ?_ | (refine wpC_cond fun A B hA hB => ?_; simp only [go_sem, reduceIte, Nat.reduceAdd, Nat.reduceEqDiff, Nat.reduceLT, Nat.reduceLeDiff, *, and_self, lenK_sls hv, spans_len, i1, i2, n1, beq_self_eq_true]; first | (refine hA.out ?_; clear hA hB A B) | (refine hB.out ?_; clear hA hB A B) | (refine iteI (fun h => hA.out ?_) (fun h => hB.out ?_) <;> clear hA hB A B) | (refine iteI (fun h => hB.out ?_) (fun h => hA.out ?_) <;> clear hA hB A B)) | (refine wpO_cons fun K hK => ?_; simp only [go_sem, reduceIte, Nat.reduceAdd, Nat.reduceEqDiff, Nat.reduceLT, Nat.reduceLeDiff, *, and_self, lenK_sls hv, spans_len, i1, i2, n1, beq_self_eq_true]; first | (refine hK.out _ _ ?_; clear hK K) | (refine iteI (fun h => hK.out _ _ ?_) (fun h => hK.out _ _ ?_) <;> clear hK K)))
          refine loopF_next (pre ++ [x], po, pm) (by simp only [List.length_cons]; omega) hh1.out ?_ ⟨_, rfl⟩
          ((try simp only [eraseA_cons, eraseA_nil, setL_cons, setL_nil, List.set_cons_zero, List.set_cons_succ]); all_goals (first | rfl | (simp only [len_snoc, ints_len, List.length_map, ]; done) | (simp only [len_snoc, len_mid, ints_len, List.length_map, List.length_append, List.length_cons, List.length_nil, Nat.zero_add, ]; done) | (simp only [len_mid, len_snoc, ints_len, List.length_map, List.length_append, List.length_cons, List.length_nil, Nat.zero_add, ]; rfl)))
        · have hh1 : Hold (¬ l = m) := ⟨by rw [h1, h2]; simp [hxy]⟩
          have hb : ((x.1 == y.1) && (x.2 == y.2)) = false := by
            cases hq : ((x.1 == y.1) && (x.2 == y.2)) with
            | false => rfl
            | true => simp at hq; exact absurd (Prod.ext hq.1 hq.2) hxy
          clear h1 h2 hlen' hpl hxy
          repeat' (first | refine go1 ?_ | refine blockK_else rfl ?_ | (refine wpC_cond fun A B hA hB => ?_; simp only [go_sem, reduceIte, Nat.reduceAdd, Nat.reduceEqDiff, Nat.reduceLT, Nat.reduceLeDiff, *, and_self, lenK_sls hv, spans_len, i1, i2, n1, hb]; first | (refine hA.out ?_; clear hA hB A B) | (refine hB.out ?_; clear hA hB A B) | (refine iteI (fun h => hA.out ?_) (fun h => hB.out ?_) <;> clear hA hB A B) | (refine iteI (fun h => hB.out ?_) (fun h => hA.out ?_) <;> clear hA hB A B)) | (refine wpO_cons fun K hK => ?_; simp only [go_sem, reduceIte, Nat.reduceAdd, Nat.reduceEqDiff, Nat.reduceLT, Nat.reduceLeDiff, *, and_self, lenK_sls hv, spans_len, i1, i2, n1, hb]; first | (refine hK.out _ _ ?_; clear hK K) | (refine iteI (fun h => hK.out _ _ ?_) (fun h => hK.out _ _ ?_) <;> clear hK K)))
          simp only [resultsR, resultsL, resultA, expK_int, expK_bool, expK_str, expK_agg, expK_own, expK_tsl, resK_some, go_sem, reduceIte, Nat.reduceAdd, Nat.reduceEqDiff, Nat.reduceLT, Nat.reduceLeDiff, and_self, ]
          simp [hh1.out]
  · have hlen' : ((l.length : Int) == (m.length : Int)) = false := by simp; omega
    have hne : ¬ l = m := fun e => hlen (by rw [e])
    have hh0 : Hold (¬ l = m) := ⟨hne⟩
    clear hlen hne
    refine EvV.walk rfl fn19 rfl nt19 rfl ?_
    simp only [List.length_cons, List.length_nil, List.cons_append, List.nil_append, Nat.reduceAdd, Nat.reduceSub, List.replicate]
    repeat' (first | refine go1 ?_ | refine blockK_else rfl ?_ | (refine wpC_cond fun A B hA hB => ?_; simp only [go_sem, reduceIte, Nat.reduceAdd, Nat.reduceEqDiff, Nat.reduceLT, Nat.reduceLeDiff, *, and_self, lenK_sls hv, lenK_sls hw, spans_len]; first | (refine hA.out ?_; clear hA hB A B) | (refine hB.out ?_; clear hA hB A B) | (refine iteI (fun h => hA.out ?_) (fun h => hB.out ?_) <;> clear hA hB A B) | (refine iteI (fun h => hB.out ?_) (fun h => hA.out ?_) <;> clear hA hB A B)) | (refine wpO_cons fun K hK => ?_; simp only [go_sem, reduceIte, Nat.reduceAdd, Nat.reduceEqDiff, Nat.reduceLT, Nat.reduceLeDiff, *, and_self, lenK_sls hv, lenK_sls hw, spans_len]; first | (refine hK.out _ _ ?_; clear hK K) | (refine iteI (fun h => hK.out _ _ ?_) (fun h => hK.out _ _ ?_) <;> clear hK K)))
    simp only [resultsR, resultsL, resultA, expK_int, expK_bool, expK_str, expK_agg, expK_own, expK_tsl, resK_some, go_sem, reduceIte, Nat.reduceAdd, Nat.reduceEqDiff, Nat.reduceLT, Nat.reduceLeDiff, and_self, ]
    simp [hh0.out]

theorem wo1_len (s x : El) : (wo1 s x).length ≤ 2 := by
  unfold wo1; split <;> split <;> simp
theorem wo_len (s : El) : ∀ l : List El, (wo l s).length ≤ 2 * l.length
  | [] => by simp [wo]
  | x :: l => by
    have h1 := wo_len s l
    have h2 := wo1_len s x
    have e : wo (x :: l) s = wo1 s x ++ wo l s := rfl
    rw [e, List.length_append, List.length_cons]; omega

theorem withoutR (v : AV) (l : List El) (s : El) (hv : SLs 2 (spans l) v) (hl : l.length ≤ 2000000) : EvV CX 42 [v, .agg (encE s)] (· = .osl 2 (spans (wo l s))) := by
  obtain ⟨R, hR⟩ : ∃ R, wo l s = R := ⟨_, rfl⟩
  rw [hR]
  obtain ⟨s1, s2⟩ := s
  simp only [encE]
  refine EvV.walk rfl fn42 rfl nt42 rfl ?_
  simp only [List.length_cons, List.length_nil, List.cons_append, List.nil_append, Nat.reduceAdd, Nat.reduceSub, List.replicate]
  repeat' (first | refine go1 ?_ | refine blockK_else rfl ?_ | (refine wpO_cons fun K hK => ?_; simp only [go_sem, reduceIte, Nat.reduceAdd, Nat.reduceEqDiff, Nat.reduceLT, Nat.reduceLeDiff, *, wpK_append ty30 rfl, wpK_assignN ty30 rfl, wpK_buildSlice ty30 rfl, ]; first | (refine hK.out _ _ ?_; clear hK K) | (refine iteI (fun h => hK.out _ _ ?_) (fun h => hK.out _ _ ?_) <;> clear hK K)))
  refine wpC_loopF [7, 8, 10, 11, 12, 13, 14, 15, 16, 17, 18, 19, 20, 21, 22, 23, 24, 25, 26, 27, 28, 29, 30, 31, 32, 33, 34, 35, 36, 37, 38, 39, 40, 41, 42, 43, 44, 45, 46, 47, 48, 49, 50, 51, 52, 53, 54, 55] (fun p : List El × List El × List El × Nat × Store => [(5, .sl 2 p.2.2.1.length 0 p.2.2.1.length 2), (6, .int .i64 p.1.length)]) (fun p _ => p.2.2.2.2)
    (fun p => l = p.1 ++ p.2.1 ∧ p.2.2.2.2[0]? = some (.arr [[.int .i64 s1, .int .i64 s2]] 2 0 true) ∧ p.2.2.2.2[2]? = some (.arr (spans p.2.2.1) 2 p.2.2.2.1 true) ∧ p.2.2.2.1 ≤ p.2.2.1.length ∧ p.2.2.1 ++ wo p.2.1 (s1, s2) = R ∧ p.2.2.1.length ≤ 2 * p.1.length)
    (fun p => p.2.1.length) ([], l, [], 0, _) ⟨rfl, rfl, rfl, by simp, hR, by simp⟩ ?_ ⟨[], rfl⟩ ?_
  · rfl
  clear hR
  rintro ⟨pre, po, out, w0, S⟩ g G ⟨h1, h2, h3, h4, h5, h6⟩
  simp only at h1 h2 h3 h4 h5 h6
  simp only [garbA_cons, garbA_nil, setL_cons, setL_nil, List.set_cons_zero, List.set_cons_succ]
  cases po with
  | nil =>
    have e : (l.length : Int) = (pre.length : Int) := by rw [h1, List.append_nil]
    have hh : Hold (out = R) := ⟨by rw [← h5]; simp [wo]⟩
    clear h1 h5
    repeat' (first | refine go1 ?_ | refine blockK_else rfl ?_ | (refine wpC_cond fun A B hA hB => ?_; simp only [go_sem, reduceIte, Nat.reduceAdd, Nat.reduceEqDiff, Nat.reduceLT, Nat.reduceLeDiff, *, wpK_append ty30 rfl, wpK_assignN ty30 rfl, wpK_buildSlice ty30 rfl, lenK_sls hv, e, Int.lt_irrefl, spans_len]; first | (refine hA.out ?_; clear hA hB A B) | (refine hB.out ?_; clear hA hB A B) | (refine iteI (fun h => hA.out ?_) (fun h => hB.out ?_) <;> clear hA hB A B) | (refine iteI (fun h => hB.out ?_) (fun h => hA.out ?_) <;> clear hA hB A B)) | (refine wpO_cons fun K hK => ?_; simp only [go_sem, reduceIte, Nat.reduceAdd, Nat.reduceEqDiff, Nat.reduceLT, Nat.reduceLeDiff, *, wpK_append ty30 rfl, wpK_assignN ty30 rfl, wpK_buildSlice ty30 rfl, lenK_sls hv, e, Int.lt_irrefl, spans_len]; first | (refine hK.out _ _ ?_; clear hK K) | (refine iteI (fun h => hK.out _ _ ?_) (fun h => hK.out _ _ ?_) <;> clear hK K)))
    simp only [resultsR, resultsL, resultA, expK_int, expK_bool, expK_str, expK_agg, expK_own, expK_tsl, resK_some, go_sem, reduceIte, Nat.reduceAdd, Nat.reduceEqDiff, Nat.reduceLT, Nat.reduceLeDiff, wpK_append ty30 rfl, wpK_assignN ty30 rfl, wpK_buildSlice ty30 rfl, h3, spans_len]
    have h4' : w0 ≤ R.length := by rw [← hh.out]; exact h4
    rw [hh.out]
    first | rfl | (simp; done) | (simp; omega) | (simp [*]; done)
  | cons x po =>
    have lta : (pre.length : Int) < (l.length : Int) := by rw [h1]; simp; omega
    have i1 := idx_sls hv (X := CX) ty30 ty23 rfl (n := pre.length) (row := [.int .i64 x.1, .int .i64 x.2]) (spans_get (by rw [h1]; simp)) (k := .i64)
    have n1 := wrap_succ (n := pre.length) (by omega)
    have hh1 : Hold (l = (pre ++ [x]) ++ po) := ⟨by rw [h1]; simp⟩
    have hh2 : Hold (out.length ≤ 2 * pre.length) := ⟨h6⟩
    have a2 := at_app h2
    have a3 := at_app h3
    have c3 := set_app h3
    have b2 := at_set_ne h2 (b := 2) (by decide)
    have b3 := at_set h3
    have d5 : ∀ x y X, (S.set 2 x ++ X).set 2 y = S.set 2 y ++ X := fun x y X => by
      rw [List.set_append_left _ _ (by simpa using (List.getElem?_eq_some_iff.1 h3).1), List.set_set]
    have so := span_ok (n := out.length) (by omega)
    have so2 := span_ok2 (n := out.length + 1) (m := 1) (by omega)
    have q1 := (rightR (x.1, min x.2 s1)).rw
    have q2 := (rightR (max x.1 s2, x.2)).rw
    have e5 : wo (x :: po) (s1, s2) = wo1 (s1, s2) x ++ wo po (s1, s2) := rfl
    rw [e5, wo1] at h5
    simp only [encE] at q1 q2
    have hs1 := spans_snoc out (x.1, min x.2 s1)
    have hs2 := spans_snoc out (max x.1 s2, x.2)
    have hs3 := spans_snoc (out ++ [(x.1, min x.2 s1)]) (max x.1 s2, x.2)
    have ws : w0 ≤ out.length + 1 := by omega
    clear h1 h6 e5
    by_cases r1 : rgt (x.1, min x.2 s1) = true <;> by_cases r2 : rgt (max x.1 s2, x.2) = true
    · rw [if_pos r1, if_pos r2] at h5
      rw [r1] at q1
      rw [r2] at q2
      have hh3 : Hold (out ++ [(x.1, min x.2 s1), (max x.1 s2, x.2)] ++ wo po (s1, s2) = R) := ⟨by rw [← h5]; simp only [List.append_assoc, List.nil_append, List.cons_append]⟩
      clear h5 r1 r2
      repeat' (first | refine go1 ?_ | refine blockK_else rfl ?_ | (refine wpC_cond fun A B hA hB => ?_; simp only [go_sem, reduceIte, Nat.reduceAdd, Nat.reduceEqDiff, Nat.reduceLT, Nat.reduceLeDiff, *, wpK_append ty30 rfl, wpK_assignN ty30 rfl, wpK_buildSlice ty30 rfl, lenK_sls hv, i1, n1, a2, a3, c3, b2, b3, d5, q1, q2, hs1, hs2, hs3, max_if, min_if, set_lenAdd, List.set_cons_succ, List.getElem?_cons_succ, Nat.zero_le, at_new, at_newK, getElem?_len, getElem?_lenAdd, set_len, List.append_assoc, List.length_append, spans_len, snap_sl, rowsOf_sl, ints_len, ints_take, List.take_length, Nat.zero_le, Nat.zero_add, Bool.true_or]; first | (refine hA.out ?_; clear hA hB A B) | (refine hB.out ?_; clear hA hB A B) | (refine iteI (fun h => hA.out ?_) (fun h => hB.out ?_) <;> clear hA hB A B) | (refine iteI (fun h => hB.out ?_) (fun h => hA.out ?_) <;> clear hA hB A B)) | (refine wpO_cons fun K hK => ?_; simp only [go_sem, reduceIte, Nat.reduceAdd, Nat.reduceEqDiff, Nat.reduceLT, Nat.reduceLeDiff, *, wpK_append ty30 rfl, wpK_assignN ty30 rfl, wpK_buildSlice ty30 rfl, lenK_sls hv, i1, n1, a2, a3, c3, b2, b3, d5, q1, q2, hs1, hs2, hs3, max_if, min_if, set_lenAdd, List.set_cons_succ, List.getElem?_cons_succ, Nat.zero_le, at_new, at_newK, getElem?_len, getElem?_lenAdd, set_len, List.append_assoc, List.length_append, spans_len, snap_sl, rowsOf_sl, ints_len, ints_take, List.take_length, Nat.zero_le, Nat.zero_add, Bool.true_or]; first | (refine hK.out _ _ ?_; clear hK K) | (refine iteI (fun h => hK.out _ _ ?_) (fun h => hK.out _ _ ?_) <;> clear hK K)))
      refine loopF_next (pre ++ [x], po, out ++ [(x.1, min x.2 s1), (max x.1 s2, x.2)], w0, _) (by simp only [List.length_cons]; omega) ⟨hh1.out, b2 _ _, b3 _ _, ?_, hh3.out, ?_⟩ ?_ ⟨[], rfl⟩
      · simp only [List.length_append, List.length_cons, List.length_nil]; omega
      · have := hh2.out; simp only [List.length_append, List.length_cons, List.length_nil]; omega
      · ((try simp only [eraseA_cons, eraseA_nil, setL_cons, setL_nil, List.set_cons_zero, List.set_cons_succ]); all_goals (first | rfl | (simp only [len_snoc, ints_len, List.length_map, ]; done) | (simp only [len_snoc, len_mid, ints_len, List.length_map, List.length_append, List.length_cons, List.length_nil, Nat.zero_add, ]; done) | (simp only [len_mid, len_snoc, ints_len, List.length_map, List.length_append, List.length_cons, List.length_nil, Nat.zero_add, ]; rfl)))
    · rw [if_pos r1, if_neg r2] at h5
      rw [r1] at q1
      have r2' : rgt (max x.1 s2, x.2) = false := by simpa using r2
      rw [r2'] at q2
      clear r2'
      have hh3 : Hold (out ++ [(x.1, min x.2 s1)] ++ wo po (s1, s2) = R) := ⟨by rw [← h5]; simp only [List.append_assoc, List.nil_append, List.cons_append]⟩
      clear h5 r1 r2
      repeat' (first | refine go1 ?_ | refine blockK_else rfl ?_ | (refine wpC_cond fun A B hA hB => ?_; simp only [go_sem, reduceIte, Nat.reduceAdd, Nat.reduceEqDiff, Nat.reduceLT, Nat.reduceLeDiff, *, wpK_append ty30 rfl, wpK_assignN ty30 rfl, wpK_buildSlice ty30 rfl, lenK_sls hv, i1, n1, a2, a3, c3, b2, b3, d5, q1, q2, hs1, hs2, hs3, max_if, min_if, set_lenAdd, List.set_cons_succ, List.getElem?_cons_succ, Nat.zero_le, at_new, at_newK, getElem?_len, getElem?_lenAdd, set_len, List.append_assoc, List.length_append, spans_len, snap_sl, rowsOf_sl, ints_len, ints_take, List.take_length, Nat.zero_le, Nat.zero_add, Bool.true_or]; first | (refine hA.out ?_; clear hA hB A B) | (refine hB.out ?_; clear hA hB A B) | (refine iteI (fun h => hA.out ?_) (fun h => hB.out ?_) <;> clear hA hB A B) | (refine iteI (fun h => hB.out ?_) (fun h => hA.out ?_) <;> clear hA hB A B)) | (refine wpO_cons fun K hK => ?_; simp only [go_sem, reduceIte, Nat.reduceAdd, Nat.reduceEqDiff, Nat.reduceLT, Nat.reduceLeDiff, *, wpK_append ty30 rfl, wpK_assignN ty30 rfl, wpK_buildSlice ty30 rfl, lenK_sls hv, i1, n1, a2, a3, c3, b2, b3, d5, q1, q2, hs1, hs2, hs3, max_if, min_if, set_lenAdd, List.set_cons_succ, List.getElem?_cons_succ, Nat.zero_le, at_new, at_newK, getElem?_len, getElem?_lenAdd, set_len, List.append_assoc, List.length_append, spans_len, snap_sl, rowsOf_sl, ints_len, ints_take, List.take_length, Nat.zero_le, Nat.zero_add, Bool.true_or]; first | (refine hK.out _ _ ?_; clear hK K) | (refine iteI (fun h => hK.out _ _ ?_) (fun h => hK.out _ _ ?_) <;> clear hK K)))
      refine loopF_next (pre ++ [x], po, out ++ [(x.1, min x.2 s1)], w0, _) (by simp only [List.length_cons]; omega) ⟨hh1.out, b2 _ _, b3 _ _, ?_, hh3.out, ?_⟩ ?_ ⟨[], rfl⟩
      · simp only [List.length_append, List.length_cons, List.length_nil]; omega
      · have := hh2.out; simp only [List.length_append, List.length_cons, List.length_nil]; omega
      · ((try simp only [eraseA_cons, eraseA_nil, setL_cons, setL_nil, List.set_cons_zero, List.set_cons_succ]); all_goals (first | rfl | (simp only [len_snoc, ints_len, List.length_map, ]; done) | (simp only [len_snoc, len_mid, ints_len, List.length_map, List.length_append, List.length_cons, List.length_nil, Nat.zero_add, ]; done) | (simp only [len_mid, len_snoc, ints_len, List.length_map, List.length_append, List.length_cons, List.length_nil, Nat.zero_add, ]; rfl)))
    · rw [if_neg r1, if_pos r2] at h5
      have r1' : rgt (x.1, min x.2 s1) = false := by simpa using r1
      rw [r1'] at q1
      clear r1'
      rw [r2] at q2
      have hh3 : Hold (out ++ [(max x.1 s2, x.2)] ++ wo po (s1, s2) = R) := ⟨by rw [← h5]; simp only [List.append_assoc, List.nil_append, List.cons_append]⟩
      clear h5 r1 r2
      repeat' (first | refine go1 ?_ | refine blockK_else rfl ?_ | (refine wpC_cond fun A B hA hB => ?_; simp only [go_sem, reduceIte, Nat.reduceAdd, Nat.reduceEqDiff, Nat.reduceLT, Nat.reduceLeDiff, *, wpK_append ty30 rfl, wpK_assignN ty30 rfl, wpK_buildSlice ty30 rfl, lenK_sls hv, i1, n1, a2, a3, c3, b2, b3, d5, q1, q2, hs1, hs2, hs3, max_if, min_if, set_lenAdd, List.set_cons_succ, List.getElem?_cons_succ, Nat.zero_le, at_new, at_newK, getElem?_len, getElem?_lenAdd, set_len, List.append_assoc, List.length_append, spans_len, snap_sl, rowsOf_sl, ints_len, ints_take, List.take_length, Nat.zero_le, Nat.zero_add, Bool.true_or]; first | (refine hA.out ?_; clear hA hB A B) | (refine hB.out ?_; clear hA hB A B) | (refine iteI (fun h => hA.out ?_) (fun h => hB.out ?_) <;> clear hA hB A B) | (refine iteI (fun h => hB.out ?_) (fun h => hA.out ?_) <;> clear hA hB A B)) | (refine wpO_cons fun K hK => ?_; simp only [go_sem, reduceIte, Nat.reduceAdd, Nat.reduceEqDiff, Nat.reduceLT, Nat.reduceLeDiff, *, wpK_append ty30 rfl, wpK_assignN ty30 rfl, wpK_buildSlice ty30 rfl, lenK_sls hv, i1, n1, a2, a3, c3, b2, b3, d5, q1, q2, hs1, hs2, hs3, max_if, min_if, set_lenAdd, List.set_cons_succ, List.getElem?_cons_succ, Nat.zero_le, at_new, at_newK, getElem?_len, getElem?_lenAdd, set_len, List.append_assoc, List.length_append, spans_len, snap_sl, rowsOf_sl, ints_len, ints_take, List.take_length, Nat.zero_le, Nat.zero_add, Bool.true_or]; first | (refine hK.out _ _ ?_; clear hK K) | (refine iteI (fun h => hK.out _ _ ?_) (fun h => hK.out _ _ ?_) <;> clear hK K)))
      refine loopF_next (pre ++ [x], po, out ++ [(max x.1 s2, x.2)], w0, _) (by simp only [List.length_cons]; omega) ⟨hh1.out, b2 _ _, b3 _ _, ?_, hh3.out, ?_⟩ ?_ ⟨[], rfl⟩
      · simp only [List.length_append, List.length_cons, List.length_nil]; omega
      · have := hh2.out; simp only [List.length_append, List.length_cons, List.length_nil]; omega
      · ((try simp only [eraseA_cons, eraseA_nil, setL_cons, setL_nil, List.set_cons_zero, List.set_cons_succ]); all_goals (first | rfl | (simp only [len_snoc, ints_len, List.length_map, ]; done) | (simp only [len_snoc, len_mid, ints_len, List.length_map, List.length_append, List.length_cons, List.length_nil, Nat.zero_add, ]; done) | (simp only [len_mid, len_snoc, ints_len, List.length_map, List.length_append, List.length_cons, List.length_nil, Nat.zero_add, ]; rfl)))
    · rw [if_neg r1, if_neg r2] at h5
      have r1' : rgt (x.1, min x.2 s1) = false := by simpa using r1
      rw [r1'] at q1
      clear r1'
      have r2' : rgt (max x.1 s2, x.2) = false := by simpa using r2
      rw [r2'] at q2
      clear r2'
      have hh3 : Hold (out ++ wo po (s1, s2) = R) := ⟨by rw [← h5]; simp only [List.append_assoc, List.nil_append, List.cons_append]⟩
      clear h5 r1 r2
      repeat' (first | refine go1 ?_ | refine blockK_else rfl ?_ | (refine wpC_cond fun A B hA hB => ?_; simp only [go_sem, reduceIte, Nat.reduceAdd, Nat.reduceEqDiff, Nat.reduceLT, Nat.reduceLeDiff, *, wpK_append ty30 rfl, wpK_assignN ty30 rfl, wpK_buildSlice ty30 rfl, lenK_sls hv, i1, n1, a2, a3, c3, b2, b3, d5, q1, q2, hs1, hs2, hs3, max_if, min_if, set_lenAdd, List.set_cons_succ, List.getElem?_cons_succ, Nat.zero_le, at_new, at_newK, getElem?_len, getElem?_lenAdd, set_len, List.append_assoc, List.length_append, spans_len, snap_sl, rowsOf_sl, ints_len, ints_take, List.take_length, Nat.zero_le, Nat.zero_add, Bool.true_or]; first | (refine hA.out ?_; clear hA hB A B) | (refine hB.out ?_; clear hA hB A B) | (refine iteI (fun h => hA.out ?_) (fun h => hB.out ?_) <;> clear hA hB A B) | (refine iteI (fun h => hB.out ?_) (fun h => hA.out ?_) <;> clear hA hB A B)) | (refine wpO_cons fun K hK => ?_; simp only [go_sem, reduceIte, Nat.reduceAdd, Nat.reduceEqDiff, Nat.reduceLT, Nat.reduceLeDiff, *, wpK_append ty30 rfl, wpK_assignN ty30 rfl, wpK_buildSlice ty30 rfl, lenK_sls hv, i1, n1, a2, a3, c3, b2, b3, d5, q1, q2, hs1, hs2, hs3, max_if, min_if, set_lenAdd, List.set_cons_succ, List.getElem?_cons_succ, Nat.zero_le, at_new, at_newK, getElem?_len, getElem?_lenAdd, set_len, List.append_assoc, List.length_append, spans_len, snap_sl, rowsOf_sl, ints_len, ints_take, List.take_length, Nat.zero_le, Nat.zero_add, Bool.true_or]; first | (refine hK.out _ _ ?_; clear hK K) | (refine iteI (fun h => hK.out _ _ ?_) (fun h => hK.out _ _ ?_) <;> clear hK K)))
      refine loopF_next (pre ++ [x], po, out, w0, _) (by simp only [List.length_cons]; omega) ⟨hh1.out, a2 _, a3 _, h4, hh3.out, ?_⟩ ?_ ⟨[], rfl⟩
      · have := hh2.out; simp only [List.length_append, List.length_cons, List.length_nil]; omega
      · ((try simp only [eraseA_cons, eraseA_nil, setL_cons, setL_nil, List.set_cons_zero, List.set_cons_succ]); all_goals (first | rfl | (simp only [len_snoc, ints_len, List.length_map, ]; done) | (simp only [len_snoc, len_mid, ints_len, List.length_map, List.length_append, List.length_cons, List.length_nil, Nat.zero_add, ]; done) | (simp only [len_mid, len_snoc, ints_len, List.length_map, List.length_append, List.length_cons, List.length_nil, Nat.zero_add, ]; rfl)))

/- The reference's lists of spans: Both, Minus, Covers, Total. -/
open Go.Proofs
attribute [local go_sem] br22 br42 fz38 fz39 fz40 br27 fz41 fz42 fz54 fz55 fz56
set_option maxRecDepth 20000
set_option maxHeartbeats 4000000

/-- The spans that are left lie in those of the first list: a bound that does not double. -/
theorem norm_card {l : List El} (h : Norm l) : l.length ≤ 86400000 := by
  have h1 := tot_le h
  have : (l.length : Int) ≤ tot l := by
    clear h1
    induction l with
    | nil => simp [tot]
    | cons x l ih =>
      obtain ⟨r, _, n⟩ := norm_cons.mp h
      have e := rgt_iff.mp r
      have := ih n
      have e2 : tot (x :: l) = (x.2 - x.1) + tot l := by simp [tot]
      rw [e2, List.length_cons]; omega
  omega
theorem wo_one (s : El) (hs : s.1 < s.2) : ∀ {l : List El}, Norm l → (wo l s).length ≤ l.length + 1
  | [], _ => by simp [wo]
  | x :: l, h => by
    obtain ⟨rx, sx, nl⟩ := norm_cons.mp h
    have e : wo (x :: l) s = wo1 s x ++ wo l s := rfl
    rw [e, List.length_append, List.length_cons]
    by_cases hx : s.2 < x.2
    · -- the rest lies behind s
      have hl : ∀ y ∈ l, wo1 s y = [y] := fun y hy => by
        have h1 := sx y hy
        have ry := rgt_iff.mp (nl.rg y hy)
        have a1 : ¬ rgt (y.1, min y.2 s.1) = true := fun k => by have := rgt_iff.mp k; simp only at this; omega
        have a2 : max y.1 s.2 = y.1 := by omega
        unfold wo1
        rw [if_neg a1, a2, if_pos (nl.rg y hy)]; rfl
      have : wo l s = l := by
        unfold wo
        clear h e sx nl
        induction l with
        | nil => rfl
        | cons y l ih => rw [List.flatMap_cons, hl y (by simp), ih fun z hz => hl z (by simp [hz])]; rfl
      rw [this]
      have := wo1_len s x; omega
    · have h1 : (wo1 s x).length ≤ 1 := by
        have a2 : ¬ rgt (max x.1 s.2, x.2) = true := fun k => by have := rgt_iff.mp k; simp only at this; omega
        unfold wo1
        rw [if_neg a2]; split <;> simp
      have := wo_one s hs nl
      omega

theorem minusRE (v w : AV) (a b : List El) (hv : SLs 2 (spans a) v) (hw : SLs 2 (spans b) w) (ha : a.length ≤ 500000) (hb : b.length ≤ 500000) : EvV CX 27 [v, w] (· = .osl 2 (spans (minusR a b))) := by
  have q0 := (unionR v a hv (by omega)).rw
  have s1 := hv.snap
  have hul := uniR_len a
  have hun := (uniR_spec a).1
  unfold minusR
  obtain ⟨R, hR⟩ : ∃ R, b.foldl (fun out s => if rgt s = true then wo out s else out) (uniR a) = R := ⟨_, rfl⟩
  rw [hR]
  obtain ⟨u, hu⟩ : ∃ u, uniR a = u := ⟨_, rfl⟩
  rw [hu] at q0 hul hun hR
  have hun' : Hold (Norm u) := ⟨hun⟩
  clear hun
  refine EvV.walk rfl fn27 rfl nt27 rfl ?_
  simp only [List.length_cons, List.length_nil, List.cons_append, List.nil_append, Nat.reduceAdd, Nat.reduceSub, List.replicate]
  repeat' (first | refine go1 ?_ | refine blockK_else rfl ?_ | (refine wpO_cons fun K hK => ?_; simp only [go_sem, reduceIte, Nat.reduceAdd, Nat.reduceEqDiff, Nat.reduceLT, Nat.reduceLeDiff, *, wpK_assignN ty30 rfl, s1, q0, spans_len]; first | (refine hK.out _ _ ?_; clear hK K) | (refine iteI (fun h => hK.out _ _ ?_) (fun h => hK.out _ _ ?_) <;> clear hK K)))
  refine wpC_loopF [9, 10, 11, 12, 13, 14, 15, 16, 17, 18, 19, 20, 21, 22, 23, 24, 25] (fun p : List El × List El × List El × Nat × Store => [(5, .sl p.2.2.2.1 p.2.2.1.length 0 p.2.2.1.length 2), (6, .int .i64 p.1.length)]) (fun p _ => p.2.2.2.2)
    (fun p => b = p.1 ++ p.2.1 ∧ p.2.2.2.2[p.2.2.2.1]? = some (.arr (spans p.2.2.1) 2 0 true) ∧ p.2.1.foldl (fun out s => if rgt s = true then wo out s else out) p.2.2.1 = R ∧ p.2.2.1.length ≤ p.1.length + u.length ∧ Norm p.2.2.1)
    (fun p => p.2.1.length) ([], b, u, 1, _) ⟨rfl, rfl, hR, by simp, hun'.out⟩ ?_ ⟨[], rfl⟩ ?_
  · rfl
  clear hR q0
  rintro ⟨pre, po, out, bo, S⟩ g G ⟨h1, h2, h3, h4, h5⟩
  simp only at h1 h2 h3 h4 h5
  simp only [garbA_cons, garbA_nil, setL_cons, setL_nil, List.set_cons_zero, List.set_cons_succ]
  cases po with
  | nil =>
    have e : (b.length : Int) = (pre.length : Int) := by rw [h1, List.append_nil]
    have hh : Hold (out = R) := ⟨h3⟩
    clear h1 h3
    repeat' (first | refine go1 ?_ | refine blockK_else rfl ?_ | (refine wpC_cond fun A B hA hB => ?_; simp only [go_sem, reduceIte, Nat.reduceAdd, Nat.reduceEqDiff, Nat.reduceLT, Nat.reduceLeDiff, *, wpK_assignN ty30 rfl, lenK_sls hw, e, Int.lt_irrefl, spans_len]; first | (refine hA.out ?_; clear hA hB A B) | (refine hB.out ?_; clear hA hB A B) | (refine iteI (fun h => hA.out ?_) (fun h => hB.out ?_) <;> clear hA hB A B) | (refine iteI (fun h => hB.out ?_) (fun h => hA.out ?_) <;> clear hA hB A B)) | (refine wpO_cons fun K hK => ?_; simp only [go_sem, reduceIte, Nat.reduceAdd, Nat.reduceEqDiff, Nat.reduceLT, Nat.reduceLeDiff, *, wpK_assignN ty30 rfl, lenK_sls hw, e, Int.lt_irrefl, spans_len]; first | (refine hK.out _ _ ?_; clear hK K) | (refine iteI (fun h => hK.out _ _ ?_) (fun h => hK.out _ _ ?_) <;> clear hK K)))
    simp only [resultsR, resultsL, resultA, expK_int, expK_bool, expK_str, expK_agg, expK_own, expK_tsl, resK_some, go_sem, reduceIte, Nat.reduceAdd, Nat.reduceEqDiff, Nat.reduceLT, Nat.reduceLeDiff, wpK_assignN ty30 rfl, h2, spans_len, Nat.zero_le]
    rw [hh.out]; rfl
  | cons x po =>
    have lta : (pre.length : Int) < (b.length : Int) := by rw [h1]; simp; omega
    have i1 := idx_sls hw (X := CX) ty30 ty23 rfl (n := pre.length) (row := [.int .i64 x.1, .int .i64 x.2]) (spans_get (by rw [h1]; simp)) (k := .i64)
    have n1 := wrap_succ (n := pre.length) (by omega)
    have hh1 : Hold (b = (pre ++ [x]) ++ po) := ⟨by rw [h1]; simp⟩
    have a2 := at_app h2
    have q1 := (rightR x).rw
    have q2 := (withoutR (.tsl false 2 (spans out)) out x (.rows false) (by omega)).rw
    have to : (spans out).take out.length = spans out := by rw [← spans_len out]; exact List.take_length
    rw [List.foldl_cons] at h3
    simp only [encE] at q1 q2
    have hh5 : Hold (Norm out) := ⟨h5⟩
    clear h1 h5
    by_cases hr : rgt x = true
    · rw [if_pos hr] at h3
      rw [hr] at q1
      have hh2 : Hold (po.foldl (fun out s => if rgt s = true then wo out s else out) (wo out x) = R) := ⟨h3⟩
      have hh6 : Hold (Norm (wo out x) ∧ (wo out x).length ≤ out.length + 1) := ⟨(wo_spec hr hh5.out).1, wo_one x (rgt_iff.mp hr).2.1 hh5.out⟩
      clear h3 hr
      repeat' (first | refine go1 ?_ | refine blockK_else rfl ?_ | (refine wpC_cond fun A B hA hB => ?_; simp only [go_sem, reduceIte, Nat.reduceAdd, Nat.reduceEqDiff, Nat.reduceLT, Nat.reduceLeDiff, *, wpK_assignN ty30 rfl, lenK_sls hw, i1, a2, q1, q2, n1, set_lenAdd, List.set_cons_succ, List.getElem?_cons_succ, Nat.zero_le, at_new, at_newK, getElem?_len, getElem?_lenAdd, set_len, List.append_assoc, List.length_append, spans_len, snap_sl, rowsOf_sl, ints_len, ints_take, List.take_length, Nat.zero_le, Nat.zero_add, Bool.true_or, to]; first | (refine hA.out ?_; clear hA hB A B) | (refine hB.out ?_; clear hA hB A B) | (refine iteI (fun h => hA.out ?_) (fun h => hB.out ?_) <;> clear hA hB A B) | (refine iteI (fun h => hB.out ?_) (fun h => hA.out ?_) <;> clear hA hB A B)) | (refine wpO_cons fun K hK => ?_; simp only [go_sem, reduceIte, Nat.reduceAdd, Nat.reduceEqDiff, Nat.reduceLT, Nat.reduceLeDiff, *, wpK_assignN ty30 rfl, lenK_sls hw, i1, a2, q1, q2, n1, set_lenAdd, List.set_cons_succ, List.getElem?_cons_succ, Nat.zero_le, at_new, at_newK, getElem?_len, getElem?_lenAdd, set_len, List.append_assoc, List.length_append, spans_len, snap_sl, rowsOf_sl, ints_len, ints_take, List.take_length, Nat.zero_le, Nat.zero_add, Bool.true_or, to]; first | (refine hK.out _ _ ?_; clear hK K) | (refine iteI (fun h => hK.out _ _ ?_) (fun h => hK.out _ _ ?_) <;> clear hK K)))
      refine loopF_next (pre ++ [x], po, wo out x, S.length, _) (by simp only [List.length_cons]; omega) ⟨hh1.out, by simp only; rw [getElem?_len]; rfl, hh2.out, ?_, hh6.out.1⟩ ?_ ⟨[], rfl⟩
      · have := hh6.out.2
        simp only [len_snoc]; omega
      · ((try simp only [eraseA_cons, eraseA_nil, setL_cons, setL_nil, List.set_cons_zero, List.set_cons_succ]); all_goals (first | rfl | (simp only [len_snoc, ints_len, List.length_map, ]; done) | (simp only [len_snoc, len_mid, ints_len, List.length_map, List.length_append, List.length_cons, List.length_nil, Nat.zero_add, ]; done) | (simp only [len_mid, len_snoc, ints_len, List.length_map, List.length_append, List.length_cons, List.length_nil, Nat.zero_add, ]; rfl)))
    · have hr' : rgt x = false := by simpa using hr
      rw [if_neg hr] at h3
      rw [hr'] at q1
      have hh2 : Hold (po.foldl (fun out s => if rgt s = true then wo out s else out) out = R) := ⟨h3⟩
      clear h3 hr hr'
      repeat' (first | refine go1 ?_ | refine blockK_else rfl ?_ | (refine wpC_cond fun A B hA hB => ?_; simp only [go_sem, reduceIte, Nat.reduceAdd, Nat.reduceEqDiff, Nat.reduceLT, Nat.reduceLeDiff, *, wpK_assignN ty30 rfl, lenK_sls hw, i1, a2, q1, q2, n1, set_lenAdd, List.set_cons_succ, List.getElem?_cons_succ, Nat.zero_le, at_new, at_newK, getElem?_len, getElem?_lenAdd, set_len, List.append_assoc, List.length_append, spans_len, snap_sl, rowsOf_sl, ints_len, ints_take, List.take_length, Nat.zero_le, Nat.zero_add, Bool.true_or, to]; first | (refine hA.out ?_; clear hA hB A B) | (refine hB.out ?_; clear hA hB A B) | (refine iteI (fun h => hA.out ?_) (fun h => hB.out ?_) <;> clear hA hB A B) | (refine iteI (fun h => hB.out ?_) (fun h => hA.out ?_) <;> clear hA hB A B)) | (refine wpO_cons fun K hK => ?_; simp only [go_sem, reduceIte, Nat.reduceAdd, Nat.reduceEqDiff, Nat.reduceLT, Nat.reduceLeDiff, *, wpK_assignN ty30 rfl, lenK_sls hw, i1, a2, q1, q2, n1, set_lenAdd, List.set_cons_succ, List.getElem?_cons_succ, Nat.zero_le, at_new, at_newK, getElem?_len, getElem?_lenAdd, set_len, List.append_assoc, List.length_append, spans_len, snap_sl, rowsOf_sl, ints_len, ints_take, List.take_length, Nat.zero_le, Nat.zero_add, Bool.true_or, to]; first | (refine hK.out _ _ ?_; clear hK K) | (refine iteI (fun h => hK.out _ _ ?_) (fun h => hK.out _ _ ?_) <;> clear hK K)))
      refine loopF_next (pre ++ [x], po, out, bo, _) (by simp only [List.length_cons]; omega) ⟨hh1.out, h2, hh2.out, ?_, hh5.out⟩ ?_ ⟨[], rfl⟩
      · simp only [len_snoc]; omega
      · ((try simp only [eraseA_cons, eraseA_nil, setL_cons, setL_nil, List.set_cons_zero, List.set_cons_succ]); all_goals (first | rfl | (simp only [len_snoc, ints_len, List.length_map, ]; done) | (simp only [len_snoc, len_mid, ints_len, List.length_map, List.length_append, List.length_cons, List.length_nil, Nat.zero_add, ]; done) | (simp only [len_mid, len_snoc, ints_len, List.length_map, List.length_append, List.length_cons, List.length_nil, Nat.zero_add, ]; rfl)))

theorem covRE (v : AV) (l : List El) (s : El) (hv : SLs 2 (spans l) v) (hl : l.length ≤ 500000) : EvV CX 29 [v, .agg (encE s)] (· = .bool (covR l s)) := by
  have q1 := (minusRE (.tsl false 2 (spans [s])) v [s] l (.rows false) hv (by simp) hl).rw
  have q2 := (rightR s).rw
  have s1 := hv.snap
  unfold covR
  obtain ⟨m, hm⟩ : ∃ m, minusR [s] l = m := ⟨_, rfl⟩
  rw [hm] at q1 ⊢
  obtain ⟨a, b⟩ := s
  have e0 : spans [(a, b)] = [[.int .i64 a, .int .i64 b]] := rfl
  rw [e0] at q1
  simp only [encE] at q2 ⊢
  by_cases hr : rgt (a, b) = true
  · rw [hr] at q2 ⊢
    clear hm hr
    refine EvV.walk rfl fn29 rfl nt29 rfl ?_
    simp only [List.length_cons, List.length_nil, List.cons_append, List.nil_append, Nat.reduceAdd, Nat.reduceSub, List.replicate]
    repeat' (first | refine go1 ?_ | refine blockK_else rfl ?_ | (refine wpC_cond fun A B hA hB => ?_; simp only [go_sem, reduceIte, Nat.reduceAdd, Nat.reduceEqDiff, Nat.reduceLT, Nat.reduceLeDiff, *, wpK_buildSlice ty30 rfl, s1, q1, q2, lenK_sl, set_lenAdd, List.set_cons_succ, List.getElem?_cons_succ, Nat.zero_le, at_new, at_newK, getElem?_len, getElem?_lenAdd, set_len, List.append_assoc, List.length_append, spans_len, snap_sl, rowsOf_sl, ints_len, ints_take, List.take_length, Nat.zero_le, Nat.zero_add, Bool.true_or]; first | (refine hA.out ?_; clear hA hB A B) | (refine hB.out ?_; clear hA hB A B) | (refine iteI (fun h => hA.out ?_) (fun h => hB.out ?_) <;> clear hA hB A B) | (refine iteI (fun h => hB.out ?_) (fun h => hA.out ?_) <;> clear hA hB A B)) | (refine wpO_cons fun K hK => ?_; simp only [go_sem, reduceIte, Nat.reduceAdd, Nat.reduceEqDiff, Nat.reduceLT, Nat.reduceLeDiff, *, wpK_buildSlice ty30 rfl, s1, q1, q2, lenK_sl, set_lenAdd, List.set_cons_succ, List.getElem?_cons_succ, Nat.zero_le, at_new, at_newK, getElem?_len, getElem?_lenAdd, set_len, List.append_assoc, List.length_append, spans_len, snap_sl, rowsOf_sl, ints_len, ints_take, List.take_length, Nat.zero_le, Nat.zero_add, Bool.true_or]; first | (refine hK.out _ _ ?_; clear hK K) | (refine iteI (fun h => hK.out _ _ ?_) (fun h => hK.out _ _ ?_) <;> clear hK K)))
    simp only [resultsR, resultsL, resultA, expK_int, expK_bool, expK_str, expK_agg, expK_own, expK_tsl, resK_some, go_sem, reduceIte, Nat.reduceAdd, Nat.reduceEqDiff, Nat.reduceLT, Nat.reduceLeDiff, wpK_buildSlice ty30 rfl, Bool.true_and]
    simp [Bool.beq_eq_decide_eq]
  · have hr' : rgt (a, b) = false := by simpa using hr
    rw [hr'] at q2 ⊢
    clear hr hr' hm
    refine EvV.walk rfl fn29 rfl nt29 rfl ?_
    simp only [List.length_cons, List.length_nil, List.cons_append, List.nil_append, Nat.reduceAdd, Nat.reduceSub, List.replicate]
    repeat' (first | refine go1 ?_ | refine blockK_else rfl ?_ | (refine wpC_cond fun A B hA hB => ?_; simp only [go_sem, reduceIte, Nat.reduceAdd, Nat.reduceEqDiff, Nat.reduceLT, Nat.reduceLeDiff, *, wpK_buildSlice ty30 rfl, s1, q1, q2, lenK_sl, set_lenAdd, List.set_cons_succ, List.getElem?_cons_succ, Nat.zero_le, at_new, at_newK, getElem?_len, getElem?_lenAdd, set_len, List.append_assoc, List.length_append, spans_len, snap_sl, rowsOf_sl, ints_len, ints_take, List.take_length, Nat.zero_le, Nat.zero_add, Bool.true_or]; first | (refine hA.out ?_; clear hA hB A B) | (refine hB.out ?_; clear hA hB A B) | (refine iteI (fun h => hA.out ?_) (fun h => hB.out ?_) <;> clear hA hB A B) | (refine iteI (fun h => hB.out ?_) (fun h => hA.out ?_) <;> clear hA hB A B)) | (refine wpO_cons fun K hK => ?_; simp only [go_sem, reduceIte, Nat.reduceAdd, Nat.reduceEqDiff, Nat.reduceLT, Nat.reduceLeDiff, *, wpK_buildSlice ty30 rfl, s1, q1, q2, lenK_sl, set_lenAdd, List.set_cons_succ, List.getElem?_cons_succ, Nat.zero_le, at_new, at_newK, getElem?_len, getElem?_lenAdd, set_len, List.append_assoc, List.length_append, spans_len, snap_sl, rowsOf_sl, ints_len, ints_take, List.take_length, Nat.zero_le, Nat.zero_add, Bool.true_or]; first | (refine hK.out _ _ ?_; clear hK K) | (refine iteI (fun h => hK.out _ _ ?_) (fun h => hK.out _ _ ?_) <;> clear hK K)))
    simp only [resultsR, resultsL, resultA, expK_int, expK_bool, expK_str, expK_agg, expK_own, expK_tsl, resK_some, go_sem, reduceIte, Nat.reduceAdd, Nat.reduceEqDiff, Nat.reduceLT, Nat.reduceLeDiff, wpK_buildSlice ty30 rfl, Bool.false_and]

theorem totRE (v : AV) (l : List El) (hv : SLs 2 (spans l) v) (hl : l.length ≤ 1000000) : EvV CX 31 [v] (· = .int .i64 (tot (uniR l))) := by
  have q1 := (unionR v l hv hl).rw
  have s1 := hv.snap
  have hul := uniR_len l
  have hrg := (uniR_spec l).1.rg
  obtain ⟨su, hsu⟩ : ∃ s, uniR l = s := ⟨_, rfl⟩
  rw [hsu] at q1 hul hrg ⊢
  have hrg' : Hold (∀ s ∈ su, rgt s = true) := ⟨hrg⟩
  clear hrg
  refine EvV.walk rfl fn31 rfl nt31 rfl ?_
  simp only [List.length_cons, List.length_nil, List.cons_append, List.nil_append, Nat.reduceAdd, Nat.reduceSub, List.replicate]
  repeat' (first | refine go1 ?_ | refine blockK_else rfl ?_ | (refine wpO_cons fun K hK => ?_; simp only [go_sem, reduceIte, Nat.reduceAdd, Nat.reduceEqDiff, Nat.reduceLT, Nat.reduceLeDiff, *, and_self, s1, q1, spans_len]; first | (refine hK.out _ _ ?_; clear hK K) | (refine iteI (fun h => hK.out _ _ ?_) (fun h => hK.out _ _ ?_) <;> clear hK K)))
  refine wpC_loopF [8, 9, 10, 11, 12, 13, 14, 15, 16, 17, 18, 19, 20, 21, 22, 23, 24, 25, 26] (fun p : List El × List El × Int × Store => [(4, .int .i64 p.2.2.1), (5, .int .i64 p.1.length)]) (fun p _ => p.2.2.2)
    (fun p => su = p.1 ++ p.2.1 ∧ p.2.2.2[0]? = some (.arr (spans su) 2 0 true) ∧ p.2.2.1 + tot p.2.1 = tot su ∧ 0 ≤ p.2.2.1 ∧ p.2.2.1 ≤ (p.1.length : Int) * 86400000)
    (fun p => p.2.1.length) ([], su, 0, _) ⟨rfl, rfl, by simp, by simp, by simp⟩ ?_ ⟨[], rfl⟩ ?_
  · rfl
  clear q1
  rintro ⟨pre, po, n, S⟩ g G ⟨h1, h2, h3, h4, h5⟩
  simp only at h1 h2 h3 h4 h5
  simp only [garbA_cons, garbA_nil, setL_cons, setL_nil, List.set_cons_zero, List.set_cons_succ]
  cases po with
  | nil =>
    have e : (su.length : Int) = (pre.length : Int) := by rw [h1, List.append_nil]
    have hh : Hold (n = tot su) := ⟨by rw [← h3]; simp [tot]⟩
    clear h1 h3
    repeat' (first | refine go1 ?_ | refine blockK_else rfl ?_ | (refine wpC_cond fun A B hA hB => ?_; simp only [go_sem, reduceIte, Nat.reduceAdd, Nat.reduceEqDiff, Nat.reduceLT, Nat.reduceLeDiff, *, and_self, lenK_sl, e, Int.lt_irrefl]; first | (refine hA.out ?_; clear hA hB A B) | (refine hB.out ?_; clear hA hB A B) | (refine iteI (fun h => hA.out ?_) (fun h => hB.out ?_) <;> clear hA hB A B) | (refine iteI (fun h => hB.out ?_) (fun h => hA.out ?_) <;> clear hA hB A B)) | (refine wpO_cons fun K hK => ?_; simp only [go_sem, reduceIte, Nat.reduceAdd, Nat.reduceEqDiff, Nat.reduceLT, Nat.reduceLeDiff, *, and_self, lenK_sl, e, Int.lt_irrefl]; first | (refine hK.out _ _ ?_; clear hK K) | (refine iteI (fun h => hK.out _ _ ?_) (fun h => hK.out _ _ ?_) <;> clear hK K)))
    simp only [resultsR, resultsL, resultA, expK_int, expK_bool, expK_str, expK_agg, expK_own, expK_tsl, resK_some, go_sem, reduceIte, Nat.reduceAdd, Nat.reduceEqDiff, Nat.reduceLT, Nat.reduceLeDiff, and_self, ]
    rw [hh.out]
  | cons x po =>
    have lta : (pre.length : Int) < (su.length : Int) := by rw [h1]; simp; omega
    have lta' : pre.length < su.length := by omega
    have i1 := idxZ (b := 0) (e := su.length) (len := su.length) (j := pre.length) (k := .i64) (by omega)
    have g1 : (spans su)[pre.length]? = some [.int .i64 x.1, .int .i64 x.2] := spans_get (by rw [h1]; simp)
    have w1 := wrap_succ (n := pre.length) (by omega)
    have a3 := at_app h2
    have hx := rgt_iff.mp (hrg'.out x (by rw [h1]; simp))
    have hpb : (pre.length : Int) ≤ 1000000 := by omega
    have w2 : IntKind.wrap .i64 (n + x.2) = n + x.2 := wrap_small (by omega) (by omega)
    have w3 : IntKind.wrap .i64 (n + x.2 - x.1) = n + (x.2 - x.1) := by rw [wrap_small (by omega) (by omega)]; omega
    have hh1 : Hold (su = (pre ++ [x]) ++ po) := ⟨by rw [h1]; simp⟩
    have e : tot (x :: po) = (x.2 - x.1) + tot po := by simp [tot]
    have hh2 : Hold (n + (x.2 - x.1) + tot po = tot su) := ⟨by rw [← h3, e]; omega⟩
    have hh4 : Hold (0 ≤ n + (x.2 - x.1) ∧ n + (x.2 - x.1) ≤ ((pre.length + 1 : Nat) : Int) * 86400000) := ⟨by omega, by omega⟩
    clear h1 h3 e
    repeat' (first | refine go1 ?_ | refine blockK_else rfl ?_ | (refine wpC_cond fun A B hA hB => ?_; simp only [go_sem, reduceIte, Nat.reduceAdd, Nat.reduceEqDiff, Nat.reduceLT, Nat.reduceLeDiff, *, and_self, lenK_sl, i1, a3, g1, w1, w2, w3, set_lenAdd, List.set_cons_succ, List.getElem?_cons_succ, Nat.zero_le, at_new, at_newK, getElem?_len, getElem?_lenAdd, set_len, List.append_assoc, List.length_append, spans_len, snap_sl, rowsOf_sl, ints_len, ints_take, List.take_length, Nat.zero_le, Nat.zero_add, Bool.true_or]; first | (refine hA.out ?_; clear hA hB A B) | (refine hB.out ?_; clear hA hB A B) | (refine iteI (fun h => hA.out ?_) (fun h => hB.out ?_) <;> clear hA hB A B) | (refine iteI (fun h => hB.out ?_) (fun h => hA.out ?_) <;> clear hA hB A B)) | (refine wpO_cons fun K hK => ?_; simp only [go_sem, reduceIte, Nat.reduceAdd, Nat.reduceEqDiff, Nat.reduceLT, Nat.reduceLeDiff, *, and_self, lenK_sl, i1, a3, g1, w1, w2, w3, set_lenAdd, List.set_cons_succ, List.getElem?_cons_succ, Nat.zero_le, at_new, at_newK, getElem?_len, getElem?_lenAdd, set_len, List.append_assoc, List.length_append, spans_len, snap_sl, rowsOf_sl, ints_len, ints_take, List.take_length, Nat.zero_le, Nat.zero_add, Bool.true_or]; first | (refine hK.out _ _ ?_; clear hK K) | (refine iteI (fun h => hK.out _ _ ?_) (fun h => hK.out _ _ ?_) <;> clear hK K)))
    refine loopF_next (pre ++ [x], po, n + (x.2 - x.1), _) (by simp only [List.length_cons]; omega) ⟨hh1.out, h2, hh2.out, hh4.out.1, ?_⟩ ?_ ⟨[], rfl⟩
    · simp only [len_snoc]; exact hh4.out.2
    · ((try simp only [eraseA_cons, eraseA_nil, setL_cons, setL_nil, List.set_cons_zero, List.set_cons_succ]); all_goals (first | rfl | (simp only [len_snoc, ints_len, List.length_map, ]; done) | (simp only [len_snoc, len_mid, ints_len, List.length_map, List.length_append, List.length_cons, List.length_nil, Nat.zero_add, ]; done) | (simp only [len_mid, len_snoc, ints_len, List.length_map, List.length_append, List.length_cons, List.length_nil, Nat.zero_add, ]; rfl)))
theorem bothIn_len (x : El) : ∀ (b out : List El), (bothIn x b out).length ≤ out.length + b.length
  | [], out => by simp [bothIn]
  | y :: b, out => by
    have e : bothIn x (y :: b) out = bothIn x b (if rgt x = true ∧ rgt y = true ∧ rgt (cap x y) = true then insS out (cap x y) else out) := rfl
    rw [e, List.length_cons]
    have h1 := bothIn_len x b (if rgt x = true ∧ rgt y = true ∧ rgt (cap x y) = true then insS out (cap x y) else out)
    have h2 : (if rgt x = true ∧ rgt y = true ∧ rgt (cap x y) = true then insS out (cap x y) else out).length ≤ out.length + 1 := by
      split
      · exact insS_len _ _
      · omega
    omega

theorem bothRE (v w : AV) (a b : List El) (hv : SLs 2 (spans a) v) (hw : SLs 2 (spans b) w) (ha : a.length ≤ 1000) (hb : b.length ≤ 1000) : EvV CX 25 [v, w] (· = .osl 2 (spans (bothR a b))) := by
  unfold bothR
  obtain ⟨R, hR⟩ : ∃ R, a.foldl (fun out x => bothIn x b out) [] = R := ⟨_, rfl⟩
  rw [hR]
  refine EvV.walk rfl fn25 rfl nt25 rfl ?_
  simp only [List.length_cons, List.length_nil, List.cons_append, List.nil_append, Nat.reduceAdd, Nat.reduceSub, List.replicate]
  repeat' (first | refine go1 ?_ | refine blockK_else rfl ?_ | (refine wpO_cons fun K hK => ?_; simp only [go_sem, reduceIte, Nat.reduceAdd, Nat.reduceEqDiff, Nat.reduceLT, Nat.reduceLeDiff, *, wpK_assignN ty30 rfl, wpK_buildSlice ty30 rfl, ]; first | (refine hK.out _ _ ?_; clear hK K) | (refine iteI (fun h => hK.out _ _ ?_) (fun h => hK.out _ _ ?_) <;> clear hK K)))
  refine wpC_loopF [7, 8, 10, 11, 12, 13, 14, 15, 16, 17, 18, 19, 20, 21, 22, 23, 24, 25, 26, 27, 28, 29, 30, 31, 32, 33, 34, 35, 36, 37, 38, 39, 40, 41, 42, 43, 44, 45, 46, 47, 48, 49, 50, 51, 52, 53, 54, 55, 56, 57, 58, 59, 60, 61, 62, 63] (fun p : List El × List El × List El × Nat × Store => [(5, .sl p.2.2.2.1 p.2.2.1.length 0 p.2.2.1.length 2), (6, .int .i64 p.1.length)]) (fun p _ => p.2.2.2.2)
    (fun p => a = p.1 ++ p.2.1 ∧ p.2.2.2.2[p.2.2.2.1]? = some (.arr (spans p.2.2.1) 2 0 true) ∧ p.2.1.foldl (fun out x => bothIn x b out) p.2.2.1 = R ∧ p.2.2.1.length ≤ p.1.length * b.length)
    (fun p => p.2.1.length) ([], a, [], 1, _) ⟨rfl, rfl, hR, by simp⟩ ?_ ⟨[], rfl⟩ ?_
  · rfl
  clear hR
  rintro ⟨pre, po, out, bo, S⟩ g G ⟨h1, h2, h3, h4⟩
  simp only at h1 h2 h3 h4
  simp only [garbA_cons, garbA_nil, setL_cons, setL_nil, List.set_cons_zero, List.set_cons_succ]
  cases po with
  | nil =>
    have e : (a.length : Int) = (pre.length : Int) := by rw [h1, List.append_nil]
    have hh : Hold (out = R) := ⟨h3⟩
    clear h1 h3
    repeat' (first | refine go1 ?_ | refine blockK_else rfl ?_ | (refine wpC_cond fun A B hA hB => ?_; simp only [go_sem, reduceIte, Nat.reduceAdd, Nat.reduceEqDiff, Nat.reduceLT, Nat.reduceLeDiff, *, wpK_assignN ty30 rfl, wpK_buildSlice ty30 rfl, lenK_sls hv, e, Int.lt_irrefl, spans_len]; first | (refine hA.out ?_; clear hA hB A B) | (refine hB.out ?_; clear hA hB A B) | (refine iteI (fun h => hA.out ?_) (fun h => hB.out ?_) <;> clear hA hB A B) | (refine iteI (fun h => hB.out ?_) (fun h => hA.out ?_) <;> clear hA hB A B)) | (refine wpO_cons fun K hK => ?_; simp only [go_sem, reduceIte, Nat.reduceAdd, Nat.reduceEqDiff, Nat.reduceLT, Nat.reduceLeDiff, *, wpK_assignN ty30 rfl, wpK_buildSlice ty30 rfl, lenK_sls hv, e, Int.lt_irrefl, spans_len]; first | (refine hK.out _ _ ?_; clear hK K) | (refine iteI (fun h => hK.out _ _ ?_) (fun h => hK.out _ _ ?_) <;> clear hK K)))
    simp only [resultsR, resultsL, resultA, expK_int, expK_bool, expK_str, expK_agg, expK_own, expK_tsl, resK_some, go_sem, reduceIte, Nat.reduceAdd, Nat.reduceEqDiff, Nat.reduceLT, Nat.reduceLeDiff, wpK_assignN ty30 rfl, wpK_buildSlice ty30 rfl, h2, spans_len, Nat.zero_le]
    rw [hh.out]; rfl
  | cons x po =>
    have lta : (pre.length : Int) < (a.length : Int) := by rw [h1]; simp; omega
    have i1 := idx_sls hv (X := CX) ty30 ty23 rfl (n := pre.length) (row := [.int .i64 x.1, .int .i64 x.2]) (spans_get (by rw [h1]; simp)) (k := .i64)
    have n1 := wrap_succ (n := pre.length) (by omega)
    have hh1 : Hold (a = (pre ++ [x]) ++ po) := ⟨by rw [h1]; simp⟩
    rw [List.foldl_cons] at h3
    have hin := bothIn_len x b out
    obtain ⟨M, hM⟩ : ∃ M, bothIn x b out = M := ⟨_, rfl⟩
    rw [hM] at h3 hin
    have hh3 : Hold (po.foldl (fun out x => bothIn x b out) M = R) := ⟨h3⟩
    have hol : out.length ≤ 1000000 := by
      have : pre.length * b.length ≤ 1000 * 1000 := Nat.mul_le_mul (by omega) hb
      omega
    have hMl : Hold (M.length ≤ (pre.length + 1) * b.length) := ⟨by rw [Nat.succ_mul]; omega⟩
    have qx := (rightR x).rw
    simp only [encE] at qx
    clear h1 h3 hin h4
    repeat' (first | refine go1 ?_ | refine blockK_else rfl ?_ | (refine wpO_cons fun K hK => ?_; simp only [go_sem, reduceIte, Nat.reduceAdd, Nat.reduceEqDiff, Nat.reduceLT, Nat.reduceLeDiff, *, wpK_assignN ty30 rfl, wpK_buildSlice ty30 rfl, lenK_sls hv, spans_len]; first | (refine hK.out _ _ ?_; clear hK K) | (refine iteI (fun h => hK.out _ _ ?_) (fun h => hK.out _ _ ?_) <;> clear hK K)))
    (refine wpC_cond fun A B hA hB => ?_; simp only [go_sem, reduceIte, Nat.reduceAdd, Nat.reduceEqDiff, Nat.reduceLT, Nat.reduceLeDiff, *, wpK_assignN ty30 rfl, wpK_buildSlice ty30 rfl, spans_len]; first | (refine hA.out ?_; clear hA hB A B) | (refine hB.out ?_; clear hA hB A B))
    repeat' (first | refine go1 ?_ | refine blockK_else rfl ?_ | (refine wpO_cons fun K hK => ?_; simp only [go_sem, reduceIte, Nat.reduceAdd, Nat.reduceEqDiff, Nat.reduceLT, Nat.reduceLeDiff, *, wpK_assignN ty30 rfl, wpK_buildSlice ty30 rfl, ]; first | (refine hK.out _ _ ?_; clear hK K) | (refine iteI (fun h => hK.out _ _ ?_) (fun h => hK.out _ _ ?_) <;> clear hK K)))
    refine wpC_loopF [8, 16, 17, 18, 19, 20, 21, 22, 23, 24, 25, 26, 27, 28, 29, 30, 31, 32, 33, 34, 35, 36, 37, 38, 39, 40, 41, 42, 43, 44, 45, 46, 47, 48, 49, 50, 51, 52, 53, 54, 55, 56, 57, 58, 59, 60, 61, 62, 63] (fun p : List El × List El × List El × Nat × Store => [(5, .sl p.2.2.2.1 p.2.2.1.length 0 p.2.2.1.length 2), (7, .int .i64 p.1.length)]) (fun p _ => p.2.2.2.2)
      (fun p => b = p.1 ++ p.2.1 ∧ p.2.2.2.2[p.2.2.2.1]? = some (.arr (spans p.2.2.1) 2 0 true) ∧ bothIn x p.2.1 p.2.2.1 = M ∧ p.2.2.1.length ≤ p.1.length + out.length)
      (fun p => p.2.1.length) ([], b, out, bo, S) ⟨rfl, h2, hM, by simp⟩ ?_ ⟨[], rfl⟩ ?_
    · ((try simp only [eraseA_cons, eraseA_nil, setL_cons, setL_nil, List.set_cons_zero, List.set_cons_succ]); all_goals (first | rfl | (simp only [len_snoc, ints_len, List.length_map, ]; done) | (simp only [len_snoc, len_mid, ints_len, List.length_map, List.length_append, List.length_cons, List.length_nil, Nat.zero_add, ]; done) | (simp only [len_mid, len_snoc, ints_len, List.length_map, List.length_append, List.length_cons, List.length_nil, Nat.zero_add, ]; rfl)))
    clear hM h2
    rintro ⟨pr, qo, acc, bo, S⟩ g G ⟨h1, h2, h3, h4⟩
    simp only at h1 h2 h3 h4
    simp only [garbA_cons, garbA_nil, setL_cons, setL_nil, List.set_cons_zero, List.set_cons_succ]
    cases qo with
    | nil =>
      have e : (b.length : Int) = (pr.length : Int) := by rw [h1, List.append_nil]
      have hh : Hold (acc = M) := ⟨h3⟩
      clear h1 h3
      repeat' (first | refine go1 ?_ | refine blockK_else rfl ?_ | (refine wpC_cond fun A B hA hB => ?_; simp only [go_sem, reduceIte, Nat.reduceAdd, Nat.reduceEqDiff, Nat.reduceLT, Nat.reduceLeDiff, *, wpK_assignN ty30 rfl, wpK_buildSlice ty30 rfl, lenK_sls hw, e, Int.lt_irrefl, spans_len, n1]; first | (refine hA.out ?_; clear hA hB A B) | (refine hB.out ?_; clear hA hB A B) | (refine iteI (fun h => hA.out ?_) (fun h => hB.out ?_) <;> clear hA hB A B) | (refine iteI (fun h => hB.out ?_) (fun h => hA.out ?_) <;> clear hA hB A B)) | (refine wpO_cons fun K hK => ?_; simp only [go_sem, reduceIte, Nat.reduceAdd, Nat.reduceEqDiff, Nat.reduceLT, Nat.reduceLeDiff, *, wpK_assignN ty30 rfl, wpK_buildSlice ty30 rfl, lenK_sls hw, e, Int.lt_irrefl, spans_len, n1]; first | (refine hK.out _ _ ?_; clear hK K) | (refine iteI (fun h => hK.out _ _ ?_) (fun h => hK.out _ _ ?_) <;> clear hK K)))
      refine loopF_next (pre ++ [x], po, acc, bo, _) (by simp only [List.length_cons]; omega) ⟨hh1.out, h2, by rw [hh.out]; exact hh3.out, ?_⟩ ?_ ⟨[], rfl⟩
      · simp only [len_snoc, hh.out]; exact hMl.out
      · ((try simp only [eraseA_cons, eraseA_nil, setL_cons, setL_nil, List.set_cons_zero, List.set_cons_succ]); all_goals (first | rfl | (simp only [len_snoc, ints_len, List.length_map, ]; done) | (simp only [len_snoc, len_mid, ints_len, List.length_map, List.length_append, List.length_cons, List.length_nil, Nat.zero_add, ]; done) | (simp only [len_mid, len_snoc, ints_len, List.length_map, List.length_append, List.length_cons, List.length_nil, Nat.zero_add, ]; rfl)))
    | cons y qo =>
      have ltb : (pr.length : Int) < (b.length : Int) := by rw [h1]; simp; omega
      have i2 := idx_sls hw (X := CX) ty30 ty23 rfl (n := pr.length) (row := [.int .i64 y.1, .int .i64 y.2]) (spans_get (by rw [h1]; simp)) (k := .i64)
      have n2 := wrap_succ (n := pr.length) (by omega)
      have hk1 : Hold (b = (pr ++ [y]) ++ qo) := ⟨by rw [h1]; simp⟩
      have a2 := at_app h2
      have qy := (rightR y).rw
      have qc := (rightR (cap x y)).rw
      have qi := (insertR (.tsl false 2 (spans acc)) acc (cap x y) (.rows false) (by omega)).rw
      have il := insS_len acc (cap x y)
      have to : (spans acc).take acc.length = spans acc := by rw [← spans_len acc]; exact List.take_length
      have e3 : bothIn x (y :: qo) acc = bothIn x qo (if rgt x = true ∧ rgt y = true ∧ rgt (cap x y) = true then insS acc (cap x y) else acc) := rfl
      rw [e3] at h3
      obtain ⟨I, hI⟩ : ∃ I, insS acc (cap x y) = I := ⟨_, rfl⟩
      rw [hI] at h3 qi il
      simp only [encE, cap] at qy qc qi
      clear h1 e3 hI
      by_cases hr : rgt x = true ∧ rgt y = true ∧ rgt (cap x y) = true
      · rw [if_pos hr] at h3
        obtain ⟨r1, r2, r3⟩ := hr
        rw [r1] at qx
        rw [r2] at qy
        rw [show rgt (max x.1 y.1, min x.2 y.2) = true from r3] at qc
        have hk3 : Hold (bothIn x qo I = M) := ⟨h3⟩
        clear h3 r1 r2 r3
        repeat' (first | refine go1 ?_ | refine blockK_else rfl ?_ | (refine wpC_cond fun A B hA hB => ?_; simp only [go_sem, reduceIte, Nat.reduceAdd, Nat.reduceEqDiff, Nat.reduceLT, Nat.reduceLeDiff, *, wpK_assignN ty30 rfl, wpK_buildSlice ty30 rfl, lenK_sls hw, i1, i2, a2, qx, qy, qc, qi, n2, max_if, min_if, set_lenAdd, List.set_cons_succ, List.getElem?_cons_succ, Nat.zero_le, at_new, at_newK, getElem?_len, getElem?_lenAdd, set_len, List.append_assoc, List.length_append, spans_len, snap_sl, rowsOf_sl, ints_len, ints_take, List.take_length, Nat.zero_le, Nat.zero_add, Bool.true_or, to]; first | (refine hA.out ?_; clear hA hB A B) | (refine hB.out ?_; clear hA hB A B) | (refine iteI (fun h => hA.out ?_) (fun h => hB.out ?_) <;> clear hA hB A B) | (refine iteI (fun h => hB.out ?_) (fun h => hA.out ?_) <;> clear hA hB A B)) | (refine wpO_cons fun K hK => ?_; simp only [go_sem, reduceIte, Nat.reduceAdd, Nat.reduceEqDiff, Nat.reduceLT, Nat.reduceLeDiff, *, wpK_assignN ty30 rfl, wpK_buildSlice ty30 rfl, lenK_sls hw, i1, i2, a2, qx, qy, qc, qi, n2, max_if, min_if, set_lenAdd, List.set_cons_succ, List.getElem?_cons_succ, Nat.zero_le, at_new, at_newK, getElem?_len, getElem?_lenAdd, set_len, List.append_assoc, List.length_append, spans_len, snap_sl, rowsOf_sl, ints_len, ints_take, List.take_length, Nat.zero_le, Nat.zero_add, Bool.true_or, to]; first | (refine hK.out _ _ ?_; clear hK K) | (refine iteI (fun h => hK.out _ _ ?_) (fun h => hK.out _ _ ?_) <;> clear hK K)))
        refine loopF_next (pr ++ [y], qo, I, S.length + 1, _) (by simp only [List.length_cons]; omega) ⟨hk1.out, by simp only; rw [getElem?_lenAdd]; rfl, hk3.out, ?_⟩ ?_ ⟨[], rfl⟩
        · simp only [len_snoc]; omega
        · ((try simp only [eraseA_cons, eraseA_nil, setL_cons, setL_nil, List.set_cons_zero, List.set_cons_succ]); all_goals (first | rfl | (simp only [len_snoc, ints_len, List.length_map, ]; done) | (simp only [len_snoc, len_mid, ints_len, List.length_map, List.length_append, List.length_cons, List.length_nil, Nat.zero_add, ]; done) | (simp only [len_mid, len_snoc, ints_len, List.length_map, List.length_append, List.length_cons, List.length_nil, Nat.zero_add, ]; rfl)))
      · rw [if_neg hr] at h3
        have hk3 : Hold (bothIn x qo acc = M) := ⟨h3⟩
        obtain ⟨r1, hr1⟩ : ∃ r, rgt x = r := ⟨_, rfl⟩
        obtain ⟨r2, hr2⟩ : ∃ r, rgt y = r := ⟨_, rfl⟩
        obtain ⟨r3, hr3⟩ : ∃ r, rgt (max x.1 y.1, min x.2 y.2) = r := ⟨_, rfl⟩
        have hr4 : rgt (cap x y) = r3 := hr3
        rw [hr1, hr2, hr4] at hr
        rw [hr1] at qx
        rw [hr2] at qy
        rw [hr3] at qc
        clear h3 hr1 hr2 hr3 hr4
        cases r1 <;> cases r2 <;> cases r3
        all_goals first
          | exact absurd ⟨rfl, rfl, rfl⟩ hr
          | (clear hr
             repeat' (first | refine go1 ?_ | refine blockK_else rfl ?_ | (refine wpC_cond fun A B hA hB => ?_; simp only [go_sem, reduceIte, Nat.reduceAdd, Nat.reduceEqDiff, Nat.reduceLT, Nat.reduceLeDiff, *, wpK_assignN ty30 rfl, wpK_buildSlice ty30 rfl, lenK_sls hw, i1, i2, a2, qx, qy, qc, qi, n2, max_if, min_if, set_lenAdd, List.set_cons_succ, List.getElem?_cons_succ, Nat.zero_le, at_new, at_newK, getElem?_len, getElem?_lenAdd, set_len, List.append_assoc, List.length_append, spans_len, snap_sl, rowsOf_sl, ints_len, ints_take, List.take_length, Nat.zero_le, Nat.zero_add, Bool.true_or, to]; first | (refine hA.out ?_; clear hA hB A B) | (refine hB.out ?_; clear hA hB A B) | (refine iteI (fun h => hA.out ?_) (fun h => hB.out ?_) <;> clear hA hB A B) | (refine iteI (fun h => hB.out ?_) (fun h => hA.out ?_) <;> clear hA hB A B)) | (refine wpO_cons fun K hK => ?_; simp only [go_sem, reduceIte, Nat.reduceAdd, Nat.reduceEqDiff, Nat.reduceLT, Nat.reduceLeDiff, *, wpK_assignN ty30 rfl, wpK_buildSlice ty30 rfl, lenK_sls hw, i1, i2, a2, qx, qy, qc, qi, n2, max_if, min_if, set_lenAdd, List.set_cons_succ, List.getElem?_cons_succ, Nat.zero_le, at_new, at_newK, getElem?_len, getElem?_lenAdd, set_len, List.append_assoc, List.length_append, spans_len, snap_sl, rowsOf_sl, ints_len, ints_take, List.take_length, Nat.zero_le, Nat.zero_add, Bool.true_or, to]; first | (refine hK.out _ _ ?_; clear hK K) | (refine iteI (fun h => hK.out _ _ ?_) (fun h => hK.out _ _ ?_) <;> clear hK K)))
             refine loopF_next (pr ++ [y], qo, acc, bo, _) (by simp only [List.length_cons]; omega) ⟨hk1.out, a2 _, hk3.out, ?_⟩ ?_ ⟨[], rfl⟩
             · simp only [len_snoc]; omega
             · ((try simp only [eraseA_cons, eraseA_nil, setL_cons, setL_nil, List.set_cons_zero, List.set_cons_succ]); all_goals (first | rfl | (simp only [len_snoc, ints_len, List.length_map, ]; done) | (simp only [len_snoc, len_mid, ints_len, List.length_map, List.length_append, List.length_cons, List.length_nil, Nat.zero_add, ]; done) | (simp only [len_mid, len_snoc, ints_len, List.length_map, List.length_append, List.length_cons, List.length_nil, Nat.zero_add, ]; rfl))))

/- Chapter 9: what the laws' own small functions compute. -/
open Go.Proofs
attribute [local go_sem] fz13
set_option maxRecDepth 20000
set_option maxHeartbeats 4000000

theorem copiedE (v : AV) (l : List El) (hv : SLs 2 (spans l) v) (hl : l.length ≤ 1000000) : EvV CX 21 [v] (· = .osl 2 (spans l)) := by
  have r1 := hv.rowsOf
  have so := span_ok (n := l.length) (by omega)
  have so2 : l.length * 16 ≤ 140737488355328 ∧ l.length ≤ 140737488355328 := by omega
  by_cases h : l.length = 0
  · have h' : spans l = [] := by rw [List.eq_nil_of_length_eq_zero h]; rfl
    rw [h'] at r1 ⊢
    clear h' hv
    refine EvV.walk rfl fn21 rfl nt21 rfl ?_
    simp only [List.length_cons, List.length_nil, List.cons_append, List.nil_append, Nat.reduceAdd, Nat.reduceSub, List.replicate]
    repeat' (first | refine go1 ?_ | refine blockK_else rfl ?_ | (refine wpC_cond fun A B hA hB => ?_; simp only [go_sem, reduceIte, Nat.reduceAdd, Nat.reduceEqDiff, Nat.reduceLT, Nat.reduceLeDiff, *, wpK_append ty30 rfl, wpK_assignN ty30 rfl, wpK_buildSlice ty30 rfl, r1, set_lenAdd, List.set_cons_succ, List.getElem?_cons_succ, Nat.zero_le, at_new, at_newK, getElem?_len, getElem?_lenAdd, set_len, List.append_assoc, List.length_append, spans_len, snap_sl, rowsOf_sl, ints_len, ints_take, List.take_length, Nat.zero_le, Nat.zero_add, Bool.true_or]; first | (refine hA.out ?_; clear hA hB A B) | (refine hB.out ?_; clear hA hB A B) | (refine iteI (fun h => hA.out ?_) (fun h => hB.out ?_) <;> clear hA hB A B) | (refine iteI (fun h => hB.out ?_) (fun h => hA.out ?_) <;> clear hA hB A B)) | (refine wpO_cons fun K hK => ?_; simp only [go_sem, reduceIte, Nat.reduceAdd, Nat.reduceEqDiff, Nat.reduceLT, Nat.reduceLeDiff, *, wpK_append ty30 rfl, wpK_assignN ty30 rfl, wpK_buildSlice ty30 rfl, r1, set_lenAdd, List.set_cons_succ, List.getElem?_cons_succ, Nat.zero_le, at_new, at_newK, getElem?_len, getElem?_lenAdd, set_len, List.append_assoc, List.length_append, spans_len, snap_sl, rowsOf_sl, ints_len, ints_take, List.take_length, Nat.zero_le, Nat.zero_add, Bool.true_or]; first | (refine hK.out _ _ ?_; clear hK K) | (refine iteI (fun h => hK.out _ _ ?_) (fun h => hK.out _ _ ?_) <;> clear hK K)))
    simp only [resultsR, resultsL, resultA, expK_int, expK_bool, expK_str, expK_agg, expK_own, expK_tsl, resK_some, go_sem, reduceIte, Nat.reduceAdd, Nat.reduceEqDiff, Nat.reduceLT, Nat.reduceLeDiff, wpK_append ty30 rfl, wpK_assignN ty30 rfl, wpK_buildSlice ty30 rfl, ]
    simp
  · refine EvV.walk rfl fn21 rfl nt21 rfl ?_
    simp only [List.length_cons, List.length_nil, List.cons_append, List.nil_append, Nat.reduceAdd, Nat.reduceSub, List.replicate]
    repeat' (first | refine go1 ?_ | refine blockK_else rfl ?_ | (refine wpC_cond fun A B hA hB => ?_; simp only [go_sem, reduceIte, Nat.reduceAdd, Nat.reduceEqDiff, Nat.reduceLT, Nat.reduceLeDiff, *, wpK_append ty30 rfl, wpK_assignN ty30 rfl, wpK_buildSlice ty30 rfl, r1, set_lenAdd, List.set_cons_succ, List.getElem?_cons_succ, Nat.zero_le, at_new, at_newK, getElem?_len, getElem?_lenAdd, set_len, List.append_assoc, List.length_append, spans_len, snap_sl, rowsOf_sl, ints_len, ints_take, List.take_length, Nat.zero_le, Nat.zero_add, Bool.true_or]; first | (refine hA.out ?_; clear hA hB A B) | (refine hB.out ?_; clear hA hB A B) | (refine iteI (fun h => hA.out ?_) (fun h => hB.out ?_) <;> clear hA hB A B) | (refine iteI (fun h => hB.out ?_) (fun h => hA.out ?_) <;> clear hA hB A B)) | (refine wpO_cons fun K hK => ?_; simp only [go_sem, reduceIte, Nat.reduceAdd, Nat.reduceEqDiff, Nat.reduceLT, Nat.reduceLeDiff, *, wpK_append ty30 rfl, wpK_assignN ty30 rfl, wpK_buildSlice ty30 rfl, r1, set_lenAdd, List.set_cons_succ, List.getElem?_cons_succ, Nat.zero_le, at_new, at_newK, getElem?_len, getElem?_lenAdd, set_len, List.append_assoc, List.length_append, spans_len, snap_sl, rowsOf_sl, ints_len, ints_take, List.take_length, Nat.zero_le, Nat.zero_add, Bool.true_or]; first | (refine hK.out _ _ ?_; clear hK K) | (refine iteI (fun h => hK.out _ _ ?_) (fun h => hK.out _ _ ?_) <;> clear hK K)))
    simp only [resultsR, resultsL, resultA, expK_int, expK_bool, expK_str, expK_agg, expK_own, expK_tsl, resK_some, go_sem, reduceIte, Nat.reduceAdd, Nat.reduceEqDiff, Nat.reduceLT, Nat.reduceLeDiff, wpK_append ty30 rfl, wpK_assignN ty30 rfl, wpK_buildSlice ty30 rfl, spans_len, List.getElem?_cons_succ]
    simp
theorem fewE (v w : AV) (a b : List El) (hv : SLs 2 (spans a) v) (hw : SLs 2 (spans b) w) : EvV CX 23 [v, w] (· = .bool (decide (a.length ≤ 60) && decide (b.length ≤ 60))) := by
  have e1 : decide (((spans a).length : Int) ≤ 60) = decide (a.length ≤ 60) := by rw [spans_len]; congr 1; apply propext; omega
  have e2 : decide (((spans b).length : Int) ≤ 60) = decide (b.length ≤ 60) := by rw [spans_len]; congr 1; apply propext; omega
  by_cases h : a.length ≤ 60
  · have k : decide (a.length ≤ 60) = true := by simp [h]
    rw [k] at e1 ⊢
    clear h k
    refine EvV.walk rfl fn23 rfl nt23 rfl ?_
    simp only [List.length_cons, List.length_nil, List.cons_append, List.nil_append, Nat.reduceAdd, Nat.reduceSub, List.replicate]
    repeat' (first | refine go1 ?_ | refine blockK_else rfl ?_ | (refine wpC_cond fun A B hA hB => ?_; simp only [go_sem, reduceIte, Nat.reduceAdd, Nat.reduceEqDiff, Nat.reduceLT, Nat.reduceLeDiff, *, and_self, lenK_sls hv, lenK_sls hw, e1, e2]; first | (refine hA.out ?_; clear hA hB A B) | (refine hB.out ?_; clear hA hB A B) | (refine iteI (fun h => hA.out ?_) (fun h => hB.out ?_) <;> clear hA hB A B) | (refine iteI (fun h => hB.out ?_) (fun h => hA.out ?_) <;> clear hA hB A B)) | (refine wpO_cons fun K hK => ?_; simp only [go_sem, reduceIte, Nat.reduceAdd, Nat.reduceEqDiff, Nat.reduceLT, Nat.reduceLeDiff, *, and_self, lenK_sls hv, lenK_sls hw, e1, e2]; first | (refine hK.out _ _ ?_; clear hK K) | (refine iteI (fun h => hK.out _ _ ?_) (fun h => hK.out _ _ ?_) <;> clear hK K)))
    simp only [resultsR, resultsL, resultA, expK_int, expK_bool, expK_str, expK_agg, expK_own, expK_tsl, resK_some, go_sem, reduceIte, Nat.reduceAdd, Nat.reduceEqDiff, Nat.reduceLT, Nat.reduceLeDiff, and_self, Bool.true_and, e2]
  · have k : decide (a.length ≤ 60) = false := by simp [h]
    rw [k] at e1 ⊢
    clear h k
    refine EvV.walk rfl fn23 rfl nt23 rfl ?_
    simp only [List.length_cons, List.length_nil, List.cons_append, List.nil_append, Nat.reduceAdd, Nat.reduceSub, List.replicate]
    repeat' (first | refine go1 ?_ | refine blockK_else rfl ?_ | (refine wpC_cond fun A B hA hB => ?_; simp only [go_sem, reduceIte, Nat.reduceAdd, Nat.reduceEqDiff, Nat.reduceLT, Nat.reduceLeDiff, *, and_self, lenK_sls hv, lenK_sls hw, e1, e2]; first | (refine hA.out ?_; clear hA hB A B) | (refine hB.out ?_; clear hA hB A B) | (refine iteI (fun h => hA.out ?_) (fun h => hB.out ?_) <;> clear hA hB A B) | (refine iteI (fun h => hB.out ?_) (fun h => hA.out ?_) <;> clear hA hB A B)) | (refine wpO_cons fun K hK => ?_; simp only [go_sem, reduceIte, Nat.reduceAdd, Nat.reduceEqDiff, Nat.reduceLT, Nat.reduceLeDiff, *, and_self, lenK_sls hv, lenK_sls hw, e1, e2]; first | (refine hK.out _ _ ?_; clear hK K) | (refine iteI (fun h => hK.out _ _ ?_) (fun h => hK.out _ _ ?_) <;> clear hK K)))
    simp only [resultsR, resultsL, resultA, expK_int, expK_bool, expK_str, expK_agg, expK_own, expK_tsl, resK_some, go_sem, reduceIte, Nat.reduceAdd, Nat.reduceEqDiff, Nat.reduceLT, Nat.reduceLeDiff, and_self, Bool.false_and]

/-- A time of a list, as the code tests it. -/
def in1 (s : El) (t : Int) : Bool := decide (0 ≤ s.1) && decide (s.2 ≤ 86400000) && decide (s.1 ≤ t) && decide (t < s.2)
def inB (l : List El) (t : Int) : Bool := l.any fun s => in1 s t
theorem inB_iff (l : List El) (t : Int) : inB l t = true ↔ Tr l t := by
  unfold inB Tr Tm
  rw [List.any_eq_true]
  constructor
  · rintro ⟨s, h1, h2⟩
    simp only [in1, Bool.and_eq_true, decide_eq_true_eq] at h2
    refine ⟨s, List.mem_filter.mpr ⟨h1, ?_⟩, by omega, by omega⟩
    rw [rgt_iff]; omega
  · rintro ⟨s, h1, h2, h3⟩
    obtain ⟨h4, h5⟩ := List.mem_filter.mp h1
    have := rgt_iff.mp h5
    refine ⟨s, h4, ?_⟩
    simp only [in1, Bool.and_eq_true, decide_eq_true_eq]; omega

theorem inE (v : AV) (l : List El) (t : Int) (hv : SLs 2 (spans l) v) (hl : l.length < 9223372036854775807) : EvV CX 33 [v, .int .i64 t] (· = .bool (inB l t)) := by
  refine EvV.walk rfl fn33 rfl nt33 rfl ?_
  simp only [List.length_cons, List.length_nil, List.cons_append, List.nil_append, Nat.reduceAdd, Nat.reduceSub, List.replicate]
  repeat' (first | refine go1 ?_ | refine blockK_else rfl ?_ | (refine wpC_cond fun A B hA hB => ?_; simp only [go_sem, reduceIte, Nat.reduceAdd, Nat.reduceEqDiff, Nat.reduceLT, Nat.reduceLeDiff, *, and_self, lenK_sls hv]; first | (refine hA.out ?_; clear hA hB A B) | (refine hB.out ?_; clear hA hB A B) | (refine iteI (fun h => hA.out ?_) (fun h => hB.out ?_) <;> clear hA hB A B) | (refine iteI (fun h => hB.out ?_) (fun h => hA.out ?_) <;> clear hA hB A B)) | (refine wpO_cons fun K hK => ?_; simp only [go_sem, reduceIte, Nat.reduceAdd, Nat.reduceEqDiff, Nat.reduceLT, Nat.reduceLeDiff, *, and_self, lenK_sls hv]; first | (refine hK.out _ _ ?_; clear hK K) | (refine iteI (fun h => hK.out _ _ ?_) (fun h => hK.out _ _ ?_) <;> clear hK K)))
  refine wpC_each [4, 6, 7, 8, 9, 10, 11, 12, 13, 14, 15, 16, 17, 18, 19, 20, 21, 22, 23, 24, 25, 26, 27, 28, 29, 30, 31, 32, 33, 34, 35, 36, 37, 38, 39, 40, 41, 42, 43] 5 l (fun _ post => inB l t = inB post t) ?_ ?_ ?_ ?_
  · rfl
  · rfl
  · intro g G h2
    rw [h2]; simp only [garbA_cons, garbA_nil, setL_cons, setL_nil, List.set_cons_zero, List.set_cons_succ]
    repeat' (first | refine go1 ?_ | refine blockK_else rfl ?_ | (refine wpC_cond fun A B hA hB => ?_; simp only [go_sem, reduceIte, Nat.reduceAdd, Nat.reduceEqDiff, Nat.reduceLT, Nat.reduceLeDiff, *, and_self, lenK_sls hv, spans_len, ints_len, List.length_map, Int.lt_irrefl, List.nil_append]; first | (refine hA.out ?_; clear hA hB A B) | (refine hB.out ?_; clear hA hB A B) | (refine iteI (fun h => hA.out ?_) (fun h => hB.out ?_) <;> clear hA hB A B) | (refine iteI (fun h => hB.out ?_) (fun h => hA.out ?_) <;> clear hA hB A B)) | (refine wpO_cons fun K hK => ?_; simp only [go_sem, reduceIte, Nat.reduceAdd, Nat.reduceEqDiff, Nat.reduceLT, Nat.reduceLeDiff, *, and_self, lenK_sls hv, spans_len, ints_len, List.length_map, Int.lt_irrefl, List.nil_append]; first | (refine hK.out _ _ ?_; clear hK K) | (refine iteI (fun h => hK.out _ _ ?_) (fun h => hK.out _ _ ?_) <;> clear hK K)))
    simp only [resultsR, resultsL, resultA, expK_int, expK_bool, expK_str, expK_agg, expK_own, expK_tsl, resK_some, go_sem, reduceIte, Nat.reduceAdd, Nat.reduceEqDiff, Nat.reduceLT, Nat.reduceLeDiff, and_self, ]
    rfl
  · intro g G pre x post h1 h2
    rw [h2]
    have lta : (pre.length : Int) < (l.length : Int) := by rw [h1]; simp; omega
    have i1 := idx_sls hv (X := CX) ty30 ty23 rfl (n := pre.length) (row := [.int .i64 x.1, .int .i64 x.2]) (spans_get (by rw [h1]; simp)) (k := .i64)
    have w1 := wrap_succ (n := pre.length) (by omega)
    have hh1 : Hold (l = pre ++ x :: post) := ⟨h1⟩
    have hh2 : Hold (inB l t = inB (x :: post) t) := ⟨h2⟩
    clear h1 h2
    simp only [garbA_cons, garbA_nil, setL_cons, setL_nil, List.set_cons_zero, List.set_cons_succ]
    have e : inB (x :: post) t = (in1 x t || inB post t) := by simp [inB]
    by_cases k1 : 0 ≤ x.1 <;> by_cases k2 : x.2 ≤ 86400000 <;> by_cases k3 : x.1 ≤ t <;> by_cases k4 : t < x.2
    · have k : in1 x t = true := by simp [in1, k1, k2, k3, k4]
      repeat' (first | refine go1 ?_ | refine blockK_else rfl ?_ | (refine wpC_cond fun A B hA hB => ?_; simp only [go_sem, reduceIte, Nat.reduceAdd, Nat.reduceEqDiff, Nat.reduceLT, Nat.reduceLeDiff, *, and_self, lenK_sls hv, spans_len, i1, w1]; first | (refine hA.out ?_; clear hA hB A B) | (refine hB.out ?_; clear hA hB A B) | (refine iteI (fun h => hA.out ?_) (fun h => hB.out ?_) <;> clear hA hB A B) | (refine iteI (fun h => hB.out ?_) (fun h => hA.out ?_) <;> clear hA hB A B)) | (refine wpO_cons fun K hK => ?_; simp only [go_sem, reduceIte, Nat.reduceAdd, Nat.reduceEqDiff, Nat.reduceLT, Nat.reduceLeDiff, *, and_self, lenK_sls hv, spans_len, i1, w1]; first | (refine hK.out _ _ ?_; clear hK K) | (refine iteI (fun h => hK.out _ _ ?_) (fun h => hK.out _ _ ?_) <;> clear hK K)))
      simp only [resultsR, resultsL, resultA, expK_int, expK_bool, expK_str, expK_agg, expK_own, expK_tsl, resK_some, go_sem, reduceIte, Nat.reduceAdd, Nat.reduceEqDiff, Nat.reduceLT, Nat.reduceLeDiff, and_self, ]
      simp [inB, k]
    all_goals
      have k : in1 x t = false := by simp [in1]; omega
      repeat' (first | refine go1 ?_ | refine blockK_else rfl ?_ | (refine wpC_cond fun A B hA hB => ?_; simp only [go_sem, reduceIte, Nat.reduceAdd, Nat.reduceEqDiff, Nat.reduceLT, Nat.reduceLeDiff, *, and_self, lenK_sls hv, spans_len, i1, w1]; first | (refine hA.out ?_; clear hA hB A B) | (refine hB.out ?_; clear hA hB A B) | (refine iteI (fun h => hA.out ?_) (fun h => hB.out ?_) <;> clear hA hB A B) | (refine iteI (fun h => hB.out ?_) (fun h => hA.out ?_) <;> clear hA hB A B)) | (refine wpO_cons fun K hK => ?_; simp only [go_sem, reduceIte, Nat.reduceAdd, Nat.reduceEqDiff, Nat.reduceLT, Nat.reduceLeDiff, *, and_self, lenK_sls hv, spans_len, i1, w1]; first | (refine hK.out _ _ ?_; clear hK K) | (refine iteI (fun h => hK.out _ _ ?_) (fun h => hK.out _ _ ?_) <;> clear hK K)))
      refine each_next hh1.out ?_ ?_ ?_
      · rw [e, k, Bool.false_or]
      · ((try simp only [eraseA_cons, eraseA_nil, setL_cons, setL_nil, List.set_cons_zero, List.set_cons_succ]); all_goals (first | rfl | (simp only [len_snoc, ints_len, List.length_map, ]; done) | (simp only [len_snoc, len_mid, ints_len, List.length_map, List.length_append, List.length_cons, List.length_nil, Nat.zero_add, ]; done) | (simp only [len_mid, len_snoc, ints_len, List.length_map, List.length_append, List.length_cons, List.length_nil, Nat.zero_add, ]; rfl)))
      · first | exact ⟨[], (List.append_nil _).symm⟩ | exact ⟨_, rfl⟩ | (simp only [List.append_assoc, List.cons_append, List.nil_append]; exact ⟨_, rfl⟩)

theorem normalE (v : AV) (l : List El) (hv : SLs 2 (spans l) v) (hn : Norm l) (hl : l.length < 9223372036854775807) : EvV CX 32 [v] (· = .bool true) := by
  refine EvV.walk rfl fn32 rfl nt32 rfl ?_
  simp only [List.length_cons, List.length_nil, List.cons_append, List.nil_append, Nat.reduceAdd, Nat.reduceSub, List.replicate]
  repeat' (first | refine go1 ?_ | refine blockK_else rfl ?_ | (refine wpC_cond fun A B hA hB => ?_; simp only [go_sem, reduceIte, Nat.reduceAdd, Nat.reduceEqDiff, Nat.reduceLT, Nat.reduceLeDiff, *, and_self, lenK_sls hv]; first | (refine hA.out ?_; clear hA hB A B) | (refine hB.out ?_; clear hA hB A B) | (refine iteI (fun h => hA.out ?_) (fun h => hB.out ?_) <;> clear hA hB A B) | (refine iteI (fun h => hB.out ?_) (fun h => hA.out ?_) <;> clear hA hB A B)) | (refine wpO_cons fun K hK => ?_; simp only [go_sem, reduceIte, Nat.reduceAdd, Nat.reduceEqDiff, Nat.reduceLT, Nat.reduceLeDiff, *, and_self, lenK_sls hv]; first | (refine hK.out _ _ ?_; clear hK K) | (refine iteI (fun h => hK.out _ _ ?_) (fun h => hK.out _ _ ?_) <;> clear hK K)))
  refine wpC_each [2, 4, 5, 6, 7, 8, 9, 10, 11, 12, 13, 14, 15, 16, 17, 18, 19, 20, 21, 22, 23, 24, 25, 26, 27, 28, 29, 30, 31, 32, 33, 34, 35, 36, 37, 38, 39, 40, 41, 42, 43, 44, 45, 46, 47, 48, 49, 50, 51, 52, 53, 54] 3 l (fun _ _ => True) ?_ ?_ ?_ ?_
  · trivial
  · rfl
  · intro g G h2
    simp only [garbA_cons, garbA_nil, setL_cons, setL_nil, List.set_cons_zero, List.set_cons_succ]
    repeat' (first | refine go1 ?_ | refine blockK_else rfl ?_ | (refine wpC_cond fun A B hA hB => ?_; simp only [go_sem, reduceIte, Nat.reduceAdd, Nat.reduceEqDiff, Nat.reduceLT, Nat.reduceLeDiff, *, and_self, lenK_sls hv, spans_len, ints_len, List.length_map, Int.lt_irrefl, List.nil_append]; first | (refine hA.out ?_; clear hA hB A B) | (refine hB.out ?_; clear hA hB A B) | (refine iteI (fun h => hA.out ?_) (fun h => hB.out ?_) <;> clear hA hB A B) | (refine iteI (fun h => hB.out ?_) (fun h => hA.out ?_) <;> clear hA hB A B)) | (refine wpO_cons fun K hK => ?_; simp only [go_sem, reduceIte, Nat.reduceAdd, Nat.reduceEqDiff, Nat.reduceLT, Nat.reduceLeDiff, *, and_self, lenK_sls hv, spans_len, ints_len, List.length_map, Int.lt_irrefl, List.nil_append]; first | (refine hK.out _ _ ?_; clear hK K) | (refine iteI (fun h => hK.out _ _ ?_) (fun h => hK.out _ _ ?_) <;> clear hK K)))
    simp only [resultsR, resultsL, resultA, expK_int, expK_bool, expK_str, expK_agg, expK_own, expK_tsl, resK_some, go_sem, reduceIte, Nat.reduceAdd, Nat.reduceEqDiff, Nat.reduceLT, Nat.reduceLeDiff, and_self, ]
  · intro g G pre x post h1 _
    have lta : (pre.length : Int) < (l.length : Int) := by rw [h1]; simp; omega
    have i1 := idx_sls hv (X := CX) ty30 ty23 rfl (n := pre.length) (row := [.int .i64 x.1, .int .i64 x.2]) (spans_get (by rw [h1]; simp)) (k := .i64)
    have w1 := wrap_succ (n := pre.length) (by omega)
    have hh1 : Hold (l = pre ++ x :: post) := ⟨h1⟩
    have hx := rgt_iff.mp (hn.rg x (by rw [h1]; simp))
    have x1 : ¬ x.1 < 0 := by omega
    have x2 : ¬ x.2 ≤ x.1 := by omega
    have x3 : ¬ 86400000 < x.2 := by omega
    simp only [garbA_cons, garbA_nil, setL_cons, setL_nil, List.set_cons_zero, List.set_cons_succ]
    rcases snoc_cases pre with hp | ⟨pr, y, hp⟩
    · have z : ¬ (0 : Int) < (pre.length : Int) := by rw [hp]; simp
      have hh2 : Hold (pre = []) := ⟨hp⟩
      clear h1 hp hx
      repeat' (first | refine go1 ?_ | refine blockK_else rfl ?_ | (refine wpC_cond fun A B hA hB => ?_; simp only [go_sem, reduceIte, Nat.reduceAdd, Nat.reduceEqDiff, Nat.reduceLT, Nat.reduceLeDiff, *, and_self, lenK_sls hv, spans_len, i1, w1]; first | (refine hA.out ?_; clear hA hB A B) | (refine hB.out ?_; clear hA hB A B) | (refine iteI (fun h => hA.out ?_) (fun h => hB.out ?_) <;> clear hA hB A B) | (refine iteI (fun h => hB.out ?_) (fun h => hA.out ?_) <;> clear hA hB A B)) | (refine wpO_cons fun K hK => ?_; simp only [go_sem, reduceIte, Nat.reduceAdd, Nat.reduceEqDiff, Nat.reduceLT, Nat.reduceLeDiff, *, and_self, lenK_sls hv, spans_len, i1, w1]; first | (refine hK.out _ _ ?_; clear hK K) | (refine iteI (fun h => hK.out _ _ ?_) (fun h => hK.out _ _ ?_) <;> clear hK K)))
      refine each_next hh1.out trivial ?_ ?_
      · ((try simp only [eraseA_cons, eraseA_nil, setL_cons, setL_nil, List.set_cons_zero, List.set_cons_succ]); all_goals (first | rfl | (simp only [len_snoc, ints_len, List.length_map, ]; done) | (simp only [len_snoc, len_mid, ints_len, List.length_map, List.length_append, List.length_cons, List.length_nil, Nat.zero_add, ]; done) | (simp only [len_mid, len_snoc, ints_len, List.length_map, List.length_append, List.length_cons, List.length_nil, Nat.zero_add, ]; rfl)))
      · first | exact ⟨[], (List.append_nil _).symm⟩ | exact ⟨_, rfl⟩ | (simp only [List.append_assoc, List.cons_append, List.nil_append]; exact ⟨_, rfl⟩)
    · have hpl : pre.length = pr.length + 1 := by rw [hp]; simp
      have z : (0 : Int) < (pre.length : Int) := by omega
      have w2 : IntKind.wrap .i64 ((pre.length : Int) - 1) = (pr.length : Int) := by rw [wrap_small (by omega) (by omega)]; omega
      have i2 := idx_sls hv (X := CX) ty30 ty23 rfl (n := pr.length) (row := [.int .i64 y.1, .int .i64 y.2]) (spans_get (by rw [h1, hp]; simp)) (k := .i64)
      have hxy : y.2 < x.1 := by
        rw [h1] at hn
        obtain ⟨_, _, n3⟩ := norm_app.mp hn
        exact n3 y (by rw [hp]; simp) x (by simp)
      have x4 : ¬ x.1 ≤ y.2 := by omega
      clear h1 hp hx hxy hpl
      repeat' (first | refine go1 ?_ | refine blockK_else rfl ?_ | (refine wpC_cond fun A B hA hB => ?_; simp only [go_sem, reduceIte, Nat.reduceAdd, Nat.reduceEqDiff, Nat.reduceLT, Nat.reduceLeDiff, *, and_self, lenK_sls hv, spans_len, i1, i2, w1, w2]; first | (refine hA.out ?_; clear hA hB A B) | (refine hB.out ?_; clear hA hB A B) | (refine iteI (fun h => hA.out ?_) (fun h => hB.out ?_) <;> clear hA hB A B) | (refine iteI (fun h => hB.out ?_) (fun h => hA.out ?_) <;> clear hA hB A B)) | (refine wpO_cons fun K hK => ?_; simp only [go_sem, reduceIte, Nat.reduceAdd, Nat.reduceEqDiff, Nat.reduceLT, Nat.reduceLeDiff, *, and_self, lenK_sls hv, spans_len, i1, i2, w1, w2]; first | (refine hK.out _ _ ?_; clear hK K) | (refine iteI (fun h => hK.out _ _ ?_) (fun h => hK.out _ _ ?_) <;> clear hK K)))
      refine each_next hh1.out trivial ?_ ?_
      · ((try simp only [eraseA_cons, eraseA_nil, setL_cons, setL_nil, List.set_cons_zero, List.set_cons_succ]); all_goals (first | rfl | (simp only [len_snoc, ints_len, List.length_map, ]; done) | (simp only [len_snoc, len_mid, ints_len, List.length_map, List.length_append, List.length_cons, List.length_nil, Nat.zero_add, ]; done) | (simp only [len_mid, len_snoc, ints_len, List.length_map, List.length_append, List.length_cons, List.length_nil, Nat.zero_add, ]; rfl)))
      · first | exact ⟨[], (List.append_nil _).symm⟩ | exact ⟨_, rfl⟩ | (simp only [List.append_assoc, List.cons_append, List.nil_append]; exact ⟨_, rfl⟩)

/- Chapter 9: the laws Unions, Sets, Covers. -/
open Go.Proofs
attribute [local go_sem] br16 br19 br20 br21 fz20 br23 br24 br25 br26 fz21 fz22 fz23 br28 br29 br30 br31 fz24 fz25
set_option maxRecDepth 20000
set_option maxHeartbeats 4000000

theorem snapT (S : Store) (l : List El) : snap S (.tsl true 2 (spans l)) = some (.tsl true 2 (spans l)) := by simp only [snap]
theorem slsT (l : List El) : SLs 2 (spans l) (.tsl true 2 (spans l)) := .rows true

theorem law1 (v : AV) (l : List El) (hv : SLs 2 (spans l) v) : EvV CX 6 [v] (· = .bool true) := by
  have qa := awake.rw
  by_cases h : l.length ≤ 60
  · have h' : ¬ (60 : Int) < (l.length : Int) := by omega
    have q1 := (copiedE v l hv (by omega)).rw
    have q2 := (unionE _ l (slsT l) (by omega)).rw
    have q3 := (unionR v l hv (by omega)).rw
    have q4 := (sameR _ _ (uniR l) (uniR l) (slsT _) (slsT _) (by have := uniR_len l; omega)).rw
    simp only [decide_true] at q4
    have s1 := hv.snap
    clear h
    refine EvV.walk rfl fn6 rfl nt6 rfl ?_
    simp only [List.length_cons, List.length_nil, List.cons_append, List.nil_append, Nat.reduceAdd, Nat.reduceSub, List.replicate]
    repeat' (first | refine go1 ?_ | refine blockK_else rfl ?_ | (refine wpC_cond fun A B hA hB => ?_; simp only [go_sem, reduceIte, Nat.reduceAdd, Nat.reduceEqDiff, Nat.reduceLT, Nat.reduceLeDiff, *, and_self, lenK_sls hv, spans_len, s1, snapT, q1, q2, q3, q4, qa]; first | (refine hA.out ?_; clear hA hB A B) | (refine hB.out ?_; clear hA hB A B) | (refine iteI (fun h => hA.out ?_) (fun h => hB.out ?_) <;> clear hA hB A B) | (refine iteI (fun h => hB.out ?_) (fun h => hA.out ?_) <;> clear hA hB A B)) | (refine wpO_cons fun K hK => ?_; simp only [go_sem, reduceIte, Nat.reduceAdd, Nat.reduceEqDiff, Nat.reduceLT, Nat.reduceLeDiff, *, and_self, lenK_sls hv, spans_len, s1, snapT, q1, q2, q3, q4, qa]; first | (refine hK.out _ _ ?_; clear hK K) | (refine iteI (fun h => hK.out _ _ ?_) (fun h => hK.out _ _ ?_) <;> clear hK K)))
    simp only [resultsR, resultsL, resultA, expK_int, expK_bool, expK_str, expK_agg, expK_own, expK_tsl, resK_some, go_sem, reduceIte, Nat.reduceAdd, Nat.reduceEqDiff, Nat.reduceLT, Nat.reduceLeDiff, and_self, ]
  · have h' : (60 : Int) < (l.length : Int) := by omega
    clear h
    refine EvV.walk rfl fn6 rfl nt6 rfl ?_
    simp only [List.length_cons, List.length_nil, List.cons_append, List.nil_append, Nat.reduceAdd, Nat.reduceSub, List.replicate]
    repeat' (first | refine go1 ?_ | refine blockK_else rfl ?_ | (refine wpC_cond fun A B hA hB => ?_; simp only [go_sem, reduceIte, Nat.reduceAdd, Nat.reduceEqDiff, Nat.reduceLT, Nat.reduceLeDiff, *, and_self, lenK_sls hv, spans_len, qa]; first | (refine hA.out ?_; clear hA hB A B) | (refine hB.out ?_; clear hA hB A B) | (refine iteI (fun h => hA.out ?_) (fun h => hB.out ?_) <;> clear hA hB A B) | (refine iteI (fun h => hB.out ?_) (fun h => hA.out ?_) <;> clear hA hB A B)) | (refine wpO_cons fun K hK => ?_; simp only [go_sem, reduceIte, Nat.reduceAdd, Nat.reduceEqDiff, Nat.reduceLT, Nat.reduceLeDiff, *, and_self, lenK_sls hv, spans_len, qa]; first | (refine hK.out _ _ ?_; clear hK K) | (refine iteI (fun h => hK.out _ _ ?_) (fun h => hK.out _ _ ?_) <;> clear hK K)))
    simp only [resultsR, resultsL, resultA, expK_int, expK_bool, expK_str, expK_agg, expK_own, expK_tsl, resK_some, go_sem, reduceIte, Nat.reduceAdd, Nat.reduceEqDiff, Nat.reduceLT, Nat.reduceLeDiff, and_self, ]

theorem law2 (v w : AV) (a b : List El) (hv : SLs 2 (spans a) v) (hw : SLs 2 (spans b) w) : EvV CX 7 [v, w] (· = .bool true) := by
  have qa := awake.rw
  have q0 := (fewE v w a b hv hw).rw
  have s1 := hv.snap
  have s2 := hw.snap
  by_cases h : a.length ≤ 60 ∧ b.length ≤ 60
  · obtain ⟨h1, h2⟩ := h
    have k : (decide (a.length ≤ 60) && decide (b.length ≤ 60)) = true := by simp [h1, h2]
    rw [k] at q0
    have ua := uniR_len a
    have ub := uniR_len b
    have c1 := (copiedE v a hv (by omega)).rw
    have c2 := (copiedE w b hw (by omega)).rw
    have q1 := (bothE _ _ a b (slsT a) (slsT b) (by omega) (by omega) (by omega) (by omega)).rw
    have q2 := (bothRE v w a b hv hw (by omega) (by omega)).rw
    have q3 := (minusE _ _ a b (slsT a) (slsT b) (by omega) (by omega)).rw
    have q4 := (minusRE v w a b hv hw (by omega) (by omega)).rw
    have n1 := (bothP_spec a b).1
    have n2 := (minusP_spec a b).1
    rw [← bothP_eq] at q2
    rw [← minusP_eq] at q4
    have q5 := (sameR _ _ (bothP a b) (bothP a b) (slsT _) (slsT _) (by have := norm_card n1; omega)).rw
    have q6 := (sameR _ _ (minusP a b) (minusP a b) (slsT _) (slsT _) (by have := norm_card n2; omega)).rw
    simp only [decide_true] at q5 q6
    clear k h1 h2
    refine EvV.walk rfl fn7 rfl nt7 rfl ?_
    simp only [List.length_cons, List.length_nil, List.cons_append, List.nil_append, Nat.reduceAdd, Nat.reduceSub, List.replicate]
    repeat' (first | refine go1 ?_ | refine blockK_else rfl ?_ | (refine wpC_cond fun A B hA hB => ?_; simp only [go_sem, reduceIte, Nat.reduceAdd, Nat.reduceEqDiff, Nat.reduceLT, Nat.reduceLeDiff, *, and_self, s1, s2, snapT, q0, c1, c2, q1, q2, q3, q4, q5, q6, qa]; first | (refine hA.out ?_; clear hA hB A B) | (refine hB.out ?_; clear hA hB A B) | (refine iteI (fun h => hA.out ?_) (fun h => hB.out ?_) <;> clear hA hB A B) | (refine iteI (fun h => hB.out ?_) (fun h => hA.out ?_) <;> clear hA hB A B)) | (refine wpO_cons fun K hK => ?_; simp only [go_sem, reduceIte, Nat.reduceAdd, Nat.reduceEqDiff, Nat.reduceLT, Nat.reduceLeDiff, *, and_self, s1, s2, snapT, q0, c1, c2, q1, q2, q3, q4, q5, q6, qa]; first | (refine hK.out _ _ ?_; clear hK K) | (refine iteI (fun h => hK.out _ _ ?_) (fun h => hK.out _ _ ?_) <;> clear hK K)))
    simp only [resultsR, resultsL, resultA, expK_int, expK_bool, expK_str, expK_agg, expK_own, expK_tsl, resK_some, go_sem, reduceIte, Nat.reduceAdd, Nat.reduceEqDiff, Nat.reduceLT, Nat.reduceLeDiff, and_self, ]
  · have k : (decide (a.length ≤ 60) && decide (b.length ≤ 60)) = false := by
      cases e : (decide (a.length ≤ 60) && decide (b.length ≤ 60)) with
      | false => rfl
      | true => simp at e; exact absurd e h
    rw [k] at q0
    clear k h
    refine EvV.walk rfl fn7 rfl nt7 rfl ?_
    simp only [List.length_cons, List.length_nil, List.cons_append, List.nil_append, Nat.reduceAdd, Nat.reduceSub, List.replicate]
    repeat' (first | refine go1 ?_ | refine blockK_else rfl ?_ | (refine wpC_cond fun A B hA hB => ?_; simp only [go_sem, reduceIte, Nat.reduceAdd, Nat.reduceEqDiff, Nat.reduceLT, Nat.reduceLeDiff, *, and_self, s1, s2, q0, qa]; first | (refine hA.out ?_; clear hA hB A B) | (refine hB.out ?_; clear hA hB A B) | (refine iteI (fun h => hA.out ?_) (fun h => hB.out ?_) <;> clear hA hB A B) | (refine iteI (fun h => hB.out ?_) (fun h => hA.out ?_) <;> clear hA hB A B)) | (refine wpO_cons fun K hK => ?_; simp only [go_sem, reduceIte, Nat.reduceAdd, Nat.reduceEqDiff, Nat.reduceLT, Nat.reduceLeDiff, *, and_self, s1, s2, q0, qa]; first | (refine hK.out _ _ ?_; clear hK K) | (refine iteI (fun h => hK.out _ _ ?_) (fun h => hK.out _ _ ?_) <;> clear hK K)))
    simp only [resultsR, resultsL, resultA, expK_int, expK_bool, expK_str, expK_agg, expK_own, expK_tsl, resK_some, go_sem, reduceIte, Nat.reduceAdd, Nat.reduceEqDiff, Nat.reduceLT, Nat.reduceLeDiff, and_self, ]

theorem law3 (v : AV) (l : List El) (s : El) (hv : SLs 2 (spans l) v) : EvV CX 8 [v, .agg (encE s)] (· = .bool true) := by
  have qa := awake.rw
  by_cases h : l.length ≤ 60
  · have h' : ¬ (60 : Int) < (l.length : Int) := by omega
    have c1 := (copiedE v l hv (by omega)).rw
    have q1 := (coversE _ l s (slsT l) (by omega)).rw
    have q2 := (covRE v l s hv (by omega)).rw
    have q3 := (totE _ l (slsT l) (by omega)).rw
    have q4 := (totRE v l hv (by omega)).rw
    rw [← cov_eq] at q2
    have s1 := hv.snap
    obtain ⟨x, y⟩ := s
    simp only [encE] at q1 q2 ⊢
    clear h
    refine EvV.walk rfl fn8 rfl nt8 rfl ?_
    simp only [List.length_cons, List.length_nil, List.cons_append, List.nil_append, Nat.reduceAdd, Nat.reduceSub, List.replicate]
    repeat' (first | refine go1 ?_ | refine blockK_else rfl ?_ | (refine wpC_cond fun A B hA hB => ?_; simp only [go_sem, reduceIte, Nat.reduceAdd, Nat.reduceEqDiff, Nat.reduceLT, Nat.reduceLeDiff, *, and_self, lenK_sls hv, spans_len, s1, snapT, c1, q1, q2, q3, q4, qa, beq_self_eq_true]; first | (refine hA.out ?_; clear hA hB A B) | (refine hB.out ?_; clear hA hB A B) | (refine iteI (fun h => hA.out ?_) (fun h => hB.out ?_) <;> clear hA hB A B) | (refine iteI (fun h => hB.out ?_) (fun h => hA.out ?_) <;> clear hA hB A B)) | (refine wpO_cons fun K hK => ?_; simp only [go_sem, reduceIte, Nat.reduceAdd, Nat.reduceEqDiff, Nat.reduceLT, Nat.reduceLeDiff, *, and_self, lenK_sls hv, spans_len, s1, snapT, c1, q1, q2, q3, q4, qa, beq_self_eq_true]; first | (refine hK.out _ _ ?_; clear hK K) | (refine iteI (fun h => hK.out _ _ ?_) (fun h => hK.out _ _ ?_) <;> clear hK K)))
    simp only [resultsR, resultsL, resultA, expK_int, expK_bool, expK_str, expK_agg, expK_own, expK_tsl, resK_some, go_sem, reduceIte, Nat.reduceAdd, Nat.reduceEqDiff, Nat.reduceLT, Nat.reduceLeDiff, and_self, ]
  · have h' : (60 : Int) < (l.length : Int) := by omega
    obtain ⟨x, y⟩ := s
    simp only [encE]
    clear h
    refine EvV.walk rfl fn8 rfl nt8 rfl ?_
    simp only [List.length_cons, List.length_nil, List.cons_append, List.nil_append, Nat.reduceAdd, Nat.reduceSub, List.replicate]
    repeat' (first | refine go1 ?_ | refine blockK_else rfl ?_ | (refine wpC_cond fun A B hA hB => ?_; simp only [go_sem, reduceIte, Nat.reduceAdd, Nat.reduceEqDiff, Nat.reduceLT, Nat.reduceLeDiff, *, and_self, lenK_sls hv, spans_len, qa]; first | (refine hA.out ?_; clear hA hB A B) | (refine hB.out ?_; clear hA hB A B) | (refine iteI (fun h => hA.out ?_) (fun h => hB.out ?_) <;> clear hA hB A B) | (refine iteI (fun h => hB.out ?_) (fun h => hA.out ?_) <;> clear hA hB A B)) | (refine wpO_cons fun K hK => ?_; simp only [go_sem, reduceIte, Nat.reduceAdd, Nat.reduceEqDiff, Nat.reduceLT, Nat.reduceLeDiff, *, and_self, lenK_sls hv, spans_len, qa]; first | (refine hK.out _ _ ?_; clear hK K) | (refine iteI (fun h => hK.out _ _ ?_) (fun h => hK.out _ _ ?_) <;> clear hK K)))
    simp only [resultsR, resultsL, resultA, expK_int, expK_bool, expK_str, expK_agg, expK_own, expK_tsl, resK_some, go_sem, reduceIte, Nat.reduceAdd, Nat.reduceEqDiff, Nat.reduceLT, Nat.reduceLeDiff, and_self, ]

/- Chapter 9: the laws Times, Totals, Inside. -/
open Go.Proofs
attribute [local go_sem] br32 br33 fz26 fz27 fz28 fz29 fz30 fz31 fz32 fz33 fz4 fz5 br12 fz6 fz7 fz8 fz9
set_option maxRecDepth 20000
set_option maxHeartbeats 4000000

theorem in_uni (a : List El) (t : Int) : inB (uniR a) t = inB a t := by
  rw [Bool.eq_iff_iff, inB_iff, inB_iff, Tr_norm (uniR_spec a).1, (uniR_spec a).2]
theorem in_both (a b : List El) (t : Int) : inB (bothP a b) t = (inB a t && inB b t) := by
  rw [Bool.eq_iff_iff, Bool.and_eq_true, inB_iff, inB_iff, inB_iff, Tr_norm (bothP_spec a b).1, (bothP_spec a b).2]
theorem in_minus (a b : List El) (t : Int) : inB (minusP a b) t = (inB a t && !inB b t) := by
  rw [Bool.eq_iff_iff, Bool.and_eq_true, Bool.not_eq_true', ← Bool.not_eq_true, inB_iff, inB_iff, inB_iff, Tr_norm (minusP_spec a b).1, (minusP_spec a b).2]

theorem bothGo_len : ∀ (n : Nat) (a b : List El), a.length + b.length ≤ n → (bothGo a b).length ≤ a.length + b.length := by
  intro n
  induction n with
  | zero =>
    intro a b h
    have : a = [] := List.eq_nil_of_length_eq_zero (by omega)
    subst this; simp [bothGo]
  | succ n ih =>
    intro a b h
    cases a with
    | nil => simp [bothGo]
    | cons x a =>
      cases b with
      | nil => simp [bothGo]
      | cons y b =>
        rw [bothGo]
        simp only [List.length_cons] at h
        have h1 : (if (cap x y).1 < (cap x y).2 then [cap x y] else []).length ≤ 1 := by split <;> simp
        rw [List.length_append]
        generalize (if (cap x y).1 < (cap x y).2 then [cap x y] else []) = hd at h1 ⊢
        split
        · have := ih a (y :: b) (by simp only [List.length_cons]; omega)
          simp only [List.length_cons] at this ⊢; omega
        · have := ih (x :: a) b (by simp only [List.length_cons]; omega)
          simp only [List.length_cons] at this ⊢; omega
theorem bothP_len (a b : List El) : (bothP a b).length ≤ a.length + b.length := by
  have h1 := bothGo_len _ (uniR a) (uniR b) (Nat.le_refl _)
  have h2 := uniR_len a
  have h3 := uniR_len b
  unfold bothP; omega
theorem minusP_len (a b : List El) : (minusP a b).length ≤ a.length + b.length + 1 := by
  have h1 := bothP_len a (gapsGo 0 (uniR b))
  have h2 := uniR_len b
  rw [gaps_len] at h1
  unfold minusP; omega
theorem few_no {a b : List El} (h : ¬ (a.length ≤ 60 ∧ b.length ≤ 60)) : (decide (a.length ≤ 60) && decide (b.length ≤ 60)) = false := by
  cases e : (decide (a.length ≤ 60) && decide (b.length ≤ 60)) with
  | false => rfl
  | true => simp at e; exact absurd e h

theorem law4 (v w : AV) (a b : List El) (t : Int) (hv : SLs 2 (spans a) v) (hw : SLs 2 (spans b) w) : EvV CX 9 [v, w, .int .i64 t] (· = .bool true) := by
  have qa := awake.rw
  have q0 := (fewE v w a b hv hw).rw
  have s1 := hv.snap
  have s2 := hw.snap
  by_cases h : a.length ≤ 60 ∧ b.length ≤ 60
  · obtain ⟨h1, h2⟩ := h
    have k : (decide (a.length ≤ 60) && decide (b.length ≤ 60)) = true := by simp [h1, h2]
    rw [k] at q0
    have ua := uniR_len a
    have ub := uniR_len b
    have c1 := (copiedE v a hv (by omega)).rw
    have c2 := (copiedE w b hw (by omega)).rw
    have q1 := (unionE _ a (slsT a) (by omega)).rw
    have q2 := (bothE _ _ a b (slsT a) (slsT b) (by omega) (by omega) (by omega) (by omega)).rw
    have q3 := (minusE _ _ a b (slsT a) (slsT b) (by omega) (by omega)).rw
    have n0 := (uniR_spec a).1
    have n1 := (bothP_spec a b).1
    have n2 := (minusP_spec a b).1
    have m0 := (normalE _ _ (slsT (uniR a)) n0 (by have := norm_card n0; omega)).rw
    have m1 := (normalE _ _ (slsT (bothP a b)) n1 (by have := norm_card n1; omega)).rw
    have m2 := (normalE _ _ (slsT (minusP a b)) n2 (by have := norm_card n2; omega)).rw
    have i0 := (inE _ _ t (slsT (uniR a)) (by have := norm_card n0; omega)).rw
    have i1 := (inE _ _ t (slsT (bothP a b)) (by have := norm_card n1; omega)).rw
    have i2 := (inE _ _ t (slsT (minusP a b)) (by have := norm_card n2; omega)).rw
    have ja := (inE v a t hv (by omega)).rw
    have jb := (inE w b t hw (by omega)).rw
    rw [in_uni] at i0
    rw [in_both] at i1
    rw [in_minus] at i2
    generalize inB a t = x at i0 i1 i2 ja
    generalize inB b t = y at i1 i2 jb
    clear k h1 h2 n0 n1 n2
    cases x <;> cases y
    all_goals
      simp only [Bool.and_true, Bool.and_false, Bool.true_and, Bool.false_and, Bool.not_true, Bool.not_false] at i1 i2
      refine EvV.walk rfl fn9 rfl nt9 rfl ?_
      simp only [List.length_cons, List.length_nil, List.cons_append, List.nil_append, Nat.reduceAdd, Nat.reduceSub, List.replicate]
      repeat' (first | refine go1 ?_ | refine blockK_else rfl ?_ | (refine wpC_cond fun A B hA hB => ?_; simp only [go_sem, reduceIte, Nat.reduceAdd, Nat.reduceEqDiff, Nat.reduceLT, Nat.reduceLeDiff, *, and_self, s1, s2, snapT, q0, c1, c2, q1, q2, q3, m0, m1, m2, i0, i1, i2, ja, jb, qa, beq_self_eq_true]; first | (refine hA.out ?_; clear hA hB A B) | (refine hB.out ?_; clear hA hB A B) | (refine iteI (fun h => hA.out ?_) (fun h => hB.out ?_) <;> clear hA hB A B) | (refine iteI (fun h => hB.out ?_) (fun h => hA.out ?_) <;> clear hA hB A B)) | (refine wpO_cons fun K hK => ?_; simp only [go_sem, reduceIte, Nat.reduceAdd, Nat.reduceEqDiff, Nat.reduceLT, Nat.reduceLeDiff, *, and_self, s1, s2, snapT, q0, c1, c2, q1, q2, q3, m0, m1, m2, i0, i1, i2, ja, jb, qa, beq_self_eq_true]; first | (refine hK.out _ _ ?_; clear hK K) | (refine iteI (fun h => hK.out _ _ ?_) (fun h => hK.out _ _ ?_) <;> clear hK K)))
      simp only [resultsR, resultsL, resultA, expK_int, expK_bool, expK_str, expK_agg, expK_own, expK_tsl, resK_some, go_sem, reduceIte, Nat.reduceAdd, Nat.reduceEqDiff, Nat.reduceLT, Nat.reduceLeDiff, and_self, ]
  · have k := few_no h
    rw [k] at q0
    clear k h
    refine EvV.walk rfl fn9 rfl nt9 rfl ?_
    simp only [List.length_cons, List.length_nil, List.cons_append, List.nil_append, Nat.reduceAdd, Nat.reduceSub, List.replicate]
    repeat' (first | refine go1 ?_ | refine blockK_else rfl ?_ | (refine wpC_cond fun A B hA hB => ?_; simp only [go_sem, reduceIte, Nat.reduceAdd, Nat.reduceEqDiff, Nat.reduceLT, Nat.reduceLeDiff, *, and_self, s1, s2, q0, qa]; first | (refine hA.out ?_; clear hA hB A B) | (refine hB.out ?_; clear hA hB A B) | (refine iteI (fun h => hA.out ?_) (fun h => hB.out ?_) <;> clear hA hB A B) | (refine iteI (fun h => hB.out ?_) (fun h => hA.out ?_) <;> clear hA hB A B)) | (refine wpO_cons fun K hK => ?_; simp only [go_sem, reduceIte, Nat.reduceAdd, Nat.reduceEqDiff, Nat.reduceLT, Nat.reduceLeDiff, *, and_self, s1, s2, q0, qa]; first | (refine hK.out _ _ ?_; clear hK K) | (refine iteI (fun h => hK.out _ _ ?_) (fun h => hK.out _ _ ?_) <;> clear hK K)))
    simp only [resultsR, resultsL, resultA, expK_int, expK_bool, expK_str, expK_agg, expK_own, expK_tsl, resK_some, go_sem, reduceIte, Nat.reduceAdd, Nat.reduceEqDiff, Nat.reduceLT, Nat.reduceLeDiff, and_self, ]

theorem law5 (v w : AV) (a b : List El) (hv : SLs 2 (spans a) v) (hw : SLs 2 (spans b) w) : EvV CX 10 [v, w] (· = .bool true) := by
  have qa := awake.rw
  have q0 := (fewE v w a b hv hw).rw
  have s1 := hv.snap
  have s2 := hw.snap
  by_cases h : a.length ≤ 60 ∧ b.length ≤ 60
  · obtain ⟨h1, h2⟩ := h
    have k : (decide (a.length ≤ 60) && decide (b.length ≤ 60)) = true := by simp [h1, h2]
    rw [k] at q0
    have ua := uniR_len a
    have ub := uniR_len b
    have n0 := (uniR_spec a).1
    have n1 := (bothP_spec a b).1
    have n2 := (minusP_spec a b).1
    have c1 := (copiedE v a hv (by omega)).rw
    have c2 := (copiedE w b hw (by omega)).rw
    have q1 := (unionE _ a (slsT a) (by omega)).rw
    have q2 := (bothE _ _ a b (slsT a) (slsT b) (by omega) (by omega) (by omega) (by omega)).rw
    have q3 := (minusE _ _ a b (slsT a) (slsT b) (by omega) (by omega)).rw
    have lx : (bothP a b).length ≤ 200 := by have := bothP_len a b; omega
    have ly : (minusP a b).length ≤ 400 := by have := minusP_len a b; omega
    have d1 := (copiedE _ _ (slsT (bothP a b)) (by omega)).rw
    have d2 := (copiedE _ _ (slsT (minusP a b)) (by omega)).rw
    have d3 := (copiedE _ _ (slsT (uniR a)) (by omega)).rw
    have t0 := (totE _ a (slsT a) (by omega)).rw
    have t1 := (totE _ _ (slsT (bothP a b)) (by omega)).rw
    have t2 := (totE _ _ (slsT (minusP a b)) (by omega)).rw
    have t3 := (totE _ _ (slsT (uniR a)) (by omega)).rw
    obtain ⟨l1, l2⟩ := law_total a b
    obtain ⟨l3, l4⟩ := law_again a b
    have b1 := tot_le (uniR_spec (bothP a b)).1
    have b2 := tot_le (uniR_spec (minusP a b)).1
    have w1 : IntKind.wrap .i64 (tot (uniR (bothP a b)) + tot (uniR (minusP a b))) = tot (uniR a) := by rw [wrap_small (by omega) (by omega), l1]
    have q4 := (unionE (.tsl false 2 (spans (uniR a))) _ (.rows false) (by omega)).rw
    have q5 := (unionE (.tsl false 2 (spans (bothP a b ++ minusP a b))) (bothP a b ++ minusP a b) (.rows false) (by rw [List.length_append]; omega)).rw
    have q6 := (sameR _ _ (uniR a) (uniR a) (slsT _) (slsT _) (by omega)).rw
    have q7 := (sameR (.tsl false 2 (spans (uniR a))) _ (uniR a) (uniR a) (.rows false) (slsT _) (by omega)).rw
    rw [l2] at t3
    rw [l3] at q4
    rw [l4] at q5
    simp only [decide_true] at q6 q7
    clear k h1 h2 n0 n1 n2 l1 l2 l3 l4 b1 b2
    have sp : spans (bothP a b) ++ spans (minusP a b) = spans (bothP a b ++ minusP a b) := (spans_app _ _).symm
    have st : (spans (bothP a b ++ minusP a b)).take ((bothP a b).length + (minusP a b).length) = spans (bothP a b ++ minusP a b) := by
      rw [← List.length_append, ← spans_len]; exact List.take_length
    have sU : (spans (uniR a)).take (uniR a).length = spans (uniR a) := by rw [← spans_len (uniR a)]; exact List.take_length
    have so := span_ok2 (n := (bothP a b).length) (m := (minusP a b).length) (by omega)
    by_cases hy : (minusP a b).length = 0
    · have hy' : minusP a b = [] := List.eq_nil_of_length_eq_zero hy
      have hsy : spans (minusP a b) = [] := by rw [hy']; rfl
      rw [hsy] at q3 d2 t2
      rw [hy', List.append_nil] at q5
      have sx : (spans (bothP a b)).take (bothP a b).length = spans (bothP a b) := by rw [← spans_len]; exact List.take_length
      have sT : ∀ S, snap S (.tsl true 2 []) = some (.tsl true 2 []) := fun S => by simp only [snap]
      have so0 : (bothP a b).length * 16 ≤ 140737488355328 ∧ (bothP a b).length ≤ 140737488355328 := by omega
      clear sp st so hsy hy' hy
      refine EvV.walk rfl fn10 rfl nt10 rfl ?_
      simp only [List.length_cons, List.length_nil, List.cons_append, List.nil_append, Nat.reduceAdd, Nat.reduceSub, List.replicate]
      repeat' (first | refine go1 ?_ | refine blockK_else rfl ?_ | (refine wpC_cond fun A B hA hB => ?_; simp only [go_sem, reduceIte, Nat.reduceAdd, Nat.reduceEqDiff, Nat.reduceLT, Nat.reduceLeDiff, *, wpK_append ty30 rfl, s1, s2, snapT, sT, q0, c1, c2, q1, q2, q3, d1, d2, d3, t0, t1, t2, t3, w1, q4, q5, q6, q7, qa, beq_self_eq_true, rowsOf_tsl, set_lenAdd, List.set_cons_succ, List.getElem?_cons_succ, Nat.zero_le, at_new, at_newK, getElem?_len, getElem?_lenAdd, set_len, List.append_assoc, List.length_append, spans_len, snap_sl, rowsOf_sl, ints_len, ints_take, List.take_length, Nat.zero_le, Nat.zero_add, Bool.true_or, sx, sU, Nat.add_zero]; first | (refine hA.out ?_; clear hA hB A B) | (refine hB.out ?_; clear hA hB A B) | (refine iteI (fun h => hA.out ?_) (fun h => hB.out ?_) <;> clear hA hB A B) | (refine iteI (fun h => hB.out ?_) (fun h => hA.out ?_) <;> clear hA hB A B)) | (refine wpO_cons fun K hK => ?_; simp only [go_sem, reduceIte, Nat.reduceAdd, Nat.reduceEqDiff, Nat.reduceLT, Nat.reduceLeDiff, *, wpK_append ty30 rfl, s1, s2, snapT, sT, q0, c1, c2, q1, q2, q3, d1, d2, d3, t0, t1, t2, t3, w1, q4, q5, q6, q7, qa, beq_self_eq_true, rowsOf_tsl, set_lenAdd, List.set_cons_succ, List.getElem?_cons_succ, Nat.zero_le, at_new, at_newK, getElem?_len, getElem?_lenAdd, set_len, List.append_assoc, List.length_append, spans_len, snap_sl, rowsOf_sl, ints_len, ints_take, List.take_length, Nat.zero_le, Nat.zero_add, Bool.true_or, sx, sU, Nat.add_zero]; first | (refine hK.out _ _ ?_; clear hK K) | (refine iteI (fun h => hK.out _ _ ?_) (fun h => hK.out _ _ ?_) <;> clear hK K)))
      simp only [resultsR, resultsL, resultA, expK_int, expK_bool, expK_str, expK_agg, expK_own, expK_tsl, resK_some, go_sem, reduceIte, Nat.reduceAdd, Nat.reduceEqDiff, Nat.reduceLT, Nat.reduceLeDiff, wpK_append ty30 rfl, ]
    · refine EvV.walk rfl fn10 rfl nt10 rfl ?_
      simp only [List.length_cons, List.length_nil, List.cons_append, List.nil_append, Nat.reduceAdd, Nat.reduceSub, List.replicate]
      repeat' (first | refine go1 ?_ | refine blockK_else rfl ?_ | (refine wpC_cond fun A B hA hB => ?_; simp only [go_sem, reduceIte, Nat.reduceAdd, Nat.reduceEqDiff, Nat.reduceLT, Nat.reduceLeDiff, *, wpK_append ty30 rfl, s1, s2, snapT, q0, c1, c2, q1, q2, q3, d1, d2, d3, t0, t1, t2, t3, w1, q4, q5, q6, q7, qa, beq_self_eq_true, rowsOf_tsl, sp, st, sU, set_lenAdd, List.set_cons_succ, List.getElem?_cons_succ, Nat.zero_le, at_new, at_newK, getElem?_len, getElem?_lenAdd, set_len, List.append_assoc, List.length_append, spans_len, snap_sl, rowsOf_sl, ints_len, ints_take, List.take_length, Nat.zero_le, Nat.zero_add, Bool.true_or]; first | (refine hA.out ?_; clear hA hB A B) | (refine hB.out ?_; clear hA hB A B) | (refine iteI (fun h => hA.out ?_) (fun h => hB.out ?_) <;> clear hA hB A B) | (refine iteI (fun h => hB.out ?_) (fun h => hA.out ?_) <;> clear hA hB A B)) | (refine wpO_cons fun K hK => ?_; simp only [go_sem, reduceIte, Nat.reduceAdd, Nat.reduceEqDiff, Nat.reduceLT, Nat.reduceLeDiff, *, wpK_append ty30 rfl, s1, s2, snapT, q0, c1, c2, q1, q2, q3, d1, d2, d3, t0, t1, t2, t3, w1, q4, q5, q6, q7, qa, beq_self_eq_true, rowsOf_tsl, sp, st, sU, set_lenAdd, List.set_cons_succ, List.getElem?_cons_succ, Nat.zero_le, at_new, at_newK, getElem?_len, getElem?_lenAdd, set_len, List.append_assoc, List.length_append, spans_len, snap_sl, rowsOf_sl, ints_len, ints_take, List.take_length, Nat.zero_le, Nat.zero_add, Bool.true_or]; first | (refine hK.out _ _ ?_; clear hK K) | (refine iteI (fun h => hK.out _ _ ?_) (fun h => hK.out _ _ ?_) <;> clear hK K)))
      simp only [resultsR, resultsL, resultA, expK_int, expK_bool, expK_str, expK_agg, expK_own, expK_tsl, resK_some, go_sem, reduceIte, Nat.reduceAdd, Nat.reduceEqDiff, Nat.reduceLT, Nat.reduceLeDiff, wpK_append ty30 rfl, ]
  · have k := few_no h
    rw [k] at q0
    clear k h
    refine EvV.walk rfl fn10 rfl nt10 rfl ?_
    simp only [List.length_cons, List.length_nil, List.cons_append, List.nil_append, Nat.reduceAdd, Nat.reduceSub, List.replicate]
    repeat' (first | refine go1 ?_ | refine blockK_else rfl ?_ | (refine wpC_cond fun A B hA hB => ?_; simp only [go_sem, reduceIte, Nat.reduceAdd, Nat.reduceEqDiff, Nat.reduceLT, Nat.reduceLeDiff, *, wpK_append ty30 rfl, s1, s2, q0, qa]; first | (refine hA.out ?_; clear hA hB A B) | (refine hB.out ?_; clear hA hB A B) | (refine iteI (fun h => hA.out ?_) (fun h => hB.out ?_) <;> clear hA hB A B) | (refine iteI (fun h => hB.out ?_) (fun h => hA.out ?_) <;> clear hA hB A B)) | (refine wpO_cons fun K hK => ?_; simp only [go_sem, reduceIte, Nat.reduceAdd, Nat.reduceEqDiff, Nat.reduceLT, Nat.reduceLeDiff, *, wpK_append ty30 rfl, s1, s2, q0, qa]; first | (refine hK.out _ _ ?_; clear hK K) | (refine iteI (fun h => hK.out _ _ ?_) (fun h => hK.out _ _ ?_) <;> clear hK K)))
    simp only [resultsR, resultsL, resultA, expK_int, expK_bool, expK_str, expK_agg, expK_own, expK_tsl, resK_some, go_sem, reduceIte, Nat.reduceAdd, Nat.reduceEqDiff, Nat.reduceLT, Nat.reduceLeDiff, wpK_append ty30 rfl, ]

theorem law6 (v : AV) (l : List El) (s p : El) (hv : SLs 2 (spans l) v) : EvV CX 11 [v, .agg (encE s), .agg (encE p)] (· = .bool true) := by
  have qa := awake.rw
  by_cases h : l.length ≤ 60
  · have h' : ¬ (60 : Int) < (l.length : Int) := by omega
    have c1 := (copiedE v l hv (by omega)).rw
    have q1 := (coversE _ l s (slsT l) (by omega)).rw
    have q1' := (coversE (.tsl false 2 (spans l)) l s (.rows false) (by omega)).rw
    have q2 := (rightE s).rw
    have q3 := (minusE (.tsl false 2 (spans [s])) (.tsl false 2 (spans l)) [s] l (.rows false) (.rows false) (by simp) (by omega)).rw
    have q4 := (coversE _ l p (slsT l) (by omega)).rw
    have q4' := (coversE (.tsl false 2 (spans l)) l p (.rows false) (by omega)).rw
    have q5 := (rightE p).rw
    have lc := law_cov l s
    have lp : covP l s = true → rgt p = true → s.1 ≤ p.1 → p.2 ≤ s.2 → covP l p = true := fun a b c d => law_part a b c d
    have s1 := hv.snap
    have sl : (spans l).take l.length = spans l := by rw [← spans_len l]; exact List.take_length
    have e0 : spans [s] = [[.int .i64 s.1, .int .i64 s.2]] := rfl
    rw [e0] at q3
    have e1 : ((((minusP [s] l).length : Nat) : Int) == 0) = decide ((minusP [s] l).length = 0) := by
      rw [Bool.eq_iff_iff]; simp
    generalize minusP [s] l = m at q3 lc e1
    generalize decide (m.length = 0) = z at lc e1
    generalize covP l s = cs at q1 q1' lc lp
    generalize covP l p = cp at q4 q4' lp
    generalize rgt s = rs at q2 lc
    generalize rgt p = rp at q5 lp
    obtain ⟨x, y⟩ := s
    obtain ⟨x2, y2⟩ := p
    simp only [encE] at q1 q1' q2 q3 q4 q4' q5 lp ⊢
    clear h e0
    subst lc
    by_cases hc : (rs && z) = true
    · rw [hc] at q1 q1' lp
      simp only [Bool.and_eq_true] at hc
      obtain ⟨rfl, rfl⟩ := hc
      cases rp with
      | false =>
        clear lp
        refine EvV.walk rfl fn11 rfl nt11 rfl ?_
        simp only [List.length_cons, List.length_nil, List.cons_append, List.nil_append, Nat.reduceAdd, Nat.reduceSub, List.replicate]
        repeat' (first | refine go1 ?_ | refine blockK_else rfl ?_ | (refine wpC_cond fun A B hA hB => ?_; simp only [go_sem, reduceIte, Nat.reduceAdd, Nat.reduceEqDiff, Nat.reduceLT, Nat.reduceLeDiff, *, wpK_buildSlice ty30 rfl, lenK_sls hv, s1, snapT, c1, q1, q1', q2, q3, q4, q4', q5, e1, sl, lenK_sl, lenK_tsl, qa, beq_self_eq_true, set_lenAdd, List.set_cons_succ, List.getElem?_cons_succ, Nat.zero_le, at_new, at_newK, getElem?_len, getElem?_lenAdd, set_len, List.append_assoc, List.length_append, spans_len, snap_sl, rowsOf_sl, ints_len, ints_take, List.take_length, Nat.zero_le, Nat.zero_add, Bool.true_or]; first | (refine hA.out ?_; clear hA hB A B) | (refine hB.out ?_; clear hA hB A B) | (refine iteI (fun h => hA.out ?_) (fun h => hB.out ?_) <;> clear hA hB A B) | (refine iteI (fun h => hB.out ?_) (fun h => hA.out ?_) <;> clear hA hB A B)) | (refine wpO_cons fun K hK => ?_; simp only [go_sem, reduceIte, Nat.reduceAdd, Nat.reduceEqDiff, Nat.reduceLT, Nat.reduceLeDiff, *, wpK_buildSlice ty30 rfl, lenK_sls hv, s1, snapT, c1, q1, q1', q2, q3, q4, q4', q5, e1, sl, lenK_sl, lenK_tsl, qa, beq_self_eq_true, set_lenAdd, List.set_cons_succ, List.getElem?_cons_succ, Nat.zero_le, at_new, at_newK, getElem?_len, getElem?_lenAdd, set_len, List.append_assoc, List.length_append, spans_len, snap_sl, rowsOf_sl, ints_len, ints_take, List.take_length, Nat.zero_le, Nat.zero_add, Bool.true_or]; first | (refine hK.out _ _ ?_; clear hK K) | (refine iteI (fun h => hK.out _ _ ?_) (fun h => hK.out _ _ ?_) <;> clear hK K)))
        simp only [resultsR, resultsL, resultA, expK_int, expK_bool, expK_str, expK_agg, expK_own, expK_tsl, resK_some, go_sem, reduceIte, Nat.reduceAdd, Nat.reduceEqDiff, Nat.reduceLT, Nat.reduceLeDiff, wpK_buildSlice ty30 rfl, ]
      | true =>
        by_cases k1 : x ≤ x2
        · by_cases k2 : y2 ≤ y
          · have := lp rfl rfl k1 k2
            subst this
            clear lp
            refine EvV.walk rfl fn11 rfl nt11 rfl ?_
            simp only [List.length_cons, List.length_nil, List.cons_append, List.nil_append, Nat.reduceAdd, Nat.reduceSub, List.replicate]
            repeat' (first | refine go1 ?_ | refine blockK_else rfl ?_ | (refine wpC_cond fun A B hA hB => ?_; simp only [go_sem, reduceIte, Nat.reduceAdd, Nat.reduceEqDiff, Nat.reduceLT, Nat.reduceLeDiff, *, wpK_buildSlice ty30 rfl, lenK_sls hv, s1, snapT, c1, q1, q1', q2, q3, q4, q4', q5, e1, sl, lenK_sl, lenK_tsl, qa, beq_self_eq_true, set_lenAdd, List.set_cons_succ, List.getElem?_cons_succ, Nat.zero_le, at_new, at_newK, getElem?_len, getElem?_lenAdd, set_len, List.append_assoc, List.length_append, spans_len, snap_sl, rowsOf_sl, ints_len, ints_take, List.take_length, Nat.zero_le, Nat.zero_add, Bool.true_or]; first | (refine hA.out ?_; clear hA hB A B) | (refine hB.out ?_; clear hA hB A B) | (refine iteI (fun h => hA.out ?_) (fun h => hB.out ?_) <;> clear hA hB A B) | (refine iteI (fun h => hB.out ?_) (fun h => hA.out ?_) <;> clear hA hB A B)) | (refine wpO_cons fun K hK => ?_; simp only [go_sem, reduceIte, Nat.reduceAdd, Nat.reduceEqDiff, Nat.reduceLT, Nat.reduceLeDiff, *, wpK_buildSlice ty30 rfl, lenK_sls hv, s1, snapT, c1, q1, q1', q2, q3, q4, q4', q5, e1, sl, lenK_sl, lenK_tsl, qa, beq_self_eq_true, set_lenAdd, List.set_cons_succ, List.getElem?_cons_succ, Nat.zero_le, at_new, at_newK, getElem?_len, getElem?_lenAdd, set_len, List.append_assoc, List.length_append, spans_len, snap_sl, rowsOf_sl, ints_len, ints_take, List.take_length, Nat.zero_le, Nat.zero_add, Bool.true_or]; first | (refine hK.out _ _ ?_; clear hK K) | (refine iteI (fun h => hK.out _ _ ?_) (fun h => hK.out _ _ ?_) <;> clear hK K)))
            simp only [resultsR, resultsL, resultA, expK_int, expK_bool, expK_str, expK_agg, expK_own, expK_tsl, resK_some, go_sem, reduceIte, Nat.reduceAdd, Nat.reduceEqDiff, Nat.reduceLT, Nat.reduceLeDiff, wpK_buildSlice ty30 rfl, ]
          · clear lp
            refine EvV.walk rfl fn11 rfl nt11 rfl ?_
            simp only [List.length_cons, List.length_nil, List.cons_append, List.nil_append, Nat.reduceAdd, Nat.reduceSub, List.replicate]
            repeat' (first | refine go1 ?_ | refine blockK_else rfl ?_ | (refine wpC_cond fun A B hA hB => ?_; simp only [go_sem, reduceIte, Nat.reduceAdd, Nat.reduceEqDiff, Nat.reduceLT, Nat.reduceLeDiff, *, wpK_buildSlice ty30 rfl, lenK_sls hv, s1, snapT, c1, q1, q1', q2, q3, q4, q4', q5, e1, sl, lenK_sl, lenK_tsl, qa, beq_self_eq_true, set_lenAdd, List.set_cons_succ, List.getElem?_cons_succ, Nat.zero_le, at_new, at_newK, getElem?_len, getElem?_lenAdd, set_len, List.append_assoc, List.length_append, spans_len, snap_sl, rowsOf_sl, ints_len, ints_take, List.take_length, Nat.zero_le, Nat.zero_add, Bool.true_or]; first | (refine hA.out ?_; clear hA hB A B) | (refine hB.out ?_; clear hA hB A B) | (refine iteI (fun h => hA.out ?_) (fun h => hB.out ?_) <;> clear hA hB A B) | (refine iteI (fun h => hB.out ?_) (fun h => hA.out ?_) <;> clear hA hB A B)) | (refine wpO_cons fun K hK => ?_; simp only [go_sem, reduceIte, Nat.reduceAdd, Nat.reduceEqDiff, Nat.reduceLT, Nat.reduceLeDiff, *, wpK_buildSlice ty30 rfl, lenK_sls hv, s1, snapT, c1, q1, q1', q2, q3, q4, q4', q5, e1, sl, lenK_sl, lenK_tsl, qa, beq_self_eq_true, set_lenAdd, List.set_cons_succ, List.getElem?_cons_succ, Nat.zero_le, at_new, at_newK, getElem?_len, getElem?_lenAdd, set_len, List.append_assoc, List.length_append, spans_len, snap_sl, rowsOf_sl, ints_len, ints_take, List.take_length, Nat.zero_le, Nat.zero_add, Bool.true_or]; first | (refine hK.out _ _ ?_; clear hK K) | (refine iteI (fun h => hK.out _ _ ?_) (fun h => hK.out _ _ ?_) <;> clear hK K)))
            simp only [resultsR, resultsL, resultA, expK_int, expK_bool, expK_str, expK_agg, expK_own, expK_tsl, resK_some, go_sem, reduceIte, Nat.reduceAdd, Nat.reduceEqDiff, Nat.reduceLT, Nat.reduceLeDiff, wpK_buildSlice ty30 rfl, ]
        · clear lp
          refine EvV.walk rfl fn11 rfl nt11 rfl ?_
          simp only [List.length_cons, List.length_nil, List.cons_append, List.nil_append, Nat.reduceAdd, Nat.reduceSub, List.replicate]
          repeat' (first | refine go1 ?_ | refine blockK_else rfl ?_ | (refine wpC_cond fun A B hA hB => ?_; simp only [go_sem, reduceIte, Nat.reduceAdd, Nat.reduceEqDiff, Nat.reduceLT, Nat.reduceLeDiff, *, wpK_buildSlice ty30 rfl, lenK_sls hv, s1, snapT, c1, q1, q1', q2, q3, q4, q4', q5, e1, sl, lenK_sl, lenK_tsl, qa, beq_self_eq_true, set_lenAdd, List.set_cons_succ, List.getElem?_cons_succ, Nat.zero_le, at_new, at_newK, getElem?_len, getElem?_lenAdd, set_len, List.append_assoc, List.length_append, spans_len, snap_sl, rowsOf_sl, ints_len, ints_take, List.take_length, Nat.zero_le, Nat.zero_add, Bool.true_or]; first | (refine hA.out ?_; clear hA hB A B) | (refine hB.out ?_; clear hA hB A B) | (refine iteI (fun h => hA.out ?_) (fun h => hB.out ?_) <;> clear hA hB A B) | (refine iteI (fun h => hB.out ?_) (fun h => hA.out ?_) <;> clear hA hB A B)) | (refine wpO_cons fun K hK => ?_; simp only [go_sem, reduceIte, Nat.reduceAdd, Nat.reduceEqDiff, Nat.reduceLT, Nat.reduceLeDiff, *, wpK_buildSlice ty30 rfl, lenK_sls hv, s1, snapT, c1, q1, q1', q2, q3, q4, q4', q5, e1, sl, lenK_sl, lenK_tsl, qa, beq_self_eq_true, set_lenAdd, List.set_cons_succ, List.getElem?_cons_succ, Nat.zero_le, at_new, at_newK, getElem?_len, getElem?_lenAdd, set_len, List.append_assoc, List.length_append, spans_len, snap_sl, rowsOf_sl, ints_len, ints_take, List.take_length, Nat.zero_le, Nat.zero_add, Bool.true_or]; first | (refine hK.out _ _ ?_; clear hK K) | (refine iteI (fun h => hK.out _ _ ?_) (fun h => hK.out _ _ ?_) <;> clear hK K)))
          simp only [resultsR, resultsL, resultA, expK_int, expK_bool, expK_str, expK_agg, expK_own, expK_tsl, resK_some, go_sem, reduceIte, Nat.reduceAdd, Nat.reduceEqDiff, Nat.reduceLT, Nat.reduceLeDiff, wpK_buildSlice ty30 rfl, ]
    · have hc' : (rs && z) = false := by simpa using hc
      rw [hc'] at q1 q1'
      clear lp hc
      cases rs <;> cases z
      case true.true => cases hc'
      all_goals
        clear hc'
        refine EvV.walk rfl fn11 rfl nt11 rfl ?_
        simp only [List.length_cons, List.length_nil, List.cons_append, List.nil_append, Nat.reduceAdd, Nat.reduceSub, List.replicate]
        repeat' (first | refine go1 ?_ | refine blockK_else rfl ?_ | (refine wpC_cond fun A B hA hB => ?_; simp only [go_sem, reduceIte, Nat.reduceAdd, Nat.reduceEqDiff, Nat.reduceLT, Nat.reduceLeDiff, *, wpK_buildSlice ty30 rfl, lenK_sls hv, s1, snapT, c1, q1, q1', q2, q3, q4, q4', q5, e1, sl, lenK_sl, lenK_tsl, qa, beq_self_eq_true, set_lenAdd, List.set_cons_succ, List.getElem?_cons_succ, Nat.zero_le, at_new, at_newK, getElem?_len, getElem?_lenAdd, set_len, List.append_assoc, List.length_append, spans_len, snap_sl, rowsOf_sl, ints_len, ints_take, List.take_length, Nat.zero_le, Nat.zero_add, Bool.true_or]; first | (refine hA.out ?_; clear hA hB A B) | (refine hB.out ?_; clear hA hB A B) | (refine iteI (fun h => hA.out ?_) (fun h => hB.out ?_) <;> clear hA hB A B) | (refine iteI (fun h => hB.out ?_) (fun h => hA.out ?_) <;> clear hA hB A B)) | (refine wpO_cons fun K hK => ?_; simp only [go_sem, reduceIte, Nat.reduceAdd, Nat.reduceEqDiff, Nat.reduceLT, Nat.reduceLeDiff, *, wpK_buildSlice ty30 rfl, lenK_sls hv, s1, snapT, c1, q1, q1', q2, q3, q4, q4', q5, e1, sl, lenK_sl, lenK_tsl, qa, beq_self_eq_true, set_lenAdd, List.set_cons_succ, List.getElem?_cons_succ, Nat.zero_le, at_new, at_newK, getElem?_len, getElem?_lenAdd, set_len, List.append_assoc, List.length_append, spans_len, snap_sl, rowsOf_sl, ints_len, ints_take, List.take_length, Nat.zero_le, Nat.zero_add, Bool.true_or]; first | (refine hK.out _ _ ?_; clear hK K) | (refine iteI (fun h => hK.out _ _ ?_) (fun h => hK.out _ _ ?_) <;> clear hK K)))
        simp only [resultsR, resultsL, resultA, expK_int, expK_bool, expK_str, expK_agg, expK_own, expK_tsl, resK_some, go_sem, reduceIte, Nat.reduceAdd, Nat.reduceEqDiff, Nat.reduceLT, Nat.reduceLeDiff, wpK_buildSlice ty30 rfl, ]
  · have h' : (60 : Int) < (l.length : Int) := by omega
    obtain ⟨x, y⟩ := s
    obtain ⟨x2, y2⟩ := p
    simp only [encE]
    clear h
    refine EvV.walk rfl fn11 rfl nt11 rfl ?_
    simp only [List.length_cons, List.length_nil, List.cons_append, List.nil_append, Nat.reduceAdd, Nat.reduceSub, List.replicate]
    repeat' (first | refine go1 ?_ | refine blockK_else rfl ?_ | (refine wpC_cond fun A B hA hB => ?_; simp only [go_sem, reduceIte, Nat.reduceAdd, Nat.reduceEqDiff, Nat.reduceLT, Nat.reduceLeDiff, *, wpK_buildSlice ty30 rfl, lenK_sls hv, spans_len, qa]; first | (refine hA.out ?_; clear hA hB A B) | (refine hB.out ?_; clear hA hB A B) | (refine iteI (fun h => hA.out ?_) (fun h => hB.out ?_) <;> clear hA hB A B) | (refine iteI (fun h => hB.out ?_) (fun h => hA.out ?_) <;> clear hA hB A B)) | (refine wpO_cons fun K hK => ?_; simp only [go_sem, reduceIte, Nat.reduceAdd, Nat.reduceEqDiff, Nat.reduceLT, Nat.reduceLeDiff, *, wpK_buildSlice ty30 rfl, lenK_sls hv, spans_len, qa]; first | (refine hK.out _ _ ?_; clear hK K) | (refine iteI (fun h => hK.out _ _ ?_) (fun h => hK.out _ _ ?_) <;> clear hK K)))
    simp only [resultsR, resultsL, resultA, expK_int, expK_bool, expK_str, expK_agg, expK_own, expK_tsl, resK_some, go_sem, reduceIte, Nat.reduceAdd, Nat.reduceEqDiff, Nat.reduceLT, Nat.reduceLeDiff, wpK_buildSlice ty30 rfl, ]
end Go.Eng.Fo

/- Spans as arguments. -/
namespace Go.Eng.Fo
open Go.Proofs
theorem spans_of : ∀ {rows : List (List AV)}, (∀ r ∈ rows, okR [.int .i64, .int .i64] r) → ∃ l : List El, rows = spans l
  | [], _ => ⟨[], rfl⟩
  | r :: rows, h => by
    have h1 := h r (by simp)
    simp only [okR, okC] at h1
    obtain ⟨_, _, rfl, ⟨a, rfl, _⟩, ⟨_, _, rfl, ⟨b, rfl, _⟩, rfl⟩⟩ := h1
    obtain ⟨l, rfl⟩ := spans_of (rows := rows) fun r hr => h r (by simp [hr])
    exact ⟨(a, b) :: l, rfl⟩
end Go.Eng.Fo
