/- Part 6 of the texts behind this claim. -/
import Derived.Test.YtpbpeniccpndbaaZ5

/- Groups: the check of one group, in the reference. -/
namespace Go.Eng
open Go.Proofs
set_option linter.unusedSimpArgs false
set_option linter.unusedVariables false
attribute [local irreducible] wpC wpO wp1 EvV EvR wpL
attribute [local go_sem] ty3 ty4 ty9 ty22 ty23 ty27 ty31 ty49 ty53 br31 br38 br49 br50 allocK fz79 fz81 fz82 fz83 fz84 beq_iff_eq beq_eq_false_iff_ne Int.natCast_inj Bool.not_eq_false' op1_go wpK_box wpK_alloc wpK_load wpK_store wpK_binOp wpK_unOp wpK_fieldAddr wpK_field wpK_build wpK_indexAddr wpK_slice wpK_len wpK_extract wpK_nilCheck wpK_pick wpK_makeFunc wpK_call wpK_callT wpK_max wpK_min wpK_assignT wpK_moveT wpK_assignB wpK_moveB wpK_assignI wpK_moveI wpK_assignA wpK_moveA callK_fn snapL_nil snapL_cons snap_int snap_bool snap_str snap_tsl snap_agg snap_fn snap_flat adopt_int adopt_bool adopt_str adopt_agg adopt_osl adopt_tsl adopt_tup op1_guard grdK_bool grdK_undef condK_bool someK_some pairK_some nilK_ptr nilK_tptr boxK storeK evalA_tmp evalA_int evalA_bool evalA_agg evalA_fn evalA_nil ofC_int ofC_bool getA_zero getA_succ cells_int cells_agg cells_bool cells_sl cells_tsl cell_int cell_bool cell_str cell_sl cell_esl cell_tsl cell_ptr cell_tptr cell_fn cell_nils cell_nilf List.all_cons List.all_nil Bool.and_true Bool.and_self Bool.true_and putA_some putA_none List.set_cons_zero List.set_cons_succ List.length_cons List.length_nil List.nil_append List.cons_append stabL AV.stab fieldAddrA fieldA List.getElem?_cons_zero List.getElem?_cons_succ Nat.zero_add loadA rowOf Nat.le_refl and_self true_and and_true partA binA unA intBin eqBin eqCells eqCell Option.bind_some decide_true decide_false decide_eq_true_eq ite_not Bool.not_eq_true' decide_eq_false_iff_not Bool.false_eq_true Option.map_some Option.map_none Bool.not_true Bool.not_false buildA fillA patch List.take List.drop List.map_cons List.map_nil extK List.getD_cons_zero List.getD_cons_succ minmaxA minmaxGo adoptZ_false adoptZ_true freeze_int freeze_bool freeze_str freeze_flat freeze_agg freeze_osl freeze_tsl freeze_tup frz1_bool frz1_int frz1_str frz1_agg frz1_osl frz1_tsl bne Bool.false_and Bool.and_false ne_eq not_true_eq_false not_false_eq_true List.append_nil
set_option maxHeartbeats 4000000

theorem oneR {v w : AV} {gs pre post : List Grp} {x : Grp} {ps : List Psn} (h : GsOK v gs) (hw : SLs 3 (ps.map encP) w) (hps : ps.length ≤ 1000) (hg : gs = pre ++ x :: post) (hn : x.name.size ≤ 1048576) : EvV CX 40 [w, v, .int .i64 pre.length] (· = .int .i64 (errG ps pre x)) := by
  have i0 := idx_sls h.sl (X := CX) ty22 ty53 rfl (n := pre.length) (row := encG x) (k := .i64) (map_at encG hg)
  have hx := h.ok x (by rw [hg]; simp)
  have c1 := hx.pv.cell
  have c2 := hx.sv.cell
  have s1 := hx.pv.snap
  have s2 := hx.sv.snap
  have hpl := h.ppl x (by rw [hg]; simp)
  have hsl := h.subs x (by rw [hg]; simp)
  have hws := hw.snap
  have ho := ordG_cases h hg
  clear hg
  have qn := (nameR x.name hn).rw
  have qp := (up1 _ _ hx.pv (by omega)).rw
  have qs := (up1 _ _ hx.sv (by omega)).rw
  have qi := (identR x.id).rw
  clear hn
  rcases idOK_cases x.id with ⟨k1, a1, a2⟩ | ⟨k1, a1⟩ | ⟨k1, a1, a2⟩
  rotate_left
  · clear ho qn qp qs
    refine EvV.walk rfl fn40 rfl nt40 rfl ?_
    simp only [List.length_cons, List.length_nil, List.cons_append, List.nil_append, Nat.reduceAdd, Nat.reduceSub, List.replicate]
    repeat' (first | refine go1 ?_ | refine blockK_else rfl ?_ | (refine wpO_cons fun K hK => ?_; simp only [go_sem, reduceIte, Nat.reduceAdd, Nat.reduceEqDiff, Nat.reduceLT, Nat.reduceLeDiff, *, and_self, i0, encG, c1, c2, s1, s2, hws, snap_str, getElem?_len, getElem?_lenAdd, set_len, set_lenAdd, len_mid, ints_len, List.length_map, lt_mid, List.nil_append, List.cons_append, Bool.not_true, Bool.not_false, qi]; first | (refine hK.out _ _ ?_; clear hK K) | (refine iteI (fun h => hK.out _ _ ?_) (fun h => hK.out _ _ ?_) <;> clear hK K)))
    (refine wpC_cond fun A B hA hB => ?_; simp only [go_sem, reduceIte, Nat.reduceAdd, Nat.reduceEqDiff, Nat.reduceLT, Nat.reduceLeDiff, *, and_self, ]; first | (refine hA.out ?_; clear hA hB A B) | (refine hB.out ?_; clear hA hB A B))
    repeat' (first | refine go1 ?_ | refine blockK_else rfl ?_ | (refine wpO_cons fun K hK => ?_; simp only [go_sem, reduceIte, Nat.reduceAdd, Nat.reduceEqDiff, Nat.reduceLT, Nat.reduceLeDiff, *, and_self, ]; first | (refine hK.out _ _ ?_; clear hK K) | (refine iteI (fun h => hK.out _ _ ?_) (fun h => hK.out _ _ ?_) <;> clear hK K)))
    simp only [resultsR, resultsL, resultA, expK_int, expK_bool, expK_str, expK_agg, expK_own, expK_tsl, resK_some, go_sem, reduceIte, Nat.reduceAdd, Nat.reduceEqDiff, Nat.reduceLT, Nat.reduceLeDiff, and_self, ]
    simp [errG, k1]
  · clear ho qn qp qs
    refine EvV.walk rfl fn40 rfl nt40 rfl ?_
    simp only [List.length_cons, List.length_nil, List.cons_append, List.nil_append, Nat.reduceAdd, Nat.reduceSub, List.replicate]
    repeat' (first | refine go1 ?_ | refine blockK_else rfl ?_ | (refine wpO_cons fun K hK => ?_; simp only [go_sem, reduceIte, Nat.reduceAdd, Nat.reduceEqDiff, Nat.reduceLT, Nat.reduceLeDiff, *, and_self, i0, encG, c1, c2, s1, s2, hws, snap_str, getElem?_len, getElem?_lenAdd, set_len, set_lenAdd, len_mid, ints_len, List.length_map, lt_mid, List.nil_append, List.cons_append, Bool.not_true, Bool.not_false, qi]; first | (refine hK.out _ _ ?_; clear hK K) | (refine iteI (fun h => hK.out _ _ ?_) (fun h => hK.out _ _ ?_) <;> clear hK K)))
    (refine wpC_cond fun A B hA hB => ?_; simp only [go_sem, reduceIte, Nat.reduceAdd, Nat.reduceEqDiff, Nat.reduceLT, Nat.reduceLeDiff, *, and_self, ]; first | (refine hA.out ?_; clear hA hB A B) | (refine hB.out ?_; clear hA hB A B))
    repeat' (first | refine go1 ?_ | refine blockK_else rfl ?_ | (refine wpO_cons fun K hK => ?_; simp only [go_sem, reduceIte, Nat.reduceAdd, Nat.reduceEqDiff, Nat.reduceLT, Nat.reduceLeDiff, *, and_self, ]; first | (refine hK.out _ _ ?_; clear hK K) | (refine iteI (fun h => hK.out _ _ ?_) (fun h => hK.out _ _ ?_) <;> clear hK K)))
    simp only [resultsR, resultsL, resultA, expK_int, expK_bool, expK_str, expK_agg, expK_own, expK_tsl, resK_some, go_sem, reduceIte, Nat.reduceAdd, Nat.reduceEqDiff, Nat.reduceLT, Nat.reduceLeDiff, and_self, ]
    simp [errG, k1]
  rcases ho with ⟨k2, e1⟩ | ⟨k2, e1, e2, e3⟩ | ⟨k2, e1, e2, e3⟩
  rotate_right
  · clear qn qp qs
    refine EvV.walk rfl fn40 rfl nt40 rfl ?_
    simp only [List.length_cons, List.length_nil, List.cons_append, List.nil_append, Nat.reduceAdd, Nat.reduceSub, List.replicate]
    repeat' (first | refine go1 ?_ | refine blockK_else rfl ?_ | (refine wpO_cons fun K hK => ?_; simp only [go_sem, reduceIte, Nat.reduceAdd, Nat.reduceEqDiff, Nat.reduceLT, Nat.reduceLeDiff, *, and_self, i0, encG, c1, c2, s1, s2, hws, snap_str, getElem?_len, getElem?_lenAdd, set_len, set_lenAdd, len_mid, ints_len, List.length_map, lt_mid, List.nil_append, List.cons_append, Bool.not_true, Bool.not_false, qi]; first | (refine hK.out _ _ ?_; clear hK K) | (refine iteI (fun h => hK.out _ _ ?_) (fun h => hK.out _ _ ?_) <;> clear hK K)))
    (refine wpC_cond fun A B hA hB => ?_; simp only [go_sem, reduceIte, Nat.reduceAdd, Nat.reduceEqDiff, Nat.reduceLT, Nat.reduceLeDiff, *, and_self, ]; first | (refine hA.out ?_; clear hA hB A B) | (refine hB.out ?_; clear hA hB A B))
    repeat' (first | refine go1 ?_ | refine blockK_else rfl ?_ | (refine wpO_cons fun K hK => ?_; simp only [go_sem, reduceIte, Nat.reduceAdd, Nat.reduceEqDiff, Nat.reduceLT, Nat.reduceLeDiff, *, and_self, i0, encG, c1, c2, s1, s2, hws, snap_str, getElem?_len, getElem?_lenAdd, set_len, set_lenAdd, len_mid, ints_len, List.length_map, lt_mid, List.nil_append, List.cons_append, Bool.not_true, Bool.not_false]; first | (refine hK.out _ _ ?_; clear hK K) | (refine iteI (fun h => hK.out _ _ ?_) (fun h => hK.out _ _ ?_) <;> clear hK K)))
    (refine wpC_cond fun A B hA hB => ?_; simp only [go_sem, reduceIte, Nat.reduceAdd, Nat.reduceEqDiff, Nat.reduceLT, Nat.reduceLeDiff, *, and_self, ]; first | (refine hA.out ?_; clear hA hB A B) | (refine hB.out ?_; clear hA hB A B))
    repeat' (first | refine go1 ?_ | refine blockK_else rfl ?_ | (refine wpO_cons fun K hK => ?_; simp only [go_sem, reduceIte, Nat.reduceAdd, Nat.reduceEqDiff, Nat.reduceLT, Nat.reduceLeDiff, *, and_self, i0, encG, c1, c2, s1, s2, hws, snap_str, getElem?_len, getElem?_lenAdd, set_len, set_lenAdd, len_mid, ints_len, List.length_map, lt_mid, List.nil_append, List.cons_append, Bool.not_true, Bool.not_false]; first | (refine hK.out _ _ ?_; clear hK K) | (refine iteI (fun h => hK.out _ _ ?_) (fun h => hK.out _ _ ?_) <;> clear hK K)))
    simp only [resultsR, resultsL, resultA, expK_int, expK_bool, expK_str, expK_agg, expK_own, expK_tsl, resK_some, go_sem, reduceIte, Nat.reduceAdd, Nat.reduceEqDiff, Nat.reduceLT, Nat.reduceLeDiff, and_self, ]
    simp [errG, k1, k2]
  all_goals
    by_cases k3 : nameL x.name.data.toList = true
    rotate_left
    · have k3 : nameL x.name.data.toList = false := by simpa using k3
      clear qp qs
      refine EvV.walk rfl fn40 rfl nt40 rfl ?_
      simp only [List.length_cons, List.length_nil, List.cons_append, List.nil_append, Nat.reduceAdd, Nat.reduceSub, List.replicate]
      repeat' (first | refine go1 ?_ | refine blockK_else rfl ?_ | (refine wpO_cons fun K hK => ?_; simp only [go_sem, reduceIte, Nat.reduceAdd, Nat.reduceEqDiff, Nat.reduceLT, Nat.reduceLeDiff, *, and_self, i0, encG, c1, c2, s1, s2, hws, snap_str, getElem?_len, getElem?_lenAdd, set_len, set_lenAdd, len_mid, ints_len, List.length_map, lt_mid, List.nil_append, List.cons_append, Bool.not_true, Bool.not_false, qi]; first | (refine hK.out _ _ ?_; clear hK K) | (refine iteI (fun h => hK.out _ _ ?_) (fun h => hK.out _ _ ?_) <;> clear hK K)))
      (refine wpC_cond fun A B hA hB => ?_; simp only [go_sem, reduceIte, Nat.reduceAdd, Nat.reduceEqDiff, Nat.reduceLT, Nat.reduceLeDiff, *, and_self, ]; first | (refine hA.out ?_; clear hA hB A B) | (refine hB.out ?_; clear hA hB A B))
      repeat' (first | refine go1 ?_ | refine blockK_else rfl ?_ | (refine wpO_cons fun K hK => ?_; simp only [go_sem, reduceIte, Nat.reduceAdd, Nat.reduceEqDiff, Nat.reduceLT, Nat.reduceLeDiff, *, and_self, i0, encG, c1, c2, s1, s2, hws, snap_str, getElem?_len, getElem?_lenAdd, set_len, set_lenAdd, len_mid, ints_len, List.length_map, lt_mid, List.nil_append, List.cons_append, Bool.not_true, Bool.not_false]; first | (refine hK.out _ _ ?_; clear hK K) | (refine iteI (fun h => hK.out _ _ ?_) (fun h => hK.out _ _ ?_) <;> clear hK K)))
      (refine wpC_cond fun A B hA hB => ?_; simp only [go_sem, reduceIte, Nat.reduceAdd, Nat.reduceEqDiff, Nat.reduceLT, Nat.reduceLeDiff, *, and_self, ]; first | (refine hA.out ?_; clear hA hB A B) | (refine hB.out ?_; clear hA hB A B))
      repeat' (first | refine go1 ?_ | refine blockK_else rfl ?_ | (refine wpO_cons fun K hK => ?_; simp only [go_sem, reduceIte, Nat.reduceAdd, Nat.reduceEqDiff, Nat.reduceLT, Nat.reduceLeDiff, *, and_self, i0, encG, c1, c2, s1, s2, hws, snap_str, getElem?_len, getElem?_lenAdd, set_len, set_lenAdd, len_mid, ints_len, List.length_map, lt_mid, List.nil_append, List.cons_append, Bool.not_true, Bool.not_false, qn]; first | (refine hK.out _ _ ?_; clear hK K) | (refine iteI (fun h => hK.out _ _ ?_) (fun h => hK.out _ _ ?_) <;> clear hK K)))
      (refine wpC_cond fun A B hA hB => ?_; simp only [go_sem, reduceIte, Nat.reduceAdd, Nat.reduceEqDiff, Nat.reduceLT, Nat.reduceLeDiff, *, and_self, ]; first | (refine hA.out ?_; clear hA hB A B) | (refine hB.out ?_; clear hA hB A B))
      repeat' (first | refine go1 ?_ | refine blockK_else rfl ?_ | (refine wpO_cons fun K hK => ?_; simp only [go_sem, reduceIte, Nat.reduceAdd, Nat.reduceEqDiff, Nat.reduceLT, Nat.reduceLeDiff, *, and_self, ]; first | (refine hK.out _ _ ?_; clear hK K) | (refine iteI (fun h => hK.out _ _ ?_) (fun h => hK.out _ _ ?_) <;> clear hK K)))
      simp only [resultsR, resultsL, resultA, expK_int, expK_bool, expK_str, expK_agg, expK_own, expK_tsl, resK_some, go_sem, reduceIte, Nat.reduceAdd, Nat.reduceEqDiff, Nat.reduceLT, Nat.reduceLeDiff, and_self, ]
      simp [errG, k1, k2, k3]
    by_cases k4 : upB x.people = true
    rotate_left
    · have k4 : upB x.people = false := by simpa using k4
      clear qs
      refine EvV.walk rfl fn40 rfl nt40 rfl ?_
      simp only [List.length_cons, List.length_nil, List.cons_append, List.nil_append, Nat.reduceAdd, Nat.reduceSub, List.replicate]
      repeat' (first | refine go1 ?_ | refine blockK_else rfl ?_ | (refine wpO_cons fun K hK => ?_; simp only [go_sem, reduceIte, Nat.reduceAdd, Nat.reduceEqDiff, Nat.reduceLT, Nat.reduceLeDiff, *, and_self, i0, encG, c1, c2, s1, s2, hws, snap_str, getElem?_len, getElem?_lenAdd, set_len, set_lenAdd, len_mid, ints_len, List.length_map, lt_mid, List.nil_append, List.cons_append, Bool.not_true, Bool.not_false, qi]; first | (refine hK.out _ _ ?_; clear hK K) | (refine iteI (fun h => hK.out _ _ ?_) (fun h => hK.out _ _ ?_) <;> clear hK K)))
      (refine wpC_cond fun A B hA hB => ?_; simp only [go_sem, reduceIte, Nat.reduceAdd, Nat.reduceEqDiff, Nat.reduceLT, Nat.reduceLeDiff, *, and_self, ]; first | (refine hA.out ?_; clear hA hB A B) | (refine hB.out ?_; clear hA hB A B))
      repeat' (first | refine go1 ?_ | refine blockK_else rfl ?_ | (refine wpO_cons fun K hK => ?_; simp only [go_sem, reduceIte, Nat.reduceAdd, Nat.reduceEqDiff, Nat.reduceLT, Nat.reduceLeDiff, *, and_self, i0, encG, c1, c2, s1, s2, hws, snap_str, getElem?_len, getElem?_lenAdd, set_len, set_lenAdd, len_mid, ints_len, List.length_map, lt_mid, List.nil_append, List.cons_append, Bool.not_true, Bool.not_false]; first | (refine hK.out _ _ ?_; clear hK K) | (refine iteI (fun h => hK.out _ _ ?_) (fun h => hK.out _ _ ?_) <;> clear hK K)))
      (refine wpC_cond fun A B hA hB => ?_; simp only [go_sem, reduceIte, Nat.reduceAdd, Nat.reduceEqDiff, Nat.reduceLT, Nat.reduceLeDiff, *, and_self, ]; first | (refine hA.out ?_; clear hA hB A B) | (refine hB.out ?_; clear hA hB A B))
      repeat' (first | refine go1 ?_ | refine blockK_else rfl ?_ | (refine wpO_cons fun K hK => ?_; simp only [go_sem, reduceIte, Nat.reduceAdd, Nat.reduceEqDiff, Nat.reduceLT, Nat.reduceLeDiff, *, and_self, i0, encG, c1, c2, s1, s2, hws, snap_str, getElem?_len, getElem?_lenAdd, set_len, set_lenAdd, len_mid, ints_len, List.length_map, lt_mid, List.nil_append, List.cons_append, Bool.not_true, Bool.not_false, qn]; first | (refine hK.out _ _ ?_; clear hK K) | (refine iteI (fun h => hK.out _ _ ?_) (fun h => hK.out _ _ ?_) <;> clear hK K)))
      (refine wpC_cond fun A B hA hB => ?_; simp only [go_sem, reduceIte, Nat.reduceAdd, Nat.reduceEqDiff, Nat.reduceLT, Nat.reduceLeDiff, *, and_self, ]; first | (refine hA.out ?_; clear hA hB A B) | (refine hB.out ?_; clear hA hB A B))
      repeat' (first | refine go1 ?_ | refine blockK_else rfl ?_ | (refine wpO_cons fun K hK => ?_; simp only [go_sem, reduceIte, Nat.reduceAdd, Nat.reduceEqDiff, Nat.reduceLT, Nat.reduceLeDiff, *, and_self, i0, encG, c1, c2, s1, s2, hws, snap_str, getElem?_len, getElem?_lenAdd, set_len, set_lenAdd, len_mid, ints_len, List.length_map, lt_mid, List.nil_append, List.cons_append, Bool.not_true, Bool.not_false, qp]; first | (refine hK.out _ _ ?_; clear hK K) | (refine iteI (fun h => hK.out _ _ ?_) (fun h => hK.out _ _ ?_) <;> clear hK K)))
      (refine wpC_cond fun A B hA hB => ?_; simp only [go_sem, reduceIte, Nat.reduceAdd, Nat.reduceEqDiff, Nat.reduceLT, Nat.reduceLeDiff, *, and_self, ]; first | (refine hA.out ?_; clear hA hB A B) | (refine hB.out ?_; clear hA hB A B))
      repeat' (first | refine go1 ?_ | refine blockK_else rfl ?_ | (refine wpO_cons fun K hK => ?_; simp only [go_sem, reduceIte, Nat.reduceAdd, Nat.reduceEqDiff, Nat.reduceLT, Nat.reduceLeDiff, *, and_self, ]; first | (refine hK.out _ _ ?_; clear hK K) | (refine iteI (fun h => hK.out _ _ ?_) (fun h => hK.out _ _ ?_) <;> clear hK K)))
      simp only [resultsR, resultsL, resultA, expK_int, expK_bool, expK_str, expK_agg, expK_own, expK_tsl, resK_some, go_sem, reduceIte, Nat.reduceAdd, Nat.reduceEqDiff, Nat.reduceLT, Nat.reduceLeDiff, and_self, ]
      simp [errG, k1, k2, k3, k4]
    refine EvV.walk rfl fn40 rfl nt40 rfl ?_
    simp only [List.length_cons, List.length_nil, List.cons_append, List.nil_append, Nat.reduceAdd, Nat.reduceSub, List.replicate]
    repeat' (first | refine go1 ?_ | refine blockK_else rfl ?_ | (refine wpO_cons fun K hK => ?_; simp only [go_sem, reduceIte, Nat.reduceAdd, Nat.reduceEqDiff, Nat.reduceLT, Nat.reduceLeDiff, *, and_self, i0, encG, c1, c2, s1, s2, hws, snap_str, getElem?_len, getElem?_lenAdd, set_len, set_lenAdd, len_mid, ints_len, List.length_map, lt_mid, List.nil_append, List.cons_append, Bool.not_true, Bool.not_false, qi]; first | (refine hK.out _ _ ?_; clear hK K) | (refine iteI (fun h => hK.out _ _ ?_) (fun h => hK.out _ _ ?_) <;> clear hK K)))
    (refine wpC_cond fun A B hA hB => ?_; simp only [go_sem, reduceIte, Nat.reduceAdd, Nat.reduceEqDiff, Nat.reduceLT, Nat.reduceLeDiff, *, and_self, ]; first | (refine hA.out ?_; clear hA hB A B) | (refine hB.out ?_; clear hA hB A B))
    repeat' (first | refine go1 ?_ | refine blockK_else rfl ?_ | (refine wpO_cons fun K hK => ?_; simp only [go_sem, reduceIte, Nat.reduceAdd, Nat.reduceEqDiff, Nat.reduceLT, Nat.reduceLeDiff, *, and_self, i0, encG, c1, c2, s1, s2, hws, snap_str, getElem?_len, getElem?_lenAdd, set_len, set_lenAdd, len_mid, ints_len, List.length_map, lt_mid, List.nil_append, List.cons_append, Bool.not_true, Bool.not_false]; first | (refine hK.out _ _ ?_; clear hK K) | (refine iteI (fun h => hK.out _ _ ?_) (fun h => hK.out _ _ ?_) <;> clear hK K)))
    (refine wpC_cond fun A B hA hB => ?_; simp only [go_sem, reduceIte, Nat.reduceAdd, Nat.reduceEqDiff, Nat.reduceLT, Nat.reduceLeDiff, *, and_self, ]; first | (refine hA.out ?_; clear hA hB A B) | (refine hB.out ?_; clear hA hB A B))
    repeat' (first | refine go1 ?_ | refine blockK_else rfl ?_ | (refine wpO_cons fun K hK => ?_; simp only [go_sem, reduceIte, Nat.reduceAdd, Nat.reduceEqDiff, Nat.reduceLT, Nat.reduceLeDiff, *, and_self, i0, encG, c1, c2, s1, s2, hws, snap_str, getElem?_len, getElem?_lenAdd, set_len, set_lenAdd, len_mid, ints_len, List.length_map, lt_mid, List.nil_append, List.cons_append, Bool.not_true, Bool.not_false, qn]; first | (refine hK.out _ _ ?_; clear hK K) | (refine iteI (fun h => hK.out _ _ ?_) (fun h => hK.out _ _ ?_) <;> clear hK K)))
    (refine wpC_cond fun A B hA hB => ?_; simp only [go_sem, reduceIte, Nat.reduceAdd, Nat.reduceEqDiff, Nat.reduceLT, Nat.reduceLeDiff, *, and_self, ]; first | (refine hA.out ?_; clear hA hB A B) | (refine hB.out ?_; clear hA hB A B))
    repeat' (first | refine go1 ?_ | refine blockK_else rfl ?_ | (refine wpO_cons fun K hK => ?_; simp only [go_sem, reduceIte, Nat.reduceAdd, Nat.reduceEqDiff, Nat.reduceLT, Nat.reduceLeDiff, *, and_self, i0, encG, c1, c2, s1, s2, hws, snap_str, getElem?_len, getElem?_lenAdd, set_len, set_lenAdd, len_mid, ints_len, List.length_map, lt_mid, List.nil_append, List.cons_append, Bool.not_true, Bool.not_false, qp]; first | (refine hK.out _ _ ?_; clear hK K) | (refine iteI (fun h => hK.out _ _ ?_) (fun h => hK.out _ _ ?_) <;> clear hK K)))
    (refine wpC_cond fun A B hA hB => ?_; simp only [go_sem, reduceIte, Nat.reduceAdd, Nat.reduceEqDiff, Nat.reduceLT, Nat.reduceLeDiff, *, and_self, ]; first | (refine hA.out ?_; clear hA hB A B) | (refine hB.out ?_; clear hA hB A B))
    repeat' (first | refine go1 ?_ | refine blockK_else rfl ?_ | (refine wpO_cons fun K hK => ?_; simp only [go_sem, reduceIte, Nat.reduceAdd, Nat.reduceEqDiff, Nat.reduceLT, Nat.reduceLeDiff, *, and_self, i0, encG, c1, c2, s1, s2, hws, snap_str, getElem?_len, getElem?_lenAdd, set_len, set_lenAdd, len_mid, ints_len, List.length_map, lt_mid, List.nil_append, List.cons_append, Bool.not_true, Bool.not_false, lenK_sls hx.pv]; first | (refine hK.out _ _ ?_; clear hK K) | (refine iteI (fun h => hK.out _ _ ?_) (fun h => hK.out _ _ ?_) <;> clear hK K)))
    clear qn qp qi
    refine wpC_each [6, 8, 9, 10, 44, 45, 46, 47, 48, 49, 50, 51, 52, 53, 54, 55, 56, 57, 58] 43 x.people (fun _ post => x.people.all (isP ps) = post.all (isP ps)) ?_ ?_ ?_ ?_
    · rfl
    · rfl
    · intro g G hE
      simp only [garbA_cons, garbA_nil, setL_cons, setL_nil, List.set_cons_zero, List.set_cons_succ]
      have k5 : x.people.all (isP ps) = true := by rw [hE]; rfl
      clear hE
      repeat' (first | refine go1 ?_ | refine blockK_else rfl ?_ | (refine wpO_cons fun K hK => ?_; simp only [go_sem, reduceIte, Nat.reduceAdd, Nat.reduceEqDiff, Nat.reduceLT, Nat.reduceLeDiff, *, and_self, ints_len, List.length_map, Int.lt_irrefl, List.nil_append]; first | (refine hK.out _ _ ?_; clear hK K) | (refine iteI (fun h => hK.out _ _ ?_) (fun h => hK.out _ _ ?_) <;> clear hK K)))
      (refine wpC_cond fun A B hA hB => ?_; simp only [go_sem, reduceIte, Nat.reduceAdd, Nat.reduceEqDiff, Nat.reduceLT, Nat.reduceLeDiff, *, and_self, ints_len, List.length_map, Int.lt_irrefl, List.nil_append]; first | (refine hA.out ?_; clear hA hB A B) | (refine hB.out ?_; clear hA hB A B))
      repeat' (first | refine go1 ?_ | refine blockK_else rfl ?_ | (refine wpO_cons fun K hK => ?_; simp only [go_sem, reduceIte, Nat.reduceAdd, Nat.reduceEqDiff, Nat.reduceLT, Nat.reduceLeDiff, *, and_self, i0, encG, c1, c2, s1, s2, hws, snap_str, getElem?_len, getElem?_lenAdd, set_len, set_lenAdd, len_mid, ints_len, List.length_map, lt_mid, List.nil_append, List.cons_append, Bool.not_true, Bool.not_false, qs]; first | (refine hK.out _ _ ?_; clear hK K) | (refine iteI (fun h => hK.out _ _ ?_) (fun h => hK.out _ _ ?_) <;> clear hK K)))
      by_cases k6 : upB x.subs = true
      · (refine wpC_cond fun A B hA hB => ?_; simp only [go_sem, reduceIte, Nat.reduceAdd, Nat.reduceEqDiff, Nat.reduceLT, Nat.reduceLeDiff, *, and_self, ]; first | (refine hA.out ?_; clear hA hB A B) | (refine hB.out ?_; clear hA hB A B))
        repeat' (first | refine go1 ?_ | refine blockK_else rfl ?_ | (refine wpO_cons fun K hK => ?_; simp only [go_sem, reduceIte, Nat.reduceAdd, Nat.reduceEqDiff, Nat.reduceLT, Nat.reduceLeDiff, *, and_self, ]; first | (refine hK.out _ _ ?_; clear hK K) | (refine iteI (fun h => hK.out _ _ ?_) (fun h => hK.out _ _ ?_) <;> clear hK K)))
        simp only [resultsR, resultsL, resultA, expK_int, expK_bool, expK_str, expK_agg, expK_own, expK_tsl, resK_some, go_sem, reduceIte, Nat.reduceAdd, Nat.reduceEqDiff, Nat.reduceLT, Nat.reduceLeDiff, and_self, ]
        simp only [errG, k1, k2, k3, k4, k5, k6, if_true]
      · have k6 : upB x.subs = false := by simpa using k6
        (refine wpC_cond fun A B hA hB => ?_; simp only [go_sem, reduceIte, Nat.reduceAdd, Nat.reduceEqDiff, Nat.reduceLT, Nat.reduceLeDiff, *, and_self, ]; first | (refine hA.out ?_; clear hA hB A B) | (refine hB.out ?_; clear hA hB A B))
        repeat' (first | refine go1 ?_ | refine blockK_else rfl ?_ | (refine wpO_cons fun K hK => ?_; simp only [go_sem, reduceIte, Nat.reduceAdd, Nat.reduceEqDiff, Nat.reduceLT, Nat.reduceLeDiff, *, and_self, ]; first | (refine hK.out _ _ ?_; clear hK K) | (refine iteI (fun h => hK.out _ _ ?_) (fun h => hK.out _ _ ?_) <;> clear hK K)))
        simp only [resultsR, resultsL, resultA, expK_int, expK_bool, expK_str, expK_agg, expK_own, expK_tsl, resK_some, go_sem, reduceIte, Nat.reduceAdd, Nat.reduceEqDiff, Nat.reduceLT, Nat.reduceLeDiff, and_self, ]
        simp [errG, k1, k2, k3, k4, k5, k6]
    · intro g G pr y po h1 hE
      simp only [garbA_cons, garbA_nil, setL_cons, setL_nil, List.set_cons_zero, List.set_cons_succ]
      have j1 := idx_sls hx.pv (X := CX) ty23 ty3 rfl (by rw [h1]; exact ints_mid pr y po) (k := .i64)
      have lt1 : (pr.length : Int) < (x.people.length : Int) := by rw [h1]; simp; omega
      have w1 := wrap_succ (n := pr.length) (by omega)
      have q := (personR w ps y hw (by omega)).rw
      have hh1 : Hold (x.people = pr ++ y :: po) := ⟨h1⟩
      have hhE : Hold (x.people.all (isP ps) = (y :: po).all (isP ps)) := ⟨hE⟩
      clear h1 hE
      by_cases k5 : isP ps y = true
      · repeat' (first | refine go1 ?_ | refine blockK_else rfl ?_ | (refine wpO_cons fun K hK => ?_; simp only [go_sem, reduceIte, Nat.reduceAdd, Nat.reduceEqDiff, Nat.reduceLT, Nat.reduceLeDiff, *, and_self, i0, encG, c1, c2, s1, s2, hws, snap_str, getElem?_len, getElem?_lenAdd, set_len, set_lenAdd, len_mid, ints_len, List.length_map, lt_mid, List.nil_append, List.cons_append, Bool.not_true, Bool.not_false, ints_len]; first | (refine hK.out _ _ ?_; clear hK K) | (refine iteI (fun h => hK.out _ _ ?_) (fun h => hK.out _ _ ?_) <;> clear hK K)))
        (refine wpC_cond fun A B hA hB => ?_; simp only [go_sem, reduceIte, Nat.reduceAdd, Nat.reduceEqDiff, Nat.reduceLT, Nat.reduceLeDiff, *, and_self, lt1]; first | (refine hA.out ?_; clear hA hB A B) | (refine hB.out ?_; clear hA hB A B))
        repeat' (first | refine go1 ?_ | refine blockK_else rfl ?_ | (refine wpO_cons fun K hK => ?_; simp only [go_sem, reduceIte, Nat.reduceAdd, Nat.reduceEqDiff, Nat.reduceLT, Nat.reduceLeDiff, *, and_self, i0, encG, c1, c2, s1, s2, hws, snap_str, getElem?_len, getElem?_lenAdd, set_len, set_lenAdd, len_mid, ints_len, List.length_map, lt_mid, List.nil_append, List.cons_append, Bool.not_true, Bool.not_false, j1, q, adopt_two, encP]; first | (refine hK.out _ _ ?_; clear hK K) | (refine iteI (fun h => hK.out _ _ ?_) (fun h => hK.out _ _ ?_) <;> clear hK K)))
        (refine wpC_cond fun A B hA hB => ?_; simp only [go_sem, reduceIte, Nat.reduceAdd, Nat.reduceEqDiff, Nat.reduceLT, Nat.reduceLeDiff, *, and_self, ]; first | (refine hA.out ?_; clear hA hB A B) | (refine hB.out ?_; clear hA hB A B))
        repeat' (first | refine go1 ?_ | refine blockK_else rfl ?_ | (refine wpO_cons fun K hK => ?_; simp only [go_sem, reduceIte, Nat.reduceAdd, Nat.reduceEqDiff, Nat.reduceLT, Nat.reduceLeDiff, *, and_self, w1]; first | (refine hK.out _ _ ?_; clear hK K) | (refine iteI (fun h => hK.out _ _ ?_) (fun h => hK.out _ _ ?_) <;> clear hK K)))
        refine each_next hh1.out ?_ ?_ ?_
        · rw [hhE.out, List.all_cons, k5, Bool.true_and]
        · ((try simp only [eraseA_cons, eraseA_nil, setL_cons, setL_nil, List.set_cons_zero, List.set_cons_succ]); all_goals (first | rfl | (simp only [len_snoc, ints_len, List.length_map, ]; done) | (simp only [len_snoc, len_mid, ints_len, List.length_map, List.length_append, List.length_cons, List.length_nil, Nat.zero_add, ]; done) | (simp only [len_mid, len_snoc, ints_len, List.length_map, List.length_append, List.length_cons, List.length_nil, Nat.zero_add, ]; rfl)))
        · first | exact ⟨[], (List.append_nil _).symm⟩ | exact ⟨_, rfl⟩ | (simp only [List.append_assoc, List.cons_append, List.nil_append]; exact ⟨_, rfl⟩)
      · have k5 : isP ps y = false := by simpa using k5
        repeat' (first | refine go1 ?_ | refine blockK_else rfl ?_ | (refine wpO_cons fun K hK => ?_; simp only [go_sem, reduceIte, Nat.reduceAdd, Nat.reduceEqDiff, Nat.reduceLT, Nat.reduceLeDiff, *, and_self, i0, encG, c1, c2, s1, s2, hws, snap_str, getElem?_len, getElem?_lenAdd, set_len, set_lenAdd, len_mid, ints_len, List.length_map, lt_mid, List.nil_append, List.cons_append, Bool.not_true, Bool.not_false, ints_len]; first | (refine hK.out _ _ ?_; clear hK K) | (refine iteI (fun h => hK.out _ _ ?_) (fun h => hK.out _ _ ?_) <;> clear hK K)))
        (refine wpC_cond fun A B hA hB => ?_; simp only [go_sem, reduceIte, Nat.reduceAdd, Nat.reduceEqDiff, Nat.reduceLT, Nat.reduceLeDiff, *, and_self, lt1]; first | (refine hA.out ?_; clear hA hB A B) | (refine hB.out ?_; clear hA hB A B))
        repeat' (first | refine go1 ?_ | refine blockK_else rfl ?_ | (refine wpO_cons fun K hK => ?_; simp only [go_sem, reduceIte, Nat.reduceAdd, Nat.reduceEqDiff, Nat.reduceLT, Nat.reduceLeDiff, *, and_self, i0, encG, c1, c2, s1, s2, hws, snap_str, getElem?_len, getElem?_lenAdd, set_len, set_lenAdd, len_mid, ints_len, List.length_map, lt_mid, List.nil_append, List.cons_append, Bool.not_true, Bool.not_false, j1, q, adopt_two, encP]; first | (refine hK.out _ _ ?_; clear hK K) | (refine iteI (fun h => hK.out _ _ ?_) (fun h => hK.out _ _ ?_) <;> clear hK K)))
        (refine wpC_cond fun A B hA hB => ?_; simp only [go_sem, reduceIte, Nat.reduceAdd, Nat.reduceEqDiff, Nat.reduceLT, Nat.reduceLeDiff, *, and_self, ]; first | (refine hA.out ?_; clear hA hB A B) | (refine hB.out ?_; clear hA hB A B))
        repeat' (first | refine go1 ?_ | refine blockK_else rfl ?_ | (refine wpO_cons fun K hK => ?_; simp only [go_sem, reduceIte, Nat.reduceAdd, Nat.reduceEqDiff, Nat.reduceLT, Nat.reduceLeDiff, *, and_self, w1]; first | (refine hK.out _ _ ?_; clear hK K) | (refine iteI (fun h => hK.out _ _ ?_) (fun h => hK.out _ _ ?_) <;> clear hK K)))
        simp only [resultsR, resultsL, resultA, expK_int, expK_bool, expK_str, expK_agg, expK_own, expK_tsl, resK_some, go_sem, reduceIte, Nat.reduceAdd, Nat.reduceEqDiff, Nat.reduceLT, Nat.reduceLeDiff, and_self, ]
        have e : x.people.all (isP ps) = false := by rw [hhE.out, List.all_cons, k5, Bool.false_and]
        simp [errG, k1, k2, k3, k4, e]

/- Groups: Check, in the code and in the reference. -/
open Go.Proofs
set_option maxHeartbeats 4000000

/-- The first error of some groups. -/
def errF (ps : List Psn) : List Grp → List Grp → Int
  | _, [] => 0
  | pre, x :: post => if errG ps pre x = 0 then errF ps (pre ++ [x]) post else errG ps pre x
noncomputable def chkG (ps : List Psn) (gs : List Grp) : Int :=
  if gs.length ≤ 20 then if errF ps [] gs = 0 then if gs.all (fun g => g.subs.all (isG gs)) = true then if gs.any (fun g => (below gs g.id).contains g.id) = true then 17 else 0 else 9 else errF ps [] gs else 11

/- Groups: Check of the reference. -/
open Go.Proofs
attribute [local go_sem] br40 br41 br42 br43 fz87 fz90 fz91
set_option maxHeartbeats 4000000

theorem clo_of {gs : List Grp} (h : gs.all (fun g => g.subs.all (isG gs)) = true) : Clo gs := by
  intro g hg s hs
  simp only [List.all_eq_true] at h
  exact h g hg s hs

theorem checkR {v w : AV} {gs : List Grp} {ps : List Psn} (h : GsOK v gs) (hw : SLs 3 (ps.map encP) w) (hps : ps.length ≤ 1000) (hn : ∀ g ∈ gs, g.name.size ≤ 1048576) : EvV CX 29 [w, v] (· = .int .i64 (chkG ps gs)) := by
  have hvs := fun S => h.sl.snap (S := S)
  have hws := hw.snap
  have hgl := h.len
  by_cases k1 : 20 < (gs.length : Int)
  · refine EvV.walk rfl fn29 rfl nt29 rfl ?_
    simp only [List.length_cons, List.length_nil, List.cons_append, List.nil_append, Nat.reduceAdd, Nat.reduceSub, List.replicate]
    repeat' (first | refine go1 ?_ | refine blockK_else rfl ?_ | (refine wpO_cons fun K hK => ?_; simp only [go_sem, reduceIte, Nat.reduceAdd, Nat.reduceEqDiff, Nat.reduceLT, Nat.reduceLeDiff, *, and_self, lenK_sls h.sl, getElem?_len, getElem?_lenAdd, set_len, set_lenAdd, len_mid, ints_len, List.length_map, lt_mid, List.nil_append]; first | (refine hK.out _ _ ?_; clear hK K) | (refine iteI (fun h => hK.out _ _ ?_) (fun h => hK.out _ _ ?_) <;> clear hK K)))
    (refine wpC_cond fun A B hA hB => ?_; simp only [go_sem, reduceIte, Nat.reduceAdd, Nat.reduceEqDiff, Nat.reduceLT, Nat.reduceLeDiff, *, and_self, getElem?_len, getElem?_lenAdd, set_len, set_lenAdd, len_mid, ints_len, List.length_map, lt_mid, List.nil_append]; first | (refine hA.out ?_; clear hA hB A B) | (refine hB.out ?_; clear hA hB A B))
    repeat' (first | refine go1 ?_ | refine blockK_else rfl ?_ | (refine wpO_cons fun K hK => ?_; simp only [go_sem, reduceIte, Nat.reduceAdd, Nat.reduceEqDiff, Nat.reduceLT, Nat.reduceLeDiff, *, and_self, ]; first | (refine hK.out _ _ ?_; clear hK K) | (refine iteI (fun h => hK.out _ _ ?_) (fun h => hK.out _ _ ?_) <;> clear hK K)))
    simp only [resultsR, resultsL, resultA, expK_int, expK_bool, expK_str, expK_agg, expK_own, expK_tsl, resK_some, go_sem, reduceIte, Nat.reduceAdd, Nat.reduceEqDiff, Nat.reduceLT, Nat.reduceLeDiff, and_self, ]
    have : ¬ gs.length ≤ 20 := by omega
    simp [chkG, this]
  have l20 : gs.length ≤ 20 := by omega
  refine EvV.walk rfl fn29 rfl nt29 rfl ?_
  simp only [List.length_cons, List.length_nil, List.cons_append, List.nil_append, Nat.reduceAdd, Nat.reduceSub, List.replicate]
  repeat' (first | refine go1 ?_ | refine blockK_else rfl ?_ | (refine wpO_cons fun K hK => ?_; simp only [go_sem, reduceIte, Nat.reduceAdd, Nat.reduceEqDiff, Nat.reduceLT, Nat.reduceLeDiff, *, and_self, lenK_sls h.sl, getElem?_len, getElem?_lenAdd, set_len, set_lenAdd, len_mid, ints_len, List.length_map, lt_mid, List.nil_append]; first | (refine hK.out _ _ ?_; clear hK K) | (refine iteI (fun h => hK.out _ _ ?_) (fun h => hK.out _ _ ?_) <;> clear hK K)))
  (refine wpC_cond fun A B hA hB => ?_; simp only [go_sem, reduceIte, Nat.reduceAdd, Nat.reduceEqDiff, Nat.reduceLT, Nat.reduceLeDiff, *, and_self, getElem?_len, getElem?_lenAdd, set_len, set_lenAdd, len_mid, ints_len, List.length_map, lt_mid, List.nil_append]; first | (refine hA.out ?_; clear hA hB A B) | (refine hB.out ?_; clear hA hB A B))
  repeat' (first | refine go1 ?_ | refine blockK_else rfl ?_ | (refine wpO_cons fun K hK => ?_; simp only [go_sem, reduceIte, Nat.reduceAdd, Nat.reduceEqDiff, Nat.reduceLT, Nat.reduceLeDiff, *, and_self, lenK_sls h.sl, getElem?_len, getElem?_lenAdd, set_len, set_lenAdd, len_mid, ints_len, List.length_map, lt_mid, List.nil_append]; first | (refine hK.out _ _ ?_; clear hK K) | (refine iteI (fun h => hK.out _ _ ?_) (fun h => hK.out _ _ ?_) <;> clear hK K)))
  have hl20 : Hold (gs.length ≤ 20) := ⟨l20⟩
  clear k1 l20
  refine wpC_each [4, 5, 6, 16, 17, 18, 19, 20, 21, 22, 23, 24, 25] 15 gs (fun pre post => errF ps [] gs = errF ps pre post) ?_ ?_ ?_ ?_
  · rfl
  · rfl
  rotate_left
  · intro g G pre x post h1 hE
    have lt1 : (pre.length : Int) < (gs.length : Int) := by rw [h1]; simp; omega
    have w1 := wrap_succ (n := pre.length) (by rw [h1] at hgl; simp at hgl; omega)
    have q := (oneR h hw hps h1 (hn x (by rw [h1]; simp))).rw
    have hh1 : Hold (gs = pre ++ x :: post) := ⟨h1⟩
    have hhE : Hold (errF ps [] gs = errF ps pre (x :: post)) := ⟨hE⟩
    clear h1 hE
    obtain ⟨e, he⟩ : ∃ e, errG ps pre x = e := ⟨_, rfl⟩
    have hhe : Hold (errG ps pre x = e) := ⟨he⟩
    rw [he] at q
    clear he
    simp only [garbA_cons, garbA_nil, setL_cons, setL_nil, List.set_cons_zero, List.set_cons_succ]
    by_cases k2 : e = 0
    · subst k2
      have z : ((0 : Int) != 0) = false := rfl
      repeat' (first | refine go1 ?_ | refine blockK_else rfl ?_ | (refine wpO_cons fun K hK => ?_; simp only [go_sem, reduceIte, Nat.reduceAdd, Nat.reduceEqDiff, Nat.reduceLT, Nat.reduceLeDiff, *, and_self, ]; first | (refine hK.out _ _ ?_; clear hK K) | (refine iteI (fun h => hK.out _ _ ?_) (fun h => hK.out _ _ ?_) <;> clear hK K)))
      (refine wpC_cond fun A B hA hB => ?_; simp only [go_sem, reduceIte, Nat.reduceAdd, Nat.reduceEqDiff, Nat.reduceLT, Nat.reduceLeDiff, *, and_self, lt1]; first | (refine hA.out ?_; clear hA hB A B) | (refine hB.out ?_; clear hA hB A B))
      repeat' (first | refine go1 ?_ | refine blockK_else rfl ?_ | (refine wpO_cons fun K hK => ?_; simp only [go_sem, reduceIte, Nat.reduceAdd, Nat.reduceEqDiff, Nat.reduceLT, Nat.reduceLeDiff, *, and_self, hws, hvs, adopt_int, getElem?_len, getElem?_lenAdd, set_len, set_lenAdd, len_mid, ints_len, List.length_map, lt_mid, List.nil_append, q]; first | (refine hK.out _ _ ?_; clear hK K) | (refine iteI (fun h => hK.out _ _ ?_) (fun h => hK.out _ _ ?_) <;> clear hK K)))
      (refine wpC_cond fun A B hA hB => ?_; simp only [go_sem, reduceIte, Nat.reduceAdd, Nat.reduceEqDiff, Nat.reduceLT, Nat.reduceLeDiff, *, and_self, z]; first | (refine hA.out ?_; clear hA hB A B) | (refine hB.out ?_; clear hA hB A B))
      repeat' (first | refine go1 ?_ | refine blockK_else rfl ?_ | (refine wpO_cons fun K hK => ?_; simp only [go_sem, reduceIte, Nat.reduceAdd, Nat.reduceEqDiff, Nat.reduceLT, Nat.reduceLeDiff, *, and_self, w1]; first | (refine hK.out _ _ ?_; clear hK K) | (refine iteI (fun h => hK.out _ _ ?_) (fun h => hK.out _ _ ?_) <;> clear hK K)))
      refine each_next hh1.out ?_ ?_ ?_
      · rw [hhE.out, errF, if_pos hhe.out]
      · ((try simp only [eraseA_cons, eraseA_nil, setL_cons, setL_nil, List.set_cons_zero, List.set_cons_succ]); all_goals (first | rfl | (simp only [len_snoc, ints_len, List.length_map, ]; done) | (simp only [len_snoc, len_mid, ints_len, List.length_map, List.length_append, List.length_cons, List.length_nil, Nat.zero_add, ]; done) | (simp only [len_mid, len_snoc, ints_len, List.length_map, List.length_append, List.length_cons, List.length_nil, Nat.zero_add, ]; rfl)))
      · first | exact ⟨[], (List.append_nil _).symm⟩ | exact ⟨_, rfl⟩ | (simp only [List.append_assoc, List.cons_append, List.nil_append]; exact ⟨_, rfl⟩)
    · repeat' (first | refine go1 ?_ | refine blockK_else rfl ?_ | (refine wpO_cons fun K hK => ?_; simp only [go_sem, reduceIte, Nat.reduceAdd, Nat.reduceEqDiff, Nat.reduceLT, Nat.reduceLeDiff, *, and_self, ]; first | (refine hK.out _ _ ?_; clear hK K) | (refine iteI (fun h => hK.out _ _ ?_) (fun h => hK.out _ _ ?_) <;> clear hK K)))
      (refine wpC_cond fun A B hA hB => ?_; simp only [go_sem, reduceIte, Nat.reduceAdd, Nat.reduceEqDiff, Nat.reduceLT, Nat.reduceLeDiff, *, and_self, lt1]; first | (refine hA.out ?_; clear hA hB A B) | (refine hB.out ?_; clear hA hB A B))
      repeat' (first | refine go1 ?_ | refine blockK_else rfl ?_ | (refine wpO_cons fun K hK => ?_; simp only [go_sem, reduceIte, Nat.reduceAdd, Nat.reduceEqDiff, Nat.reduceLT, Nat.reduceLeDiff, *, and_self, hws, hvs, adopt_int, getElem?_len, getElem?_lenAdd, set_len, set_lenAdd, len_mid, ints_len, List.length_map, lt_mid, List.nil_append, q]; first | (refine hK.out _ _ ?_; clear hK K) | (refine iteI (fun h => hK.out _ _ ?_) (fun h => hK.out _ _ ?_) <;> clear hK K)))
      (refine wpC_cond fun A B hA hB => ?_; simp only [go_sem, reduceIte, Nat.reduceAdd, Nat.reduceEqDiff, Nat.reduceLT, Nat.reduceLeDiff, *, and_self, k2]; first | (refine hA.out ?_; clear hA hB A B) | (refine hB.out ?_; clear hA hB A B))
      repeat' (first | refine go1 ?_ | refine blockK_else rfl ?_ | (refine wpO_cons fun K hK => ?_; simp only [go_sem, reduceIte, Nat.reduceAdd, Nat.reduceEqDiff, Nat.reduceLT, Nat.reduceLeDiff, *, and_self, w1]; first | (refine hK.out _ _ ?_; clear hK K) | (refine iteI (fun h => hK.out _ _ ?_) (fun h => hK.out _ _ ?_) <;> clear hK K)))
      simp only [resultsR, resultsL, resultA, expK_int, expK_bool, expK_str, expK_agg, expK_own, expK_tsl, resK_some, go_sem, reduceIte, Nat.reduceAdd, Nat.reduceEqDiff, Nat.reduceLT, Nat.reduceLeDiff, and_self, ]
      have e1 : errF ps [] gs = e := by rw [hhE.out, errF, hhe.out, if_neg k2]
      simp [chkG, hl20.out, e1, k2]
  intro g G hE
  have hhE : Hold (errF ps [] gs = 0) := ⟨hE⟩
  clear hE
  simp only [garbA_cons, garbA_nil, setL_cons, setL_nil, List.set_cons_zero, List.set_cons_succ]
  repeat' (first | refine go1 ?_ | refine blockK_else rfl ?_ | (refine wpO_cons fun K hK => ?_; simp only [go_sem, reduceIte, Nat.reduceAdd, Nat.reduceEqDiff, Nat.reduceLT, Nat.reduceLeDiff, *, and_self, ]; first | (refine hK.out _ _ ?_; clear hK K) | (refine iteI (fun h => hK.out _ _ ?_) (fun h => hK.out _ _ ?_) <;> clear hK K)))
  (refine wpC_cond fun A B hA hB => ?_; simp only [go_sem, reduceIte, Nat.reduceAdd, Nat.reduceEqDiff, Nat.reduceLT, Nat.reduceLeDiff, *, and_self, Int.lt_irrefl]; first | (refine hA.out ?_; clear hA hB A B) | (refine hB.out ?_; clear hA hB A B))
  repeat' (first | refine go1 ?_ | refine blockK_else rfl ?_ | (refine wpO_cons fun K hK => ?_; simp only [go_sem, reduceIte, Nat.reduceAdd, Nat.reduceEqDiff, Nat.reduceLT, Nat.reduceLeDiff, *, and_self, lenK_sls h.sl, getElem?_len, getElem?_lenAdd, set_len, set_lenAdd, len_mid, ints_len, List.length_map, lt_mid, List.nil_append]; first | (refine hK.out _ _ ?_; clear hK K) | (refine iteI (fun h => hK.out _ _ ?_) (fun h => hK.out _ _ ?_) <;> clear hK K)))
  refine wpC_each [4, 7, 8, 29, 30, 31, 32, 33, 34, 35, 36, 37, 38, 39, 40, 41, 42, 43, 44, 45, 46, 47, 48, 49, 50, 51, 52] 28 gs (fun pre post => gs.all (fun g => g.subs.all (isG gs)) = post.all (fun g => g.subs.all (isG gs))) ?_ ?_ ?_ ?_
  · rfl
  · rfl
  rotate_left
  · intro g G pre x post h1 hE
    have i0 := idx_sls h.sl (X := CX) ty22 ty53 rfl (n := pre.length) (row := encG x) (k := .i64) (map_at encG h1)
    have lt1 : (pre.length : Int) < (gs.length : Int) := by rw [h1]; simp; omega
    have w1 := wrap_succ (n := pre.length) (by rw [h1] at hgl; simp at hgl; omega)
    have hxm : x ∈ gs := by rw [h1]; simp
    have hx := h.ok x hxm
    have hsl := h.subs x hxm
    have c1 := hx.pv.cell
    have c2 := hx.sv.cell
    have s1 := hx.pv.snap
    have s2 := hx.sv.snap
    have hh1 : Hold (gs = pre ++ x :: post) := ⟨h1⟩
    have hhE : Hold (gs.all (fun g => g.subs.all (isG gs)) = (x :: post).all (fun g => g.subs.all (isG gs))) := ⟨hE⟩
    clear h1 hE hxm
    simp only [garbA_cons, garbA_nil, setL_cons, setL_nil, List.set_cons_zero, List.set_cons_succ]
    repeat' (first | refine go1 ?_ | refine blockK_else rfl ?_ | (refine wpO_cons fun K hK => ?_; simp only [go_sem, reduceIte, Nat.reduceAdd, Nat.reduceEqDiff, Nat.reduceLT, Nat.reduceLeDiff, *, and_self, ]; first | (refine hK.out _ _ ?_; clear hK K) | (refine iteI (fun h => hK.out _ _ ?_) (fun h => hK.out _ _ ?_) <;> clear hK K)))
    (refine wpC_cond fun A B hA hB => ?_; simp only [go_sem, reduceIte, Nat.reduceAdd, Nat.reduceEqDiff, Nat.reduceLT, Nat.reduceLeDiff, *, and_self, lt1]; first | (refine hA.out ?_; clear hA hB A B) | (refine hB.out ?_; clear hA hB A B))
    repeat' (first | refine go1 ?_ | refine blockK_else rfl ?_ | (refine wpO_cons fun K hK => ?_; simp only [go_sem, reduceIte, Nat.reduceAdd, Nat.reduceEqDiff, Nat.reduceLT, Nat.reduceLeDiff, *, and_self, encG, c1, c2, s1, s2, hws, hvs, snap_str, getElem?_len, getElem?_lenAdd, set_len, set_lenAdd, len_mid, ints_len, List.length_map, lt_mid, List.nil_append, List.cons_append, Bool.not_true, Bool.not_false, adopt_int, adopt_two, adopt_osl, adopt_tsl, adopt_nils, i0, lenK_sls hx.sv]; first | (refine hK.out _ _ ?_; clear hK K) | (refine iteI (fun h => hK.out _ _ ?_) (fun h => hK.out _ _ ?_) <;> clear hK K)))
    refine wpC_each [4, 8, 38, 39, 40, 41, 42, 43, 44, 45, 46, 47, 48, 49, 50, 51] 37 x.subs (fun _ post => x.subs.all (isG gs) = post.all (isG gs)) ?_ ?_ ?_ ?_
    · rfl
    · rfl
    · intro g' G' hS
      have hhS : Hold (x.subs.all (isG gs) = true) := ⟨by rw [hS]; rfl⟩
      clear hS
      simp only [garbA_cons, garbA_nil, setL_cons, setL_nil, List.set_cons_zero, List.set_cons_succ]
      repeat' (first | refine go1 ?_ | refine blockK_else rfl ?_ | (refine wpO_cons fun K hK => ?_; simp only [go_sem, reduceIte, Nat.reduceAdd, Nat.reduceEqDiff, Nat.reduceLT, Nat.reduceLeDiff, *, and_self, ]; first | (refine hK.out _ _ ?_; clear hK K) | (refine iteI (fun h => hK.out _ _ ?_) (fun h => hK.out _ _ ?_) <;> clear hK K)))
      (refine wpC_cond fun A B hA hB => ?_; simp only [go_sem, reduceIte, Nat.reduceAdd, Nat.reduceEqDiff, Nat.reduceLT, Nat.reduceLeDiff, *, and_self, ints_len, List.length_map, Int.lt_irrefl, List.nil_append]; first | (refine hA.out ?_; clear hA hB A B) | (refine hB.out ?_; clear hA hB A B))
      repeat' (first | refine go1 ?_ | refine blockK_else rfl ?_ | (refine wpO_cons fun K hK => ?_; simp only [go_sem, reduceIte, Nat.reduceAdd, Nat.reduceEqDiff, Nat.reduceLT, Nat.reduceLeDiff, *, and_self, w1]; first | (refine hK.out _ _ ?_; clear hK K) | (refine iteI (fun h => hK.out _ _ ?_) (fun h => hK.out _ _ ?_) <;> clear hK K)))
      refine each_next hh1.out ?_ ?_ ?_
      · rw [hhE.out, List.all_cons, hhS.out, Bool.true_and]
      · ((try simp only [eraseA_cons, eraseA_nil, setL_cons, setL_nil, List.set_cons_zero, List.set_cons_succ]); all_goals (first | rfl | (simp only [len_snoc, ints_len, List.length_map, ]; done) | (simp only [len_snoc, len_mid, ints_len, List.length_map, List.length_append, List.length_cons, List.length_nil, Nat.zero_add, ]; done) | (simp only [len_mid, len_snoc, ints_len, List.length_map, List.length_append, List.length_cons, List.length_nil, Nat.zero_add, ]; rfl)))
      · first | exact ⟨[], (List.append_nil _).symm⟩ | exact ⟨_, rfl⟩ | (simp only [List.append_assoc, List.cons_append, List.nil_append]; exact ⟨_, rfl⟩)
    · intro g' G' pr y po h2 hS
      have j1 := idx_sls hx.sv (X := CX) ty23 ty3 rfl (by rw [h2]; exact ints_mid pr y po) (k := .i64)
      have lt2 : (pr.length : Int) < (x.subs.length : Int) := by rw [h2]; simp; omega
      have w2 := wrap_succ (n := pr.length) (by omega)
      have q := (findR h y).rw
      have hh2 : Hold (x.subs = pr ++ y :: po) := ⟨h2⟩
      have hhS : Hold (x.subs.all (isG gs) = (y :: po).all (isG gs)) := ⟨hS⟩
      clear h2 hS
      simp only [garbA_cons, garbA_nil, setL_cons, setL_nil, List.set_cons_zero, List.set_cons_succ]
      rcases gIdx_cases gs y with ⟨k5, e2⟩ | ⟨a, b, k5, e2, e3⟩
      rotate_left
      · rw [e3] at q
        have z : ¬ (a.length : Int) < 0 := by omega
        clear e2 e3
        repeat' (first | refine go1 ?_ | refine blockK_else rfl ?_ | (refine wpO_cons fun K hK => ?_; simp only [go_sem, reduceIte, Nat.reduceAdd, Nat.reduceEqDiff, Nat.reduceLT, Nat.reduceLeDiff, *, and_self, ints_len]; first | (refine hK.out _ _ ?_; clear hK K) | (refine iteI (fun h => hK.out _ _ ?_) (fun h => hK.out _ _ ?_) <;> clear hK K)))
        (refine wpC_cond fun A B hA hB => ?_; simp only [go_sem, reduceIte, Nat.reduceAdd, Nat.reduceEqDiff, Nat.reduceLT, Nat.reduceLeDiff, *, and_self, lt2]; first | (refine hA.out ?_; clear hA hB A B) | (refine hB.out ?_; clear hA hB A B))
        repeat' (first | refine go1 ?_ | refine blockK_else rfl ?_ | (refine wpO_cons fun K hK => ?_; simp only [go_sem, reduceIte, Nat.reduceAdd, Nat.reduceEqDiff, Nat.reduceLT, Nat.reduceLeDiff, *, and_self, encG, c1, c2, s1, s2, hws, hvs, snap_str, getElem?_len, getElem?_lenAdd, set_len, set_lenAdd, len_mid, ints_len, List.length_map, lt_mid, List.nil_append, List.cons_append, Bool.not_true, Bool.not_false, adopt_int, adopt_two, adopt_osl, adopt_tsl, adopt_nils, i0, j1, q]; first | (refine hK.out _ _ ?_; clear hK K) | (refine iteI (fun h => hK.out _ _ ?_) (fun h => hK.out _ _ ?_) <;> clear hK K)))
        (refine wpC_cond fun A B hA hB => ?_; simp only [go_sem, reduceIte, Nat.reduceAdd, Nat.reduceEqDiff, Nat.reduceLT, Nat.reduceLeDiff, *, and_self, ]; first | (refine hA.out ?_; clear hA hB A B) | (refine hB.out ?_; clear hA hB A B))
        repeat' (first | refine go1 ?_ | refine blockK_else rfl ?_ | (refine wpO_cons fun K hK => ?_; simp only [go_sem, reduceIte, Nat.reduceAdd, Nat.reduceEqDiff, Nat.reduceLT, Nat.reduceLeDiff, *, and_self, w2]; first | (refine hK.out _ _ ?_; clear hK K) | (refine iteI (fun h => hK.out _ _ ?_) (fun h => hK.out _ _ ?_) <;> clear hK K)))
        refine each_next hh2.out ?_ ?_ ?_
        · rw [hhS.out, List.all_cons, k5, Bool.true_and]
        · ((try simp only [eraseA_cons, eraseA_nil, setL_cons, setL_nil, List.set_cons_zero, List.set_cons_succ]); all_goals (first | rfl | (simp only [len_snoc, ints_len, List.length_map, ]; done) | (simp only [len_snoc, len_mid, ints_len, List.length_map, List.length_append, List.length_cons, List.length_nil, Nat.zero_add, ]; done) | (simp only [len_mid, len_snoc, ints_len, List.length_map, List.length_append, List.length_cons, List.length_nil, Nat.zero_add, ]; rfl)))
        · first | exact ⟨[], (List.append_nil _).symm⟩ | exact ⟨_, rfl⟩ | (simp only [List.append_assoc, List.cons_append, List.nil_append]; exact ⟨_, rfl⟩)
      · rw [e2] at q
        have z : (-1 : Int) < 0 := by omega
        clear e2
        repeat' (first | refine go1 ?_ | refine blockK_else rfl ?_ | (refine wpO_cons fun K hK => ?_; simp only [go_sem, reduceIte, Nat.reduceAdd, Nat.reduceEqDiff, Nat.reduceLT, Nat.reduceLeDiff, *, and_self, ints_len]; first | (refine hK.out _ _ ?_; clear hK K) | (refine iteI (fun h => hK.out _ _ ?_) (fun h => hK.out _ _ ?_) <;> clear hK K)))
        (refine wpC_cond fun A B hA hB => ?_; simp only [go_sem, reduceIte, Nat.reduceAdd, Nat.reduceEqDiff, Nat.reduceLT, Nat.reduceLeDiff, *, and_self, lt2]; first | (refine hA.out ?_; clear hA hB A B) | (refine hB.out ?_; clear hA hB A B))
        repeat' (first | refine go1 ?_ | refine blockK_else rfl ?_ | (refine wpO_cons fun K hK => ?_; simp only [go_sem, reduceIte, Nat.reduceAdd, Nat.reduceEqDiff, Nat.reduceLT, Nat.reduceLeDiff, *, and_self, encG, c1, c2, s1, s2, hws, hvs, snap_str, getElem?_len, getElem?_lenAdd, set_len, set_lenAdd, len_mid, ints_len, List.length_map, lt_mid, List.nil_append, List.cons_append, Bool.not_true, Bool.not_false, adopt_int, adopt_two, adopt_osl, adopt_tsl, adopt_nils, i0, j1, q]; first | (refine hK.out _ _ ?_; clear hK K) | (refine iteI (fun h => hK.out _ _ ?_) (fun h => hK.out _ _ ?_) <;> clear hK K)))
        (refine wpC_cond fun A B hA hB => ?_; simp only [go_sem, reduceIte, Nat.reduceAdd, Nat.reduceEqDiff, Nat.reduceLT, Nat.reduceLeDiff, *, and_self, ]; first | (refine hA.out ?_; clear hA hB A B) | (refine hB.out ?_; clear hA hB A B))
        repeat' (first | refine go1 ?_ | refine blockK_else rfl ?_ | (refine wpO_cons fun K hK => ?_; simp only [go_sem, reduceIte, Nat.reduceAdd, Nat.reduceEqDiff, Nat.reduceLT, Nat.reduceLeDiff, *, and_self, w2]; first | (refine hK.out _ _ ?_; clear hK K) | (refine iteI (fun h => hK.out _ _ ?_) (fun h => hK.out _ _ ?_) <;> clear hK K)))
        simp only [resultsR, resultsL, resultA, expK_int, expK_bool, expK_str, expK_agg, expK_own, expK_tsl, resK_some, go_sem, reduceIte, Nat.reduceAdd, Nat.reduceEqDiff, Nat.reduceLT, Nat.reduceLeDiff, and_self, ]
        have e : gs.all (fun g => g.subs.all (isG gs)) = false := by rw [hhE.out, List.all_cons, hhS.out, List.all_cons, k5, Bool.false_and, Bool.false_and]
        have e' : ¬ gs.all (fun g => g.subs.all (isG gs)) = true := by rw [e]; decide
        rw [chkG, if_pos hl20.out, if_pos (by assumption : Hold (errF ps [] gs = 0)).out, if_neg e']
  intro g' G' hA
  have hhA : Hold (gs.all (fun g => g.subs.all (isG gs)) = true) := ⟨by rw [hA]; rfl⟩
  clear hA
  simp only [garbA_cons, garbA_nil, setL_cons, setL_nil, List.set_cons_zero, List.set_cons_succ]
  generalize G ++ G' = G0
  repeat' (first | refine go1 ?_ | refine blockK_else rfl ?_ | (refine wpO_cons fun K hK => ?_; simp only [go_sem, reduceIte, Nat.reduceAdd, Nat.reduceEqDiff, Nat.reduceLT, Nat.reduceLeDiff, *, and_self, ]; first | (refine hK.out _ _ ?_; clear hK K) | (refine iteI (fun h => hK.out _ _ ?_) (fun h => hK.out _ _ ?_) <;> clear hK K)))
  (refine wpC_cond fun A B hA hB => ?_; simp only [go_sem, reduceIte, Nat.reduceAdd, Nat.reduceEqDiff, Nat.reduceLT, Nat.reduceLeDiff, *, and_self, Int.lt_irrefl]; first | (refine hA.out ?_; clear hA hB A B) | (refine hB.out ?_; clear hA hB A B))
  repeat' (first | refine go1 ?_ | refine blockK_else rfl ?_ | (refine wpO_cons fun K hK => ?_; simp only [go_sem, reduceIte, Nat.reduceAdd, Nat.reduceEqDiff, Nat.reduceLT, Nat.reduceLeDiff, *, and_self, lenK_sls h.sl, getElem?_len, getElem?_lenAdd, set_len, set_lenAdd, len_mid, ints_len, List.length_map, lt_mid, List.nil_append]; first | (refine hK.out _ _ ?_; clear hK K) | (refine iteI (fun h => hK.out _ _ ?_) (fun h => hK.out _ _ ?_) <;> clear hK K)))
  refine wpC_each [4, 9, 56, 57, 58, 59, 60, 61, 62, 63, 64, 65, 66, 67, 68, 69, 70, 71] 55 gs (fun pre post => gs.any (fun g => (below gs g.id).contains g.id) = post.any (fun g => (below gs g.id).contains g.id)) ?_ ?_ ?_ ?_
  · rfl
  · rfl
  · intro g G hE
    have hhN : Hold (gs.any (fun g => (below gs g.id).contains g.id) = false) := ⟨by rw [hE]; rfl⟩
    clear hE
    simp only [garbA_cons, garbA_nil, setL_cons, setL_nil, List.set_cons_zero, List.set_cons_succ]
    repeat' (first | refine go1 ?_ | refine blockK_else rfl ?_ | (refine wpO_cons fun K hK => ?_; simp only [go_sem, reduceIte, Nat.reduceAdd, Nat.reduceEqDiff, Nat.reduceLT, Nat.reduceLeDiff, *, and_self, ]; first | (refine hK.out _ _ ?_; clear hK K) | (refine iteI (fun h => hK.out _ _ ?_) (fun h => hK.out _ _ ?_) <;> clear hK K)))
    (refine wpC_cond fun A B hA hB => ?_; simp only [go_sem, reduceIte, Nat.reduceAdd, Nat.reduceEqDiff, Nat.reduceLT, Nat.reduceLeDiff, *, and_self, Int.lt_irrefl]; first | (refine hA.out ?_; clear hA hB A B) | (refine hB.out ?_; clear hA hB A B))
    repeat' (first | refine go1 ?_ | refine blockK_else rfl ?_ | (refine wpO_cons fun K hK => ?_; simp only [go_sem, reduceIte, Nat.reduceAdd, Nat.reduceEqDiff, Nat.reduceLT, Nat.reduceLeDiff, *, and_self, ]; first | (refine hK.out _ _ ?_; clear hK K) | (refine iteI (fun h => hK.out _ _ ?_) (fun h => hK.out _ _ ?_) <;> clear hK K)))
    simp only [resultsR, resultsL, resultA, expK_int, expK_bool, expK_str, expK_agg, expK_own, expK_tsl, resK_some, go_sem, reduceIte, Nat.reduceAdd, Nat.reduceEqDiff, Nat.reduceLT, Nat.reduceLeDiff, and_self, ]
    have e' : ¬ gs.any (fun g => (below gs g.id).contains g.id) = true := by rw [hhN.out]; decide
    rw [chkG, if_pos hl20.out, if_pos hhE.out, if_pos hhA.out, if_neg e']
  · intro g G pre x post h1 hE
    have i0 := idx_sls h.sl (X := CX) ty22 ty53 rfl (n := pre.length) (row := encG x) (k := .i64) (map_at encG h1)
    have lt1 : (pre.length : Int) < (gs.length : Int) := by rw [h1]; simp; omega
    have w1 := wrap_succ (n := pre.length) (by rw [h1] at hgl; simp at hgl; omega)
    have hxm : x ∈ gs := by rw [h1]; simp
    have hx := h.ok x hxm
    have c1 := hx.pv.cell
    have c2 := hx.sv.cell
    have s1 := hx.pv.snap
    have s2 := hx.sv.snap
    have hh1 : Hold (gs = pre ++ x :: post) := ⟨h1⟩
    have hhN : Hold (gs.any (fun g => (below gs g.id).contains g.id) = (x :: post).any (fun g => (below gs g.id).contains g.id)) := ⟨hE⟩
    have hbl := below_len gs x.id
    have q := (belowRE h x.id).rw
    rw [belowR_eq (clo_of hhA.out)] at q
    clear h1 hE hxm
    simp only [garbA_cons, garbA_nil, setL_cons, setL_nil, List.set_cons_zero, List.set_cons_succ]
    obtain ⟨GG, hGG⟩ : ∃ GG, GG = G0 ++ G := ⟨_, rfl⟩
    rw [← hGG]
    have hhG : Hold (GG = G0 ++ G) := ⟨hGG⟩
    clear hGG
    have q2 := (has1 (.tsl false 1 (ints (below gs x.id))) _ x.id (.rows false) (by omega)).rw
    by_cases k5 : (below gs x.id).contains x.id = true
    · rw [k5] at q2
      repeat' (first | refine go1 ?_ | refine blockK_else rfl ?_ | (refine wpO_cons fun K hK => ?_; simp only [go_sem, reduceIte, Nat.reduceAdd, Nat.reduceEqDiff, Nat.reduceLT, Nat.reduceLeDiff, *, and_self, ]; first | (refine hK.out _ _ ?_; clear hK K) | (refine iteI (fun h => hK.out _ _ ?_) (fun h => hK.out _ _ ?_) <;> clear hK K)))
      (refine wpC_cond fun A B hA hB => ?_; simp only [go_sem, reduceIte, Nat.reduceAdd, Nat.reduceEqDiff, Nat.reduceLT, Nat.reduceLeDiff, *, and_self, lt1]; first | (refine hA.out ?_; clear hA hB A B) | (refine hB.out ?_; clear hA hB A B))
      repeat' (first | refine go1 ?_ | refine blockK_else rfl ?_ | (refine wpO_cons fun K hK => ?_; simp only [go_sem, reduceIte, Nat.reduceAdd, Nat.reduceEqDiff, Nat.reduceLT, Nat.reduceLeDiff, *, and_self, encG, c1, c2, s1, s2, hws, hvs, snap_str, getElem?_len, getElem?_lenAdd, set_len, set_lenAdd, len_mid, ints_len, List.length_map, lt_mid, List.nil_append, List.cons_append, Bool.not_true, Bool.not_false, adopt_int, adopt_two, adopt_osl, adopt_tsl, adopt_nils, i0, q, q2, snap_sl, rowsOf_sl, ints_len, ints_take, List.take_length, Nat.zero_le, Nat.zero_add, Bool.true_or, List.append_assoc, List.nil_append]; first | (refine hK.out _ _ ?_; clear hK K) | (refine iteI (fun h => hK.out _ _ ?_) (fun h => hK.out _ _ ?_) <;> clear hK K)))
      (refine wpC_cond fun A B hA hB => ?_; simp only [go_sem, reduceIte, Nat.reduceAdd, Nat.reduceEqDiff, Nat.reduceLT, Nat.reduceLeDiff, *, and_self, ]; first | (refine hA.out ?_; clear hA hB A B) | (refine hB.out ?_; clear hA hB A B))
      repeat' (first | refine go1 ?_ | refine blockK_else rfl ?_ | (refine wpO_cons fun K hK => ?_; simp only [go_sem, reduceIte, Nat.reduceAdd, Nat.reduceEqDiff, Nat.reduceLT, Nat.reduceLeDiff, *, and_self, w1]; first | (refine hK.out _ _ ?_; clear hK K) | (refine iteI (fun h => hK.out _ _ ?_) (fun h => hK.out _ _ ?_) <;> clear hK K)))
      simp only [resultsR, resultsL, resultA, expK_int, expK_bool, expK_str, expK_agg, expK_own, expK_tsl, resK_some, go_sem, reduceIte, Nat.reduceAdd, Nat.reduceEqDiff, Nat.reduceLT, Nat.reduceLeDiff, and_self, ]
      have e : gs.any (fun g => (below gs g.id).contains g.id) = true := by rw [hhN.out, List.any_cons, k5, Bool.true_or]
      rw [chkG, if_pos hl20.out, if_pos hhE.out, if_pos hhA.out, if_pos e]
    · have k5 : (below gs x.id).contains x.id = false := by simpa using k5
      rw [k5] at q2
      repeat' (first | refine go1 ?_ | refine blockK_else rfl ?_ | (refine wpO_cons fun K hK => ?_; simp only [go_sem, reduceIte, Nat.reduceAdd, Nat.reduceEqDiff, Nat.reduceLT, Nat.reduceLeDiff, *, and_self, ]; first | (refine hK.out _ _ ?_; clear hK K) | (refine iteI (fun h => hK.out _ _ ?_) (fun h => hK.out _ _ ?_) <;> clear hK K)))
      (refine wpC_cond fun A B hA hB => ?_; simp only [go_sem, reduceIte, Nat.reduceAdd, Nat.reduceEqDiff, Nat.reduceLT, Nat.reduceLeDiff, *, and_self, lt1]; first | (refine hA.out ?_; clear hA hB A B) | (refine hB.out ?_; clear hA hB A B))
      repeat' (first | refine go1 ?_ | refine blockK_else rfl ?_ | (refine wpO_cons fun K hK => ?_; simp only [go_sem, reduceIte, Nat.reduceAdd, Nat.reduceEqDiff, Nat.reduceLT, Nat.reduceLeDiff, *, and_self, encG, c1, c2, s1, s2, hws, hvs, snap_str, getElem?_len, getElem?_lenAdd, set_len, set_lenAdd, len_mid, ints_len, List.length_map, lt_mid, List.nil_append, List.cons_append, Bool.not_true, Bool.not_false, adopt_int, adopt_two, adopt_osl, adopt_tsl, adopt_nils, i0, q, q2, snap_sl, rowsOf_sl, ints_len, ints_take, List.take_length, Nat.zero_le, Nat.zero_add, Bool.true_or, List.append_assoc, List.nil_append]; first | (refine hK.out _ _ ?_; clear hK K) | (refine iteI (fun h => hK.out _ _ ?_) (fun h => hK.out _ _ ?_) <;> clear hK K)))
      (refine wpC_cond fun A B hA hB => ?_; simp only [go_sem, reduceIte, Nat.reduceAdd, Nat.reduceEqDiff, Nat.reduceLT, Nat.reduceLeDiff, *, and_self, ]; first | (refine hA.out ?_; clear hA hB A B) | (refine hB.out ?_; clear hA hB A B))
      repeat' (first | refine go1 ?_ | refine blockK_else rfl ?_ | (refine wpO_cons fun K hK => ?_; simp only [go_sem, reduceIte, Nat.reduceAdd, Nat.reduceEqDiff, Nat.reduceLT, Nat.reduceLeDiff, *, and_self, w1]; first | (refine hK.out _ _ ?_; clear hK K) | (refine iteI (fun h => hK.out _ _ ?_) (fun h => hK.out _ _ ?_) <;> clear hK K)))
      refine each_next hh1.out ?_ ?_ ?_
      · rw [hhN.out, List.any_cons, k5, Bool.false_or]
      · ((try simp only [eraseA_cons, eraseA_nil, setL_cons, setL_nil, List.set_cons_zero, List.set_cons_succ]); all_goals (first | rfl | (simp only [len_snoc, ints_len, List.length_map, ]; done) | (simp only [len_snoc, len_mid, ints_len, List.length_map, List.length_append, List.length_cons, List.length_nil, Nat.zero_add, ]; done) | (simp only [len_mid, len_snoc, ints_len, List.length_map, List.length_append, List.length_cons, List.length_nil, Nat.zero_add, ]; rfl)))
      · rw [hhG.out]; first | exact ⟨[], (List.append_nil _).symm⟩ | exact ⟨_, rfl⟩ | (simp only [List.append_assoc, List.cons_append, List.nil_append]; exact ⟨_, rfl⟩)

/- The reference's scalars: encoded, first, Points. -/
open Go.Proofs
attribute [local go_sem] ty5 ty88 List.replicate Nat.one_mul Nat.reduceMul Nat.zero_mul bslA fz75 fz76 fz77 fz78 rowsFill
set_option maxHeartbeats 4000000

def scal (p : Nat) : Bool := decide (p ≤ 1114111) && (decide (p < 55296) || decide (57343 < p))
/-- The bytes of a scalar. -/
def encU (p : Nat) : List UInt8 :=
  if p < 128 then [UInt8.ofNat p]
  else if p < 2048 then [UInt8.ofNat (192 + p / 64), UInt8.ofNat (128 + p % 64)]
  else if p < 65536 then [UInt8.ofNat (224 + p / 4096), UInt8.ofNat (128 + p / 64 % 64), UInt8.ofNat (128 + p % 64)]
  else [UInt8.ofNat (240 + p / 262144), UInt8.ofNat (128 + p / 4096 % 64), UInt8.ofNat (128 + p / 64 % 64), UInt8.ofNat (128 + p % 64)]

theorem scalE (p : Nat) : EvV CX 65 [.int .i64 p] (· = .bool (scal p)) := by
  have h0 : (0 : Int) ≤ (p : Int) := by omega
  have e1 : ((p : Int) ≤ 1114111) ↔ (p ≤ 1114111) := by omega
  have e2 : ((p : Int) < 55296) ↔ (p < 55296) := by omega
  have e3 : ((57343 : Int) < (p : Int)) ↔ (57343 < p) := by omega
  by_cases h1 : p ≤ 1114111 <;> by_cases h2 : p < 55296 <;> by_cases h3 : 57343 < p
  all_goals
    refine EvV.walk rfl fn65 rfl nt65 rfl ?_
    simp only [List.length_cons, List.length_nil, List.cons_append, List.nil_append, Nat.reduceAdd, Nat.reduceSub, List.replicate]
    repeat' (first | refine go1 ?_ | refine blockK_else rfl ?_ | (refine wpC_cond fun A B hA hB => ?_; simp only [go_sem, reduceIte, Nat.reduceAdd, Nat.reduceEqDiff, Nat.reduceLT, Nat.reduceLeDiff, *, and_self, ]; first | (refine hA.out ?_; clear hA hB A B) | (refine hB.out ?_; clear hA hB A B) | (refine iteI (fun h => hA.out ?_) (fun h => hB.out ?_) <;> clear hA hB A B) | (refine iteI (fun h => hB.out ?_) (fun h => hA.out ?_) <;> clear hA hB A B)) | (refine wpO_cons fun K hK => ?_; simp only [go_sem, reduceIte, Nat.reduceAdd, Nat.reduceEqDiff, Nat.reduceLT, Nat.reduceLeDiff, *, and_self, ]; first | (refine hK.out _ _ ?_; clear hK K) | (refine iteI (fun h => hK.out _ _ ?_) (fun h => hK.out _ _ ?_) <;> clear hK K)))
    simp only [resultsR, resultsL, resultA, expK_int, expK_bool, expK_str, expK_agg, expK_own, expK_tsl, resK_some, go_sem, reduceIte, Nat.reduceAdd, Nat.reduceEqDiff, Nat.reduceLT, Nat.reduceLeDiff, and_self, ]
    simp [scal, h1, h2, h3]

theorem encUE (p : Nat) (hp : p ≤ 1114111) : EvV CX 66 [.int .i64 p] (· = .str ⟨(encU p).toArray⟩) := by
  have z1 : ¬ (64 : Int) = 0 := by omega
  have z2 : ¬ (4096 : Int) = 0 := by omega
  have z3 : ¬ (262144 : Int) = 0 := by omega
  have d1 : Int.tdiv (p : Int) 64 = ((p / 64 : Nat) : Int) := rfl
  have d2 : Int.tdiv (p : Int) 4096 = ((p / 4096 : Nat) : Int) := rfl
  have d3 : Int.tdiv (p : Int) 262144 = ((p / 262144 : Nat) : Int) := rfl
  have m1 : Int.tmod (p : Int) 64 = ((p % 64 : Nat) : Int) := rfl
  have m2 : Int.tmod ((p / 64 : Nat) : Int) 64 = ((p / 64 % 64 : Nat) : Int) := rfl
  have m3 : Int.tmod ((p / 4096 : Nat) : Int) 64 = ((p / 4096 % 64 : Nat) : Int) := rfl
  have w1 : IntKind.wrap .i64 ((p / 64 : Nat) : Int) = ((p / 64 : Nat) : Int) := wI (by omega)
  have w2 : IntKind.wrap .i64 ((p / 4096 : Nat) : Int) = ((p / 4096 : Nat) : Int) := wI (by omega)
  have w3 : IntKind.wrap .i64 ((p / 262144 : Nat) : Int) = ((p / 262144 : Nat) : Int) := wI (by omega)
  have a1 : IntKind.wrap .i64 ((128 : Int) + ((p % 64 : Nat) : Int)) = ((128 + p % 64 : Nat) : Int) := wI (n := 128 + p % 64) (by omega)
  have a2 : IntKind.wrap .i64 ((128 : Int) + ((p / 64 % 64 : Nat) : Int)) = ((128 + p / 64 % 64 : Nat) : Int) := wI (n := 128 + p / 64 % 64) (by omega)
  have a3 : IntKind.wrap .i64 ((128 : Int) + ((p / 4096 % 64 : Nat) : Int)) = ((128 + p / 4096 % 64 : Nat) : Int) := wI (n := 128 + p / 4096 % 64) (by omega)
  have b1 : IntKind.wrap .u8 ((128 + p % 64 : Nat) : Int) = ((128 + p % 64 : Nat) : Int) := wB (by omega)
  have b2 : IntKind.wrap .u8 ((128 + p / 64 % 64 : Nat) : Int) = ((128 + p / 64 % 64 : Nat) : Int) := wB (by omega)
  have b3 : IntKind.wrap .u8 ((128 + p / 4096 % 64 : Nat) : Int) = ((128 + p / 4096 % 64 : Nat) : Int) := wB (by omega)
  by_cases h1 : (p : Int) < 128
  · have b0 : IntKind.wrap .u8 (p : Int) = (p : Int) := wB (by omega)
    refine EvV.walk rfl fn66 rfl nt66 rfl ?_
    simp only [List.length_cons, List.length_nil, List.cons_append, List.nil_append, Nat.reduceAdd, Nat.reduceSub, List.replicate]
    repeat' (first | refine go1 ?_ | refine blockK_else rfl ?_ | (refine wpC_cond fun A B hA hB => ?_; simp only [go_sem, reduceIte, Nat.reduceAdd, Nat.reduceEqDiff, Nat.reduceLT, Nat.reduceLeDiff, *, cvtK_int, wpK_buildSlice ty88 rfl, wpK_cvt ty3 ty5 rfl, b0, wpK_assignS, wpK_moveS, evalA_str, wpK_bs ty88 ty9 ty5 rfl rfl rfl, bsK_sl, rowsOf_sl, bytesOf_cons, bytesOf_nil, Option.map_some, Int.toNat_natCast, snap_sl, rowsOf_sl, ints_len, ints_take, List.take_length, Nat.zero_le, Nat.zero_add, Bool.true_or, List.getElem?_cons_succ]; first | (refine hA.out ?_; clear hA hB A B) | (refine hB.out ?_; clear hA hB A B) | (refine iteI (fun h => hA.out ?_) (fun h => hB.out ?_) <;> clear hA hB A B) | (refine iteI (fun h => hB.out ?_) (fun h => hA.out ?_) <;> clear hA hB A B)) | (refine wpO_cons fun K hK => ?_; simp only [go_sem, reduceIte, Nat.reduceAdd, Nat.reduceEqDiff, Nat.reduceLT, Nat.reduceLeDiff, *, cvtK_int, wpK_buildSlice ty88 rfl, wpK_cvt ty3 ty5 rfl, b0, wpK_assignS, wpK_moveS, evalA_str, wpK_bs ty88 ty9 ty5 rfl rfl rfl, bsK_sl, rowsOf_sl, bytesOf_cons, bytesOf_nil, Option.map_some, Int.toNat_natCast, snap_sl, rowsOf_sl, ints_len, ints_take, List.take_length, Nat.zero_le, Nat.zero_add, Bool.true_or, List.getElem?_cons_succ]; first | (refine hK.out _ _ ?_; clear hK K) | (refine iteI (fun h => hK.out _ _ ?_) (fun h => hK.out _ _ ?_) <;> clear hK K)))
    simp only [resultsR, resultsL, resultA, expK_int, expK_bool, expK_str, expK_agg, expK_own, expK_tsl, resK_some, go_sem, reduceIte, Nat.reduceAdd, Nat.reduceEqDiff, Nat.reduceLT, Nat.reduceLeDiff, cvtK_int, wpK_buildSlice ty88 rfl, wpK_cvt ty3 ty5 rfl, ]
    rw [encU, if_pos (by omega)]
  by_cases h2 : (p : Int) < 2048
  · have a0 : IntKind.wrap .i64 ((192 : Int) + ((p / 64 : Nat) : Int)) = ((192 + p / 64 : Nat) : Int) := wI (n := 192 + p / 64) (by omega)
    have b0 : IntKind.wrap .u8 ((192 + p / 64 : Nat) : Int) = ((192 + p / 64 : Nat) : Int) := wB (by omega)
    refine EvV.walk rfl fn66 rfl nt66 rfl ?_
    simp only [List.length_cons, List.length_nil, List.cons_append, List.nil_append, Nat.reduceAdd, Nat.reduceSub, List.replicate]
    repeat' (first | refine go1 ?_ | refine blockK_else rfl ?_ | (refine wpC_cond fun A B hA hB => ?_; simp only [go_sem, reduceIte, Nat.reduceAdd, Nat.reduceEqDiff, Nat.reduceLT, Nat.reduceLeDiff, *, cvtK_int, wpK_buildSlice ty88 rfl, wpK_cvt ty3 ty5 rfl, b0, a0, wpK_assignS, wpK_moveS, evalA_str, wpK_bs ty88 ty9 ty5 rfl rfl rfl, bsK_sl, rowsOf_sl, bytesOf_cons, bytesOf_nil, Option.map_some, Int.toNat_natCast, snap_sl, rowsOf_sl, ints_len, ints_take, List.take_length, Nat.zero_le, Nat.zero_add, Bool.true_or, List.getElem?_cons_succ]; first | (refine hA.out ?_; clear hA hB A B) | (refine hB.out ?_; clear hA hB A B) | (refine iteI (fun h => hA.out ?_) (fun h => hB.out ?_) <;> clear hA hB A B) | (refine iteI (fun h => hB.out ?_) (fun h => hA.out ?_) <;> clear hA hB A B)) | (refine wpO_cons fun K hK => ?_; simp only [go_sem, reduceIte, Nat.reduceAdd, Nat.reduceEqDiff, Nat.reduceLT, Nat.reduceLeDiff, *, cvtK_int, wpK_buildSlice ty88 rfl, wpK_cvt ty3 ty5 rfl, b0, a0, wpK_assignS, wpK_moveS, evalA_str, wpK_bs ty88 ty9 ty5 rfl rfl rfl, bsK_sl, rowsOf_sl, bytesOf_cons, bytesOf_nil, Option.map_some, Int.toNat_natCast, snap_sl, rowsOf_sl, ints_len, ints_take, List.take_length, Nat.zero_le, Nat.zero_add, Bool.true_or, List.getElem?_cons_succ]; first | (refine hK.out _ _ ?_; clear hK K) | (refine iteI (fun h => hK.out _ _ ?_) (fun h => hK.out _ _ ?_) <;> clear hK K)))
    simp only [resultsR, resultsL, resultA, expK_int, expK_bool, expK_str, expK_agg, expK_own, expK_tsl, resK_some, go_sem, reduceIte, Nat.reduceAdd, Nat.reduceEqDiff, Nat.reduceLT, Nat.reduceLeDiff, cvtK_int, wpK_buildSlice ty88 rfl, wpK_cvt ty3 ty5 rfl, ]
    rw [encU, if_neg (by omega), if_pos (by omega)]
  by_cases h3 : (p : Int) < 65536
  · have a0 : IntKind.wrap .i64 ((224 : Int) + ((p / 4096 : Nat) : Int)) = ((224 + p / 4096 : Nat) : Int) := wI (n := 224 + p / 4096) (by omega)
    have b0 : IntKind.wrap .u8 ((224 + p / 4096 : Nat) : Int) = ((224 + p / 4096 : Nat) : Int) := wB (by omega)
    refine EvV.walk rfl fn66 rfl nt66 rfl ?_
    simp only [List.length_cons, List.length_nil, List.cons_append, List.nil_append, Nat.reduceAdd, Nat.reduceSub, List.replicate]
    repeat' (first | refine go1 ?_ | refine blockK_else rfl ?_ | (refine wpC_cond fun A B hA hB => ?_; simp only [go_sem, reduceIte, Nat.reduceAdd, Nat.reduceEqDiff, Nat.reduceLT, Nat.reduceLeDiff, *, cvtK_int, wpK_buildSlice ty88 rfl, wpK_cvt ty3 ty5 rfl, b0, a0, wpK_assignS, wpK_moveS, evalA_str, wpK_bs ty88 ty9 ty5 rfl rfl rfl, bsK_sl, rowsOf_sl, bytesOf_cons, bytesOf_nil, Option.map_some, Int.toNat_natCast, snap_sl, rowsOf_sl, ints_len, ints_take, List.take_length, Nat.zero_le, Nat.zero_add, Bool.true_or, List.getElem?_cons_succ]; first | (refine hA.out ?_; clear hA hB A B) | (refine hB.out ?_; clear hA hB A B) | (refine iteI (fun h => hA.out ?_) (fun h => hB.out ?_) <;> clear hA hB A B) | (refine iteI (fun h => hB.out ?_) (fun h => hA.out ?_) <;> clear hA hB A B)) | (refine wpO_cons fun K hK => ?_; simp only [go_sem, reduceIte, Nat.reduceAdd, Nat.reduceEqDiff, Nat.reduceLT, Nat.reduceLeDiff, *, cvtK_int, wpK_buildSlice ty88 rfl, wpK_cvt ty3 ty5 rfl, b0, a0, wpK_assignS, wpK_moveS, evalA_str, wpK_bs ty88 ty9 ty5 rfl rfl rfl, bsK_sl, rowsOf_sl, bytesOf_cons, bytesOf_nil, Option.map_some, Int.toNat_natCast, snap_sl, rowsOf_sl, ints_len, ints_take, List.take_length, Nat.zero_le, Nat.zero_add, Bool.true_or, List.getElem?_cons_succ]; first | (refine hK.out _ _ ?_; clear hK K) | (refine iteI (fun h => hK.out _ _ ?_) (fun h => hK.out _ _ ?_) <;> clear hK K)))
    simp only [resultsR, resultsL, resultA, expK_int, expK_bool, expK_str, expK_agg, expK_own, expK_tsl, resK_some, go_sem, reduceIte, Nat.reduceAdd, Nat.reduceEqDiff, Nat.reduceLT, Nat.reduceLeDiff, cvtK_int, wpK_buildSlice ty88 rfl, wpK_cvt ty3 ty5 rfl, ]
    rw [encU, if_neg (by omega), if_neg (by omega), if_pos (by omega)]
  · have a0 : IntKind.wrap .i64 ((240 : Int) + ((p / 262144 : Nat) : Int)) = ((240 + p / 262144 : Nat) : Int) := wI (n := 240 + p / 262144) (by omega)
    have b0 : IntKind.wrap .u8 ((240 + p / 262144 : Nat) : Int) = ((240 + p / 262144 : Nat) : Int) := wB (by omega)
    refine EvV.walk rfl fn66 rfl nt66 rfl ?_
    simp only [List.length_cons, List.length_nil, List.cons_append, List.nil_append, Nat.reduceAdd, Nat.reduceSub, List.replicate]
    repeat' (first | refine go1 ?_ | refine blockK_else rfl ?_ | (refine wpC_cond fun A B hA hB => ?_; simp only [go_sem, reduceIte, Nat.reduceAdd, Nat.reduceEqDiff, Nat.reduceLT, Nat.reduceLeDiff, *, cvtK_int, wpK_buildSlice ty88 rfl, wpK_cvt ty3 ty5 rfl, b0, a0, wpK_assignS, wpK_moveS, evalA_str, wpK_bs ty88 ty9 ty5 rfl rfl rfl, bsK_sl, rowsOf_sl, bytesOf_cons, bytesOf_nil, Option.map_some, Int.toNat_natCast, snap_sl, rowsOf_sl, ints_len, ints_take, List.take_length, Nat.zero_le, Nat.zero_add, Bool.true_or, List.getElem?_cons_succ]; first | (refine hA.out ?_; clear hA hB A B) | (refine hB.out ?_; clear hA hB A B) | (refine iteI (fun h => hA.out ?_) (fun h => hB.out ?_) <;> clear hA hB A B) | (refine iteI (fun h => hB.out ?_) (fun h => hA.out ?_) <;> clear hA hB A B)) | (refine wpO_cons fun K hK => ?_; simp only [go_sem, reduceIte, Nat.reduceAdd, Nat.reduceEqDiff, Nat.reduceLT, Nat.reduceLeDiff, *, cvtK_int, wpK_buildSlice ty88 rfl, wpK_cvt ty3 ty5 rfl, b0, a0, wpK_assignS, wpK_moveS, evalA_str, wpK_bs ty88 ty9 ty5 rfl rfl rfl, bsK_sl, rowsOf_sl, bytesOf_cons, bytesOf_nil, Option.map_some, Int.toNat_natCast, snap_sl, rowsOf_sl, ints_len, ints_take, List.take_length, Nat.zero_le, Nat.zero_add, Bool.true_or, List.getElem?_cons_succ]; first | (refine hK.out _ _ ?_; clear hK K) | (refine iteI (fun h => hK.out _ _ ?_) (fun h => hK.out _ _ ?_) <;> clear hK K)))
    simp only [resultsR, resultsL, resultA, expK_int, expK_bool, expK_str, expK_agg, expK_own, expK_tsl, resK_some, go_sem, reduceIte, Nat.reduceAdd, Nat.reduceEqDiff, Nat.reduceLT, Nat.reduceLeDiff, cvtK_int, wpK_buildSlice ty88 rfl, wpK_cvt ty3 ty5 rfl, ]
    rw [encU, if_neg (by omega), if_neg (by omega), if_neg (by omega)]

/-- The head of an encoding: what its first byte says. -/
def hdU (c : Nat) : Nat × Nat := if 240 ≤ c then (c - 240, 4) else if 224 ≤ c then (c - 224, 3) else if 192 ≤ c then (c - 192, 2) else (c, 1)
def accU (p : Nat) (l : List UInt8) : Nat := l.foldl (fun p b => p * 64 + b.toNat % 64) p
/-- The scalar at the head of some bytes, and its length. -/
def fstU : List UInt8 → Option (Nat × Nat)
  | [] => none
  | c :: tl => if tl.length + 1 < (hdU c.toNat).2 then none else
    if scal (accU (hdU c.toNat).1 (tl.take ((hdU c.toNat).2 - 1))) = true ∧ encU (accU (hdU c.toNat).1 (tl.take ((hdU c.toNat).2 - 1))) = (c :: tl).take (hdU c.toNat).2 then some (accU (hdU c.toNat).1 (tl.take ((hdU c.toNat).2 - 1)), (hdU c.toNat).2) else none
def fstV : Option (Nat × Nat) → AV
  | some (p, n) => .tup [.int .i64 p, .int .i64 n]
  | none => .tup [.int .i64 (-1), .int .i64 0]

theorem hdU_n (c : Nat) : 1 ≤ (hdU c).2 ∧ (hdU c).2 ≤ 4 := by
  unfold hdU; repeat' split
  all_goals simp
theorem hdU_p {c : Nat} (h : c < 256) : (hdU c).1 < 256 := by
  unfold hdU; repeat' split
  all_goals (simp; omega)
theorem accU_lt : ∀ (l : List UInt8) (p : Nat), accU p l < (p + 1) * 64 ^ l.length
  | [], p => by simp [accU]
  | b :: l, p => by
    have h := accU_lt l (p * 64 + b.toNat % 64)
    have e : accU p (b :: l) = accU (p * 64 + b.toNat % 64) l := rfl
    rw [e, List.length_cons, Nat.pow_succ]
    have h1 : b.toNat % 64 < 64 := Nat.mod_lt _ (by omega)
    have h2 : p * 64 + b.toNat % 64 + 1 ≤ (p + 1) * 64 := by omega
    calc accU (p * 64 + b.toNat % 64) l < (p * 64 + b.toNat % 64 + 1) * 64 ^ l.length := h
      _ ≤ ((p + 1) * 64) * 64 ^ l.length := Nat.mul_le_mul_right _ h2
      _ = (p + 1) * (64 ^ l.length * 64) := by rw [Nat.mul_assoc, Nat.mul_comm 64]

/- The reference's scalars: first, Points; labels. -/
open Go.Proofs
attribute [local go_sem] br65 br66 fz85
set_option maxHeartbeats 4000000

theorem slice_str {X : Ctx} {t : TypeId} {a c : Nat} {b : Bool} {d : List AV} {s : ByteArray} {k : IntKind} {i j : Nat} (ht : X.ty t = some ⟨a, b, c, d, .str⟩) (hij : i ≤ j) (hj : j ≤ s.size) : sliceA X t (.str s) (some (.int k i)) (some (.int k j)) none = some (.str (s.extract i j)) := by
  simp [sliceA, ht, boundA, hij, hj]
theorem extract_toList (s : ByteArray) (i j : Nat) : (s.extract i j).toList = (s.data.toList.drop i).take (j - i) := by
  rw [toList_data]
  have : (s.extract i j).data = s.data.extract i j := by simp
  rw [this, Array.toList_extract]
theorem acc_step {p : Nat} {tl : List UInt8} {k : Nat} {b : UInt8} (h : tl[k]? = some b) : accU p (tl.take (k + 1)) = accU p (tl.take k) * 64 + b.toNat % 64 := by
  rw [List.take_add_one, h]
  simp [accU, List.foldl_append]

theorem fstE (s : ByteArray) (hs : s.size ≤ 1048576) {pre tl : List UInt8} {c : UInt8} (hl : s.data.toList = pre ++ c :: tl) : EvV CX 57 [.str s, .int .i64 pre.length] (· = fstV (fstU (c :: tl))) := by
  have hlen := str_len hl
  simp only [List.length_append, List.length_cons] at hlen
  have i0 := index_str (X := CX) (k := .i64) ty9 (str_get hl)
  have hc := c.toNat_lt
  have w0 : IntKind.wrap .i64 (c.toNat : Int) = (c.toNat : Int) := wI (by omega)
  have k3 : ∀ (S : Store) (m : Int), expTop S (.int .i64 m) = some (.int .i64 m) := fun _ _ => rfl
  refine EvV.walk rfl fn57 rfl nt57 rfl ?_
  simp only [List.length_cons, List.length_nil, List.cons_append, List.nil_append, Nat.reduceAdd, Nat.reduceSub, List.replicate]
  repeat' (first | refine go1 ?_ | refine blockK_else rfl ?_ | (refine wpO_cons fun K hK => ?_; simp only [go_sem, reduceIte, Nat.reduceAdd, Nat.reduceEqDiff, Nat.reduceLT, Nat.reduceLeDiff, *, cvtK_int, wpK_cvt ty5 ty3 rfl, wpK_index, wpK_slice, wpK_assignS, wpK_moveS, evalA_str, lenK_str, i0, w0]; first | (refine hK.out _ _ ?_; clear hK K) | (refine iteI (fun h => hK.out _ _ ?_) (fun h => hK.out _ _ ?_) <;> clear hK K)))
  refine wpC_cutB [13, 14, 15, 16, 17, 18, 19, 20, 21, 22, 23, 24, 25, 26, 27] (fun _ : Unit => [(6, .int .i64 ((hdU c.toNat).1 : Int)), (7, .int .i64 ((hdU c.toNat).2 : Int))]) (fun _ H => H) (fun _ => True) ?_ ?_
  · by_cases h1 : (240 : Int) ≤ (c.toNat : Int)
    · have e : hdU c.toNat = (c.toNat - 240, 4) := by rw [hdU, if_pos (by omega)]
      have w1 : IntKind.wrap .i64 ((c.toNat : Int) - 240) = ((c.toNat - 240 : Nat) : Int) := by rw [wrap_small (by omega) (by omega)]; omega
      rw [e]
      clear e i0
      repeat' (first | refine go1 ?_ | refine blockK_else rfl ?_ | (refine wpC_cond fun A B hA hB => ?_; simp only [go_sem, reduceIte, Nat.reduceAdd, Nat.reduceEqDiff, Nat.reduceLT, Nat.reduceLeDiff, *, cvtK_int, wpK_cvt ty5 ty3 rfl, w1]; first | (refine hA.out ?_; clear hA hB A B) | (refine hB.out ?_; clear hA hB A B) | (refine iteI (fun h => hA.out ?_) (fun h => hB.out ?_) <;> clear hA hB A B) | (refine iteI (fun h => hB.out ?_) (fun h => hA.out ?_) <;> clear hA hB A B)) | (refine wpO_cons fun K hK => ?_; simp only [go_sem, reduceIte, Nat.reduceAdd, Nat.reduceEqDiff, Nat.reduceLT, Nat.reduceLeDiff, *, cvtK_int, wpK_cvt ty5 ty3 rfl, w1]; first | (refine hK.out _ _ ?_; clear hK K) | (refine iteI (fun h => hK.out _ _ ?_) (fun h => hK.out _ _ ?_) <;> clear hK K)))
      refine cut_next () trivial ?_ ⟨[], rfl⟩
      ((try simp only [eraseA_cons, eraseA_nil, setL_cons, setL_nil, List.set_cons_zero, List.set_cons_succ]); all_goals (first | rfl | (simp only [len_snoc, ints_len, List.length_map, ]; done) | (simp only [len_snoc, len_mid, ints_len, List.length_map, List.length_append, List.length_cons, List.length_nil, Nat.zero_add, ]; done) | (simp only [len_mid, len_snoc, ints_len, List.length_map, List.length_append, List.length_cons, List.length_nil, Nat.zero_add, ]; rfl)))
    by_cases h2 : (224 : Int) ≤ (c.toNat : Int)
    · have e : hdU c.toNat = (c.toNat - 224, 3) := by rw [hdU, if_neg (by omega), if_pos (by omega)]
      have w1 : IntKind.wrap .i64 ((c.toNat : Int) - 224) = ((c.toNat - 224 : Nat) : Int) := by rw [wrap_small (by omega) (by omega)]; omega
      rw [e]
      clear e i0
      repeat' (first | refine go1 ?_ | refine blockK_else rfl ?_ | (refine wpC_cond fun A B hA hB => ?_; simp only [go_sem, reduceIte, Nat.reduceAdd, Nat.reduceEqDiff, Nat.reduceLT, Nat.reduceLeDiff, *, cvtK_int, wpK_cvt ty5 ty3 rfl, w1]; first | (refine hA.out ?_; clear hA hB A B) | (refine hB.out ?_; clear hA hB A B) | (refine iteI (fun h => hA.out ?_) (fun h => hB.out ?_) <;> clear hA hB A B) | (refine iteI (fun h => hB.out ?_) (fun h => hA.out ?_) <;> clear hA hB A B)) | (refine wpO_cons fun K hK => ?_; simp only [go_sem, reduceIte, Nat.reduceAdd, Nat.reduceEqDiff, Nat.reduceLT, Nat.reduceLeDiff, *, cvtK_int, wpK_cvt ty5 ty3 rfl, w1]; first | (refine hK.out _ _ ?_; clear hK K) | (refine iteI (fun h => hK.out _ _ ?_) (fun h => hK.out _ _ ?_) <;> clear hK K)))
      refine cut_next () trivial ?_ ⟨[], rfl⟩
      ((try simp only [eraseA_cons, eraseA_nil, setL_cons, setL_nil, List.set_cons_zero, List.set_cons_succ]); all_goals (first | rfl | (simp only [len_snoc, ints_len, List.length_map, ]; done) | (simp only [len_snoc, len_mid, ints_len, List.length_map, List.length_append, List.length_cons, List.length_nil, Nat.zero_add, ]; done) | (simp only [len_mid, len_snoc, ints_len, List.length_map, List.length_append, List.length_cons, List.length_nil, Nat.zero_add, ]; rfl)))
    by_cases h3 : (192 : Int) ≤ (c.toNat : Int)
    · have e : hdU c.toNat = (c.toNat - 192, 2) := by rw [hdU, if_neg (by omega), if_neg (by omega), if_pos (by omega)]
      have w1 : IntKind.wrap .i64 ((c.toNat : Int) - 192) = ((c.toNat - 192 : Nat) : Int) := by rw [wrap_small (by omega) (by omega)]; omega
      rw [e]
      clear e i0
      repeat' (first | refine go1 ?_ | refine blockK_else rfl ?_ | (refine wpC_cond fun A B hA hB => ?_; simp only [go_sem, reduceIte, Nat.reduceAdd, Nat.reduceEqDiff, Nat.reduceLT, Nat.reduceLeDiff, *, cvtK_int, wpK_cvt ty5 ty3 rfl, w1]; first | (refine hA.out ?_; clear hA hB A B) | (refine hB.out ?_; clear hA hB A B) | (refine iteI (fun h => hA.out ?_) (fun h => hB.out ?_) <;> clear hA hB A B) | (refine iteI (fun h => hB.out ?_) (fun h => hA.out ?_) <;> clear hA hB A B)) | (refine wpO_cons fun K hK => ?_; simp only [go_sem, reduceIte, Nat.reduceAdd, Nat.reduceEqDiff, Nat.reduceLT, Nat.reduceLeDiff, *, cvtK_int, wpK_cvt ty5 ty3 rfl, w1]; first | (refine hK.out _ _ ?_; clear hK K) | (refine iteI (fun h => hK.out _ _ ?_) (fun h => hK.out _ _ ?_) <;> clear hK K)))
      refine cut_next () trivial ?_ ⟨[], rfl⟩
      ((try simp only [eraseA_cons, eraseA_nil, setL_cons, setL_nil, List.set_cons_zero, List.set_cons_succ]); all_goals (first | rfl | (simp only [len_snoc, ints_len, List.length_map, ]; done) | (simp only [len_snoc, len_mid, ints_len, List.length_map, List.length_append, List.length_cons, List.length_nil, Nat.zero_add, ]; done) | (simp only [len_mid, len_snoc, ints_len, List.length_map, List.length_append, List.length_cons, List.length_nil, Nat.zero_add, ]; rfl)))
    · have e : hdU c.toNat = (c.toNat, 1) := by rw [hdU, if_neg (by omega), if_neg (by omega), if_neg (by omega)]
      rw [e]
      clear e i0
      repeat' (first | refine go1 ?_ | refine blockK_else rfl ?_ | (refine wpC_cond fun A B hA hB => ?_; simp only [go_sem, reduceIte, Nat.reduceAdd, Nat.reduceEqDiff, Nat.reduceLT, Nat.reduceLeDiff, *, cvtK_int, wpK_cvt ty5 ty3 rfl, ]; first | (refine hA.out ?_; clear hA hB A B) | (refine hB.out ?_; clear hA hB A B) | (refine iteI (fun h => hA.out ?_) (fun h => hB.out ?_) <;> clear hA hB A B) | (refine iteI (fun h => hB.out ?_) (fun h => hA.out ?_) <;> clear hA hB A B)) | (refine wpO_cons fun K hK => ?_; simp only [go_sem, reduceIte, Nat.reduceAdd, Nat.reduceEqDiff, Nat.reduceLT, Nat.reduceLeDiff, *, cvtK_int, wpK_cvt ty5 ty3 rfl, ]; first | (refine hK.out _ _ ?_; clear hK K) | (refine iteI (fun h => hK.out _ _ ?_) (fun h => hK.out _ _ ?_) <;> clear hK K)))
      refine cut_next () trivial ?_ ⟨[], rfl⟩
      ((try simp only [eraseA_cons, eraseA_nil, setL_cons, setL_nil, List.set_cons_zero, List.set_cons_succ]); all_goals (first | rfl | (simp only [len_snoc, ints_len, List.length_map, ]; done) | (simp only [len_snoc, len_mid, ints_len, List.length_map, List.length_append, List.length_cons, List.length_nil, Nat.zero_add, ]; done) | (simp only [len_mid, len_snoc, ints_len, List.length_map, List.length_append, List.length_cons, List.length_nil, Nat.zero_add, ]; rfl)))
  rintro _ g0 G0 _
  have hn := hdU_n c.toNat
  have hp0 := hdU_p (c := c.toNat) hc
  have hF : fstU (c :: tl) = if tl.length + 1 < (hdU c.toNat).2 then none else
    if scal (accU (hdU c.toNat).1 (tl.take ((hdU c.toNat).2 - 1))) = true ∧ encU (accU (hdU c.toNat).1 (tl.take ((hdU c.toNat).2 - 1))) = (c :: tl).take (hdU c.toNat).2 then some (accU (hdU c.toNat).1 (tl.take ((hdU c.toNat).2 - 1)), (hdU c.toNat).2) else none := rfl
  rw [hF]
  clear i0 hF w0
  generalize (hdU c.toNat).1 = p0 at *
  generalize (hdU c.toNat).2 = n at *
  have wa : IntKind.wrap .i64 ((pre.length : Int) + (n : Int)) = ((pre.length + n : Nat) : Int) := wI (n := pre.length + n) (by omega)
  have hsz : (s.size : Int) = ((pre.length + (tl.length + 1) : Nat) : Int) := by rw [hlen]
  simp only [garbA_cons, garbA_nil, setL_cons, setL_nil, List.set_cons_zero, List.set_cons_succ]
  by_cases ho : tl.length + 1 < n
  · have z : (((pre.length + (tl.length + 1) : Nat) : Int)) < ((pre.length + n : Nat) : Int) := by omega
    rw [if_pos ho]
    clear hlen ho
    repeat' (first | refine go1 ?_ | refine blockK_else rfl ?_ | (refine wpC_cond fun A B hA hB => ?_; simp only [go_sem, reduceIte, Nat.reduceAdd, Nat.reduceEqDiff, Nat.reduceLT, Nat.reduceLeDiff, *, cvtK_int, wpK_cvt ty5 ty3 rfl, wpK_index, wpK_slice, wpK_assignS, wpK_moveS, evalA_str, lenK_str, wa, hsz, z]; first | (refine hA.out ?_; clear hA hB A B) | (refine hB.out ?_; clear hA hB A B) | (refine iteI (fun h => hA.out ?_) (fun h => hB.out ?_) <;> clear hA hB A B) | (refine iteI (fun h => hB.out ?_) (fun h => hA.out ?_) <;> clear hA hB A B)) | (refine wpO_cons fun K hK => ?_; simp only [go_sem, reduceIte, Nat.reduceAdd, Nat.reduceEqDiff, Nat.reduceLT, Nat.reduceLeDiff, *, cvtK_int, wpK_cvt ty5 ty3 rfl, wpK_index, wpK_slice, wpK_assignS, wpK_moveS, evalA_str, lenK_str, wa, hsz, z]; first | (refine hK.out _ _ ?_; clear hK K) | (refine iteI (fun h => hK.out _ _ ?_) (fun h => hK.out _ _ ?_) <;> clear hK K)))
    simp only [resultsR, resultsL, resultA, resK_some, getA_zero, getA_succ, go_sem, reduceIte, Nat.reduceAdd, Nat.reduceEqDiff, Nat.reduceLT, Nat.reduceLeDiff, expK_tup]
    rw [if_pos (show idsOK _ = true from rfl)]
    simp only [expTops, k3, fstV]
  have z : ¬ (((pre.length + (tl.length + 1) : Nat) : Int)) < ((pre.length + n : Nat) : Int) := by omega
  have hon : n ≤ tl.length + 1 := by omega
  rw [if_neg ho]
  clear ho
  repeat' (first | refine go1 ?_ | refine blockK_else rfl ?_ | (refine wpO_cons fun K hK => ?_; simp only [go_sem, reduceIte, Nat.reduceAdd, Nat.reduceEqDiff, Nat.reduceLT, Nat.reduceLeDiff, *, cvtK_int, wpK_cvt ty5 ty3 rfl, wpK_index, wpK_slice, wpK_assignS, wpK_moveS, evalA_str, lenK_str, wa, hsz, z]; first | (refine hK.out _ _ ?_; clear hK K) | (refine iteI (fun h => hK.out _ _ ?_) (fun h => hK.out _ _ ?_) <;> clear hK K)))
  (refine wpC_cond fun A B hA hB => ?_; simp only [go_sem, reduceIte, Nat.reduceAdd, Nat.reduceEqDiff, Nat.reduceLT, Nat.reduceLeDiff, *, cvtK_int, wpK_cvt ty5 ty3 rfl, z]; first | (refine hA.out ?_; clear hA hB A B) | (refine hB.out ?_; clear hA hB A B))
  repeat' (first | refine go1 ?_ | refine blockK_else rfl ?_ | (refine wpO_cons fun K hK => ?_; simp only [go_sem, reduceIte, Nat.reduceAdd, Nat.reduceEqDiff, Nat.reduceLT, Nat.reduceLeDiff, *, cvtK_int, wpK_cvt ty5 ty3 rfl, ]; first | (refine hK.out _ _ ?_; clear hK K) | (refine iteI (fun h => hK.out _ _ ?_) (fun h => hK.out _ _ ?_) <;> clear hK K)))
  clear z
  refine wpC_loopF [34, 35, 36, 37, 38, 39, 40, 41, 42, 43, 44, 45, 46, 47, 48] (fun i : Nat => [(6, .int .i64 ((accU p0 (tl.take (i - 1)) : Nat) : Int)), (8, .int .i64 (i : Int))]) (fun _ H => H) (fun i => 1 ≤ i ∧ i ≤ n) (fun i => n - i) 1 ⟨Nat.le_refl _, hn.1⟩ ?_ ⟨_, rfl⟩ ?_
  · ((try simp only [eraseA_cons, eraseA_nil, setL_cons, setL_nil, List.set_cons_zero, List.set_cons_succ]); all_goals (first | rfl | (simp only [len_snoc, ints_len, List.length_map, ]; done) | (simp only [len_snoc, len_mid, ints_len, List.length_map, List.length_append, List.length_cons, List.length_nil, Nat.zero_add, ]; done) | (simp only [len_mid, len_snoc, ints_len, List.length_map, List.length_append, List.length_cons, List.length_nil, Nat.zero_add, ]; rfl)))
  rintro i g G ⟨h1, h2⟩
  simp only [garbA_cons, garbA_nil, setL_cons, setL_nil, List.set_cons_zero, List.set_cons_succ]
  have hacc := accU_lt (tl.take (i - 1)) p0
  have hlt : (tl.take (i - 1)).length ≤ 3 := by simp; omega
  have hpow : 64 ^ (tl.take (i - 1)).length ≤ 262144 := Nat.le_trans (Nat.pow_le_pow_right (by omega) hlt) (by decide)
  have hbnd : accU p0 (tl.take (i - 1)) < 67108864 := Nat.lt_of_lt_of_le hacc (Nat.le_trans (Nat.mul_le_mul (show p0 + 1 ≤ 256 by omega) hpow) (by decide))
  by_cases hi : i < n
  · have hk : i - 1 < tl.length := by omega
    obtain ⟨b, hb⟩ : ∃ b, tl[i - 1]? = some b := ⟨_, List.getElem?_eq_getElem hk⟩
    have hbl := b.toNat_lt
    have hget : s[pre.length + i]? = some b := by
      have e : s.data.toList = (pre ++ c :: tl.take (i - 1)) ++ b :: tl.drop i := by
        rw [hl]
        have : tl = tl.take (i - 1) ++ b :: tl.drop i := by
          have h3 := List.take_append_drop (i - 1) tl
          have h4 : tl.drop (i - 1) = b :: tl.drop i := by
            rw [List.drop_eq_getElem_cons hk]
            have : tl[i - 1] = b := by rw [List.getElem?_eq_getElem hk] at hb; injection hb
            rw [this, show i - 1 + 1 = i by omega]
          rw [h4] at h3; exact h3.symm
        simp only [List.append_assoc, List.cons_append]
        rw [← this]
      have e2 := str_get e
      have e3 : (pre ++ c :: tl.take (i - 1)).length = pre.length + i := by simp; omega
      rw [e3] at e2; exact e2
    have i1 := index_str (X := CX) (k := .i64) ty9 hget
    have lt1 : (i : Int) < (n : Int) := by omega
    have w1 : IntKind.wrap .i64 (((accU p0 (tl.take (i - 1)) : Nat) : Int) * 64) = ((accU p0 (tl.take (i - 1)) * 64 : Nat) : Int) := wI (n := accU p0 (tl.take (i - 1)) * 64) (by omega)
    have w2 : IntKind.wrap .i64 ((pre.length : Int) + (i : Int)) = ((pre.length + i : Nat) : Int) := wI (n := pre.length + i) (by omega)
    have w3 : IntKind.wrap .i64 (b.toNat : Int) = (b.toNat : Int) := wI (by omega)
    have m1 : Int.tmod (b.toNat : Int) 64 = ((b.toNat % 64 : Nat) : Int) := rfl
    have z4 : ¬ (64 : Int) = 0 := by omega
    have w4 : IntKind.wrap .i64 (((accU p0 (tl.take (i - 1)) * 64 : Nat) : Int) + ((b.toNat % 64 : Nat) : Int)) = ((accU p0 (tl.take (i - 1)) * 64 + b.toNat % 64 : Nat) : Int) := wI (n := accU p0 (tl.take (i - 1)) * 64 + b.toNat % 64) (by omega)
    have w5 := wrap_succ (n := i) (by omega)
    have ha := acc_step (p := p0) hb
    rw [show i - 1 + 1 = i by omega] at ha
    have hha : Hold (accU p0 (tl.take i) = accU p0 (tl.take (i - 1)) * 64 + b.toNat % 64) := ⟨ha⟩
    clear ha hb hget
    repeat' (first | refine go1 ?_ | refine blockK_else rfl ?_ | (refine wpC_cond fun A B hA hB => ?_; simp only [go_sem, reduceIte, Nat.reduceAdd, Nat.reduceEqDiff, Nat.reduceLT, Nat.reduceLeDiff, *, cvtK_int, wpK_cvt ty5 ty3 rfl, wpK_index, wpK_slice, wpK_assignS, wpK_moveS, evalA_str, lenK_str, i1, lt1, w1, w2, w3, w4, w5, m1, z4]; first | (refine hA.out ?_; clear hA hB A B) | (refine hB.out ?_; clear hA hB A B) | (refine iteI (fun h => hA.out ?_) (fun h => hB.out ?_) <;> clear hA hB A B) | (refine iteI (fun h => hB.out ?_) (fun h => hA.out ?_) <;> clear hA hB A B)) | (refine wpO_cons fun K hK => ?_; simp only [go_sem, reduceIte, Nat.reduceAdd, Nat.reduceEqDiff, Nat.reduceLT, Nat.reduceLeDiff, *, cvtK_int, wpK_cvt ty5 ty3 rfl, wpK_index, wpK_slice, wpK_assignS, wpK_moveS, evalA_str, lenK_str, i1, lt1, w1, w2, w3, w4, w5, m1, z4]; first | (refine hK.out _ _ ?_; clear hK K) | (refine iteI (fun h => hK.out _ _ ?_) (fun h => hK.out _ _ ?_) <;> clear hK K)))
    refine loopF_next (i + 1) (by omega) ⟨by omega, by omega⟩ ?_ ⟨_, rfl⟩
    ((try simp only [eraseA_cons, eraseA_nil, setL_cons, setL_nil, List.set_cons_zero, List.set_cons_succ]); all_goals (first | rfl | (simp only [len_snoc, ints_len, List.length_map, Nat.add_sub_cancel, hha.out]; done) | (simp only [len_snoc, len_mid, ints_len, List.length_map, List.length_append, List.length_cons, List.length_nil, Nat.zero_add, Nat.add_sub_cancel, hha.out]; done) | (simp only [len_mid, len_snoc, ints_len, List.length_map, List.length_append, List.length_cons, List.length_nil, Nat.zero_add, Nat.add_sub_cancel, hha.out]; rfl)))
  · have hin : i = n := by omega
    subst hin
    have lt1 : ¬ (i : Int) < (i : Int) := by omega
    generalize hP : accU p0 (tl.take (i - 1)) = p at *
    have qs := (scalE p).rw
    repeat' (first | refine go1 ?_ | refine blockK_else rfl ?_ | (refine wpO_cons fun K hK => ?_; simp only [go_sem, reduceIte, Nat.reduceAdd, Nat.reduceEqDiff, Nat.reduceLT, Nat.reduceLeDiff, *, cvtK_int, wpK_cvt ty5 ty3 rfl, lt1]; first | (refine hK.out _ _ ?_; clear hK K) | (refine iteI (fun h => hK.out _ _ ?_) (fun h => hK.out _ _ ?_) <;> clear hK K)))
    (refine wpC_cond fun A B hA hB => ?_; simp only [go_sem, reduceIte, Nat.reduceAdd, Nat.reduceEqDiff, Nat.reduceLT, Nat.reduceLeDiff, *, cvtK_int, wpK_cvt ty5 ty3 rfl, ]; first | (refine hA.out ?_; clear hA hB A B) | (refine hB.out ?_; clear hA hB A B))
    have hle : pre.length ≤ pre.length + i := by omega
    have hle2 : pre.length + i ≤ s.size := by omega
    have sl := slice_str (X := CX) (k := .i64) (s := s) ty9 hle hle2
    by_cases k1 : scal p = true
    · have hpm : p ≤ 1114111 := by simp [scal] at k1; omega
      have qe := (encUE p hpm).rw
      have hq : ((⟨(encU p).toArray⟩ : ByteArray).toList == (s.extract pre.length (pre.length + i)).toList) = decide (encU p = (c :: tl).take i) := by
        rw [extract_toList, toList_data, hl, List.drop_left, Nat.add_sub_cancel_left]
        rw [Bool.eq_iff_iff]; simp
      by_cases k2 : encU p = (c :: tl).take i
      · have hd : decide (encU p = (c :: tl).take i) = true := by simpa using k2
        rw [hd] at hq
        rw [if_pos ⟨k1, k2⟩]
        clear hd hle hle2 hbnd hacc hlt hpow k2
        repeat' (first | refine go1 ?_ | refine blockK_else rfl ?_ | (refine wpC_cond fun A B hA hB => ?_; simp only [go_sem, reduceIte, Nat.reduceAdd, Nat.reduceEqDiff, Nat.reduceLT, Nat.reduceLeDiff, *, cvtK_int, wpK_cvt ty5 ty3 rfl, wpK_index, wpK_slice, wpK_assignS, wpK_moveS, evalA_str, lenK_str, wa, qs, qe, k1, sl, strBin, hq]; first | (refine hA.out ?_; clear hA hB A B) | (refine hB.out ?_; clear hA hB A B) | (refine iteI (fun h => hA.out ?_) (fun h => hB.out ?_) <;> clear hA hB A B) | (refine iteI (fun h => hB.out ?_) (fun h => hA.out ?_) <;> clear hA hB A B)) | (refine wpO_cons fun K hK => ?_; simp only [go_sem, reduceIte, Nat.reduceAdd, Nat.reduceEqDiff, Nat.reduceLT, Nat.reduceLeDiff, *, cvtK_int, wpK_cvt ty5 ty3 rfl, wpK_index, wpK_slice, wpK_assignS, wpK_moveS, evalA_str, lenK_str, wa, qs, qe, k1, sl, strBin, hq]; first | (refine hK.out _ _ ?_; clear hK K) | (refine iteI (fun h => hK.out _ _ ?_) (fun h => hK.out _ _ ?_) <;> clear hK K)))
        simp only [resultsR, resultsL, resultA, resK_some, getA_zero, getA_succ, go_sem, reduceIte, Nat.reduceAdd, Nat.reduceEqDiff, Nat.reduceLT, Nat.reduceLeDiff, expK_tup]
        rw [if_pos (show idsOK _ = true from rfl)]
        simp only [expTops, k3, fstV]
      · have hd : decide (encU p = (c :: tl).take i) = false := by simpa using k2
        rw [hd] at hq
        rw [if_neg (fun h => k2 h.2)]
        clear hd hle hle2 hbnd hacc hlt hpow k2
        repeat' (first | refine go1 ?_ | refine blockK_else rfl ?_ | (refine wpC_cond fun A B hA hB => ?_; simp only [go_sem, reduceIte, Nat.reduceAdd, Nat.reduceEqDiff, Nat.reduceLT, Nat.reduceLeDiff, *, cvtK_int, wpK_cvt ty5 ty3 rfl, wpK_index, wpK_slice, wpK_assignS, wpK_moveS, evalA_str, lenK_str, wa, qs, qe, k1, sl, strBin, hq]; first | (refine hA.out ?_; clear hA hB A B) | (refine hB.out ?_; clear hA hB A B) | (refine iteI (fun h => hA.out ?_) (fun h => hB.out ?_) <;> clear hA hB A B) | (refine iteI (fun h => hB.out ?_) (fun h => hA.out ?_) <;> clear hA hB A B)) | (refine wpO_cons fun K hK => ?_; simp only [go_sem, reduceIte, Nat.reduceAdd, Nat.reduceEqDiff, Nat.reduceLT, Nat.reduceLeDiff, *, cvtK_int, wpK_cvt ty5 ty3 rfl, wpK_index, wpK_slice, wpK_assignS, wpK_moveS, evalA_str, lenK_str, wa, qs, qe, k1, sl, strBin, hq]; first | (refine hK.out _ _ ?_; clear hK K) | (refine iteI (fun h => hK.out _ _ ?_) (fun h => hK.out _ _ ?_) <;> clear hK K)))
        simp only [resultsR, resultsL, resultA, resK_some, getA_zero, getA_succ, go_sem, reduceIte, Nat.reduceAdd, Nat.reduceEqDiff, Nat.reduceLT, Nat.reduceLeDiff, expK_tup]
        rw [if_pos (show idsOK _ = true from rfl)]
        simp only [expTops, k3, fstV]
    · rw [if_neg (fun h => k1 h.1)]
      have k1 : scal p = false := by simpa using k1
      clear hle hle2 hbnd hacc hlt hpow
      repeat' (first | refine go1 ?_ | refine blockK_else rfl ?_ | (refine wpC_cond fun A B hA hB => ?_; simp only [go_sem, reduceIte, Nat.reduceAdd, Nat.reduceEqDiff, Nat.reduceLT, Nat.reduceLeDiff, *, cvtK_int, wpK_cvt ty5 ty3 rfl, wpK_index, wpK_slice, wpK_assignS, wpK_moveS, evalA_str, lenK_str, wa, qs, k1]; first | (refine hA.out ?_; clear hA hB A B) | (refine hB.out ?_; clear hA hB A B) | (refine iteI (fun h => hA.out ?_) (fun h => hB.out ?_) <;> clear hA hB A B) | (refine iteI (fun h => hB.out ?_) (fun h => hA.out ?_) <;> clear hA hB A B)) | (refine wpO_cons fun K hK => ?_; simp only [go_sem, reduceIte, Nat.reduceAdd, Nat.reduceEqDiff, Nat.reduceLT, Nat.reduceLeDiff, *, cvtK_int, wpK_cvt ty5 ty3 rfl, wpK_index, wpK_slice, wpK_assignS, wpK_moveS, evalA_str, lenK_str, wa, qs, k1]; first | (refine hK.out _ _ ?_; clear hK K) | (refine iteI (fun h => hK.out _ _ ?_) (fun h => hK.out _ _ ?_) <;> clear hK K)))
      simp only [resultsR, resultsL, resultA, resK_some, getA_zero, getA_succ, go_sem, reduceIte, Nat.reduceAdd, Nat.reduceEqDiff, Nat.reduceLT, Nat.reduceLeDiff, expK_tup]
      rw [if_pos (show idsOK _ = true from rfl)]
      simp only [expTops, k3, fstV]

/- The reference's Points, Label, People. -/
open Go.Proofs
attribute [local go_sem] br57 appK fz88 fz89 lenK_esl lenK_nils lenK_sl lenK_tsl nilsK rowsOf_esl rowsOf_nils rowsOf_sl rowsOf_tsl br48 fz80
set_option maxHeartbeats 4000000

def ptsU : Nat → List UInt8 → Option (List Nat)
  | _, [] => some []
  | 0, _ :: _ => none
  | k + 1, c :: l => match fstU (c :: l) with
    | none => none
    | some (p, n) => (ptsU k ((c :: l).drop n)).map (p :: ·)
/-- The scalars of some bytes. -/
def pts (l : List UInt8) : Option (List Nat) := ptsU l.length l
theorem fstU_n {l : List UInt8} {p n : Nat} (h : fstU l = some (p, n)) : 1 ≤ n ∧ n ≤ l.length := by
  cases l with
  | nil => simp [fstU] at h
  | cons c tl =>
    rw [fstU] at h
    by_cases h1 : tl.length + 1 < (hdU c.toNat).2
    · rw [if_pos h1] at h; cases h
    · rw [if_neg h1] at h
      split at h
      · injection h with h; injection h with _ h; subst h
        have := hdU_n c.toNat
        simp only [List.length_cons]; omega
      · cases h
theorem ptsU_fuel : ∀ (k : Nat) (l : List UInt8), l.length ≤ k → ptsU k l = ptsU l.length l := by
  intro k
  induction k using Nat.strongRecOn with
  | _ k ih =>
    intro l hl
    cases l with
    | nil => cases k <;> rfl
    | cons c l =>
      cases k with
      | zero => simp at hl
      | succ k =>
        simp only [List.length_cons, ptsU]
        cases h : fstU (c :: l) with
        | none => rfl
        | some pn =>
          obtain ⟨p, n⟩ := pn
          have hn := fstU_n h
          simp only [List.length_cons] at hl hn
          simp only
          have hd : ((c :: l).drop n).length ≤ l.length := by simp only [List.length_drop, List.length_cons]; omega
          rw [ih k (Nat.lt_succ_self _) _ (by omega)]
          by_cases hk : l.length < k + 1
          · rw [ih l.length hk _ hd]
          · have : l.length = k := by omega
            subst this; rw [ih l.length (Nat.lt_succ_self _) _ hd]
theorem pts_nil : pts [] = some [] := rfl
theorem pts_none {c : UInt8} {l : List UInt8} (h : fstU (c :: l) = none) : pts (c :: l) = none := by
  unfold pts; simp only [List.length_cons, ptsU, h]
theorem pts_some {c : UInt8} {l : List UInt8} {p n : Nat} (h : fstU (c :: l) = some (p, n)) : pts (c :: l) = (pts ((c :: l).drop n)).map (p :: ·) := by
  have hn := fstU_n h
  unfold pts
  simp only [List.length_cons, ptsU, h]
  rw [ptsU_fuel l.length _ (by simp only [List.length_drop, List.length_cons]; omega)]
theorem Option.map_map' {α : Type} (o : Option (List α)) (a : List α) (p : α) : (o.map (p :: ·)).map (a ++ ·) = o.map ((a ++ [p]) ++ ·) := by
  cases o <;> simp

def natI (l : List Nat) : List Int := l.map (fun n : Nat => ((n : Nat) : Int))
def ptsV : Option (List Nat) → AV
  | some l => .tup [.osl 1 (ints (natI l)), .bool true]
  | none => .tup [.osl 1 [], .bool false]

theorem ptsE (s : ByteArray) (hs : s.size ≤ 1048576) : EvV CX 48 [.str s] (· = ptsV (pts s.data.toList)) := by
  obtain ⟨l, hl⟩ : ∃ l, s.data.toList = l := ⟨_, rfl⟩
  have hlen := str_len hl
  rw [hl]
  have k5 : ∀ (S : Store) (m : Bool), expTop S (.bool m) = some (.bool m) := fun _ _ => rfl
  refine EvV.walk rfl fn48 rfl nt48 rfl ?_
  simp only [List.length_cons, List.length_nil, List.cons_append, List.nil_append, Nat.reduceAdd, Nat.reduceSub, List.replicate]
  repeat' (first | refine go1 ?_ | refine blockK_else rfl ?_ | (refine wpC_cond fun A B hA hB => ?_; simp only [go_sem, reduceIte, Nat.reduceAdd, Nat.reduceEqDiff, Nat.reduceLT, Nat.reduceLeDiff, *, wpK_append ty23 rfl, wpK_assignN ty23 rfl, wpK_buildSlice ty23 rfl, ]; first | (refine hA.out ?_; clear hA hB A B) | (refine hB.out ?_; clear hA hB A B) | (refine iteI (fun h => hA.out ?_) (fun h => hB.out ?_) <;> clear hA hB A B) | (refine iteI (fun h => hB.out ?_) (fun h => hA.out ?_) <;> clear hA hB A B)) | (refine wpO_cons fun K hK => ?_; simp only [go_sem, reduceIte, Nat.reduceAdd, Nat.reduceEqDiff, Nat.reduceLT, Nat.reduceLeDiff, *, wpK_append ty23 rfl, wpK_assignN ty23 rfl, wpK_buildSlice ty23 rfl, ]; first | (refine hK.out _ _ ?_; clear hK K) | (refine iteI (fun h => hK.out _ _ ?_) (fun h => hK.out _ _ ?_) <;> clear hK K)))
  refine wpC_loopF [2, 3, 6, 7, 8, 9, 10, 11, 12, 13, 14, 15, 16, 17, 18, 19, 20, 21, 22, 23, 24, 25, 26] (fun a : List UInt8 × List UInt8 × List Nat => [(4, .sl 1 a.2.2.length 0 a.2.2.length 1), (5, .int .i64 (a.1.length : Int))]) (fun a G => .arr [] 1 0 true :: .arr (ints (natI a.2.2)) 1 0 true :: G)
    (fun a => l = a.1 ++ a.2.1 ∧ a.2.2.length ≤ a.1.length ∧ pts l = (pts a.2.1).map (a.2.2 ++ ·)) (fun a => a.2.1.length) ([], l, []) ⟨rfl, Nat.le_refl _, by cases pts l <;> simp⟩ ?_ ⟨[], rfl⟩ ?_
  · rfl
  rintro ⟨pre, rest, out⟩ g G ⟨h1, h2, h3⟩
  simp only at h1 h2 h3
  rw [h3]
  simp only [garbA_cons, garbA_nil, setL_cons, setL_nil, List.set_cons_zero, List.set_cons_succ]
  have hsz : (s.size : Int) = (l.length : Int) := by rw [hlen]
  have hnl : (natI out).length = out.length := by simp [natI]
  cases rest with
  | nil =>
    rw [List.append_nil] at h1
    have e : (l.length : Int) = (pre.length : Int) := by rw [h1]
    rw [pts_nil]
    clear h1 h3
    repeat' (first | refine go1 ?_ | refine blockK_else rfl ?_ | (refine wpC_cond fun A B hA hB => ?_; simp only [go_sem, reduceIte, Nat.reduceAdd, Nat.reduceEqDiff, Nat.reduceLT, Nat.reduceLeDiff, *, wpK_append ty23 rfl, wpK_assignN ty23 rfl, wpK_buildSlice ty23 rfl, wpK_index, wpK_slice, wpK_assignS, wpK_moveS, evalA_str, lenK_str, hsz, e, Int.lt_irrefl]; first | (refine hA.out ?_; clear hA hB A B) | (refine hB.out ?_; clear hA hB A B) | (refine iteI (fun h => hA.out ?_) (fun h => hB.out ?_) <;> clear hA hB A B) | (refine iteI (fun h => hB.out ?_) (fun h => hA.out ?_) <;> clear hA hB A B)) | (refine wpO_cons fun K hK => ?_; simp only [go_sem, reduceIte, Nat.reduceAdd, Nat.reduceEqDiff, Nat.reduceLT, Nat.reduceLeDiff, *, wpK_append ty23 rfl, wpK_assignN ty23 rfl, wpK_buildSlice ty23 rfl, wpK_index, wpK_slice, wpK_assignS, wpK_moveS, evalA_str, lenK_str, hsz, e, Int.lt_irrefl]; first | (refine hK.out _ _ ?_; clear hK K) | (refine iteI (fun h => hK.out _ _ ?_) (fun h => hK.out _ _ ?_) <;> clear hK K)))
    simp only [resultsR, resultsL, resultA, resK_some, getA_zero, getA_succ, go_sem, reduceIte, Nat.reduceAdd, Nat.reduceEqDiff, Nat.reduceLT, Nat.reduceLeDiff, expK_tup]
    simp [idsOK, ownIds, lentIds, expTops, expTop, k5, ptsV, ints, natI, AV.stab]
  | cons c tl =>
    have lt1 : (pre.length : Int) < (l.length : Int) := by rw [h1]; simp; omega
    have q := (fstE s hs (hl.trans h1)).rw
    cases hf : fstU (c :: tl) with
    | none =>
      rw [hf, fstV] at q
      rw [pts_none hf]
      clear h1 h3 hf
      repeat' (first | refine go1 ?_ | refine blockK_else rfl ?_ | (refine wpC_cond fun A B hA hB => ?_; simp only [go_sem, reduceIte, Nat.reduceAdd, Nat.reduceEqDiff, Nat.reduceLT, Nat.reduceLeDiff, *, wpK_append ty23 rfl, wpK_assignN ty23 rfl, wpK_buildSlice ty23 rfl, wpK_index, wpK_slice, wpK_assignS, wpK_moveS, evalA_str, lenK_str, hsz, lt1, q, adopt_tup, adoptL, adopt1]; first | (refine hA.out ?_; clear hA hB A B) | (refine hB.out ?_; clear hA hB A B) | (refine iteI (fun h => hA.out ?_) (fun h => hB.out ?_) <;> clear hA hB A B) | (refine iteI (fun h => hB.out ?_) (fun h => hA.out ?_) <;> clear hA hB A B)) | (refine wpO_cons fun K hK => ?_; simp only [go_sem, reduceIte, Nat.reduceAdd, Nat.reduceEqDiff, Nat.reduceLT, Nat.reduceLeDiff, *, wpK_append ty23 rfl, wpK_assignN ty23 rfl, wpK_buildSlice ty23 rfl, wpK_index, wpK_slice, wpK_assignS, wpK_moveS, evalA_str, lenK_str, hsz, lt1, q, adopt_tup, adoptL, adopt1]; first | (refine hK.out _ _ ?_; clear hK K) | (refine iteI (fun h => hK.out _ _ ?_) (fun h => hK.out _ _ ?_) <;> clear hK K)))
      simp only [resultsR, resultsL, resultA, resK_some, getA_zero, getA_succ, go_sem, reduceIte, Nat.reduceAdd, Nat.reduceEqDiff, Nat.reduceLT, Nat.reduceLeDiff, expK_tup]
      simp [idsOK, ownIds, lentIds, expTops, expTop, k5, ptsV, AV.stab]
    | some pn =>
      obtain ⟨p, n⟩ := pn
      rw [hf, fstV] at q
      have hn := fstU_n hf
      have hlp : l.length = pre.length + (tl.length + 1) := by rw [h1]; simp
      simp only [List.length_cons] at hn
      have b1 : (out.length + 1) * 8 ≤ 140737488355328 := by omega
      have b2 : out.length + 1 ≤ 140737488355328 := by omega
      have z : ((n : Int) == 0) = false := by simp; omega
      have z2 : ¬ (n : Int) = 0 := by omega
      have w1 : IntKind.wrap .i64 ((pre.length : Int) + (n : Int)) = ((pre.length + n : Nat) : Int) := wI (n := pre.length + n) (by omega)
      have hh : Hold (l = (pre ++ (c :: tl).take n) ++ (c :: tl).drop n ∧ (pre ++ (c :: tl).take n).length = pre.length + n ∧ (pts (c :: tl)).map (out ++ ·) = (pts ((c :: tl).drop n)).map ((out ++ [p]) ++ ·)) := by
        refine ⟨⟨?_, ?_, ?_⟩⟩
        · rw [List.append_assoc, List.take_append_drop]; exact h1
        · simp only [List.length_append, List.length_take, List.length_cons]; omega
        · rw [pts_some hf, Option.map_map']
      have hl2 : out.length ≤ 1048576 := by omega
      clear h1 h3 hf hlp
      repeat' (first | refine go1 ?_ | refine blockK_else rfl ?_ | (refine wpC_cond fun A B hA hB => ?_; simp only [go_sem, reduceIte, Nat.reduceAdd, Nat.reduceEqDiff, Nat.reduceLT, Nat.reduceLeDiff, *, wpK_append ty23 rfl, wpK_assignN ty23 rfl, wpK_buildSlice ty23 rfl, wpK_index, wpK_slice, wpK_assignS, wpK_moveS, evalA_str, lenK_str, hsz, lt1, q, adopt_tup, adoptL, adopt1, z, z2, w1, getElem?_len, getElem?_lenAdd, set_len, set_lenAdd, len_mid, ints_len, List.length_map, lt_mid, List.nil_append, snap_sl, rowsOf_sl, ints_len, ints_take, List.take_length, Nat.zero_le, Nat.zero_add, Bool.true_or, List.getElem?_cons_succ, List.append_assoc, b1, b2, hnl]; first | (refine hA.out ?_; clear hA hB A B) | (refine hB.out ?_; clear hA hB A B) | (refine iteI (fun h => hA.out ?_) (fun h => hB.out ?_) <;> clear hA hB A B) | (refine iteI (fun h => hB.out ?_) (fun h => hA.out ?_) <;> clear hA hB A B)) | (refine wpO_cons fun K hK => ?_; simp only [go_sem, reduceIte, Nat.reduceAdd, Nat.reduceEqDiff, Nat.reduceLT, Nat.reduceLeDiff, *, wpK_append ty23 rfl, wpK_assignN ty23 rfl, wpK_buildSlice ty23 rfl, wpK_index, wpK_slice, wpK_assignS, wpK_moveS, evalA_str, lenK_str, hsz, lt1, q, adopt_tup, adoptL, adopt1, z, z2, w1, getElem?_len, getElem?_lenAdd, set_len, set_lenAdd, len_mid, ints_len, List.length_map, lt_mid, List.nil_append, snap_sl, rowsOf_sl, ints_len, ints_take, List.take_length, Nat.zero_le, Nat.zero_add, Bool.true_or, List.getElem?_cons_succ, List.append_assoc, b1, b2, hnl]; first | (refine hK.out _ _ ?_; clear hK K) | (refine iteI (fun h => hK.out _ _ ?_) (fun h => hK.out _ _ ?_) <;> clear hK K)))
      refine loopF_next (pre ++ (c :: tl).take n, (c :: tl).drop n, out ++ [p]) ?_ ⟨hh.out.1, ?_, hh.out.2.2⟩ ?_ ?_
      · simp only [List.length_drop, List.length_cons]; omega
      · rw [hh.out.2.1]; simp; omega
      · ((try simp only [eraseA_cons, eraseA_nil, setL_cons, setL_nil, List.set_cons_zero, List.set_cons_succ]); all_goals (first | rfl | (simp only [len_snoc, ints_len, List.length_map, hh.out.2.1]; done) | (simp only [len_snoc, len_mid, ints_len, List.length_map, List.length_append, List.length_cons, List.length_nil, Nat.zero_add, hh.out.2.1]; done) | (simp only [len_mid, len_snoc, ints_len, List.length_map, List.length_append, List.length_cons, List.length_nil, Nat.zero_add, hh.out.2.1]; rfl)))
      · exact ⟨_, by simp [natI, ints]; rfl⟩

/-- What a label is. -/
def okc (c : UInt8) : Bool := decide (32 ≤ (c.toNat : Int)) && decide ((c.toNat : Int) ≠ 127)
def labU (l : List UInt8) : Bool := l.all okc && ((pts l).isSome && (decide (1 ≤ l.length) && decide (l.length ≤ 32)))

theorem labelR (s : ByteArray) (hs : s.size ≤ 1048576) : EvV CX 39 [.str s] (· = .bool (labU s.data.toList)) := by
  have q := (ptsE s hs).rw
  obtain ⟨l, hl⟩ : ∃ l, s.data.toList = l := ⟨_, rfl⟩
  have hlen := str_len hl
  rw [hl] at q ⊢
  have hsz : (s.size : Int) = (l.length : Int) := by rw [hlen]
  refine EvV.walk rfl fn39 rfl nt39 rfl ?_
  simp only [List.length_cons, List.length_nil, List.cons_append, List.nil_append, Nat.reduceAdd, Nat.reduceSub, List.replicate]
  repeat' (first | refine go1 ?_ | refine blockK_else rfl ?_ | (refine wpC_cond fun A B hA hB => ?_; simp only [go_sem, reduceIte, Nat.reduceAdd, Nat.reduceEqDiff, Nat.reduceLT, Nat.reduceLeDiff, *, and_self, ]; first | (refine hA.out ?_; clear hA hB A B) | (refine hB.out ?_; clear hA hB A B) | (refine iteI (fun h => hA.out ?_) (fun h => hB.out ?_) <;> clear hA hB A B) | (refine iteI (fun h => hB.out ?_) (fun h => hA.out ?_) <;> clear hA hB A B)) | (refine wpO_cons fun K hK => ?_; simp only [go_sem, reduceIte, Nat.reduceAdd, Nat.reduceEqDiff, Nat.reduceLT, Nat.reduceLeDiff, *, and_self, ]; first | (refine hK.out _ _ ?_; clear hK K) | (refine iteI (fun h => hK.out _ _ ?_) (fun h => hK.out _ _ ?_) <;> clear hK K)))
  refine wpC_each [2, 6, 7, 8, 9, 10, 11, 12, 13, 14, 15, 16, 17, 18, 19, 20, 21] 3 l (fun pre post => l.all okc = post.all okc) ?_ ?_ ?_ ?_
  · rfl
  · rfl
  · intro g G h2
    have hE : labU l = ((pts l).isSome && (decide (1 ≤ l.length) && decide (l.length ≤ 32))) := by rw [labU, h2]; rfl
    rw [hE]
    clear hE h2
    simp only [garbA_cons, garbA_nil, setL_cons, setL_nil, List.set_cons_zero, List.set_cons_succ]
    cases hp : pts l with
    | none =>
      rw [hp, ptsV] at q
      repeat' (first | refine go1 ?_ | refine blockK_else rfl ?_ | (refine wpC_cond fun A B hA hB => ?_; simp only [go_sem, reduceIte, Nat.reduceAdd, Nat.reduceEqDiff, Nat.reduceLT, Nat.reduceLeDiff, *, and_self, wpK_index, wpK_slice, wpK_assignS, wpK_moveS, evalA_str, lenK_str, hsz, Int.lt_irrefl, q, adopt_tup, adoptL, adopt1]; first | (refine hA.out ?_; clear hA hB A B) | (refine hB.out ?_; clear hA hB A B) | (refine iteI (fun h => hA.out ?_) (fun h => hB.out ?_) <;> clear hA hB A B) | (refine iteI (fun h => hB.out ?_) (fun h => hA.out ?_) <;> clear hA hB A B)) | (refine wpO_cons fun K hK => ?_; simp only [go_sem, reduceIte, Nat.reduceAdd, Nat.reduceEqDiff, Nat.reduceLT, Nat.reduceLeDiff, *, and_self, wpK_index, wpK_slice, wpK_assignS, wpK_moveS, evalA_str, lenK_str, hsz, Int.lt_irrefl, q, adopt_tup, adoptL, adopt1]; first | (refine hK.out _ _ ?_; clear hK K) | (refine iteI (fun h => hK.out _ _ ?_) (fun h => hK.out _ _ ?_) <;> clear hK K)))
      simp only [resultsR, resultsL, resultA, expK_int, expK_bool, expK_str, expK_agg, expK_own, expK_tsl, resK_some, go_sem, reduceIte, Nat.reduceAdd, Nat.reduceEqDiff, Nat.reduceLT, Nat.reduceLeDiff, and_self, ]
      rfl
    | some ps =>
      rw [hp, ptsV] at q
      by_cases k1 : (1 : Int) ≤ (l.length : Int)
      · by_cases k2 : (l.length : Int) ≤ 32
        · repeat' (first | refine go1 ?_ | refine blockK_else rfl ?_ | (refine wpC_cond fun A B hA hB => ?_; simp only [go_sem, reduceIte, Nat.reduceAdd, Nat.reduceEqDiff, Nat.reduceLT, Nat.reduceLeDiff, *, and_self, wpK_index, wpK_slice, wpK_assignS, wpK_moveS, evalA_str, lenK_str, hsz, Int.lt_irrefl, q, adopt_tup, adoptL, adopt1]; first | (refine hA.out ?_; clear hA hB A B) | (refine hB.out ?_; clear hA hB A B) | (refine iteI (fun h => hA.out ?_) (fun h => hB.out ?_) <;> clear hA hB A B) | (refine iteI (fun h => hB.out ?_) (fun h => hA.out ?_) <;> clear hA hB A B)) | (refine wpO_cons fun K hK => ?_; simp only [go_sem, reduceIte, Nat.reduceAdd, Nat.reduceEqDiff, Nat.reduceLT, Nat.reduceLeDiff, *, and_self, wpK_index, wpK_slice, wpK_assignS, wpK_moveS, evalA_str, lenK_str, hsz, Int.lt_irrefl, q, adopt_tup, adoptL, adopt1]; first | (refine hK.out _ _ ?_; clear hK K) | (refine iteI (fun h => hK.out _ _ ?_) (fun h => hK.out _ _ ?_) <;> clear hK K)))
          simp only [resultsR, resultsL, resultA, expK_int, expK_bool, expK_str, expK_agg, expK_own, expK_tsl, resK_some, go_sem, reduceIte, Nat.reduceAdd, Nat.reduceEqDiff, Nat.reduceLT, Nat.reduceLeDiff, and_self, ]
          simp; omega
        · repeat' (first | refine go1 ?_ | refine blockK_else rfl ?_ | (refine wpC_cond fun A B hA hB => ?_; simp only [go_sem, reduceIte, Nat.reduceAdd, Nat.reduceEqDiff, Nat.reduceLT, Nat.reduceLeDiff, *, and_self, wpK_index, wpK_slice, wpK_assignS, wpK_moveS, evalA_str, lenK_str, hsz, Int.lt_irrefl, q, adopt_tup, adoptL, adopt1]; first | (refine hA.out ?_; clear hA hB A B) | (refine hB.out ?_; clear hA hB A B) | (refine iteI (fun h => hA.out ?_) (fun h => hB.out ?_) <;> clear hA hB A B) | (refine iteI (fun h => hB.out ?_) (fun h => hA.out ?_) <;> clear hA hB A B)) | (refine wpO_cons fun K hK => ?_; simp only [go_sem, reduceIte, Nat.reduceAdd, Nat.reduceEqDiff, Nat.reduceLT, Nat.reduceLeDiff, *, and_self, wpK_index, wpK_slice, wpK_assignS, wpK_moveS, evalA_str, lenK_str, hsz, Int.lt_irrefl, q, adopt_tup, adoptL, adopt1]; first | (refine hK.out _ _ ?_; clear hK K) | (refine iteI (fun h => hK.out _ _ ?_) (fun h => hK.out _ _ ?_) <;> clear hK K)))
          simp only [resultsR, resultsL, resultA, expK_int, expK_bool, expK_str, expK_agg, expK_own, expK_tsl, resK_some, go_sem, reduceIte, Nat.reduceAdd, Nat.reduceEqDiff, Nat.reduceLT, Nat.reduceLeDiff, and_self, ]
          simp; omega
      · repeat' (first | refine go1 ?_ | refine blockK_else rfl ?_ | (refine wpC_cond fun A B hA hB => ?_; simp only [go_sem, reduceIte, Nat.reduceAdd, Nat.reduceEqDiff, Nat.reduceLT, Nat.reduceLeDiff, *, and_self, wpK_index, wpK_slice, wpK_assignS, wpK_moveS, evalA_str, lenK_str, hsz, Int.lt_irrefl, q, adopt_tup, adoptL, adopt1]; first | (refine hA.out ?_; clear hA hB A B) | (refine hB.out ?_; clear hA hB A B) | (refine iteI (fun h => hA.out ?_) (fun h => hB.out ?_) <;> clear hA hB A B) | (refine iteI (fun h => hB.out ?_) (fun h => hA.out ?_) <;> clear hA hB A B)) | (refine wpO_cons fun K hK => ?_; simp only [go_sem, reduceIte, Nat.reduceAdd, Nat.reduceEqDiff, Nat.reduceLT, Nat.reduceLeDiff, *, and_self, wpK_index, wpK_slice, wpK_assignS, wpK_moveS, evalA_str, lenK_str, hsz, Int.lt_irrefl, q, adopt_tup, adoptL, adopt1]; first | (refine hK.out _ _ ?_; clear hK K) | (refine iteI (fun h => hK.out _ _ ?_) (fun h => hK.out _ _ ?_) <;> clear hK K)))
        simp only [resultsR, resultsL, resultA, expK_int, expK_bool, expK_str, expK_agg, expK_own, expK_tsl, resK_some, go_sem, reduceIte, Nat.reduceAdd, Nat.reduceEqDiff, Nat.reduceLT, Nat.reduceLeDiff, and_self, ]
        simp; omega
  · intro g G pre x post h1 h2
    simp only [garbA_cons, garbA_nil, setL_cons, setL_nil, List.set_cons_zero, List.set_cons_succ]
    have i0 := index_str (X := CX) (k := .i64) ty9 (str_get (hl.trans h1))
    have lt1 : (pre.length : Int) < (l.length : Int) := by rw [h1]; simp; omega
    have w1 := wrap_succ (n := pre.length) (by omega)
    have hh1 : Hold (l = pre ++ x :: post) := ⟨h1⟩
    have hh2 : Hold (l.all okc = (x :: post).all okc) := ⟨h2⟩
    clear h1 h2 q
    by_cases k1 : (x.toNat : Int) < 32
    · repeat' (first | refine go1 ?_ | refine blockK_else rfl ?_ | (refine wpC_cond fun A B hA hB => ?_; simp only [go_sem, reduceIte, Nat.reduceAdd, Nat.reduceEqDiff, Nat.reduceLT, Nat.reduceLeDiff, *, and_self, wpK_index, wpK_slice, wpK_assignS, wpK_moveS, evalA_str, lenK_str, i0, hsz, lt1, w1]; first | (refine hA.out ?_; clear hA hB A B) | (refine hB.out ?_; clear hA hB A B) | (refine iteI (fun h => hA.out ?_) (fun h => hB.out ?_) <;> clear hA hB A B) | (refine iteI (fun h => hB.out ?_) (fun h => hA.out ?_) <;> clear hA hB A B)) | (refine wpO_cons fun K hK => ?_; simp only [go_sem, reduceIte, Nat.reduceAdd, Nat.reduceEqDiff, Nat.reduceLT, Nat.reduceLeDiff, *, and_self, wpK_index, wpK_slice, wpK_assignS, wpK_moveS, evalA_str, lenK_str, i0, hsz, lt1, w1]; first | (refine hK.out _ _ ?_; clear hK K) | (refine iteI (fun h => hK.out _ _ ?_) (fun h => hK.out _ _ ?_) <;> clear hK K)))
      simp only [resultsR, resultsL, resultA, expK_int, expK_bool, expK_str, expK_agg, expK_own, expK_tsl, resK_some, go_sem, reduceIte, Nat.reduceAdd, Nat.reduceEqDiff, Nat.reduceLT, Nat.reduceLeDiff, and_self, ]
      have e : okc x = false := by simp [okc]; omega
      rw [labU, hh2.out, List.all_cons, e]; rfl
    by_cases k2 : (x.toNat : Int) = 127
    · have k2' : ((x.toNat : Int) == 127) = true := by simpa using k2
      have hk : Hold ((x.toNat : Int) = 127) := ⟨k2⟩
      clear k2
      repeat' (first | refine go1 ?_ | refine blockK_else rfl ?_ | (refine wpC_cond fun A B hA hB => ?_; simp only [go_sem, reduceIte, Nat.reduceAdd, Nat.reduceEqDiff, Nat.reduceLT, Nat.reduceLeDiff, *, and_self, wpK_index, wpK_slice, wpK_assignS, wpK_moveS, evalA_str, lenK_str, i0, hsz, lt1, w1, k2']; first | (refine hA.out ?_; clear hA hB A B) | (refine hB.out ?_; clear hA hB A B) | (refine iteI (fun h => hA.out ?_) (fun h => hB.out ?_) <;> clear hA hB A B) | (refine iteI (fun h => hB.out ?_) (fun h => hA.out ?_) <;> clear hA hB A B)) | (refine wpO_cons fun K hK => ?_; simp only [go_sem, reduceIte, Nat.reduceAdd, Nat.reduceEqDiff, Nat.reduceLT, Nat.reduceLeDiff, *, and_self, wpK_index, wpK_slice, wpK_assignS, wpK_moveS, evalA_str, lenK_str, i0, hsz, lt1, w1, k2']; first | (refine hK.out _ _ ?_; clear hK K) | (refine iteI (fun h => hK.out _ _ ?_) (fun h => hK.out _ _ ?_) <;> clear hK K)))
      simp only [resultsR, resultsL, resultA, expK_int, expK_bool, expK_str, expK_agg, expK_own, expK_tsl, resK_some, go_sem, reduceIte, Nat.reduceAdd, Nat.reduceEqDiff, Nat.reduceLT, Nat.reduceLeDiff, and_self, ]
      have e : okc x = false := by have := hk.out; simp [okc]; omega
      rw [labU, hh2.out, List.all_cons, e]; rfl
    · have k2' : ((x.toNat : Int) == 127) = false := by simpa using k2
      repeat' (first | refine go1 ?_ | refine blockK_else rfl ?_ | (refine wpC_cond fun A B hA hB => ?_; simp only [go_sem, reduceIte, Nat.reduceAdd, Nat.reduceEqDiff, Nat.reduceLT, Nat.reduceLeDiff, *, and_self, wpK_index, wpK_slice, wpK_assignS, wpK_moveS, evalA_str, lenK_str, i0, hsz, lt1, w1, k2']; first | (refine hA.out ?_; clear hA hB A B) | (refine hB.out ?_; clear hA hB A B) | (refine iteI (fun h => hA.out ?_) (fun h => hB.out ?_) <;> clear hA hB A B) | (refine iteI (fun h => hB.out ?_) (fun h => hA.out ?_) <;> clear hA hB A B)) | (refine wpO_cons fun K hK => ?_; simp only [go_sem, reduceIte, Nat.reduceAdd, Nat.reduceEqDiff, Nat.reduceLT, Nat.reduceLeDiff, *, and_self, wpK_index, wpK_slice, wpK_assignS, wpK_moveS, evalA_str, lenK_str, i0, hsz, lt1, w1, k2']; first | (refine hK.out _ _ ?_; clear hK K) | (refine iteI (fun h => hK.out _ _ ?_) (fun h => hK.out _ _ ?_) <;> clear hK K)))
      refine each_next hh1.out ?_ ?_ ?_
      · have e : okc x = true := by simp [okc]; omega
        rw [hh2.out, List.all_cons, e, Bool.true_and]
      · ((try simp only [eraseA_cons, eraseA_nil, setL_cons, setL_nil, List.set_cons_zero, List.set_cons_succ]); all_goals (first | rfl | (simp only [len_snoc, ints_len, List.length_map, ]; done) | (simp only [len_snoc, len_mid, ints_len, List.length_map, List.length_append, List.length_cons, List.length_nil, Nat.zero_add, ]; done) | (simp only [len_mid, len_snoc, ints_len, List.length_map, List.length_append, List.length_cons, List.length_nil, Nat.zero_add, ]; rfl)))
      · first | exact ⟨[], (List.append_nil _).symm⟩ | exact ⟨_, rfl⟩ | (simp only [List.append_assoc, List.cons_append, List.nil_append]; exact ⟨_, rfl⟩)

/- The reference's People. -/
open Go.Proofs
attribute [local go_sem] br39 fz86
set_option maxHeartbeats 4000000

def lastP (pre : List Psn) : Psn := pre.getLastD noP
def ordP (pre : List Psn) (x : Psn) : Bool := decide (pre = []) || decide ((lastP pre).id < x.id)
/-- What is wrong with a person. -/
def errP (pre : List Psn) (x : Psn) : Int := if idOK x.id = true then if ordP pre x = true then if labU x.name.data.toList = true then 0 else 7 else 10 else 2
def errPF : List Psn → List Psn → Int
  | _, [] => 0
  | pre, x :: post => if errP pre x = 0 then errPF (pre ++ [x]) post else errP pre x
def pplF (ps : List Psn) : Int := if ps.length ≤ 40 then errPF [] ps else 11

theorem ordP_cases {w : AV} {ps pre post : List Psn} {x : Psn} (hw : SLs 3 (ps.map encP) w) (hl : ps.length < 9223372036854775807) (hg : ps = pre ++ x :: post) :
    (ordP pre x = true ∧ ¬ (0 : Int) < (pre.length : Int)) ∨
    (ordP pre x = true ∧ ¬ x.id ≤ (lastP pre).id ∧ (0 : Int) < (pre.length : Int) ∧ indexAddrA CX 31 w (.int .i64 (IntKind.wrap .i64 ((pre.length : Int) - 1))) = some (.tptr (stOf w) (encP (lastP pre)) 0)) ∨
    (ordP pre x = false ∧ x.id ≤ (lastP pre).id ∧ (0 : Int) < (pre.length : Int) ∧ indexAddrA CX 31 w (.int .i64 (IntKind.wrap .i64 ((pre.length : Int) - 1))) = some (.tptr (stOf w) (encP (lastP pre)) 0)) := by
  by_cases hp : pre = []
  · left; exact ⟨by simp [ordP, hp], by simp [hp]⟩
  · have z0 : (0 : Int) < (pre.length : Int) := by have := List.length_pos_iff.mpr hp; omega
    have e : indexAddrA CX 31 w (.int .i64 (IntKind.wrap .i64 ((pre.length : Int) - 1))) = some (.tptr (stOf w) (encP (lastP pre)) 0) := prev_sls (f := encP) (by rw [← hg]; exact hw) (by rw [← hg]; omega) ty31 ty49 rfl noP z0
    by_cases hl : x.id ≤ (lastP pre).id
    · right; right; exact ⟨by simp [ordP, hp]; omega, hl, z0, e⟩
    · right; left; exact ⟨by simp [ordP, hp]; omega, hl, z0, e⟩

theorem peopleR {w : AV} {ps : List Psn} (hw : SLs 3 (ps.map encP) w) (hl : ps.length < 9223372036854775807) (hn : ∀ p ∈ ps, p.name.size ≤ 1048576) : EvV CX 28 [w] (· = .int .i64 (pplF ps)) := by
  by_cases k1 : 40 < (ps.length : Int)
  · refine EvV.walk rfl fn28 rfl nt28 rfl ?_
    simp only [List.length_cons, List.length_nil, List.cons_append, List.nil_append, Nat.reduceAdd, Nat.reduceSub, List.replicate]
    repeat' (first | refine go1 ?_ | refine blockK_else rfl ?_ | (refine wpO_cons fun K hK => ?_; simp only [go_sem, reduceIte, Nat.reduceAdd, Nat.reduceEqDiff, Nat.reduceLT, Nat.reduceLeDiff, *, and_self, lenK_sls hw, getElem?_len, getElem?_lenAdd, set_len, set_lenAdd, len_mid, ints_len, List.length_map, lt_mid, List.nil_append]; first | (refine hK.out _ _ ?_; clear hK K) | (refine iteI (fun h => hK.out _ _ ?_) (fun h => hK.out _ _ ?_) <;> clear hK K)))
    (refine wpC_cond fun A B hA hB => ?_; simp only [go_sem, reduceIte, Nat.reduceAdd, Nat.reduceEqDiff, Nat.reduceLT, Nat.reduceLeDiff, *, and_self, getElem?_len, getElem?_lenAdd, set_len, set_lenAdd, len_mid, ints_len, List.length_map, lt_mid, List.nil_append]; first | (refine hA.out ?_; clear hA hB A B) | (refine hB.out ?_; clear hA hB A B))
    repeat' (first | refine go1 ?_ | refine blockK_else rfl ?_ | (refine wpO_cons fun K hK => ?_; simp only [go_sem, reduceIte, Nat.reduceAdd, Nat.reduceEqDiff, Nat.reduceLT, Nat.reduceLeDiff, *, and_self, ]; first | (refine hK.out _ _ ?_; clear hK K) | (refine iteI (fun h => hK.out _ _ ?_) (fun h => hK.out _ _ ?_) <;> clear hK K)))
    simp only [resultsR, resultsL, resultA, expK_int, expK_bool, expK_str, expK_agg, expK_own, expK_tsl, resK_some, go_sem, reduceIte, Nat.reduceAdd, Nat.reduceEqDiff, Nat.reduceLT, Nat.reduceLeDiff, and_self, ]
    have : ¬ ps.length ≤ 40 := by omega
    simp [pplF, this]
  have l40 : ps.length ≤ 40 := by omega
  have hE : pplF ps = errPF [] ps := by rw [pplF, if_pos l40]
  rw [hE]
  clear hE
  refine EvV.walk rfl fn28 rfl nt28 rfl ?_
  simp only [List.length_cons, List.length_nil, List.cons_append, List.nil_append, Nat.reduceAdd, Nat.reduceSub, List.replicate]
  repeat' (first | refine go1 ?_ | refine blockK_else rfl ?_ | (refine wpO_cons fun K hK => ?_; simp only [go_sem, reduceIte, Nat.reduceAdd, Nat.reduceEqDiff, Nat.reduceLT, Nat.reduceLeDiff, *, and_self, lenK_sls hw, getElem?_len, getElem?_lenAdd, set_len, set_lenAdd, len_mid, ints_len, List.length_map, lt_mid, List.nil_append]; first | (refine hK.out _ _ ?_; clear hK K) | (refine iteI (fun h => hK.out _ _ ?_) (fun h => hK.out _ _ ?_) <;> clear hK K)))
  (refine wpC_cond fun A B hA hB => ?_; simp only [go_sem, reduceIte, Nat.reduceAdd, Nat.reduceEqDiff, Nat.reduceLT, Nat.reduceLeDiff, *, and_self, getElem?_len, getElem?_lenAdd, set_len, set_lenAdd, len_mid, ints_len, List.length_map, lt_mid, List.nil_append]; first | (refine hA.out ?_; clear hA hB A B) | (refine hB.out ?_; clear hA hB A B))
  repeat' (first | refine go1 ?_ | refine blockK_else rfl ?_ | (refine wpO_cons fun K hK => ?_; simp only [go_sem, reduceIte, Nat.reduceAdd, Nat.reduceEqDiff, Nat.reduceLT, Nat.reduceLeDiff, *, and_self, lenK_sls hw, getElem?_len, getElem?_lenAdd, set_len, set_lenAdd, len_mid, ints_len, List.length_map, lt_mid, List.nil_append]; first | (refine hK.out _ _ ?_; clear hK K) | (refine iteI (fun h => hK.out _ _ ?_) (fun h => hK.out _ _ ?_) <;> clear hK K)))
  clear k1
  refine wpC_each [2, 3, 10, 11, 12, 13, 14, 15, 16, 17, 18, 19, 20, 21, 22, 23, 24, 25, 26, 27, 28, 29, 30, 31, 32, 33, 34, 35, 36, 37, 38, 39, 40, 41, 42] 9 ps (fun pre post => errPF [] ps = errPF pre post) ?_ ?_ ?_ ?_
  · rfl
  · rfl
  · intro g G hE
    rw [hE]
    simp only [garbA_cons, garbA_nil, setL_cons, setL_nil, List.set_cons_zero, List.set_cons_succ]
    repeat' (first | refine go1 ?_ | refine blockK_else rfl ?_ | (refine wpC_cond fun A B hA hB => ?_; simp only [go_sem, reduceIte, Nat.reduceAdd, Nat.reduceEqDiff, Nat.reduceLT, Nat.reduceLeDiff, *, and_self, ints_len, List.length_map, Int.lt_irrefl, List.nil_append]; first | (refine hA.out ?_; clear hA hB A B) | (refine hB.out ?_; clear hA hB A B) | (refine iteI (fun h => hA.out ?_) (fun h => hB.out ?_) <;> clear hA hB A B) | (refine iteI (fun h => hB.out ?_) (fun h => hA.out ?_) <;> clear hA hB A B)) | (refine wpO_cons fun K hK => ?_; simp only [go_sem, reduceIte, Nat.reduceAdd, Nat.reduceEqDiff, Nat.reduceLT, Nat.reduceLeDiff, *, and_self, ints_len, List.length_map, Int.lt_irrefl, List.nil_append]; first | (refine hK.out _ _ ?_; clear hK K) | (refine iteI (fun h => hK.out _ _ ?_) (fun h => hK.out _ _ ?_) <;> clear hK K)))
    simp only [resultsR, resultsL, resultA, expK_int, expK_bool, expK_str, expK_agg, expK_own, expK_tsl, resK_some, go_sem, reduceIte, Nat.reduceAdd, Nat.reduceEqDiff, Nat.reduceLT, Nat.reduceLeDiff, and_self, ]
    rfl
  intro g G pre x post h1 hE
  have i0 := idx_sls hw (X := CX) ty31 ty49 rfl (n := pre.length) (row := encP x) (k := .i64) (by rw [h1]; exact map_mid encP pre x post)
  have lt1 : (pre.length : Int) < (ps.length : Int) := by rw [h1]; simp; omega
  have hpl : pre.length < ps.length := by rw [h1]; simp
  have w1 := wrap_succ (n := pre.length) (by omega)
  have hxn := hn x (by rw [h1]; simp)
  have ho := ordP_cases hw hl h1
  have hh1 : Hold (ps = pre ++ x :: post) := ⟨h1⟩
  have hhE : Hold (errPF [] ps = errPF pre (x :: post)) := ⟨hE⟩
  have qi := (identR x.id).rw
  have ql := (labelR x.name hxn).rw
  clear h1 hE l40
  simp only [garbA_cons, garbA_nil, setL_cons, setL_nil, List.set_cons_zero, List.set_cons_succ]
  by_cases k1 : idOK x.id = true
  rotate_left
  · have k1 : idOK x.id = false := by simpa using k1
    clear ho ql
    repeat' (first | refine go1 ?_ | refine blockK_else rfl ?_ | (refine wpC_cond fun A B hA hB => ?_; simp only [go_sem, reduceIte, Nat.reduceAdd, Nat.reduceEqDiff, Nat.reduceLT, Nat.reduceLeDiff, *, and_self, getElem?_len, getElem?_lenAdd, set_len, set_lenAdd, len_mid, ints_len, List.length_map, lt_mid, List.nil_append, i0, lt1, encP, qi]; first | (refine hA.out ?_; clear hA hB A B) | (refine hB.out ?_; clear hA hB A B) | (refine iteI (fun h => hA.out ?_) (fun h => hB.out ?_) <;> clear hA hB A B) | (refine iteI (fun h => hB.out ?_) (fun h => hA.out ?_) <;> clear hA hB A B)) | (refine wpO_cons fun K hK => ?_; simp only [go_sem, reduceIte, Nat.reduceAdd, Nat.reduceEqDiff, Nat.reduceLT, Nat.reduceLeDiff, *, and_self, getElem?_len, getElem?_lenAdd, set_len, set_lenAdd, len_mid, ints_len, List.length_map, lt_mid, List.nil_append, i0, lt1, encP, qi]; first | (refine hK.out _ _ ?_; clear hK K) | (refine iteI (fun h => hK.out _ _ ?_) (fun h => hK.out _ _ ?_) <;> clear hK K)))
    simp only [resultsR, resultsL, resultA, expK_int, expK_bool, expK_str, expK_agg, expK_own, expK_tsl, resK_some, go_sem, reduceIte, Nat.reduceAdd, Nat.reduceEqDiff, Nat.reduceLT, Nat.reduceLeDiff, and_self, ]
    rw [hhE.out, errPF]; simp [errP, k1]
  rcases ho with ⟨k2, e1⟩ | ⟨k2, e1, e2, e3⟩ | ⟨k2, e1, e2, e3⟩
  rotate_right
  · clear ql
    repeat' (first | refine go1 ?_ | refine blockK_else rfl ?_ | (refine wpC_cond fun A B hA hB => ?_; simp only [go_sem, reduceIte, Nat.reduceAdd, Nat.reduceEqDiff, Nat.reduceLT, Nat.reduceLeDiff, *, and_self, getElem?_len, getElem?_lenAdd, set_len, set_lenAdd, len_mid, ints_len, List.length_map, lt_mid, List.nil_append, i0, lt1, encP, qi]; first | (refine hA.out ?_; clear hA hB A B) | (refine hB.out ?_; clear hA hB A B) | (refine iteI (fun h => hA.out ?_) (fun h => hB.out ?_) <;> clear hA hB A B) | (refine iteI (fun h => hB.out ?_) (fun h => hA.out ?_) <;> clear hA hB A B)) | (refine wpO_cons fun K hK => ?_; simp only [go_sem, reduceIte, Nat.reduceAdd, Nat.reduceEqDiff, Nat.reduceLT, Nat.reduceLeDiff, *, and_self, getElem?_len, getElem?_lenAdd, set_len, set_lenAdd, len_mid, ints_len, List.length_map, lt_mid, List.nil_append, i0, lt1, encP, qi]; first | (refine hK.out _ _ ?_; clear hK K) | (refine iteI (fun h => hK.out _ _ ?_) (fun h => hK.out _ _ ?_) <;> clear hK K)))
    simp only [resultsR, resultsL, resultA, expK_int, expK_bool, expK_str, expK_agg, expK_own, expK_tsl, resK_some, go_sem, reduceIte, Nat.reduceAdd, Nat.reduceEqDiff, Nat.reduceLT, Nat.reduceLeDiff, and_self, ]
    rw [hhE.out, errPF]; simp [errP, k1, k2]
  all_goals
    by_cases k3 : labU x.name.data.toList = true
    · repeat' (first | refine go1 ?_ | refine blockK_else rfl ?_ | (refine wpC_cond fun A B hA hB => ?_; simp only [go_sem, reduceIte, Nat.reduceAdd, Nat.reduceEqDiff, Nat.reduceLT, Nat.reduceLeDiff, *, and_self, getElem?_len, getElem?_lenAdd, set_len, set_lenAdd, len_mid, ints_len, List.length_map, lt_mid, List.nil_append, i0, lt1, encP, qi, ql, snap_str, w1]; first | (refine hA.out ?_; clear hA hB A B) | (refine hB.out ?_; clear hA hB A B) | (refine iteI (fun h => hA.out ?_) (fun h => hB.out ?_) <;> clear hA hB A B) | (refine iteI (fun h => hB.out ?_) (fun h => hA.out ?_) <;> clear hA hB A B)) | (refine wpO_cons fun K hK => ?_; simp only [go_sem, reduceIte, Nat.reduceAdd, Nat.reduceEqDiff, Nat.reduceLT, Nat.reduceLeDiff, *, and_self, getElem?_len, getElem?_lenAdd, set_len, set_lenAdd, len_mid, ints_len, List.length_map, lt_mid, List.nil_append, i0, lt1, encP, qi, ql, snap_str, w1]; first | (refine hK.out _ _ ?_; clear hK K) | (refine iteI (fun h => hK.out _ _ ?_) (fun h => hK.out _ _ ?_) <;> clear hK K)))
      refine each_next hh1.out ?_ ?_ ?_
      · rw [hhE.out, errPF]; simp [errP, k1, k2, k3]
      · ((try simp only [eraseA_cons, eraseA_nil, setL_cons, setL_nil, List.set_cons_zero, List.set_cons_succ]); all_goals (first | rfl | (simp only [len_snoc, ints_len, List.length_map, ]; done) | (simp only [len_snoc, len_mid, ints_len, List.length_map, List.length_append, List.length_cons, List.length_nil, Nat.zero_add, ]; done) | (simp only [len_mid, len_snoc, ints_len, List.length_map, List.length_append, List.length_cons, List.length_nil, Nat.zero_add, ]; rfl)))
      · first | exact ⟨[], (List.append_nil _).symm⟩ | exact ⟨_, rfl⟩ | (simp only [List.append_assoc, List.cons_append, List.nil_append]; exact ⟨_, rfl⟩)
    · have k3 : labU x.name.data.toList = false := by simpa using k3
      repeat' (first | refine go1 ?_ | refine blockK_else rfl ?_ | (refine wpC_cond fun A B hA hB => ?_; simp only [go_sem, reduceIte, Nat.reduceAdd, Nat.reduceEqDiff, Nat.reduceLT, Nat.reduceLeDiff, *, and_self, getElem?_len, getElem?_lenAdd, set_len, set_lenAdd, len_mid, ints_len, List.length_map, lt_mid, List.nil_append, i0, lt1, encP, qi, ql, snap_str]; first | (refine hA.out ?_; clear hA hB A B) | (refine hB.out ?_; clear hA hB A B) | (refine iteI (fun h => hA.out ?_) (fun h => hB.out ?_) <;> clear hA hB A B) | (refine iteI (fun h => hB.out ?_) (fun h => hA.out ?_) <;> clear hA hB A B)) | (refine wpO_cons fun K hK => ?_; simp only [go_sem, reduceIte, Nat.reduceAdd, Nat.reduceEqDiff, Nat.reduceLT, Nat.reduceLeDiff, *, and_self, getElem?_len, getElem?_lenAdd, set_len, set_lenAdd, len_mid, ints_len, List.length_map, lt_mid, List.nil_append, i0, lt1, encP, qi, ql, snap_str]; first | (refine hK.out _ _ ?_; clear hK K) | (refine iteI (fun h => hK.out _ _ ?_) (fun h => hK.out _ _ ?_) <;> clear hK K)))
      simp only [resultsR, resultsL, resultA, expK_int, expK_bool, expK_str, expK_agg, expK_own, expK_tsl, resK_some, go_sem, reduceIte, Nat.reduceAdd, Nat.reduceEqDiff, Nat.reduceLT, Nat.reduceLeDiff, and_self, ]
      rw [hhE.out, errPF]; simp [errP, k1, k2, k3]

/- Protocols: right, of the laws. -/
open Go.Proofs
attribute [local go_sem] ty33 br28 br29 fz45
set_option maxHeartbeats 4000000

structure R44 (ps : List Psn) (gs : List Grp) : Prop where
  pl : ps.length ≤ 8
  gl : gs.length ≤ 6
  gn : ∀ g ∈ gs, g.people.length ≤ 8 ∧ g.subs.length ≤ 6
  chk : chkG ps gs = 0
  ppl : pplF ps = 0
theorem R44.ok {v : AV} {gs : List Grp} {ps : List Psn} (h : GsV v gs) (hr : R44 ps gs) : GsOK v gs :=
  ⟨h.sl, h.ok, h.st, by have := hr.gl; omega, fun g hg => by have := (hr.gn g hg).2; omega, fun g hg => by have := (hr.gn g hg).1; omega⟩
theorem chk_clo {ps : List Psn} {gs : List Grp} (h : chkG ps gs = 0) : Clo gs := by
  unfold chkG at h
  split at h
  · split at h
    · split at h
      · rename_i h2; exact clo_of h2
      · cases h
    · rename_i h1; exact absurd h h1
  · cases h

theorem right44 {v w : AV} {gs : List Grp} {ps : List Psn} (h : GsV v gs) (hw : SLs 3 (ps.map encP) w) (hpn : ∀ p ∈ ps, p.name.size ≤ 1048576) (hgn : ∀ g ∈ gs, g.name.size ≤ 1048576) :
    EvV CX 16 [.agg [w, v]] (fun r => ∃ b, r = .bool b ∧ (b = true → R44 ps gs)) := by
  have hvs := fun S => h.sl.snap (S := S)
  have hws := hw.snap
  have cv := h.sl.cell
  have cw := hw.cell
  by_cases k1 : 8 < (ps.length : Int)
  · refine EvV.walk rfl fn16 rfl nt16 rfl ?_
    simp only [List.length_cons, List.length_nil, List.cons_append, List.nil_append, Nat.reduceAdd, Nat.reduceSub, List.replicate]
    repeat' (first | refine go1 ?_ | refine blockK_else rfl ?_ | (refine wpC_cond fun A B hA hB => ?_; simp only [go_sem, reduceIte, Nat.reduceAdd, Nat.reduceEqDiff, Nat.reduceLT, Nat.reduceLeDiff, *, and_self, getElem?_len, getElem?_lenAdd, set_len, set_lenAdd, len_mid, ints_len, List.length_map, lt_mid, List.nil_append, List.cons_append, encG, List.getElem?_cons_succ, cv, cw, lenK_sls hw]; first | (refine hA.out ?_; clear hA hB A B) | (refine hB.out ?_; clear hA hB A B) | (refine iteI (fun h => hA.out ?_) (fun h => hB.out ?_) <;> clear hA hB A B) | (refine iteI (fun h => hB.out ?_) (fun h => hA.out ?_) <;> clear hA hB A B)) | (refine wpO_cons fun K hK => ?_; simp only [go_sem, reduceIte, Nat.reduceAdd, Nat.reduceEqDiff, Nat.reduceLT, Nat.reduceLeDiff, *, and_self, getElem?_len, getElem?_lenAdd, set_len, set_lenAdd, len_mid, ints_len, List.length_map, lt_mid, List.nil_append, List.cons_append, encG, List.getElem?_cons_succ, cv, cw, lenK_sls hw]; first | (refine hK.out _ _ ?_; clear hK K) | (refine iteI (fun h => hK.out _ _ ?_) (fun h => hK.out _ _ ?_) <;> clear hK K)))
    simp only [resultsR, resultsL, resultA, expK_int, expK_bool, expK_str, expK_agg, expK_own, expK_tsl, resK_some, go_sem, reduceIte, Nat.reduceAdd, Nat.reduceEqDiff, Nat.reduceLT, Nat.reduceLeDiff, and_self, ]
    exact ⟨false, rfl, fun e => by cases e⟩
  by_cases k2 : 6 < (gs.length : Int)
  · refine EvV.walk rfl fn16 rfl nt16 rfl ?_
    simp only [List.length_cons, List.length_nil, List.cons_append, List.nil_append, Nat.reduceAdd, Nat.reduceSub, List.replicate]
    repeat' (first | refine go1 ?_ | refine blockK_else rfl ?_ | (refine wpC_cond fun A B hA hB => ?_; simp only [go_sem, reduceIte, Nat.reduceAdd, Nat.reduceEqDiff, Nat.reduceLT, Nat.reduceLeDiff, *, and_self, getElem?_len, getElem?_lenAdd, set_len, set_lenAdd, len_mid, ints_len, List.length_map, lt_mid, List.nil_append, List.cons_append, encG, List.getElem?_cons_succ, cv, cw, lenK_sls hw, lenK_sls h.sl]; first | (refine hA.out ?_; clear hA hB A B) | (refine hB.out ?_; clear hA hB A B) | (refine iteI (fun h => hA.out ?_) (fun h => hB.out ?_) <;> clear hA hB A B) | (refine iteI (fun h => hB.out ?_) (fun h => hA.out ?_) <;> clear hA hB A B)) | (refine wpO_cons fun K hK => ?_; simp only [go_sem, reduceIte, Nat.reduceAdd, Nat.reduceEqDiff, Nat.reduceLT, Nat.reduceLeDiff, *, and_self, getElem?_len, getElem?_lenAdd, set_len, set_lenAdd, len_mid, ints_len, List.length_map, lt_mid, List.nil_append, List.cons_append, encG, List.getElem?_cons_succ, cv, cw, lenK_sls hw, lenK_sls h.sl]; first | (refine hK.out _ _ ?_; clear hK K) | (refine iteI (fun h => hK.out _ _ ?_) (fun h => hK.out _ _ ?_) <;> clear hK K)))
    simp only [resultsR, resultsL, resultA, expK_int, expK_bool, expK_str, expK_agg, expK_own, expK_tsl, resK_some, go_sem, reduceIte, Nat.reduceAdd, Nat.reduceEqDiff, Nat.reduceLT, Nat.reduceLeDiff, and_self, ]
    exact ⟨false, rfl, fun e => by cases e⟩
  have qp := (peopleR hw (by omega) hpn).rw
  refine EvV.walk rfl fn16 rfl nt16 rfl ?_
  simp only [List.length_cons, List.length_nil, List.cons_append, List.nil_append, Nat.reduceAdd, Nat.reduceSub, List.replicate]
  repeat' (first | refine go1 ?_ | refine blockK_else rfl ?_ | (refine wpC_cond fun A B hA hB => ?_; simp only [go_sem, reduceIte, Nat.reduceAdd, Nat.reduceEqDiff, Nat.reduceLT, Nat.reduceLeDiff, *, and_self, getElem?_len, getElem?_lenAdd, set_len, set_lenAdd, len_mid, ints_len, List.length_map, lt_mid, List.nil_append, List.cons_append, encG, List.getElem?_cons_succ, cv, cw, lenK_sls hw, lenK_sls h.sl]; first | (refine hA.out ?_; clear hA hB A B) | (refine hB.out ?_; clear hA hB A B) | (refine iteI (fun h => hA.out ?_) (fun h => hB.out ?_) <;> clear hA hB A B) | (refine iteI (fun h => hB.out ?_) (fun h => hA.out ?_) <;> clear hA hB A B)) | (refine wpO_cons fun K hK => ?_; simp only [go_sem, reduceIte, Nat.reduceAdd, Nat.reduceEqDiff, Nat.reduceLT, Nat.reduceLeDiff, *, and_self, getElem?_len, getElem?_lenAdd, set_len, set_lenAdd, len_mid, ints_len, List.length_map, lt_mid, List.nil_append, List.cons_append, encG, List.getElem?_cons_succ, cv, cw, lenK_sls hw, lenK_sls h.sl]; first | (refine hK.out _ _ ?_; clear hK K) | (refine iteI (fun h => hK.out _ _ ?_) (fun h => hK.out _ _ ?_) <;> clear hK K)))
  refine wpC_each [2, 14, 15, 16, 17, 18, 19, 20, 21, 22, 23, 24, 25, 26, 27, 28, 29, 30, 31, 32, 33, 34, 35, 36, 37, 38] 3 gs (fun pre _ => ∀ g ∈ pre, g.people.length ≤ 8 ∧ g.subs.length ≤ 6) ?_ ?_ ?_ ?_
  · intro p hp; cases hp
  · rfl
  · intro g G hP
    simp only [garbA_cons, garbA_nil, setL_cons, setL_nil, List.set_cons_zero, List.set_cons_succ]
    have hG : GsOK v gs := ⟨h.sl, h.ok, h.st, by omega, fun g hg => by have := (hP g hg).2; omega, fun g hg => by have := (hP g hg).1; omega⟩
    have q2 := (checkR hG hw (by omega) hgn).rw
    have hP' : Hold (∀ g ∈ gs, g.people.length ≤ 8 ∧ g.subs.length ≤ 6) := ⟨hP⟩
    clear hP
    obtain ⟨c, hc⟩ : ∃ c, chkG ps gs = c := ⟨_, rfl⟩
    rw [hc] at q2
    have hhc : Hold (chkG ps gs = c) := ⟨hc⟩
    clear hc
    obtain ⟨d, hd⟩ : ∃ d, pplF ps = d := ⟨_, rfl⟩
    rw [hd] at qp
    have hhd : Hold (pplF ps = d) := ⟨hd⟩
    clear hd
    by_cases z1 : d = 0
    · subst z1
      have y1 : ((0 : Int) == 0) = true := rfl
      by_cases z2 : c = 0
      · subst z2
        repeat' (first | refine go1 ?_ | refine blockK_else rfl ?_ | (refine wpC_cond fun A B hA hB => ?_; simp only [go_sem, reduceIte, Nat.reduceAdd, Nat.reduceEqDiff, Nat.reduceLT, Nat.reduceLeDiff, *, and_self, getElem?_len, getElem?_lenAdd, set_len, set_lenAdd, len_mid, ints_len, List.length_map, lt_mid, List.nil_append, List.cons_append, encG, List.getElem?_cons_succ, lenK_sls h.sl, Int.lt_irrefl, hvs, hws, qp, q2, y1, adopt_int]; first | (refine hA.out ?_; clear hA hB A B) | (refine hB.out ?_; clear hA hB A B) | (refine iteI (fun h => hA.out ?_) (fun h => hB.out ?_) <;> clear hA hB A B) | (refine iteI (fun h => hB.out ?_) (fun h => hA.out ?_) <;> clear hA hB A B)) | (refine wpO_cons fun K hK => ?_; simp only [go_sem, reduceIte, Nat.reduceAdd, Nat.reduceEqDiff, Nat.reduceLT, Nat.reduceLeDiff, *, and_self, getElem?_len, getElem?_lenAdd, set_len, set_lenAdd, len_mid, ints_len, List.length_map, lt_mid, List.nil_append, List.cons_append, encG, List.getElem?_cons_succ, lenK_sls h.sl, Int.lt_irrefl, hvs, hws, qp, q2, y1, adopt_int]; first | (refine hK.out _ _ ?_; clear hK K) | (refine iteI (fun h => hK.out _ _ ?_) (fun h => hK.out _ _ ?_) <;> clear hK K)))
        simp only [resultsR, resultsL, resultA, expK_int, expK_bool, expK_str, expK_agg, expK_own, expK_tsl, resK_some, go_sem, reduceIte, Nat.reduceAdd, Nat.reduceEqDiff, Nat.reduceLT, Nat.reduceLeDiff, and_self, ]
        exact ⟨true, rfl, fun _ => ⟨by omega, by omega, hP'.out, hhc.out, hhd.out⟩⟩
      · have y2 : (c == 0) = false := by simpa using z2
        clear z2
        repeat' (first | refine go1 ?_ | refine blockK_else rfl ?_ | (refine wpC_cond fun A B hA hB => ?_; simp only [go_sem, reduceIte, Nat.reduceAdd, Nat.reduceEqDiff, Nat.reduceLT, Nat.reduceLeDiff, *, and_self, getElem?_len, getElem?_lenAdd, set_len, set_lenAdd, len_mid, ints_len, List.length_map, lt_mid, List.nil_append, List.cons_append, encG, List.getElem?_cons_succ, lenK_sls h.sl, Int.lt_irrefl, hvs, hws, qp, q2, y1, y2, adopt_int]; first | (refine hA.out ?_; clear hA hB A B) | (refine hB.out ?_; clear hA hB A B) | (refine iteI (fun h => hA.out ?_) (fun h => hB.out ?_) <;> clear hA hB A B) | (refine iteI (fun h => hB.out ?_) (fun h => hA.out ?_) <;> clear hA hB A B)) | (refine wpO_cons fun K hK => ?_; simp only [go_sem, reduceIte, Nat.reduceAdd, Nat.reduceEqDiff, Nat.reduceLT, Nat.reduceLeDiff, *, and_self, getElem?_len, getElem?_lenAdd, set_len, set_lenAdd, len_mid, ints_len, List.length_map, lt_mid, List.nil_append, List.cons_append, encG, List.getElem?_cons_succ, lenK_sls h.sl, Int.lt_irrefl, hvs, hws, qp, q2, y1, y2, adopt_int]; first | (refine hK.out _ _ ?_; clear hK K) | (refine iteI (fun h => hK.out _ _ ?_) (fun h => hK.out _ _ ?_) <;> clear hK K)))
        simp only [resultsR, resultsL, resultA, expK_int, expK_bool, expK_str, expK_agg, expK_own, expK_tsl, resK_some, go_sem, reduceIte, Nat.reduceAdd, Nat.reduceEqDiff, Nat.reduceLT, Nat.reduceLeDiff, and_self, ]
        exact ⟨false, rfl, fun e => by cases e⟩
    · have y1 : (d == 0) = false := by simpa using z1
      clear z1
      repeat' (first | refine go1 ?_ | refine blockK_else rfl ?_ | (refine wpC_cond fun A B hA hB => ?_; simp only [go_sem, reduceIte, Nat.reduceAdd, Nat.reduceEqDiff, Nat.reduceLT, Nat.reduceLeDiff, *, and_self, getElem?_len, getElem?_lenAdd, set_len, set_lenAdd, len_mid, ints_len, List.length_map, lt_mid, List.nil_append, List.cons_append, encG, List.getElem?_cons_succ, lenK_sls h.sl, Int.lt_irrefl, hvs, hws, qp, y1, adopt_int]; first | (refine hA.out ?_; clear hA hB A B) | (refine hB.out ?_; clear hA hB A B) | (refine iteI (fun h => hA.out ?_) (fun h => hB.out ?_) <;> clear hA hB A B) | (refine iteI (fun h => hB.out ?_) (fun h => hA.out ?_) <;> clear hA hB A B)) | (refine wpO_cons fun K hK => ?_; simp only [go_sem, reduceIte, Nat.reduceAdd, Nat.reduceEqDiff, Nat.reduceLT, Nat.reduceLeDiff, *, and_self, getElem?_len, getElem?_lenAdd, set_len, set_lenAdd, len_mid, ints_len, List.length_map, lt_mid, List.nil_append, List.cons_append, encG, List.getElem?_cons_succ, lenK_sls h.sl, Int.lt_irrefl, hvs, hws, qp, y1, adopt_int]; first | (refine hK.out _ _ ?_; clear hK K) | (refine iteI (fun h => hK.out _ _ ?_) (fun h => hK.out _ _ ?_) <;> clear hK K)))
      simp only [resultsR, resultsL, resultA, expK_int, expK_bool, expK_str, expK_agg, expK_own, expK_tsl, resK_some, go_sem, reduceIte, Nat.reduceAdd, Nat.reduceEqDiff, Nat.reduceLT, Nat.reduceLeDiff, and_self, ]
      exact ⟨false, rfl, fun e => by cases e⟩
  · intro g G pre x post h1 hP
    simp only [garbA_cons, garbA_nil, setL_cons, setL_nil, List.set_cons_zero, List.set_cons_succ]
    have lt1 : (pre.length : Int) < (gs.length : Int) := by rw [h1]; simp; omega
    have i0 := idx_sls h.sl (X := CX) ty22 ty53 rfl (n := pre.length) (row := encG x) (k := .i64) (map_at encG h1)
    have hx := h.ok x (by rw [h1]; simp)
    have hpl : pre.length < gs.length := by rw [h1]; simp
    have w1 := wrap_succ (n := pre.length) (by omega)
    have l1 := fun {a c} {b} {d} {el} => lenK_sls (a := a) (c := c) (b := b) (d := d) (el := el) hx.pv
    have l2 := fun {a c} {b} {d} {el} => lenK_sls (a := a) (c := c) (b := b) (d := d) (el := el) hx.sv
    have hP' : Hold (gs = pre ++ x :: post ∧ ∀ g ∈ pre, g.people.length ≤ 8 ∧ g.subs.length ≤ 6) := ⟨h1, hP⟩
    clear hP h1 qp hpl
    by_cases hs1 : 8 < (x.people.length : Int)
    · repeat' (first | refine go1 ?_ | refine blockK_else rfl ?_ | (refine wpC_cond fun A B hA hB => ?_; simp only [go_sem, reduceIte, Nat.reduceAdd, Nat.reduceEqDiff, Nat.reduceLT, Nat.reduceLeDiff, *, and_self, getElem?_len, getElem?_lenAdd, set_len, set_lenAdd, len_mid, ints_len, List.length_map, lt_mid, List.nil_append, List.cons_append, encG, List.getElem?_cons_succ, lenK_sls h.sl, i0, lt1, l1, l2]; first | (refine hA.out ?_; clear hA hB A B) | (refine hB.out ?_; clear hA hB A B) | (refine iteI (fun h => hA.out ?_) (fun h => hB.out ?_) <;> clear hA hB A B) | (refine iteI (fun h => hB.out ?_) (fun h => hA.out ?_) <;> clear hA hB A B)) | (refine wpO_cons fun K hK => ?_; simp only [go_sem, reduceIte, Nat.reduceAdd, Nat.reduceEqDiff, Nat.reduceLT, Nat.reduceLeDiff, *, and_self, getElem?_len, getElem?_lenAdd, set_len, set_lenAdd, len_mid, ints_len, List.length_map, lt_mid, List.nil_append, List.cons_append, encG, List.getElem?_cons_succ, lenK_sls h.sl, i0, lt1, l1, l2]; first | (refine hK.out _ _ ?_; clear hK K) | (refine iteI (fun h => hK.out _ _ ?_) (fun h => hK.out _ _ ?_) <;> clear hK K)))
      simp only [resultsR, resultsL, resultA, expK_int, expK_bool, expK_str, expK_agg, expK_own, expK_tsl, resK_some, go_sem, reduceIte, Nat.reduceAdd, Nat.reduceEqDiff, Nat.reduceLT, Nat.reduceLeDiff, and_self, ]
      exact ⟨false, rfl, fun e => by cases e⟩
    by_cases hs2 : 6 < (x.subs.length : Int)
    · repeat' (first | refine go1 ?_ | refine blockK_else rfl ?_ | (refine wpC_cond fun A B hA hB => ?_; simp only [go_sem, reduceIte, Nat.reduceAdd, Nat.reduceEqDiff, Nat.reduceLT, Nat.reduceLeDiff, *, and_self, getElem?_len, getElem?_lenAdd, set_len, set_lenAdd, len_mid, ints_len, List.length_map, lt_mid, List.nil_append, List.cons_append, encG, List.getElem?_cons_succ, lenK_sls h.sl, i0, lt1, l1, l2]; first | (refine hA.out ?_; clear hA hB A B) | (refine hB.out ?_; clear hA hB A B) | (refine iteI (fun h => hA.out ?_) (fun h => hB.out ?_) <;> clear hA hB A B) | (refine iteI (fun h => hB.out ?_) (fun h => hA.out ?_) <;> clear hA hB A B)) | (refine wpO_cons fun K hK => ?_; simp only [go_sem, reduceIte, Nat.reduceAdd, Nat.reduceEqDiff, Nat.reduceLT, Nat.reduceLeDiff, *, and_self, getElem?_len, getElem?_lenAdd, set_len, set_lenAdd, len_mid, ints_len, List.length_map, lt_mid, List.nil_append, List.cons_append, encG, List.getElem?_cons_succ, lenK_sls h.sl, i0, lt1, l1, l2]; first | (refine hK.out _ _ ?_; clear hK K) | (refine iteI (fun h => hK.out _ _ ?_) (fun h => hK.out _ _ ?_) <;> clear hK K)))
      simp only [resultsR, resultsL, resultA, expK_int, expK_bool, expK_str, expK_agg, expK_own, expK_tsl, resK_some, go_sem, reduceIte, Nat.reduceAdd, Nat.reduceEqDiff, Nat.reduceLT, Nat.reduceLeDiff, and_self, ]
      exact ⟨false, rfl, fun e => by cases e⟩
    · repeat' (first | refine go1 ?_ | refine blockK_else rfl ?_ | (refine wpC_cond fun A B hA hB => ?_; simp only [go_sem, reduceIte, Nat.reduceAdd, Nat.reduceEqDiff, Nat.reduceLT, Nat.reduceLeDiff, *, and_self, getElem?_len, getElem?_lenAdd, set_len, set_lenAdd, len_mid, ints_len, List.length_map, lt_mid, List.nil_append, List.cons_append, encG, List.getElem?_cons_succ, lenK_sls h.sl, i0, lt1, l1, l2, w1]; first | (refine hA.out ?_; clear hA hB A B) | (refine hB.out ?_; clear hA hB A B) | (refine iteI (fun h => hA.out ?_) (fun h => hB.out ?_) <;> clear hA hB A B) | (refine iteI (fun h => hB.out ?_) (fun h => hA.out ?_) <;> clear hA hB A B)) | (refine wpO_cons fun K hK => ?_; simp only [go_sem, reduceIte, Nat.reduceAdd, Nat.reduceEqDiff, Nat.reduceLT, Nat.reduceLeDiff, *, and_self, getElem?_len, getElem?_lenAdd, set_len, set_lenAdd, len_mid, ints_len, List.length_map, lt_mid, List.nil_append, List.cons_append, encG, List.getElem?_cons_succ, lenK_sls h.sl, i0, lt1, l1, l2, w1]; first | (refine hK.out _ _ ?_; clear hK K) | (refine iteI (fun h => hK.out _ _ ?_) (fun h => hK.out _ _ ?_) <;> clear hK K)))
      refine each_next hP'.out.1 ?_ ?_ ?_
      · intro p hp
        rcases List.mem_append.mp hp with hp | hp
        · exact hP'.out.2 p hp
        · have := List.mem_singleton.mp hp; subst this; omega
      · ((try simp only [eraseA_cons, eraseA_nil, setL_cons, setL_nil, List.set_cons_zero, List.set_cons_succ]); all_goals (first | rfl | (simp only [len_snoc, ints_len, List.length_map, ]; done) | (simp only [len_snoc, len_mid, ints_len, List.length_map, List.length_append, List.length_cons, List.length_nil, Nat.zero_add, ]; done) | (simp only [len_mid, len_snoc, ints_len, List.length_map, List.length_append, List.length_cons, List.length_nil, Nat.zero_add, ]; rfl)))
      · first | exact ⟨[], (List.append_nil _).symm⟩ | exact ⟨_, rfl⟩ | (simp only [List.append_assoc, List.cons_append, List.nil_append]; exact ⟨_, rfl⟩)

/- Protocols: the laws May, Implies, Embargo, Levels as runs. -/
open Go.Proofs
attribute [local go_sem] ty25 ty35 br12 br14 br15 br16 br17 br18 fz48 fz49 fz50 ty44 br21 fz19 fz20 fz21 fz22 fz61 fz62
set_option maxHeartbeats 4000000

theorem checkF_lv {gs : List Grp} {lv un : Int} {gl : List Int} (h : checkF gs lv gl un = 0) : 0 ≤ lv ∧ lv ≤ 3 ∧ listedF gs [] gl = 0 := by
  unfold checkF at h
  repeat' split at h
  all_goals first | exact absurd h (by decide) | skip
  all_goals first
    | (refine ⟨by omega, by omega, ?_⟩; omega)
    | skip
  all_goals (rename_i h1 _ _ h4 _; exact absurd h h4)
theorem listed_up {gs : List Grp} : ∀ {l pre : List Int}, listedF gs pre l = 0 → UpL l ∧ (∀ n ∈ l, known gs n = true) ∧ ∀ n ∈ l, pre = [] ∨ pre.getLastD 0 < n
  | [], _, _ => ⟨up_nil, by simp, by simp⟩
  | n :: l, pre, h => by
    unfold listedF at h
    split at h
    · cases h
    · rename_i h1
      split at h
      · rename_i h2
        obtain ⟨i1, i2, i3⟩ := listed_up h
        have hl : (pre ++ [n]).getLastD 0 = n := by simp
        have hlt : ∀ m ∈ l, n < m := fun m hm => by
          rcases i3 m hm with e | e
          · simp at e
          · rw [hl] at e; exact e
        have hp : pre = [] ∨ pre.getLastD 0 < n := by
          by_cases hp : pre = []
          · exact .inl hp
          · right
            have : (0 : Int) < (pre.length : Int) := by have := List.length_pos_iff.mpr hp; omega
            apply Classical.byContradiction
            intro hn
            exact h1 ⟨this, by omega⟩
        refine ⟨List.pairwise_cons.mpr ⟨hlt, i1⟩, ?_, ?_⟩
        · intro m hm
          rcases List.mem_cons.mp hm with e | e
          · subst e; exact h2
          · exact i2 m e
        · intro m hm
          rcases List.mem_cons.mp hm with e | e
          · subst e; exact hp
          · rcases hp with hp | hp
            · exact .inl hp
            · have := hlt m e; right; omega
      · cases h
theorem known_isG (gs : List Grp) (n : Int) : known gs n = isG gs n := by
  unfold known isG gFind
  rw [Bool.eq_iff_iff, List.any_eq_true, List.find?_isSome]
theorem checkF_len {gs : List Grp} {lv un : Int} {gl : List Int} (h : checkF gs lv gl un = 0) : gl.length ≤ gs.length := by
  obtain ⟨_, _, h3⟩ := checkF_lv h
  obtain ⟨h4, h5, _⟩ := listed_up h3
  have := nodup_len (up_nodup h4) (k := gs.map (·.id)) fun x hx => isG_mem.mp (by rw [← known_isG]; exact h5 x hx)
  simpa using this

theorem lawMay {v w : AV} {gs : List Grp} {ps : List Psn} (h : GsV v gs) (hw : SLs 3 (ps.map encP) w) (hpn : ∀ p ∈ ps, p.name.size ≤ 1048576) (hgn : ∀ g ∈ gs, g.name.size ≤ 1048576) (hgs : gs.length ≤ 1048576)
    {pg : AV} {gl : List Int} (hp : SLs 1 (ints gl) pg) (hgl : gl.length ≤ 1048576) (lv un pe day : Int) :
    EvV CX 4 [.agg [w, v], .agg [.int .i64 lv, pg, .int .i64 un], .agg [.int .i64 pe, .int .i64 day]] (· = .bool true) := by
  have hvs := fun S => h.sl.snap (S := S)
  have hws := hw.snap
  have cv := h.sl.cell
  have cw := hw.cell
  have c1 := hp.cell
  have s1 := hp.snap
  have qa := awake.rw
  obtain ⟨r, ⟨b, rfl, hb⟩, hq⟩ := (right44 h hw hpn hgn).ex
  have q := hq.rw
  have qc := (check15 v pg gs lv un gl h.sl hp (by omega) (by omega)).rw
  clear hq
  cases b with
  | false =>
    refine EvV.walk rfl fn4 rfl nt4 rfl ?_
    simp only [List.length_cons, List.length_nil, List.cons_append, List.nil_append, Nat.reduceAdd, Nat.reduceSub, List.replicate]
    repeat' (first | refine go1 ?_ | refine blockK_else rfl ?_ | (refine wpC_cond fun A B hA hB => ?_; simp only [go_sem, reduceIte, Nat.reduceAdd, Nat.reduceEqDiff, Nat.reduceLT, Nat.reduceLeDiff, *, and_self, hws, hvs, cv, cw, getElem?_len, getElem?_lenAdd, set_len, set_lenAdd, len_mid, ints_len, List.length_map, lt_mid, List.nil_append, List.cons_append, adopt_int, adopt_bool, adopt_two, adopt_agg, encP, List.getElem?_cons_succ, snap_str, c1, s1, q, qa]; first | (refine hA.out ?_; clear hA hB A B) | (refine hB.out ?_; clear hA hB A B) | (refine iteI (fun h => hA.out ?_) (fun h => hB.out ?_) <;> clear hA hB A B) | (refine iteI (fun h => hB.out ?_) (fun h => hA.out ?_) <;> clear hA hB A B)) | (refine wpO_cons fun K hK => ?_; simp only [go_sem, reduceIte, Nat.reduceAdd, Nat.reduceEqDiff, Nat.reduceLT, Nat.reduceLeDiff, *, and_self, hws, hvs, cv, cw, getElem?_len, getElem?_lenAdd, set_len, set_lenAdd, len_mid, ints_len, List.length_map, lt_mid, List.nil_append, List.cons_append, adopt_int, adopt_bool, adopt_two, adopt_agg, encP, List.getElem?_cons_succ, snap_str, c1, s1, q, qa]; first | (refine hK.out _ _ ?_; clear hK K) | (refine iteI (fun h => hK.out _ _ ?_) (fun h => hK.out _ _ ?_) <;> clear hK K)))
    simp only [resultsR, resultsL, resultA, expK_int, expK_bool, expK_str, expK_agg, expK_own, expK_tsl, resK_some, go_sem, reduceIte, Nat.reduceAdd, Nat.reduceEqDiff, Nat.reduceLT, Nat.reduceLeDiff, and_self, ]
  | true =>
  have hr := hb rfl
  clear hb
  have hg := hr.ok h
  by_cases k : checkF gs lv gl un = 0
  · obtain ⟨l0, l3, _⟩ := checkF_lv k
    have hlen := checkF_len k
    have hl := hr.gl
    have hpl := hr.pl
    rw [k] at qc
    have z : ((0 : Int) == 0) = true := rfl
    have q1 := (copy44 pg lv un gl hp (by omega)).rw
    have q2 := (mayE hg hw (by omega) (.rows true) (pg := .tsl true 1 (ints gl)) (gl := gl) (by omega) lv un pe day).rw
    have q3 := (mayR hg hw (by omega) hp (by omega) lv un pe day).rw
    rw [mayG_eq (chk_clo hr.chk) l0 l3] at q3
    generalize mayF ps gs lv gl un pe day = M at *
    have zM : (M == M) = true := by simp
    clear k l0 l3 hlen hl hpl hg hr
    refine EvV.walk rfl fn4 rfl nt4 rfl ?_
    simp only [List.length_cons, List.length_nil, List.cons_append, List.nil_append, Nat.reduceAdd, Nat.reduceSub, List.replicate]
    repeat' (first | refine go1 ?_ | refine blockK_else rfl ?_ | (refine wpC_cond fun A B hA hB => ?_; simp only [go_sem, reduceIte, Nat.reduceAdd, Nat.reduceEqDiff, Nat.reduceLT, Nat.reduceLeDiff, *, and_self, hws, hvs, cv, cw, getElem?_len, getElem?_lenAdd, set_len, set_lenAdd, len_mid, ints_len, List.length_map, lt_mid, List.nil_append, List.cons_append, adopt_int, adopt_bool, adopt_two, adopt_agg, encP, List.getElem?_cons_succ, snap_str, c1, s1, q, qa, qc, z, q1, q2, q3, zM]; first | (refine hA.out ?_; clear hA hB A B) | (refine hB.out ?_; clear hA hB A B) | (refine iteI (fun h => hA.out ?_) (fun h => hB.out ?_) <;> clear hA hB A B) | (refine iteI (fun h => hB.out ?_) (fun h => hA.out ?_) <;> clear hA hB A B)) | (refine wpO_cons fun K hK => ?_; simp only [go_sem, reduceIte, Nat.reduceAdd, Nat.reduceEqDiff, Nat.reduceLT, Nat.reduceLeDiff, *, and_self, hws, hvs, cv, cw, getElem?_len, getElem?_lenAdd, set_len, set_lenAdd, len_mid, ints_len, List.length_map, lt_mid, List.nil_append, List.cons_append, adopt_int, adopt_bool, adopt_two, adopt_agg, encP, List.getElem?_cons_succ, snap_str, c1, s1, q, qa, qc, z, q1, q2, q3, zM]; first | (refine hK.out _ _ ?_; clear hK K) | (refine iteI (fun h => hK.out _ _ ?_) (fun h => hK.out _ _ ?_) <;> clear hK K)))
    simp only [resultsR, resultsL, resultA, expK_int, expK_bool, expK_str, expK_agg, expK_own, expK_tsl, resK_some, go_sem, reduceIte, Nat.reduceAdd, Nat.reduceEqDiff, Nat.reduceLT, Nat.reduceLeDiff, and_self, ]
  · obtain ⟨c, hc⟩ : ∃ c, checkF gs lv gl un = c := ⟨_, rfl⟩
    rw [hc] at qc k
    have z : (c == 0) = false := by simpa using k
    clear hc k
    refine EvV.walk rfl fn4 rfl nt4 rfl ?_
    simp only [List.length_cons, List.length_nil, List.cons_append, List.nil_append, Nat.reduceAdd, Nat.reduceSub, List.replicate]
    repeat' (first | refine go1 ?_ | refine blockK_else rfl ?_ | (refine wpC_cond fun A B hA hB => ?_; simp only [go_sem, reduceIte, Nat.reduceAdd, Nat.reduceEqDiff, Nat.reduceLT, Nat.reduceLeDiff, *, and_self, hws, hvs, cv, cw, getElem?_len, getElem?_lenAdd, set_len, set_lenAdd, len_mid, ints_len, List.length_map, lt_mid, List.nil_append, List.cons_append, adopt_int, adopt_bool, adopt_two, adopt_agg, encP, List.getElem?_cons_succ, snap_str, c1, s1, q, qa, qc, z]; first | (refine hA.out ?_; clear hA hB A B) | (refine hB.out ?_; clear hA hB A B) | (refine iteI (fun h => hA.out ?_) (fun h => hB.out ?_) <;> clear hA hB A B) | (refine iteI (fun h => hB.out ?_) (fun h => hA.out ?_) <;> clear hA hB A B)) | (refine wpO_cons fun K hK => ?_; simp only [go_sem, reduceIte, Nat.reduceAdd, Nat.reduceEqDiff, Nat.reduceLT, Nat.reduceLeDiff, *, and_self, hws, hvs, cv, cw, getElem?_len, getElem?_lenAdd, set_len, set_lenAdd, len_mid, ints_len, List.length_map, lt_mid, List.nil_append, List.cons_append, adopt_int, adopt_bool, adopt_two, adopt_agg, encP, List.getElem?_cons_succ, snap_str, c1, s1, q, qa, qc, z]; first | (refine hK.out _ _ ?_; clear hK K) | (refine iteI (fun h => hK.out _ _ ?_) (fun h => hK.out _ _ ?_) <;> clear hK K)))
    simp only [resultsR, resultsL, resultA, expK_int, expK_bool, expK_str, expK_agg, expK_own, expK_tsl, resK_some, go_sem, reduceIte, Nat.reduceAdd, Nat.reduceEqDiff, Nat.reduceLT, Nat.reduceLeDiff, and_self, ]

theorem may_mono {ps : List Psn} {gs : List Grp} {l1 u1 l2 u2 pe day : Int} {g1 g2 : List Int} (h : widerF l1 g1 u1 l2 g2 u2 = true) (h0 : 0 ≤ l1) (h3 : l1 ≤ 3) (hm : mayF ps gs l2 g2 u2 pe day = true) : mayF ps gs l1 g1 u1 pe day = true := by
  unfold widerF at h
  unfold mayF at hm ⊢
  split at h
  · cases h
  rename_i hu
  split at hm
  · cases hm
  rename_i hd
  rw [if_neg (by omega)]
  split at h
  · rename_i e; subst e; simp
  split at h
  · rename_i e
    subst e
    simp at hm
  split at h
  · cases h
  rename_i e1 e2 e3
  have e : l1 = l2 := Classical.not_not.mp e3
  subst e
  split at h
  · rename_i e; subst e; exact hm
  split at h
  · rename_i e
    subst e
    simp only [if_true] at hm ⊢
    rw [List.any_eq_true] at hm ⊢
    obtain ⟨x, hx, hc⟩ := hm
    rw [List.all_eq_true] at h
    exact ⟨x, by simpa using h x hx, hc⟩
  · cases h
theorem wider_self (l : Int) (g : List Int) (u : Int) (h0 : 0 ≤ l) (h3 : l ≤ 3) : widerF l g u l g u = true := by
  unfold widerF
  have : l = 0 ∨ l = 1 ∨ l = 2 ∨ l = 3 := by omega
  rcases this with e | e | e | e <;> subst e <;> simp

theorem lawImplies {v w : AV} {gs : List Grp} {ps : List Psn} (h : GsV v gs) (hw : SLs 3 (ps.map encP) w) (hpn : ∀ p ∈ ps, p.name.size ≤ 1048576) (hgn : ∀ g ∈ gs, g.name.size ≤ 1048576) (hgs : gs.length ≤ 1048576)
    {pg pg2 : AV} {gl gl2 : List Int} (hp : SLs 1 (ints gl) pg) (hgl : gl.length ≤ 1048576) (hp2 : SLs 1 (ints gl2) pg2) (hgl2 : gl2.length ≤ 1048576) (lv un lv2 un2 pe day : Int) :
    EvV CX 8 [.agg [w, v], .agg [.int .i64 lv, pg, .int .i64 un, .int .i64 lv2, pg2, .int .i64 un2], .agg [.int .i64 pe, .int .i64 day]] (· = .bool true) := by
  have hvs := fun S => h.sl.snap (S := S)
  have hws := hw.snap
  have cv := h.sl.cell
  have cw := hw.cell
  have c1 := hp.cell
  have s1 := hp.snap
  have c2 := hp2.cell
  have s2 := hp2.snap
  have qa := awake.rw
  obtain ⟨r, ⟨b, rfl, hb⟩, hq⟩ := (right44 h hw hpn hgn).ex
  have q := hq.rw
  have qc := (check15 v pg gs lv un gl h.sl hp (by omega) (by omega)).rw
  have qc2 := (check15 v pg2 gs lv2 un2 gl2 h.sl hp2 (by omega) (by omega)).rw
  clear hq
  cases b with
  | false =>
    refine EvV.walk rfl fn8 rfl nt8 rfl ?_
    simp only [List.length_cons, List.length_nil, List.cons_append, List.nil_append, Nat.reduceAdd, Nat.reduceSub, List.replicate]
    repeat' (first | refine go1 ?_ | refine blockK_else rfl ?_ | (refine wpC_cond fun A B hA hB => ?_; simp only [go_sem, reduceIte, Nat.reduceAdd, Nat.reduceEqDiff, Nat.reduceLT, Nat.reduceLeDiff, *, and_self, hws, hvs, cv, cw, getElem?_len, getElem?_lenAdd, set_len, set_lenAdd, len_mid, ints_len, List.length_map, lt_mid, List.nil_append, List.cons_append, adopt_int, adopt_bool, adopt_two, adopt_agg, encP, List.getElem?_cons_succ, snap_str, c1, s1, c2, s2, q, qa]; first | (refine hA.out ?_; clear hA hB A B) | (refine hB.out ?_; clear hA hB A B) | (refine iteI (fun h => hA.out ?_) (fun h => hB.out ?_) <;> clear hA hB A B) | (refine iteI (fun h => hB.out ?_) (fun h => hA.out ?_) <;> clear hA hB A B)) | (refine wpO_cons fun K hK => ?_; simp only [go_sem, reduceIte, Nat.reduceAdd, Nat.reduceEqDiff, Nat.reduceLT, Nat.reduceLeDiff, *, and_self, hws, hvs, cv, cw, getElem?_len, getElem?_lenAdd, set_len, set_lenAdd, len_mid, ints_len, List.length_map, lt_mid, List.nil_append, List.cons_append, adopt_int, adopt_bool, adopt_two, adopt_agg, encP, List.getElem?_cons_succ, snap_str, c1, s1, c2, s2, q, qa]; first | (refine hK.out _ _ ?_; clear hK K) | (refine iteI (fun h => hK.out _ _ ?_) (fun h => hK.out _ _ ?_) <;> clear hK K)))
    simp only [resultsR, resultsL, resultA, expK_int, expK_bool, expK_str, expK_agg, expK_own, expK_tsl, resK_some, go_sem, reduceIte, Nat.reduceAdd, Nat.reduceEqDiff, Nat.reduceLT, Nat.reduceLeDiff, and_self, ]
  | true =>
  have hr := hb rfl
  clear hb
  have hg := hr.ok h
  by_cases k : checkF gs lv gl un = 0
  rotate_left
  · obtain ⟨c, hc⟩ : ∃ c, checkF gs lv gl un = c := ⟨_, rfl⟩
    rw [hc] at qc k
    have z : (c == 0) = false := by simpa using k
    clear hc k
    refine EvV.walk rfl fn8 rfl nt8 rfl ?_
    simp only [List.length_cons, List.length_nil, List.cons_append, List.nil_append, Nat.reduceAdd, Nat.reduceSub, List.replicate]
    repeat' (first | refine go1 ?_ | refine blockK_else rfl ?_ | (refine wpC_cond fun A B hA hB => ?_; simp only [go_sem, reduceIte, Nat.reduceAdd, Nat.reduceEqDiff, Nat.reduceLT, Nat.reduceLeDiff, *, and_self, hws, hvs, cv, cw, getElem?_len, getElem?_lenAdd, set_len, set_lenAdd, len_mid, ints_len, List.length_map, lt_mid, List.nil_append, List.cons_append, adopt_int, adopt_bool, adopt_two, adopt_agg, encP, List.getElem?_cons_succ, snap_str, c1, s1, c2, s2, q, qa, qc, z]; first | (refine hA.out ?_; clear hA hB A B) | (refine hB.out ?_; clear hA hB A B) | (refine iteI (fun h => hA.out ?_) (fun h => hB.out ?_) <;> clear hA hB A B) | (refine iteI (fun h => hB.out ?_) (fun h => hA.out ?_) <;> clear hA hB A B)) | (refine wpO_cons fun K hK => ?_; simp only [go_sem, reduceIte, Nat.reduceAdd, Nat.reduceEqDiff, Nat.reduceLT, Nat.reduceLeDiff, *, and_self, hws, hvs, cv, cw, getElem?_len, getElem?_lenAdd, set_len, set_lenAdd, len_mid, ints_len, List.length_map, lt_mid, List.nil_append, List.cons_append, adopt_int, adopt_bool, adopt_two, adopt_agg, encP, List.getElem?_cons_succ, snap_str, c1, s1, c2, s2, q, qa, qc, z]; first | (refine hK.out _ _ ?_; clear hK K) | (refine iteI (fun h => hK.out _ _ ?_) (fun h => hK.out _ _ ?_) <;> clear hK K)))
    simp only [resultsR, resultsL, resultA, expK_int, expK_bool, expK_str, expK_agg, expK_own, expK_tsl, resK_some, go_sem, reduceIte, Nat.reduceAdd, Nat.reduceEqDiff, Nat.reduceLT, Nat.reduceLeDiff, and_self, ]
  have z : ((0 : Int) == 0) = true := rfl
  obtain ⟨l0, l3, _⟩ := checkF_lv k
  have hlen := checkF_len k
  rw [k] at qc
  clear k
  by_cases k : checkF gs lv2 gl2 un2 = 0
  rotate_left
  · obtain ⟨c, hc⟩ : ∃ c, checkF gs lv2 gl2 un2 = c := ⟨_, rfl⟩
    rw [hc] at qc2 k
    have z2 : (c == 0) = false := by simpa using k
    clear hc k
    refine EvV.walk rfl fn8 rfl nt8 rfl ?_
    simp only [List.length_cons, List.length_nil, List.cons_append, List.nil_append, Nat.reduceAdd, Nat.reduceSub, List.replicate]
    repeat' (first | refine go1 ?_ | refine blockK_else rfl ?_ | (refine wpC_cond fun A B hA hB => ?_; simp only [go_sem, reduceIte, Nat.reduceAdd, Nat.reduceEqDiff, Nat.reduceLT, Nat.reduceLeDiff, *, and_self, hws, hvs, cv, cw, getElem?_len, getElem?_lenAdd, set_len, set_lenAdd, len_mid, ints_len, List.length_map, lt_mid, List.nil_append, List.cons_append, adopt_int, adopt_bool, adopt_two, adopt_agg, encP, List.getElem?_cons_succ, snap_str, c1, s1, c2, s2, q, qa, qc, qc2, z, z2]; first | (refine hA.out ?_; clear hA hB A B) | (refine hB.out ?_; clear hA hB A B) | (refine iteI (fun h => hA.out ?_) (fun h => hB.out ?_) <;> clear hA hB A B) | (refine iteI (fun h => hB.out ?_) (fun h => hA.out ?_) <;> clear hA hB A B)) | (refine wpO_cons fun K hK => ?_; simp only [go_sem, reduceIte, Nat.reduceAdd, Nat.reduceEqDiff, Nat.reduceLT, Nat.reduceLeDiff, *, and_self, hws, hvs, cv, cw, getElem?_len, getElem?_lenAdd, set_len, set_lenAdd, len_mid, ints_len, List.length_map, lt_mid, List.nil_append, List.cons_append, adopt_int, adopt_bool, adopt_two, adopt_agg, encP, List.getElem?_cons_succ, snap_str, c1, s1, c2, s2, q, qa, qc, qc2, z, z2]; first | (refine hK.out _ _ ?_; clear hK K) | (refine iteI (fun h => hK.out _ _ ?_) (fun h => hK.out _ _ ?_) <;> clear hK K)))
    simp only [resultsR, resultsL, resultA, expK_int, expK_bool, expK_str, expK_agg, expK_own, expK_tsl, resK_some, go_sem, reduceIte, Nat.reduceAdd, Nat.reduceEqDiff, Nat.reduceLT, Nat.reduceLeDiff, and_self, ]
  have hlen2 := checkF_len k
  rw [k] at qc2
  clear k
  have hl := hr.gl
  have hpl := hr.pl
  have q1 := (copy44 pg lv un gl hp (by omega)).rw
  have q2 := (copy44 pg2 lv2 un2 gl2 hp2 (by omega)).rw
  have q3 := (mayE hg hw (by omega) (.rows true) (pg := .tsl true 1 (ints gl)) (gl := gl) (by omega) lv un pe day).rw
  have q4 := (mayE hg hw (by omega) (.rows true) (pg := .tsl true 1 (ints gl2)) (gl := gl2) (by omega) lv2 un2 pe day).rw
  have q5 := (wider21 (.tsl true 1 (ints gl)) (.tsl true 1 (ints gl)) lv un lv un gl gl (.rows true) (.rows true) (by omega) (by omega)).rw
  have q6 := (wider21 (.tsl true 1 (ints gl)) (.tsl true 1 (ints gl2)) lv un lv2 un2 gl gl2 (.rows true) (.rows true) (by omega) (by omega)).rw
  rw [wider_self lv gl un l0 l3] at q5
  have mm := may_mono (ps := ps) (gs := gs) (l1 := lv) (u1 := un) (l2 := lv2) (u2 := un2) (pe := pe) (day := day) (g1 := gl) (g2 := gl2)
  have hmm : Hold (widerF lv gl un lv2 gl2 un2 = true → mayF ps gs lv2 gl2 un2 pe day = true → mayF ps gs lv gl un pe day = true) := ⟨fun a b => mm a l0 l3 b⟩
  clear mm l0 l3 hlen hlen2 hl hpl hg hr
  generalize mayF ps gs lv2 gl2 un2 pe day = M2 at *
  generalize mayF ps gs lv gl un pe day = M1 at *
  generalize widerF lv gl un lv2 gl2 un2 = W at *
  cases W <;> cases M2 <;> cases M1
  all_goals first
    | (exfalso; have := hmm.out rfl rfl; cases this; done)
    | (refine EvV.walk rfl fn8 rfl nt8 rfl ?_
       simp only [List.length_cons, List.length_nil, List.cons_append, List.nil_append, Nat.reduceAdd, Nat.reduceSub, List.replicate]
       repeat' (first | refine go1 ?_ | refine blockK_else rfl ?_ | (refine wpC_cond fun A B hA hB => ?_; simp only [go_sem, reduceIte, Nat.reduceAdd, Nat.reduceEqDiff, Nat.reduceLT, Nat.reduceLeDiff, *, and_self, hws, hvs, cv, cw, getElem?_len, getElem?_lenAdd, set_len, set_lenAdd, len_mid, ints_len, List.length_map, lt_mid, List.nil_append, List.cons_append, adopt_int, adopt_bool, adopt_two, adopt_agg, encP, List.getElem?_cons_succ, snap_str, c1, s1, c2, s2, q, qa, qc, qc2, z, q1, q2, q3, q4, q5, q6]; first | (refine hA.out ?_; clear hA hB A B) | (refine hB.out ?_; clear hA hB A B) | (refine iteI (fun h => hA.out ?_) (fun h => hB.out ?_) <;> clear hA hB A B) | (refine iteI (fun h => hB.out ?_) (fun h => hA.out ?_) <;> clear hA hB A B)) | (refine wpO_cons fun K hK => ?_; simp only [go_sem, reduceIte, Nat.reduceAdd, Nat.reduceEqDiff, Nat.reduceLT, Nat.reduceLeDiff, *, and_self, hws, hvs, cv, cw, getElem?_len, getElem?_lenAdd, set_len, set_lenAdd, len_mid, ints_len, List.length_map, lt_mid, List.nil_append, List.cons_append, adopt_int, adopt_bool, adopt_two, adopt_agg, encP, List.getElem?_cons_succ, snap_str, c1, s1, c2, s2, q, qa, qc, qc2, z, q1, q2, q3, q4, q5, q6]; first | (refine hK.out _ _ ?_; clear hK K) | (refine iteI (fun h => hK.out _ _ ?_) (fun h => hK.out _ _ ?_) <;> clear hK K)))
       simp only [resultsR, resultsL, resultA, expK_int, expK_bool, expK_str, expK_agg, expK_own, expK_tsl, resK_some, go_sem, reduceIte, Nat.reduceAdd, Nat.reduceEqDiff, Nat.reduceLT, Nat.reduceLeDiff, and_self, ])

/- Protocols: the law All as a run. -/
open Go.Proofs
attribute [local go_sem] ty39 br19 br20 fz51 fz52 fz53 fz54 fz55 fz56
set_option maxHeartbeats 4000000

theorem lawAll {v w u : AV} {gs : List Grp} {ps : List Psn} {l : List Prt} (h : GsV v gs) (hw : SLs 3 (ps.map encP) w) (hpn : ∀ p ∈ ps, p.name.size ≤ 1048576) (hgn : ∀ g ∈ gs, g.name.size ≤ 1048576) (hgs : gs.length ≤ 1048576)
    (hu : SLs 3 (l.map encR) u) (hl : ∀ p ∈ l, SLs 1 (ints p.gl) p.gv) (hgl : ∀ p ∈ l, p.gl.length ≤ 1048576) (hll : l.length ≤ 1048576) (pe day : Int) :
    EvV CX 5 [.agg [w, v], u, .agg [.int .i64 pe, .int .i64 day]] (· = .bool true) := by
  have hvs := fun S => h.sl.snap (S := S)
  have hws := hw.snap
  have hus := hu.snap
  have cv := h.sl.cell
  have cw := hw.cell
  have qa := awake.rw
  obtain ⟨r, ⟨b, rfl, hb⟩, hq⟩ := (right44 h hw hpn hgn).ex
  have q := hq.rw
  clear hq
  cases b with
  | false =>
    refine EvV.walk rfl fn5 rfl nt5 rfl ?_
    simp only [List.length_cons, List.length_nil, List.cons_append, List.nil_append, Nat.reduceAdd, Nat.reduceSub, List.replicate]
    repeat' (first | refine go1 ?_ | refine blockK_else rfl ?_ | (refine wpC_cond fun A B hA hB => ?_; simp only [go_sem, reduceIte, Nat.reduceAdd, Nat.reduceEqDiff, Nat.reduceLT, Nat.reduceLeDiff, *, wpK_append ty39 rfl, wpK_buildSlice ty39 rfl, hws, hvs, hus, cv, cw, getElem?_len, getElem?_lenAdd, set_len, set_lenAdd, len_mid, ints_len, List.length_map, lt_mid, List.nil_append, List.cons_append, adopt_int, adopt_bool, adopt_agg, encR, List.getElem?_cons_succ, List.append_assoc, q, qa]; first | (refine hA.out ?_; clear hA hB A B) | (refine hB.out ?_; clear hA hB A B) | (refine iteI (fun h => hA.out ?_) (fun h => hB.out ?_) <;> clear hA hB A B) | (refine iteI (fun h => hB.out ?_) (fun h => hA.out ?_) <;> clear hA hB A B)) | (refine wpO_cons fun K hK => ?_; simp only [go_sem, reduceIte, Nat.reduceAdd, Nat.reduceEqDiff, Nat.reduceLT, Nat.reduceLeDiff, *, wpK_append ty39 rfl, wpK_buildSlice ty39 rfl, hws, hvs, hus, cv, cw, getElem?_len, getElem?_lenAdd, set_len, set_lenAdd, len_mid, ints_len, List.length_map, lt_mid, List.nil_append, List.cons_append, adopt_int, adopt_bool, adopt_agg, encR, List.getElem?_cons_succ, List.append_assoc, q, qa]; first | (refine hK.out _ _ ?_; clear hK K) | (refine iteI (fun h => hK.out _ _ ?_) (fun h => hK.out _ _ ?_) <;> clear hK K)))
    simp only [resultsR, resultsL, resultA, expK_int, expK_bool, expK_str, expK_agg, expK_own, expK_tsl, resK_some, go_sem, reduceIte, Nat.reduceAdd, Nat.reduceEqDiff, Nat.reduceLT, Nat.reduceLeDiff, wpK_append ty39 rfl, wpK_buildSlice ty39 rfl, ]
  | true =>
  have hr := hb rfl
  clear hb
  have hg := hr.ok h
  have hpl := hr.pl
  by_cases k : 20 < (l.length : Int)
  · refine EvV.walk rfl fn5 rfl nt5 rfl ?_
    simp only [List.length_cons, List.length_nil, List.cons_append, List.nil_append, Nat.reduceAdd, Nat.reduceSub, List.replicate]
    repeat' (first | refine go1 ?_ | refine blockK_else rfl ?_ | (refine wpC_cond fun A B hA hB => ?_; simp only [go_sem, reduceIte, Nat.reduceAdd, Nat.reduceEqDiff, Nat.reduceLT, Nat.reduceLeDiff, *, wpK_append ty39 rfl, wpK_buildSlice ty39 rfl, hws, hvs, hus, cv, cw, getElem?_len, getElem?_lenAdd, set_len, set_lenAdd, len_mid, ints_len, List.length_map, lt_mid, List.nil_append, List.cons_append, adopt_int, adopt_bool, adopt_agg, encR, List.getElem?_cons_succ, List.append_assoc, q, qa, lenK_sls hu]; first | (refine hA.out ?_; clear hA hB A B) | (refine hB.out ?_; clear hA hB A B) | (refine iteI (fun h => hA.out ?_) (fun h => hB.out ?_) <;> clear hA hB A B) | (refine iteI (fun h => hB.out ?_) (fun h => hA.out ?_) <;> clear hA hB A B)) | (refine wpO_cons fun K hK => ?_; simp only [go_sem, reduceIte, Nat.reduceAdd, Nat.reduceEqDiff, Nat.reduceLT, Nat.reduceLeDiff, *, wpK_append ty39 rfl, wpK_buildSlice ty39 rfl, hws, hvs, hus, cv, cw, getElem?_len, getElem?_lenAdd, set_len, set_lenAdd, len_mid, ints_len, List.length_map, lt_mid, List.nil_append, List.cons_append, adopt_int, adopt_bool, adopt_agg, encR, List.getElem?_cons_succ, List.append_assoc, q, qa, lenK_sls hu]; first | (refine hK.out _ _ ?_; clear hK K) | (refine iteI (fun h => hK.out _ _ ?_) (fun h => hK.out _ _ ?_) <;> clear hK K)))
    simp only [resultsR, resultsL, resultA, expK_int, expK_bool, expK_str, expK_agg, expK_own, expK_tsl, resK_some, go_sem, reduceIte, Nat.reduceAdd, Nat.reduceEqDiff, Nat.reduceLT, Nat.reduceLeDiff, wpK_append ty39 rfl, wpK_buildSlice ty39 rfl, ]
  refine EvV.walk rfl fn5 rfl nt5 rfl ?_
  simp only [List.length_cons, List.length_nil, List.cons_append, List.nil_append, Nat.reduceAdd, Nat.reduceSub, List.replicate]
  repeat' (first | refine go1 ?_ | refine blockK_else rfl ?_ | (refine wpC_cond fun A B hA hB => ?_; simp only [go_sem, reduceIte, Nat.reduceAdd, Nat.reduceEqDiff, Nat.reduceLT, Nat.reduceLeDiff, *, wpK_append ty39 rfl, wpK_buildSlice ty39 rfl, hws, hvs, hus, cv, cw, getElem?_len, getElem?_lenAdd, set_len, set_lenAdd, len_mid, ints_len, List.length_map, lt_mid, List.nil_append, List.cons_append, adopt_int, adopt_bool, adopt_agg, encR, List.getElem?_cons_succ, List.append_assoc, q, qa, lenK_sls hu]; first | (refine hA.out ?_; clear hA hB A B) | (refine hB.out ?_; clear hA hB A B) | (refine iteI (fun h => hA.out ?_) (fun h => hB.out ?_) <;> clear hA hB A B) | (refine iteI (fun h => hB.out ?_) (fun h => hA.out ?_) <;> clear hA hB A B)) | (refine wpO_cons fun K hK => ?_; simp only [go_sem, reduceIte, Nat.reduceAdd, Nat.reduceEqDiff, Nat.reduceLT, Nat.reduceLeDiff, *, wpK_append ty39 rfl, wpK_buildSlice ty39 rfl, hws, hvs, hus, cv, cw, getElem?_len, getElem?_lenAdd, set_len, set_lenAdd, len_mid, ints_len, List.length_map, lt_mid, List.nil_append, List.cons_append, adopt_int, adopt_bool, adopt_agg, encR, List.getElem?_cons_succ, List.append_assoc, q, qa, lenK_sls hu]; first | (refine hK.out _ _ ?_; clear hK K) | (refine iteI (fun h => hK.out _ _ ?_) (fun h => hK.out _ _ ?_) <;> clear hK K)))
  clear q
  refine wpC_eachE [6, 18, 19, 20, 21, 22, 23, 24, 25, 26, 27, 28, 29, 30, 31, 32, 33, 34, 35, 36, 37, 38, 39, 40, 41, 42, 43, 44, 45, 46] 8 (fun pre => [(7, .bool (pre.all fun p => mayP ps gs p pe day))]) l (fun pre _ => ∀ p ∈ pre, checkF gs p.lv p.gl p.un = 0) ?_ ?_ ?_ ?_
  · intro p hp; cases hp
  · rfl
  · intro g G hP
    have hok : ∀ p ∈ l, p.ok := fun p hp => ⟨hl p hp, by have := checkF_len (hP p hp); have := hr.gl; omega⟩
    have eq : (l.all fun p => mayQ ps gs p pe day) = l.all fun p => mayP ps gs p pe day := by
      refine Bool.eq_iff_iff.mpr ?_
      rw [List.all_eq_true, List.all_eq_true]
      have e : ∀ p ∈ l, mayQ ps gs p pe day = mayP ps gs p pe day := fun p hp => by
        obtain ⟨l0, l3, _⟩ := checkF_lv (hP p hp)
        exact mayG_eq (chk_clo hr.chk) l0 l3 p.gl p.un pe day
      constructor
      · intro h p hp; rw [← e p hp]; exact h p hp
      · intro h p hp; rw [e p hp]; exact h p hp
    have q3 := (allR hg hw (by omega) hu hok (by omega) pe day).rw
    rw [eq] at q3
    have q1 := (allE hg hw (by omega) (u := .esl) (l := []) (.esl rfl) (by simp) (by simp) pe day).rw
    have q2 := (allE hg hw (by omega) (u := .tsl false 3 (l.map encR)) (.rows false) hok (by omega) pe day).rw
    have ru := fun S => hu.rowsOf S
    have b1 : l.length * 40 ≤ 140737488355328 := by omega
    have b2 : l.length ≤ 140737488355328 := by omega
    have tk : List.take l.length (l.map encR) = l.map encR := by rw [List.take_of_length_le (by simp)]
    have fs : List.map encR l = l.map fun p => [AV.int .i64 p.lv, p.gv, AV.int .i64 p.un] := rfl
    simp only [garbA_cons, garbA_nil, setL_cons, setL_nil, List.set_cons_zero, List.set_cons_succ]
    clear hP hok eq hl hgl
    by_cases hl0 : l = []
    · subst hl0
      simp only [List.all_nil] at q1 q3
      have z : (true == true) = true := rfl
      have se : ∀ S, snap S .esl = some .esl := fun S => by simp only [snap]
      repeat' (first | refine go1 ?_ | refine blockK_else rfl ?_ | (refine wpC_cond fun A B hA hB => ?_; simp only [go_sem, reduceIte, Nat.reduceAdd, Nat.reduceEqDiff, Nat.reduceLT, Nat.reduceLeDiff, *, wpK_append ty39 rfl, wpK_buildSlice ty39 rfl, se, hws, hvs, hus, cv, cw, getElem?_len, getElem?_lenAdd, set_len, set_lenAdd, len_mid, ints_len, List.length_map, lt_mid, List.nil_append, List.cons_append, adopt_bool, List.getElem?_cons_succ, lenK_sls hu, ints_len, List.length_map, Int.lt_irrefl, List.nil_append, ru, qa, q1, q3, z, List.all_nil]; first | (refine hA.out ?_; clear hA hB A B) | (refine hB.out ?_; clear hA hB A B) | (refine iteI (fun h => hA.out ?_) (fun h => hB.out ?_) <;> clear hA hB A B) | (refine iteI (fun h => hB.out ?_) (fun h => hA.out ?_) <;> clear hA hB A B)) | (refine wpO_cons fun K hK => ?_; simp only [go_sem, reduceIte, Nat.reduceAdd, Nat.reduceEqDiff, Nat.reduceLT, Nat.reduceLeDiff, *, wpK_append ty39 rfl, wpK_buildSlice ty39 rfl, se, hws, hvs, hus, cv, cw, getElem?_len, getElem?_lenAdd, set_len, set_lenAdd, len_mid, ints_len, List.length_map, lt_mid, List.nil_append, List.cons_append, adopt_bool, List.getElem?_cons_succ, lenK_sls hu, ints_len, List.length_map, Int.lt_irrefl, List.nil_append, ru, qa, q1, q3, z, List.all_nil]; first | (refine hK.out _ _ ?_; clear hK K) | (refine iteI (fun h => hK.out _ _ ?_) (fun h => hK.out _ _ ?_) <;> clear hK K)))
      simp only [resultsR, resultsL, resultA, expK_int, expK_bool, expK_str, expK_agg, expK_own, expK_tsl, resK_some, go_sem, reduceIte, Nat.reduceAdd, Nat.reduceEqDiff, Nat.reduceLT, Nat.reduceLeDiff, wpK_append ty39 rfl, wpK_buildSlice ty39 rfl, ]
    · have hl1 : ¬ l.length = 0 := fun e => hl0 (List.eq_nil_of_length_eq_zero e)
      clear hl0 q1 fs
      generalize hM : (l.all fun p => mayP ps gs p pe day) = M at *
      generalize hR : l.map encR = R at *
      have hRl : R.length = l.length := by rw [← hR, List.length_map]
      clear hM hR
      have z : (M == M) = true := by simp
      repeat' (first | refine go1 ?_ | refine blockK_else rfl ?_ | (refine wpC_cond fun A B hA hB => ?_; simp only [go_sem, reduceIte, Nat.reduceAdd, Nat.reduceEqDiff, Nat.reduceLT, Nat.reduceLeDiff, *, wpK_append ty39 rfl, wpK_buildSlice ty39 rfl, hws, hvs, hus, cv, cw, getElem?_len, List.cons_append, List.nil_append, adopt_bool, List.getElem?_cons_succ, lenK_sls hu, hRl, Int.lt_irrefl, ru, qa, q2, q3, z, hl1, b1, b2, snap_sl, rowsOf_sl, tk, Nat.zero_le, Nat.zero_add, Nat.le_refl, Bool.true_or, List.append_assoc]; first | (refine hA.out ?_; clear hA hB A B) | (refine hB.out ?_; clear hA hB A B) | (refine iteI (fun h => hA.out ?_) (fun h => hB.out ?_) <;> clear hA hB A B) | (refine iteI (fun h => hB.out ?_) (fun h => hA.out ?_) <;> clear hA hB A B)) | (refine wpO_cons fun K hK => ?_; simp only [go_sem, reduceIte, Nat.reduceAdd, Nat.reduceEqDiff, Nat.reduceLT, Nat.reduceLeDiff, *, wpK_append ty39 rfl, wpK_buildSlice ty39 rfl, hws, hvs, hus, cv, cw, getElem?_len, List.cons_append, List.nil_append, adopt_bool, List.getElem?_cons_succ, lenK_sls hu, hRl, Int.lt_irrefl, ru, qa, q2, q3, z, hl1, b1, b2, snap_sl, rowsOf_sl, tk, Nat.zero_le, Nat.zero_add, Nat.le_refl, Bool.true_or, List.append_assoc]; first | (refine hK.out _ _ ?_; clear hK K) | (refine iteI (fun h => hK.out _ _ ?_) (fun h => hK.out _ _ ?_) <;> clear hK K)))
      simp only [resultsR, resultsL, resultA, expK_int, expK_bool, expK_str, expK_agg, expK_own, expK_tsl, resK_some, go_sem, reduceIte, Nat.reduceAdd, Nat.reduceEqDiff, Nat.reduceLT, Nat.reduceLeDiff, wpK_append ty39 rfl, wpK_buildSlice ty39 rfl, ]
  · intro g G pre x post h1 hP
    have lt1 : (pre.length : Int) < (l.length : Int) := by rw [h1]; simp; omega
    have i0 := idx_sls hu (X := CX) ty39 ty25 rfl (n := pre.length) (row := encR x) (k := .i64) (map_at encR h1)
    have hpl1 : pre.length < l.length := by rw [h1]; simp
    have w1 := wrap_succ (n := pre.length) (by omega)
    have hxm : x ∈ l := by rw [h1]; simp
    have hx := hl x hxm
    have hxl := hgl x hxm
    have c1 := hx.cell
    have s1 := hx.snap
    have qc := (check15 v x.gv gs x.lv x.un x.gl h.sl hx (by omega) (by omega)).rw
    have q1 := (copy44 x.gv x.lv x.un x.gl hx (by omega)).rw
    have hh1 : Hold (l = pre ++ x :: post) := ⟨h1⟩
    have hhP : Hold (∀ p ∈ pre, checkF gs p.lv p.gl p.un = 0) := ⟨hP⟩
    clear h1 hP hxm hpl1
    by_cases k2 : checkF gs x.lv x.gl x.un = 0
    rotate_left
    · obtain ⟨c, hc⟩ : ∃ c, checkF gs x.lv x.gl x.un = c := ⟨_, rfl⟩
      rw [hc] at qc k2
      have z : (c == 0) = false := by simpa using k2
      clear hc k2
      simp only [garbA_cons, garbA_nil, setL_cons, setL_nil, List.set_cons_zero, List.set_cons_succ]
      repeat' (first | refine go1 ?_ | refine blockK_else rfl ?_ | (refine wpC_cond fun A B hA hB => ?_; simp only [go_sem, reduceIte, Nat.reduceAdd, Nat.reduceEqDiff, Nat.reduceLT, Nat.reduceLeDiff, *, wpK_append ty39 rfl, wpK_buildSlice ty39 rfl, hws, hvs, hus, cv, cw, getElem?_len, getElem?_lenAdd, set_len, set_lenAdd, len_mid, ints_len, List.length_map, lt_mid, List.nil_append, List.cons_append, adopt_int, adopt_bool, adopt_agg, encR, List.getElem?_cons_succ, List.append_assoc, lenK_sls hu, i0, lt1, c1, s1, qc, z, qa]; first | (refine hA.out ?_; clear hA hB A B) | (refine hB.out ?_; clear hA hB A B) | (refine iteI (fun h => hA.out ?_) (fun h => hB.out ?_) <;> clear hA hB A B) | (refine iteI (fun h => hB.out ?_) (fun h => hA.out ?_) <;> clear hA hB A B)) | (refine wpO_cons fun K hK => ?_; simp only [go_sem, reduceIte, Nat.reduceAdd, Nat.reduceEqDiff, Nat.reduceLT, Nat.reduceLeDiff, *, wpK_append ty39 rfl, wpK_buildSlice ty39 rfl, hws, hvs, hus, cv, cw, getElem?_len, getElem?_lenAdd, set_len, set_lenAdd, len_mid, ints_len, List.length_map, lt_mid, List.nil_append, List.cons_append, adopt_int, adopt_bool, adopt_agg, encR, List.getElem?_cons_succ, List.append_assoc, lenK_sls hu, i0, lt1, c1, s1, qc, z, qa]; first | (refine hK.out _ _ ?_; clear hK K) | (refine iteI (fun h => hK.out _ _ ?_) (fun h => hK.out _ _ ?_) <;> clear hK K)))
      simp only [resultsR, resultsL, resultA, expK_int, expK_bool, expK_str, expK_agg, expK_own, expK_tsl, resK_some, go_sem, reduceIte, Nat.reduceAdd, Nat.reduceEqDiff, Nat.reduceLT, Nat.reduceLeDiff, wpK_append ty39 rfl, wpK_buildSlice ty39 rfl, ]
    have hlen := checkF_len k2
    have hgl6 := hr.gl
    rw [k2] at qc
    have z : ((0 : Int) == 0) = true := rfl
    have q2 := (mayE hg hw (by omega) (.rows true) (pg := .tsl true 1 (ints x.gl)) (gl := x.gl) (by omega) x.lv x.un pe day).rw
    have hPP : Hold (∀ p ∈ pre ++ [x], checkF gs p.lv p.gl p.un = 0) := ⟨fun p hp => by
      rcases List.mem_append.mp hp with e | e
      · exact hhP.out p e
      · have := List.mem_singleton.mp e; subst this; exact k2⟩
    have hS : ((pre ++ [x]).all fun p => mayP ps gs p pe day) = ((pre.all fun p => mayP ps gs p pe day) && mayP ps gs x pe day) := by simp
    have hmx : mayF ps gs x.lv x.gl x.un pe day = mayP ps gs x pe day := rfl
    rw [hmx] at q2
    clear k2 hmx hlen hgl6
    obtain ⟨A, hA⟩ : ∃ A, (pre.all fun p => mayP ps gs p pe day) = A := ⟨_, rfl⟩
    obtain ⟨B, hB⟩ : ∃ B, mayP ps gs x pe day = B := ⟨_, rfl⟩
    rw [hB] at q2
    rw [hA, hB] at hS
    rw [hA]
    have hhS : Hold (((pre ++ [x]).all fun p => mayP ps gs p pe day) = (A && B)) := ⟨hS⟩
    clear hA hB hS
    simp only [garbA_cons, garbA_nil, setL_cons, setL_nil, List.set_cons_zero, List.set_cons_succ]
    cases A with
    | true =>
      repeat' (first | refine go1 ?_ | refine blockK_else rfl ?_ | (refine wpC_cond fun A B hA hB => ?_; simp only [go_sem, reduceIte, Nat.reduceAdd, Nat.reduceEqDiff, Nat.reduceLT, Nat.reduceLeDiff, *, wpK_append ty39 rfl, wpK_buildSlice ty39 rfl, hws, hvs, hus, cv, cw, getElem?_len, getElem?_lenAdd, set_len, set_lenAdd, len_mid, ints_len, List.length_map, lt_mid, List.nil_append, List.cons_append, adopt_int, adopt_bool, adopt_agg, encR, List.getElem?_cons_succ, List.append_assoc, lenK_sls hu, i0, lt1, c1, s1, qc, z, q1, q2, w1]; first | (refine hA.out ?_; clear hA hB A B) | (refine hB.out ?_; clear hA hB A B) | (refine iteI (fun h => hA.out ?_) (fun h => hB.out ?_) <;> clear hA hB A B) | (refine iteI (fun h => hB.out ?_) (fun h => hA.out ?_) <;> clear hA hB A B)) | (refine wpO_cons fun K hK => ?_; simp only [go_sem, reduceIte, Nat.reduceAdd, Nat.reduceEqDiff, Nat.reduceLT, Nat.reduceLeDiff, *, wpK_append ty39 rfl, wpK_buildSlice ty39 rfl, hws, hvs, hus, cv, cw, getElem?_len, getElem?_lenAdd, set_len, set_lenAdd, len_mid, ints_len, List.length_map, lt_mid, List.nil_append, List.cons_append, adopt_int, adopt_bool, adopt_agg, encR, List.getElem?_cons_succ, List.append_assoc, lenK_sls hu, i0, lt1, c1, s1, qc, z, q1, q2, w1]; first | (refine hK.out _ _ ?_; clear hK K) | (refine iteI (fun h => hK.out _ _ ?_) (fun h => hK.out _ _ ?_) <;> clear hK K)))
      refine each_next hh1.out ?_ ?_ ?_
      · exact hPP.out
      · ((try simp only [eraseA_cons, eraseA_nil, setL_cons, setL_nil, List.set_cons_zero, List.set_cons_succ]); all_goals (first | rfl | (simp only [len_snoc, ints_len, List.length_map, hhS.out, Bool.true_and]; done) | (simp only [len_snoc, len_mid, ints_len, List.length_map, List.length_append, List.length_cons, List.length_nil, Nat.zero_add, hhS.out, Bool.true_and]; done) | (simp only [len_mid, len_snoc, ints_len, List.length_map, List.length_append, List.length_cons, List.length_nil, Nat.zero_add, hhS.out, Bool.true_and]; rfl)))
      · first | exact ⟨[], (List.append_nil _).symm⟩ | exact ⟨_, rfl⟩ | (simp only [List.append_assoc, List.cons_append, List.nil_append]; exact ⟨_, rfl⟩)
    | false =>
      repeat' (first | refine go1 ?_ | refine blockK_else rfl ?_ | (refine wpC_cond fun A B hA hB => ?_; simp only [go_sem, reduceIte, Nat.reduceAdd, Nat.reduceEqDiff, Nat.reduceLT, Nat.reduceLeDiff, *, wpK_append ty39 rfl, wpK_buildSlice ty39 rfl, hws, hvs, hus, cv, cw, getElem?_len, getElem?_lenAdd, set_len, set_lenAdd, len_mid, ints_len, List.length_map, lt_mid, List.nil_append, List.cons_append, adopt_int, adopt_bool, adopt_agg, encR, List.getElem?_cons_succ, List.append_assoc, lenK_sls hu, i0, lt1, c1, s1, qc, z, w1]; first | (refine hA.out ?_; clear hA hB A B) | (refine hB.out ?_; clear hA hB A B) | (refine iteI (fun h => hA.out ?_) (fun h => hB.out ?_) <;> clear hA hB A B) | (refine iteI (fun h => hB.out ?_) (fun h => hA.out ?_) <;> clear hA hB A B)) | (refine wpO_cons fun K hK => ?_; simp only [go_sem, reduceIte, Nat.reduceAdd, Nat.reduceEqDiff, Nat.reduceLT, Nat.reduceLeDiff, *, wpK_append ty39 rfl, wpK_buildSlice ty39 rfl, hws, hvs, hus, cv, cw, getElem?_len, getElem?_lenAdd, set_len, set_lenAdd, len_mid, ints_len, List.length_map, lt_mid, List.nil_append, List.cons_append, adopt_int, adopt_bool, adopt_agg, encR, List.getElem?_cons_succ, List.append_assoc, lenK_sls hu, i0, lt1, c1, s1, qc, z, w1]; first | (refine hK.out _ _ ?_; clear hK K) | (refine iteI (fun h => hK.out _ _ ?_) (fun h => hK.out _ _ ?_) <;> clear hK K)))
      refine each_next hh1.out ?_ ?_ ?_
      · exact hPP.out
      · ((try simp only [eraseA_cons, eraseA_nil, setL_cons, setL_nil, List.set_cons_zero, List.set_cons_succ]); all_goals (first | rfl | (simp only [len_snoc, ints_len, List.length_map, hhS.out, Bool.false_and]; done) | (simp only [len_snoc, len_mid, ints_len, List.length_map, List.length_append, List.length_cons, List.length_nil, Nat.zero_add, hhS.out, Bool.false_and]; done) | (simp only [len_mid, len_snoc, ints_len, List.length_map, List.length_append, List.length_cons, List.length_nil, Nat.zero_add, hhS.out, Bool.false_and]; rfl)))
      · first | exact ⟨[], (List.append_nil _).symm⟩ | exact ⟨_, rfl⟩ | (simp only [List.append_assoc, List.cons_append, List.nil_append]; exact ⟨_, rfl⟩)

/- Protocols: the laws Embargo, Levels as runs. -/
open Go.Proofs
attribute [local go_sem] fz26 fz27 fz28 fz29 fz30 fz31 br25 fz32 fz33 fz34 fz35 fz36 fz37 fz38 fz39
set_option maxHeartbeats 4000000

theorem may_day {ps : List Psn} {gs : List Grp} {lv un pe day later : Int} {gl : List Int} (h : un ≤ day) (h2 : day ≤ later) : mayF ps gs lv gl un pe later = mayF ps gs lv gl un pe day := by
  have k1 : ¬ later < un := by omega
  have k2 : ¬ day < un := by omega
  unfold mayF
  rw [if_neg k1, if_neg k2]
theorem may_early {ps : List Psn} {gs : List Grp} {lv un pe day : Int} {gl : List Int} (h : day < un) : mayF ps gs lv gl un pe day = false := by
  unfold mayF; rw [if_pos h]

theorem lawEmbargo {v w : AV} {gs : List Grp} {ps : List Psn} (h : GsV v gs) (hw : SLs 3 (ps.map encP) w) (hpn : ∀ p ∈ ps, p.name.size ≤ 1048576) (hgn : ∀ g ∈ gs, g.name.size ≤ 1048576) (hgs : gs.length ≤ 1048576)
    {pg : AV} {gl : List Int} (hp : SLs 1 (ints gl) pg) (hgl : gl.length ≤ 1048576) (lv un pe day later : Int) :
    EvV CX 10 [.agg [w, v], .agg [.int .i64 lv, pg, .int .i64 un], .agg [.int .i64 pe, .int .i64 day], .int .i64 later] (· = .bool true) := by
  have hvs := fun S => h.sl.snap (S := S)
  have hws := hw.snap
  have cv := h.sl.cell
  have cw := hw.cell
  have c1 := hp.cell
  have s1 := hp.snap
  have qa := awake.rw
  obtain ⟨r, ⟨b, rfl, hb⟩, hq⟩ := (right44 h hw hpn hgn).ex
  have q := hq.rw
  have qc := (check15 v pg gs lv un gl h.sl hp (by omega) (by omega)).rw
  clear hq
  cases b with
  | false =>
    refine EvV.walk rfl fn10 rfl nt10 rfl ?_
    simp only [List.length_cons, List.length_nil, List.cons_append, List.nil_append, Nat.reduceAdd, Nat.reduceSub, List.replicate]
    repeat' (first | refine go1 ?_ | refine blockK_else rfl ?_ | (refine wpC_cond fun A B hA hB => ?_; simp only [go_sem, reduceIte, Nat.reduceAdd, Nat.reduceEqDiff, Nat.reduceLT, Nat.reduceLeDiff, *, and_self, hws, hvs, cv, cw, getElem?_len, getElem?_lenAdd, set_len, set_lenAdd, len_mid, ints_len, List.length_map, lt_mid, List.nil_append, List.cons_append, adopt_int, adopt_bool, adopt_two, adopt_agg, encP, List.getElem?_cons_succ, snap_str, c1, s1, q, qa]; first | (refine hA.out ?_; clear hA hB A B) | (refine hB.out ?_; clear hA hB A B) | (refine iteI (fun h => hA.out ?_) (fun h => hB.out ?_) <;> clear hA hB A B) | (refine iteI (fun h => hB.out ?_) (fun h => hA.out ?_) <;> clear hA hB A B)) | (refine wpO_cons fun K hK => ?_; simp only [go_sem, reduceIte, Nat.reduceAdd, Nat.reduceEqDiff, Nat.reduceLT, Nat.reduceLeDiff, *, and_self, hws, hvs, cv, cw, getElem?_len, getElem?_lenAdd, set_len, set_lenAdd, len_mid, ints_len, List.length_map, lt_mid, List.nil_append, List.cons_append, adopt_int, adopt_bool, adopt_two, adopt_agg, encP, List.getElem?_cons_succ, snap_str, c1, s1, q, qa]; first | (refine hK.out _ _ ?_; clear hK K) | (refine iteI (fun h => hK.out _ _ ?_) (fun h => hK.out _ _ ?_) <;> clear hK K)))
    simp only [resultsR, resultsL, resultA, expK_int, expK_bool, expK_str, expK_agg, expK_own, expK_tsl, resK_some, go_sem, reduceIte, Nat.reduceAdd, Nat.reduceEqDiff, Nat.reduceLT, Nat.reduceLeDiff, and_self, ]
  | true =>
  have hr := hb rfl
  clear hb
  have hg := hr.ok h
  by_cases k : checkF gs lv gl un = 0
  rotate_left
  · obtain ⟨c, hc⟩ : ∃ c, checkF gs lv gl un = c := ⟨_, rfl⟩
    rw [hc] at qc k
    have z : (c == 0) = false := by simpa using k
    clear hc k
    refine EvV.walk rfl fn10 rfl nt10 rfl ?_
    simp only [List.length_cons, List.length_nil, List.cons_append, List.nil_append, Nat.reduceAdd, Nat.reduceSub, List.replicate]
    repeat' (first | refine go1 ?_ | refine blockK_else rfl ?_ | (refine wpC_cond fun A B hA hB => ?_; simp only [go_sem, reduceIte, Nat.reduceAdd, Nat.reduceEqDiff, Nat.reduceLT, Nat.reduceLeDiff, *, and_self, hws, hvs, cv, cw, getElem?_len, getElem?_lenAdd, set_len, set_lenAdd, len_mid, ints_len, List.length_map, lt_mid, List.nil_append, List.cons_append, adopt_int, adopt_bool, adopt_two, adopt_agg, encP, List.getElem?_cons_succ, snap_str, c1, s1, q, qa, qc, z]; first | (refine hA.out ?_; clear hA hB A B) | (refine hB.out ?_; clear hA hB A B) | (refine iteI (fun h => hA.out ?_) (fun h => hB.out ?_) <;> clear hA hB A B) | (refine iteI (fun h => hB.out ?_) (fun h => hA.out ?_) <;> clear hA hB A B)) | (refine wpO_cons fun K hK => ?_; simp only [go_sem, reduceIte, Nat.reduceAdd, Nat.reduceEqDiff, Nat.reduceLT, Nat.reduceLeDiff, *, and_self, hws, hvs, cv, cw, getElem?_len, getElem?_lenAdd, set_len, set_lenAdd, len_mid, ints_len, List.length_map, lt_mid, List.nil_append, List.cons_append, adopt_int, adopt_bool, adopt_two, adopt_agg, encP, List.getElem?_cons_succ, snap_str, c1, s1, q, qa, qc, z]; first | (refine hK.out _ _ ?_; clear hK K) | (refine iteI (fun h => hK.out _ _ ?_) (fun h => hK.out _ _ ?_) <;> clear hK K)))
    simp only [resultsR, resultsL, resultA, expK_int, expK_bool, expK_str, expK_agg, expK_own, expK_tsl, resK_some, go_sem, reduceIte, Nat.reduceAdd, Nat.reduceEqDiff, Nat.reduceLT, Nat.reduceLeDiff, and_self, ]
  have hlen := checkF_len k
  have hl := hr.gl
  have hpl := hr.pl
  rw [k] at qc
  have z : ((0 : Int) == 0) = true := rfl
  have q1 := (copy44 pg lv un gl hp (by omega)).rw
  have q2 := (mayE hg hw (by omega) (.rows true) (pg := .tsl true 1 (ints gl)) (gl := gl) (by omega) lv un pe day).rw
  have q3 := (mayE hg hw (by omega) (.rows true) (pg := .tsl true 1 (ints gl)) (gl := gl) (by omega) lv un pe later).rw
  clear k hlen hl hpl hg hr
  by_cases h1 : day < un
  · rw [may_early h1] at q2
    clear q3
    refine EvV.walk rfl fn10 rfl nt10 rfl ?_
    simp only [List.length_cons, List.length_nil, List.cons_append, List.nil_append, Nat.reduceAdd, Nat.reduceSub, List.replicate]
    repeat' (first | refine go1 ?_ | refine blockK_else rfl ?_ | (refine wpC_cond fun A B hA hB => ?_; simp only [go_sem, reduceIte, Nat.reduceAdd, Nat.reduceEqDiff, Nat.reduceLT, Nat.reduceLeDiff, *, and_self, hws, hvs, cv, cw, getElem?_len, getElem?_lenAdd, set_len, set_lenAdd, len_mid, ints_len, List.length_map, lt_mid, List.nil_append, List.cons_append, adopt_int, adopt_bool, adopt_two, adopt_agg, encP, List.getElem?_cons_succ, snap_str, c1, s1, q, qa, qc, z, q1, q2]; first | (refine hA.out ?_; clear hA hB A B) | (refine hB.out ?_; clear hA hB A B) | (refine iteI (fun h => hA.out ?_) (fun h => hB.out ?_) <;> clear hA hB A B) | (refine iteI (fun h => hB.out ?_) (fun h => hA.out ?_) <;> clear hA hB A B)) | (refine wpO_cons fun K hK => ?_; simp only [go_sem, reduceIte, Nat.reduceAdd, Nat.reduceEqDiff, Nat.reduceLT, Nat.reduceLeDiff, *, and_self, hws, hvs, cv, cw, getElem?_len, getElem?_lenAdd, set_len, set_lenAdd, len_mid, ints_len, List.length_map, lt_mid, List.nil_append, List.cons_append, adopt_int, adopt_bool, adopt_two, adopt_agg, encP, List.getElem?_cons_succ, snap_str, c1, s1, q, qa, qc, z, q1, q2]; first | (refine hK.out _ _ ?_; clear hK K) | (refine iteI (fun h => hK.out _ _ ?_) (fun h => hK.out _ _ ?_) <;> clear hK K)))
    simp only [resultsR, resultsL, resultA, expK_int, expK_bool, expK_str, expK_agg, expK_own, expK_tsl, resK_some, go_sem, reduceIte, Nat.reduceAdd, Nat.reduceEqDiff, Nat.reduceLT, Nat.reduceLeDiff, and_self, ]
  by_cases h2 : later < day
  · refine EvV.walk rfl fn10 rfl nt10 rfl ?_
    simp only [List.length_cons, List.length_nil, List.cons_append, List.nil_append, Nat.reduceAdd, Nat.reduceSub, List.replicate]
    repeat' (first | refine go1 ?_ | refine blockK_else rfl ?_ | (refine wpC_cond fun A B hA hB => ?_; simp only [go_sem, reduceIte, Nat.reduceAdd, Nat.reduceEqDiff, Nat.reduceLT, Nat.reduceLeDiff, *, and_self, hws, hvs, cv, cw, getElem?_len, getElem?_lenAdd, set_len, set_lenAdd, len_mid, ints_len, List.length_map, lt_mid, List.nil_append, List.cons_append, adopt_int, adopt_bool, adopt_two, adopt_agg, encP, List.getElem?_cons_succ, snap_str, c1, s1, q, qa, qc, z, q1, q2]; first | (refine hA.out ?_; clear hA hB A B) | (refine hB.out ?_; clear hA hB A B) | (refine iteI (fun h => hA.out ?_) (fun h => hB.out ?_) <;> clear hA hB A B) | (refine iteI (fun h => hB.out ?_) (fun h => hA.out ?_) <;> clear hA hB A B)) | (refine wpO_cons fun K hK => ?_; simp only [go_sem, reduceIte, Nat.reduceAdd, Nat.reduceEqDiff, Nat.reduceLT, Nat.reduceLeDiff, *, and_self, hws, hvs, cv, cw, getElem?_len, getElem?_lenAdd, set_len, set_lenAdd, len_mid, ints_len, List.length_map, lt_mid, List.nil_append, List.cons_append, adopt_int, adopt_bool, adopt_two, adopt_agg, encP, List.getElem?_cons_succ, snap_str, c1, s1, q, qa, qc, z, q1, q2]; first | (refine hK.out _ _ ?_; clear hK K) | (refine iteI (fun h => hK.out _ _ ?_) (fun h => hK.out _ _ ?_) <;> clear hK K)))
    simp only [resultsR, resultsL, resultA, expK_int, expK_bool, expK_str, expK_agg, expK_own, expK_tsl, resK_some, go_sem, reduceIte, Nat.reduceAdd, Nat.reduceEqDiff, Nat.reduceLT, Nat.reduceLeDiff, and_self, ]
  · rw [may_day (day := day) (later := later) (by omega) (by omega)] at q3
    generalize mayF ps gs lv gl un pe day = M at *
    have zM : (M == M) = true := by simp
    refine EvV.walk rfl fn10 rfl nt10 rfl ?_
    simp only [List.length_cons, List.length_nil, List.cons_append, List.nil_append, Nat.reduceAdd, Nat.reduceSub, List.replicate]
    repeat' (first | refine go1 ?_ | refine blockK_else rfl ?_ | (refine wpC_cond fun A B hA hB => ?_; simp only [go_sem, reduceIte, Nat.reduceAdd, Nat.reduceEqDiff, Nat.reduceLT, Nat.reduceLeDiff, *, and_self, hws, hvs, cv, cw, getElem?_len, getElem?_lenAdd, set_len, set_lenAdd, len_mid, ints_len, List.length_map, lt_mid, List.nil_append, List.cons_append, adopt_int, adopt_bool, adopt_two, adopt_agg, encP, List.getElem?_cons_succ, snap_str, c1, s1, q, qa, qc, z, q1, q2, q3, zM]; first | (refine hA.out ?_; clear hA hB A B) | (refine hB.out ?_; clear hA hB A B) | (refine iteI (fun h => hA.out ?_) (fun h => hB.out ?_) <;> clear hA hB A B) | (refine iteI (fun h => hB.out ?_) (fun h => hA.out ?_) <;> clear hA hB A B)) | (refine wpO_cons fun K hK => ?_; simp only [go_sem, reduceIte, Nat.reduceAdd, Nat.reduceEqDiff, Nat.reduceLT, Nat.reduceLeDiff, *, and_self, hws, hvs, cv, cw, getElem?_len, getElem?_lenAdd, set_len, set_lenAdd, len_mid, ints_len, List.length_map, lt_mid, List.nil_append, List.cons_append, adopt_int, adopt_bool, adopt_two, adopt_agg, encP, List.getElem?_cons_succ, snap_str, c1, s1, q, qa, qc, z, q1, q2, q3, zM]; first | (refine hK.out _ _ ?_; clear hK K) | (refine iteI (fun h => hK.out _ _ ?_) (fun h => hK.out _ _ ?_) <;> clear hK K)))
    simp only [resultsR, resultsL, resultA, expK_int, expK_bool, expK_str, expK_agg, expK_own, expK_tsl, resK_some, go_sem, reduceIte, Nat.reduceAdd, Nat.reduceEqDiff, Nat.reduceLT, Nat.reduceLeDiff, and_self, ]

theorem errPF_all : ∀ {pre post : List Psn}, errPF pre post = 0 → ∀ x ∈ post, idOK x.id = true
  | pre, [], _, x, hx => by cases hx
  | pre, y :: post, h, x, hx => by
    unfold errPF at h
    split at h
    · rename_i h0
      rcases List.mem_cons.mp hx with e | e
      · subst e
        unfold errP at h0
        split at h0
        · assumption
        · cases h0
      · exact errPF_all h x e
    · rename_i h0; exact absurd h h0
theorem chk_ppl {ps : List Psn} {gs : List Grp} (h : chkG ps gs = 0) {g : Grp} (hg : g ∈ gs) {p : Int} (hp : p ∈ g.people) : isP ps p = true := by
  have he : errF ps [] gs = 0 := by
    unfold chkG at h
    split at h
    · split at h
      · assumption
      · exact h
    · cases h
  have go : ∀ {post pre : List Grp}, errF ps pre post = 0 → ∀ x ∈ post, x.people.all (isP ps) = true := by
    intro post
    induction post with
    | nil => intro pre _ x hx; cases hx
    | cons y post ih =>
      intro pre h x hx
      unfold errF at h
      split at h
      · rename_i h0
        rcases List.mem_cons.mp hx with e | e
        · subst e
          unfold errG at h0
          repeat' split at h0
          all_goals first | exact absurd h0 (by decide) | assumption
        · exact ih h x e
      · rename_i h0; exact absurd h h0
  have := go he g hg
  rw [List.all_eq_true] at this
  exact this p hp
theorem no_zero {ps : List Psn} {gs : List Grp} (h : chkG ps gs = 0) (hp : pplF ps = 0) (n : Int) : (members gs n).contains 0 = false := by
  have hz : isP ps 0 = false := by
    have h1 : errPF [] ps = 0 := by
      unfold pplF at hp
      split at hp
      · exact hp
      · cases hp
    have h2 := errPF_all h1
    unfold isP pFind
    rw [← Bool.not_eq_true, List.find?_isSome]
    rintro ⟨x, hx, e⟩
    have := h2 x hx
    have e' : x.id = 0 := by simpa using e
    rw [e'] at this
    exact absurd this (by decide)
  have one : ∀ x, (0 : Int) ∈ (fnd gs x).people → False := fun x hx => by
    rcases fnd_cases gs x with ⟨_, e⟩ | ⟨_, _, e⟩
    · rw [e] at hx; simp [noG] at hx
    · have := chk_ppl h e hx; rw [hz] at this; cases this
  have : (0 : Int) ∉ members gs n := by
    rw [mem_members]
    rintro (h1 | ⟨x, _, h1⟩)
    · exact one _ h1
    · exact one _ h1
  simpa using this

theorem lawLevels {v w : AV} {gs : List Grp} {ps : List Psn} (h : GsV v gs) (hw : SLs 3 (ps.map encP) w) (hpn : ∀ p ∈ ps, p.name.size ≤ 1048576) (hgn : ∀ g ∈ gs, g.name.size ≤ 1048576) (hgs : gs.length ≤ 1048576)
    {pg : AV} {gl : List Int} (hp : SLs 1 (ints gl) pg) (hgl : gl.length ≤ 1048576) (lv un pe day : Int) :
    EvV CX 11 [.agg [w, v], .agg [.int .i64 lv, pg, .int .i64 un], .agg [.int .i64 pe, .int .i64 day]] (· = .bool true) := by
  have hvs := fun S => h.sl.snap (S := S)
  have hws := hw.snap
  have cv := h.sl.cell
  have cw := hw.cell
  have c1 := hp.cell
  have s1 := hp.snap
  have qa := awake.rw
  obtain ⟨r, ⟨b, rfl, hb⟩, hq⟩ := (right44 h hw hpn hgn).ex
  have q := hq.rw
  have qc := (check15 v pg gs lv un gl h.sl hp (by omega) (by omega)).rw
  clear hq
  cases b with
  | false =>
    refine EvV.walk rfl fn11 rfl nt11 rfl ?_
    simp only [List.length_cons, List.length_nil, List.cons_append, List.nil_append, Nat.reduceAdd, Nat.reduceSub, List.replicate]
    repeat' (first | refine go1 ?_ | refine blockK_else rfl ?_ | (refine wpC_cond fun A B hA hB => ?_; simp only [go_sem, reduceIte, Nat.reduceAdd, Nat.reduceEqDiff, Nat.reduceLT, Nat.reduceLeDiff, *, and_self, hws, hvs, cv, cw, getElem?_len, getElem?_lenAdd, set_len, set_lenAdd, len_mid, ints_len, List.length_map, lt_mid, List.nil_append, List.cons_append, adopt_int, adopt_bool, adopt_two, adopt_agg, encP, List.getElem?_cons_succ, snap_str, c1, s1, q, qa]; first | (refine hA.out ?_; clear hA hB A B) | (refine hB.out ?_; clear hA hB A B) | (refine iteI (fun h => hA.out ?_) (fun h => hB.out ?_) <;> clear hA hB A B) | (refine iteI (fun h => hB.out ?_) (fun h => hA.out ?_) <;> clear hA hB A B)) | (refine wpO_cons fun K hK => ?_; simp only [go_sem, reduceIte, Nat.reduceAdd, Nat.reduceEqDiff, Nat.reduceLT, Nat.reduceLeDiff, *, and_self, hws, hvs, cv, cw, getElem?_len, getElem?_lenAdd, set_len, set_lenAdd, len_mid, ints_len, List.length_map, lt_mid, List.nil_append, List.cons_append, adopt_int, adopt_bool, adopt_two, adopt_agg, encP, List.getElem?_cons_succ, snap_str, c1, s1, q, qa]; first | (refine hK.out _ _ ?_; clear hK K) | (refine iteI (fun h => hK.out _ _ ?_) (fun h => hK.out _ _ ?_) <;> clear hK K)))
    simp only [resultsR, resultsL, resultA, expK_int, expK_bool, expK_str, expK_agg, expK_own, expK_tsl, resK_some, go_sem, reduceIte, Nat.reduceAdd, Nat.reduceEqDiff, Nat.reduceLT, Nat.reduceLeDiff, and_self, ]
  | true =>
  have hr := hb rfl
  clear hb
  have hg := hr.ok h
  by_cases k : checkF gs lv gl un = 0
  rotate_left
  · obtain ⟨c, hc⟩ : ∃ c, checkF gs lv gl un = c := ⟨_, rfl⟩
    rw [hc] at qc k
    have z : (c == 0) = false := by simpa using k
    clear hc k
    refine EvV.walk rfl fn11 rfl nt11 rfl ?_
    simp only [List.length_cons, List.length_nil, List.cons_append, List.nil_append, Nat.reduceAdd, Nat.reduceSub, List.replicate]
    repeat' (first | refine go1 ?_ | refine blockK_else rfl ?_ | (refine wpC_cond fun A B hA hB => ?_; simp only [go_sem, reduceIte, Nat.reduceAdd, Nat.reduceEqDiff, Nat.reduceLT, Nat.reduceLeDiff, *, and_self, hws, hvs, cv, cw, getElem?_len, getElem?_lenAdd, set_len, set_lenAdd, len_mid, ints_len, List.length_map, lt_mid, List.nil_append, List.cons_append, adopt_int, adopt_bool, adopt_two, adopt_agg, encP, List.getElem?_cons_succ, snap_str, c1, s1, q, qa, qc, z]; first | (refine hA.out ?_; clear hA hB A B) | (refine hB.out ?_; clear hA hB A B) | (refine iteI (fun h => hA.out ?_) (fun h => hB.out ?_) <;> clear hA hB A B) | (refine iteI (fun h => hB.out ?_) (fun h => hA.out ?_) <;> clear hA hB A B)) | (refine wpO_cons fun K hK => ?_; simp only [go_sem, reduceIte, Nat.reduceAdd, Nat.reduceEqDiff, Nat.reduceLT, Nat.reduceLeDiff, *, and_self, hws, hvs, cv, cw, getElem?_len, getElem?_lenAdd, set_len, set_lenAdd, len_mid, ints_len, List.length_map, lt_mid, List.nil_append, List.cons_append, adopt_int, adopt_bool, adopt_two, adopt_agg, encP, List.getElem?_cons_succ, snap_str, c1, s1, q, qa, qc, z]; first | (refine hK.out _ _ ?_; clear hK K) | (refine iteI (fun h => hK.out _ _ ?_) (fun h => hK.out _ _ ?_) <;> clear hK K)))
    simp only [resultsR, resultsL, resultA, expK_int, expK_bool, expK_str, expK_agg, expK_own, expK_tsl, resK_some, go_sem, reduceIte, Nat.reduceAdd, Nat.reduceEqDiff, Nat.reduceLT, Nat.reduceLeDiff, and_self, ]
  have hlen := checkF_len k
  obtain ⟨l0, l3, _⟩ := checkF_lv k
  have hl := hr.gl
  have hpl := hr.pl
  rw [k] at qc
  have z : ((0 : Int) == 0) = true := rfl
  have q1 := (copy44 pg lv un gl hp (by omega)).rw
  have q2 := (mayE hg hw (by omega) (.rows true) (pg := .tsl true 1 (ints gl)) (gl := gl) (by omega) lv un pe day).rw
  have q3 := (personE w ps pe hw (by omega)).rw
  have nz := no_zero hr.chk hr.ppl
  have hM : ∃ M, mayF ps gs lv gl un pe day = M := ⟨_, rfl⟩
  obtain ⟨M, hM⟩ := hM
  rw [hM] at q2
  have hlv : lv = 0 ∨ lv = 1 ∨ lv = 2 ∨ lv = 3 := by omega
  clear k hlen hl hpl hg hr l0 l3
  rcases hlv with e | e | e | e <;> subst e
  · have eM : M = decide (un ≤ day) := by
      rw [← hM, mayF]; by_cases hd : day < un
      · rw [if_pos hd]; simp; omega
      · rw [if_neg hd]; simp; omega
    subst eM
    have zM : (decide (un ≤ day) == decide (un ≤ day)) = true := by simp
    have y0 : ((0 : Int) == 0) = true := rfl
    clear hM
    generalize isP ps pe = I at *
    cases I
    all_goals
      refine EvV.walk rfl fn11 rfl nt11 rfl ?_
      simp only [List.length_cons, List.length_nil, List.cons_append, List.nil_append, Nat.reduceAdd, Nat.reduceSub, List.replicate]
      repeat' (first | refine go1 ?_ | refine blockK_else rfl ?_ | (refine wpC_cond fun A B hA hB => ?_; simp only [go_sem, reduceIte, Nat.reduceAdd, Nat.reduceEqDiff, Nat.reduceLT, Nat.reduceLeDiff, *, and_self, hws, hvs, cv, cw, getElem?_len, getElem?_lenAdd, set_len, set_lenAdd, len_mid, ints_len, List.length_map, lt_mid, List.nil_append, List.cons_append, adopt_int, adopt_bool, adopt_two, adopt_agg, encP, List.getElem?_cons_succ, snap_str, c1, s1, q, qa, qc, z, q1, q2, q3, zM, y0]; first | (refine hA.out ?_; clear hA hB A B) | (refine hB.out ?_; clear hA hB A B) | (refine iteI (fun h => hA.out ?_) (fun h => hB.out ?_) <;> clear hA hB A B) | (refine iteI (fun h => hB.out ?_) (fun h => hA.out ?_) <;> clear hA hB A B)) | (refine wpO_cons fun K hK => ?_; simp only [go_sem, reduceIte, Nat.reduceAdd, Nat.reduceEqDiff, Nat.reduceLT, Nat.reduceLeDiff, *, and_self, hws, hvs, cv, cw, getElem?_len, getElem?_lenAdd, set_len, set_lenAdd, len_mid, ints_len, List.length_map, lt_mid, List.nil_append, List.cons_append, adopt_int, adopt_bool, adopt_two, adopt_agg, encP, List.getElem?_cons_succ, snap_str, c1, s1, q, qa, qc, z, q1, q2, q3, zM, y0]; first | (refine hK.out _ _ ?_; clear hK K) | (refine iteI (fun h => hK.out _ _ ?_) (fun h => hK.out _ _ ?_) <;> clear hK K)))
      simp only [resultsR, resultsL, resultA, expK_int, expK_bool, expK_str, expK_agg, expK_own, expK_tsl, resK_some, go_sem, reduceIte, Nat.reduceAdd, Nat.reduceEqDiff, Nat.reduceLT, Nat.reduceLeDiff, and_self, ]
  · have y0 : ((1 : Int) == 0) = false := rfl
    have y1 : ((1 : Int) == 1) = true := rfl
    by_cases hd : day < un
    · have eM : M = false := by rw [← hM, mayF, if_pos hd]
      subst eM
      have hd2 : ¬ un ≤ day := by omega
      have zz : (false == false) = true := rfl
      clear hM
      generalize isP ps pe = I at *
      cases I
      all_goals
        refine EvV.walk rfl fn11 rfl nt11 rfl ?_
        simp only [List.length_cons, List.length_nil, List.cons_append, List.nil_append, Nat.reduceAdd, Nat.reduceSub, List.replicate]
        repeat' (first | refine go1 ?_ | refine blockK_else rfl ?_ | (refine wpC_cond fun A B hA hB => ?_; simp only [go_sem, reduceIte, Nat.reduceAdd, Nat.reduceEqDiff, Nat.reduceLT, Nat.reduceLeDiff, *, and_self, hws, hvs, cv, cw, getElem?_len, getElem?_lenAdd, set_len, set_lenAdd, len_mid, ints_len, List.length_map, lt_mid, List.nil_append, List.cons_append, adopt_int, adopt_bool, adopt_two, adopt_agg, encP, List.getElem?_cons_succ, snap_str, c1, s1, q, qa, qc, z, q1, q2, q3, y0, y1, zz]; first | (refine hA.out ?_; clear hA hB A B) | (refine hB.out ?_; clear hA hB A B) | (refine iteI (fun h => hA.out ?_) (fun h => hB.out ?_) <;> clear hA hB A B) | (refine iteI (fun h => hB.out ?_) (fun h => hA.out ?_) <;> clear hA hB A B)) | (refine wpO_cons fun K hK => ?_; simp only [go_sem, reduceIte, Nat.reduceAdd, Nat.reduceEqDiff, Nat.reduceLT, Nat.reduceLeDiff, *, and_self, hws, hvs, cv, cw, getElem?_len, getElem?_lenAdd, set_len, set_lenAdd, len_mid, ints_len, List.length_map, lt_mid, List.nil_append, List.cons_append, adopt_int, adopt_bool, adopt_two, adopt_agg, encP, List.getElem?_cons_succ, snap_str, c1, s1, q, qa, qc, z, q1, q2, q3, y0, y1, zz]; first | (refine hK.out _ _ ?_; clear hK K) | (refine iteI (fun h => hK.out _ _ ?_) (fun h => hK.out _ _ ?_) <;> clear hK K)))
        simp only [resultsR, resultsL, resultA, expK_int, expK_bool, expK_str, expK_agg, expK_own, expK_tsl, resK_some, go_sem, reduceIte, Nat.reduceAdd, Nat.reduceEqDiff, Nat.reduceLT, Nat.reduceLeDiff, and_self, ]
    · have eM : M = (isP ps pe && (psn ps pe).mem) := by
        rw [← hM, mayF, if_neg hd]; simp
      subst eM
      have hd2 : un ≤ day := by omega
      have zz : (false == false) = true := rfl
      have zm : ((psn ps pe).mem == (psn ps pe).mem) = true := by simp
      clear hM
      generalize isP ps pe = I at *
      cases I
      all_goals
        simp only [Bool.true_and, Bool.false_and] at q2
        refine EvV.walk rfl fn11 rfl nt11 rfl ?_
        simp only [List.length_cons, List.length_nil, List.cons_append, List.nil_append, Nat.reduceAdd, Nat.reduceSub, List.replicate]
        repeat' (first | refine go1 ?_ | refine blockK_else rfl ?_ | (refine wpC_cond fun A B hA hB => ?_; simp only [go_sem, reduceIte, Nat.reduceAdd, Nat.reduceEqDiff, Nat.reduceLT, Nat.reduceLeDiff, *, and_self, hws, hvs, cv, cw, getElem?_len, getElem?_lenAdd, set_len, set_lenAdd, len_mid, ints_len, List.length_map, lt_mid, List.nil_append, List.cons_append, adopt_int, adopt_bool, adopt_two, adopt_agg, encP, List.getElem?_cons_succ, snap_str, c1, s1, q, qa, qc, z, q1, q2, q3, y0, y1, zz, zm]; first | (refine hA.out ?_; clear hA hB A B) | (refine hB.out ?_; clear hA hB A B) | (refine iteI (fun h => hA.out ?_) (fun h => hB.out ?_) <;> clear hA hB A B) | (refine iteI (fun h => hB.out ?_) (fun h => hA.out ?_) <;> clear hA hB A B)) | (refine wpO_cons fun K hK => ?_; simp only [go_sem, reduceIte, Nat.reduceAdd, Nat.reduceEqDiff, Nat.reduceLT, Nat.reduceLeDiff, *, and_self, hws, hvs, cv, cw, getElem?_len, getElem?_lenAdd, set_len, set_lenAdd, len_mid, ints_len, List.length_map, lt_mid, List.nil_append, List.cons_append, adopt_int, adopt_bool, adopt_two, adopt_agg, encP, List.getElem?_cons_succ, snap_str, c1, s1, q, qa, qc, z, q1, q2, q3, y0, y1, zz, zm]; first | (refine hK.out _ _ ?_; clear hK K) | (refine iteI (fun h => hK.out _ _ ?_) (fun h => hK.out _ _ ?_) <;> clear hK K)))
        simp only [resultsR, resultsL, resultA, expK_int, expK_bool, expK_str, expK_agg, expK_own, expK_tsl, resK_some, go_sem, reduceIte, Nat.reduceAdd, Nat.reduceEqDiff, Nat.reduceLT, Nat.reduceLeDiff, and_self, ]
  · have y0 : ((2 : Int) == 0) = false := rfl
    have y1 : ((2 : Int) == 1) = false := rfl
    have y3 : ((2 : Int) == 3) = false := rfl
    by_cases hp0 : pe = 0
    · have eM : M = false := by
        rw [← hM, mayF]
        split
        · rfl
        · rw [if_pos rfl, hp0]
          rw [List.any_eq_false]
          intro x _
          rw [nz]; simp
      subst eM
      have zp : (pe == 0) = true := by simpa using hp0
      clear hM hp0
      generalize isP ps pe = I at *
      cases I
      all_goals
        refine EvV.walk rfl fn11 rfl nt11 rfl ?_
        simp only [List.length_cons, List.length_nil, List.cons_append, List.nil_append, Nat.reduceAdd, Nat.reduceSub, List.replicate]
        repeat' (first | refine go1 ?_ | refine blockK_else rfl ?_ | (refine wpC_cond fun A B hA hB => ?_; simp only [go_sem, reduceIte, Nat.reduceAdd, Nat.reduceEqDiff, Nat.reduceLT, Nat.reduceLeDiff, *, and_self, hws, hvs, cv, cw, getElem?_len, getElem?_lenAdd, set_len, set_lenAdd, len_mid, ints_len, List.length_map, lt_mid, List.nil_append, List.cons_append, adopt_int, adopt_bool, adopt_two, adopt_agg, encP, List.getElem?_cons_succ, snap_str, c1, s1, q, qa, qc, z, q1, q2, q3, y0, y1, y3, zp]; first | (refine hA.out ?_; clear hA hB A B) | (refine hB.out ?_; clear hA hB A B) | (refine iteI (fun h => hA.out ?_) (fun h => hB.out ?_) <;> clear hA hB A B) | (refine iteI (fun h => hB.out ?_) (fun h => hA.out ?_) <;> clear hA hB A B)) | (refine wpO_cons fun K hK => ?_; simp only [go_sem, reduceIte, Nat.reduceAdd, Nat.reduceEqDiff, Nat.reduceLT, Nat.reduceLeDiff, *, and_self, hws, hvs, cv, cw, getElem?_len, getElem?_lenAdd, set_len, set_lenAdd, len_mid, ints_len, List.length_map, lt_mid, List.nil_append, List.cons_append, adopt_int, adopt_bool, adopt_two, adopt_agg, encP, List.getElem?_cons_succ, snap_str, c1, s1, q, qa, qc, z, q1, q2, q3, y0, y1, y3, zp]; first | (refine hK.out _ _ ?_; clear hK K) | (refine iteI (fun h => hK.out _ _ ?_) (fun h => hK.out _ _ ?_) <;> clear hK K)))
        simp only [resultsR, resultsL, resultA, expK_int, expK_bool, expK_str, expK_agg, expK_own, expK_tsl, resK_some, go_sem, reduceIte, Nat.reduceAdd, Nat.reduceEqDiff, Nat.reduceLT, Nat.reduceLeDiff, and_self, ]
    · have zp : (pe == 0) = false := by simpa using hp0
      clear hM
      generalize isP ps pe = I at *
      cases I
      all_goals
        refine EvV.walk rfl fn11 rfl nt11 rfl ?_
        simp only [List.length_cons, List.length_nil, List.cons_append, List.nil_append, Nat.reduceAdd, Nat.reduceSub, List.replicate]
        repeat' (first | refine go1 ?_ | refine blockK_else rfl ?_ | (refine wpC_cond fun A B hA hB => ?_; simp only [go_sem, reduceIte, Nat.reduceAdd, Nat.reduceEqDiff, Nat.reduceLT, Nat.reduceLeDiff, *, and_self, hws, hvs, cv, cw, getElem?_len, getElem?_lenAdd, set_len, set_lenAdd, len_mid, ints_len, List.length_map, lt_mid, List.nil_append, List.cons_append, adopt_int, adopt_bool, adopt_two, adopt_agg, encP, List.getElem?_cons_succ, snap_str, c1, s1, q, qa, qc, z, q1, q2, q3, y0, y1, y3, zp]; first | (refine hA.out ?_; clear hA hB A B) | (refine hB.out ?_; clear hA hB A B) | (refine iteI (fun h => hA.out ?_) (fun h => hB.out ?_) <;> clear hA hB A B) | (refine iteI (fun h => hB.out ?_) (fun h => hA.out ?_) <;> clear hA hB A B)) | (refine wpO_cons fun K hK => ?_; simp only [go_sem, reduceIte, Nat.reduceAdd, Nat.reduceEqDiff, Nat.reduceLT, Nat.reduceLeDiff, *, and_self, hws, hvs, cv, cw, getElem?_len, getElem?_lenAdd, set_len, set_lenAdd, len_mid, ints_len, List.length_map, lt_mid, List.nil_append, List.cons_append, adopt_int, adopt_bool, adopt_two, adopt_agg, encP, List.getElem?_cons_succ, snap_str, c1, s1, q, qa, qc, z, q1, q2, q3, y0, y1, y3, zp]; first | (refine hK.out _ _ ?_; clear hK K) | (refine iteI (fun h => hK.out _ _ ?_) (fun h => hK.out _ _ ?_) <;> clear hK K)))
        simp only [resultsR, resultsL, resultA, expK_int, expK_bool, expK_str, expK_agg, expK_own, expK_tsl, resK_some, go_sem, reduceIte, Nat.reduceAdd, Nat.reduceEqDiff, Nat.reduceLT, Nat.reduceLeDiff, and_self, ]
  · have y0 : ((3 : Int) == 0) = false := rfl
    have y1 : ((3 : Int) == 1) = false := rfl
    have y3 : ((3 : Int) == 3) = true := rfl
    have eM : M = false := by
      rw [← hM, mayF]; simp
    subst eM
    clear hM
    generalize isP ps pe = I at *
    cases I
    all_goals
      refine EvV.walk rfl fn11 rfl nt11 rfl ?_
      simp only [List.length_cons, List.length_nil, List.cons_append, List.nil_append, Nat.reduceAdd, Nat.reduceSub, List.replicate]
      repeat' (first | refine go1 ?_ | refine blockK_else rfl ?_ | (refine wpC_cond fun A B hA hB => ?_; simp only [go_sem, reduceIte, Nat.reduceAdd, Nat.reduceEqDiff, Nat.reduceLT, Nat.reduceLeDiff, *, and_self, hws, hvs, cv, cw, getElem?_len, getElem?_lenAdd, set_len, set_lenAdd, len_mid, ints_len, List.length_map, lt_mid, List.nil_append, List.cons_append, adopt_int, adopt_bool, adopt_two, adopt_agg, encP, List.getElem?_cons_succ, snap_str, c1, s1, q, qa, qc, z, q1, q2, q3, y0, y1, y3]; first | (refine hA.out ?_; clear hA hB A B) | (refine hB.out ?_; clear hA hB A B) | (refine iteI (fun h => hA.out ?_) (fun h => hB.out ?_) <;> clear hA hB A B) | (refine iteI (fun h => hB.out ?_) (fun h => hA.out ?_) <;> clear hA hB A B)) | (refine wpO_cons fun K hK => ?_; simp only [go_sem, reduceIte, Nat.reduceAdd, Nat.reduceEqDiff, Nat.reduceLT, Nat.reduceLeDiff, *, and_self, hws, hvs, cv, cw, getElem?_len, getElem?_lenAdd, set_len, set_lenAdd, len_mid, ints_len, List.length_map, lt_mid, List.nil_append, List.cons_append, adopt_int, adopt_bool, adopt_two, adopt_agg, encP, List.getElem?_cons_succ, snap_str, c1, s1, q, qa, qc, z, q1, q2, q3, y0, y1, y3]; first | (refine hK.out _ _ ?_; clear hK K) | (refine iteI (fun h => hK.out _ _ ?_) (fun h => hK.out _ _ ?_) <;> clear hK K)))
      simp only [resultsR, resultsL, resultA, expK_int, expK_bool, expK_str, expK_agg, expK_own, expK_tsl, resK_some, go_sem, reduceIte, Nat.reduceAdd, Nat.reduceEqDiff, Nat.reduceLT, Nat.reduceLeDiff, and_self, ]
end Go.Eng
