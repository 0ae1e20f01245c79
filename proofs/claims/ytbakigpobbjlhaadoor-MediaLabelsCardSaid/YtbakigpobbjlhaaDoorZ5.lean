/- Part 5 of the texts behind this claim. -/
import Derived.Test.YtbakigpobbjlhaaDoorZ4
set_option linter.all false

/- Recordings: the reference's Recs; Speaks and Heard. -/
namespace Go.Eng
open Go.Proofs
set_option linter.unusedSimpArgs false
set_option linter.unusedVariables false
attribute [local irreducible] wpC wpO wp1 EvV EvR wpL
attribute [local go_sem] ty3 ty4 ty9 ty24 ty27 ty30 ty33 ty35 ty37 eq27 br23 fz72 br41 fz41 br42 fz56 br26 br43 List.all_cons List.all_nil List.replicate List.set_cons_zero Nat.one_mul Nat.reduceMul Nat.zero_mul allocK appK bslA fz42 fz43 fz44 lenK_esl lenK_nils lenK_sl lenK_tsl nilsK rowsFill rowsOf_esl rowsOf_nils rowsOf_sl rowsOf_tsl br27 br44 fz57 fz58 beq_iff_eq beq_eq_false_iff_ne Int.natCast_inj Bool.not_eq_false' op1_go wpK_box wpK_alloc wpK_load wpK_store wpK_binOp wpK_unOp wpK_fieldAddr wpK_field wpK_build wpK_indexAddr wpK_slice wpK_len wpK_extract wpK_nilCheck wpK_pick wpK_makeFunc wpK_call wpK_callT wpK_max wpK_min wpK_assignT wpK_moveT wpK_assignB wpK_moveB wpK_assignI wpK_moveI wpK_assignA wpK_moveA callK_fn snapL_nil snapL_cons snap_int snap_bool snap_str snap_tsl snap_agg snap_fn snap_flat adopt_int adopt_bool adopt_str adopt_agg adopt_osl adopt_tsl adopt_tup op1_guard grdK_bool grdK_undef condK_bool someK_some pairK_some nilK_ptr nilK_tptr boxK storeK evalA_tmp evalA_int evalA_bool evalA_agg evalA_fn evalA_nil ofC_int ofC_bool getA_zero getA_succ cells_int cells_agg cells_bool cells_sl cells_tsl cell_int cell_bool cell_str cell_sl cell_esl cell_tsl cell_ptr cell_tptr cell_fn cell_nils cell_nilf List.all_cons List.all_nil Bool.and_true Bool.and_self Bool.true_and putA_some putA_none List.set_cons_zero List.set_cons_succ List.length_cons List.length_nil List.nil_append List.cons_append stabL AV.stab fieldAddrA fieldA List.getElem?_cons_zero List.getElem?_cons_succ Nat.zero_add loadA rowOf Nat.le_refl and_self true_and and_true partA binA unA intBin eqBin eqCells eqCell Option.bind_some decide_true decide_false decide_eq_true_eq ite_not Bool.not_eq_true' decide_eq_false_iff_not Bool.false_eq_true Option.map_some Option.map_none Bool.not_true Bool.not_false buildA fillA patch List.take List.drop List.map_cons List.map_nil extK List.getD_cons_zero List.getD_cons_succ minmaxA minmaxGo adoptZ_false adoptZ_true freeze_int freeze_bool freeze_str freeze_flat freeze_agg freeze_osl freeze_tsl freeze_tup frz1_bool frz1_int frz1_str frz1_agg frz1_osl frz1_tsl bne Bool.false_and Bool.and_false ne_eq not_true_eq_false not_false_eq_true List.append_nil
set_option maxHeartbeats 4000000

theorem at_app {S : Store} {b : Nat} {x : Blk} (h : S[b]? = some x) : ∀ X, (S ++ X)[b]? = some x := fun X => by
  rw [List.getElem?_append_left (List.getElem?_eq_some_iff.1 h).1]; exact h
theorem set_app {S : Store} {b : Nat} {x : Blk} (h : S[b]? = some x) : ∀ X y, (S ++ X).set b y = S.set b y ++ X := fun X y => by
  rw [List.set_append_left _ _ (List.getElem?_eq_some_iff.1 h).1]
theorem at_set {S : Store} {b : Nat} {x : Blk} (h : S[b]? = some x) : ∀ y X, (S.set b y ++ X)[b]? = some y := fun y X => by
  have hl := (List.getElem?_eq_some_iff.1 h).1
  rw [List.getElem?_append_left (by simpa using hl), List.getElem?_set_self hl]
theorem at_new {S X : Store} {b : Nat} {y : Blk} : (S.set b y ++ X)[S.length]? = X[0]? := by
  have := getElem?_len (G := S.set b y) (l := X); rwa [List.length_set] at this

theorem recsR {w : AV} {ps : List Psn} (hw : SLs 3 (ps.map encP) w) (hl : ps.length < 9223372036854775807) (rs : List Rec) (hok : ∀ x ∈ rs, x.ok) (hn : ∀ x ∈ rs, x.name.size ≤ 1048576) (hs : ∀ x ∈ rs, x.sp.length < 9223372036854775807) (hrl : rs.length < 9223372036854775807) (st : Bool) :
    EvV CX 25 [w, .tsl st 5 (rs.map encRc)] (· = .int .i64 (recsF ps rs)) := by
  have hv : SLs 5 (rs.map encRc) (.tsl st 5 (rs.map encRc)) := .rows st
  have hws := hw.snap
  by_cases k1 : 12 < (rs.length : Int)
  · have e : recsF ps rs = 11 := by rw [recsF, if_neg (by omega)]
    rw [e]
    clear e
    refine EvV.walk rfl fn25 rfl nt25 rfl ?_
    simp only [List.length_cons, List.length_nil, List.cons_append, List.nil_append, Nat.reduceAdd, Nat.reduceSub, List.replicate]
    repeat' (first | refine go1 ?_ | refine blockK_else rfl ?_ | (refine wpC_cond fun A B hA hB => ?_; simp only [go_sem, reduceIte, Nat.reduceAdd, Nat.reduceEqDiff, Nat.reduceLT, Nat.reduceLeDiff, *, and_self, lenK_sls hv, List.length_map]; first | (refine hA.out ?_; clear hA hB A B) | (refine hB.out ?_; clear hA hB A B) | (refine iteI (fun h => hA.out ?_) (fun h => hB.out ?_) <;> clear hA hB A B) | (refine iteI (fun h => hB.out ?_) (fun h => hA.out ?_) <;> clear hA hB A B)) | (refine wpO_cons fun K hK => ?_; simp only [go_sem, reduceIte, Nat.reduceAdd, Nat.reduceEqDiff, Nat.reduceLT, Nat.reduceLeDiff, *, and_self, lenK_sls hv, List.length_map]; first | (refine hK.out _ _ ?_; clear hK K) | (refine iteI (fun h => hK.out _ _ ?_) (fun h => hK.out _ _ ?_) <;> clear hK K)))
    simp only [resultsR, resultsL, resultA, expK_int, expK_bool, expK_str, expK_agg, expK_own, expK_tsl, resK_some, go_sem, reduceIte, Nat.reduceAdd, Nat.reduceEqDiff, Nat.reduceLT, Nat.reduceLeDiff, and_self, ]
  have e : recsF ps rs = rcF ps [] rs := by rw [recsF, if_pos (by omega)]
  rw [e]
  clear e
  refine EvV.walk rfl fn25 rfl nt25 rfl ?_
  simp only [List.length_cons, List.length_nil, List.cons_append, List.nil_append, Nat.reduceAdd, Nat.reduceSub, List.replicate]
  repeat' (first | refine go1 ?_ | refine blockK_else rfl ?_ | (refine wpC_cond fun A B hA hB => ?_; simp only [go_sem, reduceIte, Nat.reduceAdd, Nat.reduceEqDiff, Nat.reduceLT, Nat.reduceLeDiff, *, and_self, lenK_sls hv, List.length_map]; first | (refine hA.out ?_; clear hA hB A B) | (refine hB.out ?_; clear hA hB A B) | (refine iteI (fun h => hA.out ?_) (fun h => hB.out ?_) <;> clear hA hB A B) | (refine iteI (fun h => hB.out ?_) (fun h => hA.out ?_) <;> clear hA hB A B)) | (refine wpO_cons fun K hK => ?_; simp only [go_sem, reduceIte, Nat.reduceAdd, Nat.reduceEqDiff, Nat.reduceLT, Nat.reduceLeDiff, *, and_self, lenK_sls hv, List.length_map]; first | (refine hK.out _ _ ?_; clear hK K) | (refine iteI (fun h => hK.out _ _ ?_) (fun h => hK.out _ _ ?_) <;> clear hK K)))
  refine wpC_each [4, 5, 6, 7, 14, 15, 16, 17, 18, 19, 20, 21, 22, 23, 24, 25, 26, 27, 28, 29, 30, 31, 32, 33, 34, 35, 36, 37, 38, 39, 40, 41, 42, 43, 44, 45, 46, 47, 48, 49, 50, 51, 52, 53, 54, 55, 56, 57] 13 rs (fun pre post => rcF ps [] rs = rcF ps pre post) ?_ ?_ ?_ ?_
  · rfl
  · ((try simp only [eraseA_cons, eraseA_nil, setL_cons, setL_nil, List.set_cons_zero, List.set_cons_succ]); all_goals (first | rfl | (simp only [len_snoc, ints_len, List.length_map, ]; done) | (simp only [len_snoc, len_mid, ints_len, List.length_map, List.length_append, List.length_cons, List.length_nil, Nat.zero_add, ]; done) | (simp only [len_mid, len_snoc, ints_len, List.length_map, List.length_append, List.length_cons, List.length_nil, Nat.zero_add, ]; rfl)))
  · intro g G hE
    rw [hE]
    simp only [garbA_cons, garbA_nil, setL_cons, setL_nil, List.set_cons_zero, List.set_cons_succ]
    repeat' (first | refine go1 ?_ | refine blockK_else rfl ?_ | (refine wpC_cond fun A B hA hB => ?_; simp only [go_sem, reduceIte, Nat.reduceAdd, Nat.reduceEqDiff, Nat.reduceLT, Nat.reduceLeDiff, *, and_self, ints_len, List.length_map, Int.lt_irrefl, List.nil_append]; first | (refine hA.out ?_; clear hA hB A B) | (refine hB.out ?_; clear hA hB A B) | (refine iteI (fun h => hA.out ?_) (fun h => hB.out ?_) <;> clear hA hB A B) | (refine iteI (fun h => hB.out ?_) (fun h => hA.out ?_) <;> clear hA hB A B)) | (refine wpO_cons fun K hK => ?_; simp only [go_sem, reduceIte, Nat.reduceAdd, Nat.reduceEqDiff, Nat.reduceLT, Nat.reduceLeDiff, *, and_self, ints_len, List.length_map, Int.lt_irrefl, List.nil_append]; first | (refine hK.out _ _ ?_; clear hK K) | (refine iteI (fun h => hK.out _ _ ?_) (fun h => hK.out _ _ ?_) <;> clear hK K)))
    simp only [resultsR, resultsL, resultA, expK_int, expK_bool, expK_str, expK_agg, expK_own, expK_tsl, resK_some, go_sem, reduceIte, Nat.reduceAdd, Nat.reduceEqDiff, Nat.reduceLT, Nat.reduceLeDiff, and_self, ]
    rfl
  intro g G pre x post h1 hE
  have i1 := idx_sls hv (X := CX) ty37 ty35 rfl (by rw [h1]; exact map_mid encRc pre x post) (k := .i64)
  have i2 := prev_sls (f := encRc) (v := .tsl st 5 (rs.map encRc)) (pre := pre) (x := x) (post := post) (by rw [← h1]; exact hv) (by rw [← h1]; exact hrl) (X := CX) ty37 ty35 rfl noR (k := .i64)
  have lt1 : (pre.length : Int) < (rs.length : Int) := by rw [h1]; simp; omega
  have w1 := wrap_succ (n := pre.length) (by omega)
  have hx := hok x (by rw [h1]; simp)
  have c1 := hx.sv.cell
  have s1 := hx.sv.snap
  have qk := (checkRr hw hl hx (hn x (by rw [h1]; simp)) (hs x (by rw [h1]; simp))).rw
  have hpr : (0 : Int) < (pre.length : Int) → (pre.getLastD noR).sv.cell = true := fun h => by
    rcases snoc_cases pre with rfl | ⟨p', z, rfl⟩
    · simp at h
    · simp only [List.getLastD_concat]
      exact (hok z (by rw [h1]; simp)).sv.cell
  have hh1 : Hold (rs = pre ++ x :: post) := ⟨h1⟩
  rw [hE, rcF]
  clear hE h1
  simp only [encRc] at qk i2 i1
  simp only [garbA_cons, garbA_nil, setL_cons, setL_nil, List.set_cons_zero, List.set_cons_succ]
  by_cases k2 : chkC ps x = 0
  · rw [if_pos k2]
    rw [k2] at qk
    clear k2
    by_cases o : (0 : Int) < (pre.length : Int) ∧ x.id ≤ (pre.getLastD noR).id
    · rw [if_pos o]
      obtain ⟨o1, o2⟩ := o
      have i2 := i2 o1
      have hpr := hpr o1
      repeat' (first | refine go1 ?_ | refine blockK_else rfl ?_ | (refine wpC_cond fun A B hA hB => ?_; simp only [go_sem, reduceIte, Nat.reduceAdd, Nat.reduceEqDiff, Nat.reduceLT, Nat.reduceLeDiff, *, and_self, encRc, snap_str, List.cons_append, Bool.not_true, Bool.not_false, c1, s1, hws, i1, i2, hpr, w1, qk, getElem?_len, getElem?_lenAdd, set_len, set_lenAdd, len_mid, ints_len, List.length_map, lt_mid, List.nil_append]; first | (refine hA.out ?_; clear hA hB A B) | (refine hB.out ?_; clear hA hB A B) | (refine iteI (fun h => hA.out ?_) (fun h => hB.out ?_) <;> clear hA hB A B) | (refine iteI (fun h => hB.out ?_) (fun h => hA.out ?_) <;> clear hA hB A B)) | (refine wpO_cons fun K hK => ?_; simp only [go_sem, reduceIte, Nat.reduceAdd, Nat.reduceEqDiff, Nat.reduceLT, Nat.reduceLeDiff, *, and_self, encRc, snap_str, List.cons_append, Bool.not_true, Bool.not_false, c1, s1, hws, i1, i2, hpr, w1, qk, getElem?_len, getElem?_lenAdd, set_len, set_lenAdd, len_mid, ints_len, List.length_map, lt_mid, List.nil_append]; first | (refine hK.out _ _ ?_; clear hK K) | (refine iteI (fun h => hK.out _ _ ?_) (fun h => hK.out _ _ ?_) <;> clear hK K)))
      simp only [resultsR, resultsL, resultA, expK_int, expK_bool, expK_str, expK_agg, expK_own, expK_tsl, resK_some, go_sem, reduceIte, Nat.reduceAdd, Nat.reduceEqDiff, Nat.reduceLT, Nat.reduceLeDiff, and_self, ]
    · rw [if_neg o]
      have hx : (¬ (0 : Int) < (pre.length : Int)) ∨ ((0 : Int) < (pre.length : Int) ∧ ¬ x.id ≤ (pre.getLastD noR).id) := by omega
      clear o
      rcases hx with o1 | ⟨o1, o2⟩
      · clear i2 hpr
        repeat' (first | refine go1 ?_ | refine blockK_else rfl ?_ | (refine wpC_cond fun A B hA hB => ?_; simp only [go_sem, reduceIte, Nat.reduceAdd, Nat.reduceEqDiff, Nat.reduceLT, Nat.reduceLeDiff, *, and_self, encRc, snap_str, List.cons_append, Bool.not_true, Bool.not_false, c1, s1, hws, i1, w1, qk, getElem?_len, getElem?_lenAdd, set_len, set_lenAdd, len_mid, ints_len, List.length_map, lt_mid, List.nil_append]; first | (refine hA.out ?_; clear hA hB A B) | (refine hB.out ?_; clear hA hB A B) | (refine iteI (fun h => hA.out ?_) (fun h => hB.out ?_) <;> clear hA hB A B) | (refine iteI (fun h => hB.out ?_) (fun h => hA.out ?_) <;> clear hA hB A B)) | (refine wpO_cons fun K hK => ?_; simp only [go_sem, reduceIte, Nat.reduceAdd, Nat.reduceEqDiff, Nat.reduceLT, Nat.reduceLeDiff, *, and_self, encRc, snap_str, List.cons_append, Bool.not_true, Bool.not_false, c1, s1, hws, i1, w1, qk, getElem?_len, getElem?_lenAdd, set_len, set_lenAdd, len_mid, ints_len, List.length_map, lt_mid, List.nil_append]; first | (refine hK.out _ _ ?_; clear hK K) | (refine iteI (fun h => hK.out _ _ ?_) (fun h => hK.out _ _ ?_) <;> clear hK K)))
        refine wpC_loopF [4, 41, 42, 43, 44, 45, 46, 47, 48, 49, 50, 51, 52, 53, 54, 55, 56] (fun p : List Rec × List Rec => [(7, .int .i64 p.1.length)]) (fun _ H => H) (fun p => pre = p.1 ++ p.2 ∧ (pre.any fun y => nmE y x) = (p.2.any fun y => nmE y x)) (fun p => p.2.length) ([], pre) ⟨rfl, rfl⟩ ?_ ⟨_, rfl⟩ ?_
        · ((try simp only [eraseA_cons, eraseA_nil, setL_cons, setL_nil, List.set_cons_zero, List.set_cons_succ]); all_goals (first | rfl | (simp only [len_snoc, ints_len, List.length_map, ]; done) | (simp only [len_snoc, len_mid, ints_len, List.length_map, List.length_append, List.length_cons, List.length_nil, Nat.zero_add, ]; done) | (simp only [len_mid, len_snoc, ints_len, List.length_map, List.length_append, List.length_cons, List.length_nil, Nat.zero_add, ]; rfl)))
        rintro ⟨pr, po⟩ g2 G2 ⟨j1, j2⟩
        simp only at j1 j2
        simp only [garbA_cons, garbA_nil, setL_cons, setL_nil, List.set_cons_zero, List.set_cons_succ]
        cases po with
        | nil =>
          have ltn : ¬ (pr.length : Int) < (pre.length : Int) := by rw [j1, List.append_nil]; omega
          have ea : (pre.any fun y => nmE y x) = false := by rw [j2]; rfl
          rw [if_neg (by rw [ea]; simp)]
          clear j1 j2 ea
          repeat' (first | refine go1 ?_ | refine blockK_else rfl ?_ | (refine wpC_cond fun A B hA hB => ?_; simp only [go_sem, reduceIte, Nat.reduceAdd, Nat.reduceEqDiff, Nat.reduceLT, Nat.reduceLeDiff, *, and_self, w1]; first | (refine hA.out ?_; clear hA hB A B) | (refine hB.out ?_; clear hA hB A B) | (refine iteI (fun h => hA.out ?_) (fun h => hB.out ?_) <;> clear hA hB A B) | (refine iteI (fun h => hB.out ?_) (fun h => hA.out ?_) <;> clear hA hB A B)) | (refine wpO_cons fun K hK => ?_; simp only [go_sem, reduceIte, Nat.reduceAdd, Nat.reduceEqDiff, Nat.reduceLT, Nat.reduceLeDiff, *, and_self, w1]; first | (refine hK.out _ _ ?_; clear hK K) | (refine iteI (fun h => hK.out _ _ ?_) (fun h => hK.out _ _ ?_) <;> clear hK K)))
          refine each_next hh1.out rfl ?_ ?_
          · ((try simp only [eraseA_cons, eraseA_nil, setL_cons, setL_nil, List.set_cons_zero, List.set_cons_succ]); all_goals (first | rfl | (simp only [len_snoc, ints_len, List.length_map, ]; done) | (simp only [len_snoc, len_mid, ints_len, List.length_map, List.length_append, List.length_cons, List.length_nil, Nat.zero_add, ]; done) | (simp only [len_mid, len_snoc, ints_len, List.length_map, List.length_append, List.length_cons, List.length_nil, Nat.zero_add, ]; rfl)))
          · first | exact ⟨[], (List.append_nil _).symm⟩ | exact ⟨_, rfl⟩ | (simp only [List.append_assoc, List.cons_append, List.nil_append]; exact ⟨_, rfl⟩)
        | cons y po =>
          have lt2 : (pr.length : Int) < (pre.length : Int) := by rw [j1]; simp; omega
          have hy := hok y (by rw [hh1.out, j1]; simp)
          have cy := hy.sv.cell
          have iy := idx_sls hv (X := CX) ty37 ty35 rfl (n := pr.length) (row := encRc y) (by rw [hh1.out, j1]; simp) (k := .i64)
          have w3 := wrap_succ (n := pr.length) (by have : pre.length < rs.length := by omega
                                                    omega)
          have hj : Hold (pre = (pr ++ [y]) ++ po) := ⟨by rw [j1]; simp⟩
          rw [List.any_cons] at j2
          simp only [encRc] at iy
          cases hn : nmE y x with
          | true =>
            rw [hn, Bool.true_or] at j2
            rw [if_pos j2]
            rw [nmE] at hn
            clear j1 j2
            repeat' (first | refine go1 ?_ | refine blockK_else rfl ?_ | (refine wpC_cond fun A B hA hB => ?_; simp only [go_sem, reduceIte, Nat.reduceAdd, Nat.reduceEqDiff, Nat.reduceLT, Nat.reduceLeDiff, *, and_self, encRc, snap_str, List.cons_append, Bool.not_true, Bool.not_false, c1, cy, i1, iy, strBin, hn, w3, getElem?_len, getElem?_lenAdd, set_len, set_lenAdd, len_mid, ints_len, List.length_map, lt_mid, List.nil_append]; first | (refine hA.out ?_; clear hA hB A B) | (refine hB.out ?_; clear hA hB A B) | (refine iteI (fun h => hA.out ?_) (fun h => hB.out ?_) <;> clear hA hB A B) | (refine iteI (fun h => hB.out ?_) (fun h => hA.out ?_) <;> clear hA hB A B)) | (refine wpO_cons fun K hK => ?_; simp only [go_sem, reduceIte, Nat.reduceAdd, Nat.reduceEqDiff, Nat.reduceLT, Nat.reduceLeDiff, *, and_self, encRc, snap_str, List.cons_append, Bool.not_true, Bool.not_false, c1, cy, i1, iy, strBin, hn, w3, getElem?_len, getElem?_lenAdd, set_len, set_lenAdd, len_mid, ints_len, List.length_map, lt_mid, List.nil_append]; first | (refine hK.out _ _ ?_; clear hK K) | (refine iteI (fun h => hK.out _ _ ?_) (fun h => hK.out _ _ ?_) <;> clear hK K)))
            simp only [resultsR, resultsL, resultA, expK_int, expK_bool, expK_str, expK_agg, expK_own, expK_tsl, resK_some, go_sem, reduceIte, Nat.reduceAdd, Nat.reduceEqDiff, Nat.reduceLT, Nat.reduceLeDiff, and_self, ]
          | false =>
            rw [hn, Bool.false_or] at j2
            rw [nmE] at hn
            have hj2 : Hold ((pre.any fun y => nmE y x) = (po.any fun y => nmE y x)) := ⟨j2⟩
            clear j1 j2
            repeat' (first | refine go1 ?_ | refine blockK_else rfl ?_ | (refine wpC_cond fun A B hA hB => ?_; simp only [go_sem, reduceIte, Nat.reduceAdd, Nat.reduceEqDiff, Nat.reduceLT, Nat.reduceLeDiff, *, and_self, encRc, snap_str, List.cons_append, Bool.not_true, Bool.not_false, c1, cy, i1, iy, strBin, hn, w3, getElem?_len, getElem?_lenAdd, set_len, set_lenAdd, len_mid, ints_len, List.length_map, lt_mid, List.nil_append]; first | (refine hA.out ?_; clear hA hB A B) | (refine hB.out ?_; clear hA hB A B) | (refine iteI (fun h => hA.out ?_) (fun h => hB.out ?_) <;> clear hA hB A B) | (refine iteI (fun h => hB.out ?_) (fun h => hA.out ?_) <;> clear hA hB A B)) | (refine wpO_cons fun K hK => ?_; simp only [go_sem, reduceIte, Nat.reduceAdd, Nat.reduceEqDiff, Nat.reduceLT, Nat.reduceLeDiff, *, and_self, encRc, snap_str, List.cons_append, Bool.not_true, Bool.not_false, c1, cy, i1, iy, strBin, hn, w3, getElem?_len, getElem?_lenAdd, set_len, set_lenAdd, len_mid, ints_len, List.length_map, lt_mid, List.nil_append]; first | (refine hK.out _ _ ?_; clear hK K) | (refine iteI (fun h => hK.out _ _ ?_) (fun h => hK.out _ _ ?_) <;> clear hK K)))
            refine loopF_next (pr ++ [y], po) (Nat.lt_succ_self _) ⟨hj.out, hj2.out⟩ ?_ ⟨_, rfl⟩
            ((try simp only [eraseA_cons, eraseA_nil, setL_cons, setL_nil, List.set_cons_zero, List.set_cons_succ]); all_goals (first | rfl | (simp only [len_snoc, ints_len, List.length_map, ]; done) | (simp only [len_snoc, len_mid, ints_len, List.length_map, List.length_append, List.length_cons, List.length_nil, Nat.zero_add, ]; done) | (simp only [len_mid, len_snoc, ints_len, List.length_map, List.length_append, List.length_cons, List.length_nil, Nat.zero_add, ]; rfl)))
      · have i2 := i2 o1
        have hpr := hpr o1
        repeat' (first | refine go1 ?_ | refine blockK_else rfl ?_ | (refine wpC_cond fun A B hA hB => ?_; simp only [go_sem, reduceIte, Nat.reduceAdd, Nat.reduceEqDiff, Nat.reduceLT, Nat.reduceLeDiff, *, and_self, encRc, snap_str, List.cons_append, Bool.not_true, Bool.not_false, c1, s1, hws, i1, i2, hpr, w1, qk, getElem?_len, getElem?_lenAdd, set_len, set_lenAdd, len_mid, ints_len, List.length_map, lt_mid, List.nil_append]; first | (refine hA.out ?_; clear hA hB A B) | (refine hB.out ?_; clear hA hB A B) | (refine iteI (fun h => hA.out ?_) (fun h => hB.out ?_) <;> clear hA hB A B) | (refine iteI (fun h => hB.out ?_) (fun h => hA.out ?_) <;> clear hA hB A B)) | (refine wpO_cons fun K hK => ?_; simp only [go_sem, reduceIte, Nat.reduceAdd, Nat.reduceEqDiff, Nat.reduceLT, Nat.reduceLeDiff, *, and_self, encRc, snap_str, List.cons_append, Bool.not_true, Bool.not_false, c1, s1, hws, i1, i2, hpr, w1, qk, getElem?_len, getElem?_lenAdd, set_len, set_lenAdd, len_mid, ints_len, List.length_map, lt_mid, List.nil_append]; first | (refine hK.out _ _ ?_; clear hK K) | (refine iteI (fun h => hK.out _ _ ?_) (fun h => hK.out _ _ ?_) <;> clear hK K)))
        refine wpC_loopF [4, 41, 42, 43, 44, 45, 46, 47, 48, 49, 50, 51, 52, 53, 54, 55, 56] (fun p : List Rec × List Rec => [(7, .int .i64 p.1.length)]) (fun _ H => H) (fun p => pre = p.1 ++ p.2 ∧ (pre.any fun y => nmE y x) = (p.2.any fun y => nmE y x)) (fun p => p.2.length) ([], pre) ⟨rfl, rfl⟩ ?_ ⟨_, rfl⟩ ?_
        · ((try simp only [eraseA_cons, eraseA_nil, setL_cons, setL_nil, List.set_cons_zero, List.set_cons_succ]); all_goals (first | rfl | (simp only [len_snoc, ints_len, List.length_map, ]; done) | (simp only [len_snoc, len_mid, ints_len, List.length_map, List.length_append, List.length_cons, List.length_nil, Nat.zero_add, ]; done) | (simp only [len_mid, len_snoc, ints_len, List.length_map, List.length_append, List.length_cons, List.length_nil, Nat.zero_add, ]; rfl)))
        rintro ⟨pr, po⟩ g2 G2 ⟨j1, j2⟩
        simp only at j1 j2
        simp only [garbA_cons, garbA_nil, setL_cons, setL_nil, List.set_cons_zero, List.set_cons_succ]
        cases po with
        | nil =>
          have ltn : ¬ (pr.length : Int) < (pre.length : Int) := by rw [j1, List.append_nil]; omega
          have ea : (pre.any fun y => nmE y x) = false := by rw [j2]; rfl
          rw [if_neg (by rw [ea]; simp)]
          clear j1 j2 ea
          repeat' (first | refine go1 ?_ | refine blockK_else rfl ?_ | (refine wpC_cond fun A B hA hB => ?_; simp only [go_sem, reduceIte, Nat.reduceAdd, Nat.reduceEqDiff, Nat.reduceLT, Nat.reduceLeDiff, *, and_self, w1]; first | (refine hA.out ?_; clear hA hB A B) | (refine hB.out ?_; clear hA hB A B) | (refine iteI (fun h => hA.out ?_) (fun h => hB.out ?_) <;> clear hA hB A B) | (refine iteI (fun h => hB.out ?_) (fun h => hA.out ?_) <;> clear hA hB A B)) | (refine wpO_cons fun K hK => ?_; simp only [go_sem, reduceIte, Nat.reduceAdd, Nat.reduceEqDiff, Nat.reduceLT, Nat.reduceLeDiff, *, and_self, w1]; first | (refine hK.out _ _ ?_; clear hK K) | (refine iteI (fun h => hK.out _ _ ?_) (fun h => hK.out _ _ ?_) <;> clear hK K)))
          refine each_next hh1.out rfl ?_ ?_
          · ((try simp only [eraseA_cons, eraseA_nil, setL_cons, setL_nil, List.set_cons_zero, List.set_cons_succ]); all_goals (first | rfl | (simp only [len_snoc, ints_len, List.length_map, ]; done) | (simp only [len_snoc, len_mid, ints_len, List.length_map, List.length_append, List.length_cons, List.length_nil, Nat.zero_add, ]; done) | (simp only [len_mid, len_snoc, ints_len, List.length_map, List.length_append, List.length_cons, List.length_nil, Nat.zero_add, ]; rfl)))
          · first | exact ⟨[], (List.append_nil _).symm⟩ | exact ⟨_, rfl⟩ | (simp only [List.append_assoc, List.cons_append, List.nil_append]; exact ⟨_, rfl⟩)
        | cons y po =>
          have lt2 : (pr.length : Int) < (pre.length : Int) := by rw [j1]; simp; omega
          have hy := hok y (by rw [hh1.out, j1]; simp)
          have cy := hy.sv.cell
          have iy := idx_sls hv (X := CX) ty37 ty35 rfl (n := pr.length) (row := encRc y) (by rw [hh1.out, j1]; simp) (k := .i64)
          have w3 := wrap_succ (n := pr.length) (by have : pre.length < rs.length := by omega
                                                    omega)
          have hj : Hold (pre = (pr ++ [y]) ++ po) := ⟨by rw [j1]; simp⟩
          rw [List.any_cons] at j2
          simp only [encRc] at iy
          cases hn : nmE y x with
          | true =>
            rw [hn, Bool.true_or] at j2
            rw [if_pos j2]
            rw [nmE] at hn
            clear j1 j2
            repeat' (first | refine go1 ?_ | refine blockK_else rfl ?_ | (refine wpC_cond fun A B hA hB => ?_; simp only [go_sem, reduceIte, Nat.reduceAdd, Nat.reduceEqDiff, Nat.reduceLT, Nat.reduceLeDiff, *, and_self, encRc, snap_str, List.cons_append, Bool.not_true, Bool.not_false, c1, cy, i1, iy, strBin, hn, w3, getElem?_len, getElem?_lenAdd, set_len, set_lenAdd, len_mid, ints_len, List.length_map, lt_mid, List.nil_append]; first | (refine hA.out ?_; clear hA hB A B) | (refine hB.out ?_; clear hA hB A B) | (refine iteI (fun h => hA.out ?_) (fun h => hB.out ?_) <;> clear hA hB A B) | (refine iteI (fun h => hB.out ?_) (fun h => hA.out ?_) <;> clear hA hB A B)) | (refine wpO_cons fun K hK => ?_; simp only [go_sem, reduceIte, Nat.reduceAdd, Nat.reduceEqDiff, Nat.reduceLT, Nat.reduceLeDiff, *, and_self, encRc, snap_str, List.cons_append, Bool.not_true, Bool.not_false, c1, cy, i1, iy, strBin, hn, w3, getElem?_len, getElem?_lenAdd, set_len, set_lenAdd, len_mid, ints_len, List.length_map, lt_mid, List.nil_append]; first | (refine hK.out _ _ ?_; clear hK K) | (refine iteI (fun h => hK.out _ _ ?_) (fun h => hK.out _ _ ?_) <;> clear hK K)))
            simp only [resultsR, resultsL, resultA, expK_int, expK_bool, expK_str, expK_agg, expK_own, expK_tsl, resK_some, go_sem, reduceIte, Nat.reduceAdd, Nat.reduceEqDiff, Nat.reduceLT, Nat.reduceLeDiff, and_self, ]
          | false =>
            rw [hn, Bool.false_or] at j2
            rw [nmE] at hn
            have hj2 : Hold ((pre.any fun y => nmE y x) = (po.any fun y => nmE y x)) := ⟨j2⟩
            clear j1 j2
            repeat' (first | refine go1 ?_ | refine blockK_else rfl ?_ | (refine wpC_cond fun A B hA hB => ?_; simp only [go_sem, reduceIte, Nat.reduceAdd, Nat.reduceEqDiff, Nat.reduceLT, Nat.reduceLeDiff, *, and_self, encRc, snap_str, List.cons_append, Bool.not_true, Bool.not_false, c1, cy, i1, iy, strBin, hn, w3, getElem?_len, getElem?_lenAdd, set_len, set_lenAdd, len_mid, ints_len, List.length_map, lt_mid, List.nil_append]; first | (refine hA.out ?_; clear hA hB A B) | (refine hB.out ?_; clear hA hB A B) | (refine iteI (fun h => hA.out ?_) (fun h => hB.out ?_) <;> clear hA hB A B) | (refine iteI (fun h => hB.out ?_) (fun h => hA.out ?_) <;> clear hA hB A B)) | (refine wpO_cons fun K hK => ?_; simp only [go_sem, reduceIte, Nat.reduceAdd, Nat.reduceEqDiff, Nat.reduceLT, Nat.reduceLeDiff, *, and_self, encRc, snap_str, List.cons_append, Bool.not_true, Bool.not_false, c1, cy, i1, iy, strBin, hn, w3, getElem?_len, getElem?_lenAdd, set_len, set_lenAdd, len_mid, ints_len, List.length_map, lt_mid, List.nil_append]; first | (refine hK.out _ _ ?_; clear hK K) | (refine iteI (fun h => hK.out _ _ ?_) (fun h => hK.out _ _ ?_) <;> clear hK K)))
            refine loopF_next (pr ++ [y], po) (Nat.lt_succ_self _) ⟨hj.out, hj2.out⟩ ?_ ⟨_, rfl⟩
            ((try simp only [eraseA_cons, eraseA_nil, setL_cons, setL_nil, List.set_cons_zero, List.set_cons_succ]); all_goals (first | rfl | (simp only [len_snoc, ints_len, List.length_map, ]; done) | (simp only [len_snoc, len_mid, ints_len, List.length_map, List.length_append, List.length_cons, List.length_nil, Nat.zero_add, ]; done) | (simp only [len_mid, len_snoc, ints_len, List.length_map, List.length_append, List.length_cons, List.length_nil, Nat.zero_add, ]; rfl)))
  · rw [if_neg k2]
    have kb : (chkC ps x == 0) = false := by simpa using k2
    generalize chkC ps x = e at k2 kb qk
    clear i2 hpr k2
    repeat' (first | refine go1 ?_ | refine blockK_else rfl ?_ | (refine wpC_cond fun A B hA hB => ?_; simp only [go_sem, reduceIte, Nat.reduceAdd, Nat.reduceEqDiff, Nat.reduceLT, Nat.reduceLeDiff, *, and_self, encRc, snap_str, List.cons_append, Bool.not_true, Bool.not_false, c1, s1, hws, i1, w1, qk, kb, getElem?_len, getElem?_lenAdd, set_len, set_lenAdd, len_mid, ints_len, List.length_map, lt_mid, List.nil_append]; first | (refine hA.out ?_; clear hA hB A B) | (refine hB.out ?_; clear hA hB A B) | (refine iteI (fun h => hA.out ?_) (fun h => hB.out ?_) <;> clear hA hB A B) | (refine iteI (fun h => hB.out ?_) (fun h => hA.out ?_) <;> clear hA hB A B)) | (refine wpO_cons fun K hK => ?_; simp only [go_sem, reduceIte, Nat.reduceAdd, Nat.reduceEqDiff, Nat.reduceLT, Nat.reduceLeDiff, *, and_self, encRc, snap_str, List.cons_append, Bool.not_true, Bool.not_false, c1, s1, hws, i1, w1, qk, kb, getElem?_len, getElem?_lenAdd, set_len, set_lenAdd, len_mid, ints_len, List.length_map, lt_mid, List.nil_append]; first | (refine hK.out _ _ ?_; clear hK K) | (refine iteI (fun h => hK.out _ _ ?_) (fun h => hK.out _ _ ?_) <;> clear hK K)))
    simp only [resultsR, resultsL, resultA, expK_int, expK_bool, expK_str, expK_agg, expK_own, expK_tsl, resK_some, go_sem, reduceIte, Nat.reduceAdd, Nat.reduceEqDiff, Nat.reduceLT, Nat.reduceLeDiff, and_self, ]

theorem speaksM (r : Rec) (n : Int) (hr : r.ok) (hl : r.sp.length < 9223372036854775807) : EvV CX 26 [.agg (encRc r), .int .i64 n] (· = .bool (r.sp.contains n)) := by
  have c1 := hr.sv.cell
  have s1 := hr.sv.snap
  have q := (hasN r.sv r.sp n hr.sv hl).rw
  refine EvV.walk rfl fn26 rfl nt26 rfl ?_
  simp only [List.length_cons, List.length_nil, List.cons_append, List.nil_append, Nat.reduceAdd, Nat.reduceSub, List.replicate]
  repeat' (first | refine go1 ?_ | refine blockK_else rfl ?_ | (refine wpC_cond fun A B hA hB => ?_; simp only [go_sem, reduceIte, Nat.reduceAdd, Nat.reduceEqDiff, Nat.reduceLT, Nat.reduceLeDiff, *, and_self, encRc, snap_str, List.cons_append, Bool.not_true, Bool.not_false, c1, s1, q]; first | (refine hA.out ?_; clear hA hB A B) | (refine hB.out ?_; clear hA hB A B) | (refine iteI (fun h => hA.out ?_) (fun h => hB.out ?_) <;> clear hA hB A B) | (refine iteI (fun h => hB.out ?_) (fun h => hA.out ?_) <;> clear hA hB A B)) | (refine wpO_cons fun K hK => ?_; simp only [go_sem, reduceIte, Nat.reduceAdd, Nat.reduceEqDiff, Nat.reduceLT, Nat.reduceLeDiff, *, and_self, encRc, snap_str, List.cons_append, Bool.not_true, Bool.not_false, c1, s1, q]; first | (refine hK.out _ _ ?_; clear hK K) | (refine iteI (fun h => hK.out _ _ ?_) (fun h => hK.out _ _ ?_) <;> clear hK K)))
  simp only [resultsR, resultsL, resultA, expK_int, expK_bool, expK_str, expK_agg, expK_own, expK_tsl, resK_some, go_sem, reduceIte, Nat.reduceAdd, Nat.reduceEqDiff, Nat.reduceLT, Nat.reduceLeDiff, and_self, ]
theorem speaksR (r : Rec) (n : Int) (hr : r.ok) (hl : r.sp.length < 9223372036854775807) : EvV CX 27 [.agg (encRc r), .int .i64 n] (· = .bool (r.sp.contains n)) := by
  have c1 := hr.sv.cell
  have s1 := hr.sv.snap
  have q := (has1 r.sv r.sp n hr.sv hl).rw
  refine EvV.walk rfl fn27 rfl nt27 rfl ?_
  simp only [List.length_cons, List.length_nil, List.cons_append, List.nil_append, Nat.reduceAdd, Nat.reduceSub, List.replicate]
  repeat' (first | refine go1 ?_ | refine blockK_else rfl ?_ | (refine wpC_cond fun A B hA hB => ?_; simp only [go_sem, reduceIte, Nat.reduceAdd, Nat.reduceEqDiff, Nat.reduceLT, Nat.reduceLeDiff, *, and_self, encRc, snap_str, List.cons_append, Bool.not_true, Bool.not_false, c1, s1, q]; first | (refine hA.out ?_; clear hA hB A B) | (refine hB.out ?_; clear hA hB A B) | (refine iteI (fun h => hA.out ?_) (fun h => hB.out ?_) <;> clear hA hB A B) | (refine iteI (fun h => hB.out ?_) (fun h => hA.out ?_) <;> clear hA hB A B)) | (refine wpO_cons fun K hK => ?_; simp only [go_sem, reduceIte, Nat.reduceAdd, Nat.reduceEqDiff, Nat.reduceLT, Nat.reduceLeDiff, *, and_self, encRc, snap_str, List.cons_append, Bool.not_true, Bool.not_false, c1, s1, q]; first | (refine hK.out _ _ ?_; clear hK K) | (refine iteI (fun h => hK.out _ _ ?_) (fun h => hK.out _ _ ?_) <;> clear hK K)))
  simp only [resultsR, resultsL, resultA, expK_int, expK_bool, expK_str, expK_agg, expK_own, expK_tsl, resK_some, go_sem, reduceIte, Nat.reduceAdd, Nat.reduceEqDiff, Nat.reduceLT, Nat.reduceLeDiff, and_self, ]

/-- The recordings in which a person speaks. -/
def hrd (rs : List Rec) (n : Int) : List Int := (rs.filter fun r => r.sp.contains n).map (·.id)
theorem hrd_snoc (rs : List Rec) (x : Rec) (n : Int) : hrd (rs ++ [x]) n = hrd rs n ++ if x.sp.contains n = true then [x.id] else [] := by
  unfold hrd
  rw [List.filter_append, List.map_append, List.filter_cons]
  split <;> simp
theorem hrd_len (rs : List Rec) (n : Int) : (hrd rs n).length ≤ rs.length := by
  unfold hrd; rw [List.length_map]; exact List.length_filter_le _ _

theorem heardM (rs : List Rec) (n : Int) (hok : ∀ x ∈ rs, x.ok) (hs : ∀ x ∈ rs, x.sp.length < 9223372036854775807) (hrl : rs.length ≤ 1000000) (st : Bool) :
    ∃ r, OutI (sorted (hrd rs n)) r ∧ EvV CX 29 [.tsl st 5 (rs.map encRc), .int .i64 n] (· = r) := by
  suffices hx : EvV CX 29 [.tsl st 5 (rs.map encRc), .int .i64 n] (OutI (sorted (hrd rs n))) by
    exact hx.ex
  have hv : SLs 5 (rs.map encRc) (.tsl st 5 (rs.map encRc)) := .rows st
  refine EvV.walk rfl fn29 rfl nt29 rfl ?_
  simp only [List.length_cons, List.length_nil, List.cons_append, List.nil_append, Nat.reduceAdd, Nat.reduceSub, List.replicate]
  repeat' (first | refine go1 ?_ | refine blockK_else rfl ?_ | (refine wpO_cons fun K hK => ?_; simp only [go_sem, reduceIte, Nat.reduceAdd, Nat.reduceEqDiff, Nat.reduceLT, Nat.reduceLeDiff, *, wpK_append ty33 rfl, wpK_assignN ty33 rfl, wpK_buildSlice ty33 rfl, lenK_sls hv, List.length_map]; first | (refine hK.out _ _ ?_; clear hK K) | (refine iteI (fun h => hK.out _ _ ?_) (fun h => hK.out _ _ ?_) <;> clear hK K)))
  refine wpC_loopF [7, 11, 12, 13, 14, 15, 16, 17, 18, 19, 20, 21, 22] (fun p : List Rec × List Rec × Store => [(5, .sl 1 (hrd p.1 n).length 0 (hrd p.1 n).length 1), (10, .int .i64 p.1.length)]) (fun p _ => p.2.2)
    (fun p => rs = p.1 ++ p.2.1 ∧ p.2.2[1]? = some (.arr (ints (hrd p.1 n)) 1 0 true)) (fun p => p.2.1.length) ([], rs, _) ⟨rfl, rfl⟩ ?_ ⟨[], rfl⟩ ?_
  · rfl
  rintro ⟨pre, po, S⟩ g G ⟨h1, h2⟩
  simp only at h1 h2
  have hpl : pre.length ≤ rs.length := by rw [h1]; simp
  have hhl := hrd_len pre n
  obtain ⟨L, hL⟩ : ∃ L, hrd pre n = L := ⟨_, rfl⟩
  rw [hL] at h2 hhl
  simp only [hL]
  have tL : (ints L).take L.length = ints L := by rw [← ints_len L]; exact List.take_length
  simp only [garbA_cons, garbA_nil, setL_cons, setL_nil, List.set_cons_zero, List.set_cons_succ]
  cases po with
  | nil =>
    have e : (rs.length : Int) = (pre.length : Int) := by rw [h1, List.append_nil]
    have hE : hrd rs n = L := by rw [← hL, h1, List.append_nil]
    rw [hE]
    clear hE hL h1
    obtain ⟨r, hr, hq⟩ := sortedE (.tsl false 1 (ints L)) L (.rows false) (by omega)
    have q := hq.rw
    clear hq
    cases hr with
    | own =>
      repeat' (first | refine go1 ?_ | refine blockK_else rfl ?_ | (refine wpC_cond fun A B hA hB => ?_; simp only [go_sem, reduceIte, Nat.reduceAdd, Nat.reduceEqDiff, Nat.reduceLT, Nat.reduceLeDiff, *, wpK_append ty33 rfl, wpK_assignN ty33 rfl, wpK_buildSlice ty33 rfl, e, Int.lt_irrefl, h2, q, tL, set_lenAdd, List.set_cons_succ, List.getElem?_cons_succ, Nat.zero_le, getElem?_len, getElem?_lenAdd, set_len, List.append_assoc, List.length_append, ints_len, snap_sl, rowsOf_sl, ints_len, ints_take, List.take_length, Nat.zero_le, Nat.zero_add, Bool.true_or]; first | (refine hA.out ?_; clear hA hB A B) | (refine hB.out ?_; clear hA hB A B) | (refine iteI (fun h => hA.out ?_) (fun h => hB.out ?_) <;> clear hA hB A B) | (refine iteI (fun h => hB.out ?_) (fun h => hA.out ?_) <;> clear hA hB A B)) | (refine wpO_cons fun K hK => ?_; simp only [go_sem, reduceIte, Nat.reduceAdd, Nat.reduceEqDiff, Nat.reduceLT, Nat.reduceLeDiff, *, wpK_append ty33 rfl, wpK_assignN ty33 rfl, wpK_buildSlice ty33 rfl, e, Int.lt_irrefl, h2, q, tL, set_lenAdd, List.set_cons_succ, List.getElem?_cons_succ, Nat.zero_le, getElem?_len, getElem?_lenAdd, set_len, List.append_assoc, List.length_append, ints_len, snap_sl, rowsOf_sl, ints_len, ints_take, List.take_length, Nat.zero_le, Nat.zero_add, Bool.true_or]; first | (refine hK.out _ _ ?_; clear hK K) | (refine iteI (fun h => hK.out _ _ ?_) (fun h => hK.out _ _ ?_) <;> clear hK K)))
      simp only [resultsR, resultsL, resultA, expK_int, expK_bool, expK_str, expK_agg, expK_own, expK_tsl, resK_some, go_sem, reduceIte, Nat.reduceAdd, Nat.reduceEqDiff, Nat.reduceLT, Nat.reduceLeDiff, wpK_append ty33 rfl, wpK_assignN ty33 rfl, wpK_buildSlice ty33 rfl, ints_len, getElem?_len, Nat.zero_le]
      exact .own
    | part =>
      repeat' (first | refine go1 ?_ | refine blockK_else rfl ?_ | (refine wpC_cond fun A B hA hB => ?_; simp only [go_sem, reduceIte, Nat.reduceAdd, Nat.reduceEqDiff, Nat.reduceLT, Nat.reduceLeDiff, *, wpK_append ty33 rfl, wpK_assignN ty33 rfl, wpK_buildSlice ty33 rfl, e, Int.lt_irrefl, h2, q, tL, set_lenAdd, List.set_cons_succ, List.getElem?_cons_succ, Nat.zero_le, getElem?_len, getElem?_lenAdd, set_len, List.append_assoc, List.length_append, ints_len, snap_sl, rowsOf_sl, ints_len, ints_take, List.take_length, Nat.zero_le, Nat.zero_add, Bool.true_or]; first | (refine hA.out ?_; clear hA hB A B) | (refine hB.out ?_; clear hA hB A B) | (refine iteI (fun h => hA.out ?_) (fun h => hB.out ?_) <;> clear hA hB A B) | (refine iteI (fun h => hB.out ?_) (fun h => hA.out ?_) <;> clear hA hB A B)) | (refine wpO_cons fun K hK => ?_; simp only [go_sem, reduceIte, Nat.reduceAdd, Nat.reduceEqDiff, Nat.reduceLT, Nat.reduceLeDiff, *, wpK_append ty33 rfl, wpK_assignN ty33 rfl, wpK_buildSlice ty33 rfl, e, Int.lt_irrefl, h2, q, tL, set_lenAdd, List.set_cons_succ, List.getElem?_cons_succ, Nat.zero_le, getElem?_len, getElem?_lenAdd, set_len, List.append_assoc, List.length_append, ints_len, snap_sl, rowsOf_sl, ints_len, ints_take, List.take_length, Nat.zero_le, Nat.zero_add, Bool.true_or]; first | (refine hK.out _ _ ?_; clear hK K) | (refine iteI (fun h => hK.out _ _ ?_) (fun h => hK.out _ _ ?_) <;> clear hK K)))
      simp only [resultsR, resultsL, resultA, expK_int, expK_bool, expK_str, expK_agg, expK_own, expK_tsl, resK_some, go_sem, reduceIte, Nat.reduceAdd, Nat.reduceEqDiff, Nat.reduceLT, Nat.reduceLeDiff, wpK_append ty33 rfl, wpK_assignN ty33 rfl, wpK_buildSlice ty33 rfl, ]
      exact .part
    | nil hl =>
      repeat' (first | refine go1 ?_ | refine blockK_else rfl ?_ | (refine wpC_cond fun A B hA hB => ?_; simp only [go_sem, reduceIte, Nat.reduceAdd, Nat.reduceEqDiff, Nat.reduceLT, Nat.reduceLeDiff, *, wpK_append ty33 rfl, wpK_assignN ty33 rfl, wpK_buildSlice ty33 rfl, e, Int.lt_irrefl, h2, q, tL, adopt_nils, set_lenAdd, List.set_cons_succ, List.getElem?_cons_succ, Nat.zero_le, getElem?_len, getElem?_lenAdd, set_len, List.append_assoc, List.length_append, ints_len, snap_sl, rowsOf_sl, ints_len, ints_take, List.take_length, Nat.zero_le, Nat.zero_add, Bool.true_or]; first | (refine hA.out ?_; clear hA hB A B) | (refine hB.out ?_; clear hA hB A B) | (refine iteI (fun h => hA.out ?_) (fun h => hB.out ?_) <;> clear hA hB A B) | (refine iteI (fun h => hB.out ?_) (fun h => hA.out ?_) <;> clear hA hB A B)) | (refine wpO_cons fun K hK => ?_; simp only [go_sem, reduceIte, Nat.reduceAdd, Nat.reduceEqDiff, Nat.reduceLT, Nat.reduceLeDiff, *, wpK_append ty33 rfl, wpK_assignN ty33 rfl, wpK_buildSlice ty33 rfl, e, Int.lt_irrefl, h2, q, tL, adopt_nils, set_lenAdd, List.set_cons_succ, List.getElem?_cons_succ, Nat.zero_le, getElem?_len, getElem?_lenAdd, set_len, List.append_assoc, List.length_append, ints_len, snap_sl, rowsOf_sl, ints_len, ints_take, List.take_length, Nat.zero_le, Nat.zero_add, Bool.true_or]; first | (refine hK.out _ _ ?_; clear hK K) | (refine iteI (fun h => hK.out _ _ ?_) (fun h => hK.out _ _ ?_) <;> clear hK K)))
      simp only [resultsR, resultsL, resultA, expK_int, expK_bool, expK_str, expK_agg, expK_own, expK_tsl, resK_some, go_sem, reduceIte, Nat.reduceAdd, Nat.reduceEqDiff, Nat.reduceLT, Nat.reduceLeDiff, wpK_append ty33 rfl, wpK_assignN ty33 rfl, wpK_buildSlice ty33 rfl, expK_nils]
      exact .nil hl
  | cons x po =>
    have i1 := idx_sls hv (X := CX) ty37 ty35 rfl (by rw [h1]; exact map_mid encRc pre x po) (k := .i64)
    have w1 := wrap_succ (n := pre.length) (by omega)
    have lt1 : (pre.length : Int) < (rs.length : Int) := by rw [h1]; simp; omega
    have hx := hok x (by rw [h1]; simp)
    have c1 := hx.sv.cell
    have s1 := hx.sv.snap
    have qs := (speaksM x n hx (hs x (by rw [h1]; simp))).rw
    have a2 := at_app h2
    have a4 := set_app h2
    have b2 := at_set h2
    obtain ⟨b5, b6⟩ := app1 (n := L.length) (by omega)
    have hh1 : Hold (rs = (pre ++ [x]) ++ po) := ⟨by rw [h1]; simp⟩
    have hsn := hrd_snoc pre x n
    rw [hL] at hsn
    have hi : ints L ++ [[.int .i64 x.id]] = ints (L ++ [x.id]) := by rw [ints_append]; rfl
    simp only [encRc] at qs
    clear h1 hL
    cases k : x.sp.contains n with
    | true =>
      rw [k] at qs
      rw [k, if_pos rfl] at hsn
      have hh2 : Hold (hrd (pre ++ [x]) n = L ++ [x.id]) := ⟨hsn⟩
      clear k hsn
      repeat' (first | refine go1 ?_ | refine blockK_else rfl ?_ | (refine wpC_cond fun A B hA hB => ?_; simp only [go_sem, reduceIte, Nat.reduceAdd, Nat.reduceEqDiff, Nat.reduceLT, Nat.reduceLeDiff, *, wpK_append ty33 rfl, wpK_assignN ty33 rfl, wpK_buildSlice ty33 rfl, encRc, snap_str, List.cons_append, Bool.not_true, Bool.not_false, c1, s1, i1, a2, a4, b2, at_new, w1, qs, b5, b6, hi, set_lenAdd, List.set_cons_succ, List.getElem?_cons_succ, Nat.zero_le, getElem?_len, getElem?_lenAdd, set_len, List.append_assoc, List.length_append, ints_len, snap_sl, rowsOf_sl, ints_len, ints_take, List.take_length, Nat.zero_le, Nat.zero_add, Bool.true_or]; first | (refine hA.out ?_; clear hA hB A B) | (refine hB.out ?_; clear hA hB A B) | (refine iteI (fun h => hA.out ?_) (fun h => hB.out ?_) <;> clear hA hB A B) | (refine iteI (fun h => hB.out ?_) (fun h => hA.out ?_) <;> clear hA hB A B)) | (refine wpO_cons fun K hK => ?_; simp only [go_sem, reduceIte, Nat.reduceAdd, Nat.reduceEqDiff, Nat.reduceLT, Nat.reduceLeDiff, *, wpK_append ty33 rfl, wpK_assignN ty33 rfl, wpK_buildSlice ty33 rfl, encRc, snap_str, List.cons_append, Bool.not_true, Bool.not_false, c1, s1, i1, a2, a4, b2, at_new, w1, qs, b5, b6, hi, set_lenAdd, List.set_cons_succ, List.getElem?_cons_succ, Nat.zero_le, getElem?_len, getElem?_lenAdd, set_len, List.append_assoc, List.length_append, ints_len, snap_sl, rowsOf_sl, ints_len, ints_take, List.take_length, Nat.zero_le, Nat.zero_add, Bool.true_or]; first | (refine hK.out _ _ ?_; clear hK K) | (refine iteI (fun h => hK.out _ _ ?_) (fun h => hK.out _ _ ?_) <;> clear hK K)))
      refine loopF_next (pre ++ [x], po, _) (Nat.lt_succ_self _) ⟨hh1.out, by simp only [hh2.out]; exact b2 _ _⟩ ?_ ⟨[], rfl⟩
      ((try simp only [eraseA_cons, eraseA_nil, setL_cons, setL_nil, List.set_cons_zero, List.set_cons_succ]); all_goals (first | rfl | (simp only [len_snoc, ints_len, List.length_map, hh2.out]; done) | (simp only [len_snoc, len_mid, ints_len, List.length_map, List.length_append, List.length_cons, List.length_nil, Nat.zero_add, hh2.out]; done) | (simp only [len_mid, len_snoc, ints_len, List.length_map, List.length_append, List.length_cons, List.length_nil, Nat.zero_add, hh2.out]; rfl)))
    | false =>
      rw [k] at qs
      rw [k, if_neg (by simp), List.append_nil] at hsn
      have hh2 : Hold (hrd (pre ++ [x]) n = L) := ⟨hsn⟩
      clear k hsn
      repeat' (first | refine go1 ?_ | refine blockK_else rfl ?_ | (refine wpC_cond fun A B hA hB => ?_; simp only [go_sem, reduceIte, Nat.reduceAdd, Nat.reduceEqDiff, Nat.reduceLT, Nat.reduceLeDiff, *, wpK_append ty33 rfl, wpK_assignN ty33 rfl, wpK_buildSlice ty33 rfl, encRc, snap_str, List.cons_append, Bool.not_true, Bool.not_false, c1, s1, i1, a2, a4, b2, at_new, w1, qs, b5, b6, hi, set_lenAdd, List.set_cons_succ, List.getElem?_cons_succ, Nat.zero_le, getElem?_len, getElem?_lenAdd, set_len, List.append_assoc, List.length_append, ints_len, snap_sl, rowsOf_sl, ints_len, ints_take, List.take_length, Nat.zero_le, Nat.zero_add, Bool.true_or]; first | (refine hA.out ?_; clear hA hB A B) | (refine hB.out ?_; clear hA hB A B) | (refine iteI (fun h => hA.out ?_) (fun h => hB.out ?_) <;> clear hA hB A B) | (refine iteI (fun h => hB.out ?_) (fun h => hA.out ?_) <;> clear hA hB A B)) | (refine wpO_cons fun K hK => ?_; simp only [go_sem, reduceIte, Nat.reduceAdd, Nat.reduceEqDiff, Nat.reduceLT, Nat.reduceLeDiff, *, wpK_append ty33 rfl, wpK_assignN ty33 rfl, wpK_buildSlice ty33 rfl, encRc, snap_str, List.cons_append, Bool.not_true, Bool.not_false, c1, s1, i1, a2, a4, b2, at_new, w1, qs, b5, b6, hi, set_lenAdd, List.set_cons_succ, List.getElem?_cons_succ, Nat.zero_le, getElem?_len, getElem?_lenAdd, set_len, List.append_assoc, List.length_append, ints_len, snap_sl, rowsOf_sl, ints_len, ints_take, List.take_length, Nat.zero_le, Nat.zero_add, Bool.true_or]; first | (refine hK.out _ _ ?_; clear hK K) | (refine iteI (fun h => hK.out _ _ ?_) (fun h => hK.out _ _ ?_) <;> clear hK K)))
      refine loopF_next (pre ++ [x], po, _) (Nat.lt_succ_self _) ⟨hh1.out, by simp only [hh2.out]; exact a2 _⟩ ?_ ⟨[], rfl⟩
      ((try simp only [eraseA_cons, eraseA_nil, setL_cons, setL_nil, List.set_cons_zero, List.set_cons_succ]); all_goals (first | rfl | (simp only [len_snoc, ints_len, List.length_map, hh2.out]; done) | (simp only [len_snoc, len_mid, ints_len, List.length_map, List.length_append, List.length_cons, List.length_nil, Nat.zero_add, hh2.out]; done) | (simp only [len_mid, len_snoc, ints_len, List.length_map, List.length_append, List.length_cons, List.length_nil, Nat.zero_add, hh2.out]; rfl)))

theorem hrdR_snoc (rs : List Rec) (x : Rec) (n : Int) (h : x.sp.contains n = true) : (hrd (rs ++ [x]) n).foldl put [] = put ((hrd rs n).foldl put []) x.id := by
  rw [hrd_snoc, if_pos h, List.foldl_append]; rfl
theorem puts_len : ∀ (b out : List Int), (b.foldl put out).length ≤ out.length + b.length
  | [], out => by simp
  | x :: b, out => by
    rw [List.foldl_cons, List.length_cons]
    have h1 := puts_len b (put out x)
    have h2 := put_len out x
    omega
theorem heardR (rs : List Rec) (n : Int) (hok : ∀ x ∈ rs, x.ok) (hs : ∀ x ∈ rs, x.sp.length < 9223372036854775807) (hrl : rs.length ≤ 1000000) (st : Bool) :
    EvV CX 30 [.tsl st 5 (rs.map encRc), .int .i64 n] (· = .osl 1 (ints (sorted (hrd rs n)))) := by
  rw [← sortR_eq]
  have hv : SLs 5 (rs.map encRc) (.tsl st 5 (rs.map encRc)) := .rows st
  refine EvV.walk rfl fn30 rfl nt30 rfl ?_
  simp only [List.length_cons, List.length_nil, List.cons_append, List.nil_append, Nat.reduceAdd, Nat.reduceSub, List.replicate]
  repeat' (first | refine go1 ?_ | refine blockK_else rfl ?_ | (refine wpO_cons fun K hK => ?_; simp only [go_sem, reduceIte, Nat.reduceAdd, Nat.reduceEqDiff, Nat.reduceLT, Nat.reduceLeDiff, *, wpK_assignN ty33 rfl, lenK_sls hv, List.length_map]; first | (refine hK.out _ _ ?_; clear hK K) | (refine iteI (fun h => hK.out _ _ ?_) (fun h => hK.out _ _ ?_) <;> clear hK K)))
  refine wpC_loopF [6, 10, 11, 12, 13, 14, 15, 16, 17, 18, 19, 20, 21, 22, 23, 24, 25] (fun p : List Rec × List Rec × Nat × Store => [(5, .sl p.2.2.1 ((hrd p.1 n).foldl put []).length 0 ((hrd p.1 n).foldl put []).length 1), (9, .int .i64 p.1.length)]) (fun p _ => p.2.2.2)
    (fun p => rs = p.1 ++ p.2.1 ∧ p.2.2.2[p.2.2.1]? = some (.arr (ints ((hrd p.1 n).foldl put [])) 1 0 true)) (fun p => p.2.1.length) ([], rs, 1, _) ⟨rfl, rfl⟩ ?_ ⟨[], rfl⟩ ?_
  · rfl
  rintro ⟨pre, po, b, S⟩ g G ⟨h1, h2⟩
  simp only at h1 h2
  have hpl : pre.length ≤ rs.length := by rw [h1]; simp
  have hhl := hrd_len pre n
  have hll := puts_len (hrd pre n) []
  simp only [List.length_nil] at hll
  simp only [garbA_cons, garbA_nil, setL_cons, setL_nil, List.set_cons_zero, List.set_cons_succ]
  cases po with
  | nil =>
    have e : (rs.length : Int) = (pre.length : Int) := by rw [h1, List.append_nil]
    have hE : hrd rs n = hrd pre n := by rw [h1, List.append_nil]
    rw [hE]
    clear hE h1
    repeat' (first | refine go1 ?_ | refine blockK_else rfl ?_ | (refine wpC_cond fun A B hA hB => ?_; simp only [go_sem, reduceIte, Nat.reduceAdd, Nat.reduceEqDiff, Nat.reduceLT, Nat.reduceLeDiff, *, wpK_assignN ty33 rfl, e, Int.lt_irrefl]; first | (refine hA.out ?_; clear hA hB A B) | (refine hB.out ?_; clear hA hB A B) | (refine iteI (fun h => hA.out ?_) (fun h => hB.out ?_) <;> clear hA hB A B) | (refine iteI (fun h => hB.out ?_) (fun h => hA.out ?_) <;> clear hA hB A B)) | (refine wpO_cons fun K hK => ?_; simp only [go_sem, reduceIte, Nat.reduceAdd, Nat.reduceEqDiff, Nat.reduceLT, Nat.reduceLeDiff, *, wpK_assignN ty33 rfl, e, Int.lt_irrefl]; first | (refine hK.out _ _ ?_; clear hK K) | (refine iteI (fun h => hK.out _ _ ?_) (fun h => hK.out _ _ ?_) <;> clear hK K)))
    simp only [resultsR, resultsL, resultA, expK_int, expK_bool, expK_str, expK_agg, expK_own, expK_tsl, resK_some, go_sem, reduceIte, Nat.reduceAdd, Nat.reduceEqDiff, Nat.reduceLT, Nat.reduceLeDiff, wpK_assignN ty33 rfl, h2, ints_len, Nat.zero_le]
    simp
  | cons x po =>
    have i1 := idx_sls hv (X := CX) ty37 ty35 rfl (by rw [h1]; exact map_mid encRc pre x po) (k := .i64)
    have w1 := wrap_succ (n := pre.length) (by omega)
    have lt1 : (pre.length : Int) < (rs.length : Int) := by rw [h1]; simp; omega
    have hx := hok x (by rw [h1]; simp)
    have c1 := hx.sv.cell
    have s1 := hx.sv.snap
    have qs := (speaksR x n hx (hs x (by rw [h1]; simp))).rw
    have hh1 : Hold (rs = (pre ++ [x]) ++ po) := ⟨by rw [h1]; simp⟩
    simp only [encRc] at qs
    cases k : x.sp.contains n with
    | true =>
      have hsn := hrdR_snoc pre x n k
      rw [k] at qs
      obtain ⟨L, hL⟩ : ∃ L, (hrd pre n).foldl put [] = L := ⟨_, rfl⟩
      rw [hL] at hsn h2 hll
      simp only [hL]
      have tL : (ints L).take L.length = ints L := by rw [← ints_len L]; exact List.take_length
      have qp := (put1 false L x.id (by omega)).rw
      have hh2 : Hold ((hrd (pre ++ [x]) n).foldl put [] = put L x.id) := ⟨hsn⟩
      clear k hsn hL h1
      repeat' (first | refine go1 ?_ | refine blockK_else rfl ?_ | (refine wpC_cond fun A B hA hB => ?_; simp only [go_sem, reduceIte, Nat.reduceAdd, Nat.reduceEqDiff, Nat.reduceLT, Nat.reduceLeDiff, *, wpK_assignN ty33 rfl, encRc, snap_str, List.cons_append, Bool.not_true, Bool.not_false, c1, s1, i1, w1, qs, qp, tL, set_lenAdd, List.set_cons_succ, List.getElem?_cons_succ, Nat.zero_le, getElem?_len, getElem?_lenAdd, set_len, List.append_assoc, List.length_append, ints_len, snap_sl, rowsOf_sl, ints_len, ints_take, List.take_length, Nat.zero_le, Nat.zero_add, Bool.true_or]; first | (refine hA.out ?_; clear hA hB A B) | (refine hB.out ?_; clear hA hB A B) | (refine iteI (fun h => hA.out ?_) (fun h => hB.out ?_) <;> clear hA hB A B) | (refine iteI (fun h => hB.out ?_) (fun h => hA.out ?_) <;> clear hA hB A B)) | (refine wpO_cons fun K hK => ?_; simp only [go_sem, reduceIte, Nat.reduceAdd, Nat.reduceEqDiff, Nat.reduceLT, Nat.reduceLeDiff, *, wpK_assignN ty33 rfl, encRc, snap_str, List.cons_append, Bool.not_true, Bool.not_false, c1, s1, i1, w1, qs, qp, tL, set_lenAdd, List.set_cons_succ, List.getElem?_cons_succ, Nat.zero_le, getElem?_len, getElem?_lenAdd, set_len, List.append_assoc, List.length_append, ints_len, snap_sl, rowsOf_sl, ints_len, ints_take, List.take_length, Nat.zero_le, Nat.zero_add, Bool.true_or]; first | (refine hK.out _ _ ?_; clear hK K) | (refine iteI (fun h => hK.out _ _ ?_) (fun h => hK.out _ _ ?_) <;> clear hK K)))
      refine loopF_next (pre ++ [x], po, S.length, _) (Nat.lt_succ_self _) ⟨hh1.out, by simp only [hh2.out]; rw [getElem?_len]; rfl⟩ ?_ ⟨[], rfl⟩
      ((try simp only [eraseA_cons, eraseA_nil, setL_cons, setL_nil, List.set_cons_zero, List.set_cons_succ]); all_goals (first | rfl | (simp only [len_snoc, ints_len, List.length_map, hh2.out]; done) | (simp only [len_snoc, len_mid, ints_len, List.length_map, List.length_append, List.length_cons, List.length_nil, Nat.zero_add, hh2.out]; done) | (simp only [len_mid, len_snoc, ints_len, List.length_map, List.length_append, List.length_cons, List.length_nil, Nat.zero_add, hh2.out]; rfl)))
    | false =>
      have hsn := hrd_snoc pre x n
      rw [k] at qs
      rw [k, if_neg (by simp), List.append_nil] at hsn
      rw [← hsn] at h2
      simp only [← hsn]
      have hh2 : Hold (hrd (pre ++ [x]) n = hrd pre n) := ⟨hsn⟩
      obtain ⟨L, hL⟩ : ∃ L, (hrd (pre ++ [x]) n).foldl put [] = L := ⟨_, rfl⟩
      rw [hL] at h2
      simp only [hL]
      have hh3 : Hold ((hrd (pre ++ [x]) n).foldl put [] = L) := ⟨hL⟩
      clear k hsn h1 hL
      repeat' (first | refine go1 ?_ | refine blockK_else rfl ?_ | (refine wpC_cond fun A B hA hB => ?_; simp only [go_sem, reduceIte, Nat.reduceAdd, Nat.reduceEqDiff, Nat.reduceLT, Nat.reduceLeDiff, *, wpK_assignN ty33 rfl, encRc, snap_str, List.cons_append, Bool.not_true, Bool.not_false, c1, s1, i1, w1, qs, set_lenAdd, List.set_cons_succ, List.getElem?_cons_succ, Nat.zero_le, getElem?_len, getElem?_lenAdd, set_len, List.append_assoc, List.length_append, ints_len, snap_sl, rowsOf_sl, ints_len, ints_take, List.take_length, Nat.zero_le, Nat.zero_add, Bool.true_or]; first | (refine hA.out ?_; clear hA hB A B) | (refine hB.out ?_; clear hA hB A B) | (refine iteI (fun h => hA.out ?_) (fun h => hB.out ?_) <;> clear hA hB A B) | (refine iteI (fun h => hB.out ?_) (fun h => hA.out ?_) <;> clear hA hB A B)) | (refine wpO_cons fun K hK => ?_; simp only [go_sem, reduceIte, Nat.reduceAdd, Nat.reduceEqDiff, Nat.reduceLT, Nat.reduceLeDiff, *, wpK_assignN ty33 rfl, encRc, snap_str, List.cons_append, Bool.not_true, Bool.not_false, c1, s1, i1, w1, qs, set_lenAdd, List.set_cons_succ, List.getElem?_cons_succ, Nat.zero_le, getElem?_len, getElem?_lenAdd, set_len, List.append_assoc, List.length_append, ints_len, snap_sl, rowsOf_sl, ints_len, ints_take, List.take_length, Nat.zero_le, Nat.zero_add, Bool.true_or]; first | (refine hK.out _ _ ?_; clear hK K) | (refine iteI (fun h => hK.out _ _ ?_) (fun h => hK.out _ _ ?_) <;> clear hK K)))
      refine loopF_next (pre ++ [x], po, b, _) (Nat.lt_succ_self _) ⟨hh1.out, by simp only [hh3.out]; exact h2⟩ ?_ ⟨[], rfl⟩
      ((try simp only [eraseA_cons, eraseA_nil, setL_cons, setL_nil, List.set_cons_zero, List.set_cons_succ]); all_goals (first | rfl | (simp only [len_snoc, ints_len, List.length_map, hh3.out]; done) | (simp only [len_snoc, len_mid, ints_len, List.length_map, List.length_append, List.length_cons, List.length_nil, Nat.zero_add, hh3.out]; done) | (simp only [len_mid, len_snoc, ints_len, List.length_map, List.length_append, List.length_cons, List.length_nil, Nat.zero_add, hh3.out]; rfl)))

/- Chapter 10: the laws' own small functions; the laws Names, People, Checks, Recs. -/
open Go.Proofs
attribute [local go_sem] br11 br12 br13 br14 br15 fz21 fz22 br16 br17 br18 br19 br20 fz23 fz24 fz25 fz26 fz27 br21 br22 fz28 fz29 fz30 br24 br25 fz31 fz32 fz33
set_option maxHeartbeats 4000000

def fewP (ps : List Psn) : Bool := ((ps.take 60).all fun p => decide (p.name.size ≤ 300)) && decide (ps.length ≤ 60)
def fewR (rs : List Rec) : Bool := ((rs.take 20).all fun r => decide (r.name.size ≤ 300) && decide (r.sp.length ≤ 60)) && decide (rs.length ≤ 20)
theorem fewP_iff {ps : List Psn} (h : fewP ps = true) : ps.length ≤ 60 ∧ ∀ p ∈ ps, p.name.size ≤ 300 := by
  unfold fewP at h
  rw [Bool.and_eq_true, decide_eq_true_eq] at h
  obtain ⟨h1, h2⟩ := h
  rw [List.take_of_length_le h2, List.all_eq_true] at h1
  exact ⟨h2, fun p hp => by simpa using h1 p hp⟩
theorem fewR_iff {rs : List Rec} (h : fewR rs = true) : rs.length ≤ 20 ∧ ∀ r ∈ rs, r.name.size ≤ 300 ∧ r.sp.length ≤ 60 := by
  unfold fewR at h
  rw [Bool.and_eq_true, decide_eq_true_eq] at h
  obtain ⟨h1, h2⟩ := h
  rw [List.take_of_length_le h2, List.all_eq_true] at h1
  exact ⟨h2, fun p hp => by simpa using h1 p hp⟩

theorem peopleL {w : AV} (ps : List Psn) (hw : SLs 3 (ps.map encP) w) : EvV CX 16 [w] (· = .bool (fewP ps)) := by
  refine EvV.walk rfl fn16 rfl nt16 rfl ?_
  simp only [List.length_cons, List.length_nil, List.cons_append, List.nil_append, Nat.reduceAdd, Nat.reduceSub, List.replicate]
  repeat' (first | refine go1 ?_ | refine blockK_else rfl ?_ | (refine wpC_cond fun A B hA hB => ?_; simp only [go_sem, reduceIte, Nat.reduceAdd, Nat.reduceEqDiff, Nat.reduceLT, Nat.reduceLeDiff, *, and_self, lenK_sls hw]; first | (refine hA.out ?_; clear hA hB A B) | (refine hB.out ?_; clear hA hB A B) | (refine iteI (fun h => hA.out ?_) (fun h => hB.out ?_) <;> clear hA hB A B) | (refine iteI (fun h => hB.out ?_) (fun h => hA.out ?_) <;> clear hA hB A B)) | (refine wpO_cons fun K hK => ?_; simp only [go_sem, reduceIte, Nat.reduceAdd, Nat.reduceEqDiff, Nat.reduceLT, Nat.reduceLeDiff, *, and_self, lenK_sls hw]; first | (refine hK.out _ _ ?_; clear hK K) | (refine iteI (fun h => hK.out _ _ ?_) (fun h => hK.out _ _ ?_) <;> clear hK K)))
  refine wpC_each [2, 4, 5, 6, 7, 8, 9, 10, 11, 12, 13, 14, 15, 16, 17, 18, 19, 20] 3 ps (fun pre post => pre.length ≤ 60 ∧ ((ps.take 60).all fun p => decide (p.name.size ≤ 300)) = ((post.take (60 - pre.length)).all fun p => decide (p.name.size ≤ 300))) ?_ ?_ ?_ ?_
  · exact ⟨Nat.zero_le _, rfl⟩
  · rfl
  · rintro g G ⟨h1, h2⟩
    have e : fewP ps = true := by rw [fewP, h2]; simp; omega
    have z : (ps.length : Int) ≤ 60 := by omega
    rw [e]; clear e h2
    simp only [garbA_cons, garbA_nil, setL_cons, setL_nil, List.set_cons_zero, List.set_cons_succ]
    repeat' (first | refine go1 ?_ | refine blockK_else rfl ?_ | (refine wpC_cond fun A B hA hB => ?_; simp only [go_sem, reduceIte, Nat.reduceAdd, Nat.reduceEqDiff, Nat.reduceLT, Nat.reduceLeDiff, *, and_self, lenK_sls hw, List.length_map, ints_len, List.length_map, Int.lt_irrefl, List.nil_append]; first | (refine hA.out ?_; clear hA hB A B) | (refine hB.out ?_; clear hA hB A B) | (refine iteI (fun h => hA.out ?_) (fun h => hB.out ?_) <;> clear hA hB A B) | (refine iteI (fun h => hB.out ?_) (fun h => hA.out ?_) <;> clear hA hB A B)) | (refine wpO_cons fun K hK => ?_; simp only [go_sem, reduceIte, Nat.reduceAdd, Nat.reduceEqDiff, Nat.reduceLT, Nat.reduceLeDiff, *, and_self, lenK_sls hw, List.length_map, ints_len, List.length_map, Int.lt_irrefl, List.nil_append]; first | (refine hK.out _ _ ?_; clear hK K) | (refine iteI (fun h => hK.out _ _ ?_) (fun h => hK.out _ _ ?_) <;> clear hK K)))
    simp only [resultsR, resultsL, resultA, expK_int, expK_bool, expK_str, expK_agg, expK_own, expK_tsl, resK_some, go_sem, reduceIte, Nat.reduceAdd, Nat.reduceEqDiff, Nat.reduceLT, Nat.reduceLeDiff, and_self, ]
  rintro g G pre x post h1 ⟨h2, h3⟩
  have i1 := idx_sls hw (X := CX) ty24 ty27 rfl (by rw [h1]; exact map_mid encP pre x post) (k := .i64)
  have w1 := wrap_succ (n := pre.length) (by omega)
  have lt1 : (pre.length : Int) < (ps.length : Int) := by rw [h1]; simp; omega
  have hh1 : Hold (ps = pre ++ x :: post) := ⟨h1⟩
  clear h1
  simp only [garbA_cons, garbA_nil, setL_cons, setL_nil, List.set_cons_zero, List.set_cons_succ]
  by_cases k : pre.length = 60
  · have e : fewP ps = false := by rw [fewP]; simp; omega
    have z : ¬ (ps.length : Int) ≤ 60 := by omega
    have z2 : ¬ (pre.length : Int) < 60 := by omega
    rw [e]; clear e h3 k
    repeat' (first | refine go1 ?_ | refine blockK_else rfl ?_ | (refine wpC_cond fun A B hA hB => ?_; simp only [go_sem, reduceIte, Nat.reduceAdd, Nat.reduceEqDiff, Nat.reduceLT, Nat.reduceLeDiff, *, and_self, lenK_sls hw, List.length_map]; first | (refine hA.out ?_; clear hA hB A B) | (refine hB.out ?_; clear hA hB A B) | (refine iteI (fun h => hA.out ?_) (fun h => hB.out ?_) <;> clear hA hB A B) | (refine iteI (fun h => hB.out ?_) (fun h => hA.out ?_) <;> clear hA hB A B)) | (refine wpO_cons fun K hK => ?_; simp only [go_sem, reduceIte, Nat.reduceAdd, Nat.reduceEqDiff, Nat.reduceLT, Nat.reduceLeDiff, *, and_self, lenK_sls hw, List.length_map]; first | (refine hK.out _ _ ?_; clear hK K) | (refine iteI (fun h => hK.out _ _ ?_) (fun h => hK.out _ _ ?_) <;> clear hK K)))
    simp only [resultsR, resultsL, resultA, expK_int, expK_bool, expK_str, expK_agg, expK_own, expK_tsl, resK_some, go_sem, reduceIte, Nat.reduceAdd, Nat.reduceEqDiff, Nat.reduceLT, Nat.reduceLeDiff, and_self, ]
  · have z2 : (pre.length : Int) < 60 := by omega
    obtain ⟨k', hk'⟩ : ∃ k', 60 - pre.length = k' + 1 := ⟨60 - pre.length - 1, by omega⟩
    rw [hk', List.take_succ_cons, List.all_cons] at h3
    by_cases kn : x.name.size ≤ 300
    · have z3 : ¬ (300 : Int) < (x.name.size : Int) := by omega
      have hh3 : Hold (((ps.take 60).all fun p => decide (p.name.size ≤ 300)) = ((post.take k').all fun p => decide (p.name.size ≤ 300))) := ⟨by rw [h3]; simp [kn]⟩
      clear h3 k kn
      repeat' (first | refine go1 ?_ | refine blockK_else rfl ?_ | (refine wpC_cond fun A B hA hB => ?_; simp only [go_sem, reduceIte, Nat.reduceAdd, Nat.reduceEqDiff, Nat.reduceLT, Nat.reduceLeDiff, *, and_self, lenK_sls hw, List.length_map, i1, w1, encP, lenK_str]; first | (refine hA.out ?_; clear hA hB A B) | (refine hB.out ?_; clear hA hB A B) | (refine iteI (fun h => hA.out ?_) (fun h => hB.out ?_) <;> clear hA hB A B) | (refine iteI (fun h => hB.out ?_) (fun h => hA.out ?_) <;> clear hA hB A B)) | (refine wpO_cons fun K hK => ?_; simp only [go_sem, reduceIte, Nat.reduceAdd, Nat.reduceEqDiff, Nat.reduceLT, Nat.reduceLeDiff, *, and_self, lenK_sls hw, List.length_map, i1, w1, encP, lenK_str]; first | (refine hK.out _ _ ?_; clear hK K) | (refine iteI (fun h => hK.out _ _ ?_) (fun h => hK.out _ _ ?_) <;> clear hK K)))
      refine each_next hh1.out ⟨by simp only [len_snoc]; omega, by rw [hh3.out, len_snoc, show 60 - (pre.length + 1) = k' by omega]⟩ ?_ ?_
      · ((try simp only [eraseA_cons, eraseA_nil, setL_cons, setL_nil, List.set_cons_zero, List.set_cons_succ]); all_goals (first | rfl | (simp only [len_snoc, ints_len, List.length_map, ]; done) | (simp only [len_snoc, len_mid, ints_len, List.length_map, List.length_append, List.length_cons, List.length_nil, Nat.zero_add, ]; done) | (simp only [len_mid, len_snoc, ints_len, List.length_map, List.length_append, List.length_cons, List.length_nil, Nat.zero_add, ]; rfl)))
      · first | exact ⟨[], (List.append_nil _).symm⟩ | exact ⟨_, rfl⟩ | (simp only [List.append_assoc, List.cons_append, List.nil_append]; exact ⟨_, rfl⟩)
    · have z3 : (300 : Int) < (x.name.size : Int) := by omega
      have e : fewP ps = false := by rw [fewP, h3]; simp [kn]
      rw [e]; clear e h3 k kn
      repeat' (first | refine go1 ?_ | refine blockK_else rfl ?_ | (refine wpC_cond fun A B hA hB => ?_; simp only [go_sem, reduceIte, Nat.reduceAdd, Nat.reduceEqDiff, Nat.reduceLT, Nat.reduceLeDiff, *, and_self, lenK_sls hw, List.length_map, i1, w1, encP, lenK_str]; first | (refine hA.out ?_; clear hA hB A B) | (refine hB.out ?_; clear hA hB A B) | (refine iteI (fun h => hA.out ?_) (fun h => hB.out ?_) <;> clear hA hB A B) | (refine iteI (fun h => hB.out ?_) (fun h => hA.out ?_) <;> clear hA hB A B)) | (refine wpO_cons fun K hK => ?_; simp only [go_sem, reduceIte, Nat.reduceAdd, Nat.reduceEqDiff, Nat.reduceLT, Nat.reduceLeDiff, *, and_self, lenK_sls hw, List.length_map, i1, w1, encP, lenK_str]; first | (refine hK.out _ _ ?_; clear hK K) | (refine iteI (fun h => hK.out _ _ ?_) (fun h => hK.out _ _ ?_) <;> clear hK K)))
      simp only [resultsR, resultsL, resultA, expK_int, expK_bool, expK_str, expK_agg, expK_own, expK_tsl, resK_some, go_sem, reduceIte, Nat.reduceAdd, Nat.reduceEqDiff, Nat.reduceLT, Nat.reduceLeDiff, and_self, ]

theorem recsL (rs : List Rec) (hok : ∀ x ∈ rs, x.ok) (st : Bool) : EvV CX 21 [.tsl st 5 (rs.map encRc)] (· = .bool (fewR rs)) := by
  have hw : SLs 5 (rs.map encRc) (.tsl st 5 (rs.map encRc)) := .rows st
  refine EvV.walk rfl fn21 rfl nt21 rfl ?_
  simp only [List.length_cons, List.length_nil, List.cons_append, List.nil_append, Nat.reduceAdd, Nat.reduceSub, List.replicate]
  repeat' (first | refine go1 ?_ | refine blockK_else rfl ?_ | (refine wpC_cond fun A B hA hB => ?_; simp only [go_sem, reduceIte, Nat.reduceAdd, Nat.reduceEqDiff, Nat.reduceLT, Nat.reduceLeDiff, *, and_self, lenK_sls hw]; first | (refine hA.out ?_; clear hA hB A B) | (refine hB.out ?_; clear hA hB A B) | (refine iteI (fun h => hA.out ?_) (fun h => hB.out ?_) <;> clear hA hB A B) | (refine iteI (fun h => hB.out ?_) (fun h => hA.out ?_) <;> clear hA hB A B)) | (refine wpO_cons fun K hK => ?_; simp only [go_sem, reduceIte, Nat.reduceAdd, Nat.reduceEqDiff, Nat.reduceLT, Nat.reduceLeDiff, *, and_self, lenK_sls hw]; first | (refine hK.out _ _ ?_; clear hK K) | (refine iteI (fun h => hK.out _ _ ?_) (fun h => hK.out _ _ ?_) <;> clear hK K)))
  refine wpC_each [2, 4, 5, 6, 7, 8, 9, 10, 11, 12, 13, 14, 15, 16, 17, 18, 19, 20, 21, 22, 23, 24, 25, 26, 27, 28, 29] 3 rs (fun pre post => pre.length ≤ 20 ∧ ((rs.take 20).all fun r => decide (r.name.size ≤ 300) && decide (r.sp.length ≤ 60)) = ((post.take (20 - pre.length)).all fun r => decide (r.name.size ≤ 300) && decide (r.sp.length ≤ 60))) ?_ ?_ ?_ ?_
  · exact ⟨Nat.zero_le _, rfl⟩
  · rfl
  · rintro g G ⟨h1, h2⟩
    have e : fewR rs = true := by rw [fewR, h2]; simp; omega
    have z : (rs.length : Int) ≤ 20 := by omega
    rw [e]; clear e h2
    simp only [garbA_cons, garbA_nil, setL_cons, setL_nil, List.set_cons_zero, List.set_cons_succ]
    repeat' (first | refine go1 ?_ | refine blockK_else rfl ?_ | (refine wpC_cond fun A B hA hB => ?_; simp only [go_sem, reduceIte, Nat.reduceAdd, Nat.reduceEqDiff, Nat.reduceLT, Nat.reduceLeDiff, *, and_self, lenK_sls hw, List.length_map, ints_len, List.length_map, Int.lt_irrefl, List.nil_append]; first | (refine hA.out ?_; clear hA hB A B) | (refine hB.out ?_; clear hA hB A B) | (refine iteI (fun h => hA.out ?_) (fun h => hB.out ?_) <;> clear hA hB A B) | (refine iteI (fun h => hB.out ?_) (fun h => hA.out ?_) <;> clear hA hB A B)) | (refine wpO_cons fun K hK => ?_; simp only [go_sem, reduceIte, Nat.reduceAdd, Nat.reduceEqDiff, Nat.reduceLT, Nat.reduceLeDiff, *, and_self, lenK_sls hw, List.length_map, ints_len, List.length_map, Int.lt_irrefl, List.nil_append]; first | (refine hK.out _ _ ?_; clear hK K) | (refine iteI (fun h => hK.out _ _ ?_) (fun h => hK.out _ _ ?_) <;> clear hK K)))
    simp only [resultsR, resultsL, resultA, expK_int, expK_bool, expK_str, expK_agg, expK_own, expK_tsl, resK_some, go_sem, reduceIte, Nat.reduceAdd, Nat.reduceEqDiff, Nat.reduceLT, Nat.reduceLeDiff, and_self, ]
  rintro g G pre x post h1 ⟨h2, h3⟩
  have i1 := idx_sls hw (X := CX) ty37 ty35 rfl (by rw [h1]; exact map_mid encRc pre x post) (k := .i64)
  have w1 := wrap_succ (n := pre.length) (by omega)
  have lt1 : (pre.length : Int) < (rs.length : Int) := by rw [h1]; simp; omega
  have hx := hok x (by rw [h1]; simp)
  have c1 := hx.sv.cell
  have lk := fun (el : TypeId) (a c : Nat) (b : Bool) (d : List AV) => lenK_sls hx.sv (el := el) (a := a) (c := c) (b := b) (d := d)
  have hh1 : Hold (rs = pre ++ x :: post) := ⟨h1⟩
  clear h1
  simp only [garbA_cons, garbA_nil, setL_cons, setL_nil, List.set_cons_zero, List.set_cons_succ]
  by_cases k : pre.length = 20
  · have e : fewR rs = false := by rw [fewR]; simp; omega
    have z : ¬ (rs.length : Int) ≤ 20 := by omega
    have z2 : ¬ (pre.length : Int) < 20 := by omega
    rw [e]; clear e h3 k
    repeat' (first | refine go1 ?_ | refine blockK_else rfl ?_ | (refine wpC_cond fun A B hA hB => ?_; simp only [go_sem, reduceIte, Nat.reduceAdd, Nat.reduceEqDiff, Nat.reduceLT, Nat.reduceLeDiff, *, and_self, lenK_sls hw, List.length_map]; first | (refine hA.out ?_; clear hA hB A B) | (refine hB.out ?_; clear hA hB A B) | (refine iteI (fun h => hA.out ?_) (fun h => hB.out ?_) <;> clear hA hB A B) | (refine iteI (fun h => hB.out ?_) (fun h => hA.out ?_) <;> clear hA hB A B)) | (refine wpO_cons fun K hK => ?_; simp only [go_sem, reduceIte, Nat.reduceAdd, Nat.reduceEqDiff, Nat.reduceLT, Nat.reduceLeDiff, *, and_self, lenK_sls hw, List.length_map]; first | (refine hK.out _ _ ?_; clear hK K) | (refine iteI (fun h => hK.out _ _ ?_) (fun h => hK.out _ _ ?_) <;> clear hK K)))
    simp only [resultsR, resultsL, resultA, expK_int, expK_bool, expK_str, expK_agg, expK_own, expK_tsl, resK_some, go_sem, reduceIte, Nat.reduceAdd, Nat.reduceEqDiff, Nat.reduceLT, Nat.reduceLeDiff, and_self, ]
  · have z2 : (pre.length : Int) < 20 := by omega
    obtain ⟨k', hk'⟩ : ∃ k', 20 - pre.length = k' + 1 := ⟨20 - pre.length - 1, by omega⟩
    rw [hk', List.take_succ_cons, List.all_cons] at h3
    by_cases kn : x.name.size ≤ 300
    · have z3 : ¬ (300 : Int) < (x.name.size : Int) := by omega
      by_cases ks : x.sp.length ≤ 60
      · have z4 : ¬ (60 : Int) < (x.sp.length : Int) := by omega
        have hh3 : Hold (((rs.take 20).all fun r => decide (r.name.size ≤ 300) && decide (r.sp.length ≤ 60)) = ((post.take k').all fun r => decide (r.name.size ≤ 300) && decide (r.sp.length ≤ 60))) := ⟨by rw [h3]; simp [kn, ks]⟩
        clear h3 k kn ks
        repeat' (first | refine go1 ?_ | refine blockK_else rfl ?_ | (refine wpC_cond fun A B hA hB => ?_; simp only [go_sem, reduceIte, Nat.reduceAdd, Nat.reduceEqDiff, Nat.reduceLT, Nat.reduceLeDiff, *, and_self, lenK_sls hw, lk, ints_len, List.length_map, i1, w1, encRc, c1, lenK_str]; first | (refine hA.out ?_; clear hA hB A B) | (refine hB.out ?_; clear hA hB A B) | (refine iteI (fun h => hA.out ?_) (fun h => hB.out ?_) <;> clear hA hB A B) | (refine iteI (fun h => hB.out ?_) (fun h => hA.out ?_) <;> clear hA hB A B)) | (refine wpO_cons fun K hK => ?_; simp only [go_sem, reduceIte, Nat.reduceAdd, Nat.reduceEqDiff, Nat.reduceLT, Nat.reduceLeDiff, *, and_self, lenK_sls hw, lk, ints_len, List.length_map, i1, w1, encRc, c1, lenK_str]; first | (refine hK.out _ _ ?_; clear hK K) | (refine iteI (fun h => hK.out _ _ ?_) (fun h => hK.out _ _ ?_) <;> clear hK K)))
        refine each_next hh1.out ⟨by simp only [len_snoc]; omega, by rw [hh3.out, len_snoc, show 20 - (pre.length + 1) = k' by omega]⟩ ?_ ?_
        · ((try simp only [eraseA_cons, eraseA_nil, setL_cons, setL_nil, List.set_cons_zero, List.set_cons_succ]); all_goals (first | rfl | (simp only [len_snoc, ints_len, List.length_map, ]; done) | (simp only [len_snoc, len_mid, ints_len, List.length_map, List.length_append, List.length_cons, List.length_nil, Nat.zero_add, ]; done) | (simp only [len_mid, len_snoc, ints_len, List.length_map, List.length_append, List.length_cons, List.length_nil, Nat.zero_add, ]; rfl)))
        · first | exact ⟨[], (List.append_nil _).symm⟩ | exact ⟨_, rfl⟩ | (simp only [List.append_assoc, List.cons_append, List.nil_append]; exact ⟨_, rfl⟩)
      · have z4 : (60 : Int) < (x.sp.length : Int) := by omega
        have e : fewR rs = false := by rw [fewR, h3]; simp [ks]
        rw [e]; clear e h3 k kn ks
        repeat' (first | refine go1 ?_ | refine blockK_else rfl ?_ | (refine wpC_cond fun A B hA hB => ?_; simp only [go_sem, reduceIte, Nat.reduceAdd, Nat.reduceEqDiff, Nat.reduceLT, Nat.reduceLeDiff, *, and_self, lenK_sls hw, lk, ints_len, List.length_map, i1, w1, encRc, c1, lenK_str]; first | (refine hA.out ?_; clear hA hB A B) | (refine hB.out ?_; clear hA hB A B) | (refine iteI (fun h => hA.out ?_) (fun h => hB.out ?_) <;> clear hA hB A B) | (refine iteI (fun h => hB.out ?_) (fun h => hA.out ?_) <;> clear hA hB A B)) | (refine wpO_cons fun K hK => ?_; simp only [go_sem, reduceIte, Nat.reduceAdd, Nat.reduceEqDiff, Nat.reduceLT, Nat.reduceLeDiff, *, and_self, lenK_sls hw, lk, ints_len, List.length_map, i1, w1, encRc, c1, lenK_str]; first | (refine hK.out _ _ ?_; clear hK K) | (refine iteI (fun h => hK.out _ _ ?_) (fun h => hK.out _ _ ?_) <;> clear hK K)))
        simp only [resultsR, resultsL, resultA, expK_int, expK_bool, expK_str, expK_agg, expK_own, expK_tsl, resK_some, go_sem, reduceIte, Nat.reduceAdd, Nat.reduceEqDiff, Nat.reduceLT, Nat.reduceLeDiff, and_self, ]
    · have z3 : (300 : Int) < (x.name.size : Int) := by omega
      have e : fewR rs = false := by rw [fewR, h3]; simp [kn]
      rw [e]; clear e h3 k kn
      repeat' (first | refine go1 ?_ | refine blockK_else rfl ?_ | (refine wpC_cond fun A B hA hB => ?_; simp only [go_sem, reduceIte, Nat.reduceAdd, Nat.reduceEqDiff, Nat.reduceLT, Nat.reduceLeDiff, *, and_self, lenK_sls hw, lk, ints_len, List.length_map, i1, w1, encRc, c1, lenK_str]; first | (refine hA.out ?_; clear hA hB A B) | (refine hB.out ?_; clear hA hB A B) | (refine iteI (fun h => hA.out ?_) (fun h => hB.out ?_) <;> clear hA hB A B) | (refine iteI (fun h => hB.out ?_) (fun h => hA.out ?_) <;> clear hA hB A B)) | (refine wpO_cons fun K hK => ?_; simp only [go_sem, reduceIte, Nat.reduceAdd, Nat.reduceEqDiff, Nat.reduceLT, Nat.reduceLeDiff, *, and_self, lenK_sls hw, lk, ints_len, List.length_map, i1, w1, encRc, c1, lenK_str]; first | (refine hK.out _ _ ?_; clear hK K) | (refine iteI (fun h => hK.out _ _ ?_) (fun h => hK.out _ _ ?_) <;> clear hK K)))
      simp only [resultsR, resultsL, resultA, expK_int, expK_bool, expK_str, expK_agg, expK_own, expK_tsl, resK_some, go_sem, reduceIte, Nat.reduceAdd, Nat.reduceEqDiff, Nat.reduceLT, Nat.reduceLeDiff, and_self, ]

theorem ba_beq (b : ByteArray) : (b == b) = true := by rw [beq_toListBytes]; exact beq_self_eq_true _

/-! ### Laws -/
theorem lawN (s : ByteArray) : EvV CX 3 [.str s] (· = .bool true) := by
  have qa := awake.rw
  by_cases h : s.size ≤ 300
  · have z : ¬ (300 : Int) < (s.size : Int) := by omega
    have q1 := (nameM s (by omega)).rw
    have q2 := (nameR s (by omega)).rw
    have q3 := (labelM s (by omega)).rw
    have q4 := (labelR s (by omega)).rw
    clear h
    refine EvV.walk rfl fn3 rfl nt3 rfl ?_
    simp only [List.length_cons, List.length_nil, List.cons_append, List.nil_append, Nat.reduceAdd, Nat.reduceSub, List.replicate]
    repeat' (first | refine go1 ?_ | refine blockK_else rfl ?_ | (refine wpC_cond fun A B hA hB => ?_; simp only [go_sem, reduceIte, Nat.reduceAdd, Nat.reduceEqDiff, Nat.reduceLT, Nat.reduceLeDiff, *, and_self, lenK_str, q1, q2, q3, q4, qa, beq_self_eq_true]; first | (refine hA.out ?_; clear hA hB A B) | (refine hB.out ?_; clear hA hB A B) | (refine iteI (fun h => hA.out ?_) (fun h => hB.out ?_) <;> clear hA hB A B) | (refine iteI (fun h => hB.out ?_) (fun h => hA.out ?_) <;> clear hA hB A B)) | (refine wpO_cons fun K hK => ?_; simp only [go_sem, reduceIte, Nat.reduceAdd, Nat.reduceEqDiff, Nat.reduceLT, Nat.reduceLeDiff, *, and_self, lenK_str, q1, q2, q3, q4, qa, beq_self_eq_true]; first | (refine hK.out _ _ ?_; clear hK K) | (refine iteI (fun h => hK.out _ _ ?_) (fun h => hK.out _ _ ?_) <;> clear hK K)))
    simp only [resultsR, resultsL, resultA, expK_int, expK_bool, expK_str, expK_agg, expK_own, expK_tsl, resK_some, go_sem, reduceIte, Nat.reduceAdd, Nat.reduceEqDiff, Nat.reduceLT, Nat.reduceLeDiff, and_self, ]
  · have z : (300 : Int) < (s.size : Int) := by omega
    clear h
    refine EvV.walk rfl fn3 rfl nt3 rfl ?_
    simp only [List.length_cons, List.length_nil, List.cons_append, List.nil_append, Nat.reduceAdd, Nat.reduceSub, List.replicate]
    repeat' (first | refine go1 ?_ | refine blockK_else rfl ?_ | (refine wpC_cond fun A B hA hB => ?_; simp only [go_sem, reduceIte, Nat.reduceAdd, Nat.reduceEqDiff, Nat.reduceLT, Nat.reduceLeDiff, *, and_self, lenK_str, qa]; first | (refine hA.out ?_; clear hA hB A B) | (refine hB.out ?_; clear hA hB A B) | (refine iteI (fun h => hA.out ?_) (fun h => hB.out ?_) <;> clear hA hB A B) | (refine iteI (fun h => hB.out ?_) (fun h => hA.out ?_) <;> clear hA hB A B)) | (refine wpO_cons fun K hK => ?_; simp only [go_sem, reduceIte, Nat.reduceAdd, Nat.reduceEqDiff, Nat.reduceLT, Nat.reduceLeDiff, *, and_self, lenK_str, qa]; first | (refine hK.out _ _ ?_; clear hK K) | (refine iteI (fun h => hK.out _ _ ?_) (fun h => hK.out _ _ ?_) <;> clear hK K)))
    simp only [resultsR, resultsL, resultA, expK_int, expK_bool, expK_str, expK_agg, expK_own, expK_tsl, resK_some, go_sem, reduceIte, Nat.reduceAdd, Nat.reduceEqDiff, Nat.reduceLT, Nat.reduceLeDiff, and_self, ]

theorem lawP {w : AV} (ps : List Psn) (hw : SLs 3 (ps.map encP) w) (n : Int) : EvV CX 4 [w, .int .i64 n] (· = .bool true) := by
  have qa := awake.rw
  have q0 := (peopleL ps hw).rw
  have hws := hw.snap
  cases h : fewP ps with
  | false =>
    rw [h] at q0
    clear h
    refine EvV.walk rfl fn4 rfl nt4 rfl ?_
    simp only [List.length_cons, List.length_nil, List.cons_append, List.nil_append, Nat.reduceAdd, Nat.reduceSub, List.replicate]
    repeat' (first | refine go1 ?_ | refine blockK_else rfl ?_ | (refine wpC_cond fun A B hA hB => ?_; simp only [go_sem, reduceIte, Nat.reduceAdd, Nat.reduceEqDiff, Nat.reduceLT, Nat.reduceLeDiff, *, and_self, hws, q0, qa]; first | (refine hA.out ?_; clear hA hB A B) | (refine hB.out ?_; clear hA hB A B) | (refine iteI (fun h => hA.out ?_) (fun h => hB.out ?_) <;> clear hA hB A B) | (refine iteI (fun h => hB.out ?_) (fun h => hA.out ?_) <;> clear hA hB A B)) | (refine wpO_cons fun K hK => ?_; simp only [go_sem, reduceIte, Nat.reduceAdd, Nat.reduceEqDiff, Nat.reduceLT, Nat.reduceLeDiff, *, and_self, hws, q0, qa]; first | (refine hK.out _ _ ?_; clear hK K) | (refine iteI (fun h => hK.out _ _ ?_) (fun h => hK.out _ _ ?_) <;> clear hK K)))
    simp only [resultsR, resultsL, resultA, expK_int, expK_bool, expK_str, expK_agg, expK_own, expK_tsl, resK_some, go_sem, reduceIte, Nat.reduceAdd, Nat.reduceEqDiff, Nat.reduceLT, Nat.reduceLeDiff, and_self, ]
  | true =>
    obtain ⟨h1, h2⟩ := fewP_iff h
    have hl := Nat.lt_of_le_of_lt h1 (show 60 < 9223372036854775807 by decide)
    rw [h] at q0
    have q1 := (personE w ps n hw hl).rw
    have q2 := (personR w ps n hw hl).rw
    have q3 := (peopleM hw hl (fun p hp => by have := h2 p hp; omega)).rw
    have q4 := (peopleR hw hl (fun p hp => by have := h2 p hp; omega)).rw
    generalize psn ps n = p at q1 q2
    obtain ⟨a, b, c⟩ := p
    have bb := ba_beq b
    simp only [encP] at q1 q2
    clear h h1 h2
    refine EvV.walk rfl fn4 rfl nt4 rfl ?_
    simp only [List.length_cons, List.length_nil, List.cons_append, List.nil_append, Nat.reduceAdd, Nat.reduceSub, List.replicate]
    repeat' (first | refine go1 ?_ | refine blockK_else rfl ?_ | (refine wpC_cond fun A B hA hB => ?_; simp only [go_sem, reduceIte, Nat.reduceAdd, Nat.reduceEqDiff, Nat.reduceLT, Nat.reduceLeDiff, *, and_self, hws, q0, q1, q2, q3, q4, qa, adoptAB, getElem?_len, getElem?_lenAdd, set_len, set_lenAdd, len_mid, ints_len, List.length_map, lt_mid, List.nil_append, beq_self_eq_true]; first | (refine hA.out ?_; clear hA hB A B) | (refine hB.out ?_; clear hA hB A B) | (refine iteI (fun h => hA.out ?_) (fun h => hB.out ?_) <;> clear hA hB A B) | (refine iteI (fun h => hB.out ?_) (fun h => hA.out ?_) <;> clear hA hB A B)) | (refine wpO_cons fun K hK => ?_; simp only [go_sem, reduceIte, Nat.reduceAdd, Nat.reduceEqDiff, Nat.reduceLT, Nat.reduceLeDiff, *, and_self, hws, q0, q1, q2, q3, q4, qa, adoptAB, getElem?_len, getElem?_lenAdd, set_len, set_lenAdd, len_mid, ints_len, List.length_map, lt_mid, List.nil_append, beq_self_eq_true]; first | (refine hK.out _ _ ?_; clear hK K) | (refine iteI (fun h => hK.out _ _ ?_) (fun h => hK.out _ _ ?_) <;> clear hK K)))
    simp only [resultsR, resultsL, resultA, expK_int, expK_bool, expK_str, expK_agg, expK_own, expK_tsl, resK_some, go_sem, reduceIte, Nat.reduceAdd, Nat.reduceEqDiff, Nat.reduceLT, Nat.reduceLeDiff, and_self, ]

theorem fewR_one (r : Rec) : fewR [r] = true ↔ r.name.size ≤ 300 ∧ r.sp.length ≤ 60 := by simp [fewR]
theorem lawC {w : AV} (ps : List Psn) (hw : SLs 3 (ps.map encP) w) (r : Rec) (hr : r.ok) : EvV CX 5 [w, .agg (encRc r)] (· = .bool true) := by
  have qa := awake.rw
  have q0 := (peopleL ps hw).rw
  have q5 := fun st => (recsL [r] (fun x hx => by rw [List.mem_singleton.mp hx]; exact hr) st).rw
  have hws := hw.snap
  have c1 := hr.sv.cell
  have s1 := hr.sv.snap
  have t1 := hr.st
  have e0 : [r].map encRc = [[.int .i64 r.id, .str r.name, .int .i64 r.len, .int .i64 r.day, r.sv]] := rfl
  rw [e0] at q5
  clear e0
  cases h : fewP ps with
  | false =>
    rw [h] at q0
    clear h q5
    refine EvV.walk rfl fn5 rfl nt5 rfl ?_
    simp only [List.length_cons, List.length_nil, List.cons_append, List.nil_append, Nat.reduceAdd, Nat.reduceSub, List.replicate]
    repeat' (first | refine go1 ?_ | refine blockK_else rfl ?_ | (refine wpC_cond fun A B hA hB => ?_; simp only [go_sem, reduceIte, Nat.reduceAdd, Nat.reduceEqDiff, Nat.reduceLT, Nat.reduceLeDiff, *, wpK_buildSlice ty37 rfl, encRc, encP, snap_str, List.cons_append, Bool.not_true, Bool.not_false, c1, s1, hws, q0, qa]; first | (refine hA.out ?_; clear hA hB A B) | (refine hB.out ?_; clear hA hB A B) | (refine iteI (fun h => hA.out ?_) (fun h => hB.out ?_) <;> clear hA hB A B) | (refine iteI (fun h => hB.out ?_) (fun h => hA.out ?_) <;> clear hA hB A B)) | (refine wpO_cons fun K hK => ?_; simp only [go_sem, reduceIte, Nat.reduceAdd, Nat.reduceEqDiff, Nat.reduceLT, Nat.reduceLeDiff, *, wpK_buildSlice ty37 rfl, encRc, encP, snap_str, List.cons_append, Bool.not_true, Bool.not_false, c1, s1, hws, q0, qa]; first | (refine hK.out _ _ ?_; clear hK K) | (refine iteI (fun h => hK.out _ _ ?_) (fun h => hK.out _ _ ?_) <;> clear hK K)))
    simp only [resultsR, resultsL, resultA, expK_int, expK_bool, expK_str, expK_agg, expK_own, expK_tsl, resK_some, go_sem, reduceIte, Nat.reduceAdd, Nat.reduceEqDiff, Nat.reduceLT, Nat.reduceLeDiff, wpK_buildSlice ty37 rfl, ]
  | true =>
    obtain ⟨h1, h2⟩ := fewP_iff h
    have hl := Nat.lt_of_le_of_lt h1 (show 60 < 9223372036854775807 by decide)
    rw [h] at q0
    cases h3 : fewR [r] with
    | false =>
      rw [h3] at q5
      clear h h3 h1 h2
      refine EvV.walk rfl fn5 rfl nt5 rfl ?_
      simp only [List.length_cons, List.length_nil, List.cons_append, List.nil_append, Nat.reduceAdd, Nat.reduceSub, List.replicate]
      repeat' (first | refine go1 ?_ | refine blockK_else rfl ?_ | (refine wpC_cond fun A B hA hB => ?_; simp only [go_sem, reduceIte, Nat.reduceAdd, Nat.reduceEqDiff, Nat.reduceLT, Nat.reduceLeDiff, *, wpK_buildSlice ty37 rfl, encRc, encP, snap_str, List.cons_append, Bool.not_true, Bool.not_false, c1, s1, hws, q0, q5, qa, snap_sl, rowsOf_sl, ints_len, ints_take, List.take_length, Nat.zero_le, Nat.zero_add, Bool.true_or, getElem?_len, getElem?_lenAdd, set_len, set_lenAdd, len_mid, ints_len, List.length_map, lt_mid, List.nil_append]; first | (refine hA.out ?_; clear hA hB A B) | (refine hB.out ?_; clear hA hB A B) | (refine iteI (fun h => hA.out ?_) (fun h => hB.out ?_) <;> clear hA hB A B) | (refine iteI (fun h => hB.out ?_) (fun h => hA.out ?_) <;> clear hA hB A B)) | (refine wpO_cons fun K hK => ?_; simp only [go_sem, reduceIte, Nat.reduceAdd, Nat.reduceEqDiff, Nat.reduceLT, Nat.reduceLeDiff, *, wpK_buildSlice ty37 rfl, encRc, encP, snap_str, List.cons_append, Bool.not_true, Bool.not_false, c1, s1, hws, q0, q5, qa, snap_sl, rowsOf_sl, ints_len, ints_take, List.take_length, Nat.zero_le, Nat.zero_add, Bool.true_or, getElem?_len, getElem?_lenAdd, set_len, set_lenAdd, len_mid, ints_len, List.length_map, lt_mid, List.nil_append]; first | (refine hK.out _ _ ?_; clear hK K) | (refine iteI (fun h => hK.out _ _ ?_) (fun h => hK.out _ _ ?_) <;> clear hK K)))
      simp only [resultsR, resultsL, resultA, expK_int, expK_bool, expK_str, expK_agg, expK_own, expK_tsl, resK_some, go_sem, reduceIte, Nat.reduceAdd, Nat.reduceEqDiff, Nat.reduceLT, Nat.reduceLeDiff, wpK_buildSlice ty37 rfl, ]
    | true =>
      obtain ⟨h4, h5⟩ := (fewR_one r).mp h3
      rw [h3] at q5
      have q1 := (checkM hw hl hr (by omega) (by omega)).rw
      have q2 := (checkRr hw hl hr (by omega) (by omega)).rw
      simp only [encRc] at q1 q2
      clear h h3 h1 h2 h4 h5
      refine EvV.walk rfl fn5 rfl nt5 rfl ?_
      simp only [List.length_cons, List.length_nil, List.cons_append, List.nil_append, Nat.reduceAdd, Nat.reduceSub, List.replicate]
      repeat' (first | refine go1 ?_ | refine blockK_else rfl ?_ | (refine wpC_cond fun A B hA hB => ?_; simp only [go_sem, reduceIte, Nat.reduceAdd, Nat.reduceEqDiff, Nat.reduceLT, Nat.reduceLeDiff, *, wpK_buildSlice ty37 rfl, encRc, encP, snap_str, List.cons_append, Bool.not_true, Bool.not_false, c1, s1, hws, q0, q5, q1, q2, qa, snap_sl, rowsOf_sl, ints_len, ints_take, List.take_length, Nat.zero_le, Nat.zero_add, Bool.true_or, getElem?_len, getElem?_lenAdd, set_len, set_lenAdd, len_mid, ints_len, List.length_map, lt_mid, List.nil_append, beq_self_eq_true]; first | (refine hA.out ?_; clear hA hB A B) | (refine hB.out ?_; clear hA hB A B) | (refine iteI (fun h => hA.out ?_) (fun h => hB.out ?_) <;> clear hA hB A B) | (refine iteI (fun h => hB.out ?_) (fun h => hA.out ?_) <;> clear hA hB A B)) | (refine wpO_cons fun K hK => ?_; simp only [go_sem, reduceIte, Nat.reduceAdd, Nat.reduceEqDiff, Nat.reduceLT, Nat.reduceLeDiff, *, wpK_buildSlice ty37 rfl, encRc, encP, snap_str, List.cons_append, Bool.not_true, Bool.not_false, c1, s1, hws, q0, q5, q1, q2, qa, snap_sl, rowsOf_sl, ints_len, ints_take, List.take_length, Nat.zero_le, Nat.zero_add, Bool.true_or, getElem?_len, getElem?_lenAdd, set_len, set_lenAdd, len_mid, ints_len, List.length_map, lt_mid, List.nil_append, beq_self_eq_true]; first | (refine hK.out _ _ ?_; clear hK K) | (refine iteI (fun h => hK.out _ _ ?_) (fun h => hK.out _ _ ?_) <;> clear hK K)))
      simp only [resultsR, resultsL, resultA, expK_int, expK_bool, expK_str, expK_agg, expK_own, expK_tsl, resK_some, go_sem, reduceIte, Nat.reduceAdd, Nat.reduceEqDiff, Nat.reduceLT, Nat.reduceLeDiff, wpK_buildSlice ty37 rfl, ]

theorem lawR {w : AV} (ps : List Psn) (hw : SLs 3 (ps.map encP) w) (rs : List Rec) (hok : ∀ x ∈ rs, x.ok) (st : Bool) : EvV CX 6 [w, .tsl st 5 (rs.map encRc)] (· = .bool true) := by
  have qa := awake.rw
  have q0 := (peopleL ps hw).rw
  have q5 := (recsL rs hok st).rw
  have hws := hw.snap
  have s1 : ∀ S, snap S (.tsl st 5 (rs.map encRc)) = some (.tsl st 5 (rs.map encRc)) := fun S => by simp only [snap]
  cases h : fewP ps with
  | false =>
    rw [h] at q0
    clear h q5
    refine EvV.walk rfl fn6 rfl nt6 rfl ?_
    simp only [List.length_cons, List.length_nil, List.cons_append, List.nil_append, Nat.reduceAdd, Nat.reduceSub, List.replicate]
    repeat' (first | refine go1 ?_ | refine blockK_else rfl ?_ | (refine wpC_cond fun A B hA hB => ?_; simp only [go_sem, reduceIte, Nat.reduceAdd, Nat.reduceEqDiff, Nat.reduceLT, Nat.reduceLeDiff, *, and_self, s1, hws, q0, qa]; first | (refine hA.out ?_; clear hA hB A B) | (refine hB.out ?_; clear hA hB A B) | (refine iteI (fun h => hA.out ?_) (fun h => hB.out ?_) <;> clear hA hB A B) | (refine iteI (fun h => hB.out ?_) (fun h => hA.out ?_) <;> clear hA hB A B)) | (refine wpO_cons fun K hK => ?_; simp only [go_sem, reduceIte, Nat.reduceAdd, Nat.reduceEqDiff, Nat.reduceLT, Nat.reduceLeDiff, *, and_self, s1, hws, q0, qa]; first | (refine hK.out _ _ ?_; clear hK K) | (refine iteI (fun h => hK.out _ _ ?_) (fun h => hK.out _ _ ?_) <;> clear hK K)))
    simp only [resultsR, resultsL, resultA, expK_int, expK_bool, expK_str, expK_agg, expK_own, expK_tsl, resK_some, go_sem, reduceIte, Nat.reduceAdd, Nat.reduceEqDiff, Nat.reduceLT, Nat.reduceLeDiff, and_self, ]
  | true =>
    have hl := Nat.lt_of_le_of_lt (fewP_iff h).1 (show 60 < 9223372036854775807 by decide)
    rw [h] at q0
    cases h3 : fewR rs with
    | false =>
      rw [h3] at q5
      clear h h3
      refine EvV.walk rfl fn6 rfl nt6 rfl ?_
      simp only [List.length_cons, List.length_nil, List.cons_append, List.nil_append, Nat.reduceAdd, Nat.reduceSub, List.replicate]
      repeat' (first | refine go1 ?_ | refine blockK_else rfl ?_ | (refine wpC_cond fun A B hA hB => ?_; simp only [go_sem, reduceIte, Nat.reduceAdd, Nat.reduceEqDiff, Nat.reduceLT, Nat.reduceLeDiff, *, and_self, s1, hws, q0, q5, qa]; first | (refine hA.out ?_; clear hA hB A B) | (refine hB.out ?_; clear hA hB A B) | (refine iteI (fun h => hA.out ?_) (fun h => hB.out ?_) <;> clear hA hB A B) | (refine iteI (fun h => hB.out ?_) (fun h => hA.out ?_) <;> clear hA hB A B)) | (refine wpO_cons fun K hK => ?_; simp only [go_sem, reduceIte, Nat.reduceAdd, Nat.reduceEqDiff, Nat.reduceLT, Nat.reduceLeDiff, *, and_self, s1, hws, q0, q5, qa]; first | (refine hK.out _ _ ?_; clear hK K) | (refine iteI (fun h => hK.out _ _ ?_) (fun h => hK.out _ _ ?_) <;> clear hK K)))
      simp only [resultsR, resultsL, resultA, expK_int, expK_bool, expK_str, expK_agg, expK_own, expK_tsl, resK_some, go_sem, reduceIte, Nat.reduceAdd, Nat.reduceEqDiff, Nat.reduceLT, Nat.reduceLeDiff, and_self, ]
    | true =>
      obtain ⟨h4, h5⟩ := fewR_iff h3
      have hrl := Nat.lt_of_le_of_lt h4 (show 20 < 9223372036854775807 by decide)
      rw [h3] at q5
      have q1 := (recsM hw hl rs hok (fun x hx => by have := (h5 x hx).1; omega) (fun x hx => by have := (h5 x hx).2; omega) hrl st).rw
      have q2 := (recsR hw hl rs hok (fun x hx => by have := (h5 x hx).1; omega) (fun x hx => by have := (h5 x hx).2; omega) hrl st).rw
      clear h h3 h4 h5
      refine EvV.walk rfl fn6 rfl nt6 rfl ?_
      simp only [List.length_cons, List.length_nil, List.cons_append, List.nil_append, Nat.reduceAdd, Nat.reduceSub, List.replicate]
      repeat' (first | refine go1 ?_ | refine blockK_else rfl ?_ | (refine wpC_cond fun A B hA hB => ?_; simp only [go_sem, reduceIte, Nat.reduceAdd, Nat.reduceEqDiff, Nat.reduceLT, Nat.reduceLeDiff, *, and_self, s1, hws, q0, q5, q1, q2, qa, beq_self_eq_true]; first | (refine hA.out ?_; clear hA hB A B) | (refine hB.out ?_; clear hA hB A B) | (refine iteI (fun h => hA.out ?_) (fun h => hB.out ?_) <;> clear hA hB A B) | (refine iteI (fun h => hB.out ?_) (fun h => hA.out ?_) <;> clear hA hB A B)) | (refine wpO_cons fun K hK => ?_; simp only [go_sem, reduceIte, Nat.reduceAdd, Nat.reduceEqDiff, Nat.reduceLT, Nat.reduceLeDiff, *, and_self, s1, hws, q0, q5, q1, q2, qa, beq_self_eq_true]; first | (refine hK.out _ _ ?_; clear hK K) | (refine iteI (fun h => hK.out _ _ ?_) (fun h => hK.out _ _ ?_) <;> clear hK K)))
      simp only [resultsR, resultsL, resultA, expK_int, expK_bool, expK_str, expK_agg, expK_own, expK_tsl, resK_some, go_sem, reduceIte, Nat.reduceAdd, Nat.reduceEqDiff, Nat.reduceLT, Nat.reduceLeDiff, and_self, ]

/- Chapter 10: the laws Heard, Prefix. -/
open Go.Proofs
attribute [local go_sem] br28 br29 br30 fz34 fz35 fz36 fz37 ty5 fz38 fz39 fz8
set_option maxHeartbeats 4000000

theorem OutI.slsM {l : List Int} {r : AV} (h : OutI l r) : SLs 1 (ints l) (freezeA r) := by
  cases h with
  | own => exact .rows true
  | part => exact .rows true
  | nil h => exact .nil (by rw [h]; rfl)

theorem lawH (rs : List Rec) (hok : ∀ x ∈ rs, x.ok) (st : Bool) (n : Int) : EvV CX 7 [.tsl st 5 (rs.map encRc), .int .i64 n] (· = .bool true) := by
  have qa := awake.rw
  have hv : SLs 5 (rs.map encRc) (.tsl st 5 (rs.map encRc)) := .rows st
  have q5 := (recsL rs hok st).rw
  have s1 : ∀ S, snap S (.tsl st 5 (rs.map encRc)) = some (.tsl st 5 (rs.map encRc)) := fun S => by simp only [snap]
  cases h3 : fewR rs with
  | false =>
    rw [h3] at q5
    clear h3
    refine EvV.walk rfl fn7 rfl nt7 rfl ?_
    simp only [List.length_cons, List.length_nil, List.cons_append, List.nil_append, Nat.reduceAdd, Nat.reduceSub, List.replicate]
    repeat' (first | refine go1 ?_ | refine blockK_else rfl ?_ | (refine wpC_cond fun A B hA hB => ?_; simp only [go_sem, reduceIte, Nat.reduceAdd, Nat.reduceEqDiff, Nat.reduceLT, Nat.reduceLeDiff, *, and_self, s1, q5, qa]; first | (refine hA.out ?_; clear hA hB A B) | (refine hB.out ?_; clear hA hB A B) | (refine iteI (fun h => hA.out ?_) (fun h => hB.out ?_) <;> clear hA hB A B) | (refine iteI (fun h => hB.out ?_) (fun h => hA.out ?_) <;> clear hA hB A B)) | (refine wpO_cons fun K hK => ?_; simp only [go_sem, reduceIte, Nat.reduceAdd, Nat.reduceEqDiff, Nat.reduceLT, Nat.reduceLeDiff, *, and_self, s1, q5, qa]; first | (refine hK.out _ _ ?_; clear hK K) | (refine iteI (fun h => hK.out _ _ ?_) (fun h => hK.out _ _ ?_) <;> clear hK K)))
    simp only [resultsR, resultsL, resultA, expK_int, expK_bool, expK_str, expK_agg, expK_own, expK_tsl, resK_some, go_sem, reduceIte, Nat.reduceAdd, Nat.reduceEqDiff, Nat.reduceLT, Nat.reduceLeDiff, and_self, ]
  | true =>
    obtain ⟨h4, h5⟩ := fewR_iff h3
    have hrl := Nat.lt_of_le_of_lt h4 (show 20 < 9223372036854775807 by decide)
    rw [h3] at q5
    have hs : ∀ x ∈ rs, x.sp.length < 9223372036854775807 := fun x hx => by have := (h5 x hx).2; omega
    obtain ⟨r, hr, hq⟩ := heardM rs n hok hs (by omega) st
    have q1 := hq.rw
    have q2 := (heardR rs n hok hs (by omega) st).rw
    obtain ⟨v, hf⟩ : ∃ v, freezeA r = v := ⟨_, rfl⟩
    have hvv := hr.slsM
    rw [hf] at hvv
    have sv := hvv.snap
    have hlen : (sorted (hrd rs n)).length ≤ 20 := by
      have h1 := sorted_len (hrd rs n)
      have h2 := hrd_len rs n
      omega
    have q3 := (same1 v (.tsl true 1 (ints (sorted (hrd rs n)))) _ _ hvv (.rows true) (by omega)).rw
    have s3 : ∀ S, snap S (.tsl true 1 (ints (sorted (hrd rs n)))) = some (.tsl true 1 (ints (sorted (hrd rs n)))) := fun S => by simp only [snap]
    simp only [decide_true] at q3
    have hh4 : Hold (rs.length ≤ 20) := ⟨h4⟩
    have hh5 : Hold (∀ r ∈ rs, r.name.size ≤ 300 ∧ r.sp.length ≤ 60) := ⟨h5⟩
    clear h3 h4 h5 hq hr hvv hlen
    refine EvV.walk rfl fn7 rfl nt7 rfl ?_
    simp only [List.length_cons, List.length_nil, List.cons_append, List.nil_append, Nat.reduceAdd, Nat.reduceSub, List.replicate]
    repeat' (first | refine go1 ?_ | refine blockK_else rfl ?_ | (refine wpC_cond fun A B hA hB => ?_; simp only [go_sem, reduceIte, Nat.reduceAdd, Nat.reduceEqDiff, Nat.reduceLT, Nat.reduceLeDiff, *, and_self, s1, q5, lenK_sls hv, List.length_map]; first | (refine hA.out ?_; clear hA hB A B) | (refine hB.out ?_; clear hA hB A B) | (refine iteI (fun h => hA.out ?_) (fun h => hB.out ?_) <;> clear hA hB A B) | (refine iteI (fun h => hB.out ?_) (fun h => hA.out ?_) <;> clear hA hB A B)) | (refine wpO_cons fun K hK => ?_; simp only [go_sem, reduceIte, Nat.reduceAdd, Nat.reduceEqDiff, Nat.reduceLT, Nat.reduceLeDiff, *, and_self, s1, q5, lenK_sls hv, List.length_map]; first | (refine hK.out _ _ ?_; clear hK K) | (refine iteI (fun h => hK.out _ _ ?_) (fun h => hK.out _ _ ?_) <;> clear hK K)))
    refine wpC_each [4, 5, 13, 14, 15, 16, 17, 18, 19, 20, 21, 22, 23, 24, 25, 26, 27, 28] 12 rs (fun _ _ => True) ?_ ?_ ?_ ?_
    · trivial
    · ((try simp only [eraseA_cons, eraseA_nil, setL_cons, setL_nil, List.set_cons_zero, List.set_cons_succ]); all_goals (first | rfl | (simp only [len_snoc, ints_len, List.length_map, ]; done) | (simp only [len_snoc, len_mid, ints_len, List.length_map, List.length_append, List.length_cons, List.length_nil, Nat.zero_add, ]; done) | (simp only [len_mid, len_snoc, ints_len, List.length_map, List.length_append, List.length_cons, List.length_nil, Nat.zero_add, ]; rfl)))
    · intro g G _
      simp only [garbA_cons, garbA_nil, setL_cons, setL_nil, List.set_cons_zero, List.set_cons_succ]
      repeat' (first | refine go1 ?_ | refine blockK_else rfl ?_ | (refine wpC_cond fun A B hA hB => ?_; simp only [go_sem, reduceIte, Nat.reduceAdd, Nat.reduceEqDiff, Nat.reduceLT, Nat.reduceLeDiff, *, and_self, ints_len, List.length_map, Int.lt_irrefl, List.nil_append, s1, q1, q2, hf, sv, q3, s3, qa]; first | (refine hA.out ?_; clear hA hB A B) | (refine hB.out ?_; clear hA hB A B) | (refine iteI (fun h => hA.out ?_) (fun h => hB.out ?_) <;> clear hA hB A B) | (refine iteI (fun h => hB.out ?_) (fun h => hA.out ?_) <;> clear hA hB A B)) | (refine wpO_cons fun K hK => ?_; simp only [go_sem, reduceIte, Nat.reduceAdd, Nat.reduceEqDiff, Nat.reduceLT, Nat.reduceLeDiff, *, and_self, ints_len, List.length_map, Int.lt_irrefl, List.nil_append, s1, q1, q2, hf, sv, q3, s3, qa]; first | (refine hK.out _ _ ?_; clear hK K) | (refine iteI (fun h => hK.out _ _ ?_) (fun h => hK.out _ _ ?_) <;> clear hK K)))
      simp only [resultsR, resultsL, resultA, expK_int, expK_bool, expK_str, expK_agg, expK_own, expK_tsl, resK_some, go_sem, reduceIte, Nat.reduceAdd, Nat.reduceEqDiff, Nat.reduceLT, Nat.reduceLeDiff, and_self, ]
    intro g G pre x post h1 _
    have i1 := idx_sls hv (X := CX) ty37 ty35 rfl (by rw [h1]; exact map_mid encRc pre x post) (k := .i64)
    have w1 := wrap_succ (n := pre.length) (by have := hh4.out; rw [h1] at this; simp at this; omega)
    have lt1 : (pre.length : Int) < (rs.length : Int) := by rw [h1]; simp; omega
    have hx := hok x (by rw [h1]; simp)
    have c1 := hx.sv.cell
    have sx := hx.sv.snap
    have p1 := (speaksM x n hx (by have := (hh5.out x (by rw [h1]; simp)).2; omega)).rw
    have p2 := (speaksR x n hx (by have := (hh5.out x (by rw [h1]; simp)).2; omega)).rw
    have hh1 : Hold (rs = pre ++ x :: post) := ⟨h1⟩
    simp only [encRc] at p1 p2
    clear h1 q1 q2 q3
    simp only [garbA_cons, garbA_nil, setL_cons, setL_nil, List.set_cons_zero, List.set_cons_succ]
    repeat' (first | refine go1 ?_ | refine blockK_else rfl ?_ | (refine wpC_cond fun A B hA hB => ?_; simp only [go_sem, reduceIte, Nat.reduceAdd, Nat.reduceEqDiff, Nat.reduceLT, Nat.reduceLeDiff, *, and_self, encRc, encP, snap_str, List.cons_append, Bool.not_true, Bool.not_false, c1, sx, i1, w1, p1, p2, List.length_map, beq_self_eq_true]; first | (refine hA.out ?_; clear hA hB A B) | (refine hB.out ?_; clear hA hB A B) | (refine iteI (fun h => hA.out ?_) (fun h => hB.out ?_) <;> clear hA hB A B) | (refine iteI (fun h => hB.out ?_) (fun h => hA.out ?_) <;> clear hA hB A B)) | (refine wpO_cons fun K hK => ?_; simp only [go_sem, reduceIte, Nat.reduceAdd, Nat.reduceEqDiff, Nat.reduceLT, Nat.reduceLeDiff, *, and_self, encRc, encP, snap_str, List.cons_append, Bool.not_true, Bool.not_false, c1, sx, i1, w1, p1, p2, List.length_map, beq_self_eq_true]; first | (refine hK.out _ _ ?_; clear hK K) | (refine iteI (fun h => hK.out _ _ ?_) (fun h => hK.out _ _ ?_) <;> clear hK K)))
    refine each_next hh1.out trivial ?_ ?_
    · ((try simp only [eraseA_cons, eraseA_nil, setL_cons, setL_nil, List.set_cons_zero, List.set_cons_succ]); all_goals (first | rfl | (simp only [len_snoc, ints_len, List.length_map, ]; done) | (simp only [len_snoc, len_mid, ints_len, List.length_map, List.length_append, List.length_cons, List.length_nil, Nat.zero_add, ]; done) | (simp only [len_mid, len_snoc, ints_len, List.length_map, List.length_append, List.length_cons, List.length_nil, Nat.zero_add, ]; rfl)))
    · first | exact ⟨[], (List.append_nil _).symm⟩ | exact ⟨_, rfl⟩ | (simp only [List.append_assoc, List.cons_append, List.nil_append]; exact ⟨_, rfl⟩)

/-! ### What right recordings are -/
structure RcOK (ps : List Psn) (rs : List Rec) : Prop where
  chk : ∀ x ∈ rs, chkC ps x = 0
  ids : rs.Pairwise fun a b => a.id < b.id
  nms : rs.Pairwise fun a b => nmE a b = false
theorem getLastD_snoc {β : Type} (l : List β) (x d : β) : (l ++ [x]).getLastD d = x := by simp
theorem rcF_ok (ps : List Psn) : ∀ (post pre : List Rec), RcOK ps pre → (rcF ps pre post = 0 ↔ RcOK ps (pre ++ post))
  | [], pre, h => by rw [List.append_nil]; exact ⟨fun _ => h, fun _ => rfl⟩
  | x :: post, pre, h => by
    have step : RcOK ps (pre ++ [x]) ↔ chkC ps x = 0 ∧ (∀ y ∈ pre, y.id < x.id) ∧ ∀ y ∈ pre, nmE y x = false := by
      constructor
      · rintro ⟨h1, h2, h3⟩
        exact ⟨h1 x (by simp), fun y hy => (List.pairwise_append.mp h2).2.2 y hy x (by simp), fun y hy => (List.pairwise_append.mp h3).2.2 y hy x (by simp)⟩
      · rintro ⟨h1, h2, h3⟩
        refine ⟨fun y hy => ?_, List.pairwise_append.mpr ⟨h.ids, List.pairwise_singleton _ _, fun y hy z hz => ?_⟩, List.pairwise_append.mpr ⟨h.nms, List.pairwise_singleton _ _, fun y hy z hz => ?_⟩⟩
        · rcases List.mem_append.mp hy with k | k
          · exact h.chk y k
          · rw [List.mem_singleton.mp k]; exact h1
        · rw [List.mem_singleton.mp hz]; exact h2 y hy
        · rw [List.mem_singleton.mp hz]; exact h3 y hy
    have hid : (∀ y ∈ pre, y.id < x.id) ↔ ¬ ((0 : Int) < (pre.length : Int) ∧ x.id ≤ (pre.getLastD noR).id) := by
      rcases snoc_cases pre with rfl | ⟨p', z, rfl⟩
      · simp
      · rw [getLastD_snoc]
        constructor
        · rintro k ⟨_, k2⟩
          have := k z (by simp); omega
        · intro k y hy
          have kz : z.id < x.id := by
            apply Classical.byContradiction
            intro hn
            exact k ⟨by rw [len_snoc]; omega, by omega⟩
          rcases List.mem_append.mp hy with e | e
          · have := (List.pairwise_append.mp h.ids).2.2 y e z (by simp); omega
          · rw [List.mem_singleton.mp e]; exact kz
    have hnm : (∀ y ∈ pre, nmE y x = false) ↔ ¬ (pre.any fun y => nmE y x) = true := by
      rw [List.any_eq_true]
      constructor
      · rintro k ⟨y, hy, e⟩; rw [k y hy] at e; cases e
      · intro k y hy
        cases e : nmE y x with
        | false => rfl
        | true => exact absurd ⟨y, hy, e⟩ k
    have hsub : RcOK ps (pre ++ x :: post) → RcOK ps (pre ++ [x]) := fun k => by
      have e : pre ++ x :: post = (pre ++ [x]) ++ post := by simp
      rw [e] at k
      exact ⟨fun y hy => k.chk y (List.mem_append_left _ hy), (List.pairwise_append.mp k.ids).1, (List.pairwise_append.mp k.nms).1⟩
    rw [rcF]
    by_cases c1 : chkC ps x = 0
    · rw [if_pos c1]
      by_cases c2 : (0 : Int) < (pre.length : Int) ∧ x.id ≤ (pre.getLastD noR).id
      · rw [if_pos c2]
        exact ⟨fun k => by omega, fun k => absurd c2 (hid.mp ((step.mp (hsub k)).2.1))⟩
      · rw [if_neg c2]
        by_cases c3 : (pre.any fun y => nmE y x) = true
        · rw [if_pos c3]
          exact ⟨fun k => by omega, fun k => absurd c3 (hnm.mp ((step.mp (hsub k)).2.2))⟩
        · rw [if_neg c3, rcF_ok ps post (pre ++ [x]) (step.mpr ⟨c1, hid.mpr c2, hnm.mpr c3⟩)]
          simp
    · rw [if_neg c1]
      exact ⟨fun k => absurd k c1, fun k => absurd ((step.mp (hsub k)).1) c1⟩
theorem recsF_ok (ps : List Psn) (rs : List Rec) : recsF ps rs = 0 ↔ rs.length ≤ 12 ∧ RcOK ps rs := by
  rw [recsF]
  by_cases h : rs.length ≤ 12
  · rw [if_pos h, rcF_ok ps rs [] ⟨by simp, .nil, .nil⟩, List.nil_append]
    exact ⟨fun k => ⟨h, k⟩, fun k => k.2⟩
  · rw [if_neg h]
    exact ⟨fun k => by omega, fun k => absurd k.1 h⟩
theorem RcOK.take {ps : List Psn} {rs : List Rec} (h : RcOK ps rs) (k : Nat) : RcOK ps (rs.take k) :=
  ⟨fun y hy => h.chk y (List.mem_of_mem_take hy), h.ids.sublist (List.take_sublist _ _), h.nms.sublist (List.take_sublist _ _)⟩

theorem tmod_nat (a n : Nat) : (a : Int).tmod ((n : Nat) : Int) = ((a % n : Nat) : Int) := by
  rw [Int.tmod_eq_emod_of_nonneg (by omega)]; rfl

theorem lawX {w : AV} (ps : List Psn) (hw : SLs 3 (ps.map encP) w) (rs : List Rec) (hok : ∀ x ∈ rs, x.ok) (st : Bool) (a : Nat) (ha : a < 256) :
    EvV CX 8 [w, .tsl st 5 (rs.map encRc), .int .u8 (a : Int)] (· = .bool true) := by
  have qa := awake.rw
  have q0 := (peopleL ps hw).rw
  have q5 := (recsL rs hok st).rw
  have hws := hw.snap
  have hv : SLs 5 (rs.map encRc) (.tsl st 5 (rs.map encRc)) := .rows st
  have s1 : ∀ S, snap S (.tsl st 5 (rs.map encRc)) = some (.tsl st 5 (rs.map encRc)) := fun S => by simp only [snap]
  cases h : fewP ps with
  | false =>
    rw [h] at q0
    clear h q5
    refine EvV.walk rfl fn8 rfl nt8 rfl ?_
    simp only [List.length_cons, List.length_nil, List.cons_append, List.nil_append, Nat.reduceAdd, Nat.reduceSub, List.replicate]
    repeat' (first | refine go1 ?_ | refine blockK_else rfl ?_ | (refine wpC_cond fun A B hA hB => ?_; simp only [go_sem, reduceIte, Nat.reduceAdd, Nat.reduceEqDiff, Nat.reduceLT, Nat.reduceLeDiff, *, cvtK_int, wpK_cvt ty5 ty3 rfl, s1, hws, q0, qa]; first | (refine hA.out ?_; clear hA hB A B) | (refine hB.out ?_; clear hA hB A B) | (refine iteI (fun h => hA.out ?_) (fun h => hB.out ?_) <;> clear hA hB A B) | (refine iteI (fun h => hB.out ?_) (fun h => hA.out ?_) <;> clear hA hB A B)) | (refine wpO_cons fun K hK => ?_; simp only [go_sem, reduceIte, Nat.reduceAdd, Nat.reduceEqDiff, Nat.reduceLT, Nat.reduceLeDiff, *, cvtK_int, wpK_cvt ty5 ty3 rfl, s1, hws, q0, qa]; first | (refine hK.out _ _ ?_; clear hK K) | (refine iteI (fun h => hK.out _ _ ?_) (fun h => hK.out _ _ ?_) <;> clear hK K)))
    simp only [resultsR, resultsL, resultA, expK_int, expK_bool, expK_str, expK_agg, expK_own, expK_tsl, resK_some, go_sem, reduceIte, Nat.reduceAdd, Nat.reduceEqDiff, Nat.reduceLT, Nat.reduceLeDiff, cvtK_int, wpK_cvt ty5 ty3 rfl, ]
  | true =>
  have hl := Nat.lt_of_le_of_lt (fewP_iff h).1 (show 60 < 9223372036854775807 by decide)
  rw [h] at q0
  cases h3 : fewR rs with
  | false =>
    rw [h3] at q5
    clear h h3
    refine EvV.walk rfl fn8 rfl nt8 rfl ?_
    simp only [List.length_cons, List.length_nil, List.cons_append, List.nil_append, Nat.reduceAdd, Nat.reduceSub, List.replicate]
    repeat' (first | refine go1 ?_ | refine blockK_else rfl ?_ | (refine wpC_cond fun A B hA hB => ?_; simp only [go_sem, reduceIte, Nat.reduceAdd, Nat.reduceEqDiff, Nat.reduceLT, Nat.reduceLeDiff, *, cvtK_int, wpK_cvt ty5 ty3 rfl, s1, hws, q0, q5, qa]; first | (refine hA.out ?_; clear hA hB A B) | (refine hB.out ?_; clear hA hB A B) | (refine iteI (fun h => hA.out ?_) (fun h => hB.out ?_) <;> clear hA hB A B) | (refine iteI (fun h => hB.out ?_) (fun h => hA.out ?_) <;> clear hA hB A B)) | (refine wpO_cons fun K hK => ?_; simp only [go_sem, reduceIte, Nat.reduceAdd, Nat.reduceEqDiff, Nat.reduceLT, Nat.reduceLeDiff, *, cvtK_int, wpK_cvt ty5 ty3 rfl, s1, hws, q0, q5, qa]; first | (refine hK.out _ _ ?_; clear hK K) | (refine iteI (fun h => hK.out _ _ ?_) (fun h => hK.out _ _ ?_) <;> clear hK K)))
    simp only [resultsR, resultsL, resultA, expK_int, expK_bool, expK_str, expK_agg, expK_own, expK_tsl, resK_some, go_sem, reduceIte, Nat.reduceAdd, Nat.reduceEqDiff, Nat.reduceLT, Nat.reduceLeDiff, cvtK_int, wpK_cvt ty5 ty3 rfl, ]
  | true =>
  obtain ⟨h4, h5⟩ := fewR_iff h3
  have hrl := Nat.lt_of_le_of_lt h4 (show 20 < 9223372036854775807 by decide)
  rw [h3] at q5
  have hn : ∀ x ∈ rs, x.name.size ≤ 1048576 := fun x hx => by have := (h5 x hx).1; omega
  have hs : ∀ x ∈ rs, x.sp.length < 9223372036854775807 := fun x hx => by have := (h5 x hx).2; omega
  have q1 := (recsM hw hl rs hok hn hs hrl st).rw
  by_cases k : recsF ps rs = 0
  rotate_left
  · have kb : (recsF ps rs == 0) = false := by simpa using k
    generalize recsF ps rs = e at q1 k kb
    clear h h3 h4 h5 k hn hs
    refine EvV.walk rfl fn8 rfl nt8 rfl ?_
    simp only [List.length_cons, List.length_nil, List.cons_append, List.nil_append, Nat.reduceAdd, Nat.reduceSub, List.replicate]
    repeat' (first | refine go1 ?_ | refine blockK_else rfl ?_ | (refine wpC_cond fun A B hA hB => ?_; simp only [go_sem, reduceIte, Nat.reduceAdd, Nat.reduceEqDiff, Nat.reduceLT, Nat.reduceLeDiff, *, cvtK_int, wpK_cvt ty5 ty3 rfl, s1, hws, q0, q5, q1, kb, qa]; first | (refine hA.out ?_; clear hA hB A B) | (refine hB.out ?_; clear hA hB A B) | (refine iteI (fun h => hA.out ?_) (fun h => hB.out ?_) <;> clear hA hB A B) | (refine iteI (fun h => hB.out ?_) (fun h => hA.out ?_) <;> clear hA hB A B)) | (refine wpO_cons fun K hK => ?_; simp only [go_sem, reduceIte, Nat.reduceAdd, Nat.reduceEqDiff, Nat.reduceLT, Nat.reduceLeDiff, *, cvtK_int, wpK_cvt ty5 ty3 rfl, s1, hws, q0, q5, q1, kb, qa]; first | (refine hK.out _ _ ?_; clear hK K) | (refine iteI (fun h => hK.out _ _ ?_) (fun h => hK.out _ _ ?_) <;> clear hK K)))
    simp only [resultsR, resultsL, resultA, expK_int, expK_bool, expK_str, expK_agg, expK_own, expK_tsl, resK_some, go_sem, reduceIte, Nat.reduceAdd, Nat.reduceEqDiff, Nat.reduceLT, Nat.reduceLeDiff, cvtK_int, wpK_cvt ty5 ty3 rfl, ]
  obtain ⟨k1, k2⟩ := (recsF_ok ps rs).mp k
  rw [k] at q1
  obtain ⟨m, hm⟩ : ∃ m, a % (rs.length + 1) = m := ⟨_, rfl⟩
  have hml : m ≤ rs.length := by have : a % (rs.length + 1) < rs.length + 1 := Nat.mod_lt a (Nat.succ_pos rs.length); omega
  have k3 : recsF ps (rs.take m) = 0 := (recsF_ok ps (rs.take m)).mpr ⟨by rw [List.length_take]; omega, k2.take m⟩
  have q2 := (recsM hw hl (rs.take m) (fun x hx => hok x (List.mem_of_mem_take hx)) (fun x hx => hn x (List.mem_of_mem_take hx)) (fun x hx => hs x (List.mem_of_mem_take hx)) (by rw [List.length_take]; omega) st).rw
  rw [k3] at q2
  have s2 : ∀ S, snap S (.tsl st 5 ((rs.take m).map encRc)) = some (.tsl st 5 ((rs.take m).map encRc)) := fun S => by simp only [snap]
  have sl := slice_to (X := CX) (st := st) (sz := 5) (rows := rs.map encRc) (rows' := (rs.take m).map encRc) (n := m) ty37 ty35 rfl (by simpa using hml) (by rw [List.map_take]) (k := .i64)
  have wa : IntKind.wrap .i64 ((a : Nat) : Int) = (a : Int) := wrap_small (by omega) (by omega)
  have wl := wrap_succ (n := rs.length) (by omega)
  have wm : ((a : Nat) : Int).tmod ((rs.length + 1 : Nat) : Int) = (m : Int) := by rw [tmod_nat, hm]
  have wz : ¬ ((rs.length + 1 : Nat) : Int) = 0 := by omega
  have hk2 : Hold (RcOK ps rs) := ⟨k2⟩
  clear h h3 h5 k k1 k2 k3 hm hml
  refine EvV.walk rfl fn8 rfl nt8 rfl ?_
  simp only [List.length_cons, List.length_nil, List.cons_append, List.nil_append, Nat.reduceAdd, Nat.reduceSub, List.replicate]
  repeat' (first | refine go1 ?_ | refine blockK_else rfl ?_ | (refine wpC_cond fun A B hA hB => ?_; simp only [go_sem, reduceIte, Nat.reduceAdd, Nat.reduceEqDiff, Nat.reduceLT, Nat.reduceLeDiff, *, cvtK_int, wpK_cvt ty5 ty3 rfl, s1, hws, q0, q5, q1, lenK_sls hv, List.length_map, beq_self_eq_true]; first | (refine hA.out ?_; clear hA hB A B) | (refine hB.out ?_; clear hA hB A B) | (refine iteI (fun h => hA.out ?_) (fun h => hB.out ?_) <;> clear hA hB A B) | (refine iteI (fun h => hB.out ?_) (fun h => hA.out ?_) <;> clear hA hB A B)) | (refine wpO_cons fun K hK => ?_; simp only [go_sem, reduceIte, Nat.reduceAdd, Nat.reduceEqDiff, Nat.reduceLT, Nat.reduceLeDiff, *, cvtK_int, wpK_cvt ty5 ty3 rfl, s1, hws, q0, q5, q1, lenK_sls hv, List.length_map, beq_self_eq_true]; first | (refine hK.out _ _ ?_; clear hK K) | (refine iteI (fun h => hK.out _ _ ?_) (fun h => hK.out _ _ ?_) <;> clear hK K)))
  refine wpC_each [6, 7, 8, 27, 28, 29, 30, 31, 32, 33, 34, 35, 36, 37, 38, 39, 40, 41, 42, 43, 44, 45, 46, 47, 48, 49, 50, 51, 52, 53, 54, 55, 56, 57, 58] 26 rs (fun _ _ => True) ?_ ?_ ?_ ?_
  · trivial
  · ((try simp only [eraseA_cons, eraseA_nil, setL_cons, setL_nil, List.set_cons_zero, List.set_cons_succ]); all_goals (first | rfl | (simp only [len_snoc, ints_len, List.length_map, ]; done) | (simp only [len_snoc, len_mid, ints_len, List.length_map, List.length_append, List.length_cons, List.length_nil, Nat.zero_add, ]; done) | (simp only [len_mid, len_snoc, ints_len, List.length_map, List.length_append, List.length_cons, List.length_nil, Nat.zero_add, ]; rfl)))
  · intro g G _
    simp only [garbA_cons, garbA_nil, setL_cons, setL_nil, List.set_cons_zero, List.set_cons_succ]
    repeat' (first | refine go1 ?_ | refine blockK_else rfl ?_ | (refine wpC_cond fun A B hA hB => ?_; simp only [go_sem, reduceIte, Nat.reduceAdd, Nat.reduceEqDiff, Nat.reduceLT, Nat.reduceLeDiff, *, cvtK_int, wpK_cvt ty5 ty3 rfl, ints_len, List.length_map, Int.lt_irrefl, List.nil_append, hws, lenK_sls hv, s2, sl, q2, wa, wl, wm, wz, qa]; first | (refine hA.out ?_; clear hA hB A B) | (refine hB.out ?_; clear hA hB A B) | (refine iteI (fun h => hA.out ?_) (fun h => hB.out ?_) <;> clear hA hB A B) | (refine iteI (fun h => hB.out ?_) (fun h => hA.out ?_) <;> clear hA hB A B)) | (refine wpO_cons fun K hK => ?_; simp only [go_sem, reduceIte, Nat.reduceAdd, Nat.reduceEqDiff, Nat.reduceLT, Nat.reduceLeDiff, *, cvtK_int, wpK_cvt ty5 ty3 rfl, ints_len, List.length_map, Int.lt_irrefl, List.nil_append, hws, lenK_sls hv, s2, sl, q2, wa, wl, wm, wz, qa]; first | (refine hK.out _ _ ?_; clear hK K) | (refine iteI (fun h => hK.out _ _ ?_) (fun h => hK.out _ _ ?_) <;> clear hK K)))
    simp only [resultsR, resultsL, resultA, expK_int, expK_bool, expK_str, expK_agg, expK_own, expK_tsl, resK_some, go_sem, reduceIte, Nat.reduceAdd, Nat.reduceEqDiff, Nat.reduceLT, Nat.reduceLeDiff, cvtK_int, wpK_cvt ty5 ty3 rfl, ]
  intro g G pre x post h1 _
  have i1 := idx_sls hv (X := CX) ty37 ty35 rfl (by rw [h1]; exact map_mid encRc pre x post) (k := .i64)
  have w1 := wrap_succ (n := pre.length) (by have := congrArg List.length h1; simp at this; omega)
  have lt1 : (pre.length : Int) < (rs.length : Int) := by rw [h1]; simp; omega
  have hx := hok x (by rw [h1]; simp)
  have c1 := hx.sv.cell
  have hpl : pre.length < rs.length := by omega
  have hh1 : Hold (rs = pre ++ x :: post) := ⟨h1⟩
  simp only [encRc] at i1
  clear h1 q1 q2 wm wz
  simp only [garbA_cons, garbA_nil, setL_cons, setL_nil, List.set_cons_zero, List.set_cons_succ]
  repeat' (first | refine go1 ?_ | refine blockK_else rfl ?_ | (refine wpC_cond fun A B hA hB => ?_; simp only [go_sem, reduceIte, Nat.reduceAdd, Nat.reduceEqDiff, Nat.reduceLT, Nat.reduceLeDiff, *, cvtK_int, wpK_cvt ty5 ty3 rfl, encRc, encP, snap_str, List.cons_append, Bool.not_true, Bool.not_false, c1, i1, w1, List.length_map]; first | (refine hA.out ?_; clear hA hB A B) | (refine hB.out ?_; clear hA hB A B) | (refine iteI (fun h => hA.out ?_) (fun h => hB.out ?_) <;> clear hA hB A B) | (refine iteI (fun h => hB.out ?_) (fun h => hA.out ?_) <;> clear hA hB A B)) | (refine wpO_cons fun K hK => ?_; simp only [go_sem, reduceIte, Nat.reduceAdd, Nat.reduceEqDiff, Nat.reduceLT, Nat.reduceLeDiff, *, cvtK_int, wpK_cvt ty5 ty3 rfl, encRc, encP, snap_str, List.cons_append, Bool.not_true, Bool.not_false, c1, i1, w1, List.length_map]; first | (refine hK.out _ _ ?_; clear hK K) | (refine iteI (fun h => hK.out _ _ ?_) (fun h => hK.out _ _ ?_) <;> clear hK K)))
  refine wpC_loopF [6, 29, 30, 31, 32, 33, 34, 35, 36, 37, 38, 39, 40, 41, 42, 43, 44, 45, 46, 47, 48, 49, 50, 51, 52, 53, 54, 55, 56, 57] (fun p : List Rec × List Rec => [(8, .int .i64 p.1.length)]) (fun _ H => H) (fun p => pre = p.1 ++ p.2) (fun p => p.2.length) ([], pre) rfl ?_ ⟨_, rfl⟩ ?_
  · ((try simp only [eraseA_cons, eraseA_nil, setL_cons, setL_nil, List.set_cons_zero, List.set_cons_succ]); all_goals (first | rfl | (simp only [len_snoc, ints_len, List.length_map, ]; done) | (simp only [len_snoc, len_mid, ints_len, List.length_map, List.length_append, List.length_cons, List.length_nil, Nat.zero_add, ]; done) | (simp only [len_mid, len_snoc, ints_len, List.length_map, List.length_append, List.length_cons, List.length_nil, Nat.zero_add, ]; rfl)))
  rintro ⟨pr, po⟩ g2 G2 j1
  simp only at j1
  simp only [garbA_cons, garbA_nil, setL_cons, setL_nil, List.set_cons_zero, List.set_cons_succ]
  cases po with
  | nil =>
    have ltn : ¬ (pr.length : Int) < (pre.length : Int) := by rw [j1, List.append_nil]; omega
    clear j1
    repeat' (first | refine go1 ?_ | refine blockK_else rfl ?_ | (refine wpC_cond fun A B hA hB => ?_; simp only [go_sem, reduceIte, Nat.reduceAdd, Nat.reduceEqDiff, Nat.reduceLT, Nat.reduceLeDiff, *, cvtK_int, wpK_cvt ty5 ty3 rfl, w1]; first | (refine hA.out ?_; clear hA hB A B) | (refine hB.out ?_; clear hA hB A B) | (refine iteI (fun h => hA.out ?_) (fun h => hB.out ?_) <;> clear hA hB A B) | (refine iteI (fun h => hB.out ?_) (fun h => hA.out ?_) <;> clear hA hB A B)) | (refine wpO_cons fun K hK => ?_; simp only [go_sem, reduceIte, Nat.reduceAdd, Nat.reduceEqDiff, Nat.reduceLT, Nat.reduceLeDiff, *, cvtK_int, wpK_cvt ty5 ty3 rfl, w1]; first | (refine hK.out _ _ ?_; clear hK K) | (refine iteI (fun h => hK.out _ _ ?_) (fun h => hK.out _ _ ?_) <;> clear hK K)))
    refine each_next hh1.out trivial ?_ ?_
    · ((try simp only [eraseA_cons, eraseA_nil, setL_cons, setL_nil, List.set_cons_zero, List.set_cons_succ]); all_goals (first | rfl | (simp only [len_snoc, ints_len, List.length_map, ]; done) | (simp only [len_snoc, len_mid, ints_len, List.length_map, List.length_append, List.length_cons, List.length_nil, Nat.zero_add, ]; done) | (simp only [len_mid, len_snoc, ints_len, List.length_map, List.length_append, List.length_cons, List.length_nil, Nat.zero_add, ]; rfl)))
    · first | exact ⟨[], (List.append_nil _).symm⟩ | exact ⟨_, rfl⟩ | (simp only [List.append_assoc, List.cons_append, List.nil_append]; exact ⟨_, rfl⟩)
  | cons y po =>
    have lt2 : (pr.length : Int) < (pre.length : Int) := by rw [j1]; simp; omega
    have hy := hok y (by rw [hh1.out, j1]; simp)
    have cy := hy.sv.cell
    have iy := idx_sls hv (X := CX) ty37 ty35 rfl (n := pr.length) (row := encRc y) (by rw [hh1.out, j1]; simp) (k := .i64)
    have w3 := wrap_succ (n := pr.length) (by omega)
    have hj : Hold (pre = (pr ++ [y]) ++ po) := ⟨by rw [j1]; simp⟩
    have o1 : ¬ x.id ≤ y.id := by
      have k := hk2.out.ids
      rw [hh1.out, j1] at k
      have := (List.pairwise_append.mp k).2.2 y (by simp) x (by simp)
      omega
    have o2 : (y.name.toList == x.name.toList) = false := by
      have k := hk2.out.nms
      rw [hh1.out, j1] at k
      exact (List.pairwise_append.mp k).2.2 y (by simp) x (by simp)
    simp only [encRc] at iy
    clear j1
    repeat' (first | refine go1 ?_ | refine blockK_else rfl ?_ | (refine wpC_cond fun A B hA hB => ?_; simp only [go_sem, reduceIte, Nat.reduceAdd, Nat.reduceEqDiff, Nat.reduceLT, Nat.reduceLeDiff, *, cvtK_int, wpK_cvt ty5 ty3 rfl, encRc, encP, snap_str, List.cons_append, Bool.not_true, Bool.not_false, c1, cy, i1, iy, strBin, o2, w3, getElem?_len, getElem?_lenAdd, set_len, set_lenAdd, len_mid, ints_len, List.length_map, lt_mid, List.nil_append]; first | (refine hA.out ?_; clear hA hB A B) | (refine hB.out ?_; clear hA hB A B) | (refine iteI (fun h => hA.out ?_) (fun h => hB.out ?_) <;> clear hA hB A B) | (refine iteI (fun h => hB.out ?_) (fun h => hA.out ?_) <;> clear hA hB A B)) | (refine wpO_cons fun K hK => ?_; simp only [go_sem, reduceIte, Nat.reduceAdd, Nat.reduceEqDiff, Nat.reduceLT, Nat.reduceLeDiff, *, cvtK_int, wpK_cvt ty5 ty3 rfl, encRc, encP, snap_str, List.cons_append, Bool.not_true, Bool.not_false, c1, cy, i1, iy, strBin, o2, w3, getElem?_len, getElem?_lenAdd, set_len, set_lenAdd, len_mid, ints_len, List.length_map, lt_mid, List.nil_append]; first | (refine hK.out _ _ ?_; clear hK K) | (refine iteI (fun h => hK.out _ _ ?_) (fun h => hK.out _ _ ?_) <;> clear hK K)))
    refine loopF_next (pr ++ [y], po) (Nat.lt_succ_self _) hj.out ?_ ⟨_, rfl⟩
    ((try simp only [eraseA_cons, eraseA_nil, setL_cons, setL_nil, List.set_cons_zero, List.set_cons_succ]); all_goals (first | rfl | (simp only [len_snoc, ints_len, List.length_map, ]; done) | (simp only [len_snoc, len_mid, ints_len, List.length_map, List.length_append, List.length_cons, List.length_nil, Nat.zero_add, ]; done) | (simp only [len_mid, len_snoc, ints_len, List.length_map, List.length_append, List.length_cons, List.length_nil, Nat.zero_add, ]; rfl)))

/- Chapter 10: the laws More, Labels. -/
open Go.Proofs
attribute [local go_sem] fz10 fz11 fz12 fz9 ty48 fz13 fz14 fz15 fz16
set_option maxHeartbeats 4000000

theorem isP_app (a b : List Psn) (n : Int) : isP (a ++ b) n = (isP a n || isP b n) := by
  unfold isP pFind
  rw [List.find?_append]
  cases List.find? (fun p => p.id == n) a <;> simp
theorem spkF_mono {ps qs : List Psn} (h : ∀ n, isP ps n = true → isP qs n = true) : ∀ (l pre : List Int), spkF ps pre l = 0 → spkF qs pre l = 0
  | [], _, _ => rfl
  | x :: l, pre, k => by
    rw [spkF] at k ⊢
    split at k
    · omega
    · rename_i h1
      split at k
      · rename_i h2
        rw [if_neg h1, if_pos (h x h2)]
        exact spkF_mono h l _ k
      · omega
theorem chkC_mono {ps qs : List Psn} (h : ∀ n, isP ps n = true → isP qs n = true) {r : Rec} (k : chkC ps r = 0) : chkC qs r = 0 := by
  unfold chkC at k ⊢
  split at k
  · rename_i h1
    rw [if_pos h1]
    split at k
    · rename_i h2
      rw [if_pos h2]
      split at k
      · rename_i h3
        rw [if_pos h3]
        split at k
        · rename_i h4
          rw [if_pos h4]
          split at k
          · omega
          · rename_i h5
            rw [if_neg h5]
            exact spkF_mono h _ _ k
        · omega
      · omega
    · omega
  · omega

def pr3 (ps : List Psn) : List (List AV) := ps.map encP
theorem pr3_len (ps : List Psn) : (pr3 ps).length = ps.length := by simp [pr3]
theorem pr3_app (a b : List Psn) : pr3 (a ++ b) = pr3 a ++ pr3 b := by simp [pr3]
theorem pr3_take (ps : List Psn) : (pr3 ps).take ps.length = pr3 ps := by rw [← pr3_len ps]; exact List.take_length

theorem lawM {w u : AV} (ps qs : List Psn) (hw : SLs 3 (pr3 ps) w) (hu : SLs 3 (pr3 qs) u) (r : Rec) (hr : r.ok) : EvV CX 9 [w, u, .agg (encRc r)] (· = .bool true) := by
  have qa := awake.rw
  have q0 := (peopleL ps hw).rw
  have q0' := (peopleL qs hu).rw
  have q5 := fun st => (recsL [r] (fun x hx => by rw [List.mem_singleton.mp hx]; exact hr) st).rw
  have hws := hw.snap
  have hus := hu.snap
  have c1 := hr.sv.cell
  have s1 := hr.sv.snap
  have t1 := hr.st
  have e0 : [r].map encRc = [[.int .i64 r.id, .str r.name, .int .i64 r.len, .int .i64 r.day, r.sv]] := rfl
  rw [e0] at q5
  clear e0
  cases h : fewP ps with
  | false =>
    rw [h] at q0
    clear h q5
    refine EvV.walk rfl fn9 rfl nt9 rfl ?_
    simp only [List.length_cons, List.length_nil, List.cons_append, List.nil_append, Nat.reduceAdd, Nat.reduceSub, List.replicate]
    repeat' (first | refine go1 ?_ | refine blockK_else rfl ?_ | (refine wpC_cond fun A B hA hB => ?_; simp only [go_sem, reduceIte, Nat.reduceAdd, Nat.reduceEqDiff, Nat.reduceLT, Nat.reduceLeDiff, *, wpK_append ty24 rfl, wpK_buildSlice ty24 rfl, wpK_buildSlice ty37 rfl, encRc, snap_str, List.cons_append, Bool.not_true, Bool.not_false, c1, s1, hws, hus, q0, qa]; first | (refine hA.out ?_; clear hA hB A B) | (refine hB.out ?_; clear hA hB A B) | (refine iteI (fun h => hA.out ?_) (fun h => hB.out ?_) <;> clear hA hB A B) | (refine iteI (fun h => hB.out ?_) (fun h => hA.out ?_) <;> clear hA hB A B)) | (refine wpO_cons fun K hK => ?_; simp only [go_sem, reduceIte, Nat.reduceAdd, Nat.reduceEqDiff, Nat.reduceLT, Nat.reduceLeDiff, *, wpK_append ty24 rfl, wpK_buildSlice ty24 rfl, wpK_buildSlice ty37 rfl, encRc, snap_str, List.cons_append, Bool.not_true, Bool.not_false, c1, s1, hws, hus, q0, qa]; first | (refine hK.out _ _ ?_; clear hK K) | (refine iteI (fun h => hK.out _ _ ?_) (fun h => hK.out _ _ ?_) <;> clear hK K)))
    simp only [resultsR, resultsL, resultA, expK_int, expK_bool, expK_str, expK_agg, expK_own, expK_tsl, resK_some, go_sem, reduceIte, Nat.reduceAdd, Nat.reduceEqDiff, Nat.reduceLT, Nat.reduceLeDiff, wpK_append ty24 rfl, wpK_buildSlice ty24 rfl, wpK_buildSlice ty37 rfl, ]
  | true =>
  obtain ⟨h1, h2⟩ := fewP_iff h
  have hl := Nat.lt_of_le_of_lt h1 (show 60 < 9223372036854775807 by decide)
  rw [h] at q0
  cases h' : fewP qs with
  | false =>
    rw [h'] at q0'
    clear h h' q5 h1 h2
    refine EvV.walk rfl fn9 rfl nt9 rfl ?_
    simp only [List.length_cons, List.length_nil, List.cons_append, List.nil_append, Nat.reduceAdd, Nat.reduceSub, List.replicate]
    repeat' (first | refine go1 ?_ | refine blockK_else rfl ?_ | (refine wpC_cond fun A B hA hB => ?_; simp only [go_sem, reduceIte, Nat.reduceAdd, Nat.reduceEqDiff, Nat.reduceLT, Nat.reduceLeDiff, *, wpK_append ty24 rfl, wpK_buildSlice ty24 rfl, wpK_buildSlice ty37 rfl, encRc, snap_str, List.cons_append, Bool.not_true, Bool.not_false, c1, s1, hws, hus, q0, q0', qa]; first | (refine hA.out ?_; clear hA hB A B) | (refine hB.out ?_; clear hA hB A B) | (refine iteI (fun h => hA.out ?_) (fun h => hB.out ?_) <;> clear hA hB A B) | (refine iteI (fun h => hB.out ?_) (fun h => hA.out ?_) <;> clear hA hB A B)) | (refine wpO_cons fun K hK => ?_; simp only [go_sem, reduceIte, Nat.reduceAdd, Nat.reduceEqDiff, Nat.reduceLT, Nat.reduceLeDiff, *, wpK_append ty24 rfl, wpK_buildSlice ty24 rfl, wpK_buildSlice ty37 rfl, encRc, snap_str, List.cons_append, Bool.not_true, Bool.not_false, c1, s1, hws, hus, q0, q0', qa]; first | (refine hK.out _ _ ?_; clear hK K) | (refine iteI (fun h => hK.out _ _ ?_) (fun h => hK.out _ _ ?_) <;> clear hK K)))
    simp only [resultsR, resultsL, resultA, expK_int, expK_bool, expK_str, expK_agg, expK_own, expK_tsl, resK_some, go_sem, reduceIte, Nat.reduceAdd, Nat.reduceEqDiff, Nat.reduceLT, Nat.reduceLeDiff, wpK_append ty24 rfl, wpK_buildSlice ty24 rfl, wpK_buildSlice ty37 rfl, ]
  | true =>
  obtain ⟨h1', h2'⟩ := fewP_iff h'
  have hl2 := Nat.lt_of_le_of_lt h1' (show 60 < 9223372036854775807 by decide)
  rw [h'] at q0'
  cases h3 : fewR [r] with
  | false =>
    rw [h3] at q5
    clear h h3 h1 h2 h' h1' h2'
    refine EvV.walk rfl fn9 rfl nt9 rfl ?_
    simp only [List.length_cons, List.length_nil, List.cons_append, List.nil_append, Nat.reduceAdd, Nat.reduceSub, List.replicate]
    repeat' (first | refine go1 ?_ | refine blockK_else rfl ?_ | (refine wpC_cond fun A B hA hB => ?_; simp only [go_sem, reduceIte, Nat.reduceAdd, Nat.reduceEqDiff, Nat.reduceLT, Nat.reduceLeDiff, *, wpK_append ty24 rfl, wpK_buildSlice ty24 rfl, wpK_buildSlice ty37 rfl, encRc, snap_str, List.cons_append, Bool.not_true, Bool.not_false, c1, s1, hws, hus, q0, q0', q5, qa, snap_sl, rowsOf_sl, ints_len, ints_take, List.take_length, Nat.zero_le, Nat.zero_add, Bool.true_or, getElem?_len, getElem?_lenAdd, set_len, set_lenAdd, len_mid, ints_len, List.length_map, lt_mid, List.nil_append]; first | (refine hA.out ?_; clear hA hB A B) | (refine hB.out ?_; clear hA hB A B) | (refine iteI (fun h => hA.out ?_) (fun h => hB.out ?_) <;> clear hA hB A B) | (refine iteI (fun h => hB.out ?_) (fun h => hA.out ?_) <;> clear hA hB A B)) | (refine wpO_cons fun K hK => ?_; simp only [go_sem, reduceIte, Nat.reduceAdd, Nat.reduceEqDiff, Nat.reduceLT, Nat.reduceLeDiff, *, wpK_append ty24 rfl, wpK_buildSlice ty24 rfl, wpK_buildSlice ty37 rfl, encRc, snap_str, List.cons_append, Bool.not_true, Bool.not_false, c1, s1, hws, hus, q0, q0', q5, qa, snap_sl, rowsOf_sl, ints_len, ints_take, List.take_length, Nat.zero_le, Nat.zero_add, Bool.true_or, getElem?_len, getElem?_lenAdd, set_len, set_lenAdd, len_mid, ints_len, List.length_map, lt_mid, List.nil_append]; first | (refine hK.out _ _ ?_; clear hK K) | (refine iteI (fun h => hK.out _ _ ?_) (fun h => hK.out _ _ ?_) <;> clear hK K)))
    simp only [resultsR, resultsL, resultA, expK_int, expK_bool, expK_str, expK_agg, expK_own, expK_tsl, resK_some, go_sem, reduceIte, Nat.reduceAdd, Nat.reduceEqDiff, Nat.reduceLT, Nat.reduceLeDiff, wpK_append ty24 rfl, wpK_buildSlice ty24 rfl, wpK_buildSlice ty37 rfl, ]
  | true =>
  obtain ⟨h4, h5⟩ := (fewR_one r).mp h3
  rw [h3] at q5
  have q1 := (checkM hw hl hr (by omega) (by omega)).rw
  by_cases k : chkC ps r = 0
  rotate_left
  · have kb : (chkC ps r == 0) = false := by simpa using k
    simp only [encRc] at q1
    generalize chkC ps r = e at q1 k kb
    clear h h3 h1 h2 h' h1' h2' h4 h5 k
    refine EvV.walk rfl fn9 rfl nt9 rfl ?_
    simp only [List.length_cons, List.length_nil, List.cons_append, List.nil_append, Nat.reduceAdd, Nat.reduceSub, List.replicate]
    repeat' (first | refine go1 ?_ | refine blockK_else rfl ?_ | (refine wpC_cond fun A B hA hB => ?_; simp only [go_sem, reduceIte, Nat.reduceAdd, Nat.reduceEqDiff, Nat.reduceLT, Nat.reduceLeDiff, *, wpK_append ty24 rfl, wpK_buildSlice ty24 rfl, wpK_buildSlice ty37 rfl, encRc, snap_str, List.cons_append, Bool.not_true, Bool.not_false, c1, s1, hws, hus, q0, q0', q5, q1, kb, qa, snap_sl, rowsOf_sl, ints_len, ints_take, List.take_length, Nat.zero_le, Nat.zero_add, Bool.true_or, getElem?_len, getElem?_lenAdd, set_len, set_lenAdd, len_mid, ints_len, List.length_map, lt_mid, List.nil_append]; first | (refine hA.out ?_; clear hA hB A B) | (refine hB.out ?_; clear hA hB A B) | (refine iteI (fun h => hA.out ?_) (fun h => hB.out ?_) <;> clear hA hB A B) | (refine iteI (fun h => hB.out ?_) (fun h => hA.out ?_) <;> clear hA hB A B)) | (refine wpO_cons fun K hK => ?_; simp only [go_sem, reduceIte, Nat.reduceAdd, Nat.reduceEqDiff, Nat.reduceLT, Nat.reduceLeDiff, *, wpK_append ty24 rfl, wpK_buildSlice ty24 rfl, wpK_buildSlice ty37 rfl, encRc, snap_str, List.cons_append, Bool.not_true, Bool.not_false, c1, s1, hws, hus, q0, q0', q5, q1, kb, qa, snap_sl, rowsOf_sl, ints_len, ints_take, List.take_length, Nat.zero_le, Nat.zero_add, Bool.true_or, getElem?_len, getElem?_lenAdd, set_len, set_lenAdd, len_mid, ints_len, List.length_map, lt_mid, List.nil_append]; first | (refine hK.out _ _ ?_; clear hK K) | (refine iteI (fun h => hK.out _ _ ?_) (fun h => hK.out _ _ ?_) <;> clear hK K)))
    simp only [resultsR, resultsL, resultA, expK_int, expK_bool, expK_str, expK_agg, expK_own, expK_tsl, resK_some, go_sem, reduceIte, Nat.reduceAdd, Nat.reduceEqDiff, Nat.reduceLT, Nat.reduceLeDiff, wpK_append ty24 rfl, wpK_buildSlice ty24 rfl, wpK_buildSlice ty37 rfl, ]
  rw [k] at q1
  have ka : chkC (ps ++ qs) r = 0 := chkC_mono (fun n hn => by rw [isP_app, hn, Bool.true_or]) k
  have kc : chkC (qs ++ ps) r = 0 := chkC_mono (fun n hn => by rw [isP_app, hn, Bool.or_true]) k
  have q2 := (checkM (w := .tsl false 3 (pr3 (ps ++ qs))) (ps := ps ++ qs) (.rows false) (by rw [List.length_append]; omega) hr (by omega) (by omega)).rw
  have q3 := (checkM (w := .tsl false 3 (pr3 (qs ++ ps))) (ps := qs ++ ps) (.rows false) (by rw [List.length_append]; omega) hr (by omega) (by omega)).rw
  rw [ka] at q2
  rw [kc] at q3
  simp only [encRc] at q1 q2 q3
  have rw1 := hw.rowsOf
  have rw2 := hu.rowsOf
  have b1 : ps.length * 32 ≤ 140737488355328 ∧ ps.length ≤ 140737488355328 := by omega
  have b2 : qs.length * 32 ≤ 140737488355328 ∧ qs.length ≤ 140737488355328 := by omega
  have b3 : (ps.length + qs.length) * 32 ≤ 140737488355328 ∧ ps.length + qs.length ≤ 140737488355328 := by omega
  have b4 : (qs.length + ps.length) * 32 ≤ 140737488355328 ∧ qs.length + ps.length ≤ 140737488355328 := by omega
  have e1 : pr3 ps ++ pr3 qs = pr3 (ps ++ qs) := (pr3_app _ _).symm
  have e2 : pr3 qs ++ pr3 ps = pr3 (qs ++ ps) := (pr3_app _ _).symm
  have t3 : (pr3 (ps ++ qs)).take (ps.length + qs.length) = pr3 (ps ++ qs) := by rw [← List.length_append]; exact pr3_take _
  have t4 : (pr3 (qs ++ ps)).take (qs.length + ps.length) = pr3 (qs ++ ps) := by rw [← List.length_append]; exact pr3_take _
  clear h h3 h1 h2 h' h1' h2' h4 h5 k ka kc
  by_cases z1 : ps.length = 0 <;> by_cases z2 : qs.length = 0
  · have z1' := List.eq_nil_of_length_eq_zero z1
    have z2' := List.eq_nil_of_length_eq_zero z2
    subst z1' z2'
    have p0 : pr3 [] = [] := rfl
    have tq : True := trivial
    simp only [List.append_nil, p0] at q2 q3 rw1 rw2
    clear z1 z2 b1 b2 b3 b4 e1 e2 t3 t4
    refine EvV.walk rfl fn9 rfl nt9 rfl ?_
    simp only [List.length_cons, List.length_nil, List.cons_append, List.nil_append, Nat.reduceAdd, Nat.reduceSub, List.replicate]
    repeat' (first | refine go1 ?_ | refine blockK_else rfl ?_ | (refine wpC_cond fun A B hA hB => ?_; simp only [go_sem, reduceIte, Nat.reduceAdd, Nat.reduceEqDiff, Nat.reduceLT, Nat.reduceLeDiff, *, wpK_append ty24 rfl, wpK_buildSlice ty24 rfl, wpK_buildSlice ty37 rfl, encRc, snap_str, List.cons_append, Bool.not_true, Bool.not_false, c1, s1, hws, hus, q0, q0', q5, q1, q2, q3, rw1, rw2, p0, pr3_len, tq, Nat.add_zero, qa, set_lenAdd, List.set_cons_succ, List.getElem?_cons_succ, Nat.zero_le, getElem?_len, getElem?_lenAdd, set_len, List.append_assoc, List.length_append, List.length_map, snap_sl, rowsOf_sl, ints_len, ints_take, List.take_length, Nat.zero_le, Nat.zero_add, Bool.true_or, getElem?_len, getElem?_lenAdd, set_len, set_lenAdd, len_mid, ints_len, List.length_map, lt_mid, List.nil_append, beq_self_eq_true]; first | (refine hA.out ?_; clear hA hB A B) | (refine hB.out ?_; clear hA hB A B) | (refine iteI (fun h => hA.out ?_) (fun h => hB.out ?_) <;> clear hA hB A B) | (refine iteI (fun h => hB.out ?_) (fun h => hA.out ?_) <;> clear hA hB A B)) | (refine wpO_cons fun K hK => ?_; simp only [go_sem, reduceIte, Nat.reduceAdd, Nat.reduceEqDiff, Nat.reduceLT, Nat.reduceLeDiff, *, wpK_append ty24 rfl, wpK_buildSlice ty24 rfl, wpK_buildSlice ty37 rfl, encRc, snap_str, List.cons_append, Bool.not_true, Bool.not_false, c1, s1, hws, hus, q0, q0', q5, q1, q2, q3, rw1, rw2, p0, pr3_len, tq, Nat.add_zero, qa, set_lenAdd, List.set_cons_succ, List.getElem?_cons_succ, Nat.zero_le, getElem?_len, getElem?_lenAdd, set_len, List.append_assoc, List.length_append, List.length_map, snap_sl, rowsOf_sl, ints_len, ints_take, List.take_length, Nat.zero_le, Nat.zero_add, Bool.true_or, getElem?_len, getElem?_lenAdd, set_len, set_lenAdd, len_mid, ints_len, List.length_map, lt_mid, List.nil_append, beq_self_eq_true]; first | (refine hK.out _ _ ?_; clear hK K) | (refine iteI (fun h => hK.out _ _ ?_) (fun h => hK.out _ _ ?_) <;> clear hK K)))
    simp only [resultsR, resultsL, resultA, expK_int, expK_bool, expK_str, expK_agg, expK_own, expK_tsl, resK_some, go_sem, reduceIte, Nat.reduceAdd, Nat.reduceEqDiff, Nat.reduceLT, Nat.reduceLeDiff, wpK_append ty24 rfl, wpK_buildSlice ty24 rfl, wpK_buildSlice ty37 rfl, ]
  · have z1' := List.eq_nil_of_length_eq_zero z1
    subst z1'
    have p0 : pr3 [] = [] := rfl
    have tq := pr3_take qs
    simp only [List.append_nil, List.nil_append, p0] at q2 q3 rw1
    clear z1 b1 b3 b4 e1 e2 t3 t4
    refine EvV.walk rfl fn9 rfl nt9 rfl ?_
    simp only [List.length_cons, List.length_nil, List.cons_append, List.nil_append, Nat.reduceAdd, Nat.reduceSub, List.replicate]
    repeat' (first | refine go1 ?_ | refine blockK_else rfl ?_ | (refine wpC_cond fun A B hA hB => ?_; simp only [go_sem, reduceIte, Nat.reduceAdd, Nat.reduceEqDiff, Nat.reduceLT, Nat.reduceLeDiff, *, wpK_append ty24 rfl, wpK_buildSlice ty24 rfl, wpK_buildSlice ty37 rfl, encRc, snap_str, List.cons_append, Bool.not_true, Bool.not_false, c1, s1, hws, hus, q0, q0', q5, q1, q2, q3, rw1, rw2, p0, pr3_len, tq, Nat.add_zero, qa, set_lenAdd, List.set_cons_succ, List.getElem?_cons_succ, Nat.zero_le, getElem?_len, getElem?_lenAdd, set_len, List.append_assoc, List.length_append, List.length_map, snap_sl, rowsOf_sl, ints_len, ints_take, List.take_length, Nat.zero_le, Nat.zero_add, Bool.true_or, getElem?_len, getElem?_lenAdd, set_len, set_lenAdd, len_mid, ints_len, List.length_map, lt_mid, List.nil_append, beq_self_eq_true]; first | (refine hA.out ?_; clear hA hB A B) | (refine hB.out ?_; clear hA hB A B) | (refine iteI (fun h => hA.out ?_) (fun h => hB.out ?_) <;> clear hA hB A B) | (refine iteI (fun h => hB.out ?_) (fun h => hA.out ?_) <;> clear hA hB A B)) | (refine wpO_cons fun K hK => ?_; simp only [go_sem, reduceIte, Nat.reduceAdd, Nat.reduceEqDiff, Nat.reduceLT, Nat.reduceLeDiff, *, wpK_append ty24 rfl, wpK_buildSlice ty24 rfl, wpK_buildSlice ty37 rfl, encRc, snap_str, List.cons_append, Bool.not_true, Bool.not_false, c1, s1, hws, hus, q0, q0', q5, q1, q2, q3, rw1, rw2, p0, pr3_len, tq, Nat.add_zero, qa, set_lenAdd, List.set_cons_succ, List.getElem?_cons_succ, Nat.zero_le, getElem?_len, getElem?_lenAdd, set_len, List.append_assoc, List.length_append, List.length_map, snap_sl, rowsOf_sl, ints_len, ints_take, List.take_length, Nat.zero_le, Nat.zero_add, Bool.true_or, getElem?_len, getElem?_lenAdd, set_len, set_lenAdd, len_mid, ints_len, List.length_map, lt_mid, List.nil_append, beq_self_eq_true]; first | (refine hK.out _ _ ?_; clear hK K) | (refine iteI (fun h => hK.out _ _ ?_) (fun h => hK.out _ _ ?_) <;> clear hK K)))
    simp only [resultsR, resultsL, resultA, expK_int, expK_bool, expK_str, expK_agg, expK_own, expK_tsl, resK_some, go_sem, reduceIte, Nat.reduceAdd, Nat.reduceEqDiff, Nat.reduceLT, Nat.reduceLeDiff, wpK_append ty24 rfl, wpK_buildSlice ty24 rfl, wpK_buildSlice ty37 rfl, ]
  · have z2' := List.eq_nil_of_length_eq_zero z2
    subst z2'
    have p0 : pr3 [] = [] := rfl
    have tq := pr3_take ps
    simp only [List.append_nil, List.nil_append, p0] at q2 q3 rw2
    clear z2 b2 b3 b4 e1 e2 t3 t4
    refine EvV.walk rfl fn9 rfl nt9 rfl ?_
    simp only [List.length_cons, List.length_nil, List.cons_append, List.nil_append, Nat.reduceAdd, Nat.reduceSub, List.replicate]
    repeat' (first | refine go1 ?_ | refine blockK_else rfl ?_ | (refine wpC_cond fun A B hA hB => ?_; simp only [go_sem, reduceIte, Nat.reduceAdd, Nat.reduceEqDiff, Nat.reduceLT, Nat.reduceLeDiff, *, wpK_append ty24 rfl, wpK_buildSlice ty24 rfl, wpK_buildSlice ty37 rfl, encRc, snap_str, List.cons_append, Bool.not_true, Bool.not_false, c1, s1, hws, hus, q0, q0', q5, q1, q2, q3, rw1, rw2, p0, pr3_len, tq, Nat.add_zero, qa, set_lenAdd, List.set_cons_succ, List.getElem?_cons_succ, Nat.zero_le, getElem?_len, getElem?_lenAdd, set_len, List.append_assoc, List.length_append, List.length_map, snap_sl, rowsOf_sl, ints_len, ints_take, List.take_length, Nat.zero_le, Nat.zero_add, Bool.true_or, getElem?_len, getElem?_lenAdd, set_len, set_lenAdd, len_mid, ints_len, List.length_map, lt_mid, List.nil_append, beq_self_eq_true]; first | (refine hA.out ?_; clear hA hB A B) | (refine hB.out ?_; clear hA hB A B) | (refine iteI (fun h => hA.out ?_) (fun h => hB.out ?_) <;> clear hA hB A B) | (refine iteI (fun h => hB.out ?_) (fun h => hA.out ?_) <;> clear hA hB A B)) | (refine wpO_cons fun K hK => ?_; simp only [go_sem, reduceIte, Nat.reduceAdd, Nat.reduceEqDiff, Nat.reduceLT, Nat.reduceLeDiff, *, wpK_append ty24 rfl, wpK_buildSlice ty24 rfl, wpK_buildSlice ty37 rfl, encRc, snap_str, List.cons_append, Bool.not_true, Bool.not_false, c1, s1, hws, hus, q0, q0', q5, q1, q2, q3, rw1, rw2, p0, pr3_len, tq, Nat.add_zero, qa, set_lenAdd, List.set_cons_succ, List.getElem?_cons_succ, Nat.zero_le, getElem?_len, getElem?_lenAdd, set_len, List.append_assoc, List.length_append, List.length_map, snap_sl, rowsOf_sl, ints_len, ints_take, List.take_length, Nat.zero_le, Nat.zero_add, Bool.true_or, getElem?_len, getElem?_lenAdd, set_len, set_lenAdd, len_mid, ints_len, List.length_map, lt_mid, List.nil_append, beq_self_eq_true]; first | (refine hK.out _ _ ?_; clear hK K) | (refine iteI (fun h => hK.out _ _ ?_) (fun h => hK.out _ _ ?_) <;> clear hK K)))
    simp only [resultsR, resultsL, resultA, expK_int, expK_bool, expK_str, expK_agg, expK_own, expK_tsl, resK_some, go_sem, reduceIte, Nat.reduceAdd, Nat.reduceEqDiff, Nat.reduceLT, Nat.reduceLeDiff, wpK_append ty24 rfl, wpK_buildSlice ty24 rfl, wpK_buildSlice ty37 rfl, ]
  · refine EvV.walk rfl fn9 rfl nt9 rfl ?_
    simp only [List.length_cons, List.length_nil, List.cons_append, List.nil_append, Nat.reduceAdd, Nat.reduceSub, List.replicate]
    repeat' (first | refine go1 ?_ | refine blockK_else rfl ?_ | (refine wpC_cond fun A B hA hB => ?_; simp only [go_sem, reduceIte, Nat.reduceAdd, Nat.reduceEqDiff, Nat.reduceLT, Nat.reduceLeDiff, *, wpK_append ty24 rfl, wpK_buildSlice ty24 rfl, wpK_buildSlice ty37 rfl, encRc, snap_str, List.cons_append, Bool.not_true, Bool.not_false, c1, s1, hws, hus, q0, q0', q5, q1, q2, q3, rw1, rw2, e1, e2, t3, t4, pr3_len, qa, set_lenAdd, List.set_cons_succ, List.getElem?_cons_succ, Nat.zero_le, getElem?_len, getElem?_lenAdd, set_len, List.append_assoc, List.length_append, List.length_map, snap_sl, rowsOf_sl, ints_len, ints_take, List.take_length, Nat.zero_le, Nat.zero_add, Bool.true_or, getElem?_len, getElem?_lenAdd, set_len, set_lenAdd, len_mid, ints_len, List.length_map, lt_mid, List.nil_append, beq_self_eq_true]; first | (refine hA.out ?_; clear hA hB A B) | (refine hB.out ?_; clear hA hB A B) | (refine iteI (fun h => hA.out ?_) (fun h => hB.out ?_) <;> clear hA hB A B) | (refine iteI (fun h => hB.out ?_) (fun h => hA.out ?_) <;> clear hA hB A B)) | (refine wpO_cons fun K hK => ?_; simp only [go_sem, reduceIte, Nat.reduceAdd, Nat.reduceEqDiff, Nat.reduceLT, Nat.reduceLeDiff, *, wpK_append ty24 rfl, wpK_buildSlice ty24 rfl, wpK_buildSlice ty37 rfl, encRc, snap_str, List.cons_append, Bool.not_true, Bool.not_false, c1, s1, hws, hus, q0, q0', q5, q1, q2, q3, rw1, rw2, e1, e2, t3, t4, pr3_len, qa, set_lenAdd, List.set_cons_succ, List.getElem?_cons_succ, Nat.zero_le, getElem?_len, getElem?_lenAdd, set_len, List.append_assoc, List.length_append, List.length_map, snap_sl, rowsOf_sl, ints_len, ints_take, List.take_length, Nat.zero_le, Nat.zero_add, Bool.true_or, getElem?_len, getElem?_lenAdd, set_len, set_lenAdd, len_mid, ints_len, List.length_map, lt_mid, List.nil_append, beq_self_eq_true]; first | (refine hK.out _ _ ?_; clear hK K) | (refine iteI (fun h => hK.out _ _ ?_) (fun h => hK.out _ _ ?_) <;> clear hK K)))
    simp only [resultsR, resultsL, resultA, expK_int, expK_bool, expK_str, expK_agg, expK_own, expK_tsl, resK_some, go_sem, reduceIte, Nat.reduceAdd, Nat.reduceEqDiff, Nat.reduceLT, Nat.reduceLeDiff, wpK_append ty24 rfl, wpK_buildSlice ty24 rfl, wpK_buildSlice ty37 rfl, ]

/-! ### Names are labels -/
theorem pts_ascii : ∀ l : List UInt8, (∀ c ∈ l, c.toNat < 128) → (pts l).isSome = true
  | [], _ => rfl
  | c :: l, h => by
    rw [pts_some (fstU_one (h c (by simp)))]
    have ih := pts_ascii l fun x hx => h x (by simp [hx])
    simp only [List.drop_succ_cons, List.drop_zero]
    cases hp : pts l with
    | none => rw [hp] at ih; cases ih
    | some m => rfl
theorem nameC_bounds {c : UInt8} (h : nameC c = true) : 45 ≤ c.toNat ∧ c.toNat ≤ 122 := by
  simp only [nameC, lowC, Bool.or_eq_true, Bool.and_eq_true, decide_eq_true_eq, beq_iff_eq] at h
  omega
theorem lowC_name {c : UInt8} (h : lowC c = true) : nameC c = true := by rw [nameC, h]; rfl
theorem name_all : ∀ {l : List UInt8}, nameL l = true → (∀ c ∈ l, nameC c = true) ∧ 1 ≤ l.length ∧ l.length ≤ 32
  | [], h => by simp [nameL] at h
  | c :: l, h => by
    have h2 : lowC c = true ∧ (c :: l).all nameC = true ∧ l.length + 1 ≤ 32 := by
      rw [nameL, Bool.and_eq_true, Bool.and_eq_true, decide_eq_true_eq] at h
      obtain ⟨⟨a, b⟩, d⟩ := h
      exact ⟨b, by rw [List.all_cons, lowC_name b, Bool.true_and]; exact d, a⟩
    exact ⟨fun x hx => List.all_eq_true.mp h2.2.1 x hx, by simp, h2.2.2⟩
theorem name_label {l : List UInt8} (h : nameL l = true) : labU l = true := by
  obtain ⟨h1, h2, h3⟩ := name_all h
  unfold labU
  have a : l.all okc = true := by
    rw [List.all_eq_true]
    intro c hc
    have := nameC_bounds (h1 c hc)
    simp only [okc, Bool.and_eq_true, decide_eq_true_eq]
    omega
  have b := pts_ascii l fun c hc => by have := nameC_bounds (h1 c hc); omega
  rw [a, b]
  simp; omega
/-- A byte that no label has. -/
theorem bad_label {a b : List UInt8} {c : UInt8} (h : okc c = false) : labU (a ++ c :: b) = false := by
  unfold labU
  have : (a ++ c :: b).all okc = false := by rw [List.all_append, List.all_cons, h]; simp
  rw [this, Bool.false_and]
theorem bad_name {a b : List UInt8} {c : UInt8} (h : okc c = false) : nameL (a ++ c :: b) = false := by
  cases e : nameL (a ++ c :: b) with
  | false => rfl
  | true => have := name_label e; rw [bad_label h] at this; cases this

theorem slice_strTo {X : Ctx} {t : TypeId} {a c : Nat} {b : Bool} {d : List AV} {s : ByteArray} {k : IntKind} {j : Nat} (ht : X.ty t = some ⟨a, b, c, d, .str⟩) (hj : j ≤ s.size) : sliceA X t (.str s) none (some (.int k j)) none = some (.str (s.extract 0 j)) := by
  simp [sliceA, ht, boundA, hj]
theorem slice_strFrom {X : Ctx} {t : TypeId} {a c : Nat} {b : Bool} {d : List AV} {s : ByteArray} {k : IntKind} {j : Nat} (ht : X.ty t = some ⟨a, b, c, d, .str⟩) (hj : j ≤ s.size) : sliceA X t (.str s) (some (.int k j)) none none = some (.str (s.extract j s.size)) := by
  simp [sliceA, ht, boundA, hj]
/-- A string with a byte put into it. -/
def putB (s : ByteArray) (m : Nat) (c : UInt8) : ByteArray := s.extract 0 m ++ ⟨[c].toArray⟩ ++ s.extract m s.size
theorem putB_list (s : ByteArray) (m : Nat) (c : UInt8) (hm : m ≤ s.size) : (putB s m c).data.toList = s.data.toList.take m ++ c :: s.data.toList.drop m := by
  have e1 := extract_toList s 0 m
  have e2 := extract_toList s m s.size
  rw [toList_data] at e1 e2
  have e3 : (s.data.toList.drop m).take (s.size - m) = s.data.toList.drop m := List.take_of_length_le (by simp)
  unfold putB
  simp only [ByteArray.data_append, Array.toList_append, e1, e2, e3, List.drop_zero, Nat.sub_zero]
  simp
theorem putB_size (s : ByteArray) (m : Nat) (c : UInt8) (hm : m ≤ s.size) : (putB s m c).size = s.size + 1 := by
  have h1 : (putB s m c).size = (putB s m c).data.toList.length := by simp
  rw [h1, putB_list s m c hm]
  simp; omega

theorem lawL (s : ByteArray) (a b : Nat) (ha : a < 256) (hb : b < 256) : EvV CX 10 [.str s, .int .u8 (a : Int), .int .u8 (b : Int)] (· = .bool true) := by
  have qa := awake.rw
  by_cases h : s.size ≤ 300
  rotate_left
  · have z : (300 : Int) < (s.size : Int) := by omega
    clear h
    refine EvV.walk rfl fn10 rfl nt10 rfl ?_
    simp only [List.length_cons, List.length_nil, List.cons_append, List.nil_append, Nat.reduceAdd, Nat.reduceSub, List.replicate]
    repeat' (first | refine go1 ?_ | refine blockK_else rfl ?_ | (refine wpC_cond fun A B hA hB => ?_; simp only [go_sem, reduceIte, Nat.reduceAdd, Nat.reduceEqDiff, Nat.reduceLT, Nat.reduceLeDiff, *, cvtK_int, wpK_buildSlice ty48 rfl, wpK_cvt ty5 ty3 rfl, lenK_str, qa]; first | (refine hA.out ?_; clear hA hB A B) | (refine hB.out ?_; clear hA hB A B) | (refine iteI (fun h => hA.out ?_) (fun h => hB.out ?_) <;> clear hA hB A B) | (refine iteI (fun h => hB.out ?_) (fun h => hA.out ?_) <;> clear hA hB A B)) | (refine wpO_cons fun K hK => ?_; simp only [go_sem, reduceIte, Nat.reduceAdd, Nat.reduceEqDiff, Nat.reduceLT, Nat.reduceLeDiff, *, cvtK_int, wpK_buildSlice ty48 rfl, wpK_cvt ty5 ty3 rfl, lenK_str, qa]; first | (refine hK.out _ _ ?_; clear hK K) | (refine iteI (fun h => hK.out _ _ ?_) (fun h => hK.out _ _ ?_) <;> clear hK K)))
    simp only [resultsR, resultsL, resultA, expK_int, expK_bool, expK_str, expK_agg, expK_own, expK_tsl, resK_some, go_sem, reduceIte, Nat.reduceAdd, Nat.reduceEqDiff, Nat.reduceLT, Nat.reduceLeDiff, cvtK_int, wpK_buildSlice ty48 rfl, wpK_cvt ty5 ty3 rfl, ]
  have z : ¬ (300 : Int) < (s.size : Int) := by omega
  have q1 := (nameM s (by omega)).rw
  have q2 := (labelM s (by omega)).rw
  obtain ⟨m, hm⟩ : ∃ m, a % (s.size + 1) = m := ⟨_, rfl⟩
  have hml : m ≤ s.size := by have : a % (s.size + 1) < s.size + 1 := Nat.mod_lt a (Nat.succ_pos s.size); omega
  obtain ⟨n, hn⟩ : ∃ n, b % 33 = n := ⟨_, rfl⟩
  have hnl : n < 33 := by omega
  have wa : IntKind.wrap .i64 ((a : Nat) : Int) = (a : Int) := wrap_small (by omega) (by omega)
  have wl := wrap_succ (n := s.size) (by omega)
  have wm : ((a : Nat) : Int).tmod ((s.size + 1 : Nat) : Int) = (m : Int) := by rw [tmod_nat, hm]
  have wz : ¬ ((s.size + 1 : Nat) : Int) = 0 := by omega
  have wb : ((b : Nat) : Int).tmod 33 = (n : Int) := by have := tmod_nat b 33; rw [hn] at this; exact this
  have wz2 : ¬ (33 : Int) = 0 := by omega
  have i1 := slice_strTo (X := CX) (s := s) (j := m) (k := .i64) ty9 hml
  have i2 := slice_strFrom (X := CX) (s := s) (j := m) (k := .i64) ty9 hml
  have fin : ∀ (c : UInt8), okc c = false → ∃ q3 : ∀ Q : AV → Prop, EvV CX 14 [.str (putB s m c)] Q = Q (.bool false), ∀ Q : AV → Prop, EvV CX 12 [.str (putB s m c)] Q = Q (.bool false) := fun c hc => by
    have k1 := (labelM (putB s m c) (by rw [putB_size _ _ _ hml]; omega)).rw
    have k2 := (nameM (putB s m c) (by rw [putB_size _ _ _ hml]; omega)).rw
    rw [putB_list _ _ _ hml, bad_label hc] at k1
    rw [putB_list _ _ _ hml, bad_name hc] at k2
    exact ⟨k1, k2⟩
  have sz1 : (s.extract 0 m).size ≤ 300 := by simp; omega
  have sz2 : (s.extract m s.size).size ≤ 300 := by simp; omega
  have nm : nameL s.data.toList = true → labU s.data.toList = true := name_label
  have add1 : ∀ c : UInt8, ¬ (9223372036854775807 : Int) < (((s.extract 0 m).size + [c].toArray.size : Nat) : Int) := fun c => by
    have : [c].toArray.size = 1 := rfl
    rw [this]; omega
  have add2 : ∀ c : UInt8, ¬ (9223372036854775807 : Int) < (((s.extract 0 m).size + [c].toArray.size + (s.extract m s.size).size : Nat) : Int) := fun c => by
    have : [c].toArray.size = 1 := rfl
    rw [this]; omega
  have pb : ∀ c : UInt8, s.extract 0 m ++ (⟨[c].toArray⟩ : ByteArray) ++ s.extract m s.size = putB s m c := fun _ => rfl
  have go : ∀ (x : Bool), (nameL s.data.toList = x) → EvV CX 10 [.str s, .int .u8 (a : Int), .int .u8 (b : Int)] (· = .bool true) := by
    intro x hx
    by_cases hn32 : n = 32
    · have hn' : ((n : Int) == 32) = true := by rw [hn32]; rfl
      have hc : okc (UInt8.ofNat 127) = false := rfl
      obtain ⟨q3, q4⟩ := fin _ hc
      have tn : Int.toNat 127 = 127 := rfl
      cases x with
      | true =>
        have hy := nm hx
        rw [hx] at q1
        rw [hy] at q2
        clear hn hm nm fin hc hn32 hx hy
        refine EvV.walk rfl fn10 rfl nt10 rfl ?_
        simp only [List.length_cons, List.length_nil, List.cons_append, List.nil_append, Nat.reduceAdd, Nat.reduceSub, List.replicate]
        repeat' (first | refine go1 ?_ | refine blockK_else rfl ?_ | (refine wpC_cond fun A B hA hB => ?_; simp only [go_sem, reduceIte, Nat.reduceAdd, Nat.reduceEqDiff, Nat.reduceLT, Nat.reduceLeDiff, *, cvtK_int, wpK_buildSlice ty48 rfl, wpK_cvt ty5 ty3 rfl, lenK_str, q1, q2, q3, q4, wa, wl, wm, wz, wb, wz2, hn', i1, i2, tn, strBin, gt_iff_lt, add1, add2, pb, wpK_bs ty48 ty9 ty5 rfl rfl rfl, bsK_sl, bytesOf_cons, bytesOf_nil, getElem?_len, getElem?_lenAdd, set_len, set_lenAdd, len_mid, ints_len, List.length_map, lt_mid, List.nil_append, snap_sl, rowsOf_sl, ints_len, ints_take, List.take_length, Nat.zero_le, Nat.zero_add, Bool.true_or, qa]; first | (refine hA.out ?_; clear hA hB A B) | (refine hB.out ?_; clear hA hB A B) | (refine iteI (fun h => hA.out ?_) (fun h => hB.out ?_) <;> clear hA hB A B) | (refine iteI (fun h => hB.out ?_) (fun h => hA.out ?_) <;> clear hA hB A B)) | (refine wpO_cons fun K hK => ?_; simp only [go_sem, reduceIte, Nat.reduceAdd, Nat.reduceEqDiff, Nat.reduceLT, Nat.reduceLeDiff, *, cvtK_int, wpK_buildSlice ty48 rfl, wpK_cvt ty5 ty3 rfl, lenK_str, q1, q2, q3, q4, wa, wl, wm, wz, wb, wz2, hn', i1, i2, tn, strBin, gt_iff_lt, add1, add2, pb, wpK_bs ty48 ty9 ty5 rfl rfl rfl, bsK_sl, bytesOf_cons, bytesOf_nil, getElem?_len, getElem?_lenAdd, set_len, set_lenAdd, len_mid, ints_len, List.length_map, lt_mid, List.nil_append, snap_sl, rowsOf_sl, ints_len, ints_take, List.take_length, Nat.zero_le, Nat.zero_add, Bool.true_or, qa]; first | (refine hK.out _ _ ?_; clear hK K) | (refine iteI (fun h => hK.out _ _ ?_) (fun h => hK.out _ _ ?_) <;> clear hK K)))
        simp only [resultsR, resultsL, resultA, expK_int, expK_bool, expK_str, expK_agg, expK_own, expK_tsl, resK_some, go_sem, reduceIte, Nat.reduceAdd, Nat.reduceEqDiff, Nat.reduceLT, Nat.reduceLeDiff, cvtK_int, wpK_buildSlice ty48 rfl, wpK_cvt ty5 ty3 rfl, ]
      | false =>
        rw [hx] at q1
        clear hn hm nm fin hc hn32 hx
        refine EvV.walk rfl fn10 rfl nt10 rfl ?_
        simp only [List.length_cons, List.length_nil, List.cons_append, List.nil_append, Nat.reduceAdd, Nat.reduceSub, List.replicate]
        repeat' (first | refine go1 ?_ | refine blockK_else rfl ?_ | (refine wpC_cond fun A B hA hB => ?_; simp only [go_sem, reduceIte, Nat.reduceAdd, Nat.reduceEqDiff, Nat.reduceLT, Nat.reduceLeDiff, *, cvtK_int, wpK_buildSlice ty48 rfl, wpK_cvt ty5 ty3 rfl, lenK_str, q1, q2, q3, q4, wa, wl, wm, wz, wb, wz2, hn', i1, i2, tn, strBin, gt_iff_lt, add1, add2, pb, wpK_bs ty48 ty9 ty5 rfl rfl rfl, bsK_sl, bytesOf_cons, bytesOf_nil, getElem?_len, getElem?_lenAdd, set_len, set_lenAdd, len_mid, ints_len, List.length_map, lt_mid, List.nil_append, snap_sl, rowsOf_sl, ints_len, ints_take, List.take_length, Nat.zero_le, Nat.zero_add, Bool.true_or, qa]; first | (refine hA.out ?_; clear hA hB A B) | (refine hB.out ?_; clear hA hB A B) | (refine iteI (fun h => hA.out ?_) (fun h => hB.out ?_) <;> clear hA hB A B) | (refine iteI (fun h => hB.out ?_) (fun h => hA.out ?_) <;> clear hA hB A B)) | (refine wpO_cons fun K hK => ?_; simp only [go_sem, reduceIte, Nat.reduceAdd, Nat.reduceEqDiff, Nat.reduceLT, Nat.reduceLeDiff, *, cvtK_int, wpK_buildSlice ty48 rfl, wpK_cvt ty5 ty3 rfl, lenK_str, q1, q2, q3, q4, wa, wl, wm, wz, wb, wz2, hn', i1, i2, tn, strBin, gt_iff_lt, add1, add2, pb, wpK_bs ty48 ty9 ty5 rfl rfl rfl, bsK_sl, bytesOf_cons, bytesOf_nil, getElem?_len, getElem?_lenAdd, set_len, set_lenAdd, len_mid, ints_len, List.length_map, lt_mid, List.nil_append, snap_sl, rowsOf_sl, ints_len, ints_take, List.take_length, Nat.zero_le, Nat.zero_add, Bool.true_or, qa]; first | (refine hK.out _ _ ?_; clear hK K) | (refine iteI (fun h => hK.out _ _ ?_) (fun h => hK.out _ _ ?_) <;> clear hK K)))
        simp only [resultsR, resultsL, resultA, expK_int, expK_bool, expK_str, expK_agg, expK_own, expK_tsl, resK_some, go_sem, reduceIte, Nat.reduceAdd, Nat.reduceEqDiff, Nat.reduceLT, Nat.reduceLeDiff, cvtK_int, wpK_buildSlice ty48 rfl, wpK_cvt ty5 ty3 rfl, ]
    · have hn' : ((n : Int) == 32) = false := by simp; omega
      have hc : okc (UInt8.ofNat n) = false := by
        have : (UInt8.ofNat n).toNat = n := by simp; omega
        simp only [okc, this]; simp; omega
      obtain ⟨q3, q4⟩ := fin _ hc
      have tn : Int.toNat (n : Int) = n := Int.toNat_natCast n
      cases x with
      | true =>
        have hy := nm hx
        rw [hx] at q1
        rw [hy] at q2
        clear hn hm nm fin hc hn32 hx hy
        refine EvV.walk rfl fn10 rfl nt10 rfl ?_
        simp only [List.length_cons, List.length_nil, List.cons_append, List.nil_append, Nat.reduceAdd, Nat.reduceSub, List.replicate]
        repeat' (first | refine go1 ?_ | refine blockK_else rfl ?_ | (refine wpC_cond fun A B hA hB => ?_; simp only [go_sem, reduceIte, Nat.reduceAdd, Nat.reduceEqDiff, Nat.reduceLT, Nat.reduceLeDiff, *, cvtK_int, wpK_buildSlice ty48 rfl, wpK_cvt ty5 ty3 rfl, lenK_str, q1, q2, q3, q4, wa, wl, wm, wz, wb, wz2, hn', i1, i2, tn, strBin, gt_iff_lt, add1, add2, pb, wpK_bs ty48 ty9 ty5 rfl rfl rfl, bsK_sl, bytesOf_cons, bytesOf_nil, getElem?_len, getElem?_lenAdd, set_len, set_lenAdd, len_mid, ints_len, List.length_map, lt_mid, List.nil_append, snap_sl, rowsOf_sl, ints_len, ints_take, List.take_length, Nat.zero_le, Nat.zero_add, Bool.true_or, qa]; first | (refine hA.out ?_; clear hA hB A B) | (refine hB.out ?_; clear hA hB A B) | (refine iteI (fun h => hA.out ?_) (fun h => hB.out ?_) <;> clear hA hB A B) | (refine iteI (fun h => hB.out ?_) (fun h => hA.out ?_) <;> clear hA hB A B)) | (refine wpO_cons fun K hK => ?_; simp only [go_sem, reduceIte, Nat.reduceAdd, Nat.reduceEqDiff, Nat.reduceLT, Nat.reduceLeDiff, *, cvtK_int, wpK_buildSlice ty48 rfl, wpK_cvt ty5 ty3 rfl, lenK_str, q1, q2, q3, q4, wa, wl, wm, wz, wb, wz2, hn', i1, i2, tn, strBin, gt_iff_lt, add1, add2, pb, wpK_bs ty48 ty9 ty5 rfl rfl rfl, bsK_sl, bytesOf_cons, bytesOf_nil, getElem?_len, getElem?_lenAdd, set_len, set_lenAdd, len_mid, ints_len, List.length_map, lt_mid, List.nil_append, snap_sl, rowsOf_sl, ints_len, ints_take, List.take_length, Nat.zero_le, Nat.zero_add, Bool.true_or, qa]; first | (refine hK.out _ _ ?_; clear hK K) | (refine iteI (fun h => hK.out _ _ ?_) (fun h => hK.out _ _ ?_) <;> clear hK K)))
        simp only [resultsR, resultsL, resultA, expK_int, expK_bool, expK_str, expK_agg, expK_own, expK_tsl, resK_some, go_sem, reduceIte, Nat.reduceAdd, Nat.reduceEqDiff, Nat.reduceLT, Nat.reduceLeDiff, cvtK_int, wpK_buildSlice ty48 rfl, wpK_cvt ty5 ty3 rfl, ]
      | false =>
        rw [hx] at q1
        clear hn hm nm fin hc hn32 hx
        refine EvV.walk rfl fn10 rfl nt10 rfl ?_
        simp only [List.length_cons, List.length_nil, List.cons_append, List.nil_append, Nat.reduceAdd, Nat.reduceSub, List.replicate]
        repeat' (first | refine go1 ?_ | refine blockK_else rfl ?_ | (refine wpC_cond fun A B hA hB => ?_; simp only [go_sem, reduceIte, Nat.reduceAdd, Nat.reduceEqDiff, Nat.reduceLT, Nat.reduceLeDiff, *, cvtK_int, wpK_buildSlice ty48 rfl, wpK_cvt ty5 ty3 rfl, lenK_str, q1, q2, q3, q4, wa, wl, wm, wz, wb, wz2, hn', i1, i2, tn, strBin, gt_iff_lt, add1, add2, pb, wpK_bs ty48 ty9 ty5 rfl rfl rfl, bsK_sl, bytesOf_cons, bytesOf_nil, getElem?_len, getElem?_lenAdd, set_len, set_lenAdd, len_mid, ints_len, List.length_map, lt_mid, List.nil_append, snap_sl, rowsOf_sl, ints_len, ints_take, List.take_length, Nat.zero_le, Nat.zero_add, Bool.true_or, qa]; first | (refine hA.out ?_; clear hA hB A B) | (refine hB.out ?_; clear hA hB A B) | (refine iteI (fun h => hA.out ?_) (fun h => hB.out ?_) <;> clear hA hB A B) | (refine iteI (fun h => hB.out ?_) (fun h => hA.out ?_) <;> clear hA hB A B)) | (refine wpO_cons fun K hK => ?_; simp only [go_sem, reduceIte, Nat.reduceAdd, Nat.reduceEqDiff, Nat.reduceLT, Nat.reduceLeDiff, *, cvtK_int, wpK_buildSlice ty48 rfl, wpK_cvt ty5 ty3 rfl, lenK_str, q1, q2, q3, q4, wa, wl, wm, wz, wb, wz2, hn', i1, i2, tn, strBin, gt_iff_lt, add1, add2, pb, wpK_bs ty48 ty9 ty5 rfl rfl rfl, bsK_sl, bytesOf_cons, bytesOf_nil, getElem?_len, getElem?_lenAdd, set_len, set_lenAdd, len_mid, ints_len, List.length_map, lt_mid, List.nil_append, snap_sl, rowsOf_sl, ints_len, ints_take, List.take_length, Nat.zero_le, Nat.zero_add, Bool.true_or, qa]; first | (refine hK.out _ _ ?_; clear hK K) | (refine iteI (fun h => hK.out _ _ ?_) (fun h => hK.out _ _ ?_) <;> clear hK K)))
        simp only [resultsR, resultsL, resultA, expK_int, expK_bool, expK_str, expK_agg, expK_own, expK_tsl, resK_some, go_sem, reduceIte, Nat.reduceAdd, Nat.reduceEqDiff, Nat.reduceLT, Nat.reduceLeDiff, cvtK_int, wpK_buildSlice ty48 rfl, wpK_cvt ty5 ty3 rfl, ]
  exact go _ rfl
end Go.Eng
