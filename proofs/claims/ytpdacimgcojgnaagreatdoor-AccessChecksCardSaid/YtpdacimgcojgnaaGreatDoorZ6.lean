/- Part 6 of the texts behind this claim. -/
import Derived.Test.YtpdacimgcojgnaaGreatDoorZ5
import Derived.Test.YtpdacimgcojgnaaGreatDoorCtxS
import Derived.Test.YtpdacimgcojgnaaGreatDoorEngV
set_option linter.all false

/- Groups: Check of the reference. -/
namespace Go.Eng
open Go.Proofs
attribute [local irreducible] wpC wpO wp1 EvV EvR wpL
attribute [local go_sem] ty3 ty4 ty9 ty23 ty24 ty29 ty34 ty66 ty68 br69 br70 br71 br72 fz152 fz157 fz160 beq_iff_eq beq_eq_false_iff_ne Int.natCast_inj Bool.not_eq_false' op1_go wpK_box wpK_alloc wpK_load wpK_store wpK_binOp wpK_unOp wpK_fieldAddr wpK_field wpK_build wpK_indexAddr wpK_slice wpK_len wpK_extract wpK_nilCheck wpK_pick wpK_makeFunc wpK_call wpK_callT wpK_max wpK_min wpK_assignT wpK_moveT wpK_assignB wpK_moveB wpK_assignI wpK_moveI wpK_assignA wpK_moveA callK_fn snapL_nil snapL_cons snap_int snap_bool snap_str snap_tsl snap_agg snap_fn snap_flat adopt_int adopt_bool adopt_str adopt_agg adopt_osl adopt_tsl adopt_tup op1_guard grdK_bool grdK_undef condK_bool someK_some pairK_some nilK_ptr nilK_tptr boxK storeK evalA_tmp evalA_int evalA_bool evalA_agg evalA_fn evalA_nil ofC_int ofC_bool getA_zero getA_succ cells_int cells_agg cells_bool cells_sl cells_tsl cell_int cell_bool cell_str cell_sl cell_esl cell_tsl cell_ptr cell_tptr cell_fn cell_nils cell_nilf List.all_cons List.all_nil Bool.and_true Bool.and_self Bool.true_and putA_some putA_none List.set_cons_zero List.set_cons_succ List.length_cons List.length_nil List.nil_append List.cons_append stabL AV.stab fieldAddrA fieldA List.getElem?_cons_zero List.getElem?_cons_succ Nat.zero_add loadA rowOf Nat.le_refl and_self true_and and_true partA binA unA intBin eqBin eqCells eqCell Option.bind_some decide_true decide_false decide_eq_true_eq ite_not Bool.not_eq_true' decide_eq_false_iff_not Bool.false_eq_true Option.map_some Option.map_none Bool.not_true Bool.not_false buildA fillA patch List.take List.drop List.map_cons List.map_nil extK List.getD_cons_zero List.getD_cons_succ minmaxA minmaxGo adoptZ_false adoptZ_true freeze_int freeze_bool freeze_str freeze_flat freeze_agg freeze_osl freeze_tsl freeze_tup frz1_bool frz1_int frz1_str frz1_agg frz1_osl frz1_tsl bne Bool.false_and Bool.and_false ne_eq not_true_eq_false not_false_eq_true List.append_nil
set_option maxHeartbeats 4000000

theorem clo_of {gs : List Grp} (h : gs.all (fun g => g.subs.all (isG gs)) = true) : Clo gs := by
  intro g hg s hs
  simp only [List.all_eq_true] at h
  exact h g hg s hs

theorem checkR {v w : AV} {gs : List Grp} {ps : List Psn} (h : GsOK v gs) (hw : SLs 3 (ps.map encP) w) (hps : ps.length ≤ 1000) (hn : ∀ g ∈ gs, g.name.size ≤ 1048576) : EvV CX 39 [w, v] (· = .int .i64 (chkG ps gs)) := by
  have hvs := fun S => h.sl.snap (S := S)
  have hws := hw.snap
  have hgl := h.len
  by_cases k1 : 20 < (gs.length : Int)
  · refine EvV.walk rfl fn39 rfl nt39 rfl ?_
    simp only [List.length_cons, List.length_nil, List.cons_append, List.nil_append, Nat.reduceAdd, Nat.reduceSub, List.replicate]
    repeat' (first | refine go1 ?_ | refine blockK_else rfl ?_ | (refine wpO_consD fun A B hA hB => ?_; simp only [go_sem, reduceIte, Nat.reduceAdd, Nat.reduceEqDiff, Nat.reduceLT, Nat.reduceLeDiff, *, lenK_sls h.sl, getElem?_len, getElem?_lenAdd, set_len, set_lenAdd, len_mid, ints_len, List.length_map, lt_mid, List.nil_append]; (first | apply hA.out | (refine iteI (fun h => ?_) (fun h => ?_) <;> apply hA.out)) <;> clear hA hB A B))
    (refine wpC_cond fun A B hA hB => ?_; simp only [go_sem, reduceIte, Nat.reduceAdd, Nat.reduceEqDiff, Nat.reduceLT, Nat.reduceLeDiff, *, getElem?_len, getElem?_lenAdd, set_len, set_lenAdd, len_mid, ints_len, List.length_map, lt_mid, List.nil_append]; first | (refine hA.out ?_; clear hA hB A B) | (refine hB.out ?_; clear hA hB A B))
    repeat' (first | refine go1 ?_ | refine blockK_else rfl ?_ | (refine wpO_consD fun A B hA hB => ?_; simp only [go_sem, reduceIte, Nat.reduceAdd, Nat.reduceEqDiff, Nat.reduceLT, Nat.reduceLeDiff, *]; (first | apply hA.out | (refine iteI (fun h => ?_) (fun h => ?_) <;> apply hA.out)) <;> clear hA hB A B))
    simp only [resultsR, resultsL, resultA, expK_int, expK_bool, expK_str, expK_agg, expK_own, expK_tsl, resK_some, go_sem, reduceIte, Nat.reduceAdd, Nat.reduceEqDiff, Nat.reduceLT, Nat.reduceLeDiff, and_self, ]
    have : ¬ gs.length ≤ 20 := by omega
    simp [chkG, this]
  have l20 : gs.length ≤ 20 := by omega
  refine EvV.walk rfl fn39 rfl nt39 rfl ?_
  simp only [List.length_cons, List.length_nil, List.cons_append, List.nil_append, Nat.reduceAdd, Nat.reduceSub, List.replicate]
  repeat' (first | refine go1 ?_ | refine blockK_else rfl ?_ | (refine wpO_consD fun A B hA hB => ?_; simp only [go_sem, reduceIte, Nat.reduceAdd, Nat.reduceEqDiff, Nat.reduceLT, Nat.reduceLeDiff, *, lenK_sls h.sl, getElem?_len, getElem?_lenAdd, set_len, set_lenAdd, len_mid, ints_len, List.length_map, lt_mid, List.nil_append]; (first | apply hA.out | (refine iteI (fun h => ?_) (fun h => ?_) <;> apply hA.out)) <;> clear hA hB A B))
  (refine wpC_cond fun A B hA hB => ?_; simp only [go_sem, reduceIte, Nat.reduceAdd, Nat.reduceEqDiff, Nat.reduceLT, Nat.reduceLeDiff, *, getElem?_len, getElem?_lenAdd, set_len, set_lenAdd, len_mid, ints_len, List.length_map, lt_mid, List.nil_append]; first | (refine hA.out ?_; clear hA hB A B) | (refine hB.out ?_; clear hA hB A B))
  repeat' (first | refine go1 ?_ | refine blockK_else rfl ?_ | (refine wpO_consD fun A B hA hB => ?_; simp only [go_sem, reduceIte, Nat.reduceAdd, Nat.reduceEqDiff, Nat.reduceLT, Nat.reduceLeDiff, *, lenK_sls h.sl, getElem?_len, getElem?_lenAdd, set_len, set_lenAdd, len_mid, ints_len, List.length_map, lt_mid, List.nil_append]; (first | apply hA.out | (refine iteI (fun h => ?_) (fun h => ?_) <;> apply hA.out)) <;> clear hA hB A B))
  have hl20 : Hold (gs.length ≤ 20) := ⟨l20⟩
  clear k1 l20
  refine wpC_each [4, 5, 6, 16, 17, 18, 19, 20, 21, 22, 23, 24, 25] 15 gs (fun pre post => errF ps [] gs = errF ps pre post) ?_ ?_ ?_ ?_
  · rfl
  · rfl
  rotate_left
  · intro g G pre x post h1 hE
    have lt1 : (pre.length : Int) < (gs.length : Int) := by rw [h1]; simp; omega
    have w1 := wrap_succ (n := pre.length) (by rw [h1] at hgl; simp at hgl; omega)
    have q := (oneR h hw hps h1 (hn x (by rw [h1]; simp))).rw
    have hh1 : Hold (gs = pre ++ x :: post) := ⟨h1⟩
    have hhE : Hold (errF ps [] gs = errF ps pre (x :: post)) := ⟨hE⟩
    clear h1 hE
    obtain ⟨e, he⟩ : ∃ e, errG ps pre x = e := ⟨_, rfl⟩
    have hhe : Hold (errG ps pre x = e) := ⟨he⟩
    rw [he] at q
    clear he
    simp only [garbA_cons, garbA_nil, setL_cons, setL_nil, List.set_cons_zero, List.set_cons_succ]
    by_cases k2 : e = 0
    · subst k2
      have z : ((0 : Int) != 0) = false := rfl
      repeat' (first | refine go1 ?_ | refine blockK_else rfl ?_ | (refine wpO_consD fun A B hA hB => ?_; simp only [go_sem, reduceIte, Nat.reduceAdd, Nat.reduceEqDiff, Nat.reduceLT, Nat.reduceLeDiff, *]; (first | apply hA.out | (refine iteI (fun h => ?_) (fun h => ?_) <;> apply hA.out)) <;> clear hA hB A B))
      (refine wpC_cond fun A B hA hB => ?_; simp only [go_sem, reduceIte, Nat.reduceAdd, Nat.reduceEqDiff, Nat.reduceLT, Nat.reduceLeDiff, *]; first | (refine hA.out ?_; clear hA hB A B) | (refine hB.out ?_; clear hA hB A B))
      repeat' (first | refine go1 ?_ | refine blockK_else rfl ?_ | (refine wpO_consD fun A B hA hB => ?_; simp only [go_sem, reduceIte, Nat.reduceAdd, Nat.reduceEqDiff, Nat.reduceLT, Nat.reduceLeDiff, *, adopt_int, getElem?_len, getElem?_lenAdd, set_len, set_lenAdd, len_mid, ints_len, List.length_map, lt_mid, List.nil_append]; (first | apply hA.out | (refine iteI (fun h => ?_) (fun h => ?_) <;> apply hA.out)) <;> clear hA hB A B))
      (refine wpC_cond fun A B hA hB => ?_; simp only [go_sem, reduceIte, Nat.reduceAdd, Nat.reduceEqDiff, Nat.reduceLT, Nat.reduceLeDiff, *]; first | (refine hA.out ?_; clear hA hB A B) | (refine hB.out ?_; clear hA hB A B))
      repeat' (first | refine go1 ?_ | refine blockK_else rfl ?_ | (refine wpO_consD fun A B hA hB => ?_; simp only [go_sem, reduceIte, Nat.reduceAdd, Nat.reduceEqDiff, Nat.reduceLT, Nat.reduceLeDiff, *]; (first | apply hA.out | (refine iteI (fun h => ?_) (fun h => ?_) <;> apply hA.out)) <;> clear hA hB A B))
      refine each_next hh1.out ?_ ?_ ?_
      · rw [hhE.out, errF, if_pos hhe.out]
      · ((try simp only [eraseA_cons, eraseA_nil, setL_cons, setL_nil, List.set_cons_zero, List.set_cons_succ]); all_goals (first | rfl | (simp only [len_snoc, len_mid, ints_len, List.length_map, List.length_append, List.length_cons, List.length_nil, Nat.zero_add]; first | done | rfl)))
      · first | exact ⟨[], (List.append_nil _).symm⟩ | exact ⟨_, rfl⟩ | (simp only [List.append_assoc, List.cons_append, List.nil_append]; exact ⟨_, rfl⟩)
    · repeat' (first | refine go1 ?_ | refine blockK_else rfl ?_ | (refine wpO_consD fun A B hA hB => ?_; simp only [go_sem, reduceIte, Nat.reduceAdd, Nat.reduceEqDiff, Nat.reduceLT, Nat.reduceLeDiff, *]; (first | apply hA.out | (refine iteI (fun h => ?_) (fun h => ?_) <;> apply hA.out)) <;> clear hA hB A B))
      (refine wpC_cond fun A B hA hB => ?_; simp only [go_sem, reduceIte, Nat.reduceAdd, Nat.reduceEqDiff, Nat.reduceLT, Nat.reduceLeDiff, *]; first | (refine hA.out ?_; clear hA hB A B) | (refine hB.out ?_; clear hA hB A B))
      repeat' (first | refine go1 ?_ | refine blockK_else rfl ?_ | (refine wpO_consD fun A B hA hB => ?_; simp only [go_sem, reduceIte, Nat.reduceAdd, Nat.reduceEqDiff, Nat.reduceLT, Nat.reduceLeDiff, *, adopt_int, getElem?_len, getElem?_lenAdd, set_len, set_lenAdd, len_mid, ints_len, List.length_map, lt_mid, List.nil_append]; (first | apply hA.out | (refine iteI (fun h => ?_) (fun h => ?_) <;> apply hA.out)) <;> clear hA hB A B))
      (refine wpC_cond fun A B hA hB => ?_; simp only [go_sem, reduceIte, Nat.reduceAdd, Nat.reduceEqDiff, Nat.reduceLT, Nat.reduceLeDiff, *]; first | (refine hA.out ?_; clear hA hB A B) | (refine hB.out ?_; clear hA hB A B))
      repeat' (first | refine go1 ?_ | refine blockK_else rfl ?_ | (refine wpO_consD fun A B hA hB => ?_; simp only [go_sem, reduceIte, Nat.reduceAdd, Nat.reduceEqDiff, Nat.reduceLT, Nat.reduceLeDiff, *]; (first | apply hA.out | (refine iteI (fun h => ?_) (fun h => ?_) <;> apply hA.out)) <;> clear hA hB A B))
      simp only [resultsR, resultsL, resultA, expK_int, expK_bool, expK_str, expK_agg, expK_own, expK_tsl, resK_some, go_sem, reduceIte, Nat.reduceAdd, Nat.reduceEqDiff, Nat.reduceLT, Nat.reduceLeDiff, and_self, ]
      have e1 : errF ps [] gs = e := by rw [hhE.out, errF, hhe.out, if_neg k2]
      simp [chkG, hl20.out, e1, k2]
  intro g G hE
  have hhE : Hold (errF ps [] gs = 0) := ⟨hE⟩
  clear hE
  simp only [garbA_cons, garbA_nil, setL_cons, setL_nil, List.set_cons_zero, List.set_cons_succ]
  repeat' (first | refine go1 ?_ | refine blockK_else rfl ?_ | (refine wpO_consD fun A B hA hB => ?_; simp only [go_sem, reduceIte, Nat.reduceAdd, Nat.reduceEqDiff, Nat.reduceLT, Nat.reduceLeDiff, *]; (first | apply hA.out | (refine iteI (fun h => ?_) (fun h => ?_) <;> apply hA.out)) <;> clear hA hB A B))
  (refine wpC_cond fun A B hA hB => ?_; simp only [go_sem, reduceIte, Nat.reduceAdd, Nat.reduceEqDiff, Nat.reduceLT, Nat.reduceLeDiff, *, Int.lt_irrefl]; first | (refine hA.out ?_; clear hA hB A B) | (refine hB.out ?_; clear hA hB A B))
  repeat' (first | refine go1 ?_ | refine blockK_else rfl ?_ | (refine wpO_consD fun A B hA hB => ?_; simp only [go_sem, reduceIte, Nat.reduceAdd, Nat.reduceEqDiff, Nat.reduceLT, Nat.reduceLeDiff, *, lenK_sls h.sl, getElem?_len, getElem?_lenAdd, set_len, set_lenAdd, len_mid, ints_len, List.length_map, lt_mid, List.nil_append]; (first | apply hA.out | (refine iteI (fun h => ?_) (fun h => ?_) <;> apply hA.out)) <;> clear hA hB A B))
  refine wpC_each [4, 7, 8, 29, 30, 31, 32, 33, 34, 35, 36, 37, 38, 39, 40, 41, 42, 43, 44, 45, 46, 47, 48, 49, 50, 51, 52] 28 gs (fun pre post => gs.all (fun g => g.subs.all (isG gs)) = post.all (fun g => g.subs.all (isG gs))) ?_ ?_ ?_ ?_
  · rfl
  · rfl
  rotate_left
  · intro g G pre x post h1 hE
    have i0 := idx_sls h.sl (X := CX) ty24 ty68 rfl (n := pre.length) (row := encG x) (k := .i64) (map_at encG h1)
    have lt1 : (pre.length : Int) < (gs.length : Int) := by rw [h1]; simp; omega
    have w1 := wrap_succ (n := pre.length) (by rw [h1] at hgl; simp at hgl; omega)
    have hxm : x ∈ gs := by rw [h1]; simp
    have hx := h.ok x hxm
    have hsl := h.subs x hxm
    have c1 := hx.pv.cell
    have c2 := hx.sv.cell
    have s1 := hx.pv.snap
    have s2 := hx.sv.snap
    have hh1 : Hold (gs = pre ++ x :: post) := ⟨h1⟩
    have hhE : Hold (gs.all (fun g => g.subs.all (isG gs)) = (x :: post).all (fun g => g.subs.all (isG gs))) := ⟨hE⟩
    clear h1 hE hxm
    simp only [garbA_cons, garbA_nil, setL_cons, setL_nil, List.set_cons_zero, List.set_cons_succ]
    repeat' (first | refine go1 ?_ | refine blockK_else rfl ?_ | (refine wpO_consD fun A B hA hB => ?_; simp only [go_sem, reduceIte, Nat.reduceAdd, Nat.reduceEqDiff, Nat.reduceLT, Nat.reduceLeDiff, *]; (first | apply hA.out | (refine iteI (fun h => ?_) (fun h => ?_) <;> apply hA.out)) <;> clear hA hB A B))
    (refine wpC_cond fun A B hA hB => ?_; simp only [go_sem, reduceIte, Nat.reduceAdd, Nat.reduceEqDiff, Nat.reduceLT, Nat.reduceLeDiff, *]; first | (refine hA.out ?_; clear hA hB A B) | (refine hB.out ?_; clear hA hB A B))
    repeat' (first | refine go1 ?_ | refine blockK_else rfl ?_ | (refine wpO_consD fun A B hA hB => ?_; simp only [go_sem, reduceIte, Nat.reduceAdd, Nat.reduceEqDiff, Nat.reduceLT, Nat.reduceLeDiff, *, encG, snap_str, getElem?_len, getElem?_lenAdd, set_len, set_lenAdd, len_mid, ints_len, List.length_map, lt_mid, List.nil_append, List.cons_append, Bool.not_true, Bool.not_false, adopt_int, adopt_two, adopt_osl, adopt_tsl, adopt_nils, lenK_sls hx.sv]; (first | apply hA.out | (refine iteI (fun h => ?_) (fun h => ?_) <;> apply hA.out)) <;> clear hA hB A B))
    refine wpC_each [4, 8, 38, 39, 40, 41, 42, 43, 44, 45, 46, 47, 48, 49, 50, 51] 37 x.subs (fun _ post => x.subs.all (isG gs) = post.all (isG gs)) ?_ ?_ ?_ ?_
    · rfl
    · rfl
    · intro g' G' hS
      have hhS : Hold (x.subs.all (isG gs) = true) := ⟨by rw [hS]; rfl⟩
      clear hS
      simp only [garbA_cons, garbA_nil, setL_cons, setL_nil, List.set_cons_zero, List.set_cons_succ]
      repeat' (first | refine go1 ?_ | refine blockK_else rfl ?_ | (refine wpO_consD fun A B hA hB => ?_; simp only [go_sem, reduceIte, Nat.reduceAdd, Nat.reduceEqDiff, Nat.reduceLT, Nat.reduceLeDiff, *]; (first | apply hA.out | (refine iteI (fun h => ?_) (fun h => ?_) <;> apply hA.out)) <;> clear hA hB A B))
      (refine wpC_cond fun A B hA hB => ?_; simp only [go_sem, reduceIte, Nat.reduceAdd, Nat.reduceEqDiff, Nat.reduceLT, Nat.reduceLeDiff, *, ints_len, List.length_map, Int.lt_irrefl, List.nil_append]; first | (refine hA.out ?_; clear hA hB A B) | (refine hB.out ?_; clear hA hB A B))
      repeat' (first | refine go1 ?_ | refine blockK_else rfl ?_ | (refine wpO_consD fun A B hA hB => ?_; simp only [go_sem, reduceIte, Nat.reduceAdd, Nat.reduceEqDiff, Nat.reduceLT, Nat.reduceLeDiff, *]; (first | apply hA.out | (refine iteI (fun h => ?_) (fun h => ?_) <;> apply hA.out)) <;> clear hA hB A B))
      refine each_next hh1.out ?_ ?_ ?_
      · rw [hhE.out, List.all_cons, hhS.out, Bool.true_and]
      · ((try simp only [eraseA_cons, eraseA_nil, setL_cons, setL_nil, List.set_cons_zero, List.set_cons_succ]); all_goals (first | rfl | (simp only [len_snoc, len_mid, ints_len, List.length_map, List.length_append, List.length_cons, List.length_nil, Nat.zero_add]; first | done | rfl)))
      · first | exact ⟨[], (List.append_nil _).symm⟩ | exact ⟨_, rfl⟩ | (simp only [List.append_assoc, List.cons_append, List.nil_append]; exact ⟨_, rfl⟩)
    · intro g' G' pr y po h2 hS
      have j1 := idx_sls hx.sv (X := CX) ty29 ty3 rfl (by rw [h2]; exact ints_mid pr y po) (k := .i64)
      have lt2 : (pr.length : Int) < (x.subs.length : Int) := by rw [h2]; simp; omega
      have w2 := wrap_succ (n := pr.length) (by omega)
      have q := (findR h y).rw
      have hh2 : Hold (x.subs = pr ++ y :: po) := ⟨h2⟩
      have hhS : Hold (x.subs.all (isG gs) = (y :: po).all (isG gs)) := ⟨hS⟩
      clear h2 hS
      simp only [garbA_cons, garbA_nil, setL_cons, setL_nil, List.set_cons_zero, List.set_cons_succ]
      rcases gIdx_cases gs y with ⟨k5, e2⟩ | ⟨a, b, k5, e2, e3⟩
      rotate_left
      · rw [e3] at q
        have z : ¬ (a.length : Int) < 0 := by omega
        clear e2 e3
        repeat' (first | refine go1 ?_ | refine blockK_else rfl ?_ | (refine wpO_consD fun A B hA hB => ?_; simp only [go_sem, reduceIte, Nat.reduceAdd, Nat.reduceEqDiff, Nat.reduceLT, Nat.reduceLeDiff, *, ints_len]; (first | apply hA.out | (refine iteI (fun h => ?_) (fun h => ?_) <;> apply hA.out)) <;> clear hA hB A B))
        (refine wpC_cond fun A B hA hB => ?_; simp only [go_sem, reduceIte, Nat.reduceAdd, Nat.reduceEqDiff, Nat.reduceLT, Nat.reduceLeDiff, *]; first | (refine hA.out ?_; clear hA hB A B) | (refine hB.out ?_; clear hA hB A B))
        repeat' (first | refine go1 ?_ | refine blockK_else rfl ?_ | (refine wpO_consD fun A B hA hB => ?_; simp only [go_sem, reduceIte, Nat.reduceAdd, Nat.reduceEqDiff, Nat.reduceLT, Nat.reduceLeDiff, *, encG, snap_str, getElem?_len, getElem?_lenAdd, set_len, set_lenAdd, len_mid, ints_len, List.length_map, lt_mid, List.nil_append, List.cons_append, Bool.not_true, Bool.not_false, adopt_int, adopt_two, adopt_osl, adopt_tsl, adopt_nils]; (first | apply hA.out | (refine iteI (fun h => ?_) (fun h => ?_) <;> apply hA.out)) <;> clear hA hB A B))
        (refine wpC_cond fun A B hA hB => ?_; simp only [go_sem, reduceIte, Nat.reduceAdd, Nat.reduceEqDiff, Nat.reduceLT, Nat.reduceLeDiff, *]; first | (refine hA.out ?_; clear hA hB A B) | (refine hB.out ?_; clear hA hB A B))
        repeat' (first | refine go1 ?_ | refine blockK_else rfl ?_ | (refine wpO_consD fun A B hA hB => ?_; simp only [go_sem, reduceIte, Nat.reduceAdd, Nat.reduceEqDiff, Nat.reduceLT, Nat.reduceLeDiff, *]; (first | apply hA.out | (refine iteI (fun h => ?_) (fun h => ?_) <;> apply hA.out)) <;> clear hA hB A B))
        refine each_next hh2.out ?_ ?_ ?_
        · rw [hhS.out, List.all_cons, k5, Bool.true_and]
        · ((try simp only [eraseA_cons, eraseA_nil, setL_cons, setL_nil, List.set_cons_zero, List.set_cons_succ]); all_goals (first | rfl | (simp only [len_snoc, len_mid, ints_len, List.length_map, List.length_append, List.length_cons, List.length_nil, Nat.zero_add]; first | done | rfl)))
        · first | exact ⟨[], (List.append_nil _).symm⟩ | exact ⟨_, rfl⟩ | (simp only [List.append_assoc, List.cons_append, List.nil_append]; exact ⟨_, rfl⟩)
      · rw [e2] at q
        have z : (-1 : Int) < 0 := by omega
        clear e2
        repeat' (first | refine go1 ?_ | refine blockK_else rfl ?_ | (refine wpO_consD fun A B hA hB => ?_; simp only [go_sem, reduceIte, Nat.reduceAdd, Nat.reduceEqDiff, Nat.reduceLT, Nat.reduceLeDiff, *, ints_len]; (first | apply hA.out | (refine iteI (fun h => ?_) (fun h => ?_) <;> apply hA.out)) <;> clear hA hB A B))
        (refine wpC_cond fun A B hA hB => ?_; simp only [go_sem, reduceIte, Nat.reduceAdd, Nat.reduceEqDiff, Nat.reduceLT, Nat.reduceLeDiff, *]; first | (refine hA.out ?_; clear hA hB A B) | (refine hB.out ?_; clear hA hB A B))
        repeat' (first | refine go1 ?_ | refine blockK_else rfl ?_ | (refine wpO_consD fun A B hA hB => ?_; simp only [go_sem, reduceIte, Nat.reduceAdd, Nat.reduceEqDiff, Nat.reduceLT, Nat.reduceLeDiff, *, encG, snap_str, getElem?_len, getElem?_lenAdd, set_len, set_lenAdd, len_mid, ints_len, List.length_map, lt_mid, List.nil_append, List.cons_append, Bool.not_true, Bool.not_false, adopt_int, adopt_two, adopt_osl, adopt_tsl, adopt_nils]; (first | apply hA.out | (refine iteI (fun h => ?_) (fun h => ?_) <;> apply hA.out)) <;> clear hA hB A B))
        (refine wpC_cond fun A B hA hB => ?_; simp only [go_sem, reduceIte, Nat.reduceAdd, Nat.reduceEqDiff, Nat.reduceLT, Nat.reduceLeDiff, *]; first | (refine hA.out ?_; clear hA hB A B) | (refine hB.out ?_; clear hA hB A B))
        repeat' (first | refine go1 ?_ | refine blockK_else rfl ?_ | (refine wpO_consD fun A B hA hB => ?_; simp only [go_sem, reduceIte, Nat.reduceAdd, Nat.reduceEqDiff, Nat.reduceLT, Nat.reduceLeDiff, *]; (first | apply hA.out | (refine iteI (fun h => ?_) (fun h => ?_) <;> apply hA.out)) <;> clear hA hB A B))
        simp only [resultsR, resultsL, resultA, expK_int, expK_bool, expK_str, expK_agg, expK_own, expK_tsl, resK_some, go_sem, reduceIte, Nat.reduceAdd, Nat.reduceEqDiff, Nat.reduceLT, Nat.reduceLeDiff, and_self, ]
        have e : gs.all (fun g => g.subs.all (isG gs)) = false := by rw [hhE.out, List.all_cons, hhS.out, List.all_cons, k5, Bool.false_and, Bool.false_and]
        have e' : ¬ gs.all (fun g => g.subs.all (isG gs)) = true := by rw [e]; decide
        rw [chkG, if_pos hl20.out, if_pos (by assumption : Hold (errF ps [] gs = 0)).out, if_neg e']
  intro g' G' hA
  have hhA : Hold (gs.all (fun g => g.subs.all (isG gs)) = true) := ⟨by rw [hA]; rfl⟩
  clear hA
  simp only [garbA_cons, garbA_nil, setL_cons, setL_nil, List.set_cons_zero, List.set_cons_succ]
  generalize G ++ G' = G0
  repeat' (first | refine go1 ?_ | refine blockK_else rfl ?_ | (refine wpO_consD fun A B hA hB => ?_; simp only [go_sem, reduceIte, Nat.reduceAdd, Nat.reduceEqDiff, Nat.reduceLT, Nat.reduceLeDiff, *]; (first | apply hA.out | (refine iteI (fun h => ?_) (fun h => ?_) <;> apply hA.out)) <;> clear hA hB A B))
  (refine wpC_cond fun A B hA hB => ?_; simp only [go_sem, reduceIte, Nat.reduceAdd, Nat.reduceEqDiff, Nat.reduceLT, Nat.reduceLeDiff, *, Int.lt_irrefl]; first | (refine hA.out ?_; clear hA hB A B) | (refine hB.out ?_; clear hA hB A B))
  repeat' (first | refine go1 ?_ | refine blockK_else rfl ?_ | (refine wpO_consD fun A B hA hB => ?_; simp only [go_sem, reduceIte, Nat.reduceAdd, Nat.reduceEqDiff, Nat.reduceLT, Nat.reduceLeDiff, *, lenK_sls h.sl, getElem?_len, getElem?_lenAdd, set_len, set_lenAdd, len_mid, ints_len, List.length_map, lt_mid, List.nil_append]; (first | apply hA.out | (refine iteI (fun h => ?_) (fun h => ?_) <;> apply hA.out)) <;> clear hA hB A B))
  refine wpC_each [4, 9, 56, 57, 58, 59, 60, 61, 62, 63, 64, 65, 66, 67, 68, 69, 70, 71] 55 gs (fun pre post => gs.any (fun g => (below gs g.id).contains g.id) = post.any (fun g => (below gs g.id).contains g.id)) ?_ ?_ ?_ ?_
  · rfl
  · rfl
  · intro g G hE
    have hhN : Hold (gs.any (fun g => (below gs g.id).contains g.id) = false) := ⟨by rw [hE]; rfl⟩
    clear hE
    simp only [garbA_cons, garbA_nil, setL_cons, setL_nil, List.set_cons_zero, List.set_cons_succ]
    repeat' (first | refine go1 ?_ | refine blockK_else rfl ?_ | (refine wpO_consD fun A B hA hB => ?_; simp only [go_sem, reduceIte, Nat.reduceAdd, Nat.reduceEqDiff, Nat.reduceLT, Nat.reduceLeDiff, *]; (first | apply hA.out | (refine iteI (fun h => ?_) (fun h => ?_) <;> apply hA.out)) <;> clear hA hB A B))
    (refine wpC_cond fun A B hA hB => ?_; simp only [go_sem, reduceIte, Nat.reduceAdd, Nat.reduceEqDiff, Nat.reduceLT, Nat.reduceLeDiff, *, Int.lt_irrefl]; first | (refine hA.out ?_; clear hA hB A B) | (refine hB.out ?_; clear hA hB A B))
    repeat' (first | refine go1 ?_ | refine blockK_else rfl ?_ | (refine wpO_consD fun A B hA hB => ?_; simp only [go_sem, reduceIte, Nat.reduceAdd, Nat.reduceEqDiff, Nat.reduceLT, Nat.reduceLeDiff, *]; (first | apply hA.out | (refine iteI (fun h => ?_) (fun h => ?_) <;> apply hA.out)) <;> clear hA hB A B))
    simp only [resultsR, resultsL, resultA, expK_int, expK_bool, expK_str, expK_agg, expK_own, expK_tsl, resK_some, go_sem, reduceIte, Nat.reduceAdd, Nat.reduceEqDiff, Nat.reduceLT, Nat.reduceLeDiff, and_self, ]
    have e' : ¬ gs.any (fun g => (below gs g.id).contains g.id) = true := by rw [hhN.out]; decide
    rw [chkG, if_pos hl20.out, if_pos hhE.out, if_pos hhA.out, if_neg e']
  · intro g G pre x post h1 hE
    have i0 := idx_sls h.sl (X := CX) ty24 ty68 rfl (n := pre.length) (row := encG x) (k := .i64) (map_at encG h1)
    have lt1 : (pre.length : Int) < (gs.length : Int) := by rw [h1]; simp; omega
    have w1 := wrap_succ (n := pre.length) (by rw [h1] at hgl; simp at hgl; omega)
    have hxm : x ∈ gs := by rw [h1]; simp
    have hx := h.ok x hxm
    have c1 := hx.pv.cell
    have c2 := hx.sv.cell
    have s1 := hx.pv.snap
    have s2 := hx.sv.snap
    have hh1 : Hold (gs = pre ++ x :: post) := ⟨h1⟩
    have hhN : Hold (gs.any (fun g => (below gs g.id).contains g.id) = (x :: post).any (fun g => (below gs g.id).contains g.id)) := ⟨hE⟩
    have hbl := below_len gs x.id
    have q := (belowRE h x.id).rw
    rw [belowR_eq (clo_of hhA.out)] at q
    clear h1 hE hxm
    simp only [garbA_cons, garbA_nil, setL_cons, setL_nil, List.set_cons_zero, List.set_cons_succ]
    obtain ⟨GG, hGG⟩ : ∃ GG, GG = G0 ++ G := ⟨_, rfl⟩
    rw [← hGG]
    have hhG : Hold (GG = G0 ++ G) := ⟨hGG⟩
    clear hGG
    have q2 := (has1 (.tsl false 1 (ints (below gs x.id))) _ x.id (.rows false) (by omega)).rw
    by_cases k5 : (below gs x.id).contains x.id = true
    · rw [k5] at q2
      repeat' (first | refine go1 ?_ | refine blockK_else rfl ?_ | (refine wpO_consD fun A B hA hB => ?_; simp only [go_sem, reduceIte, Nat.reduceAdd, Nat.reduceEqDiff, Nat.reduceLT, Nat.reduceLeDiff, *]; (first | apply hA.out | (refine iteI (fun h => ?_) (fun h => ?_) <;> apply hA.out)) <;> clear hA hB A B))
      (refine wpC_cond fun A B hA hB => ?_; simp only [go_sem, reduceIte, Nat.reduceAdd, Nat.reduceEqDiff, Nat.reduceLT, Nat.reduceLeDiff, *]; first | (refine hA.out ?_; clear hA hB A B) | (refine hB.out ?_; clear hA hB A B))
      repeat' (first | refine go1 ?_ | refine blockK_else rfl ?_ | (refine wpO_consD fun A B hA hB => ?_; simp only [go_sem, reduceIte, Nat.reduceAdd, Nat.reduceEqDiff, Nat.reduceLT, Nat.reduceLeDiff, *, encG, snap_str, getElem?_len, getElem?_lenAdd, set_len, set_lenAdd, len_mid, ints_len, List.length_map, lt_mid, List.nil_append, List.cons_append, Bool.not_true, Bool.not_false, adopt_int, adopt_two, adopt_osl, adopt_tsl, adopt_nils, snap_sl, rowsOf_sl, ints_take, List.take_length, Nat.zero_le, Nat.zero_add, Bool.true_or, List.append_assoc]; (first | apply hA.out | (refine iteI (fun h => ?_) (fun h => ?_) <;> apply hA.out)) <;> clear hA hB A B))
      (refine wpC_cond fun A B hA hB => ?_; simp only [go_sem, reduceIte, Nat.reduceAdd, Nat.reduceEqDiff, Nat.reduceLT, Nat.reduceLeDiff, *]; first | (refine hA.out ?_; clear hA hB A B) | (refine hB.out ?_; clear hA hB A B))
      repeat' (first | refine go1 ?_ | refine blockK_else rfl ?_ | (refine wpO_consD fun A B hA hB => ?_; simp only [go_sem, reduceIte, Nat.reduceAdd, Nat.reduceEqDiff, Nat.reduceLT, Nat.reduceLeDiff, *]; (first | apply hA.out | (refine iteI (fun h => ?_) (fun h => ?_) <;> apply hA.out)) <;> clear hA hB A B))
      simp only [resultsR, resultsL, resultA, expK_int, expK_bool, expK_str, expK_agg, expK_own, expK_tsl, resK_some, go_sem, reduceIte, Nat.reduceAdd, Nat.reduceEqDiff, Nat.reduceLT, Nat.reduceLeDiff, and_self, ]
      have e : gs.any (fun g => (below gs g.id).contains g.id) = true := by rw [hhN.out, List.any_cons, k5, Bool.true_or]
      rw [chkG, if_pos hl20.out, if_pos hhE.out, if_pos hhA.out, if_pos e]
    · have k5 : (below gs x.id).contains x.id = false := by simpa using k5
      rw [k5] at q2
      repeat' (first | refine go1 ?_ | refine blockK_else rfl ?_ | (refine wpO_consD fun A B hA hB => ?_; simp only [go_sem, reduceIte, Nat.reduceAdd, Nat.reduceEqDiff, Nat.reduceLT, Nat.reduceLeDiff, *]; (first | apply hA.out | (refine iteI (fun h => ?_) (fun h => ?_) <;> apply hA.out)) <;> clear hA hB A B))
      (refine wpC_cond fun A B hA hB => ?_; simp only [go_sem, reduceIte, Nat.reduceAdd, Nat.reduceEqDiff, Nat.reduceLT, Nat.reduceLeDiff, *]; first | (refine hA.out ?_; clear hA hB A B) | (refine hB.out ?_; clear hA hB A B))
      repeat' (first | refine go1 ?_ | refine blockK_else rfl ?_ | (refine wpO_consD fun A B hA hB => ?_; simp only [go_sem, reduceIte, Nat.reduceAdd, Nat.reduceEqDiff, Nat.reduceLT, Nat.reduceLeDiff, *, encG, snap_str, getElem?_len, getElem?_lenAdd, set_len, set_lenAdd, len_mid, ints_len, List.length_map, lt_mid, List.nil_append, List.cons_append, Bool.not_true, Bool.not_false, adopt_int, adopt_two, adopt_osl, adopt_tsl, adopt_nils, snap_sl, rowsOf_sl, ints_take, List.take_length, Nat.zero_le, Nat.zero_add, Bool.true_or, List.append_assoc]; (first | apply hA.out | (refine iteI (fun h => ?_) (fun h => ?_) <;> apply hA.out)) <;> clear hA hB A B))
      (refine wpC_cond fun A B hA hB => ?_; simp only [go_sem, reduceIte, Nat.reduceAdd, Nat.reduceEqDiff, Nat.reduceLT, Nat.reduceLeDiff, *]; first | (refine hA.out ?_; clear hA hB A B) | (refine hB.out ?_; clear hA hB A B))
      repeat' (first | refine go1 ?_ | refine blockK_else rfl ?_ | (refine wpO_consD fun A B hA hB => ?_; simp only [go_sem, reduceIte, Nat.reduceAdd, Nat.reduceEqDiff, Nat.reduceLT, Nat.reduceLeDiff, *]; (first | apply hA.out | (refine iteI (fun h => ?_) (fun h => ?_) <;> apply hA.out)) <;> clear hA hB A B))
      refine each_next hh1.out ?_ ?_ ?_
      · rw [hhN.out, List.any_cons, k5, Bool.false_or]
      · ((try simp only [eraseA_cons, eraseA_nil, setL_cons, setL_nil, List.set_cons_zero, List.set_cons_succ]); all_goals (first | rfl | (simp only [len_snoc, len_mid, ints_len, List.length_map, List.length_append, List.length_cons, List.length_nil, Nat.zero_add]; first | done | rfl)))
      · rw [hhG.out]; first | exact ⟨[], (List.append_nil _).symm⟩ | exact ⟨_, rfl⟩ | (simp only [List.append_assoc, List.cons_append, List.nil_append]; exact ⟨_, rfl⟩)

/- Small functions over lists of numbers. -/
open Go.Proofs
attribute [local go_sem] allocK


def known (gs : List Grp) (n : Int) : Bool := gs.any fun g => g.id == n

theorem exists44 (v : AV) (gs : List Grp) (n : Int) (hv : SLs 4 (gs.map encG) v) (hl : gs.length < 9223372036854775807) : EvV CX 88 [v, .int .i64 n] (· = .bool (known gs n)) := by
  refine EvV.walk rfl fn88 rfl nt88 rfl ?_
  simp only [List.length_cons, List.length_nil, List.cons_append, List.nil_append, Nat.reduceAdd, Nat.reduceSub, List.replicate]
  repeat' (first | refine go1 ?_ | refine blockK_else rfl ?_ | ((first | refine wC fun A B a b => ?_ | refine wO fun A B a b => ?_); simp only [go_sem, reduceIte, Nat.reduceAdd, Nat.reduceEqDiff, Nat.reduceLT, Nat.reduceLeDiff, *, lenK_sls hv]; (first | apply a.1 | apply b.1 | (refine iteI (fun h => ?_) (fun h => ?_) <;> first | apply a.1 | apply b.1)) <;> clear a b A B))
  refine wpC_each [4, 6, 7, 8, 9, 10, 11, 12, 13, 14, 15, 16, 17, 18] 5 gs (fun _ post => known gs n = known post n) ?_ ?_ ?_ ?_
  · rfl
  · rfl
  · intro g G h2
    rw [h2]; simp only [garbA_cons, garbA_nil, setL_cons, setL_nil, List.set_cons_zero, List.set_cons_succ]
    repeat' (first | refine go1 ?_ | refine blockK_else rfl ?_ | ((first | refine wC fun A B a b => ?_ | refine wO fun A B a b => ?_); simp only [go_sem, reduceIte, Nat.reduceAdd, Nat.reduceEqDiff, Nat.reduceLT, Nat.reduceLeDiff, *, ints_len, List.length_map, Int.lt_irrefl, List.nil_append, lenK_sls hv]; (first | apply a.1 | apply b.1 | (refine iteI (fun h => ?_) (fun h => ?_) <;> first | apply a.1 | apply b.1)) <;> clear a b A B))
    simp only [resultsR, resultsL, resultA, expK_int, expK_bool, expK_str, expK_agg, expK_own, expK_tsl, resK_some, go_sem, reduceIte, Nat.reduceAdd, Nat.reduceEqDiff, Nat.reduceLT, Nat.reduceLeDiff, and_self, known, List.any_nil]
  · intro g G pre x post h1 h2
    rw [h2]; subst h1; simp only [garbA_cons, garbA_nil, setL_cons, setL_nil, List.set_cons_zero, List.set_cons_succ]
    have i1 := idx_sls hv (X := CX) ty24 ty68 rfl (map_mid encG pre x post) (k := .i64)
    have w1 := wrap_succ (n := pre.length) (by simp at hl; omega)
    repeat' (first | refine go1 ?_ | refine blockK_else rfl ?_ | ((first | refine wC fun A B a b => ?_ | refine wO fun A B a b => ?_); simp only [go_sem, reduceIte, Nat.reduceAdd, Nat.reduceEqDiff, Nat.reduceLT, Nat.reduceLeDiff, *, getElem?_len, getElem?_lenAdd, set_len, set_lenAdd, len_mid, ints_len, List.length_map, lt_mid, List.nil_append, lenK_sls hv, encG]; (first | apply a.1 | apply b.1 | (refine iteI (fun h => ?_) (fun h => ?_) <;> first | apply a.1 | apply b.1)) <;> clear a b A B))
    · simp only [resultsR, resultsL, resultA, expK_int, expK_bool, expK_str, expK_agg, expK_own, expK_tsl, resK_some, go_sem, reduceIte, Nat.reduceAdd, Nat.reduceEqDiff, Nat.reduceLT, Nat.reduceLeDiff, and_self, ]
      simp [known, h]
    · refine each_next rfl ?_ ?_ ?_
      · simp [known, h]
      · ((try simp only [eraseA_cons, eraseA_nil, setL_cons, setL_nil, List.set_cons_zero, List.set_cons_succ]); all_goals (first | rfl | (simp only [len_snoc, len_mid, ints_len, List.length_map, List.length_append, List.length_cons, List.length_nil, Nat.zero_add]; first | done | rfl)))
      · first | exact ⟨[], (List.append_nil _).symm⟩ | exact ⟨_, rfl⟩ | (simp only [List.append_assoc, List.cons_append, List.nil_append]; exact ⟨_, rfl⟩)

def listedF (gs : List Grp) : List Int → List Int → Int
  | _, [] => 0
  | pre, n :: l => if (0 : Int) < (pre.length : Int) ∧ n ≤ pre.getLastD 0 then 10 else if known gs n = true then listedF gs (pre ++ [n]) l else 9

theorem known_snoc (a : List Grp) (g : Grp) (n : Int) : known (a ++ [g]) n = (known a n || g.id == n) := by simp [known, List.any_append]

theorem listed44 (v w : AV) (gs : List Grp) (l : List Int) (hv : SLs 4 (gs.map encG) v) (hok : ∀ g ∈ gs, g.ok) (hw : SLs 1 (ints l) w) (hg : gs.length < 9223372036854775807) (hl : l.length < 9223372036854775807) : EvV CX 101 [v, w] (· = .int .i64 (listedF gs [] l)) := by
  refine EvV.walk rfl fn101 rfl nt101 rfl ?_
  simp only [List.length_cons, List.length_nil, List.cons_append, List.nil_append, Nat.reduceAdd, Nat.reduceSub, List.replicate]
  repeat' (first | refine go1 ?_ | refine blockK_else rfl ?_ | ((first | refine wC fun A B a b => ?_ | refine wO fun A B a b => ?_); simp only [go_sem, reduceIte, Nat.reduceAdd, Nat.reduceEqDiff, Nat.reduceLT, Nat.reduceLeDiff, *, lenK_sls hw]; (first | apply a.1 | apply b.1 | (refine iteI (fun h => ?_) (fun h => ?_) <;> first | apply a.1 | apply b.1)) <;> clear a b A B))
  refine wpC_each [4, 5, 6, 7, 9, 13, 14, 15, 16, 17, 18, 19, 20, 21, 22, 23, 24, 25, 26, 27, 28, 29, 30, 31, 32, 33, 34, 35, 36, 37, 38, 39, 40, 41, 42, 43, 44] 12 l (fun pre post => listedF gs [] l = listedF gs pre post) ?_ ?_ ?_ ?_
  · rfl
  · rfl
  · intro g G h2
    rw [h2]; simp only [garbA_cons, garbA_nil, setL_cons, setL_nil, List.set_cons_zero, List.set_cons_succ]
    repeat' (first | refine go1 ?_ | refine blockK_else rfl ?_ | ((first | refine wC fun A B a b => ?_ | refine wO fun A B a b => ?_); simp only [go_sem, reduceIte, Nat.reduceAdd, Nat.reduceEqDiff, Nat.reduceLT, Nat.reduceLeDiff, *, ints_len, List.length_map, Int.lt_irrefl, List.nil_append]; (first | apply a.1 | apply b.1 | (refine iteI (fun h => ?_) (fun h => ?_) <;> first | apply a.1 | apply b.1)) <;> clear a b A B))
    simp only [resultsR, resultsL, resultA, expK_int, expK_bool, expK_str, expK_agg, expK_own, expK_tsl, resK_some, go_sem, reduceIte, Nat.reduceAdd, Nat.reduceEqDiff, Nat.reduceLT, Nat.reduceLeDiff, and_self, ]
    rfl
  · intro g G pre x post h1 h2
    rw [h2]; subst h1; simp only [garbA_cons, garbA_nil, setL_cons, setL_nil, List.set_cons_zero, List.set_cons_succ]
    have i1 := idx_sls hw (X := CX) ty29 ty3 rfl (ints_mid pre x post) (k := .i64)
    have i2 := prev_ints hw hl (X := CX) ty29 ty3 rfl (k := .i64)
    have w1 := wrap_succ (n := pre.length) (by simp at hl; omega)
    repeat' (first | refine go1 ?_ | refine blockK_else rfl ?_ | ((first | refine wC fun A B a b => ?_ | refine wO fun A B a b => ?_); simp only [go_sem, reduceIte, Nat.reduceAdd, Nat.reduceEqDiff, Nat.reduceLT, Nat.reduceLeDiff, *, getElem?_len, getElem?_lenAdd, set_len, set_lenAdd, len_mid, ints_len, List.length_map, lt_mid, List.nil_append, lenK_sls hv]; (first | apply a.1 | apply b.1 | (refine iteI (fun h => ?_) (fun h => ?_) <;> first | apply a.1 | apply b.1)) <;> clear a b A B))
    · simp only [resultsR, resultsL, resultA, expK_int, expK_bool, expK_str, expK_agg, expK_own, expK_tsl, resK_some, go_sem, reduceIte, Nat.reduceAdd, Nat.reduceEqDiff, Nat.reduceLT, Nat.reduceLeDiff, and_self, ]
      rw [listedF, if_pos ⟨by assumption, h⟩]
    all_goals
      have hno : ¬ ((0 : Int) < (pre.length : Int) ∧ x ≤ pre.getLastD 0) := by rintro ⟨_, _⟩; contradiction
      refine wpC_eachE [9, 31, 32, 33, 34, 35, 36, 37, 38, 39, 40, 41] 30 (fun p => [(7, .bool (known p x))]) gs (fun _ _ => True) ?_ ?_ ?_ ?_
      · trivial
      · rfl
      · intro g G h3
        simp only [garbA_cons, garbA_nil, setL_cons, setL_nil, List.set_cons_zero, List.set_cons_succ]
        repeat' (first | refine go1 ?_ | refine blockK_else rfl ?_ | ((first | refine wC fun A B a b => ?_ | refine wO fun A B a b => ?_); simp only [go_sem, reduceIte, Nat.reduceAdd, Nat.reduceEqDiff, Nat.reduceLT, Nat.reduceLeDiff, *, ints_len, List.length_map, Int.lt_irrefl, List.nil_append]; (first | apply a.1 | apply b.1 | (refine iteI (fun h => ?_) (fun h => ?_) <;> first | apply a.1 | apply b.1)) <;> clear a b A B))
        · simp only [resultsR, resultsL, resultA, expK_int, expK_bool, expK_str, expK_agg, expK_own, expK_tsl, resK_some, go_sem, reduceIte, Nat.reduceAdd, Nat.reduceEqDiff, Nat.reduceLT, Nat.reduceLeDiff, and_self, ]
          rw [listedF, if_neg hno, if_neg (by simp [h])]
        · refine each_next rfl ?_ ?_ ?_
          · rw [listedF, if_neg hno, if_pos (by simpa using h)]
          · ((try simp only [eraseA_cons, eraseA_nil, setL_cons, setL_nil, List.set_cons_zero, List.set_cons_succ]); all_goals (first | rfl | (simp only [len_snoc, len_mid, ints_len, List.length_map, List.length_append, List.length_cons, List.length_nil, Nat.zero_add]; first | done | rfl)))
          · first | exact ⟨[], (List.append_nil _).symm⟩ | exact ⟨_, rfl⟩ | (simp only [List.append_assoc, List.cons_append, List.nil_append]; exact ⟨_, rfl⟩)
      · intro g G gpre y gpost h3 h4
        subst h3; simp only [garbA_cons, garbA_nil, setL_cons, setL_nil, List.set_cons_zero, List.set_cons_succ]
        have i3 := idx_sls hv (X := CX) ty24 ty68 rfl (map_mid encG gpre y gpost) (k := .i64)
        have w2 := wrap_succ (n := gpre.length) (by simp at hg; omega)
        have c1 := (hok y (by simp)).pv.cell
        have c2 := (hok y (by simp)).sv.cell
        repeat' (first | refine go1 ?_ | refine blockK_else rfl ?_ | ((first | refine wC fun A B a b => ?_ | refine wO fun A B a b => ?_); simp only [go_sem, reduceIte, Nat.reduceAdd, Nat.reduceEqDiff, Nat.reduceLT, Nat.reduceLeDiff, *, getElem?_len, getElem?_lenAdd, set_len, set_lenAdd, len_mid, ints_len, List.length_map, lt_mid, List.nil_append, encG]; (first | apply a.1 | apply b.1 | (refine iteI (fun h => ?_) (fun h => ?_) <;> first | apply a.1 | apply b.1)) <;> clear a b A B))
        all_goals
          refine each_next rfl ?_ ?_ ?_
          · trivial
          · simp only [eraseA_cons, eraseA_nil, setL_cons, setL_nil, List.set_cons_zero, List.set_cons_succ]
            simp [known_snoc, *]
          · first | exact ⟨[], (List.append_nil _).symm⟩ | exact ⟨_, rfl⟩ | (simp only [List.append_assoc, List.cons_append, List.nil_append]; exact ⟨_, rfl⟩)

/- Protocols: Copy, Check, Wider, Same. -/
open Go.Proofs
attribute [local go_sem] ty56 br101 fz120 br88 fz146


def checkF (groups : List Grp) (lv : Int) (gs : List Int) (un : Int) : Int :=
  if lv < 0 ∨ 3 < lv then 14 else if lv ≠ 2 ∧ (0 : Int) < (gs.length : Int) then 1 else if lv = 2 ∧ (gs.length : Int) = 0 then 4
  else if listedF groups [] gs ≠ 0 then listedF groups [] gs else if un < 0 ∨ 109573 < un then 12 else 0

theorem check13 (v gv : AV) (groups : List Grp) (lv un : Int) (gs : List Int) (hv : SLs 4 (groups.map encG) v) (hok : ∀ g ∈ groups, g.ok) (hw : SLs 1 (ints gs) gv) (hg : groups.length < 9223372036854775807) (hl : gs.length < 9223372036854775807) :
    EvV CX 67 [v, .agg [.int .i64 lv, gv, .int .i64 un]] (· = .int .i64 (checkF groups lv gs un)) := by
  have c1 := hw.cell
  refine EvV.walk rfl fn67 rfl nt67 rfl ?_
  simp only [List.length_cons, List.length_nil, List.cons_append, List.nil_append, Nat.reduceAdd, Nat.reduceSub, List.replicate]
  repeat' (first | refine go1 ?_ | refine blockK_else rfl ?_ | ((first | refine wC fun A B a b => ?_ | refine wO fun A B a b => ?_); simp only [go_sem, reduceIte, Nat.reduceAdd, Nat.reduceEqDiff, Nat.reduceLT, Nat.reduceLeDiff, *, lenK_sls hw, ints_len, hw.snap, hv.snap, (listed44 v gv groups gs hv hok hw hg hl).rw]; (first | apply a.1 | apply b.1 | (refine iteI (fun h => ?_) (fun h => ?_) <;> first | apply a.1 | apply b.1)) <;> clear a b A B))
  all_goals simp only [resultsR, resultsL, resultA, expK_int, expK_bool, expK_str, expK_agg, expK_own, expK_tsl, resK_some, go_sem, reduceIte, Nat.reduceAdd, Nat.reduceEqDiff, Nat.reduceLT, Nat.reduceLeDiff, and_self, ]
  all_goals simp only [checkF, *, if_true, if_false, true_or, or_true, and_true, true_and, ne_eq, not_true_eq_false, not_false_eq_true, false_and, and_false, or_self, and_self, false_or, or_false, Bool.false_eq_true, Bool.true_and, Bool.and_true, Bool.false_and, Bool.and_false, Bool.true_or, Bool.or_true, Bool.false_or, Bool.or_false, Bool.not_true, Bool.not_false, decide_true, decide_false, not_false_iff, reduceIte]
  all_goals simp

theorem check15 (v gv : AV) (groups : List Grp) (lv un : Int) (gs : List Int) (hv : SLs 4 (groups.map encG) v) (hw : SLs 1 (ints gs) gv) (hg : groups.length < 9223372036854775807) (hl : gs.length < 9223372036854775807) :
    EvV CX 56 [v, .agg [.int .i64 lv, gv, .int .i64 un]] (· = .int .i64 (checkF groups lv gs un)) := by
  have c1 := hw.cell
  refine EvV.walk rfl fn56 rfl nt56 rfl ?_
  simp only [List.length_cons, List.length_nil, List.cons_append, List.nil_append, Nat.reduceAdd, Nat.reduceSub, List.replicate]
  repeat' (first | refine go1 ?_ | refine blockK_else rfl ?_ | ((first | refine wC fun A B a b => ?_ | refine wO fun A B a b => ?_); simp only [go_sem, reduceIte, Nat.reduceAdd, Nat.reduceEqDiff, Nat.reduceLT, Nat.reduceLeDiff, *, lenK_sls hw, ints_len, hw.snap, hv.snap]; (first | apply a.1 | apply b.1 | (refine iteI (fun h => ?_) (fun h => ?_) <;> first | apply a.1 | apply b.1)) <;> clear a b A B))
  all_goals first
    | (exfalso; omega)
    | (simp only [resultsR, resultsL, resultA, expK_int, expK_bool, expK_str, expK_agg, expK_own, expK_tsl, resK_some, go_sem, reduceIte, Nat.reduceAdd, Nat.reduceEqDiff, Nat.reduceLT, Nat.reduceLeDiff, and_self, ]; simp only [checkF, *, if_true, if_false, true_or, or_true, and_true, true_and, ne_eq, not_true_eq_false, not_false_eq_true, false_and, and_false, or_self, and_self, false_or, or_false, Bool.false_eq_true, Bool.true_and, Bool.and_true, Bool.false_and, Bool.and_false, Bool.true_or, Bool.or_true, Bool.false_or, Bool.or_false, Bool.not_true, Bool.not_false, decide_true, decide_false, not_false_iff, reduceIte]; (try simp); done)
    | skip
  all_goals
    have hF : checkF groups lv gs un = if listedF groups [] gs ≠ 0 then listedF groups [] gs else if un < 0 ∨ 109573 < un then 12 else 0 := by
      unfold checkF; rw [if_neg (by omega), if_neg (by omega), if_neg (by omega)]
    rw [hF]; clear hF
    refine wpC_each [4, 32, 33, 34, 35, 36, 37, 38, 39, 40, 41, 42, 43, 44, 45, 46, 47, 48, 49, 50, 51, 52, 53, 54, 55, 56, 57, 58, 59, 60, 61, 62] 5 gs (fun pre post => listedF groups [] gs = listedF groups pre post) ?_ ?_ ?_ ?_
    · rfl
    · rfl
    · intro g G h2
      rw [h2]; simp only [garbA_cons, garbA_nil, setL_cons, setL_nil, List.set_cons_zero, List.set_cons_succ]
      repeat' (first | refine go1 ?_ | refine blockK_else rfl ?_ | ((first | refine wC fun A B a b => ?_ | refine wO fun A B a b => ?_); simp only [go_sem, reduceIte, Nat.reduceAdd, Nat.reduceEqDiff, Nat.reduceLT, Nat.reduceLeDiff, *, ints_len, List.length_map, Int.lt_irrefl, List.nil_append, lenK_sls hw]; (first | apply a.1 | apply b.1 | (refine iteI (fun h => ?_) (fun h => ?_) <;> first | apply a.1 | apply b.1)) <;> clear a b A B))
      all_goals simp only [resultsR, resultsL, resultA, expK_int, expK_bool, expK_str, expK_agg, expK_own, expK_tsl, resK_some, go_sem, reduceIte, Nat.reduceAdd, Nat.reduceEqDiff, Nat.reduceLT, Nat.reduceLeDiff, and_self, ]
      all_goals simp [listedF, *]
    · intro g G pre x post h1 h2
      rw [h2]; subst h1; simp only [garbA_cons, garbA_nil, setL_cons, setL_nil, List.set_cons_zero, List.set_cons_succ]
      have i1 := idx_sls hw (X := CX) ty29 ty3 rfl (ints_mid pre x post) (k := .i64)
      have i2 := prev_ints hw hl (X := CX) ty29 ty3 rfl (k := .i64)
      have w1 := wrap_succ (n := pre.length) (by simp at hl; omega)
      repeat' (first | refine go1 ?_ | refine blockK_else rfl ?_ | ((first | refine wC fun A B a b => ?_ | refine wO fun A B a b => ?_); simp only [go_sem, reduceIte, Nat.reduceAdd, Nat.reduceEqDiff, Nat.reduceLT, Nat.reduceLeDiff, *, getElem?_len, getElem?_lenAdd, set_len, set_lenAdd, len_mid, ints_len, List.length_map, lt_mid, List.nil_append, lenK_sls hw, hv.snap, (exists44 v groups x hv hg).rw]; (first | apply a.1 | apply b.1 | (refine iteI (fun h => ?_) (fun h => ?_) <;> first | apply a.1 | apply b.1)) <;> clear a b A B))
      all_goals first
        | (simp only [resultsR, resultsL, resultA, expK_int, expK_bool, expK_str, expK_agg, expK_own, expK_tsl, resK_some, go_sem, reduceIte, Nat.reduceAdd, Nat.reduceEqDiff, Nat.reduceLT, Nat.reduceLeDiff, and_self, ]
           simp only [listedF, *, false_and, and_false, if_true, if_false, Bool.false_eq_true]; simp; done)
        | (refine each_next rfl ?_ ?_ ?_
           · have hno : ¬ ((0 : Int) < (pre.length : Int) ∧ x ≤ pre.getLastD 0) := by rintro ⟨_, _⟩; contradiction
             rw [listedF, if_neg hno, if_pos (by simpa using h)]
           · ((try simp only [eraseA_cons, eraseA_nil, setL_cons, setL_nil, List.set_cons_zero, List.set_cons_succ]); all_goals (first | rfl | (simp only [len_snoc, len_mid, ints_len, List.length_map, List.length_append, List.length_cons, List.length_nil, Nat.zero_add]; first | done | rfl)))
           · first | exact ⟨[], (List.append_nil _).symm⟩ | exact ⟨_, rfl⟩ | (simp only [List.append_assoc, List.cons_append, List.nil_append]; exact ⟨_, rfl⟩))
end Go.Eng

/- Time spans and their lists (plain): two normal lists with the same times are one. -/
namespace Go.Eng

abbrev Spn := Int × Int
def rgt (s : Spn) : Bool := decide (0 ≤ s.1) && (decide (s.1 < s.2) && decide (s.2 ≤ 86400000))
end Go.Eng

/- Rights: Rule and Check of the reference. -/
namespace Go.Eng
open Go.Proofs
attribute [local irreducible] wpC wpO wp1 EvV EvR wpL
attribute [local go_sem] ty3 ty4 ty47 eq47 ty9 ty22 ty23 ty24 ty25 ty26 ty28 ty29 ty31 ty34 ty53 ty56 ty58 ty66 ty68 br50 br55 br56 fz136 fz138 fz141 beq_iff_eq beq_eq_false_iff_ne Int.natCast_inj Bool.not_eq_false' op1_go wpK_box wpK_alloc wpK_load wpK_store wpK_binOp wpK_unOp wpK_fieldAddr wpK_field wpK_build wpK_indexAddr wpK_slice wpK_len wpK_extract wpK_nilCheck wpK_pick wpK_makeFunc wpK_call wpK_callT wpK_max wpK_min wpK_assignT wpK_moveT wpK_assignB wpK_moveB wpK_assignI wpK_moveI wpK_assignA wpK_moveA callK_fn snapL_nil snapL_cons snap_int snap_bool snap_str snap_tsl snap_agg snap_fn snap_flat adopt_int adopt_bool adopt_str adopt_agg adopt_osl adopt_tsl adopt_tup op1_guard grdK_bool grdK_undef condK_bool someK_some pairK_some nilK_ptr nilK_tptr boxK storeK evalA_tmp evalA_int evalA_bool evalA_agg evalA_fn evalA_nil ofC_int ofC_bool getA_zero getA_succ cells_int cells_agg cells_bool cells_sl cells_tsl cell_int cell_bool cell_str cell_sl cell_esl cell_tsl cell_ptr cell_tptr cell_fn cell_nils cell_nilf List.all_cons List.all_nil Bool.and_true Bool.and_self Bool.true_and putA_some putA_none List.set_cons_zero List.set_cons_succ List.length_cons List.length_nil List.nil_append List.cons_append stabL AV.stab fieldAddrA fieldA List.getElem?_cons_zero List.getElem?_cons_succ Nat.zero_add loadA rowOf Nat.le_refl and_self true_and and_true partA binA unA intBin eqBin eqCells eqCell Option.bind_some decide_true decide_false decide_eq_true_eq ite_not Bool.not_eq_true' decide_eq_false_iff_not Bool.false_eq_true Option.map_some Option.map_none Bool.not_true Bool.not_false buildA fillA patch List.take List.drop List.map_cons List.map_nil extK List.getD_cons_zero List.getD_cons_succ minmaxA minmaxGo adoptZ_false adoptZ_true freeze_int freeze_bool freeze_str freeze_flat freeze_agg freeze_osl freeze_tsl freeze_tup frz1_bool frz1_int frz1_str frz1_agg frz1_osl frz1_tsl bne Bool.false_and Bool.and_false ne_eq not_true_eq_false not_false_eq_true List.append_nil
set_option maxHeartbeats 4000000

theorem rightN (a b : Int) : EvV CX 50 [.agg [.int .i64 a, .int .i64 b]] (· = .bool (rgt (a, b))) := by
  refine EvV.walk rfl fn50 rfl nt50 rfl ?_
  simp only [List.length_cons, List.length_nil, List.cons_append, List.nil_append, Nat.reduceAdd, Nat.reduceSub, List.replicate]
  repeat' (first | refine go1 ?_ | refine blockK_else rfl ?_ | ((first | refine wC fun A B a b => ?_ | refine wO fun A B a b => ?_); simp only [go_sem, reduceIte, Nat.reduceAdd, Nat.reduceEqDiff, Nat.reduceLT, Nat.reduceLeDiff, *]; (first | apply a.1 | apply b.1 | (refine iteI (fun h => ?_) (fun h => ?_) <;> first | apply a.1 | apply b.1)) <;> clear a b A B))
  all_goals simp only [resultsR, resultsL, resultA, expK_int, expK_bool, expK_str, expK_agg, expK_own, expK_tsl, resK_some, go_sem, reduceIte, Nat.reduceAdd, Nat.reduceEqDiff, Nat.reduceLT, Nat.reduceLeDiff, and_self, ]
  all_goals simp [rgt, *]

def spOK (s : Int × Int) : Bool := ((s.1 == 0) && (s.2 == 0)) || rgt s
def outR (x : Ru) (r : Rec) : Bool := (r.id == x.rc) && decide (r.len < x.sp.2)
def ruleF (recs : List Rec) (gs : List Grp) (x : Ru) : Int :=
  if idOK x.rc = true then if spOK x.sp = true then if recs.any (outR x) = true then 12 else checkF gs x.lv x.gl x.un else 12 else 2
def rulesF (recs : List Rec) (gs : List Grp) : List Ru → Int
  | [] => 0
  | x :: l => if ruleF recs gs x = 0 then rulesF recs gs l else ruleF recs gs x
noncomputable def chkRt (ps : List Psn) (recs : List Rec) (gs : List Grp) (cs : List Con) (rs : List Ru) : Int :=
  if pplF ps = 0 then if recsF ps recs = 0 then if chkG ps gs = 0 then if cnsF ps cs = 0 then if rs.length ≤ 60 then rulesF recs gs rs else 11 else cnsF ps cs else chkG ps gs else recsF ps recs else pplF ps

theorem ruleR {pv gv cv rv u : AV} {ps : List Psn} {gs : List Grp} {cs : List Con} {rs : List Ru} {recs : List Rec} (h : RtV pv gv cv rv ps gs cs rs) (hu : SLs 5 (recs.map encRc) u) (hok : ∀ r ∈ recs, r.ok) (hl : recs.length ≤ 1000) (hgl : gs.length ≤ 1000) (x : Ru) (hx : x.ok) (hxl : x.gl.length ≤ 1000) :
    EvV CX 28 [u, .agg [pv, gv, cv, rv], .agg (encRu x)] (· = .int .i64 (ruleF recs gs x)) := by
  have c1 := h.p.cell
  have c2 := h.g.cell
  have c3 := h.c.cell
  have c4 := h.r.cell
  have c5 := hx.sl.cell
  have s2 := h.g.snap
  have s5 := hx.sl.snap
  have su := hu.snap
  have qi := (identR x.rc).rw
  have qr := (rightN x.sp.1 x.sp.2).rw
  have qc := (check15 gv x.gv gs x.lv x.un x.gl h.g hx.sl (by omega) (by omega)).rw
  have hE : ruleF recs gs x = if idOK x.rc = true then if spOK x.sp = true then if recs.any (outR x) = true then 12 else checkF gs x.lv x.gl x.un else 12 else 2 := rfl
  have hS : spOK x.sp = (((x.sp.1 == 0) && (x.sp.2 == 0)) || rgt (x.sp.1, x.sp.2)) := rfl
  cases k1 : idOK x.rc with
  | false =>
    rw [k1] at hE qi
    rw [hE]
    clear hE hS k1
    refine EvV.walk rfl fn28 rfl nt28 rfl ?_
    simp only [List.length_cons, List.length_nil, List.cons_append, List.nil_append, Nat.reduceAdd, Nat.reduceSub, List.replicate]
    repeat' (first | refine go1 ?_ | refine blockK_else rfl ?_ | ((first | refine wC fun A B a b => ?_ | refine wO fun A B a b => ?_); simp only [go_sem, reduceIte, Nat.reduceAdd, Nat.reduceEqDiff, Nat.reduceLT, Nat.reduceLeDiff, *, encRu]; (first | apply a.1 | apply b.1 | (refine iteI (fun h => ?_) (fun h => ?_) <;> first | apply a.1 | apply b.1)) <;> clear a b A B))
    simp only [resultsR, resultsL, resultA, expK_int, expK_bool, expK_str, expK_agg, expK_own, expK_tsl, resK_some, go_sem, reduceIte, Nat.reduceAdd, Nat.reduceEqDiff, Nat.reduceLT, Nat.reduceLeDiff, and_self, ]
  | true =>
    rw [k1, if_pos rfl] at hE
    rw [k1] at qi
    clear k1
    have ways : ((x.sp.1 == 0) = true ∧ (x.sp.2 == 0) = true) ∨ ((x.sp.1 == 0) = true ∧ (x.sp.2 == 0) = false) ∨ (x.sp.1 == 0) = false := by
      cases (x.sp.1 == 0) <;> cases (x.sp.2 == 0) <;> simp
    cases k2 : spOK x.sp with
    | false =>
      rw [k2] at hE
      rw [hE]
      have k3 : rgt (x.sp.1, x.sp.2) = false := by
        cases e : rgt (x.sp.1, x.sp.2) with
        | false => rfl
        | true => rw [hS, e, Bool.or_true] at k2; cases k2
      rw [k3] at qr
      clear hE
      rcases ways with ⟨b1, b2⟩ | ⟨b1, b2⟩ | b1
      · rw [hS, b1, b2] at k2; cases k2
      all_goals
        clear hS k2 k3
        refine EvV.walk rfl fn28 rfl nt28 rfl ?_
        simp only [List.length_cons, List.length_nil, List.cons_append, List.nil_append, Nat.reduceAdd, Nat.reduceSub, List.replicate]
        repeat' (first | refine go1 ?_ | refine blockK_else rfl ?_ | ((first | refine wC fun A B a b => ?_ | refine wO fun A B a b => ?_); simp only [go_sem, reduceIte, Nat.reduceAdd, Nat.reduceEqDiff, Nat.reduceLT, Nat.reduceLeDiff, *, encRu, List.getElem?_cons_succ]; (first | apply a.1 | apply b.1 | (refine iteI (fun h => ?_) (fun h => ?_) <;> first | apply a.1 | apply b.1)) <;> clear a b A B))
        simp only [resultsR, resultsL, resultA, expK_int, expK_bool, expK_str, expK_agg, expK_own, expK_tsl, resK_some, go_sem, reduceIte, Nat.reduceAdd, Nat.reduceEqDiff, Nat.reduceLT, Nat.reduceLeDiff, and_self, ]
    | true =>
      rw [k2, if_pos rfl] at hE
      obtain ⟨R, hR⟩ : ∃ R, ruleF recs gs x = R := ⟨_, rfl⟩
      have hhE : Hold (R = if recs.any (outR x) = true then 12 else checkF gs x.lv x.gl x.un) := ⟨by rw [← hR, hE]⟩
      rw [hR]
      clear hE hR
      have qr2 : ((x.sp.1 == 0) = true ∧ (x.sp.2 == 0) = true) ∨ (((x.sp.1 == 0) = true ∧ (x.sp.2 == 0) = false) ∨ (x.sp.1 == 0) = false) ∧ rgt (x.sp.1, x.sp.2) = true := by
        rcases ways with w | w | w
        · exact .inl w
        · refine .inr ⟨.inl w, ?_⟩; rw [hS, w.1, w.2] at k2; exact k2
        · refine .inr ⟨.inr w, ?_⟩; rw [hS, w] at k2; exact k2
      clear ways k2 hS
      rcases qr2 with ⟨b1, b2⟩ | ⟨⟨b1, b2⟩ | b1, k3⟩
      all_goals (try rw [k3] at qr)
      all_goals (try clear k3)
      all_goals
        refine EvV.walk rfl fn28 rfl nt28 rfl ?_
        simp only [List.length_cons, List.length_nil, List.cons_append, List.nil_append, Nat.reduceAdd, Nat.reduceSub, List.replicate]
        repeat' (first | refine go1 ?_ | refine blockK_else rfl ?_ | ((first | refine wC fun A B a b => ?_ | refine wO fun A B a b => ?_); simp only [go_sem, reduceIte, Nat.reduceAdd, Nat.reduceEqDiff, Nat.reduceLT, Nat.reduceLeDiff, *, encRu, lenK_sls hu, List.length_map, List.getElem?_cons_succ]; (first | apply a.1 | apply b.1 | (refine iteI (fun h => ?_) (fun h => ?_) <;> first | apply a.1 | apply b.1)) <;> clear a b A B))
        refine wpC_each [6, 7, 25, 26, 27, 28, 29, 30, 31, 32, 33, 34, 35, 36, 37, 38, 39, 40, 41, 42, 43, 44, 45, 46] 24 recs (fun pre _ => pre.any (outR x) = false) ?_ ?_ ?_ ?_
        · rfl
        · rfl
        · intro g G hA
          have e : R = checkF gs x.lv x.gl x.un := by rw [hhE.out, hA]; rfl
          rw [e]
          clear e hA hhE
          simp only [garbA_cons, garbA_nil, setL_cons, setL_nil, List.set_cons_zero, List.set_cons_succ]
          repeat' (first | refine go1 ?_ | refine blockK_else rfl ?_ | ((first | refine wC fun A B a b => ?_ | refine wO fun A B a b => ?_); simp only [go_sem, reduceIte, Nat.reduceAdd, Nat.reduceEqDiff, Nat.reduceLT, Nat.reduceLeDiff, *, Int.lt_irrefl, List.getElem?_cons_succ]; (first | apply a.1 | apply b.1 | (refine iteI (fun h => ?_) (fun h => ?_) <;> first | apply a.1 | apply b.1)) <;> clear a b A B))
          simp only [resultsR, resultsL, resultA, expK_int, expK_bool, expK_str, expK_agg, expK_own, expK_tsl, resK_some, go_sem, reduceIte, Nat.reduceAdd, Nat.reduceEqDiff, Nat.reduceLT, Nat.reduceLeDiff, and_self, ]
        · intro g G pre r post h1 hA
          have hpl : pre.length < recs.length := by rw [h1]; simp
          have lt1 : (pre.length : Int) < (recs.length : Int) := by omega
          have w1 := wrap_succ (n := pre.length) (by omega)
          have i0 := idx_sls hu (X := CX) ty22 ty31 rfl (n := pre.length) (row := encRc r) (k := .i64) (by rw [h1]; exact map_mid encRc pre r post)
          have hrm : r ∈ recs := by rw [h1]; simp
          have hr := hok r hrm
          have d1 := hr.sv.cell
          have hh1 : Hold (recs = pre ++ r :: post) := ⟨h1⟩
          have hyes : Hold (outR x r = true → R = 12) := ⟨fun e => by rw [hhE.out, if_pos (List.any_eq_true.2 ⟨r, hrm, e⟩)]⟩
          have hno : Hold (outR x r = false → (pre ++ [r]).any (outR x) = false) := ⟨fun e => by rw [List.any_append, hA]; simp [e]⟩
          have ho : outR x r = ((r.id == x.rc) && decide (r.len < x.sp.2)) := rfl
          clear h1 hpl hA hrm hhE
          cases e1 : (r.id == x.rc) with
          | false =>
            rw [e1] at ho
            have hh2 := hno.out ho
            have hhn : Hold ((pre ++ [r]).any (outR x) = false) := ⟨hh2⟩
            clear ho hh2 hyes hno
            simp only [garbA_cons, garbA_nil, setL_cons, setL_nil, List.set_cons_zero, List.set_cons_succ]
            repeat' (first | refine go1 ?_ | refine blockK_else rfl ?_ | ((first | refine wC fun A B a b => ?_ | refine wO fun A B a b => ?_); simp only [go_sem, reduceIte, Nat.reduceAdd, Nat.reduceEqDiff, Nat.reduceLT, Nat.reduceLeDiff, *, encRc, List.getElem?_cons_succ]; (first | apply a.1 | apply b.1 | (refine iteI (fun h => ?_) (fun h => ?_) <;> first | apply a.1 | apply b.1)) <;> clear a b A B))
            refine each_next hh1.out hhn.out ?_ ?_
            · ((try simp only [eraseA_cons, eraseA_nil, setL_cons, setL_nil, List.set_cons_zero, List.set_cons_succ]); all_goals (first | rfl | (simp only [len_snoc, len_mid, ints_len, List.length_map, List.length_append, List.length_cons, List.length_nil, Nat.zero_add]; first | done | rfl)))
            · first | exact ⟨[], (List.append_nil _).symm⟩ | exact ⟨_, rfl⟩ | (simp only [List.append_assoc, List.cons_append, List.nil_append]; exact ⟨_, rfl⟩)
          | true =>
            by_cases e2 : r.len < x.sp.2
            · have e : R = 12 := hyes.out (by rw [ho, e1]; simp [e2])
              rw [e]
              clear e ho hyes hno
              simp only [garbA_cons, garbA_nil, setL_cons, setL_nil, List.set_cons_zero, List.set_cons_succ]
              repeat' (first | refine go1 ?_ | refine blockK_else rfl ?_ | ((first | refine wC fun A B a b => ?_ | refine wO fun A B a b => ?_); simp only [go_sem, reduceIte, Nat.reduceAdd, Nat.reduceEqDiff, Nat.reduceLT, Nat.reduceLeDiff, *, encRc, List.getElem?_cons_succ]; (first | apply a.1 | apply b.1 | (refine iteI (fun h => ?_) (fun h => ?_) <;> first | apply a.1 | apply b.1)) <;> clear a b A B))
              simp only [resultsR, resultsL, resultA, expK_int, expK_bool, expK_str, expK_agg, expK_own, expK_tsl, resK_some, go_sem, reduceIte, Nat.reduceAdd, Nat.reduceEqDiff, Nat.reduceLT, Nat.reduceLeDiff, and_self, ]
            · have hhn : Hold ((pre ++ [r]).any (outR x) = false) := ⟨hno.out (by rw [ho, e1]; simp [e2])⟩
              clear ho hyes hno
              simp only [garbA_cons, garbA_nil, setL_cons, setL_nil, List.set_cons_zero, List.set_cons_succ]
              repeat' (first | refine go1 ?_ | refine blockK_else rfl ?_ | ((first | refine wC fun A B a b => ?_ | refine wO fun A B a b => ?_); simp only [go_sem, reduceIte, Nat.reduceAdd, Nat.reduceEqDiff, Nat.reduceLT, Nat.reduceLeDiff, *, encRc, List.getElem?_cons_succ]; (first | apply a.1 | apply b.1 | (refine iteI (fun h => ?_) (fun h => ?_) <;> first | apply a.1 | apply b.1)) <;> clear a b A B))
              refine each_next hh1.out hhn.out ?_ ?_
              · ((try simp only [eraseA_cons, eraseA_nil, setL_cons, setL_nil, List.set_cons_zero, List.set_cons_succ]); all_goals (first | rfl | (simp only [len_snoc, len_mid, ints_len, List.length_map, List.length_append, List.length_cons, List.length_nil, Nat.zero_add]; first | done | rfl)))
              · first | exact ⟨[], (List.append_nil _).symm⟩ | exact ⟨_, rfl⟩ | (simp only [List.append_assoc, List.cons_append, List.nil_append]; exact ⟨_, rfl⟩)

/- Rights: Check of the reference; what right is. -/
open Go.Proofs
attribute [local go_sem] br41 fz177 br28 br37 br38 br39 br40 fz144 fz146 fz147 fz149 fz151 ty38 ty40 br14 br16 fz86 fz87
set_option maxHeartbeats 4000000

theorem few_out {ps : List Psn} {gs : List Grp} {cs : List Con} {rs : List Ru} (h : fewRt ps gs cs rs = true) :
    ps.length ≤ 50 ∧ gs.length ≤ 25 ∧ cs.length ≤ 65 ∧ rs.length ≤ 65 ∧ (∀ p ∈ ps, p.name.size ≤ 100) ∧ (∀ g ∈ gs, g.name.size ≤ 100 ∧ g.people.length ≤ 50 ∧ g.subs.length ≤ 25) ∧ ∀ x ∈ rs, x.gl.length ≤ 25 := by
  simp only [fewRt, Bool.and_eq_true, decide_eq_true_eq, List.all_eq_true, fewG] at h
  obtain ⟨⟨⟨⟨⟨⟨h1, h2⟩, h3⟩, h4⟩, h5⟩, h6⟩, h7⟩ := h
  exact ⟨h1, h2, h3, h4, h5, fun g hg => ⟨(h6 g hg).1.1, (h6 g hg).1.2, (h6 g hg).2⟩, h7⟩
theorem RtV.gsok {pv gv cv rv : AV} {ps : List Psn} {gs : List Grp} {cs : List Con} {rs : List Ru} (h : RtV pv gv cv rv ps gs cs rs) (hf : fewRt ps gs cs rs = true) : GsOK gv gs :=
  ⟨h.g, h.go, h.gt, by have := (few_out hf).2.1; omega, fun g hg => by have := ((few_out hf).2.2.2.2.2.1 g hg).2.2; omega, fun g hg => by have := ((few_out hf).2.2.2.2.2.1 g hg).2.1; omega⟩

theorem chkR45 {pv gv cv rv u : AV} {ps : List Psn} {gs : List Grp} {cs : List Con} {rs : List Ru} {recs : List Rec} (h : RtV pv gv cv rv ps gs cs rs) (hu : SLs 5 (recs.map encRc) u) (hok : ∀ r ∈ recs, r.ok) (hl : recs.length ≤ 1000) (hf : fewRt ps gs cs rs = true)
    (qrec : EvV CX 38 [pv, u] (· = .int .i64 (recsF ps recs))) : EvV CX 16 [u, .agg [pv, gv, cv, rv]] (· = .int .i64 (chkRt ps recs gs cs rs)) := by
  obtain ⟨f1, f2, f3, f4, f5, f6, f7⟩ := few_out hf
  have hgs := h.gsok hf
  have c1 := h.p.cell
  have c2 := h.g.cell
  have c3 := h.c.cell
  have c4 := h.r.cell
  have s1 := h.p.snap
  have s2 := h.g.snap
  have s3 := h.c.snap
  have s4 := h.r.snap
  have su := hu.snap
  have q1 := (peopleR h.p (by omega) (fun p hp => by have := f5 p hp; omega)).rw
  have q2 := qrec.rw
  have q3 := (checkR hgs h.p (by omega) (fun g hg => by have := (f6 g hg).1; omega)).rw
  have q4 := (cnsR h.c h.p (by omega)).rw
  have hE : chkRt ps recs gs cs rs = if pplF ps = 0 then if recsF ps recs = 0 then if chkG ps gs = 0 then if cnsF ps cs = 0 then if rs.length ≤ 60 then rulesF recs gs rs else 11 else cnsF ps cs else chkG ps gs else recsF ps recs else pplF ps := rfl
  generalize pplF ps = e1 at *
  generalize recsF ps recs = e2 at *
  generalize chkG ps gs = e3 at *
  generalize cnsF ps cs = e4 at *
  clear qrec hgs
  obtain ⟨R, hR⟩ : ∃ R, chkRt ps recs gs cs rs = R := ⟨_, rfl⟩
  rw [hR] at hE ⊢
  clear hR
  by_cases k1 : e1 = 0
  rotate_left
  · rw [if_neg k1] at hE
    have b1 : (e1 == 0) = false := beq_false_of_ne k1
    rw [hE]
    clear hE k1
    refine EvV.walk rfl fn16 rfl nt16 rfl ?_
    simp only [List.length_cons, List.length_nil, List.cons_append, List.nil_append, Nat.reduceAdd, Nat.reduceSub, List.replicate]
    repeat' (first | refine go1 ?_ | refine blockK_else rfl ?_ | ((first | refine wC fun A B a b => ?_ | refine wO fun A B a b => ?_); simp only [go_sem, reduceIte, Nat.reduceAdd, Nat.reduceEqDiff, Nat.reduceLT, Nat.reduceLeDiff, *]; (first | apply a.1 | apply b.1 | (refine iteI (fun h => ?_) (fun h => ?_) <;> first | apply a.1 | apply b.1)) <;> clear a b A B))
    simp only [resultsR, resultsL, resultA, expK_int, expK_bool, expK_str, expK_agg, expK_own, expK_tsl, resK_some, go_sem, reduceIte, Nat.reduceAdd, Nat.reduceEqDiff, Nat.reduceLT, Nat.reduceLeDiff, and_self, ]
  subst k1
  rw [if_pos rfl] at hE
  by_cases k1 : e2 = 0
  rotate_left
  · rw [if_neg k1] at hE
    have b1 : (e2 == 0) = false := beq_false_of_ne k1
    rw [hE]
    clear hE k1
    refine EvV.walk rfl fn16 rfl nt16 rfl ?_
    simp only [List.length_cons, List.length_nil, List.cons_append, List.nil_append, Nat.reduceAdd, Nat.reduceSub, List.replicate]
    repeat' (first | refine go1 ?_ | refine blockK_else rfl ?_ | ((first | refine wC fun A B a b => ?_ | refine wO fun A B a b => ?_); simp only [go_sem, reduceIte, Nat.reduceAdd, Nat.reduceEqDiff, Nat.reduceLT, Nat.reduceLeDiff, *]; (first | apply a.1 | apply b.1 | (refine iteI (fun h => ?_) (fun h => ?_) <;> first | apply a.1 | apply b.1)) <;> clear a b A B))
    simp only [resultsR, resultsL, resultA, expK_int, expK_bool, expK_str, expK_agg, expK_own, expK_tsl, resK_some, go_sem, reduceIte, Nat.reduceAdd, Nat.reduceEqDiff, Nat.reduceLT, Nat.reduceLeDiff, and_self, ]
  subst k1
  rw [if_pos rfl] at hE
  by_cases k1 : e3 = 0
  rotate_left
  · rw [if_neg k1] at hE
    have b1 : (e3 == 0) = false := beq_false_of_ne k1
    rw [hE]
    clear hE k1
    refine EvV.walk rfl fn16 rfl nt16 rfl ?_
    simp only [List.length_cons, List.length_nil, List.cons_append, List.nil_append, Nat.reduceAdd, Nat.reduceSub, List.replicate]
    repeat' (first | refine go1 ?_ | refine blockK_else rfl ?_ | ((first | refine wC fun A B a b => ?_ | refine wO fun A B a b => ?_); simp only [go_sem, reduceIte, Nat.reduceAdd, Nat.reduceEqDiff, Nat.reduceLT, Nat.reduceLeDiff, *, List.getElem?_cons_succ]; (first | apply a.1 | apply b.1 | (refine iteI (fun h => ?_) (fun h => ?_) <;> first | apply a.1 | apply b.1)) <;> clear a b A B))
    simp only [resultsR, resultsL, resultA, expK_int, expK_bool, expK_str, expK_agg, expK_own, expK_tsl, resK_some, go_sem, reduceIte, Nat.reduceAdd, Nat.reduceEqDiff, Nat.reduceLT, Nat.reduceLeDiff, and_self, ]
  subst k1
  rw [if_pos rfl] at hE
  by_cases k1 : e4 = 0
  rotate_left
  · rw [if_neg k1] at hE
    have b1 : (e4 == 0) = false := beq_false_of_ne k1
    rw [hE]
    clear hE k1
    refine EvV.walk rfl fn16 rfl nt16 rfl ?_
    simp only [List.length_cons, List.length_nil, List.cons_append, List.nil_append, Nat.reduceAdd, Nat.reduceSub, List.replicate]
    repeat' (first | refine go1 ?_ | refine blockK_else rfl ?_ | ((first | refine wC fun A B a b => ?_ | refine wO fun A B a b => ?_); simp only [go_sem, reduceIte, Nat.reduceAdd, Nat.reduceEqDiff, Nat.reduceLT, Nat.reduceLeDiff, *, List.getElem?_cons_succ]; (first | apply a.1 | apply b.1 | (refine iteI (fun h => ?_) (fun h => ?_) <;> first | apply a.1 | apply b.1)) <;> clear a b A B))
    simp only [resultsR, resultsL, resultA, expK_int, expK_bool, expK_str, expK_agg, expK_own, expK_tsl, resK_some, go_sem, reduceIte, Nat.reduceAdd, Nat.reduceEqDiff, Nat.reduceLT, Nat.reduceLeDiff, and_self, ]
  subst k1
  rw [if_pos rfl] at hE
  by_cases k1 : 60 < (rs.length : Int)
  · rw [if_neg (by omega)] at hE
    rw [hE]
    clear hE
    refine EvV.walk rfl fn16 rfl nt16 rfl ?_
    simp only [List.length_cons, List.length_nil, List.cons_append, List.nil_append, Nat.reduceAdd, Nat.reduceSub, List.replicate]
    repeat' (first | refine go1 ?_ | refine blockK_else rfl ?_ | ((first | refine wC fun A B a b => ?_ | refine wO fun A B a b => ?_); simp only [go_sem, reduceIte, Nat.reduceAdd, Nat.reduceEqDiff, Nat.reduceLT, Nat.reduceLeDiff, *, lenK_sls h.r, List.length_map, List.getElem?_cons_succ]; (first | apply a.1 | apply b.1 | (refine iteI (fun h => ?_) (fun h => ?_) <;> first | apply a.1 | apply b.1)) <;> clear a b A B))
    simp only [resultsR, resultsL, resultA, expK_int, expK_bool, expK_str, expK_agg, expK_own, expK_tsl, resK_some, go_sem, reduceIte, Nat.reduceAdd, Nat.reduceEqDiff, Nat.reduceLT, Nat.reduceLeDiff, and_self, ]
  rw [if_pos (by omega)] at hE
  have hhE : Hold (R = rulesF recs gs rs) := ⟨hE⟩
  clear hE
  refine EvV.walk rfl fn16 rfl nt16 rfl ?_
  simp only [List.length_cons, List.length_nil, List.cons_append, List.nil_append, Nat.reduceAdd, Nat.reduceSub, List.replicate]
  repeat' (first | refine go1 ?_ | refine blockK_else rfl ?_ | ((first | refine wC fun A B a b => ?_ | refine wO fun A B a b => ?_); simp only [go_sem, reduceIte, Nat.reduceAdd, Nat.reduceEqDiff, Nat.reduceLT, Nat.reduceLeDiff, *, lenK_sls h.r, List.length_map, List.getElem?_cons_succ]; (first | apply a.1 | apply b.1 | (refine iteI (fun h => ?_) (fun h => ?_) <;> first | apply a.1 | apply b.1)) <;> clear a b A B))
  clear k1
  refine wpC_each [4, 5, 6, 44, 45, 46, 47, 48, 49, 50, 51, 52, 53, 54, 55, 56, 57] 43 rs (fun _ post => rulesF recs gs rs = rulesF recs gs post) ?_ ?_ ?_ ?_
  · rfl
  · rfl
  · intro g G hA
    have e : R = 0 := by rw [hhE.out, hA]; rfl
    rw [e]
    clear e hA hhE
    simp only [garbA_cons, garbA_nil, setL_cons, setL_nil, List.set_cons_zero, List.set_cons_succ]
    repeat' (first | refine go1 ?_ | refine blockK_else rfl ?_ | ((first | refine wC fun A B a b => ?_ | refine wO fun A B a b => ?_); simp only [go_sem, reduceIte, Nat.reduceAdd, Nat.reduceEqDiff, Nat.reduceLT, Nat.reduceLeDiff, *, Int.lt_irrefl]; (first | apply a.1 | apply b.1 | (refine iteI (fun h => ?_) (fun h => ?_) <;> first | apply a.1 | apply b.1)) <;> clear a b A B))
    simp only [resultsR, resultsL, resultA, expK_int, expK_bool, expK_str, expK_agg, expK_own, expK_tsl, resK_some, go_sem, reduceIte, Nat.reduceAdd, Nat.reduceEqDiff, Nat.reduceLT, Nat.reduceLeDiff, and_self, ]
  intro g G pre x post h1 hA
  have hpl : pre.length < rs.length := by rw [h1]; simp
  have lt1 : (pre.length : Int) < (rs.length : Int) := by omega
  have w1 := wrap_succ (n := pre.length) (by omega)
  have i0 := idx_sls h.r (X := CX) ty26 ty58 rfl (n := pre.length) (row := encRu x) (k := .i64) (by rw [h1]; exact map_mid encRu pre x post)
  have hxm : x ∈ rs := by rw [h1]; simp
  have hx := h.ro x hxm
  have d1 := hx.sl.cell
  have t1 := hx.sl.snap
  have q5 := (ruleR h hu hok hl (by omega) x hx (by have := f7 x hxm; omega)).rw
  have hh1 : Hold (rs = pre ++ x :: post) := ⟨h1⟩
  have hhA : Hold (rulesF recs gs rs = rulesF recs gs (x :: post)) := ⟨hA⟩
  clear h1 hpl hA hxm
  obtain ⟨e, he⟩ : ∃ e, ruleF recs gs x = e := ⟨_, rfl⟩
  rw [he] at q5
  have hhe : Hold (ruleF recs gs x = e) := ⟨he⟩
  clear he
  simp only [encRu] at i0 q5
  by_cases k2 : e = 0
  · subst k2
    simp only [garbA_cons, garbA_nil, setL_cons, setL_nil, List.set_cons_zero, List.set_cons_succ]
    repeat' (first | refine go1 ?_ | refine blockK_else rfl ?_ | ((first | refine wC fun A B a b => ?_ | refine wO fun A B a b => ?_); simp only [go_sem, reduceIte, Nat.reduceAdd, Nat.reduceEqDiff, Nat.reduceLT, Nat.reduceLeDiff, *, lenK_sls h.r, List.length_map, List.getElem?_cons_succ]; (first | apply a.1 | apply b.1 | (refine iteI (fun h => ?_) (fun h => ?_) <;> first | apply a.1 | apply b.1)) <;> clear a b A B))
    refine each_next hh1.out ?_ ?_ ?_
    · rw [hhA.out, rulesF, if_pos hhe.out]
    · ((try simp only [eraseA_cons, eraseA_nil, setL_cons, setL_nil, List.set_cons_zero, List.set_cons_succ]); all_goals (first | rfl | (simp only [len_snoc, len_mid, ints_len, List.length_map, List.length_append, List.length_cons, List.length_nil, Nat.zero_add]; first | done | rfl)))
    · first | exact ⟨[], (List.append_nil _).symm⟩ | exact ⟨_, rfl⟩ | (simp only [List.append_assoc, List.cons_append, List.nil_append]; exact ⟨_, rfl⟩)
  · have b1 : (e == 0) = false := beq_false_of_ne k2
    have eR : R = e := by rw [hhE.out, hhA.out, rulesF, hhe.out, if_neg k2]
    rw [eR]
    clear eR hhA hhe hhE k2
    simp only [garbA_cons, garbA_nil, setL_cons, setL_nil, List.set_cons_zero, List.set_cons_succ]
    repeat' (first | refine go1 ?_ | refine blockK_else rfl ?_ | ((first | refine wC fun A B a b => ?_ | refine wO fun A B a b => ?_); simp only [go_sem, reduceIte, Nat.reduceAdd, Nat.reduceEqDiff, Nat.reduceLT, Nat.reduceLeDiff, *, lenK_sls h.r, List.length_map, List.getElem?_cons_succ]; (first | apply a.1 | apply b.1 | (refine iteI (fun h => ?_) (fun h => ?_) <;> first | apply a.1 | apply b.1)) <;> clear a b A B))
    simp only [resultsR, resultsL, resultA, expK_int, expK_bool, expK_str, expK_agg, expK_own, expK_tsl, resK_some, go_sem, reduceIte, Nat.reduceAdd, Nat.reduceEqDiff, Nat.reduceLT, Nat.reduceLeDiff, and_self, ]

/- Rights: Base, as the program and the reference tell it. -/
open Go.Proofs
attribute [local go_sem] ty75 br66 allocK fz10 ty77 br75 br76 fz12 fz13 br42 fz1 br43 br44 fz158 fz159
set_option maxHeartbeats 4000000

/- Rights: the law Base. -/
open Go.Proofs
attribute [local go_sem] br13 br17 br18 br19 fz93 fz94 fz95
set_option maxHeartbeats 4000000

/- Rights: Check of the program; the law Checks. -/
open Go.Proofs
attribute [local go_sem] fz30 br48 br67 fz19 fz20 br32 br33 br34 br35 br36 fz0 fz21 fz22 fz23 fz24 br15 fz89 fz90 fz91 fz92
set_option maxHeartbeats 4000000

theorem rightP (a b : Int) : EvV CX 48 [.agg [.int .i64 a, .int .i64 b]] (· = .bool (rgt (a, b))) := by
  refine EvV.walk rfl fn48 rfl nt48 rfl ?_
  simp only [List.length_cons, List.length_nil, List.cons_append, List.nil_append, Nat.reduceAdd, Nat.reduceSub, List.replicate]
  repeat' (first | refine go1 ?_ | refine blockK_else rfl ?_ | ((first | refine wC fun A B a b => ?_ | refine wO fun A B a b => ?_); simp only [go_sem, reduceIte, Nat.reduceAdd, Nat.reduceEqDiff, Nat.reduceLT, Nat.reduceLeDiff, *]; (first | apply a.1 | apply b.1 | (refine iteI (fun h => ?_) (fun h => ?_) <;> first | apply a.1 | apply b.1)) <;> clear a b A B))
  all_goals simp only [resultsR, resultsL, resultA, expK_int, expK_bool, expK_str, expK_agg, expK_own, expK_tsl, resK_some, go_sem, reduceIte, Nat.reduceAdd, Nat.reduceEqDiff, Nat.reduceLT, Nat.reduceLeDiff, and_self, ]
  all_goals simp [rgt, *]

theorem cnsM {v w : AV} {cs : List Con} {ps : List Psn} (hv : SLs 4 (cs.map encCn) v) (hw : SLs 3 (ps.map encP) w) (hps : ps.length ≤ 1000) : EvV CX 35 [w, v] (· = .int .i64 (cnsF ps cs)) := by
  have hws := hw.snap
  have hvs := hv.snap
  by_cases k1 : 60 < (cs.length : Int)
  · have e : cnsF ps cs = 11 := by rw [cnsF, if_neg (by omega)]
    rw [e]
    clear e
    refine EvV.walk rfl fn35 rfl nt35 rfl ?_
    simp only [List.length_cons, List.length_nil, List.cons_append, List.nil_append, Nat.reduceAdd, Nat.reduceSub, List.replicate]
    repeat' (first | refine go1 ?_ | refine blockK_else rfl ?_ | ((first | refine wC fun A B a b => ?_ | refine wO fun A B a b => ?_); simp only [go_sem, reduceIte, Nat.reduceAdd, Nat.reduceEqDiff, Nat.reduceLT, Nat.reduceLeDiff, *, lenK_sls hv, List.length_map]; (first | apply a.1 | apply b.1 | (refine iteI (fun h => ?_) (fun h => ?_) <;> first | apply a.1 | apply b.1)) <;> clear a b A B))
    simp only [resultsR, resultsL, resultA, expK_int, expK_bool, expK_str, expK_agg, expK_own, expK_tsl, resK_some, go_sem, reduceIte, Nat.reduceAdd, Nat.reduceEqDiff, Nat.reduceLT, Nat.reduceLeDiff, and_self, ]
  have hE : cnsF ps cs = errCs ps 0 cs := by rw [cnsF, if_pos (by omega)]
  have hl : Hold (cs.length ≤ 1000) := ⟨by omega⟩
  rw [hE]
  clear hE
  obtain ⟨R, hR⟩ : ∃ R, errCs ps 0 cs = R := ⟨_, rfl⟩
  have hhR : Hold (errCs ps 0 cs = R) := ⟨hR⟩
  rw [hR]
  clear hR
  refine EvV.walk rfl fn35 rfl nt35 rfl ?_
  simp only [List.length_cons, List.length_nil, List.cons_append, List.nil_append, Nat.reduceAdd, Nat.reduceSub, List.replicate]
  repeat' (first | refine go1 ?_ | refine blockK_else rfl ?_ | ((first | refine wC fun A B a b => ?_ | refine wO fun A B a b => ?_); simp only [go_sem, reduceIte, Nat.reduceAdd, Nat.reduceEqDiff, Nat.reduceLT, Nat.reduceLeDiff, *, lenK_sls hv, List.length_map]; (first | apply a.1 | apply b.1 | (refine iteI (fun h => ?_) (fun h => ?_) <;> first | apply a.1 | apply b.1)) <;> clear a b A B))
  clear k1
  refine wpC_eachE [4, 7, 8, 9, 16, 17, 18, 19, 20, 21, 22, 23, 24, 25, 26, 27, 28, 29, 30, 31, 32, 33, 34, 35, 36, 37, 38, 39, 40, 41, 42, 43, 44, 45, 46, 47, 48, 49, 50, 51, 52, 53, 54, 55, 56, 57, 58] 15 (fun pre => [(5, .int .i64 (lastD pre))]) cs (fun pre post => errCs ps 0 cs = errCs ps (lastD pre) post) ?_ ?_ ?_ ?_
  · rfl
  · ((try simp only [eraseA_cons, eraseA_nil, setL_cons, setL_nil, List.set_cons_zero, List.set_cons_succ]); all_goals (first | rfl | (simp only [len_snoc, len_mid, ints_len, List.length_map, List.length_append, List.length_cons, List.length_nil, Nat.zero_add]; first | done | rfl)))
  · intro g G hE
    have e : R = 0 := by rw [← hhR.out, hE]; rfl
    rw [e]
    clear e hE hhR
    simp only [garbA_cons, garbA_nil, setL_cons, setL_nil, List.set_cons_zero, List.set_cons_succ]
    repeat' (first | refine go1 ?_ | refine blockK_else rfl ?_ | ((first | refine wC fun A B a b => ?_ | refine wO fun A B a b => ?_); simp only [go_sem, reduceIte, Nat.reduceAdd, Nat.reduceEqDiff, Nat.reduceLT, Nat.reduceLeDiff, *, Int.lt_irrefl]; (first | apply a.1 | apply b.1 | (refine iteI (fun h => ?_) (fun h => ?_) <;> first | apply a.1 | apply b.1)) <;> clear a b A B))
    simp only [resultsR, resultsL, resultA, expK_int, expK_bool, expK_str, expK_agg, expK_own, expK_tsl, resK_some, go_sem, reduceIte, Nat.reduceAdd, Nat.reduceEqDiff, Nat.reduceLT, Nat.reduceLeDiff, and_self, ]
  intro g G pre x post h1 hE
  have hpl : pre.length < cs.length := by rw [h1]; simp
  have lt1 : (pre.length : Int) < (cs.length : Int) := by omega
  have w1 := wrap_succ (n := pre.length) (by have := hl.out; omega)
  have i0 := idx_sls hv (X := CX) ty25 ty53 rfl (n := pre.length) (row := encCn x) (k := .i64) (by rw [h1]; exact map_mid encCn pre x post)
  have q := (personE w ps x.person hw (by omega)).rw
  have hh1 : Hold (cs = pre ++ x :: post) := ⟨h1⟩
  have hls : Hold (lastD (pre ++ [x]) = x.day) := ⟨lastD_snoc pre x⟩
  have hs : errCs ps 0 cs = if errC ps (lastD pre) x = 0 then errCs ps x.day post else errC ps (lastD pre) x := by rw [hE, errCs]
  clear h1 hE hpl
  generalize lastD pre = d at *
  have hR2 : ∀ e, errC ps d x = e → e ≠ 0 → R = e := fun e he hne => by rw [← hhR.out, hs, he, if_neg hne]
  have hhs : Hold (errC ps d x = 0 → errCs ps 0 cs = errCs ps (lastD (pre ++ [x])) post) := ⟨fun he => by rw [hs, if_pos he, hls.out]⟩
  clear hs hhR
  cases k1 : isP ps x.person with
  | false =>
    have e : R = 9 := hR2 9 (by simp [errC, k1]) (by omega)
    rw [k1] at q
    rw [e]
    clear e hhs k1 hR2
    simp only [garbA_cons, garbA_nil, setL_cons, setL_nil, List.set_cons_zero, List.set_cons_succ]
    repeat' (first | refine go1 ?_ | refine blockK_else rfl ?_ | ((first | refine wC fun A B a b => ?_ | refine wO fun A B a b => ?_); simp only [go_sem, reduceIte, Nat.reduceAdd, Nat.reduceEqDiff, Nat.reduceLT, Nat.reduceLeDiff, *, encCn, ↓adoptCn, encP, List.getElem?_cons_succ, getElem?_len, getElem?_lenAdd, set_len, set_lenAdd, List.append_assoc, List.length_append, List.cons_append]; (first | apply a.1 | apply b.1 | (refine iteI (fun h => ?_) (fun h => ?_) <;> first | apply a.1 | apply b.1)) <;> clear a b A B))
    simp only [resultsR, resultsL, resultA, expK_int, expK_bool, expK_str, expK_agg, expK_own, expK_tsl, resK_some, go_sem, reduceIte, Nat.reduceAdd, Nat.reduceEqDiff, Nat.reduceLT, Nat.reduceLeDiff, and_self, ]
  | true =>
  rw [k1] at q
  by_cases k2 : x.rc < 0 ∨ 1099511627776 < x.rc
  · have e : R = 2 := hR2 2 (by rw [errC, if_pos k1, if_neg (by omega)]) (by omega)
    rw [e]
    clear e hhs k1 hR2
    rcases k2 with k2 | k2
    · simp only [garbA_cons, garbA_nil, setL_cons, setL_nil, List.set_cons_zero, List.set_cons_succ]
      repeat' (first | refine go1 ?_ | refine blockK_else rfl ?_ | ((first | refine wC fun A B a b => ?_ | refine wO fun A B a b => ?_); simp only [go_sem, reduceIte, Nat.reduceAdd, Nat.reduceEqDiff, Nat.reduceLT, Nat.reduceLeDiff, *, encCn, ↓adoptCn, encP, List.getElem?_cons_succ, getElem?_len, getElem?_lenAdd, set_len, set_lenAdd, List.append_assoc, List.length_append, List.cons_append]; (first | apply a.1 | apply b.1 | (refine iteI (fun h => ?_) (fun h => ?_) <;> first | apply a.1 | apply b.1)) <;> clear a b A B))
      simp only [resultsR, resultsL, resultA, expK_int, expK_bool, expK_str, expK_agg, expK_own, expK_tsl, resK_some, go_sem, reduceIte, Nat.reduceAdd, Nat.reduceEqDiff, Nat.reduceLT, Nat.reduceLeDiff, and_self, ]
    · have k3 : ¬ x.rc < 0 := by omega
      simp only [garbA_cons, garbA_nil, setL_cons, setL_nil, List.set_cons_zero, List.set_cons_succ]
      repeat' (first | refine go1 ?_ | refine blockK_else rfl ?_ | ((first | refine wC fun A B a b => ?_ | refine wO fun A B a b => ?_); simp only [go_sem, reduceIte, Nat.reduceAdd, Nat.reduceEqDiff, Nat.reduceLT, Nat.reduceLeDiff, *, encCn, ↓adoptCn, encP, List.getElem?_cons_succ, getElem?_len, getElem?_lenAdd, set_len, set_lenAdd, List.append_assoc, List.length_append, List.cons_append]; (first | apply a.1 | apply b.1 | (refine iteI (fun h => ?_) (fun h => ?_) <;> first | apply a.1 | apply b.1)) <;> clear a b A B))
      simp only [resultsR, resultsL, resultA, expK_int, expK_bool, expK_str, expK_agg, expK_own, expK_tsl, resK_some, go_sem, reduceIte, Nat.reduceAdd, Nat.reduceEqDiff, Nat.reduceLT, Nat.reduceLeDiff, and_self, ]
  have k2a : ¬ x.rc < 0 := by omega
  have k2b : ¬ 1099511627776 < x.rc := by omega
  by_cases k3 : x.day < 1 ∨ 109573 < x.day
  · have e : R = 12 := hR2 12 (by rw [errC, if_pos k1, if_pos (by omega), if_neg (by omega)]) (by omega)
    rw [e]
    clear e hhs k1 hR2 k2
    rcases k3 with k3 | k3
    · simp only [garbA_cons, garbA_nil, setL_cons, setL_nil, List.set_cons_zero, List.set_cons_succ]
      repeat' (first | refine go1 ?_ | refine blockK_else rfl ?_ | ((first | refine wC fun A B a b => ?_ | refine wO fun A B a b => ?_); simp only [go_sem, reduceIte, Nat.reduceAdd, Nat.reduceEqDiff, Nat.reduceLT, Nat.reduceLeDiff, *, encCn, ↓adoptCn, encP, List.getElem?_cons_succ, getElem?_len, getElem?_lenAdd, set_len, set_lenAdd, List.append_assoc, List.length_append, List.cons_append]; (first | apply a.1 | apply b.1 | (refine iteI (fun h => ?_) (fun h => ?_) <;> first | apply a.1 | apply b.1)) <;> clear a b A B))
      simp only [resultsR, resultsL, resultA, expK_int, expK_bool, expK_str, expK_agg, expK_own, expK_tsl, resK_some, go_sem, reduceIte, Nat.reduceAdd, Nat.reduceEqDiff, Nat.reduceLT, Nat.reduceLeDiff, and_self, ]
    · have k4 : ¬ x.day < 1 := by omega
      simp only [garbA_cons, garbA_nil, setL_cons, setL_nil, List.set_cons_zero, List.set_cons_succ]
      repeat' (first | refine go1 ?_ | refine blockK_else rfl ?_ | ((first | refine wC fun A B a b => ?_ | refine wO fun A B a b => ?_); simp only [go_sem, reduceIte, Nat.reduceAdd, Nat.reduceEqDiff, Nat.reduceLT, Nat.reduceLeDiff, *, encCn, ↓adoptCn, encP, List.getElem?_cons_succ, getElem?_len, getElem?_lenAdd, set_len, set_lenAdd, List.append_assoc, List.length_append, List.cons_append]; (first | apply a.1 | apply b.1 | (refine iteI (fun h => ?_) (fun h => ?_) <;> first | apply a.1 | apply b.1)) <;> clear a b A B))
      simp only [resultsR, resultsL, resultA, expK_int, expK_bool, expK_str, expK_agg, expK_own, expK_tsl, resK_some, go_sem, reduceIte, Nat.reduceAdd, Nat.reduceEqDiff, Nat.reduceLT, Nat.reduceLeDiff, and_self, ]
  have k3a : ¬ x.day < 1 := by omega
  have k3b : ¬ 109573 < x.day := by omega
  by_cases k4 : x.kind < 0 ∨ 2 < x.kind
  · have e : R = 14 := hR2 14 (by rw [errC, if_pos k1, if_pos (by omega), if_pos (by omega), if_neg (by omega)]) (by omega)
    rw [e]
    clear e hhs k1 hR2 k2 k3
    rcases k4 with k4 | k4
    · simp only [garbA_cons, garbA_nil, setL_cons, setL_nil, List.set_cons_zero, List.set_cons_succ]
      repeat' (first | refine go1 ?_ | refine blockK_else rfl ?_ | ((first | refine wC fun A B a b => ?_ | refine wO fun A B a b => ?_); simp only [go_sem, reduceIte, Nat.reduceAdd, Nat.reduceEqDiff, Nat.reduceLT, Nat.reduceLeDiff, *, encCn, ↓adoptCn, encP, List.getElem?_cons_succ, getElem?_len, getElem?_lenAdd, set_len, set_lenAdd, List.append_assoc, List.length_append, List.cons_append]; (first | apply a.1 | apply b.1 | (refine iteI (fun h => ?_) (fun h => ?_) <;> first | apply a.1 | apply b.1)) <;> clear a b A B))
      simp only [resultsR, resultsL, resultA, expK_int, expK_bool, expK_str, expK_agg, expK_own, expK_tsl, resK_some, go_sem, reduceIte, Nat.reduceAdd, Nat.reduceEqDiff, Nat.reduceLT, Nat.reduceLeDiff, and_self, ]
    · have k5 : ¬ x.kind < 0 := by omega
      simp only [garbA_cons, garbA_nil, setL_cons, setL_nil, List.set_cons_zero, List.set_cons_succ]
      repeat' (first | refine go1 ?_ | refine blockK_else rfl ?_ | ((first | refine wC fun A B a b => ?_ | refine wO fun A B a b => ?_); simp only [go_sem, reduceIte, Nat.reduceAdd, Nat.reduceEqDiff, Nat.reduceLT, Nat.reduceLeDiff, *, encCn, ↓adoptCn, encP, List.getElem?_cons_succ, getElem?_len, getElem?_lenAdd, set_len, set_lenAdd, List.append_assoc, List.length_append, List.cons_append]; (first | apply a.1 | apply b.1 | (refine iteI (fun h => ?_) (fun h => ?_) <;> first | apply a.1 | apply b.1)) <;> clear a b A B))
      simp only [resultsR, resultsL, resultA, expK_int, expK_bool, expK_str, expK_agg, expK_own, expK_tsl, resK_some, go_sem, reduceIte, Nat.reduceAdd, Nat.reduceEqDiff, Nat.reduceLT, Nat.reduceLeDiff, and_self, ]
  have k4a : ¬ x.kind < 0 := by omega
  have k4b : ¬ 2 < x.kind := by omega
  by_cases k5 : x.day < d
  · have e : R = 10 := hR2 10 (by rw [errC, if_pos k1, if_pos (by omega), if_pos (by omega), if_pos (by omega), if_neg (by omega)]) (by omega)
    rw [e]
    clear e hhs k1 hR2 k2 k3 k4
    simp only [garbA_cons, garbA_nil, setL_cons, setL_nil, List.set_cons_zero, List.set_cons_succ]
    repeat' (first | refine go1 ?_ | refine blockK_else rfl ?_ | ((first | refine wC fun A B a b => ?_ | refine wO fun A B a b => ?_); simp only [go_sem, reduceIte, Nat.reduceAdd, Nat.reduceEqDiff, Nat.reduceLT, Nat.reduceLeDiff, *, encCn, ↓adoptCn, encP, List.getElem?_cons_succ, getElem?_len, getElem?_lenAdd, set_len, set_lenAdd, List.append_assoc, List.length_append, List.cons_append]; (first | apply a.1 | apply b.1 | (refine iteI (fun h => ?_) (fun h => ?_) <;> first | apply a.1 | apply b.1)) <;> clear a b A B))
    simp only [resultsR, resultsL, resultA, expK_int, expK_bool, expK_str, expK_agg, expK_own, expK_tsl, resK_some, go_sem, reduceIte, Nat.reduceAdd, Nat.reduceEqDiff, Nat.reduceLT, Nat.reduceLeDiff, and_self, ]
  · have hhE : Hold (errCs ps 0 cs = errCs ps (lastD (pre ++ [x])) post) := ⟨hhs.out (by rw [errC, if_pos k1, if_pos (by omega), if_pos (by omega), if_pos (by omega), if_pos (by omega)])⟩
    clear hhs k1 hR2 k2 k3 k4
    simp only [garbA_cons, garbA_nil, setL_cons, setL_nil, List.set_cons_zero, List.set_cons_succ]
    repeat' (first | refine go1 ?_ | refine blockK_else rfl ?_ | ((first | refine wC fun A B a b => ?_ | refine wO fun A B a b => ?_); simp only [go_sem, reduceIte, Nat.reduceAdd, Nat.reduceEqDiff, Nat.reduceLT, Nat.reduceLeDiff, *, encCn, ↓adoptCn, encP, List.getElem?_cons_succ, getElem?_len, getElem?_lenAdd, set_len, set_lenAdd, List.append_assoc, List.length_append, List.cons_append]; (first | apply a.1 | apply b.1 | (refine iteI (fun h => ?_) (fun h => ?_) <;> first | apply a.1 | apply b.1)) <;> clear a b A B))
    refine each_next hh1.out hhE.out ?_ ?_
    · ((try simp only [eraseA_cons, eraseA_nil, setL_cons, setL_nil, List.set_cons_zero, List.set_cons_succ]); all_goals (first | rfl | (simp only [len_snoc, ints_len, List.length_map, hls.out]; done) | (simp only [len_snoc, len_mid, ints_len, List.length_map, List.length_append, List.length_cons, List.length_nil, Nat.zero_add, hls.out]; first | done | rfl)))
    · first | exact ⟨[], (List.append_nil _).symm⟩ | exact ⟨_, rfl⟩ | (simp only [List.append_assoc, List.cons_append, List.nil_append]; exact ⟨_, rfl⟩)

theorem ruleM {pv gv cv rv u : AV} {ps : List Psn} {gs : List Grp} {cs : List Con} {rs : List Ru} {recs : List Rec} (h : RtV pv gv cv rv ps gs cs rs) (hu : SLs 5 (recs.map encRc) u) (hok : ∀ r ∈ recs, r.ok) (hl : recs.length ≤ 1000) (hgl : gs.length ≤ 1000) (hlen : ∀ r ∈ recs, 0 ≤ r.len) (x : Ru) (hx : x.ok) (hxl : x.gl.length ≤ 1000) :
    EvV CX 36 [u, .agg [pv, gv, cv, rv], .agg (encRu x)] (· = .int .i64 (ruleF recs gs x)) := by
  have c1 := h.p.cell
  have c2 := h.g.cell
  have c3 := h.c.cell
  have c4 := h.r.cell
  have c5 := hx.sl.cell
  have s2 := h.g.snap
  have s5 := hx.sl.snap
  have su := hu.snap
  have qr := (rightP x.sp.1 x.sp.2).rw
  have qc := (check13 gv x.gv gs x.lv x.un x.gl h.g h.go hx.sl (by omega) (by omega)).rw
  have hE : ruleF recs gs x = if idOK x.rc = true then if spOK x.sp = true then if recs.any (outR x) = true then 12 else checkF gs x.lv x.gl x.un else 12 else 2 := rfl
  have hS : spOK x.sp = (((x.sp.1 == 0) && (x.sp.2 == 0)) || rgt (x.sp.1, x.sp.2)) := rfl
  rcases idOK_cases x.rc with ⟨k1, k1a, k1b⟩ | ⟨k1, k1a⟩ | ⟨k1, k1a, k1b⟩
  rotate_left
  · rw [k1] at hE
    rw [hE]
    clear hE hS k1
    refine EvV.walk rfl fn36 rfl nt36 rfl ?_
    simp only [List.length_cons, List.length_nil, List.cons_append, List.nil_append, Nat.reduceAdd, Nat.reduceSub, List.replicate]
    repeat' (first | refine go1 ?_ | refine blockK_else rfl ?_ | ((first | refine wC fun A B a b => ?_ | refine wO fun A B a b => ?_); simp only [go_sem, reduceIte, Nat.reduceAdd, Nat.reduceEqDiff, Nat.reduceLT, Nat.reduceLeDiff, *, encRu]; (first | apply a.1 | apply b.1 | (refine iteI (fun h => ?_) (fun h => ?_) <;> first | apply a.1 | apply b.1)) <;> clear a b A B))
    simp only [resultsR, resultsL, resultA, expK_int, expK_bool, expK_str, expK_agg, expK_own, expK_tsl, resK_some, go_sem, reduceIte, Nat.reduceAdd, Nat.reduceEqDiff, Nat.reduceLT, Nat.reduceLeDiff, and_self, ]
  · rw [k1] at hE
    rw [hE]
    clear hE hS k1
    refine EvV.walk rfl fn36 rfl nt36 rfl ?_
    simp only [List.length_cons, List.length_nil, List.cons_append, List.nil_append, Nat.reduceAdd, Nat.reduceSub, List.replicate]
    repeat' (first | refine go1 ?_ | refine blockK_else rfl ?_ | ((first | refine wC fun A B a b => ?_ | refine wO fun A B a b => ?_); simp only [go_sem, reduceIte, Nat.reduceAdd, Nat.reduceEqDiff, Nat.reduceLT, Nat.reduceLeDiff, *, encRu, List.getElem?_cons_succ]; (first | apply a.1 | apply b.1 | (refine iteI (fun h => ?_) (fun h => ?_) <;> first | apply a.1 | apply b.1)) <;> clear a b A B))
    simp only [resultsR, resultsL, resultA, expK_int, expK_bool, expK_str, expK_agg, expK_own, expK_tsl, resK_some, go_sem, reduceIte, Nat.reduceAdd, Nat.reduceEqDiff, Nat.reduceLT, Nat.reduceLeDiff, and_self, ]
  rw [k1, if_pos rfl] at hE
  clear k1
  have ways : ((x.sp.1 == 0) = true ∧ (x.sp.2 == 0) = true) ∨ ((x.sp.1 == 0) = true ∧ (x.sp.2 == 0) = false) ∨ (x.sp.1 == 0) = false := by
    cases (x.sp.1 == 0) <;> cases (x.sp.2 == 0) <;> simp
  rcases ways with ⟨b1, b2⟩ | ways
  · have hz : recs.any (outR x) = false := by
      rw [List.any_eq_false]
      intro r hr
      have e2 : x.sp.2 = 0 := by simpa using b2
      have := hlen r hr
      simp only [outR, Bool.and_eq_true, decide_eq_true_eq, not_and]
      intro _; omega
    have e : ruleF recs gs x = checkF gs x.lv x.gl x.un := by rw [hE, hS, b1, b2, hz]; rfl
    rw [e]
    clear e hE hS hz
    refine EvV.walk rfl fn36 rfl nt36 rfl ?_
    simp only [List.length_cons, List.length_nil, List.cons_append, List.nil_append, Nat.reduceAdd, Nat.reduceSub, List.replicate]
    repeat' (first | refine go1 ?_ | refine blockK_else rfl ?_ | ((first | refine wC fun A B a b => ?_ | refine wO fun A B a b => ?_); simp only [go_sem, reduceIte, Nat.reduceAdd, Nat.reduceEqDiff, Nat.reduceLT, Nat.reduceLeDiff, *, encRu, List.getElem?_cons_succ]; (first | apply a.1 | apply b.1 | (refine iteI (fun h => ?_) (fun h => ?_) <;> first | apply a.1 | apply b.1)) <;> clear a b A B))
    simp only [resultsR, resultsL, resultA, expK_int, expK_bool, expK_str, expK_agg, expK_own, expK_tsl, resK_some, go_sem, reduceIte, Nat.reduceAdd, Nat.reduceEqDiff, Nat.reduceLT, Nat.reduceLeDiff, and_self, ]
  have hS2 : spOK x.sp = rgt (x.sp.1, x.sp.2) := by
    rw [hS]
    rcases ways with ⟨b1, b2⟩ | b1
    · rw [b1, b2]; rfl
    · rw [b1]; rfl
  rw [hS2] at hE
  clear hS hS2
  cases k3 : rgt (x.sp.1, x.sp.2) with
  | false =>
    rw [k3] at hE qr
    rw [hE]
    clear hE k3
    rcases ways with ⟨b1, b2⟩ | b1
    all_goals
      refine EvV.walk rfl fn36 rfl nt36 rfl ?_
      simp only [List.length_cons, List.length_nil, List.cons_append, List.nil_append, Nat.reduceAdd, Nat.reduceSub, List.replicate]
      repeat' (first | refine go1 ?_ | refine blockK_else rfl ?_ | ((first | refine wC fun A B a b => ?_ | refine wO fun A B a b => ?_); simp only [go_sem, reduceIte, Nat.reduceAdd, Nat.reduceEqDiff, Nat.reduceLT, Nat.reduceLeDiff, *, encRu, List.getElem?_cons_succ]; (first | apply a.1 | apply b.1 | (refine iteI (fun h => ?_) (fun h => ?_) <;> first | apply a.1 | apply b.1)) <;> clear a b A B))
      simp only [resultsR, resultsL, resultA, expK_int, expK_bool, expK_str, expK_agg, expK_own, expK_tsl, resK_some, go_sem, reduceIte, Nat.reduceAdd, Nat.reduceEqDiff, Nat.reduceLT, Nat.reduceLeDiff, and_self, ]
  | true =>
    rw [k3, if_pos rfl] at hE
    rw [k3] at qr
    obtain ⟨R, hR⟩ : ∃ R, ruleF recs gs x = R := ⟨_, rfl⟩
    have hhE : Hold (R = if recs.any (outR x) = true then 12 else checkF gs x.lv x.gl x.un) := ⟨by rw [← hR, hE]⟩
    have hhok : Hold (∀ r ∈ recs, r.ok) := ⟨hok⟩
    rw [hR]
    clear hE hR k3 hlen hok
    rcases ways with ⟨b1, b2⟩ | b1
    all_goals
      refine EvV.walk rfl fn36 rfl nt36 rfl ?_
      simp only [List.length_cons, List.length_nil, List.cons_append, List.nil_append, Nat.reduceAdd, Nat.reduceSub, List.replicate]
      repeat' (first | refine go1 ?_ | refine blockK_else rfl ?_ | ((first | refine wC fun A B a b => ?_ | refine wO fun A B a b => ?_); simp only [go_sem, reduceIte, Nat.reduceAdd, Nat.reduceEqDiff, Nat.reduceLT, Nat.reduceLeDiff, *, encRu, lenK_sls hu, List.length_map, List.getElem?_cons_succ]; (first | apply a.1 | apply b.1 | (refine iteI (fun h => ?_) (fun h => ?_) <;> first | apply a.1 | apply b.1)) <;> clear a b A B))
      refine wpC_each [6, 8, 28, 29, 30, 31, 32, 33, 34, 35, 36, 37, 38, 39, 40, 41, 42, 43, 44] 27 recs (fun pre _ => pre.any (outR x) = false) ?_ ?_ ?_ ?_
      · rfl
      · rfl
      · intro g G hA
        have e : R = checkF gs x.lv x.gl x.un := by rw [hhE.out, hA]; rfl
        rw [e]
        clear e hA hhE
        simp only [garbA_cons, garbA_nil, setL_cons, setL_nil, List.set_cons_zero, List.set_cons_succ]
        repeat' (first | refine go1 ?_ | refine blockK_else rfl ?_ | ((first | refine wC fun A B a b => ?_ | refine wO fun A B a b => ?_); simp only [go_sem, reduceIte, Nat.reduceAdd, Nat.reduceEqDiff, Nat.reduceLT, Nat.reduceLeDiff, *, Int.lt_irrefl, List.getElem?_cons_succ]; (first | apply a.1 | apply b.1 | (refine iteI (fun h => ?_) (fun h => ?_) <;> first | apply a.1 | apply b.1)) <;> clear a b A B))
        simp only [resultsR, resultsL, resultA, expK_int, expK_bool, expK_str, expK_agg, expK_own, expK_tsl, resK_some, go_sem, reduceIte, Nat.reduceAdd, Nat.reduceEqDiff, Nat.reduceLT, Nat.reduceLeDiff, and_self, ]
      · intro g G pre r post h1 hA
        have hpl : pre.length < recs.length := by rw [h1]; simp
        have lt1 : (pre.length : Int) < (recs.length : Int) := by omega
        have w1 := wrap_succ (n := pre.length) (by omega)
        have i0 := idx_sls hu (X := CX) ty22 ty31 rfl (n := pre.length) (row := encRc r) (k := .i64) (by rw [h1]; exact map_mid encRc pre r post)
        have hrm : r ∈ recs := by rw [h1]; simp
        have hr := hhok.out r hrm
        have d1 := hr.sv.cell
        have hh1 : Hold (recs = pre ++ r :: post) := ⟨h1⟩
        have hyes : Hold (outR x r = true → R = 12) := ⟨fun e => by rw [hhE.out, if_pos (List.any_eq_true.2 ⟨r, hrm, e⟩)]⟩
        have hno : Hold (outR x r = false → (pre ++ [r]).any (outR x) = false) := ⟨fun e => by rw [List.any_append, hA]; simp [e]⟩
        have ho : outR x r = ((r.id == x.rc) && decide (r.len < x.sp.2)) := rfl
        clear h1 hpl hA hrm hhE
        cases e1 : (r.id == x.rc) with
        | false =>
          rw [e1] at ho
          have hhn : Hold ((pre ++ [r]).any (outR x) = false) := ⟨hno.out ho⟩
          clear ho hyes hno
          simp only [garbA_cons, garbA_nil, setL_cons, setL_nil, List.set_cons_zero, List.set_cons_succ]
          repeat' (first | refine go1 ?_ | refine blockK_else rfl ?_ | ((first | refine wC fun A B a b => ?_ | refine wO fun A B a b => ?_); simp only [go_sem, reduceIte, Nat.reduceAdd, Nat.reduceEqDiff, Nat.reduceLT, Nat.reduceLeDiff, *, encRc, List.getElem?_cons_succ, getElem?_len, getElem?_lenAdd, set_len, set_lenAdd, List.append_assoc, List.length_append, List.cons_append]; (first | apply a.1 | apply b.1 | (refine iteI (fun h => ?_) (fun h => ?_) <;> first | apply a.1 | apply b.1)) <;> clear a b A B))
          refine each_next hh1.out hhn.out ?_ ?_
          · ((try simp only [eraseA_cons, eraseA_nil, setL_cons, setL_nil, List.set_cons_zero, List.set_cons_succ]); all_goals (first | rfl | (simp only [len_snoc, len_mid, ints_len, List.length_map, List.length_append, List.length_cons, List.length_nil, Nat.zero_add]; first | done | rfl)))
          · first | exact ⟨[], (List.append_nil _).symm⟩ | exact ⟨_, rfl⟩ | (simp only [List.append_assoc, List.cons_append, List.nil_append]; exact ⟨_, rfl⟩)
        | true =>
          by_cases e2 : r.len < x.sp.2
          · have e : R = 12 := hyes.out (by rw [ho, e1]; simp [e2])
            rw [e]
            clear e ho hyes hno
            simp only [garbA_cons, garbA_nil, setL_cons, setL_nil, List.set_cons_zero, List.set_cons_succ]
            repeat' (first | refine go1 ?_ | refine blockK_else rfl ?_ | ((first | refine wC fun A B a b => ?_ | refine wO fun A B a b => ?_); simp only [go_sem, reduceIte, Nat.reduceAdd, Nat.reduceEqDiff, Nat.reduceLT, Nat.reduceLeDiff, *, encRc, List.getElem?_cons_succ, getElem?_len, getElem?_lenAdd, set_len, set_lenAdd, List.append_assoc, List.length_append, List.cons_append]; (first | apply a.1 | apply b.1 | (refine iteI (fun h => ?_) (fun h => ?_) <;> first | apply a.1 | apply b.1)) <;> clear a b A B))
            simp only [resultsR, resultsL, resultA, expK_int, expK_bool, expK_str, expK_agg, expK_own, expK_tsl, resK_some, go_sem, reduceIte, Nat.reduceAdd, Nat.reduceEqDiff, Nat.reduceLT, Nat.reduceLeDiff, and_self, ]
          · have hhn : Hold ((pre ++ [r]).any (outR x) = false) := ⟨hno.out (by rw [ho, e1]; simp [e2])⟩
            clear ho hyes hno
            simp only [garbA_cons, garbA_nil, setL_cons, setL_nil, List.set_cons_zero, List.set_cons_succ]
            repeat' (first | refine go1 ?_ | refine blockK_else rfl ?_ | ((first | refine wC fun A B a b => ?_ | refine wO fun A B a b => ?_); simp only [go_sem, reduceIte, Nat.reduceAdd, Nat.reduceEqDiff, Nat.reduceLT, Nat.reduceLeDiff, *, encRc, List.getElem?_cons_succ, getElem?_len, getElem?_lenAdd, set_len, set_lenAdd, List.append_assoc, List.length_append, List.cons_append]; (first | apply a.1 | apply b.1 | (refine iteI (fun h => ?_) (fun h => ?_) <;> first | apply a.1 | apply b.1)) <;> clear a b A B))
            refine each_next hh1.out hhn.out ?_ ?_
            · ((try simp only [eraseA_cons, eraseA_nil, setL_cons, setL_nil, List.set_cons_zero, List.set_cons_succ]); all_goals (first | rfl | (simp only [len_snoc, len_mid, ints_len, List.length_map, List.length_append, List.length_cons, List.length_nil, Nat.zero_add]; first | done | rfl)))
            · first | exact ⟨[], (List.append_nil _).symm⟩ | exact ⟨_, rfl⟩ | (simp only [List.append_assoc, List.cons_append, List.nil_append]; exact ⟨_, rfl⟩)

theorem chkC_len {ps : List Psn} {r : Rec} (h : chkC ps r = 0) : 0 ≤ r.len := by
  unfold chkC at h
  split at h
  · split at h
    · split at h
      · rename_i ht
        simp only [timeOK, Bool.and_eq_true, decide_eq_true_eq] at ht
        omega
      · cases h
    · cases h
  · cases h
theorem rcF_len (ps : List Psn) : ∀ (l pre : List Rec), rcF ps pre l = 0 → ∀ r ∈ l, 0 ≤ r.len
  | [], _, _, r, hr => by cases hr
  | x :: l, pre, h, r, hr => by
    rw [rcF] at h
    by_cases k1 : chkC ps x = 0
    · rw [if_pos k1] at h
      split at h
      · cases h
      · split at h
        · cases h
        · rcases List.mem_cons.1 hr with rfl | hr
          · exact chkC_len k1
          · exact rcF_len ps l (pre ++ [x]) h r hr
    · rw [if_neg k1] at h; exact absurd h k1
theorem recsF_len (ps : List Psn) (rs : List Rec) (h : recsF ps rs = 0) : ∀ r ∈ rs, 0 ≤ r.len := by
  unfold recsF at h
  split at h
  · exact rcF_len ps rs [] h
  · cases h

theorem chkM45 {pv gv cv rv u : AV} {ps : List Psn} {gs : List Grp} {cs : List Con} {rs : List Ru} {recs : List Rec} (h : RtV pv gv cv rv ps gs cs rs) (hu : SLs 5 (recs.map encRc) u) (hok : ∀ r ∈ recs, r.ok) (hl : recs.length ≤ 1000) (hf : fewRt ps gs cs rs = true)
    (qrec : EvV CX 33 [pv, u] (· = .int .i64 (recsF ps recs))) : EvV CX 15 [u, .agg [pv, gv, cv, rv]] (· = .int .i64 (chkRt ps recs gs cs rs)) := by
  obtain ⟨f1, f2, f3, f4, f5, f6, f7⟩ := few_out hf
  have hgs := h.gsok hf
  have c1 := h.p.cell
  have c2 := h.g.cell
  have c3 := h.c.cell
  have c4 := h.r.cell
  have s1 := h.p.snap
  have s2 := h.g.snap
  have s3 := h.c.snap
  have s4 := h.r.snap
  have su := hu.snap
  have q1 := (peopleM h.p (by omega) (fun p hp => by have := f5 p hp; omega)).rw
  have q2 := qrec.rw
  have q3 := (checkE hgs h.p (by omega) (fun g hg => by have := (f6 g hg).1; omega)).rw
  have q4 := (cnsM h.c h.p (by omega)).rw
  have hE : chkRt ps recs gs cs rs = if pplF ps = 0 then if recsF ps recs = 0 then if chkG ps gs = 0 then if cnsF ps cs = 0 then if rs.length ≤ 60 then rulesF recs gs rs else 11 else cnsF ps cs else chkG ps gs else recsF ps recs else pplF ps := rfl
  generalize pplF ps = e1 at *
  have hle : recsF ps recs = 0 → ∀ r ∈ recs, 0 ≤ r.len := recsF_len ps recs
  generalize recsF ps recs = e2 at *
  generalize chkG ps gs = e3 at *
  generalize cnsF ps cs = e4 at *
  clear qrec hgs
  obtain ⟨R, hR⟩ : ∃ R, chkRt ps recs gs cs rs = R := ⟨_, rfl⟩
  rw [hR] at hE ⊢
  clear hR
  by_cases k1 : e1 = 0
  rotate_left
  · rw [if_neg k1] at hE
    have b1 : (e1 == 0) = false := beq_false_of_ne k1
    rw [hE]
    clear hE k1 hle
    refine EvV.walk rfl fn15 rfl nt15 rfl ?_
    simp only [List.length_cons, List.length_nil, List.cons_append, List.nil_append, Nat.reduceAdd, Nat.reduceSub, List.replicate]
    repeat' (first | refine go1 ?_ | refine blockK_else rfl ?_ | ((first | refine wC fun A B a b => ?_ | refine wO fun A B a b => ?_); simp only [go_sem, reduceIte, Nat.reduceAdd, Nat.reduceEqDiff, Nat.reduceLT, Nat.reduceLeDiff, *]; (first | apply a.1 | apply b.1 | (refine iteI (fun h => ?_) (fun h => ?_) <;> first | apply a.1 | apply b.1)) <;> clear a b A B))
    simp only [resultsR, resultsL, resultA, expK_int, expK_bool, expK_str, expK_agg, expK_own, expK_tsl, resK_some, go_sem, reduceIte, Nat.reduceAdd, Nat.reduceEqDiff, Nat.reduceLT, Nat.reduceLeDiff, and_self, ]
  subst k1
  rw [if_pos rfl] at hE
  by_cases k1 : e2 = 0
  rotate_left
  · rw [if_neg k1] at hE
    have b1 : (e2 == 0) = false := beq_false_of_ne k1
    rw [hE]
    clear hE k1 hle
    refine EvV.walk rfl fn15 rfl nt15 rfl ?_
    simp only [List.length_cons, List.length_nil, List.cons_append, List.nil_append, Nat.reduceAdd, Nat.reduceSub, List.replicate]
    repeat' (first | refine go1 ?_ | refine blockK_else rfl ?_ | ((first | refine wC fun A B a b => ?_ | refine wO fun A B a b => ?_); simp only [go_sem, reduceIte, Nat.reduceAdd, Nat.reduceEqDiff, Nat.reduceLT, Nat.reduceLeDiff, *]; (first | apply a.1 | apply b.1 | (refine iteI (fun h => ?_) (fun h => ?_) <;> first | apply a.1 | apply b.1)) <;> clear a b A B))
    simp only [resultsR, resultsL, resultA, expK_int, expK_bool, expK_str, expK_agg, expK_own, expK_tsl, resK_some, go_sem, reduceIte, Nat.reduceAdd, Nat.reduceEqDiff, Nat.reduceLT, Nat.reduceLeDiff, and_self, ]
  subst k1
  rw [if_pos rfl] at hE
  have hlen : Hold (∀ r ∈ recs, 0 ≤ r.len) := ⟨hle rfl⟩
  clear hle
  by_cases k1 : e3 = 0
  rotate_left
  · rw [if_neg k1] at hE
    have b1 : (e3 == 0) = false := beq_false_of_ne k1
    rw [hE]
    clear hE k1
    refine EvV.walk rfl fn15 rfl nt15 rfl ?_
    simp only [List.length_cons, List.length_nil, List.cons_append, List.nil_append, Nat.reduceAdd, Nat.reduceSub, List.replicate]
    repeat' (first | refine go1 ?_ | refine blockK_else rfl ?_ | ((first | refine wC fun A B a b => ?_ | refine wO fun A B a b => ?_); simp only [go_sem, reduceIte, Nat.reduceAdd, Nat.reduceEqDiff, Nat.reduceLT, Nat.reduceLeDiff, *, List.getElem?_cons_succ]; (first | apply a.1 | apply b.1 | (refine iteI (fun h => ?_) (fun h => ?_) <;> first | apply a.1 | apply b.1)) <;> clear a b A B))
    simp only [resultsR, resultsL, resultA, expK_int, expK_bool, expK_str, expK_agg, expK_own, expK_tsl, resK_some, go_sem, reduceIte, Nat.reduceAdd, Nat.reduceEqDiff, Nat.reduceLT, Nat.reduceLeDiff, and_self, ]
  subst k1
  rw [if_pos rfl] at hE
  by_cases k1 : e4 = 0
  rotate_left
  · rw [if_neg k1] at hE
    have b1 : (e4 == 0) = false := beq_false_of_ne k1
    rw [hE]
    clear hE k1
    refine EvV.walk rfl fn15 rfl nt15 rfl ?_
    simp only [List.length_cons, List.length_nil, List.cons_append, List.nil_append, Nat.reduceAdd, Nat.reduceSub, List.replicate]
    repeat' (first | refine go1 ?_ | refine blockK_else rfl ?_ | ((first | refine wC fun A B a b => ?_ | refine wO fun A B a b => ?_); simp only [go_sem, reduceIte, Nat.reduceAdd, Nat.reduceEqDiff, Nat.reduceLT, Nat.reduceLeDiff, *, List.getElem?_cons_succ]; (first | apply a.1 | apply b.1 | (refine iteI (fun h => ?_) (fun h => ?_) <;> first | apply a.1 | apply b.1)) <;> clear a b A B))
    simp only [resultsR, resultsL, resultA, expK_int, expK_bool, expK_str, expK_agg, expK_own, expK_tsl, resK_some, go_sem, reduceIte, Nat.reduceAdd, Nat.reduceEqDiff, Nat.reduceLT, Nat.reduceLeDiff, and_self, ]
  subst k1
  rw [if_pos rfl] at hE
  by_cases k1 : 60 < (rs.length : Int)
  · rw [if_neg (by omega)] at hE
    rw [hE]
    clear hE
    refine EvV.walk rfl fn15 rfl nt15 rfl ?_
    simp only [List.length_cons, List.length_nil, List.cons_append, List.nil_append, Nat.reduceAdd, Nat.reduceSub, List.replicate]
    repeat' (first | refine go1 ?_ | refine blockK_else rfl ?_ | ((first | refine wC fun A B a b => ?_ | refine wO fun A B a b => ?_); simp only [go_sem, reduceIte, Nat.reduceAdd, Nat.reduceEqDiff, Nat.reduceLT, Nat.reduceLeDiff, *, lenK_sls h.r, List.length_map, List.getElem?_cons_succ]; (first | apply a.1 | apply b.1 | (refine iteI (fun h => ?_) (fun h => ?_) <;> first | apply a.1 | apply b.1)) <;> clear a b A B))
    simp only [resultsR, resultsL, resultA, expK_int, expK_bool, expK_str, expK_agg, expK_own, expK_tsl, resK_some, go_sem, reduceIte, Nat.reduceAdd, Nat.reduceEqDiff, Nat.reduceLT, Nat.reduceLeDiff, and_self, ]
  rw [if_pos (by omega)] at hE
  have hhE : Hold (R = rulesF recs gs rs) := ⟨hE⟩
  clear hE
  refine EvV.walk rfl fn15 rfl nt15 rfl ?_
  simp only [List.length_cons, List.length_nil, List.cons_append, List.nil_append, Nat.reduceAdd, Nat.reduceSub, List.replicate]
  repeat' (first | refine go1 ?_ | refine blockK_else rfl ?_ | ((first | refine wC fun A B a b => ?_ | refine wO fun A B a b => ?_); simp only [go_sem, reduceIte, Nat.reduceAdd, Nat.reduceEqDiff, Nat.reduceLT, Nat.reduceLeDiff, *, lenK_sls h.r, List.length_map, List.getElem?_cons_succ]; (first | apply a.1 | apply b.1 | (refine iteI (fun h => ?_) (fun h => ?_) <;> first | apply a.1 | apply b.1)) <;> clear a b A B))
  clear k1
  refine wpC_each [4, 10, 11, 49, 50, 51, 52, 53, 54, 55, 56, 57, 58, 59] 48 rs (fun _ post => rulesF recs gs rs = rulesF recs gs post) ?_ ?_ ?_ ?_
  · rfl
  · rfl
  · intro g G hA
    have e : R = 0 := by rw [hhE.out, hA]; rfl
    rw [e]
    clear e hA hhE
    simp only [garbA_cons, garbA_nil, setL_cons, setL_nil, List.set_cons_zero, List.set_cons_succ]
    repeat' (first | refine go1 ?_ | refine blockK_else rfl ?_ | ((first | refine wC fun A B a b => ?_ | refine wO fun A B a b => ?_); simp only [go_sem, reduceIte, Nat.reduceAdd, Nat.reduceEqDiff, Nat.reduceLT, Nat.reduceLeDiff, *, Int.lt_irrefl]; (first | apply a.1 | apply b.1 | (refine iteI (fun h => ?_) (fun h => ?_) <;> first | apply a.1 | apply b.1)) <;> clear a b A B))
    simp only [resultsR, resultsL, resultA, expK_int, expK_bool, expK_str, expK_agg, expK_own, expK_tsl, resK_some, go_sem, reduceIte, Nat.reduceAdd, Nat.reduceEqDiff, Nat.reduceLT, Nat.reduceLeDiff, and_self, ]
  intro g G pre x post h1 hA
  have hpl : pre.length < rs.length := by rw [h1]; simp
  have lt1 : (pre.length : Int) < (rs.length : Int) := by omega
  have w1 := wrap_succ (n := pre.length) (by omega)
  have i0 := idx_sls h.r (X := CX) ty26 ty58 rfl (n := pre.length) (row := encRu x) (k := .i64) (by rw [h1]; exact map_mid encRu pre x post)
  have hxm : x ∈ rs := by rw [h1]; simp
  have hx := h.ro x hxm
  have d1 := hx.sl.cell
  have t1 := hx.sl.snap
  have q5 := (ruleM h hu hok hl (by omega) hlen.out x hx (by have := f7 x hxm; omega)).rw
  have hh1 : Hold (rs = pre ++ x :: post) := ⟨h1⟩
  have hhA : Hold (rulesF recs gs rs = rulesF recs gs (x :: post)) := ⟨hA⟩
  clear h1 hpl hA hxm
  obtain ⟨e, he⟩ : ∃ e, ruleF recs gs x = e := ⟨_, rfl⟩
  rw [he] at q5
  have hhe : Hold (ruleF recs gs x = e) := ⟨he⟩
  clear he
  simp only [encRu] at i0 q5
  by_cases k2 : e = 0
  · subst k2
    simp only [garbA_cons, garbA_nil, setL_cons, setL_nil, List.set_cons_zero, List.set_cons_succ]
    repeat' (first | refine go1 ?_ | refine blockK_else rfl ?_ | ((first | refine wC fun A B a b => ?_ | refine wO fun A B a b => ?_); simp only [go_sem, reduceIte, Nat.reduceAdd, Nat.reduceEqDiff, Nat.reduceLT, Nat.reduceLeDiff, *, lenK_sls h.r, List.length_map, List.getElem?_cons_succ, getElem?_len, getElem?_lenAdd, set_len, set_lenAdd, List.append_assoc, List.length_append, List.cons_append]; (first | apply a.1 | apply b.1 | (refine iteI (fun h => ?_) (fun h => ?_) <;> first | apply a.1 | apply b.1)) <;> clear a b A B))
    refine each_next hh1.out ?_ ?_ ?_
    · rw [hhA.out, rulesF, if_pos hhe.out]
    · ((try simp only [eraseA_cons, eraseA_nil, setL_cons, setL_nil, List.set_cons_zero, List.set_cons_succ]); all_goals (first | rfl | (simp only [len_snoc, len_mid, ints_len, List.length_map, List.length_append, List.length_cons, List.length_nil, Nat.zero_add]; first | done | rfl)))
    · first | exact ⟨[], (List.append_nil _).symm⟩ | exact ⟨_, rfl⟩ | (simp only [List.append_assoc, List.cons_append, List.nil_append]; exact ⟨_, rfl⟩)
  · have b1 : (e == 0) = false := beq_false_of_ne k2
    have eR : R = e := by rw [hhE.out, hhA.out, rulesF, hhe.out, if_neg k2]
    rw [eR]
    clear eR hhA hhe hhE k2
    simp only [garbA_cons, garbA_nil, setL_cons, setL_nil, List.set_cons_zero, List.set_cons_succ]
    repeat' (first | refine go1 ?_ | refine blockK_else rfl ?_ | ((first | refine wC fun A B a b => ?_ | refine wO fun A B a b => ?_); simp only [go_sem, reduceIte, Nat.reduceAdd, Nat.reduceEqDiff, Nat.reduceLT, Nat.reduceLeDiff, *, lenK_sls h.r, List.length_map, List.getElem?_cons_succ, getElem?_len, getElem?_lenAdd, set_len, set_lenAdd, List.append_assoc, List.length_append, List.cons_append]; (first | apply a.1 | apply b.1 | (refine iteI (fun h => ?_) (fun h => ?_) <;> first | apply a.1 | apply b.1)) <;> clear a b A B))
    simp only [resultsR, resultsL, resultA, expK_int, expK_bool, expK_str, expK_agg, expK_own, expK_tsl, resK_some, go_sem, reduceIte, Nat.reduceAdd, Nat.reduceEqDiff, Nat.reduceLT, Nat.reduceLeDiff, and_self, ]


theorem lawChecks45 {pv gv cv rv : AV} {ps : List Psn} {gs : List Grp} {cs : List Con} {rs : List Ru} (h : RtV pv gv cv rv ps gs cs rs) (recs : List Rec) (hok : ∀ r ∈ recs, r.ok) :
    EvV CX 3 [.tsl true 5 (recs.map encRc), .agg [pv, gv, cv, rv]] (· = .bool true) := by
  have qa := awake.rw
  have c1 := h.p.cell
  have c2 := h.g.cell
  have c3 := h.c.cell
  have c4 := h.r.cell
  have s1 := h.p.snap
  have s2 := h.g.snap
  have s3 := h.c.snap
  have s4 := h.r.snap
  have q1 := (fewR h).rw
  have hu : SLs 5 (recs.map encRc) (.tsl true 5 (recs.map encRc)) := .rows true
  have su := hu.snap
  have hhok : Hold (∀ r ∈ recs, r.ok) := ⟨hok⟩
  obtain ⟨u, hu', hur⟩ : ∃ u, SLs 5 (recs.map encRc) u ∧ u = .tsl true 5 (recs.map encRc) := ⟨_, hu, rfl⟩
  have hhu : Hold (u = .tsl true 5 (recs.map encRc)) := ⟨hur⟩
  rw [← hur] at hu su ⊢
  clear hok hur hu'
  refine EvV.walk rfl fn3 rfl nt3 rfl ?_
  simp only [List.length_cons, List.length_nil, List.cons_append, List.nil_append, Nat.reduceAdd, Nat.reduceSub, List.replicate]
  repeat' (first | refine go1 ?_ | refine blockK_else rfl ?_ | ((first | refine wC fun A B a b => ?_ | refine wO fun A B a b => ?_); simp only [go_sem, reduceIte, Nat.reduceAdd, Nat.reduceEqDiff, Nat.reduceLT, Nat.reduceLeDiff, *]; (first | apply a.1 | apply b.1 | (refine iteI (fun h => ?_) (fun h => ?_) <;> first | apply a.1 | apply b.1)) <;> clear a b A B))
  refine wpC_loopF [4, 6, 7, 8, 9, 10, 11, 12, 13, 14, 15, 16, 17, 18, 19, 20, 21, 22, 23, 24, 25, 26, 27, 28, 29, 30, 31, 32] (fun p : List Rec × List Rec => [(5, .int .i64 p.1.length)]) (fun p G => .arr [[pv, gv, cv, rv]] 4 0 (pv.stab && (gv.stab && (cv.stab && rv.stab))) :: G)
    (fun p => recs = p.1 ++ p.2 ∧ p.1.length ≤ 17 ∧ ∀ r ∈ p.1, r.name.size ≤ 100 ∧ r.sp.length ≤ 50) (fun p => p.2.length) ([], recs) ⟨rfl, Nat.zero_le _, fun _ hr => by cases hr⟩ ?_ ⟨[], rfl⟩ ?_
  · rfl
  rintro ⟨pre, post⟩ g G ⟨h1, h2, h3⟩
  simp only at h1 h2 h3
  have hh3 : Hold (∀ r ∈ pre, r.name.size ≤ 100 ∧ r.sp.length ≤ 50) := ⟨h3⟩
  clear h3
  cases post with
  | nil =>
    rw [List.append_nil] at h1
    subst h1
    by_cases k16 : 16 < (recs.length : Int)
    · clear hhu hhok hh3 h2
      by_cases k17 : (recs.length : Int) < 17
      all_goals
        simp only [garbA_cons, garbA_nil, setL_cons, setL_nil, List.set_cons_zero, List.set_cons_succ]
        repeat' (first | refine go1 ?_ | refine blockK_else rfl ?_ | ((first | refine wC fun A B a b => ?_ | refine wO fun A B a b => ?_); simp only [go_sem, reduceIte, Nat.reduceAdd, Nat.reduceEqDiff, Nat.reduceLT, Nat.reduceLeDiff, *, Int.lt_irrefl, lenK_sls hu, List.length_map]; (first | apply a.1 | apply b.1 | (refine iteI (fun h => ?_) (fun h => ?_) <;> first | apply a.1 | apply b.1)) <;> clear a b A B))
        simp only [resultsR, resultsL, resultA, expK_int, expK_bool, expK_str, expK_agg, expK_own, expK_tsl, resK_some, go_sem, reduceIte, Nat.reduceAdd, Nat.reduceEqDiff, Nat.reduceLT, Nat.reduceLeDiff, and_self, ]
    have k17 : (recs.length : Int) < 17 := by omega
    cases k : fewRt ps gs cs rs with
    | false =>
      rw [k] at q1
      clear hhu hhok hh3 h2 k
      simp only [garbA_cons, garbA_nil, setL_cons, setL_nil, List.set_cons_zero, List.set_cons_succ]
      repeat' (first | refine go1 ?_ | refine blockK_else rfl ?_ | ((first | refine wC fun A B a b => ?_ | refine wO fun A B a b => ?_); simp only [go_sem, reduceIte, Nat.reduceAdd, Nat.reduceEqDiff, Nat.reduceLT, Nat.reduceLeDiff, *, Int.lt_irrefl, lenK_sls hu, List.length_map]; (first | apply a.1 | apply b.1 | (refine iteI (fun h => ?_) (fun h => ?_) <;> first | apply a.1 | apply b.1)) <;> clear a b A B))
      simp only [resultsR, resultsL, resultA, expK_int, expK_bool, expK_str, expK_agg, expK_own, expK_tsl, resK_some, go_sem, reduceIte, Nat.reduceAdd, Nat.reduceEqDiff, Nat.reduceLT, Nat.reduceLeDiff, and_self, ]
    | true =>
      have fo := few_out k
      have nm : ∀ r ∈ recs, r.name.size ≤ 1048576 := fun r hr => by have := (hh3.out r hr).1; omega
      have sl : ∀ r ∈ recs, r.sp.length < 9223372036854775807 := fun r hr => by have := (hh3.out r hr).2; omega
      have r1 := recsM h.p (by omega) recs hhok.out nm sl (by omega) true
      have r2 := recsR h.p (by omega) recs hhok.out nm sl (by omega) true
      rw [← hhu.out] at r1 r2
      have q2 := (chkM45 h hu hhok.out (by omega) k r1).rw
      have q3 := (chkR45 h hu hhok.out (by omega) k r2).rw
      rw [k] at q1
      generalize chkRt ps recs gs cs rs = E at *
      clear hhu hhok hh3 h2 k fo nm sl r1 r2
      simp only [garbA_cons, garbA_nil, setL_cons, setL_nil, List.set_cons_zero, List.set_cons_succ]
      repeat' (first | refine go1 ?_ | refine blockK_else rfl ?_ | ((first | refine wC fun A B a b => ?_ | refine wO fun A B a b => ?_); simp only [go_sem, reduceIte, Nat.reduceAdd, Nat.reduceEqDiff, Nat.reduceLT, Nat.reduceLeDiff, *, Int.lt_irrefl, lenK_sls hu, List.length_map, beq_self_eq_true]; (first | apply a.1 | apply b.1 | (refine iteI (fun h => ?_) (fun h => ?_) <;> first | apply a.1 | apply b.1)) <;> clear a b A B))
      simp only [resultsR, resultsL, resultA, expK_int, expK_bool, expK_str, expK_agg, expK_own, expK_tsl, resK_some, go_sem, reduceIte, Nat.reduceAdd, Nat.reduceEqDiff, Nat.reduceLT, Nat.reduceLeDiff, and_self, ]
  | cons x post =>
    have hpl : pre.length < recs.length := by rw [h1]; simp
    have lt1 : (pre.length : Int) < (recs.length : Int) := by omega
    by_cases kl : (pre.length : Int) < 17
    rotate_left
    · have k16 : 16 < (recs.length : Int) := by omega
      clear hhu hhok hh3 h1 h2 hpl
      simp only [garbA_cons, garbA_nil, setL_cons, setL_nil, List.set_cons_zero, List.set_cons_succ]
      repeat' (first | refine go1 ?_ | refine blockK_else rfl ?_ | ((first | refine wC fun A B a b => ?_ | refine wO fun A B a b => ?_); simp only [go_sem, reduceIte, Nat.reduceAdd, Nat.reduceEqDiff, Nat.reduceLT, Nat.reduceLeDiff, *, lenK_sls hu, List.length_map]; (first | apply a.1 | apply b.1 | (refine iteI (fun h => ?_) (fun h => ?_) <;> first | apply a.1 | apply b.1)) <;> clear a b A B))
      simp only [resultsR, resultsL, resultA, expK_int, expK_bool, expK_str, expK_agg, expK_own, expK_tsl, resK_some, go_sem, reduceIte, Nat.reduceAdd, Nat.reduceEqDiff, Nat.reduceLT, Nat.reduceLeDiff, and_self, ]
    have w1 := wrap_succ (n := pre.length) (by omega)
    have i0 := idx_sls hu (X := CX) ty22 ty31 rfl (n := pre.length) (row := encRc x) (k := .i64) (by rw [h1]; exact map_mid encRc pre x post)
    have hr := hhok.out x (by rw [h1]; simp)
    have d1 := hr.sv.cell
    have t1 := hr.sv.snap
    have hh1 : Hold (recs = (pre ++ [x]) ++ post) := ⟨by rw [h1]; simp⟩
    have hh2 : Hold (pre.length < 17) := ⟨by omega⟩
    clear h1 h2 hpl
    by_cases m1 : 100 < (x.name.size : Int)
    · clear hhu hhok hh3
      simp only [garbA_cons, garbA_nil, setL_cons, setL_nil, List.set_cons_zero, List.set_cons_succ]
      repeat' (first | refine go1 ?_ | refine blockK_else rfl ?_ | ((first | refine wC fun A B a b => ?_ | refine wO fun A B a b => ?_); simp only [go_sem, reduceIte, Nat.reduceAdd, Nat.reduceEqDiff, Nat.reduceLT, Nat.reduceLeDiff, *, encRc, lenK_sls hu, List.length_map, lenK_str, List.getElem?_cons_succ]; (first | apply a.1 | apply b.1 | (refine iteI (fun h => ?_) (fun h => ?_) <;> first | apply a.1 | apply b.1)) <;> clear a b A B))
      simp only [resultsR, resultsL, resultA, expK_int, expK_bool, expK_str, expK_agg, expK_own, expK_tsl, resK_some, go_sem, reduceIte, Nat.reduceAdd, Nat.reduceEqDiff, Nat.reduceLT, Nat.reduceLeDiff, and_self, ]
    by_cases m2 : 50 < (x.sp.length : Int)
    · clear hhu hhok hh3
      simp only [garbA_cons, garbA_nil, setL_cons, setL_nil, List.set_cons_zero, List.set_cons_succ]
      repeat' (first | refine go1 ?_ | refine blockK_else rfl ?_ | ((first | refine wC fun A B a b => ?_ | refine wO fun A B a b => ?_); simp only [go_sem, reduceIte, Nat.reduceAdd, Nat.reduceEqDiff, Nat.reduceLT, Nat.reduceLeDiff, *, encRc, lenK_sls hu, lenK_sls hr.sv, ints_len, List.length_map, lenK_str, List.getElem?_cons_succ]; (first | apply a.1 | apply b.1 | (refine iteI (fun h => ?_) (fun h => ?_) <;> first | apply a.1 | apply b.1)) <;> clear a b A B))
      simp only [resultsR, resultsL, resultA, expK_int, expK_bool, expK_str, expK_agg, expK_own, expK_tsl, resK_some, go_sem, reduceIte, Nat.reduceAdd, Nat.reduceEqDiff, Nat.reduceLT, Nat.reduceLeDiff, and_self, ]
    have hx : Hold (x.name.size ≤ 100 ∧ x.sp.length ≤ 50) := ⟨by omega⟩
    simp only [garbA_cons, garbA_nil, setL_cons, setL_nil, List.set_cons_zero, List.set_cons_succ]
    repeat' (first | refine go1 ?_ | refine blockK_else rfl ?_ | ((first | refine wC fun A B a b => ?_ | refine wO fun A B a b => ?_); simp only [go_sem, reduceIte, Nat.reduceAdd, Nat.reduceEqDiff, Nat.reduceLT, Nat.reduceLeDiff, *, encRc, lenK_sls hu, lenK_sls hr.sv, ints_len, List.length_map, lenK_str, List.getElem?_cons_succ]; (first | apply a.1 | apply b.1 | (refine iteI (fun h => ?_) (fun h => ?_) <;> first | apply a.1 | apply b.1)) <;> clear a b A B))
    refine loopF_next (pre ++ [x], post) (Nat.lt_succ_self _) ⟨hh1.out, by have := hh2.out; simp; omega, fun r hr => ?_⟩ ?_ ⟨_, rfl⟩
    · rcases List.mem_append.1 hr with hr | hr
      · exact hh3.out r hr
      · simp at hr; subst hr; exact hx.out
    · ((try simp only [eraseA_cons, eraseA_nil, setL_cons, setL_nil, List.set_cons_zero, List.set_cons_succ]); all_goals (first | rfl | (simp only [len_snoc, len_mid, ints_len, List.length_map, List.length_append, List.length_cons, List.length_nil, Nat.zero_add]; first | done | rfl)))
end Go.Eng
