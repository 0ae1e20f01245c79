/- Part 6 of the texts behind this claim. -/
import Derived.Test.YtmdoldekaendlaaZ5
import Derived.Test.YtmdoldekaendlaaEngR

/- Groups: Check, in the code and in the reference. -/
namespace Go.Eng
open Go.Proofs
set_option linter.unusedSimpArgs false
set_option linter.unusedVariables false
attribute [local irreducible] wpC wpO wp1 EvV EvR wpL
attribute [local go_sem] ty3 ty4 ty9 ty22 ty23 ty26 ty29 ty37 ty42 br16 br30 br31 br32 allocK fz14 fz15 fz16 beq_iff_eq beq_eq_false_iff_ne Int.natCast_inj Bool.not_eq_false' op1_go wpK_box wpK_alloc wpK_load wpK_store wpK_binOp wpK_unOp wpK_fieldAddr wpK_field wpK_build wpK_indexAddr wpK_slice wpK_len wpK_extract wpK_nilCheck wpK_pick wpK_makeFunc wpK_call wpK_callT wpK_max wpK_min wpK_assignT wpK_moveT wpK_assignB wpK_moveB wpK_assignI wpK_moveI wpK_assignA wpK_moveA callK_fn snapL_nil snapL_cons snap_int snap_bool snap_str snap_tsl snap_agg snap_fn snap_flat adopt_int adopt_bool adopt_str adopt_agg adopt_osl adopt_tsl adopt_tup op1_guard grdK_bool grdK_undef condK_bool someK_some pairK_some nilK_ptr nilK_tptr boxK storeK evalA_tmp evalA_int evalA_bool evalA_agg evalA_fn evalA_nil ofC_int ofC_bool getA_zero getA_succ cells_int cells_agg cells_bool cells_sl cells_tsl cell_int cell_bool cell_str cell_sl cell_esl cell_tsl cell_ptr cell_tptr cell_fn cell_nils cell_nilf List.all_cons List.all_nil Bool.and_true Bool.and_self Bool.true_and putA_some putA_none List.set_cons_zero List.set_cons_succ List.length_cons List.length_nil List.nil_append List.cons_append stabL AV.stab fieldAddrA fieldA List.getElem?_cons_zero List.getElem?_cons_succ Nat.zero_add loadA rowOf Nat.le_refl and_self true_and and_true partA binA unA intBin eqBin eqCells eqCell Option.bind_some decide_true decide_false decide_eq_true_eq ite_not Bool.not_eq_true' decide_eq_false_iff_not Bool.false_eq_true Option.map_some Option.map_none Bool.not_true Bool.not_false buildA fillA patch List.take List.drop List.map_cons List.map_nil extK List.getD_cons_zero List.getD_cons_succ minmaxA minmaxGo adoptZ_false adoptZ_true freeze_int freeze_bool freeze_str freeze_flat freeze_agg freeze_osl freeze_tsl freeze_tup frz1_bool frz1_int frz1_str frz1_agg frz1_osl frz1_tsl bne Bool.false_and Bool.and_false ne_eq not_true_eq_false not_false_eq_true List.append_nil
set_option maxHeartbeats 4000000

/-- The first error of some groups. -/
def errF (ps : List Psn) : List Grp → List Grp → Int
  | _, [] => 0
  | pre, x :: post => if errG ps pre x = 0 then errF ps (pre ++ [x]) post else errG ps pre x
noncomputable def chkG (ps : List Psn) (gs : List Grp) : Int :=
  if gs.length ≤ 20 then if errF ps [] gs = 0 then if gs.all (fun g => g.subs.all (isG gs)) = true then if gs.any (fun g => (below gs g.id).contains g.id) = true then 17 else 0 else 9 else errF ps [] gs else 11

theorem checkE {v w : AV} {gs : List Grp} {ps : List Psn} (h : GsOK v gs) (hw : SLs 3 (ps.map encP) w) (hps : ps.length ≤ 1000) (hn : ∀ g ∈ gs, g.name.size ≤ 1000) : EvV CX 12 [w, v] (· = .int .i64 (chkG ps gs)) := by
  have hvs := fun S => h.sl.snap (S := S)
  have hws := hw.snap
  have hgl := h.len
  by_cases k1 : 20 < (gs.length : Int)
  · refine EvV.walk rfl fn12 rfl nt12 rfl ?_
    simp only [List.length_cons, List.length_nil, List.cons_append, List.nil_append, Nat.reduceAdd, Nat.reduceSub, List.replicate]
    repeat' (first | refine go1 ?_ | refine blockK_else rfl ?_ | (refine wpO_cons fun K hK => ?_; simp only [go_sem, reduceIte, Nat.reduceAdd, Nat.reduceEqDiff, Nat.reduceLT, Nat.reduceLeDiff, *, and_self, lenK_sls h.sl, getElem?_len, getElem?_lenAdd, set_len, set_lenAdd, len_mid, ints_len, List.length_map, lt_mid, List.nil_append]; first | (refine hK.out _ _ ?_; clear hK K) | (refine iteI (fun h => hK.out _ _ ?_) (fun h => hK.out _ _ ?_) <;> clear hK K)))
    (refine wpC_cond fun A B hA hB => ?_; simp only [go_sem, reduceIte, Nat.reduceAdd, Nat.reduceEqDiff, Nat.reduceLT, Nat.reduceLeDiff, *, and_self, getElem?_len, getElem?_lenAdd, set_len, set_lenAdd, len_mid, ints_len, List.length_map, lt_mid, List.nil_append]; first | (refine hA.out ?_; clear hA hB A B) | (refine hB.out ?_; clear hA hB A B))
    repeat' (first | refine go1 ?_ | refine blockK_else rfl ?_ | (refine wpO_cons fun K hK => ?_; simp only [go_sem, reduceIte, Nat.reduceAdd, Nat.reduceEqDiff, Nat.reduceLT, Nat.reduceLeDiff, *, and_self, ]; first | (refine hK.out _ _ ?_; clear hK K) | (refine iteI (fun h => hK.out _ _ ?_) (fun h => hK.out _ _ ?_) <;> clear hK K)))
    simp only [resultsR, resultsL, resultA, expK_int, expK_bool, expK_str, expK_agg, expK_own, expK_tsl, resK_some, go_sem, reduceIte, Nat.reduceAdd, Nat.reduceEqDiff, Nat.reduceLT, Nat.reduceLeDiff, and_self, ]
    have : ¬ gs.length ≤ 20 := by omega
    simp [chkG, this]
  have l20 : gs.length ≤ 20 := by omega
  refine EvV.walk rfl fn12 rfl nt12 rfl ?_
  simp only [List.length_cons, List.length_nil, List.cons_append, List.nil_append, Nat.reduceAdd, Nat.reduceSub, List.replicate]
  repeat' (first | refine go1 ?_ | refine blockK_else rfl ?_ | (refine wpO_cons fun K hK => ?_; simp only [go_sem, reduceIte, Nat.reduceAdd, Nat.reduceEqDiff, Nat.reduceLT, Nat.reduceLeDiff, *, and_self, lenK_sls h.sl, getElem?_len, getElem?_lenAdd, set_len, set_lenAdd, len_mid, ints_len, List.length_map, lt_mid, List.nil_append]; first | (refine hK.out _ _ ?_; clear hK K) | (refine iteI (fun h => hK.out _ _ ?_) (fun h => hK.out _ _ ?_) <;> clear hK K)))
  (refine wpC_cond fun A B hA hB => ?_; simp only [go_sem, reduceIte, Nat.reduceAdd, Nat.reduceEqDiff, Nat.reduceLT, Nat.reduceLeDiff, *, and_self, getElem?_len, getElem?_lenAdd, set_len, set_lenAdd, len_mid, ints_len, List.length_map, lt_mid, List.nil_append]; first | (refine hA.out ?_; clear hA hB A B) | (refine hB.out ?_; clear hA hB A B))
  repeat' (first | refine go1 ?_ | refine blockK_else rfl ?_ | (refine wpO_cons fun K hK => ?_; simp only [go_sem, reduceIte, Nat.reduceAdd, Nat.reduceEqDiff, Nat.reduceLT, Nat.reduceLeDiff, *, and_self, lenK_sls h.sl, getElem?_len, getElem?_lenAdd, set_len, set_lenAdd, len_mid, ints_len, List.length_map, lt_mid, List.nil_append]; first | (refine hK.out _ _ ?_; clear hK K) | (refine iteI (fun h => hK.out _ _ ?_) (fun h => hK.out _ _ ?_) <;> clear hK K)))
  have hl20 : Hold (gs.length ≤ 20) := ⟨l20⟩
  clear k1 l20
  refine wpC_each [4, 5, 6, 21, 22, 23, 24, 25, 26, 27, 28, 29, 30] 20 gs (fun pre post => errF ps [] gs = errF ps pre post) ?_ ?_ ?_ ?_
  · rfl
  · rfl
  rotate_left
  · intro g G pre x post h1 hE
    have lt1 : (pre.length : Int) < (gs.length : Int) := by rw [h1]; simp; omega
    have w1 := wrap_succ (n := pre.length) (by rw [h1] at hgl; simp at hgl; omega)
    have q := (oneE h hw hps h1 (hn x (by rw [h1]; simp))).rw
    have hh1 : Hold (gs = pre ++ x :: post) := ⟨h1⟩
    have hhE : Hold (errF ps [] gs = errF ps pre (x :: post)) := ⟨hE⟩
    clear h1 hE
    obtain ⟨e, he⟩ : ∃ e, errG ps pre x = e := ⟨_, rfl⟩
    have hhe : Hold (errG ps pre x = e) := ⟨he⟩
    rw [he] at q
    clear he
    simp only [garbA_cons, garbA_nil, setL_cons, setL_nil, List.set_cons_zero, List.set_cons_succ]
    by_cases k2 : e = 0
    · subst k2
      have z : ((0 : Int) != 0) = false := rfl
      repeat' (first | refine go1 ?_ | refine blockK_else rfl ?_ | (refine wpO_cons fun K hK => ?_; simp only [go_sem, reduceIte, Nat.reduceAdd, Nat.reduceEqDiff, Nat.reduceLT, Nat.reduceLeDiff, *, and_self, ]; first | (refine hK.out _ _ ?_; clear hK K) | (refine iteI (fun h => hK.out _ _ ?_) (fun h => hK.out _ _ ?_) <;> clear hK K)))
      (refine wpC_cond fun A B hA hB => ?_; simp only [go_sem, reduceIte, Nat.reduceAdd, Nat.reduceEqDiff, Nat.reduceLT, Nat.reduceLeDiff, *, and_self, lt1]; first | (refine hA.out ?_; clear hA hB A B) | (refine hB.out ?_; clear hA hB A B))
      repeat' (first | refine go1 ?_ | refine blockK_else rfl ?_ | (refine wpO_cons fun K hK => ?_; simp only [go_sem, reduceIte, Nat.reduceAdd, Nat.reduceEqDiff, Nat.reduceLT, Nat.reduceLeDiff, *, and_self, hws, hvs, adopt_int, getElem?_len, getElem?_lenAdd, set_len, set_lenAdd, len_mid, ints_len, List.length_map, lt_mid, List.nil_append, q]; first | (refine hK.out _ _ ?_; clear hK K) | (refine iteI (fun h => hK.out _ _ ?_) (fun h => hK.out _ _ ?_) <;> clear hK K)))
      (refine wpC_cond fun A B hA hB => ?_; simp only [go_sem, reduceIte, Nat.reduceAdd, Nat.reduceEqDiff, Nat.reduceLT, Nat.reduceLeDiff, *, and_self, z]; first | (refine hA.out ?_; clear hA hB A B) | (refine hB.out ?_; clear hA hB A B))
      repeat' (first | refine go1 ?_ | refine blockK_else rfl ?_ | (refine wpO_cons fun K hK => ?_; simp only [go_sem, reduceIte, Nat.reduceAdd, Nat.reduceEqDiff, Nat.reduceLT, Nat.reduceLeDiff, *, and_self, w1]; first | (refine hK.out _ _ ?_; clear hK K) | (refine iteI (fun h => hK.out _ _ ?_) (fun h => hK.out _ _ ?_) <;> clear hK K)))
      refine each_next hh1.out ?_ ?_ ?_
      · rw [hhE.out, errF, if_pos hhe.out]
      · ((try simp only [eraseA_cons, eraseA_nil, setL_cons, setL_nil, List.set_cons_zero, List.set_cons_succ]); all_goals (first | rfl | (simp only [len_snoc, ints_len, List.length_map, ]; done) | (simp only [len_snoc, len_mid, ints_len, List.length_map, List.length_append, List.length_cons, List.length_nil, Nat.zero_add, ]; done) | (simp only [len_mid, len_snoc, ints_len, List.length_map, List.length_append, List.length_cons, List.length_nil, Nat.zero_add, ]; rfl)))
      · first | exact ⟨[], (List.append_nil _).symm⟩ | exact ⟨_, rfl⟩ | (simp only [List.append_assoc, List.cons_append, List.nil_append]; exact ⟨_, rfl⟩)
    · repeat' (first | refine go1 ?_ | refine blockK_else rfl ?_ | (refine wpO_cons fun K hK => ?_; simp only [go_sem, reduceIte, Nat.reduceAdd, Nat.reduceEqDiff, Nat.reduceLT, Nat.reduceLeDiff, *, and_self, ]; first | (refine hK.out _ _ ?_; clear hK K) | (refine iteI (fun h => hK.out _ _ ?_) (fun h => hK.out _ _ ?_) <;> clear hK K)))
      (refine wpC_cond fun A B hA hB => ?_; simp only [go_sem, reduceIte, Nat.reduceAdd, Nat.reduceEqDiff, Nat.reduceLT, Nat.reduceLeDiff, *, and_self, lt1]; first | (refine hA.out ?_; clear hA hB A B) | (refine hB.out ?_; clear hA hB A B))
      repeat' (first | refine go1 ?_ | refine blockK_else rfl ?_ | (refine wpO_cons fun K hK => ?_; simp only [go_sem, reduceIte, Nat.reduceAdd, Nat.reduceEqDiff, Nat.reduceLT, Nat.reduceLeDiff, *, and_self, hws, hvs, adopt_int, getElem?_len, getElem?_lenAdd, set_len, set_lenAdd, len_mid, ints_len, List.length_map, lt_mid, List.nil_append, q]; first | (refine hK.out _ _ ?_; clear hK K) | (refine iteI (fun h => hK.out _ _ ?_) (fun h => hK.out _ _ ?_) <;> clear hK K)))
      (refine wpC_cond fun A B hA hB => ?_; simp only [go_sem, reduceIte, Nat.reduceAdd, Nat.reduceEqDiff, Nat.reduceLT, Nat.reduceLeDiff, *, and_self, k2]; first | (refine hA.out ?_; clear hA hB A B) | (refine hB.out ?_; clear hA hB A B))
      repeat' (first | refine go1 ?_ | refine blockK_else rfl ?_ | (refine wpO_cons fun K hK => ?_; simp only [go_sem, reduceIte, Nat.reduceAdd, Nat.reduceEqDiff, Nat.reduceLT, Nat.reduceLeDiff, *, and_self, w1]; first | (refine hK.out _ _ ?_; clear hK K) | (refine iteI (fun h => hK.out _ _ ?_) (fun h => hK.out _ _ ?_) <;> clear hK K)))
      simp only [resultsR, resultsL, resultA, expK_int, expK_bool, expK_str, expK_agg, expK_own, expK_tsl, resK_some, go_sem, reduceIte, Nat.reduceAdd, Nat.reduceEqDiff, Nat.reduceLT, Nat.reduceLeDiff, and_self, ]
      have e1 : errF ps [] gs = e := by rw [hhE.out, errF, hhe.out, if_neg k2]
      simp [chkG, hl20.out, e1, k2]
  intro g G hE
  have hhE : Hold (errF ps [] gs = 0) := ⟨hE⟩
  clear hE
  simp only [garbA_cons, garbA_nil, setL_cons, setL_nil, List.set_cons_zero, List.set_cons_succ]
  repeat' (first | refine go1 ?_ | refine blockK_else rfl ?_ | (refine wpO_cons fun K hK => ?_; simp only [go_sem, reduceIte, Nat.reduceAdd, Nat.reduceEqDiff, Nat.reduceLT, Nat.reduceLeDiff, *, and_self, ]; first | (refine hK.out _ _ ?_; clear hK K) | (refine iteI (fun h => hK.out _ _ ?_) (fun h => hK.out _ _ ?_) <;> clear hK K)))
  (refine wpC_cond fun A B hA hB => ?_; simp only [go_sem, reduceIte, Nat.reduceAdd, Nat.reduceEqDiff, Nat.reduceLT, Nat.reduceLeDiff, *, and_self, Int.lt_irrefl]; first | (refine hA.out ?_; clear hA hB A B) | (refine hB.out ?_; clear hA hB A B))
  repeat' (first | refine go1 ?_ | refine blockK_else rfl ?_ | (refine wpO_cons fun K hK => ?_; simp only [go_sem, reduceIte, Nat.reduceAdd, Nat.reduceEqDiff, Nat.reduceLT, Nat.reduceLeDiff, *, and_self, lenK_sls h.sl, getElem?_len, getElem?_lenAdd, set_len, set_lenAdd, len_mid, ints_len, List.length_map, lt_mid, List.nil_append]; first | (refine hK.out _ _ ?_; clear hK K) | (refine iteI (fun h => hK.out _ _ ?_) (fun h => hK.out _ _ ?_) <;> clear hK K)))
  refine wpC_each [4, 8, 10, 11, 12, 34, 35, 36, 37, 38, 39, 40, 41, 42, 43, 44, 45, 46, 47, 48, 49, 50, 51, 52, 53] 33 gs (fun pre post => gs.all (fun g => g.subs.all (isG gs)) = post.all (fun g => g.subs.all (isG gs))) ?_ ?_ ?_ ?_
  · rfl
  · rfl
  rotate_left
  · intro g G pre x post h1 hE
    have i0 := idx_sls h.sl (X := CX) ty23 ty37 rfl (n := pre.length) (row := encG x) (k := .i64) (map_at encG h1)
    have lt1 : (pre.length : Int) < (gs.length : Int) := by rw [h1]; simp; omega
    have w1 := wrap_succ (n := pre.length) (by rw [h1] at hgl; simp at hgl; omega)
    have hxm : x ∈ gs := by rw [h1]; simp
    have hx := h.ok x hxm
    have hsl := h.subs x hxm
    have c1 := hx.pv.cell
    have c2 := hx.sv.cell
    have s1 := hx.pv.snap
    have s2 := hx.sv.snap
    have hh1 : Hold (gs = pre ++ x :: post) := ⟨h1⟩
    have hhE : Hold (gs.all (fun g => g.subs.all (isG gs)) = (x :: post).all (fun g => g.subs.all (isG gs))) := ⟨hE⟩
    clear h1 hE hxm
    simp only [garbA_cons, garbA_nil, setL_cons, setL_nil, List.set_cons_zero, List.set_cons_succ]
    repeat' (first | refine go1 ?_ | refine blockK_else rfl ?_ | (refine wpO_cons fun K hK => ?_; simp only [go_sem, reduceIte, Nat.reduceAdd, Nat.reduceEqDiff, Nat.reduceLT, Nat.reduceLeDiff, *, and_self, ]; first | (refine hK.out _ _ ?_; clear hK K) | (refine iteI (fun h => hK.out _ _ ?_) (fun h => hK.out _ _ ?_) <;> clear hK K)))
    (refine wpC_cond fun A B hA hB => ?_; simp only [go_sem, reduceIte, Nat.reduceAdd, Nat.reduceEqDiff, Nat.reduceLT, Nat.reduceLeDiff, *, and_self, lt1]; first | (refine hA.out ?_; clear hA hB A B) | (refine hB.out ?_; clear hA hB A B))
    repeat' (first | refine go1 ?_ | refine blockK_else rfl ?_ | (refine wpO_cons fun K hK => ?_; simp only [go_sem, reduceIte, Nat.reduceAdd, Nat.reduceEqDiff, Nat.reduceLT, Nat.reduceLeDiff, *, and_self, encG, c1, c2, s1, s2, hws, hvs, snap_str, getElem?_len, getElem?_lenAdd, set_len, set_lenAdd, len_mid, ints_len, List.length_map, lt_mid, List.nil_append, List.cons_append, Bool.not_true, Bool.not_false, adopt_int, adopt_two, adopt_osl, adopt_tsl, adopt_nils, i0, lenK_sls hx.sv]; first | (refine hK.out _ _ ?_; clear hK K) | (refine iteI (fun h => hK.out _ _ ?_) (fun h => hK.out _ _ ?_) <;> clear hK K)))
    refine wpC_each [4, 10, 11, 12, 41, 42, 43, 44, 45, 46, 47, 48, 49, 50, 51, 52] 40 x.subs (fun _ post => x.subs.all (isG gs) = post.all (isG gs)) ?_ ?_ ?_ ?_
    · rfl
    · rfl
    · intro g' G' hS
      have hhS : Hold (x.subs.all (isG gs) = true) := ⟨by rw [hS]; rfl⟩
      clear hS
      simp only [garbA_cons, garbA_nil, setL_cons, setL_nil, List.set_cons_zero, List.set_cons_succ]
      repeat' (first | refine go1 ?_ | refine blockK_else rfl ?_ | (refine wpO_cons fun K hK => ?_; simp only [go_sem, reduceIte, Nat.reduceAdd, Nat.reduceEqDiff, Nat.reduceLT, Nat.reduceLeDiff, *, and_self, ]; first | (refine hK.out _ _ ?_; clear hK K) | (refine iteI (fun h => hK.out _ _ ?_) (fun h => hK.out _ _ ?_) <;> clear hK K)))
      (refine wpC_cond fun A B hA hB => ?_; simp only [go_sem, reduceIte, Nat.reduceAdd, Nat.reduceEqDiff, Nat.reduceLT, Nat.reduceLeDiff, *, and_self, ints_len, List.length_map, Int.lt_irrefl, List.nil_append]; first | (refine hA.out ?_; clear hA hB A B) | (refine hB.out ?_; clear hA hB A B))
      repeat' (first | refine go1 ?_ | refine blockK_else rfl ?_ | (refine wpO_cons fun K hK => ?_; simp only [go_sem, reduceIte, Nat.reduceAdd, Nat.reduceEqDiff, Nat.reduceLT, Nat.reduceLeDiff, *, and_self, w1]; first | (refine hK.out _ _ ?_; clear hK K) | (refine iteI (fun h => hK.out _ _ ?_) (fun h => hK.out _ _ ?_) <;> clear hK K)))
      refine each_next hh1.out ?_ ?_ ?_
      · rw [hhE.out, List.all_cons, hhS.out, Bool.true_and]
      · ((try simp only [eraseA_cons, eraseA_nil, setL_cons, setL_nil, List.set_cons_zero, List.set_cons_succ]); all_goals (first | rfl | (simp only [len_snoc, ints_len, List.length_map, ]; done) | (simp only [len_snoc, len_mid, ints_len, List.length_map, List.length_append, List.length_cons, List.length_nil, Nat.zero_add, ]; done) | (simp only [len_mid, len_snoc, ints_len, List.length_map, List.length_append, List.length_cons, List.length_nil, Nat.zero_add, ]; rfl)))
      · first | exact ⟨[], (List.append_nil _).symm⟩ | exact ⟨_, rfl⟩ | (simp only [List.append_assoc, List.cons_append, List.nil_append]; exact ⟨_, rfl⟩)
    · intro g' G' pr y po h2 hS
      have j1 := idx_sls hx.sv (X := CX) ty29 ty3 rfl (by rw [h2]; exact ints_mid pr y po) (k := .i64)
      have lt2 : (pr.length : Int) < (x.subs.length : Int) := by rw [h2]; simp; omega
      have w2 := wrap_succ (n := pr.length) (by omega)
      have q := (findU h y).rw
      have hy := fnd_ok h y
      have c3 := hy.pv.cell
      have c4 := hy.sv.cell
      have hh2 : Hold (x.subs = pr ++ y :: po) := ⟨h2⟩
      have hhS : Hold (x.subs.all (isG gs) = (y :: po).all (isG gs)) := ⟨hS⟩
      clear h2 hS
      simp only [garbA_cons, garbA_nil, setL_cons, setL_nil, List.set_cons_zero, List.set_cons_succ]
      by_cases k5 : isG gs y = true
      · repeat' (first | refine go1 ?_ | refine blockK_else rfl ?_ | (refine wpO_cons fun K hK => ?_; simp only [go_sem, reduceIte, Nat.reduceAdd, Nat.reduceEqDiff, Nat.reduceLT, Nat.reduceLeDiff, *, and_self, ints_len]; first | (refine hK.out _ _ ?_; clear hK K) | (refine iteI (fun h => hK.out _ _ ?_) (fun h => hK.out _ _ ?_) <;> clear hK K)))
        (refine wpC_cond fun A B hA hB => ?_; simp only [go_sem, reduceIte, Nat.reduceAdd, Nat.reduceEqDiff, Nat.reduceLT, Nat.reduceLeDiff, *, and_self, lt2]; first | (refine hA.out ?_; clear hA hB A B) | (refine hB.out ?_; clear hA hB A B))
        repeat' (first | refine go1 ?_ | refine blockK_else rfl ?_ | (refine wpO_cons fun K hK => ?_; simp only [go_sem, reduceIte, Nat.reduceAdd, Nat.reduceEqDiff, Nat.reduceLT, Nat.reduceLeDiff, *, and_self, encG, c1, c2, s1, s2, hws, hvs, snap_str, getElem?_len, getElem?_lenAdd, set_len, set_lenAdd, len_mid, ints_len, List.length_map, lt_mid, List.nil_append, List.cons_append, Bool.not_true, Bool.not_false, adopt_int, adopt_two, adopt_osl, adopt_tsl, adopt_nils, j1, q, c3, c4]; first | (refine hK.out _ _ ?_; clear hK K) | (refine iteI (fun h => hK.out _ _ ?_) (fun h => hK.out _ _ ?_) <;> clear hK K)))
        (refine wpC_cond fun A B hA hB => ?_; simp only [go_sem, reduceIte, Nat.reduceAdd, Nat.reduceEqDiff, Nat.reduceLT, Nat.reduceLeDiff, *, and_self, ]; first | (refine hA.out ?_; clear hA hB A B) | (refine hB.out ?_; clear hA hB A B))
        repeat' (first | refine go1 ?_ | refine blockK_else rfl ?_ | (refine wpO_cons fun K hK => ?_; simp only [go_sem, reduceIte, Nat.reduceAdd, Nat.reduceEqDiff, Nat.reduceLT, Nat.reduceLeDiff, *, and_self, w2]; first | (refine hK.out _ _ ?_; clear hK K) | (refine iteI (fun h => hK.out _ _ ?_) (fun h => hK.out _ _ ?_) <;> clear hK K)))
        refine each_next hh2.out ?_ ?_ ?_
        · rw [hhS.out, List.all_cons, k5, Bool.true_and]
        · ((try simp only [eraseA_cons, eraseA_nil, setL_cons, setL_nil, List.set_cons_zero, List.set_cons_succ]); all_goals (first | rfl | (simp only [len_snoc, ints_len, List.length_map, ]; done) | (simp only [len_snoc, len_mid, ints_len, List.length_map, List.length_append, List.length_cons, List.length_nil, Nat.zero_add, ]; done) | (simp only [len_mid, len_snoc, ints_len, List.length_map, List.length_append, List.length_cons, List.length_nil, Nat.zero_add, ]; rfl)))
        · first | exact ⟨[], (List.append_nil _).symm⟩ | exact ⟨_, rfl⟩ | (simp only [List.append_assoc, List.cons_append, List.nil_append]; exact ⟨_, rfl⟩)
      · have k5 : isG gs y = false := by simpa using k5
        repeat' (first | refine go1 ?_ | refine blockK_else rfl ?_ | (refine wpO_cons fun K hK => ?_; simp only [go_sem, reduceIte, Nat.reduceAdd, Nat.reduceEqDiff, Nat.reduceLT, Nat.reduceLeDiff, *, and_self, ints_len]; first | (refine hK.out _ _ ?_; clear hK K) | (refine iteI (fun h => hK.out _ _ ?_) (fun h => hK.out _ _ ?_) <;> clear hK K)))
        (refine wpC_cond fun A B hA hB => ?_; simp only [go_sem, reduceIte, Nat.reduceAdd, Nat.reduceEqDiff, Nat.reduceLT, Nat.reduceLeDiff, *, and_self, lt2]; first | (refine hA.out ?_; clear hA hB A B) | (refine hB.out ?_; clear hA hB A B))
        repeat' (first | refine go1 ?_ | refine blockK_else rfl ?_ | (refine wpO_cons fun K hK => ?_; simp only [go_sem, reduceIte, Nat.reduceAdd, Nat.reduceEqDiff, Nat.reduceLT, Nat.reduceLeDiff, *, and_self, encG, c1, c2, s1, s2, hws, hvs, snap_str, getElem?_len, getElem?_lenAdd, set_len, set_lenAdd, len_mid, ints_len, List.length_map, lt_mid, List.nil_append, List.cons_append, Bool.not_true, Bool.not_false, adopt_int, adopt_two, adopt_osl, adopt_tsl, adopt_nils, j1, q, c3, c4]; first | (refine hK.out _ _ ?_; clear hK K) | (refine iteI (fun h => hK.out _ _ ?_) (fun h => hK.out _ _ ?_) <;> clear hK K)))
        (refine wpC_cond fun A B hA hB => ?_; simp only [go_sem, reduceIte, Nat.reduceAdd, Nat.reduceEqDiff, Nat.reduceLT, Nat.reduceLeDiff, *, and_self, ]; first | (refine hA.out ?_; clear hA hB A B) | (refine hB.out ?_; clear hA hB A B))
        repeat' (first | refine go1 ?_ | refine blockK_else rfl ?_ | (refine wpO_cons fun K hK => ?_; simp only [go_sem, reduceIte, Nat.reduceAdd, Nat.reduceEqDiff, Nat.reduceLT, Nat.reduceLeDiff, *, and_self, w2]; first | (refine hK.out _ _ ?_; clear hK K) | (refine iteI (fun h => hK.out _ _ ?_) (fun h => hK.out _ _ ?_) <;> clear hK K)))
        simp only [resultsR, resultsL, resultA, expK_int, expK_bool, expK_str, expK_agg, expK_own, expK_tsl, resK_some, go_sem, reduceIte, Nat.reduceAdd, Nat.reduceEqDiff, Nat.reduceLT, Nat.reduceLeDiff, and_self, ]
        have e : gs.all (fun g => g.subs.all (isG gs)) = false := by rw [hhE.out, List.all_cons, hhS.out, List.all_cons, k5, Bool.false_and, Bool.false_and]
        have e' : ¬ gs.all (fun g => g.subs.all (isG gs)) = true := by rw [e]; decide
        rw [chkG, if_pos hl20.out, if_pos (by assumption : Hold (errF ps [] gs = 0)).out, if_neg e']
  intro g' G' hA
  have hhA : Hold (gs.all (fun g => g.subs.all (isG gs)) = true) := ⟨by rw [hA]; rfl⟩
  clear hA
  simp only [garbA_cons, garbA_nil, setL_cons, setL_nil, List.set_cons_zero, List.set_cons_succ]
  generalize G ++ G' = G0
  repeat' (first | refine go1 ?_ | refine blockK_else rfl ?_ | (refine wpO_cons fun K hK => ?_; simp only [go_sem, reduceIte, Nat.reduceAdd, Nat.reduceEqDiff, Nat.reduceLT, Nat.reduceLeDiff, *, and_self, ]; first | (refine hK.out _ _ ?_; clear hK K) | (refine iteI (fun h => hK.out _ _ ?_) (fun h => hK.out _ _ ?_) <;> clear hK K)))
  (refine wpC_cond fun A B hA hB => ?_; simp only [go_sem, reduceIte, Nat.reduceAdd, Nat.reduceEqDiff, Nat.reduceLT, Nat.reduceLeDiff, *, and_self, Int.lt_irrefl]; first | (refine hA.out ?_; clear hA hB A B) | (refine hB.out ?_; clear hA hB A B))
  repeat' (first | refine go1 ?_ | refine blockK_else rfl ?_ | (refine wpO_cons fun K hK => ?_; simp only [go_sem, reduceIte, Nat.reduceAdd, Nat.reduceEqDiff, Nat.reduceLT, Nat.reduceLeDiff, *, and_self, lenK_sls h.sl, getElem?_len, getElem?_lenAdd, set_len, set_lenAdd, len_mid, ints_len, List.length_map, lt_mid, List.nil_append]; first | (refine hK.out _ _ ?_; clear hK K) | (refine iteI (fun h => hK.out _ _ ?_) (fun h => hK.out _ _ ?_) <;> clear hK K)))
  refine wpC_each [4, 14, 57, 58, 59, 60, 61, 62, 63, 64, 65, 66, 67] 56 gs (fun pre post => gs.any (fun g => (below gs g.id).contains g.id) = post.any (fun g => (below gs g.id).contains g.id)) ?_ ?_ ?_ ?_
  · rfl
  · rfl
  · intro g G hE
    have hhN : Hold (gs.any (fun g => (below gs g.id).contains g.id) = false) := ⟨by rw [hE]; rfl⟩
    clear hE
    simp only [garbA_cons, garbA_nil, setL_cons, setL_nil, List.set_cons_zero, List.set_cons_succ]
    repeat' (first | refine go1 ?_ | refine blockK_else rfl ?_ | (refine wpO_cons fun K hK => ?_; simp only [go_sem, reduceIte, Nat.reduceAdd, Nat.reduceEqDiff, Nat.reduceLT, Nat.reduceLeDiff, *, and_self, ]; first | (refine hK.out _ _ ?_; clear hK K) | (refine iteI (fun h => hK.out _ _ ?_) (fun h => hK.out _ _ ?_) <;> clear hK K)))
    (refine wpC_cond fun A B hA hB => ?_; simp only [go_sem, reduceIte, Nat.reduceAdd, Nat.reduceEqDiff, Nat.reduceLT, Nat.reduceLeDiff, *, and_self, Int.lt_irrefl]; first | (refine hA.out ?_; clear hA hB A B) | (refine hB.out ?_; clear hA hB A B))
    repeat' (first | refine go1 ?_ | refine blockK_else rfl ?_ | (refine wpO_cons fun K hK => ?_; simp only [go_sem, reduceIte, Nat.reduceAdd, Nat.reduceEqDiff, Nat.reduceLT, Nat.reduceLeDiff, *, and_self, ]; first | (refine hK.out _ _ ?_; clear hK K) | (refine iteI (fun h => hK.out _ _ ?_) (fun h => hK.out _ _ ?_) <;> clear hK K)))
    simp only [resultsR, resultsL, resultA, expK_int, expK_bool, expK_str, expK_agg, expK_own, expK_tsl, resK_some, go_sem, reduceIte, Nat.reduceAdd, Nat.reduceEqDiff, Nat.reduceLT, Nat.reduceLeDiff, and_self, ]
    have e' : ¬ gs.any (fun g => (below gs g.id).contains g.id) = true := by rw [hhN.out]; decide
    rw [chkG, if_pos hl20.out, if_pos hhE.out, if_pos hhA.out, if_neg e']
  · intro g G pre x post h1 hE
    have i0 := idx_sls h.sl (X := CX) ty23 ty37 rfl (n := pre.length) (row := encG x) (k := .i64) (map_at encG h1)
    have lt1 : (pre.length : Int) < (gs.length : Int) := by rw [h1]; simp; omega
    have w1 := wrap_succ (n := pre.length) (by rw [h1] at hgl; simp at hgl; omega)
    have hxm : x ∈ gs := by rw [h1]; simp
    have hx := h.ok x hxm
    have c1 := hx.pv.cell
    have c2 := hx.sv.cell
    have s1 := hx.pv.snap
    have s2 := hx.sv.snap
    have hh1 : Hold (gs = pre ++ x :: post) := ⟨h1⟩
    have hhN : Hold (gs.any (fun g => (below gs g.id).contains g.id) = (x :: post).any (fun g => (below gs g.id).contains g.id)) := ⟨hE⟩
    have hbl := below_len gs x.id
    obtain ⟨r, hr, hq⟩ := belowE h x.id
    have q := hq.rw
    clear h1 hE hxm hq
    simp only [garbA_cons, garbA_nil, setL_cons, setL_nil, List.set_cons_zero, List.set_cons_succ]
    obtain ⟨GG, hGG⟩ : ∃ GG, GG = G0 ++ G := ⟨_, rfl⟩
    rw [← hGG]
    have hhG : Hold (GG = G0 ++ G) := ⟨hGG⟩
    clear hGG
    cases hr with
    | own =>
      have q2 := (hasN (.tsl false 1 (ints (below gs x.id))) _ x.id (.rows false) (by omega)).rw
      by_cases k5 : (below gs x.id).contains x.id = true
      · rw [k5] at q2
        repeat' (first | refine go1 ?_ | refine blockK_else rfl ?_ | (refine wpO_cons fun K hK => ?_; simp only [go_sem, reduceIte, Nat.reduceAdd, Nat.reduceEqDiff, Nat.reduceLT, Nat.reduceLeDiff, *, and_self, ]; first | (refine hK.out _ _ ?_; clear hK K) | (refine iteI (fun h => hK.out _ _ ?_) (fun h => hK.out _ _ ?_) <;> clear hK K)))
        (refine wpC_cond fun A B hA hB => ?_; simp only [go_sem, reduceIte, Nat.reduceAdd, Nat.reduceEqDiff, Nat.reduceLT, Nat.reduceLeDiff, *, and_self, lt1]; first | (refine hA.out ?_; clear hA hB A B) | (refine hB.out ?_; clear hA hB A B))
        repeat' (first | refine go1 ?_ | refine blockK_else rfl ?_ | (refine wpO_cons fun K hK => ?_; simp only [go_sem, reduceIte, Nat.reduceAdd, Nat.reduceEqDiff, Nat.reduceLT, Nat.reduceLeDiff, *, and_self, encG, c1, c2, s1, s2, hws, hvs, snap_str, getElem?_len, getElem?_lenAdd, set_len, set_lenAdd, len_mid, ints_len, List.length_map, lt_mid, List.nil_append, List.cons_append, Bool.not_true, Bool.not_false, adopt_int, adopt_two, adopt_osl, adopt_tsl, adopt_nils, i0, q, q2, snap_sl, rowsOf_sl, ints_len, ints_take, List.take_length, Nat.zero_le, Nat.zero_add, Bool.true_or, List.append_assoc, List.nil_append]; first | (refine hK.out _ _ ?_; clear hK K) | (refine iteI (fun h => hK.out _ _ ?_) (fun h => hK.out _ _ ?_) <;> clear hK K)))
        (refine wpC_cond fun A B hA hB => ?_; simp only [go_sem, reduceIte, Nat.reduceAdd, Nat.reduceEqDiff, Nat.reduceLT, Nat.reduceLeDiff, *, and_self, ]; first | (refine hA.out ?_; clear hA hB A B) | (refine hB.out ?_; clear hA hB A B))
        repeat' (first | refine go1 ?_ | refine blockK_else rfl ?_ | (refine wpO_cons fun K hK => ?_; simp only [go_sem, reduceIte, Nat.reduceAdd, Nat.reduceEqDiff, Nat.reduceLT, Nat.reduceLeDiff, *, and_self, w1]; first | (refine hK.out _ _ ?_; clear hK K) | (refine iteI (fun h => hK.out _ _ ?_) (fun h => hK.out _ _ ?_) <;> clear hK K)))
        simp only [resultsR, resultsL, resultA, expK_int, expK_bool, expK_str, expK_agg, expK_own, expK_tsl, resK_some, go_sem, reduceIte, Nat.reduceAdd, Nat.reduceEqDiff, Nat.reduceLT, Nat.reduceLeDiff, and_self, ]
        have e : gs.any (fun g => (below gs g.id).contains g.id) = true := by rw [hhN.out, List.any_cons, k5, Bool.true_or]
        rw [chkG, if_pos hl20.out, if_pos hhE.out, if_pos hhA.out, if_pos e]
      · have k5 : (below gs x.id).contains x.id = false := by simpa using k5
        rw [k5] at q2
        repeat' (first | refine go1 ?_ | refine blockK_else rfl ?_ | (refine wpO_cons fun K hK => ?_; simp only [go_sem, reduceIte, Nat.reduceAdd, Nat.reduceEqDiff, Nat.reduceLT, Nat.reduceLeDiff, *, and_self, ]; first | (refine hK.out _ _ ?_; clear hK K) | (refine iteI (fun h => hK.out _ _ ?_) (fun h => hK.out _ _ ?_) <;> clear hK K)))
        (refine wpC_cond fun A B hA hB => ?_; simp only [go_sem, reduceIte, Nat.reduceAdd, Nat.reduceEqDiff, Nat.reduceLT, Nat.reduceLeDiff, *, and_self, lt1]; first | (refine hA.out ?_; clear hA hB A B) | (refine hB.out ?_; clear hA hB A B))
        repeat' (first | refine go1 ?_ | refine blockK_else rfl ?_ | (refine wpO_cons fun K hK => ?_; simp only [go_sem, reduceIte, Nat.reduceAdd, Nat.reduceEqDiff, Nat.reduceLT, Nat.reduceLeDiff, *, and_self, encG, c1, c2, s1, s2, hws, hvs, snap_str, getElem?_len, getElem?_lenAdd, set_len, set_lenAdd, len_mid, ints_len, List.length_map, lt_mid, List.nil_append, List.cons_append, Bool.not_true, Bool.not_false, adopt_int, adopt_two, adopt_osl, adopt_tsl, adopt_nils, i0, q, q2, snap_sl, rowsOf_sl, ints_len, ints_take, List.take_length, Nat.zero_le, Nat.zero_add, Bool.true_or, List.append_assoc, List.nil_append]; first | (refine hK.out _ _ ?_; clear hK K) | (refine iteI (fun h => hK.out _ _ ?_) (fun h => hK.out _ _ ?_) <;> clear hK K)))
        (refine wpC_cond fun A B hA hB => ?_; simp only [go_sem, reduceIte, Nat.reduceAdd, Nat.reduceEqDiff, Nat.reduceLT, Nat.reduceLeDiff, *, and_self, ]; first | (refine hA.out ?_; clear hA hB A B) | (refine hB.out ?_; clear hA hB A B))
        repeat' (first | refine go1 ?_ | refine blockK_else rfl ?_ | (refine wpO_cons fun K hK => ?_; simp only [go_sem, reduceIte, Nat.reduceAdd, Nat.reduceEqDiff, Nat.reduceLT, Nat.reduceLeDiff, *, and_self, w1]; first | (refine hK.out _ _ ?_; clear hK K) | (refine iteI (fun h => hK.out _ _ ?_) (fun h => hK.out _ _ ?_) <;> clear hK K)))
        refine each_next hh1.out ?_ ?_ ?_
        · rw [hhN.out, List.any_cons, k5, Bool.false_or]
        · ((try simp only [eraseA_cons, eraseA_nil, setL_cons, setL_nil, List.set_cons_zero, List.set_cons_succ]); all_goals (first | rfl | (simp only [len_snoc, ints_len, List.length_map, ]; done) | (simp only [len_snoc, len_mid, ints_len, List.length_map, List.length_append, List.length_cons, List.length_nil, Nat.zero_add, ]; done) | (simp only [len_mid, len_snoc, ints_len, List.length_map, List.length_append, List.length_cons, List.length_nil, Nat.zero_add, ]; rfl)))
        · rw [hhG.out]; first | exact ⟨[], (List.append_nil _).symm⟩ | exact ⟨_, rfl⟩ | (simp only [List.append_assoc, List.cons_append, List.nil_append]; exact ⟨_, rfl⟩)
    | part =>
      have q2 := (hasN (.tsl true 1 (ints (below gs x.id))) _ x.id (.rows true) (by omega)).rw
      by_cases k5 : (below gs x.id).contains x.id = true
      · rw [k5] at q2
        repeat' (first | refine go1 ?_ | refine blockK_else rfl ?_ | (refine wpO_cons fun K hK => ?_; simp only [go_sem, reduceIte, Nat.reduceAdd, Nat.reduceEqDiff, Nat.reduceLT, Nat.reduceLeDiff, *, and_self, ]; first | (refine hK.out _ _ ?_; clear hK K) | (refine iteI (fun h => hK.out _ _ ?_) (fun h => hK.out _ _ ?_) <;> clear hK K)))
        (refine wpC_cond fun A B hA hB => ?_; simp only [go_sem, reduceIte, Nat.reduceAdd, Nat.reduceEqDiff, Nat.reduceLT, Nat.reduceLeDiff, *, and_self, lt1]; first | (refine hA.out ?_; clear hA hB A B) | (refine hB.out ?_; clear hA hB A B))
        repeat' (first | refine go1 ?_ | refine blockK_else rfl ?_ | (refine wpO_cons fun K hK => ?_; simp only [go_sem, reduceIte, Nat.reduceAdd, Nat.reduceEqDiff, Nat.reduceLT, Nat.reduceLeDiff, *, and_self, encG, c1, c2, s1, s2, hws, hvs, snap_str, getElem?_len, getElem?_lenAdd, set_len, set_lenAdd, len_mid, ints_len, List.length_map, lt_mid, List.nil_append, List.cons_append, Bool.not_true, Bool.not_false, adopt_int, adopt_two, adopt_osl, adopt_tsl, adopt_nils, i0, q, q2, snap_sl, rowsOf_sl, ints_len, ints_take, List.take_length, Nat.zero_le, Nat.zero_add, Bool.true_or, List.append_assoc, List.nil_append]; first | (refine hK.out _ _ ?_; clear hK K) | (refine iteI (fun h => hK.out _ _ ?_) (fun h => hK.out _ _ ?_) <;> clear hK K)))
        (refine wpC_cond fun A B hA hB => ?_; simp only [go_sem, reduceIte, Nat.reduceAdd, Nat.reduceEqDiff, Nat.reduceLT, Nat.reduceLeDiff, *, and_self, ]; first | (refine hA.out ?_; clear hA hB A B) | (refine hB.out ?_; clear hA hB A B))
        repeat' (first | refine go1 ?_ | refine blockK_else rfl ?_ | (refine wpO_cons fun K hK => ?_; simp only [go_sem, reduceIte, Nat.reduceAdd, Nat.reduceEqDiff, Nat.reduceLT, Nat.reduceLeDiff, *, and_self, w1]; first | (refine hK.out _ _ ?_; clear hK K) | (refine iteI (fun h => hK.out _ _ ?_) (fun h => hK.out _ _ ?_) <;> clear hK K)))
        simp only [resultsR, resultsL, resultA, expK_int, expK_bool, expK_str, expK_agg, expK_own, expK_tsl, resK_some, go_sem, reduceIte, Nat.reduceAdd, Nat.reduceEqDiff, Nat.reduceLT, Nat.reduceLeDiff, and_self, ]
        have e : gs.any (fun g => (below gs g.id).contains g.id) = true := by rw [hhN.out, List.any_cons, k5, Bool.true_or]
        rw [chkG, if_pos hl20.out, if_pos hhE.out, if_pos hhA.out, if_pos e]
      · have k5 : (below gs x.id).contains x.id = false := by simpa using k5
        rw [k5] at q2
        repeat' (first | refine go1 ?_ | refine blockK_else rfl ?_ | (refine wpO_cons fun K hK => ?_; simp only [go_sem, reduceIte, Nat.reduceAdd, Nat.reduceEqDiff, Nat.reduceLT, Nat.reduceLeDiff, *, and_self, ]; first | (refine hK.out _ _ ?_; clear hK K) | (refine iteI (fun h => hK.out _ _ ?_) (fun h => hK.out _ _ ?_) <;> clear hK K)))
        (refine wpC_cond fun A B hA hB => ?_; simp only [go_sem, reduceIte, Nat.reduceAdd, Nat.reduceEqDiff, Nat.reduceLT, Nat.reduceLeDiff, *, and_self, lt1]; first | (refine hA.out ?_; clear hA hB A B) | (refine hB.out ?_; clear hA hB A B))
        repeat' (first | refine go1 ?_ | refine blockK_else rfl ?_ | (refine wpO_cons fun K hK => ?_; simp only [go_sem, reduceIte, Nat.reduceAdd, Nat.reduceEqDiff, Nat.reduceLT, Nat.reduceLeDiff, *, and_self, encG, c1, c2, s1, s2, hws, hvs, snap_str, getElem?_len, getElem?_lenAdd, set_len, set_lenAdd, len_mid, ints_len, List.length_map, lt_mid, List.nil_append, List.cons_append, Bool.not_true, Bool.not_false, adopt_int, adopt_two, adopt_osl, adopt_tsl, adopt_nils, i0, q, q2, snap_sl, rowsOf_sl, ints_len, ints_take, List.take_length, Nat.zero_le, Nat.zero_add, Bool.true_or, List.append_assoc, List.nil_append]; first | (refine hK.out _ _ ?_; clear hK K) | (refine iteI (fun h => hK.out _ _ ?_) (fun h => hK.out _ _ ?_) <;> clear hK K)))
        (refine wpC_cond fun A B hA hB => ?_; simp only [go_sem, reduceIte, Nat.reduceAdd, Nat.reduceEqDiff, Nat.reduceLT, Nat.reduceLeDiff, *, and_self, ]; first | (refine hA.out ?_; clear hA hB A B) | (refine hB.out ?_; clear hA hB A B))
        repeat' (first | refine go1 ?_ | refine blockK_else rfl ?_ | (refine wpO_cons fun K hK => ?_; simp only [go_sem, reduceIte, Nat.reduceAdd, Nat.reduceEqDiff, Nat.reduceLT, Nat.reduceLeDiff, *, and_self, w1]; first | (refine hK.out _ _ ?_; clear hK K) | (refine iteI (fun h => hK.out _ _ ?_) (fun h => hK.out _ _ ?_) <;> clear hK K)))
        refine each_next hh1.out ?_ ?_ ?_
        · rw [hhN.out, List.any_cons, k5, Bool.false_or]
        · ((try simp only [eraseA_cons, eraseA_nil, setL_cons, setL_nil, List.set_cons_zero, List.set_cons_succ]); all_goals (first | rfl | (simp only [len_snoc, ints_len, List.length_map, ]; done) | (simp only [len_snoc, len_mid, ints_len, List.length_map, List.length_append, List.length_cons, List.length_nil, Nat.zero_add, ]; done) | (simp only [len_mid, len_snoc, ints_len, List.length_map, List.length_append, List.length_cons, List.length_nil, Nat.zero_add, ]; rfl)))
        · rw [hhG.out]; first | exact ⟨[], (List.append_nil _).symm⟩ | exact ⟨_, rfl⟩ | (simp only [List.append_assoc, List.cons_append, List.nil_append]; exact ⟨_, rfl⟩)
    | nil hl =>
      have q2 := (hasN (.flat (.slice none 0 0)) (below gs x.id) x.id (.nil (by rw [hl]; rfl)) (by omega)).rw
      have k5 : (below gs x.id).contains x.id = false := by rw [hl]; rfl
      rw [k5] at q2
      clear hl hbl
      repeat' (first | refine go1 ?_ | refine blockK_else rfl ?_ | (refine wpO_cons fun K hK => ?_; simp only [go_sem, reduceIte, Nat.reduceAdd, Nat.reduceEqDiff, Nat.reduceLT, Nat.reduceLeDiff, *, and_self, ]; first | (refine hK.out _ _ ?_; clear hK K) | (refine iteI (fun h => hK.out _ _ ?_) (fun h => hK.out _ _ ?_) <;> clear hK K)))
      (refine wpC_cond fun A B hA hB => ?_; simp only [go_sem, reduceIte, Nat.reduceAdd, Nat.reduceEqDiff, Nat.reduceLT, Nat.reduceLeDiff, *, and_self, lt1]; first | (refine hA.out ?_; clear hA hB A B) | (refine hB.out ?_; clear hA hB A B))
      repeat' (first | refine go1 ?_ | refine blockK_else rfl ?_ | (refine wpO_cons fun K hK => ?_; simp only [go_sem, reduceIte, Nat.reduceAdd, Nat.reduceEqDiff, Nat.reduceLT, Nat.reduceLeDiff, *, and_self, encG, c1, c2, s1, s2, hws, hvs, snap_str, getElem?_len, getElem?_lenAdd, set_len, set_lenAdd, len_mid, ints_len, List.length_map, lt_mid, List.nil_append, List.cons_append, Bool.not_true, Bool.not_false, adopt_int, adopt_two, adopt_osl, adopt_tsl, adopt_nils, i0, q, q2, snap_sl, rowsOf_sl, ints_len, ints_take, List.take_length, Nat.zero_le, Nat.zero_add, Bool.true_or, List.append_assoc, List.nil_append]; first | (refine hK.out _ _ ?_; clear hK K) | (refine iteI (fun h => hK.out _ _ ?_) (fun h => hK.out _ _ ?_) <;> clear hK K)))
      (refine wpC_cond fun A B hA hB => ?_; simp only [go_sem, reduceIte, Nat.reduceAdd, Nat.reduceEqDiff, Nat.reduceLT, Nat.reduceLeDiff, *, and_self, ]; first | (refine hA.out ?_; clear hA hB A B) | (refine hB.out ?_; clear hA hB A B))
      repeat' (first | refine go1 ?_ | refine blockK_else rfl ?_ | (refine wpO_cons fun K hK => ?_; simp only [go_sem, reduceIte, Nat.reduceAdd, Nat.reduceEqDiff, Nat.reduceLT, Nat.reduceLeDiff, *, and_self, w1]; first | (refine hK.out _ _ ?_; clear hK K) | (refine iteI (fun h => hK.out _ _ ?_) (fun h => hK.out _ _ ?_) <;> clear hK K)))
      refine each_next hh1.out ?_ ?_ ?_
      · rw [hhN.out, List.any_cons, k5, Bool.false_or]
      · ((try simp only [eraseA_cons, eraseA_nil, setL_cons, setL_nil, List.set_cons_zero, List.set_cons_succ]); all_goals (first | rfl | (simp only [len_snoc, ints_len, List.length_map, ]; done) | (simp only [len_snoc, len_mid, ints_len, List.length_map, List.length_append, List.length_cons, List.length_nil, Nat.zero_add, ]; done) | (simp only [len_mid, len_snoc, ints_len, List.length_map, List.length_append, List.length_cons, List.length_nil, Nat.zero_add, ]; rfl)))
      · rw [hhG.out]; first | exact ⟨[], (List.append_nil _).symm⟩ | exact ⟨_, rfl⟩ | (simp only [List.append_assoc, List.cons_append, List.nil_append]; exact ⟨_, rfl⟩)

/- Groups: Check of the reference. -/
open Go.Proofs
attribute [local go_sem] br17 br24 br33 br34 fz86 fz87 fz88
set_option maxHeartbeats 4000000

theorem clo_of {gs : List Grp} (h : gs.all (fun g => g.subs.all (isG gs)) = true) : Clo gs := by
  intro g hg s hs
  simp only [List.all_eq_true] at h
  exact h g hg s hs

theorem checkR {v w : AV} {gs : List Grp} {ps : List Psn} (h : GsOK v gs) (hw : SLs 3 (ps.map encP) w) (hps : ps.length ≤ 1000) (hn : ∀ g ∈ gs, g.name.size ≤ 1000) : EvV CX 13 [w, v] (· = .int .i64 (chkG ps gs)) := by
  have hvs := fun S => h.sl.snap (S := S)
  have hws := hw.snap
  have hgl := h.len
  by_cases k1 : 20 < (gs.length : Int)
  · refine EvV.walk rfl fn13 rfl nt13 rfl ?_
    simp only [List.length_cons, List.length_nil, List.cons_append, List.nil_append, Nat.reduceAdd, Nat.reduceSub, List.replicate]
    repeat' (first | refine go1 ?_ | refine blockK_else rfl ?_ | (refine wpO_cons fun K hK => ?_; simp only [go_sem, reduceIte, Nat.reduceAdd, Nat.reduceEqDiff, Nat.reduceLT, Nat.reduceLeDiff, *, and_self, lenK_sls h.sl, getElem?_len, getElem?_lenAdd, set_len, set_lenAdd, len_mid, ints_len, List.length_map, lt_mid, List.nil_append]; first | (refine hK.out _ _ ?_; clear hK K) | (refine iteI (fun h => hK.out _ _ ?_) (fun h => hK.out _ _ ?_) <;> clear hK K)))
    (refine wpC_cond fun A B hA hB => ?_; simp only [go_sem, reduceIte, Nat.reduceAdd, Nat.reduceEqDiff, Nat.reduceLT, Nat.reduceLeDiff, *, and_self, getElem?_len, getElem?_lenAdd, set_len, set_lenAdd, len_mid, ints_len, List.length_map, lt_mid, List.nil_append]; first | (refine hA.out ?_; clear hA hB A B) | (refine hB.out ?_; clear hA hB A B))
    repeat' (first | refine go1 ?_ | refine blockK_else rfl ?_ | (refine wpO_cons fun K hK => ?_; simp only [go_sem, reduceIte, Nat.reduceAdd, Nat.reduceEqDiff, Nat.reduceLT, Nat.reduceLeDiff, *, and_self, ]; first | (refine hK.out _ _ ?_; clear hK K) | (refine iteI (fun h => hK.out _ _ ?_) (fun h => hK.out _ _ ?_) <;> clear hK K)))
    simp only [resultsR, resultsL, resultA, expK_int, expK_bool, expK_str, expK_agg, expK_own, expK_tsl, resK_some, go_sem, reduceIte, Nat.reduceAdd, Nat.reduceEqDiff, Nat.reduceLT, Nat.reduceLeDiff, and_self, ]
    have : ¬ gs.length ≤ 20 := by omega
    simp [chkG, this]
  have l20 : gs.length ≤ 20 := by omega
  refine EvV.walk rfl fn13 rfl nt13 rfl ?_
  simp only [List.length_cons, List.length_nil, List.cons_append, List.nil_append, Nat.reduceAdd, Nat.reduceSub, List.replicate]
  repeat' (first | refine go1 ?_ | refine blockK_else rfl ?_ | (refine wpO_cons fun K hK => ?_; simp only [go_sem, reduceIte, Nat.reduceAdd, Nat.reduceEqDiff, Nat.reduceLT, Nat.reduceLeDiff, *, and_self, lenK_sls h.sl, getElem?_len, getElem?_lenAdd, set_len, set_lenAdd, len_mid, ints_len, List.length_map, lt_mid, List.nil_append]; first | (refine hK.out _ _ ?_; clear hK K) | (refine iteI (fun h => hK.out _ _ ?_) (fun h => hK.out _ _ ?_) <;> clear hK K)))
  (refine wpC_cond fun A B hA hB => ?_; simp only [go_sem, reduceIte, Nat.reduceAdd, Nat.reduceEqDiff, Nat.reduceLT, Nat.reduceLeDiff, *, and_self, getElem?_len, getElem?_lenAdd, set_len, set_lenAdd, len_mid, ints_len, List.length_map, lt_mid, List.nil_append]; first | (refine hA.out ?_; clear hA hB A B) | (refine hB.out ?_; clear hA hB A B))
  repeat' (first | refine go1 ?_ | refine blockK_else rfl ?_ | (refine wpO_cons fun K hK => ?_; simp only [go_sem, reduceIte, Nat.reduceAdd, Nat.reduceEqDiff, Nat.reduceLT, Nat.reduceLeDiff, *, and_self, lenK_sls h.sl, getElem?_len, getElem?_lenAdd, set_len, set_lenAdd, len_mid, ints_len, List.length_map, lt_mid, List.nil_append]; first | (refine hK.out _ _ ?_; clear hK K) | (refine iteI (fun h => hK.out _ _ ?_) (fun h => hK.out _ _ ?_) <;> clear hK K)))
  have hl20 : Hold (gs.length ≤ 20) := ⟨l20⟩
  clear k1 l20
  refine wpC_each [4, 5, 6, 16, 17, 18, 19, 20, 21, 22, 23, 24, 25] 15 gs (fun pre post => errF ps [] gs = errF ps pre post) ?_ ?_ ?_ ?_
  · rfl
  · rfl
  rotate_left
  · intro g G pre x post h1 hE
    have lt1 : (pre.length : Int) < (gs.length : Int) := by rw [h1]; simp; omega
    have w1 := wrap_succ (n := pre.length) (by rw [h1] at hgl; simp at hgl; omega)
    have q := (oneR h hw hps h1 (hn x (by rw [h1]; simp))).rw
    have hh1 : Hold (gs = pre ++ x :: post) := ⟨h1⟩
    have hhE : Hold (errF ps [] gs = errF ps pre (x :: post)) := ⟨hE⟩
    clear h1 hE
    obtain ⟨e, he⟩ : ∃ e, errG ps pre x = e := ⟨_, rfl⟩
    have hhe : Hold (errG ps pre x = e) := ⟨he⟩
    rw [he] at q
    clear he
    simp only [garbA_cons, garbA_nil, setL_cons, setL_nil, List.set_cons_zero, List.set_cons_succ]
    by_cases k2 : e = 0
    · subst k2
      have z : ((0 : Int) != 0) = false := rfl
      repeat' (first | refine go1 ?_ | refine blockK_else rfl ?_ | (refine wpO_cons fun K hK => ?_; simp only [go_sem, reduceIte, Nat.reduceAdd, Nat.reduceEqDiff, Nat.reduceLT, Nat.reduceLeDiff, *, and_self, ]; first | (refine hK.out _ _ ?_; clear hK K) | (refine iteI (fun h => hK.out _ _ ?_) (fun h => hK.out _ _ ?_) <;> clear hK K)))
      (refine wpC_cond fun A B hA hB => ?_; simp only [go_sem, reduceIte, Nat.reduceAdd, Nat.reduceEqDiff, Nat.reduceLT, Nat.reduceLeDiff, *, and_self, lt1]; first | (refine hA.out ?_; clear hA hB A B) | (refine hB.out ?_; clear hA hB A B))
      repeat' (first | refine go1 ?_ | refine blockK_else rfl ?_ | (refine wpO_cons fun K hK => ?_; simp only [go_sem, reduceIte, Nat.reduceAdd, Nat.reduceEqDiff, Nat.reduceLT, Nat.reduceLeDiff, *, and_self, hws, hvs, adopt_int, getElem?_len, getElem?_lenAdd, set_len, set_lenAdd, len_mid, ints_len, List.length_map, lt_mid, List.nil_append, q]; first | (refine hK.out _ _ ?_; clear hK K) | (refine iteI (fun h => hK.out _ _ ?_) (fun h => hK.out _ _ ?_) <;> clear hK K)))
      (refine wpC_cond fun A B hA hB => ?_; simp only [go_sem, reduceIte, Nat.reduceAdd, Nat.reduceEqDiff, Nat.reduceLT, Nat.reduceLeDiff, *, and_self, z]; first | (refine hA.out ?_; clear hA hB A B) | (refine hB.out ?_; clear hA hB A B))
      repeat' (first | refine go1 ?_ | refine blockK_else rfl ?_ | (refine wpO_cons fun K hK => ?_; simp only [go_sem, reduceIte, Nat.reduceAdd, Nat.reduceEqDiff, Nat.reduceLT, Nat.reduceLeDiff, *, and_self, w1]; first | (refine hK.out _ _ ?_; clear hK K) | (refine iteI (fun h => hK.out _ _ ?_) (fun h => hK.out _ _ ?_) <;> clear hK K)))
      refine each_next hh1.out ?_ ?_ ?_
      · rw [hhE.out, errF, if_pos hhe.out]
      · ((try simp only [eraseA_cons, eraseA_nil, setL_cons, setL_nil, List.set_cons_zero, List.set_cons_succ]); all_goals (first | rfl | (simp only [len_snoc, ints_len, List.length_map, ]; done) | (simp only [len_snoc, len_mid, ints_len, List.length_map, List.length_append, List.length_cons, List.length_nil, Nat.zero_add, ]; done) | (simp only [len_mid, len_snoc, ints_len, List.length_map, List.length_append, List.length_cons, List.length_nil, Nat.zero_add, ]; rfl)))
      · first | exact ⟨[], (List.append_nil _).symm⟩ | exact ⟨_, rfl⟩ | (simp only [List.append_assoc, List.cons_append, List.nil_append]; exact ⟨_, rfl⟩)
    · repeat' (first | refine go1 ?_ | refine blockK_else rfl ?_ | (refine wpO_cons fun K hK => ?_; simp only [go_sem, reduceIte, Nat.reduceAdd, Nat.reduceEqDiff, Nat.reduceLT, Nat.reduceLeDiff, *, and_self, ]; first | (refine hK.out _ _ ?_; clear hK K) | (refine iteI (fun h => hK.out _ _ ?_) (fun h => hK.out _ _ ?_) <;> clear hK K)))
      (refine wpC_cond fun A B hA hB => ?_; simp only [go_sem, reduceIte, Nat.reduceAdd, Nat.reduceEqDiff, Nat.reduceLT, Nat.reduceLeDiff, *, and_self, lt1]; first | (refine hA.out ?_; clear hA hB A B) | (refine hB.out ?_; clear hA hB A B))
      repeat' (first | refine go1 ?_ | refine blockK_else rfl ?_ | (refine wpO_cons fun K hK => ?_; simp only [go_sem, reduceIte, Nat.reduceAdd, Nat.reduceEqDiff, Nat.reduceLT, Nat.reduceLeDiff, *, and_self, hws, hvs, adopt_int, getElem?_len, getElem?_lenAdd, set_len, set_lenAdd, len_mid, ints_len, List.length_map, lt_mid, List.nil_append, q]; first | (refine hK.out _ _ ?_; clear hK K) | (refine iteI (fun h => hK.out _ _ ?_) (fun h => hK.out _ _ ?_) <;> clear hK K)))
      (refine wpC_cond fun A B hA hB => ?_; simp only [go_sem, reduceIte, Nat.reduceAdd, Nat.reduceEqDiff, Nat.reduceLT, Nat.reduceLeDiff, *, and_self, k2]; first | (refine hA.out ?_; clear hA hB A B) | (refine hB.out ?_; clear hA hB A B))
      repeat' (first | refine go1 ?_ | refine blockK_else rfl ?_ | (refine wpO_cons fun K hK => ?_; simp only [go_sem, reduceIte, Nat.reduceAdd, Nat.reduceEqDiff, Nat.reduceLT, Nat.reduceLeDiff, *, and_self, w1]; first | (refine hK.out _ _ ?_; clear hK K) | (refine iteI (fun h => hK.out _ _ ?_) (fun h => hK.out _ _ ?_) <;> clear hK K)))
      simp only [resultsR, resultsL, resultA, expK_int, expK_bool, expK_str, expK_agg, expK_own, expK_tsl, resK_some, go_sem, reduceIte, Nat.reduceAdd, Nat.reduceEqDiff, Nat.reduceLT, Nat.reduceLeDiff, and_self, ]
      have e1 : errF ps [] gs = e := by rw [hhE.out, errF, hhe.out, if_neg k2]
      simp [chkG, hl20.out, e1, k2]
  intro g G hE
  have hhE : Hold (errF ps [] gs = 0) := ⟨hE⟩
  clear hE
  simp only [garbA_cons, garbA_nil, setL_cons, setL_nil, List.set_cons_zero, List.set_cons_succ]
  repeat' (first | refine go1 ?_ | refine blockK_else rfl ?_ | (refine wpO_cons fun K hK => ?_; simp only [go_sem, reduceIte, Nat.reduceAdd, Nat.reduceEqDiff, Nat.reduceLT, Nat.reduceLeDiff, *, and_self, ]; first | (refine hK.out _ _ ?_; clear hK K) | (refine iteI (fun h => hK.out _ _ ?_) (fun h => hK.out _ _ ?_) <;> clear hK K)))
  (refine wpC_cond fun A B hA hB => ?_; simp only [go_sem, reduceIte, Nat.reduceAdd, Nat.reduceEqDiff, Nat.reduceLT, Nat.reduceLeDiff, *, and_self, Int.lt_irrefl]; first | (refine hA.out ?_; clear hA hB A B) | (refine hB.out ?_; clear hA hB A B))
  repeat' (first | refine go1 ?_ | refine blockK_else rfl ?_ | (refine wpO_cons fun K hK => ?_; simp only [go_sem, reduceIte, Nat.reduceAdd, Nat.reduceEqDiff, Nat.reduceLT, Nat.reduceLeDiff, *, and_self, lenK_sls h.sl, getElem?_len, getElem?_lenAdd, set_len, set_lenAdd, len_mid, ints_len, List.length_map, lt_mid, List.nil_append]; first | (refine hK.out _ _ ?_; clear hK K) | (refine iteI (fun h => hK.out _ _ ?_) (fun h => hK.out _ _ ?_) <;> clear hK K)))
  refine wpC_each [4, 7, 8, 29, 30, 31, 32, 33, 34, 35, 36, 37, 38, 39, 40, 41, 42, 43, 44, 45, 46, 47, 48, 49, 50, 51, 52] 28 gs (fun pre post => gs.all (fun g => g.subs.all (isG gs)) = post.all (fun g => g.subs.all (isG gs))) ?_ ?_ ?_ ?_
  · rfl
  · rfl
  rotate_left
  · intro g G pre x post h1 hE
    have i0 := idx_sls h.sl (X := CX) ty23 ty37 rfl (n := pre.length) (row := encG x) (k := .i64) (map_at encG h1)
    have lt1 : (pre.length : Int) < (gs.length : Int) := by rw [h1]; simp; omega
    have w1 := wrap_succ (n := pre.length) (by rw [h1] at hgl; simp at hgl; omega)
    have hxm : x ∈ gs := by rw [h1]; simp
    have hx := h.ok x hxm
    have hsl := h.subs x hxm
    have c1 := hx.pv.cell
    have c2 := hx.sv.cell
    have s1 := hx.pv.snap
    have s2 := hx.sv.snap
    have hh1 : Hold (gs = pre ++ x :: post) := ⟨h1⟩
    have hhE : Hold (gs.all (fun g => g.subs.all (isG gs)) = (x :: post).all (fun g => g.subs.all (isG gs))) := ⟨hE⟩
    clear h1 hE hxm
    simp only [garbA_cons, garbA_nil, setL_cons, setL_nil, List.set_cons_zero, List.set_cons_succ]
    repeat' (first | refine go1 ?_ | refine blockK_else rfl ?_ | (refine wpO_cons fun K hK => ?_; simp only [go_sem, reduceIte, Nat.reduceAdd, Nat.reduceEqDiff, Nat.reduceLT, Nat.reduceLeDiff, *, and_self, ]; first | (refine hK.out _ _ ?_; clear hK K) | (refine iteI (fun h => hK.out _ _ ?_) (fun h => hK.out _ _ ?_) <;> clear hK K)))
    (refine wpC_cond fun A B hA hB => ?_; simp only [go_sem, reduceIte, Nat.reduceAdd, Nat.reduceEqDiff, Nat.reduceLT, Nat.reduceLeDiff, *, and_self, lt1]; first | (refine hA.out ?_; clear hA hB A B) | (refine hB.out ?_; clear hA hB A B))
    repeat' (first | refine go1 ?_ | refine blockK_else rfl ?_ | (refine wpO_cons fun K hK => ?_; simp only [go_sem, reduceIte, Nat.reduceAdd, Nat.reduceEqDiff, Nat.reduceLT, Nat.reduceLeDiff, *, and_self, encG, c1, c2, s1, s2, hws, hvs, snap_str, getElem?_len, getElem?_lenAdd, set_len, set_lenAdd, len_mid, ints_len, List.length_map, lt_mid, List.nil_append, List.cons_append, Bool.not_true, Bool.not_false, adopt_int, adopt_two, adopt_osl, adopt_tsl, adopt_nils, i0, lenK_sls hx.sv]; first | (refine hK.out _ _ ?_; clear hK K) | (refine iteI (fun h => hK.out _ _ ?_) (fun h => hK.out _ _ ?_) <;> clear hK K)))
    refine wpC_each [4, 8, 38, 39, 40, 41, 42, 43, 44, 45, 46, 47, 48, 49, 50, 51] 37 x.subs (fun _ post => x.subs.all (isG gs) = post.all (isG gs)) ?_ ?_ ?_ ?_
    · rfl
    · rfl
    · intro g' G' hS
      have hhS : Hold (x.subs.all (isG gs) = true) := ⟨by rw [hS]; rfl⟩
      clear hS
      simp only [garbA_cons, garbA_nil, setL_cons, setL_nil, List.set_cons_zero, List.set_cons_succ]
      repeat' (first | refine go1 ?_ | refine blockK_else rfl ?_ | (refine wpO_cons fun K hK => ?_; simp only [go_sem, reduceIte, Nat.reduceAdd, Nat.reduceEqDiff, Nat.reduceLT, Nat.reduceLeDiff, *, and_self, ]; first | (refine hK.out _ _ ?_; clear hK K) | (refine iteI (fun h => hK.out _ _ ?_) (fun h => hK.out _ _ ?_) <;> clear hK K)))
      (refine wpC_cond fun A B hA hB => ?_; simp only [go_sem, reduceIte, Nat.reduceAdd, Nat.reduceEqDiff, Nat.reduceLT, Nat.reduceLeDiff, *, and_self, ints_len, List.length_map, Int.lt_irrefl, List.nil_append]; first | (refine hA.out ?_; clear hA hB A B) | (refine hB.out ?_; clear hA hB A B))
      repeat' (first | refine go1 ?_ | refine blockK_else rfl ?_ | (refine wpO_cons fun K hK => ?_; simp only [go_sem, reduceIte, Nat.reduceAdd, Nat.reduceEqDiff, Nat.reduceLT, Nat.reduceLeDiff, *, and_self, w1]; first | (refine hK.out _ _ ?_; clear hK K) | (refine iteI (fun h => hK.out _ _ ?_) (fun h => hK.out _ _ ?_) <;> clear hK K)))
      refine each_next hh1.out ?_ ?_ ?_
      · rw [hhE.out, List.all_cons, hhS.out, Bool.true_and]
      · ((try simp only [eraseA_cons, eraseA_nil, setL_cons, setL_nil, List.set_cons_zero, List.set_cons_succ]); all_goals (first | rfl | (simp only [len_snoc, ints_len, List.length_map, ]; done) | (simp only [len_snoc, len_mid, ints_len, List.length_map, List.length_append, List.length_cons, List.length_nil, Nat.zero_add, ]; done) | (simp only [len_mid, len_snoc, ints_len, List.length_map, List.length_append, List.length_cons, List.length_nil, Nat.zero_add, ]; rfl)))
      · first | exact ⟨[], (List.append_nil _).symm⟩ | exact ⟨_, rfl⟩ | (simp only [List.append_assoc, List.cons_append, List.nil_append]; exact ⟨_, rfl⟩)
    · intro g' G' pr y po h2 hS
      have j1 := idx_sls hx.sv (X := CX) ty29 ty3 rfl (by rw [h2]; exact ints_mid pr y po) (k := .i64)
      have lt2 : (pr.length : Int) < (x.subs.length : Int) := by rw [h2]; simp; omega
      have w2 := wrap_succ (n := pr.length) (by omega)
      have q := (findR h y).rw
      have hh2 : Hold (x.subs = pr ++ y :: po) := ⟨h2⟩
      have hhS : Hold (x.subs.all (isG gs) = (y :: po).all (isG gs)) := ⟨hS⟩
      clear h2 hS
      simp only [garbA_cons, garbA_nil, setL_cons, setL_nil, List.set_cons_zero, List.set_cons_succ]
      rcases gIdx_cases gs y with ⟨k5, e2⟩ | ⟨a, b, k5, e2, e3⟩
      rotate_left
      · rw [e3] at q
        have z : ¬ (a.length : Int) < 0 := by omega
        clear e2 e3
        repeat' (first | refine go1 ?_ | refine blockK_else rfl ?_ | (refine wpO_cons fun K hK => ?_; simp only [go_sem, reduceIte, Nat.reduceAdd, Nat.reduceEqDiff, Nat.reduceLT, Nat.reduceLeDiff, *, and_self, ints_len]; first | (refine hK.out _ _ ?_; clear hK K) | (refine iteI (fun h => hK.out _ _ ?_) (fun h => hK.out _ _ ?_) <;> clear hK K)))
        (refine wpC_cond fun A B hA hB => ?_; simp only [go_sem, reduceIte, Nat.reduceAdd, Nat.reduceEqDiff, Nat.reduceLT, Nat.reduceLeDiff, *, and_self, lt2]; first | (refine hA.out ?_; clear hA hB A B) | (refine hB.out ?_; clear hA hB A B))
        repeat' (first | refine go1 ?_ | refine blockK_else rfl ?_ | (refine wpO_cons fun K hK => ?_; simp only [go_sem, reduceIte, Nat.reduceAdd, Nat.reduceEqDiff, Nat.reduceLT, Nat.reduceLeDiff, *, and_self, encG, c1, c2, s1, s2, hws, hvs, snap_str, getElem?_len, getElem?_lenAdd, set_len, set_lenAdd, len_mid, ints_len, List.length_map, lt_mid, List.nil_append, List.cons_append, Bool.not_true, Bool.not_false, adopt_int, adopt_two, adopt_osl, adopt_tsl, adopt_nils, i0, j1, q]; first | (refine hK.out _ _ ?_; clear hK K) | (refine iteI (fun h => hK.out _ _ ?_) (fun h => hK.out _ _ ?_) <;> clear hK K)))
        (refine wpC_cond fun A B hA hB => ?_; simp only [go_sem, reduceIte, Nat.reduceAdd, Nat.reduceEqDiff, Nat.reduceLT, Nat.reduceLeDiff, *, and_self, ]; first | (refine hA.out ?_; clear hA hB A B) | (refine hB.out ?_; clear hA hB A B))
        repeat' (first | refine go1 ?_ | refine blockK_else rfl ?_ | (refine wpO_cons fun K hK => ?_; simp only [go_sem, reduceIte, Nat.reduceAdd, Nat.reduceEqDiff, Nat.reduceLT, Nat.reduceLeDiff, *, and_self, w2]; first | (refine hK.out _ _ ?_; clear hK K) | (refine iteI (fun h => hK.out _ _ ?_) (fun h => hK.out _ _ ?_) <;> clear hK K)))
        refine each_next hh2.out ?_ ?_ ?_
        · rw [hhS.out, List.all_cons, k5, Bool.true_and]
        · ((try simp only [eraseA_cons, eraseA_nil, setL_cons, setL_nil, List.set_cons_zero, List.set_cons_succ]); all_goals (first | rfl | (simp only [len_snoc, ints_len, List.length_map, ]; done) | (simp only [len_snoc, len_mid, ints_len, List.length_map, List.length_append, List.length_cons, List.length_nil, Nat.zero_add, ]; done) | (simp only [len_mid, len_snoc, ints_len, List.length_map, List.length_append, List.length_cons, List.length_nil, Nat.zero_add, ]; rfl)))
        · first | exact ⟨[], (List.append_nil _).symm⟩ | exact ⟨_, rfl⟩ | (simp only [List.append_assoc, List.cons_append, List.nil_append]; exact ⟨_, rfl⟩)
      · rw [e2] at q
        have z : (-1 : Int) < 0 := by omega
        clear e2
        repeat' (first | refine go1 ?_ | refine blockK_else rfl ?_ | (refine wpO_cons fun K hK => ?_; simp only [go_sem, reduceIte, Nat.reduceAdd, Nat.reduceEqDiff, Nat.reduceLT, Nat.reduceLeDiff, *, and_self, ints_len]; first | (refine hK.out _ _ ?_; clear hK K) | (refine iteI (fun h => hK.out _ _ ?_) (fun h => hK.out _ _ ?_) <;> clear hK K)))
        (refine wpC_cond fun A B hA hB => ?_; simp only [go_sem, reduceIte, Nat.reduceAdd, Nat.reduceEqDiff, Nat.reduceLT, Nat.reduceLeDiff, *, and_self, lt2]; first | (refine hA.out ?_; clear hA hB A B) | (refine hB.out ?_; clear hA hB A B))
        repeat' (first | refine go1 ?_ | refine blockK_else rfl ?_ | (refine wpO_cons fun K hK => ?_; simp only [go_sem, reduceIte, Nat.reduceAdd, Nat.reduceEqDiff, Nat.reduceLT, Nat.reduceLeDiff, *, and_self, encG, c1, c2, s1, s2, hws, hvs, snap_str, getElem?_len, getElem?_lenAdd, set_len, set_lenAdd, len_mid, ints_len, List.length_map, lt_mid, List.nil_append, List.cons_append, Bool.not_true, Bool.not_false, adopt_int, adopt_two, adopt_osl, adopt_tsl, adopt_nils, i0, j1, q]; first | (refine hK.out _ _ ?_; clear hK K) | (refine iteI (fun h => hK.out _ _ ?_) (fun h => hK.out _ _ ?_) <;> clear hK K)))
        (refine wpC_cond fun A B hA hB => ?_; simp only [go_sem, reduceIte, Nat.reduceAdd, Nat.reduceEqDiff, Nat.reduceLT, Nat.reduceLeDiff, *, and_self, ]; first | (refine hA.out ?_; clear hA hB A B) | (refine hB.out ?_; clear hA hB A B))
        repeat' (first | refine go1 ?_ | refine blockK_else rfl ?_ | (refine wpO_cons fun K hK => ?_; simp only [go_sem, reduceIte, Nat.reduceAdd, Nat.reduceEqDiff, Nat.reduceLT, Nat.reduceLeDiff, *, and_self, w2]; first | (refine hK.out _ _ ?_; clear hK K) | (refine iteI (fun h => hK.out _ _ ?_) (fun h => hK.out _ _ ?_) <;> clear hK K)))
        simp only [resultsR, resultsL, resultA, expK_int, expK_bool, expK_str, expK_agg, expK_own, expK_tsl, resK_some, go_sem, reduceIte, Nat.reduceAdd, Nat.reduceEqDiff, Nat.reduceLT, Nat.reduceLeDiff, and_self, ]
        have e : gs.all (fun g => g.subs.all (isG gs)) = false := by rw [hhE.out, List.all_cons, hhS.out, List.all_cons, k5, Bool.false_and, Bool.false_and]
        have e' : ¬ gs.all (fun g => g.subs.all (isG gs)) = true := by rw [e]; decide
        rw [chkG, if_pos hl20.out, if_pos (by assumption : Hold (errF ps [] gs = 0)).out, if_neg e']
  intro g' G' hA
  have hhA : Hold (gs.all (fun g => g.subs.all (isG gs)) = true) := ⟨by rw [hA]; rfl⟩
  clear hA
  simp only [garbA_cons, garbA_nil, setL_cons, setL_nil, List.set_cons_zero, List.set_cons_succ]
  generalize G ++ G' = G0
  repeat' (first | refine go1 ?_ | refine blockK_else rfl ?_ | (refine wpO_cons fun K hK => ?_; simp only [go_sem, reduceIte, Nat.reduceAdd, Nat.reduceEqDiff, Nat.reduceLT, Nat.reduceLeDiff, *, and_self, ]; first | (refine hK.out _ _ ?_; clear hK K) | (refine iteI (fun h => hK.out _ _ ?_) (fun h => hK.out _ _ ?_) <;> clear hK K)))
  (refine wpC_cond fun A B hA hB => ?_; simp only [go_sem, reduceIte, Nat.reduceAdd, Nat.reduceEqDiff, Nat.reduceLT, Nat.reduceLeDiff, *, and_self, Int.lt_irrefl]; first | (refine hA.out ?_; clear hA hB A B) | (refine hB.out ?_; clear hA hB A B))
  repeat' (first | refine go1 ?_ | refine blockK_else rfl ?_ | (refine wpO_cons fun K hK => ?_; simp only [go_sem, reduceIte, Nat.reduceAdd, Nat.reduceEqDiff, Nat.reduceLT, Nat.reduceLeDiff, *, and_self, lenK_sls h.sl, getElem?_len, getElem?_lenAdd, set_len, set_lenAdd, len_mid, ints_len, List.length_map, lt_mid, List.nil_append]; first | (refine hK.out _ _ ?_; clear hK K) | (refine iteI (fun h => hK.out _ _ ?_) (fun h => hK.out _ _ ?_) <;> clear hK K)))
  refine wpC_each [4, 9, 56, 57, 58, 59, 60, 61, 62, 63, 64, 65, 66, 67, 68, 69, 70, 71] 55 gs (fun pre post => gs.any (fun g => (below gs g.id).contains g.id) = post.any (fun g => (below gs g.id).contains g.id)) ?_ ?_ ?_ ?_
  · rfl
  · rfl
  · intro g G hE
    have hhN : Hold (gs.any (fun g => (below gs g.id).contains g.id) = false) := ⟨by rw [hE]; rfl⟩
    clear hE
    simp only [garbA_cons, garbA_nil, setL_cons, setL_nil, List.set_cons_zero, List.set_cons_succ]
    repeat' (first | refine go1 ?_ | refine blockK_else rfl ?_ | (refine wpO_cons fun K hK => ?_; simp only [go_sem, reduceIte, Nat.reduceAdd, Nat.reduceEqDiff, Nat.reduceLT, Nat.reduceLeDiff, *, and_self, ]; first | (refine hK.out _ _ ?_; clear hK K) | (refine iteI (fun h => hK.out _ _ ?_) (fun h => hK.out _ _ ?_) <;> clear hK K)))
    (refine wpC_cond fun A B hA hB => ?_; simp only [go_sem, reduceIte, Nat.reduceAdd, Nat.reduceEqDiff, Nat.reduceLT, Nat.reduceLeDiff, *, and_self, Int.lt_irrefl]; first | (refine hA.out ?_; clear hA hB A B) | (refine hB.out ?_; clear hA hB A B))
    repeat' (first | refine go1 ?_ | refine blockK_else rfl ?_ | (refine wpO_cons fun K hK => ?_; simp only [go_sem, reduceIte, Nat.reduceAdd, Nat.reduceEqDiff, Nat.reduceLT, Nat.reduceLeDiff, *, and_self, ]; first | (refine hK.out _ _ ?_; clear hK K) | (refine iteI (fun h => hK.out _ _ ?_) (fun h => hK.out _ _ ?_) <;> clear hK K)))
    simp only [resultsR, resultsL, resultA, expK_int, expK_bool, expK_str, expK_agg, expK_own, expK_tsl, resK_some, go_sem, reduceIte, Nat.reduceAdd, Nat.reduceEqDiff, Nat.reduceLT, Nat.reduceLeDiff, and_self, ]
    have e' : ¬ gs.any (fun g => (below gs g.id).contains g.id) = true := by rw [hhN.out]; decide
    rw [chkG, if_pos hl20.out, if_pos hhE.out, if_pos hhA.out, if_neg e']
  · intro g G pre x post h1 hE
    have i0 := idx_sls h.sl (X := CX) ty23 ty37 rfl (n := pre.length) (row := encG x) (k := .i64) (map_at encG h1)
    have lt1 : (pre.length : Int) < (gs.length : Int) := by rw [h1]; simp; omega
    have w1 := wrap_succ (n := pre.length) (by rw [h1] at hgl; simp at hgl; omega)
    have hxm : x ∈ gs := by rw [h1]; simp
    have hx := h.ok x hxm
    have c1 := hx.pv.cell
    have c2 := hx.sv.cell
    have s1 := hx.pv.snap
    have s2 := hx.sv.snap
    have hh1 : Hold (gs = pre ++ x :: post) := ⟨h1⟩
    have hhN : Hold (gs.any (fun g => (below gs g.id).contains g.id) = (x :: post).any (fun g => (below gs g.id).contains g.id)) := ⟨hE⟩
    have hbl := below_len gs x.id
    have q := (belowRE h x.id).rw
    rw [belowR_eq (clo_of hhA.out)] at q
    clear h1 hE hxm
    simp only [garbA_cons, garbA_nil, setL_cons, setL_nil, List.set_cons_zero, List.set_cons_succ]
    obtain ⟨GG, hGG⟩ : ∃ GG, GG = G0 ++ G := ⟨_, rfl⟩
    rw [← hGG]
    have hhG : Hold (GG = G0 ++ G) := ⟨hGG⟩
    clear hGG
    have q2 := (has1 (.tsl false 1 (ints (below gs x.id))) _ x.id (.rows false) (by omega)).rw
    by_cases k5 : (below gs x.id).contains x.id = true
    · rw [k5] at q2
      repeat' (first | refine go1 ?_ | refine blockK_else rfl ?_ | (refine wpO_cons fun K hK => ?_; simp only [go_sem, reduceIte, Nat.reduceAdd, Nat.reduceEqDiff, Nat.reduceLT, Nat.reduceLeDiff, *, and_self, ]; first | (refine hK.out _ _ ?_; clear hK K) | (refine iteI (fun h => hK.out _ _ ?_) (fun h => hK.out _ _ ?_) <;> clear hK K)))
      (refine wpC_cond fun A B hA hB => ?_; simp only [go_sem, reduceIte, Nat.reduceAdd, Nat.reduceEqDiff, Nat.reduceLT, Nat.reduceLeDiff, *, and_self, lt1]; first | (refine hA.out ?_; clear hA hB A B) | (refine hB.out ?_; clear hA hB A B))
      repeat' (first | refine go1 ?_ | refine blockK_else rfl ?_ | (refine wpO_cons fun K hK => ?_; simp only [go_sem, reduceIte, Nat.reduceAdd, Nat.reduceEqDiff, Nat.reduceLT, Nat.reduceLeDiff, *, and_self, encG, c1, c2, s1, s2, hws, hvs, snap_str, getElem?_len, getElem?_lenAdd, set_len, set_lenAdd, len_mid, ints_len, List.length_map, lt_mid, List.nil_append, List.cons_append, Bool.not_true, Bool.not_false, adopt_int, adopt_two, adopt_osl, adopt_tsl, adopt_nils, i0, q, q2, snap_sl, rowsOf_sl, ints_len, ints_take, List.take_length, Nat.zero_le, Nat.zero_add, Bool.true_or, List.append_assoc, List.nil_append]; first | (refine hK.out _ _ ?_; clear hK K) | (refine iteI (fun h => hK.out _ _ ?_) (fun h => hK.out _ _ ?_) <;> clear hK K)))
      (refine wpC_cond fun A B hA hB => ?_; simp only [go_sem, reduceIte, Nat.reduceAdd, Nat.reduceEqDiff, Nat.reduceLT, Nat.reduceLeDiff, *, and_self, ]; first | (refine hA.out ?_; clear hA hB A B) | (refine hB.out ?_; clear hA hB A B))
      repeat' (first | refine go1 ?_ | refine blockK_else rfl ?_ | (refine wpO_cons fun K hK => ?_; simp only [go_sem, reduceIte, Nat.reduceAdd, Nat.reduceEqDiff, Nat.reduceLT, Nat.reduceLeDiff, *, and_self, w1]; first | (refine hK.out _ _ ?_; clear hK K) | (refine iteI (fun h => hK.out _ _ ?_) (fun h => hK.out _ _ ?_) <;> clear hK K)))
      simp only [resultsR, resultsL, resultA, expK_int, expK_bool, expK_str, expK_agg, expK_own, expK_tsl, resK_some, go_sem, reduceIte, Nat.reduceAdd, Nat.reduceEqDiff, Nat.reduceLT, Nat.reduceLeDiff, and_self, ]
      have e : gs.any (fun g => (below gs g.id).contains g.id) = true := by rw [hhN.out, List.any_cons, k5, Bool.true_or]
      rw [chkG, if_pos hl20.out, if_pos hhE.out, if_pos hhA.out, if_pos e]
    · have k5 : (below gs x.id).contains x.id = false := by simpa using k5
      rw [k5] at q2
      repeat' (first | refine go1 ?_ | refine blockK_else rfl ?_ | (refine wpO_cons fun K hK => ?_; simp only [go_sem, reduceIte, Nat.reduceAdd, Nat.reduceEqDiff, Nat.reduceLT, Nat.reduceLeDiff, *, and_self, ]; first | (refine hK.out _ _ ?_; clear hK K) | (refine iteI (fun h => hK.out _ _ ?_) (fun h => hK.out _ _ ?_) <;> clear hK K)))
      (refine wpC_cond fun A B hA hB => ?_; simp only [go_sem, reduceIte, Nat.reduceAdd, Nat.reduceEqDiff, Nat.reduceLT, Nat.reduceLeDiff, *, and_self, lt1]; first | (refine hA.out ?_; clear hA hB A B) | (refine hB.out ?_; clear hA hB A B))
      repeat' (first | refine go1 ?_ | refine blockK_else rfl ?_ | (refine wpO_cons fun K hK => ?_; simp only [go_sem, reduceIte, Nat.reduceAdd, Nat.reduceEqDiff, Nat.reduceLT, Nat.reduceLeDiff, *, and_self, encG, c1, c2, s1, s2, hws, hvs, snap_str, getElem?_len, getElem?_lenAdd, set_len, set_lenAdd, len_mid, ints_len, List.length_map, lt_mid, List.nil_append, List.cons_append, Bool.not_true, Bool.not_false, adopt_int, adopt_two, adopt_osl, adopt_tsl, adopt_nils, i0, q, q2, snap_sl, rowsOf_sl, ints_len, ints_take, List.take_length, Nat.zero_le, Nat.zero_add, Bool.true_or, List.append_assoc, List.nil_append]; first | (refine hK.out _ _ ?_; clear hK K) | (refine iteI (fun h => hK.out _ _ ?_) (fun h => hK.out _ _ ?_) <;> clear hK K)))
      (refine wpC_cond fun A B hA hB => ?_; simp only [go_sem, reduceIte, Nat.reduceAdd, Nat.reduceEqDiff, Nat.reduceLT, Nat.reduceLeDiff, *, and_self, ]; first | (refine hA.out ?_; clear hA hB A B) | (refine hB.out ?_; clear hA hB A B))
      repeat' (first | refine go1 ?_ | refine blockK_else rfl ?_ | (refine wpO_cons fun K hK => ?_; simp only [go_sem, reduceIte, Nat.reduceAdd, Nat.reduceEqDiff, Nat.reduceLT, Nat.reduceLeDiff, *, and_self, w1]; first | (refine hK.out _ _ ?_; clear hK K) | (refine iteI (fun h => hK.out _ _ ?_) (fun h => hK.out _ _ ?_) <;> clear hK K)))
      refine each_next hh1.out ?_ ?_ ?_
      · rw [hhN.out, List.any_cons, k5, Bool.false_or]
      · ((try simp only [eraseA_cons, eraseA_nil, setL_cons, setL_nil, List.set_cons_zero, List.set_cons_succ]); all_goals (first | rfl | (simp only [len_snoc, ints_len, List.length_map, ]; done) | (simp only [len_snoc, len_mid, ints_len, List.length_map, List.length_append, List.length_cons, List.length_nil, Nat.zero_add, ]; done) | (simp only [len_mid, len_snoc, ints_len, List.length_map, List.length_append, List.length_cons, List.length_nil, Nat.zero_add, ]; rfl)))
      · rw [hhG.out]; first | exact ⟨[], (List.append_nil _).symm⟩ | exact ⟨_, rfl⟩ | (simp only [List.append_assoc, List.cons_append, List.nil_append]; exact ⟨_, rfl⟩)

/- Groups: few and right. -/
open Go.Proofs
set_option maxHeartbeats 4000000

/-- Groups as any argument shows them. -/
structure GsV (v : AV) (gs : List Grp) : Prop where
  sl : SLs 4 (gs.map encG) v
  ok : ∀ g ∈ gs, g.ok
  st : ∀ g ∈ gs, g.pv.stab = true ∧ g.sv.stab = true

structure FewP (ps : List Psn) (gs : List Grp) : Prop where
  pl : ps.length ≤ 60
  gl : gs.length ≤ 30
  pn : ∀ p ∈ ps, p.name.size ≤ 100
  gn : ∀ g ∈ gs, g.name.size ≤ 100 ∧ g.people.length ≤ 60 ∧ g.subs.length ≤ 30

theorem GsV.few {v : AV} {gs : List Grp} {ps : List Psn} (h : GsV v gs) (hf : FewP ps gs) : GsOK v gs :=
  ⟨h.sl, h.ok, h.st, by have := hf.gl; omega, fun g hg => by have := (hf.gn g hg).2.2; omega, fun g hg => by have := (hf.gn g hg).2.1; omega⟩

theorem fewE {v w : AV} {gs : List Grp} {ps : List Psn} (h : GsV v gs) (hw : SLs 3 (ps.map encP) w) : EvV CX 10 [w, v] (fun r => ∃ b, r = .bool b ∧ (b = true → FewP ps gs)) := by
  refine EvV.walk rfl fn10 rfl nt10 rfl ?_
  simp only [List.length_cons, List.length_nil, List.cons_append, List.nil_append, Nat.reduceAdd, Nat.reduceSub, List.replicate]
  repeat' (first | refine go1 ?_ | refine blockK_else rfl ?_ | (refine wpO_cons fun K hK => ?_; simp only [go_sem, reduceIte, Nat.reduceAdd, Nat.reduceEqDiff, Nat.reduceLT, Nat.reduceLeDiff, *, and_self, ]; first | (refine hK.out _ _ ?_; clear hK K) | (refine iteI (fun h => hK.out _ _ ?_) (fun h => hK.out _ _ ?_) <;> clear hK K)))
  refine wpC_cutB (5 :: [4, 7, 8, 9, 10, 11, 12, 13, 14, 15, 16, 17, 18, 19, 20, 21, 22, 23]) (fun _ : Unit => []) (fun _ H => H) (fun _ => ps.length ≤ 60 → ∀ p ∈ ps, p.name.size ≤ 100) ?_ ?_
  · refine wpC_each [4, 7, 8, 9, 10, 11, 12, 13, 14, 15, 16, 17, 18, 19, 20, 21, 22, 23] 5 ps (fun pre _ => ∀ p ∈ pre, p.name.size ≤ 100) ?_ ?_ ?_ ?_
    · intro p hp; cases hp
    · rfl
    · intro g G hP
      simp only [garbA_cons, garbA_nil, setL_cons, setL_nil, List.set_cons_zero, List.set_cons_succ]
      have hP' : Hold (∀ p ∈ ps, p.name.size ≤ 100) := ⟨hP⟩
      clear hP
      have z : ¬ (ps.length : Int) < (ps.length : Int) := by omega
      repeat' (first | refine go1 ?_ | refine blockK_else rfl ?_ | (refine wpO_cons fun K hK => ?_; simp only [go_sem, reduceIte, Nat.reduceAdd, Nat.reduceEqDiff, Nat.reduceLT, Nat.reduceLeDiff, *, and_self, lenK_sls hw, getElem?_len, getElem?_lenAdd, set_len, set_lenAdd, len_mid, ints_len, List.length_map, lt_mid, List.nil_append, z]; first | (refine hK.out _ _ ?_; clear hK K) | (refine iteI (fun h => hK.out _ _ ?_) (fun h => hK.out _ _ ?_) <;> clear hK K)))
      (refine wpC_cond fun A B hA hB => ?_; simp only [go_sem, reduceIte, Nat.reduceAdd, Nat.reduceEqDiff, Nat.reduceLT, Nat.reduceLeDiff, *, and_self, ]; first | (refine hA.out ?_; clear hA hB A B) | (refine hB.out ?_; clear hA hB A B))
      repeat' (first | refine go1 ?_ | refine blockK_else rfl ?_ | (refine wpO_cons fun K hK => ?_; simp only [go_sem, reduceIte, Nat.reduceAdd, Nat.reduceEqDiff, Nat.reduceLT, Nat.reduceLeDiff, *, and_self, ]; first | (refine hK.out _ _ ?_; clear hK K) | (refine iteI (fun h => hK.out _ _ ?_) (fun h => hK.out _ _ ?_) <;> clear hK K)))
      refine cut_next () (fun _ => hP'.out) ?_ ⟨_, rfl⟩
      ((try simp only [eraseA_cons, eraseA_nil, setL_cons, setL_nil, List.set_cons_zero, List.set_cons_succ]); all_goals (first | rfl | (simp only [len_snoc, ints_len, List.length_map, ]; done) | (simp only [len_snoc, len_mid, ints_len, List.length_map, List.length_append, List.length_cons, List.length_nil, Nat.zero_add, ]; done) | (simp only [len_mid, len_snoc, ints_len, List.length_map, List.length_append, List.length_cons, List.length_nil, Nat.zero_add, ]; rfl)))
    · intro g G pre x post h1 hP
      simp only [garbA_cons, garbA_nil, setL_cons, setL_nil, List.set_cons_zero, List.set_cons_succ]
      have lt1 : (pre.length : Int) < (ps.length : Int) := by rw [h1]; simp; omega
      by_cases h60 : (pre.length : Int) < 60
      · have i0 := idx_sls hw (X := CX) ty22 ty42 rfl (n := pre.length) (row := encP x) (k := .i64) (map_at encP h1)
        have w1 := wrap_succ (n := pre.length) (by omega)
        have hP' : Hold (ps = pre ++ x :: post ∧ ∀ p ∈ pre, p.name.size ≤ 100) := ⟨h1, hP⟩
        clear hP h1
        by_cases hs : 100 < (x.name.size : Int)
        · repeat' (first | refine go1 ?_ | refine blockK_else rfl ?_ | (refine wpO_cons fun K hK => ?_; simp only [go_sem, reduceIte, Nat.reduceAdd, Nat.reduceEqDiff, Nat.reduceLT, Nat.reduceLeDiff, *, and_self, lenK_sls hw, getElem?_len, getElem?_lenAdd, set_len, set_lenAdd, len_mid, ints_len, List.length_map, lt_mid, List.nil_append]; first | (refine hK.out _ _ ?_; clear hK K) | (refine iteI (fun h => hK.out _ _ ?_) (fun h => hK.out _ _ ?_) <;> clear hK K)))
          (refine wpC_cond fun A B hA hB => ?_; simp only [go_sem, reduceIte, Nat.reduceAdd, Nat.reduceEqDiff, Nat.reduceLT, Nat.reduceLeDiff, *, and_self, ]; first | (refine hA.out ?_; clear hA hB A B) | (refine hB.out ?_; clear hA hB A B))
          repeat' (first | refine go1 ?_ | refine blockK_else rfl ?_ | (refine wpO_cons fun K hK => ?_; simp only [go_sem, reduceIte, Nat.reduceAdd, Nat.reduceEqDiff, Nat.reduceLT, Nat.reduceLeDiff, *, and_self, i0, encP, lenK_str]; first | (refine hK.out _ _ ?_; clear hK K) | (refine iteI (fun h => hK.out _ _ ?_) (fun h => hK.out _ _ ?_) <;> clear hK K)))
          (refine wpC_cond fun A B hA hB => ?_; simp only [go_sem, reduceIte, Nat.reduceAdd, Nat.reduceEqDiff, Nat.reduceLT, Nat.reduceLeDiff, *, and_self, ]; first | (refine hA.out ?_; clear hA hB A B) | (refine hB.out ?_; clear hA hB A B))
          repeat' (first | refine go1 ?_ | refine blockK_else rfl ?_ | (refine wpO_cons fun K hK => ?_; simp only [go_sem, reduceIte, Nat.reduceAdd, Nat.reduceEqDiff, Nat.reduceLT, Nat.reduceLeDiff, *, and_self, ]; first | (refine hK.out _ _ ?_; clear hK K) | (refine iteI (fun h => hK.out _ _ ?_) (fun h => hK.out _ _ ?_) <;> clear hK K)))
          simp only [resultsR, resultsL, resultA, expK_int, expK_bool, expK_str, expK_agg, expK_own, expK_tsl, resK_some, go_sem, reduceIte, Nat.reduceAdd, Nat.reduceEqDiff, Nat.reduceLT, Nat.reduceLeDiff, and_self, ]
          exact ⟨false, rfl, fun e => by cases e⟩
        · repeat' (first | refine go1 ?_ | refine blockK_else rfl ?_ | (refine wpO_cons fun K hK => ?_; simp only [go_sem, reduceIte, Nat.reduceAdd, Nat.reduceEqDiff, Nat.reduceLT, Nat.reduceLeDiff, *, and_self, lenK_sls hw, getElem?_len, getElem?_lenAdd, set_len, set_lenAdd, len_mid, ints_len, List.length_map, lt_mid, List.nil_append]; first | (refine hK.out _ _ ?_; clear hK K) | (refine iteI (fun h => hK.out _ _ ?_) (fun h => hK.out _ _ ?_) <;> clear hK K)))
          (refine wpC_cond fun A B hA hB => ?_; simp only [go_sem, reduceIte, Nat.reduceAdd, Nat.reduceEqDiff, Nat.reduceLT, Nat.reduceLeDiff, *, and_self, ]; first | (refine hA.out ?_; clear hA hB A B) | (refine hB.out ?_; clear hA hB A B))
          repeat' (first | refine go1 ?_ | refine blockK_else rfl ?_ | (refine wpO_cons fun K hK => ?_; simp only [go_sem, reduceIte, Nat.reduceAdd, Nat.reduceEqDiff, Nat.reduceLT, Nat.reduceLeDiff, *, and_self, i0, encP, lenK_str]; first | (refine hK.out _ _ ?_; clear hK K) | (refine iteI (fun h => hK.out _ _ ?_) (fun h => hK.out _ _ ?_) <;> clear hK K)))
          (refine wpC_cond fun A B hA hB => ?_; simp only [go_sem, reduceIte, Nat.reduceAdd, Nat.reduceEqDiff, Nat.reduceLT, Nat.reduceLeDiff, *, and_self, ]; first | (refine hA.out ?_; clear hA hB A B) | (refine hB.out ?_; clear hA hB A B))
          repeat' (first | refine go1 ?_ | refine blockK_else rfl ?_ | (refine wpO_cons fun K hK => ?_; simp only [go_sem, reduceIte, Nat.reduceAdd, Nat.reduceEqDiff, Nat.reduceLT, Nat.reduceLeDiff, *, and_self, w1]; first | (refine hK.out _ _ ?_; clear hK K) | (refine iteI (fun h => hK.out _ _ ?_) (fun h => hK.out _ _ ?_) <;> clear hK K)))
          refine each_next hP'.out.1 ?_ ?_ ?_
          · intro p hp
            rcases List.mem_append.mp hp with hp | hp
            · exact hP'.out.2 p hp
            · have := List.mem_singleton.mp hp; subst this; omega
          · ((try simp only [eraseA_cons, eraseA_nil, setL_cons, setL_nil, List.set_cons_zero, List.set_cons_succ]); all_goals (first | rfl | (simp only [len_snoc, ints_len, List.length_map, ]; done) | (simp only [len_snoc, len_mid, ints_len, List.length_map, List.length_append, List.length_cons, List.length_nil, Nat.zero_add, ]; done) | (simp only [len_mid, len_snoc, ints_len, List.length_map, List.length_append, List.length_cons, List.length_nil, Nat.zero_add, ]; rfl)))
          · first | exact ⟨[], (List.append_nil _).symm⟩ | exact ⟨_, rfl⟩ | (simp only [List.append_assoc, List.cons_append, List.nil_append]; exact ⟨_, rfl⟩)
      · have hl : Hold (¬ ps.length ≤ 60) := ⟨by rw [h1]; simp; omega⟩
        clear h1 hP
        repeat' (first | refine go1 ?_ | refine blockK_else rfl ?_ | (refine wpO_cons fun K hK => ?_; simp only [go_sem, reduceIte, Nat.reduceAdd, Nat.reduceEqDiff, Nat.reduceLT, Nat.reduceLeDiff, *, and_self, lenK_sls hw, getElem?_len, getElem?_lenAdd, set_len, set_lenAdd, len_mid, ints_len, List.length_map, lt_mid, List.nil_append]; first | (refine hK.out _ _ ?_; clear hK K) | (refine iteI (fun h => hK.out _ _ ?_) (fun h => hK.out _ _ ?_) <;> clear hK K)))
        (refine wpC_cond fun A B hA hB => ?_; simp only [go_sem, reduceIte, Nat.reduceAdd, Nat.reduceEqDiff, Nat.reduceLT, Nat.reduceLeDiff, *, and_self, ]; first | (refine hA.out ?_; clear hA hB A B) | (refine hB.out ?_; clear hA hB A B))
        repeat' (first | refine go1 ?_ | refine blockK_else rfl ?_ | (refine wpO_cons fun K hK => ?_; simp only [go_sem, reduceIte, Nat.reduceAdd, Nat.reduceEqDiff, Nat.reduceLT, Nat.reduceLeDiff, *, and_self, ]; first | (refine hK.out _ _ ?_; clear hK K) | (refine iteI (fun h => hK.out _ _ ?_) (fun h => hK.out _ _ ?_) <;> clear hK K)))
        refine cut_next () (fun e => absurd e hl.out) ?_ ⟨_, rfl⟩
        ((try simp only [eraseA_cons, eraseA_nil, setL_cons, setL_nil, List.set_cons_zero, List.set_cons_succ]); all_goals (first | rfl | (simp only [len_snoc, ints_len, List.length_map, ]; done) | (simp only [len_snoc, len_mid, ints_len, List.length_map, List.length_append, List.length_cons, List.length_nil, Nat.zero_add, ]; done) | (simp only [len_mid, len_snoc, ints_len, List.length_map, List.length_append, List.length_cons, List.length_nil, Nat.zero_add, ]; rfl)))
  rintro _ g0 G0 hP
  have hhP : Hold (ps.length ≤ 60 → ∀ p ∈ ps, p.name.size ≤ 100) := ⟨hP⟩
  clear hP
  simp only [garbA_cons, garbA_nil, setL_cons, setL_nil, List.set_cons_zero, List.set_cons_succ]
  repeat' (first | refine go1 ?_ | refine blockK_else rfl ?_ | (refine wpO_cons fun K hK => ?_; simp only [go_sem, reduceIte, Nat.reduceAdd, Nat.reduceEqDiff, Nat.reduceLT, Nat.reduceLeDiff, *, and_self, ]; first | (refine hK.out _ _ ?_; clear hK K) | (refine iteI (fun h => hK.out _ _ ?_) (fun h => hK.out _ _ ?_) <;> clear hK K)))
  refine wpC_cutB (6 :: [4, 24, 25, 26, 27, 28, 29, 30, 31, 32, 33, 34, 35, 36, 37, 38, 39, 40, 41, 42, 43, 44, 45, 46, 47, 48, 49, 50, 51, 52, 53, 54, 55, 56, 57, 58]) (fun _ : Unit => []) (fun _ H => H) (fun _ => gs.length ≤ 30 → ∀ g ∈ gs, g.name.size ≤ 100 ∧ g.people.length ≤ 60 ∧ g.subs.length ≤ 30) ?_ ?_
  · refine wpC_each [4, 24, 25, 26, 27, 28, 29, 30, 31, 32, 33, 34, 35, 36, 37, 38, 39, 40, 41, 42, 43, 44, 45, 46, 47, 48, 49, 50, 51, 52, 53, 54, 55, 56, 57, 58] 6 gs (fun pre _ => ∀ g ∈ pre, g.name.size ≤ 100 ∧ g.people.length ≤ 60 ∧ g.subs.length ≤ 30) ?_ ?_ ?_ ?_
    · intro p hp; cases hp
    · rfl
    · intro g G hP
      simp only [garbA_cons, garbA_nil, setL_cons, setL_nil, List.set_cons_zero, List.set_cons_succ]
      have hP' : Hold (∀ g ∈ gs, g.name.size ≤ 100 ∧ g.people.length ≤ 60 ∧ g.subs.length ≤ 30) := ⟨hP⟩
      clear hP
      have z : ¬ (gs.length : Int) < (gs.length : Int) := by omega
      repeat' (first | refine go1 ?_ | refine blockK_else rfl ?_ | (refine wpO_cons fun K hK => ?_; simp only [go_sem, reduceIte, Nat.reduceAdd, Nat.reduceEqDiff, Nat.reduceLT, Nat.reduceLeDiff, *, and_self, lenK_sls h.sl, getElem?_len, getElem?_lenAdd, set_len, set_lenAdd, len_mid, ints_len, List.length_map, lt_mid, List.nil_append, z]; first | (refine hK.out _ _ ?_; clear hK K) | (refine iteI (fun h => hK.out _ _ ?_) (fun h => hK.out _ _ ?_) <;> clear hK K)))
      (refine wpC_cond fun A B hA hB => ?_; simp only [go_sem, reduceIte, Nat.reduceAdd, Nat.reduceEqDiff, Nat.reduceLT, Nat.reduceLeDiff, *, and_self, ]; first | (refine hA.out ?_; clear hA hB A B) | (refine hB.out ?_; clear hA hB A B))
      repeat' (first | refine go1 ?_ | refine blockK_else rfl ?_ | (refine wpO_cons fun K hK => ?_; simp only [go_sem, reduceIte, Nat.reduceAdd, Nat.reduceEqDiff, Nat.reduceLT, Nat.reduceLeDiff, *, and_self, ]; first | (refine hK.out _ _ ?_; clear hK K) | (refine iteI (fun h => hK.out _ _ ?_) (fun h => hK.out _ _ ?_) <;> clear hK K)))
      refine cut_next () (fun _ => hP'.out) ?_ ⟨_, rfl⟩
      ((try simp only [eraseA_cons, eraseA_nil, setL_cons, setL_nil, List.set_cons_zero, List.set_cons_succ]); all_goals (first | rfl | (simp only [len_snoc, ints_len, List.length_map, ]; done) | (simp only [len_snoc, len_mid, ints_len, List.length_map, List.length_append, List.length_cons, List.length_nil, Nat.zero_add, ]; done) | (simp only [len_mid, len_snoc, ints_len, List.length_map, List.length_append, List.length_cons, List.length_nil, Nat.zero_add, ]; rfl)))
    · intro g G pre x post h1 hP
      simp only [garbA_cons, garbA_nil, setL_cons, setL_nil, List.set_cons_zero, List.set_cons_succ]
      have lt1 : (pre.length : Int) < (gs.length : Int) := by rw [h1]; simp; omega
      by_cases h60 : (pre.length : Int) < 30
      · have i0 := idx_sls h.sl (X := CX) ty23 ty37 rfl (n := pre.length) (row := encG x) (k := .i64) (map_at encG h1)
        have hx := h.ok x (by rw [h1]; simp)
        have w1 := wrap_succ (n := pre.length) (by omega)
        have l1 := fun {a c} {b} {d} {el} => lenK_sls (a := a) (c := c) (b := b) (d := d) (el := el) hx.pv
        have l2 := fun {a c} {b} {d} {el} => lenK_sls (a := a) (c := c) (b := b) (d := d) (el := el) hx.sv
        have hP' : Hold (gs = pre ++ x :: post ∧ ∀ g ∈ pre, g.name.size ≤ 100 ∧ g.people.length ≤ 60 ∧ g.subs.length ≤ 30) := ⟨h1, hP⟩
        clear hP h1
        by_cases hs : 100 < (x.name.size : Int)
        · repeat' (first | refine go1 ?_ | refine blockK_else rfl ?_ | (refine wpO_cons fun K hK => ?_; simp only [go_sem, reduceIte, Nat.reduceAdd, Nat.reduceEqDiff, Nat.reduceLT, Nat.reduceLeDiff, *, and_self, lenK_sls h.sl, getElem?_len, getElem?_lenAdd, set_len, set_lenAdd, len_mid, ints_len, List.length_map, lt_mid, List.nil_append]; first | (refine hK.out _ _ ?_; clear hK K) | (refine iteI (fun h => hK.out _ _ ?_) (fun h => hK.out _ _ ?_) <;> clear hK K)))
          (refine wpC_cond fun A B hA hB => ?_; simp only [go_sem, reduceIte, Nat.reduceAdd, Nat.reduceEqDiff, Nat.reduceLT, Nat.reduceLeDiff, *, and_self, ]; first | (refine hA.out ?_; clear hA hB A B) | (refine hB.out ?_; clear hA hB A B))
          repeat' (first | refine go1 ?_ | refine blockK_else rfl ?_ | (refine wpO_cons fun K hK => ?_; simp only [go_sem, reduceIte, Nat.reduceAdd, Nat.reduceEqDiff, Nat.reduceLT, Nat.reduceLeDiff, *, and_self, i0, encG, lenK_str, l1, l2, ints_len]; first | (refine hK.out _ _ ?_; clear hK K) | (refine iteI (fun h => hK.out _ _ ?_) (fun h => hK.out _ _ ?_) <;> clear hK K)))
          (refine wpC_cond fun A B hA hB => ?_; simp only [go_sem, reduceIte, Nat.reduceAdd, Nat.reduceEqDiff, Nat.reduceLT, Nat.reduceLeDiff, *, and_self, ]; first | (refine hA.out ?_; clear hA hB A B) | (refine hB.out ?_; clear hA hB A B))
          repeat' (first | refine go1 ?_ | refine blockK_else rfl ?_ | (refine wpO_cons fun K hK => ?_; simp only [go_sem, reduceIte, Nat.reduceAdd, Nat.reduceEqDiff, Nat.reduceLT, Nat.reduceLeDiff, *, and_self, ]; first | (refine hK.out _ _ ?_; clear hK K) | (refine iteI (fun h => hK.out _ _ ?_) (fun h => hK.out _ _ ?_) <;> clear hK K)))
          simp only [resultsR, resultsL, resultA, expK_int, expK_bool, expK_str, expK_agg, expK_own, expK_tsl, resK_some, go_sem, reduceIte, Nat.reduceAdd, Nat.reduceEqDiff, Nat.reduceLT, Nat.reduceLeDiff, and_self, ]
          exact ⟨false, rfl, fun e => by cases e⟩
        by_cases hs1 : 60 < (x.people.length : Int)
        · repeat' (first | refine go1 ?_ | refine blockK_else rfl ?_ | (refine wpO_cons fun K hK => ?_; simp only [go_sem, reduceIte, Nat.reduceAdd, Nat.reduceEqDiff, Nat.reduceLT, Nat.reduceLeDiff, *, and_self, lenK_sls h.sl, getElem?_len, getElem?_lenAdd, set_len, set_lenAdd, len_mid, ints_len, List.length_map, lt_mid, List.nil_append]; first | (refine hK.out _ _ ?_; clear hK K) | (refine iteI (fun h => hK.out _ _ ?_) (fun h => hK.out _ _ ?_) <;> clear hK K)))
          (refine wpC_cond fun A B hA hB => ?_; simp only [go_sem, reduceIte, Nat.reduceAdd, Nat.reduceEqDiff, Nat.reduceLT, Nat.reduceLeDiff, *, and_self, ]; first | (refine hA.out ?_; clear hA hB A B) | (refine hB.out ?_; clear hA hB A B))
          repeat' (first | refine go1 ?_ | refine blockK_else rfl ?_ | (refine wpO_cons fun K hK => ?_; simp only [go_sem, reduceIte, Nat.reduceAdd, Nat.reduceEqDiff, Nat.reduceLT, Nat.reduceLeDiff, *, and_self, i0, encG, lenK_str, l1, l2, ints_len]; first | (refine hK.out _ _ ?_; clear hK K) | (refine iteI (fun h => hK.out _ _ ?_) (fun h => hK.out _ _ ?_) <;> clear hK K)))
          (refine wpC_cond fun A B hA hB => ?_; simp only [go_sem, reduceIte, Nat.reduceAdd, Nat.reduceEqDiff, Nat.reduceLT, Nat.reduceLeDiff, *, and_self, ]; first | (refine hA.out ?_; clear hA hB A B) | (refine hB.out ?_; clear hA hB A B))
          repeat' (first | refine go1 ?_ | refine blockK_else rfl ?_ | (refine wpO_cons fun K hK => ?_; simp only [go_sem, reduceIte, Nat.reduceAdd, Nat.reduceEqDiff, Nat.reduceLT, Nat.reduceLeDiff, *, and_self, ]; first | (refine hK.out _ _ ?_; clear hK K) | (refine iteI (fun h => hK.out _ _ ?_) (fun h => hK.out _ _ ?_) <;> clear hK K)))
          simp only [resultsR, resultsL, resultA, expK_int, expK_bool, expK_str, expK_agg, expK_own, expK_tsl, resK_some, go_sem, reduceIte, Nat.reduceAdd, Nat.reduceEqDiff, Nat.reduceLT, Nat.reduceLeDiff, and_self, ]
          exact ⟨false, rfl, fun e => by cases e⟩
        by_cases hs2 : 30 < (x.subs.length : Int)
        · repeat' (first | refine go1 ?_ | refine blockK_else rfl ?_ | (refine wpO_cons fun K hK => ?_; simp only [go_sem, reduceIte, Nat.reduceAdd, Nat.reduceEqDiff, Nat.reduceLT, Nat.reduceLeDiff, *, and_self, lenK_sls h.sl, getElem?_len, getElem?_lenAdd, set_len, set_lenAdd, len_mid, ints_len, List.length_map, lt_mid, List.nil_append]; first | (refine hK.out _ _ ?_; clear hK K) | (refine iteI (fun h => hK.out _ _ ?_) (fun h => hK.out _ _ ?_) <;> clear hK K)))
          (refine wpC_cond fun A B hA hB => ?_; simp only [go_sem, reduceIte, Nat.reduceAdd, Nat.reduceEqDiff, Nat.reduceLT, Nat.reduceLeDiff, *, and_self, ]; first | (refine hA.out ?_; clear hA hB A B) | (refine hB.out ?_; clear hA hB A B))
          repeat' (first | refine go1 ?_ | refine blockK_else rfl ?_ | (refine wpO_cons fun K hK => ?_; simp only [go_sem, reduceIte, Nat.reduceAdd, Nat.reduceEqDiff, Nat.reduceLT, Nat.reduceLeDiff, *, and_self, i0, encG, lenK_str, l1, l2, ints_len]; first | (refine hK.out _ _ ?_; clear hK K) | (refine iteI (fun h => hK.out _ _ ?_) (fun h => hK.out _ _ ?_) <;> clear hK K)))
          (refine wpC_cond fun A B hA hB => ?_; simp only [go_sem, reduceIte, Nat.reduceAdd, Nat.reduceEqDiff, Nat.reduceLT, Nat.reduceLeDiff, *, and_self, ]; first | (refine hA.out ?_; clear hA hB A B) | (refine hB.out ?_; clear hA hB A B))
          repeat' (first | refine go1 ?_ | refine blockK_else rfl ?_ | (refine wpO_cons fun K hK => ?_; simp only [go_sem, reduceIte, Nat.reduceAdd, Nat.reduceEqDiff, Nat.reduceLT, Nat.reduceLeDiff, *, and_self, ]; first | (refine hK.out _ _ ?_; clear hK K) | (refine iteI (fun h => hK.out _ _ ?_) (fun h => hK.out _ _ ?_) <;> clear hK K)))
          simp only [resultsR, resultsL, resultA, expK_int, expK_bool, expK_str, expK_agg, expK_own, expK_tsl, resK_some, go_sem, reduceIte, Nat.reduceAdd, Nat.reduceEqDiff, Nat.reduceLT, Nat.reduceLeDiff, and_self, ]
          exact ⟨false, rfl, fun e => by cases e⟩
        · repeat' (first | refine go1 ?_ | refine blockK_else rfl ?_ | (refine wpO_cons fun K hK => ?_; simp only [go_sem, reduceIte, Nat.reduceAdd, Nat.reduceEqDiff, Nat.reduceLT, Nat.reduceLeDiff, *, and_self, lenK_sls h.sl, getElem?_len, getElem?_lenAdd, set_len, set_lenAdd, len_mid, ints_len, List.length_map, lt_mid, List.nil_append]; first | (refine hK.out _ _ ?_; clear hK K) | (refine iteI (fun h => hK.out _ _ ?_) (fun h => hK.out _ _ ?_) <;> clear hK K)))
          (refine wpC_cond fun A B hA hB => ?_; simp only [go_sem, reduceIte, Nat.reduceAdd, Nat.reduceEqDiff, Nat.reduceLT, Nat.reduceLeDiff, *, and_self, ]; first | (refine hA.out ?_; clear hA hB A B) | (refine hB.out ?_; clear hA hB A B))
          repeat' (first | refine go1 ?_ | refine blockK_else rfl ?_ | (refine wpO_cons fun K hK => ?_; simp only [go_sem, reduceIte, Nat.reduceAdd, Nat.reduceEqDiff, Nat.reduceLT, Nat.reduceLeDiff, *, and_self, i0, encG, lenK_str, l1, l2, ints_len]; first | (refine hK.out _ _ ?_; clear hK K) | (refine iteI (fun h => hK.out _ _ ?_) (fun h => hK.out _ _ ?_) <;> clear hK K)))
          (refine wpC_cond fun A B hA hB => ?_; simp only [go_sem, reduceIte, Nat.reduceAdd, Nat.reduceEqDiff, Nat.reduceLT, Nat.reduceLeDiff, *, and_self, ]; first | (refine hA.out ?_; clear hA hB A B) | (refine hB.out ?_; clear hA hB A B))
          repeat' (first | refine go1 ?_ | refine blockK_else rfl ?_ | (refine wpO_cons fun K hK => ?_; simp only [go_sem, reduceIte, Nat.reduceAdd, Nat.reduceEqDiff, Nat.reduceLT, Nat.reduceLeDiff, *, and_self, w1]; first | (refine hK.out _ _ ?_; clear hK K) | (refine iteI (fun h => hK.out _ _ ?_) (fun h => hK.out _ _ ?_) <;> clear hK K)))
          refine each_next hP'.out.1 ?_ ?_ ?_
          · intro p hp
            rcases List.mem_append.mp hp with hp | hp
            · exact hP'.out.2 p hp
            · have := List.mem_singleton.mp hp; subst this; omega
          · ((try simp only [eraseA_cons, eraseA_nil, setL_cons, setL_nil, List.set_cons_zero, List.set_cons_succ]); all_goals (first | rfl | (simp only [len_snoc, ints_len, List.length_map, ]; done) | (simp only [len_snoc, len_mid, ints_len, List.length_map, List.length_append, List.length_cons, List.length_nil, Nat.zero_add, ]; done) | (simp only [len_mid, len_snoc, ints_len, List.length_map, List.length_append, List.length_cons, List.length_nil, Nat.zero_add, ]; rfl)))
          · first | exact ⟨[], (List.append_nil _).symm⟩ | exact ⟨_, rfl⟩ | (simp only [List.append_assoc, List.cons_append, List.nil_append]; exact ⟨_, rfl⟩)
      · have hl : Hold (¬ gs.length ≤ 30) := ⟨by rw [h1]; simp; omega⟩
        clear h1 hP
        repeat' (first | refine go1 ?_ | refine blockK_else rfl ?_ | (refine wpO_cons fun K hK => ?_; simp only [go_sem, reduceIte, Nat.reduceAdd, Nat.reduceEqDiff, Nat.reduceLT, Nat.reduceLeDiff, *, and_self, lenK_sls h.sl, getElem?_len, getElem?_lenAdd, set_len, set_lenAdd, len_mid, ints_len, List.length_map, lt_mid, List.nil_append]; first | (refine hK.out _ _ ?_; clear hK K) | (refine iteI (fun h => hK.out _ _ ?_) (fun h => hK.out _ _ ?_) <;> clear hK K)))
        (refine wpC_cond fun A B hA hB => ?_; simp only [go_sem, reduceIte, Nat.reduceAdd, Nat.reduceEqDiff, Nat.reduceLT, Nat.reduceLeDiff, *, and_self, ]; first | (refine hA.out ?_; clear hA hB A B) | (refine hB.out ?_; clear hA hB A B))
        repeat' (first | refine go1 ?_ | refine blockK_else rfl ?_ | (refine wpO_cons fun K hK => ?_; simp only [go_sem, reduceIte, Nat.reduceAdd, Nat.reduceEqDiff, Nat.reduceLT, Nat.reduceLeDiff, *, and_self, ]; first | (refine hK.out _ _ ?_; clear hK K) | (refine iteI (fun h => hK.out _ _ ?_) (fun h => hK.out _ _ ?_) <;> clear hK K)))
        refine cut_next () (fun e => absurd e hl.out) ?_ ⟨_, rfl⟩
        ((try simp only [eraseA_cons, eraseA_nil, setL_cons, setL_nil, List.set_cons_zero, List.set_cons_succ]); all_goals (first | rfl | (simp only [len_snoc, ints_len, List.length_map, ]; done) | (simp only [len_snoc, len_mid, ints_len, List.length_map, List.length_append, List.length_cons, List.length_nil, Nat.zero_add, ]; done) | (simp only [len_mid, len_snoc, ints_len, List.length_map, List.length_append, List.length_cons, List.length_nil, Nat.zero_add, ]; rfl)))
  rintro _ g1 G1 hP
  have hhP2 : Hold (gs.length ≤ 30 → ∀ g ∈ gs, g.name.size ≤ 100 ∧ g.people.length ≤ 60 ∧ g.subs.length ≤ 30) := ⟨hP⟩
  clear hP
  simp only [garbA_cons, garbA_nil, setL_cons, setL_nil, List.set_cons_zero, List.set_cons_succ]
  by_cases h1 : (ps.length : Int) ≤ 60
  · by_cases h2 : (gs.length : Int) ≤ 30
    · repeat' (first | refine go1 ?_ | refine blockK_else rfl ?_ | (refine wpC_cond fun A B hA hB => ?_; simp only [go_sem, reduceIte, Nat.reduceAdd, Nat.reduceEqDiff, Nat.reduceLT, Nat.reduceLeDiff, *, and_self, lenK_sls h.sl, lenK_sls hw, getElem?_len, getElem?_lenAdd, set_len, set_lenAdd, len_mid, ints_len, List.length_map, lt_mid, List.nil_append]; first | (refine hA.out ?_; clear hA hB A B) | (refine hB.out ?_; clear hA hB A B) | (refine iteI (fun h => hA.out ?_) (fun h => hB.out ?_) <;> clear hA hB A B) | (refine iteI (fun h => hB.out ?_) (fun h => hA.out ?_) <;> clear hA hB A B)) | (refine wpO_cons fun K hK => ?_; simp only [go_sem, reduceIte, Nat.reduceAdd, Nat.reduceEqDiff, Nat.reduceLT, Nat.reduceLeDiff, *, and_self, lenK_sls h.sl, lenK_sls hw, getElem?_len, getElem?_lenAdd, set_len, set_lenAdd, len_mid, ints_len, List.length_map, lt_mid, List.nil_append]; first | (refine hK.out _ _ ?_; clear hK K) | (refine iteI (fun h => hK.out _ _ ?_) (fun h => hK.out _ _ ?_) <;> clear hK K)))
      simp only [resultsR, resultsL, resultA, expK_int, expK_bool, expK_str, expK_agg, expK_own, expK_tsl, resK_some, go_sem, reduceIte, Nat.reduceAdd, Nat.reduceEqDiff, Nat.reduceLT, Nat.reduceLeDiff, and_self, ]
      exact ⟨true, rfl, fun _ => ⟨by omega, by omega, hhP.out (by omega), hhP2.out (by omega)⟩⟩
    · repeat' (first | refine go1 ?_ | refine blockK_else rfl ?_ | (refine wpC_cond fun A B hA hB => ?_; simp only [go_sem, reduceIte, Nat.reduceAdd, Nat.reduceEqDiff, Nat.reduceLT, Nat.reduceLeDiff, *, and_self, lenK_sls h.sl, lenK_sls hw, getElem?_len, getElem?_lenAdd, set_len, set_lenAdd, len_mid, ints_len, List.length_map, lt_mid, List.nil_append]; first | (refine hA.out ?_; clear hA hB A B) | (refine hB.out ?_; clear hA hB A B) | (refine iteI (fun h => hA.out ?_) (fun h => hB.out ?_) <;> clear hA hB A B) | (refine iteI (fun h => hB.out ?_) (fun h => hA.out ?_) <;> clear hA hB A B)) | (refine wpO_cons fun K hK => ?_; simp only [go_sem, reduceIte, Nat.reduceAdd, Nat.reduceEqDiff, Nat.reduceLT, Nat.reduceLeDiff, *, and_self, lenK_sls h.sl, lenK_sls hw, getElem?_len, getElem?_lenAdd, set_len, set_lenAdd, len_mid, ints_len, List.length_map, lt_mid, List.nil_append]; first | (refine hK.out _ _ ?_; clear hK K) | (refine iteI (fun h => hK.out _ _ ?_) (fun h => hK.out _ _ ?_) <;> clear hK K)))
      simp only [resultsR, resultsL, resultA, expK_int, expK_bool, expK_str, expK_agg, expK_own, expK_tsl, resK_some, go_sem, reduceIte, Nat.reduceAdd, Nat.reduceEqDiff, Nat.reduceLT, Nat.reduceLeDiff, and_self, ]
      exact ⟨false, rfl, fun e => by cases e⟩
  · repeat' (first | refine go1 ?_ | refine blockK_else rfl ?_ | (refine wpC_cond fun A B hA hB => ?_; simp only [go_sem, reduceIte, Nat.reduceAdd, Nat.reduceEqDiff, Nat.reduceLT, Nat.reduceLeDiff, *, and_self, lenK_sls h.sl, lenK_sls hw, getElem?_len, getElem?_lenAdd, set_len, set_lenAdd, len_mid, ints_len, List.length_map, lt_mid, List.nil_append]; first | (refine hA.out ?_; clear hA hB A B) | (refine hB.out ?_; clear hA hB A B) | (refine iteI (fun h => hA.out ?_) (fun h => hB.out ?_) <;> clear hA hB A B) | (refine iteI (fun h => hB.out ?_) (fun h => hA.out ?_) <;> clear hA hB A B)) | (refine wpO_cons fun K hK => ?_; simp only [go_sem, reduceIte, Nat.reduceAdd, Nat.reduceEqDiff, Nat.reduceLT, Nat.reduceLeDiff, *, and_self, lenK_sls h.sl, lenK_sls hw, getElem?_len, getElem?_lenAdd, set_len, set_lenAdd, len_mid, ints_len, List.length_map, lt_mid, List.nil_append]; first | (refine hK.out _ _ ?_; clear hK K) | (refine iteI (fun h => hK.out _ _ ?_) (fun h => hK.out _ _ ?_) <;> clear hK K)))
    simp only [resultsR, resultsL, resultA, expK_int, expK_bool, expK_str, expK_agg, expK_own, expK_tsl, resK_some, go_sem, reduceIte, Nat.reduceAdd, Nat.reduceEqDiff, Nat.reduceLT, Nat.reduceLeDiff, and_self, ]
    exact ⟨false, rfl, fun e => by cases e⟩

/- Groups: the laws Checks, Below, In as runs. -/
open Go.Proofs
attribute [local go_sem] br10 br13 fz50 br11 br12 fz51 fz52 fz53 br14 br15 br18 br19 fz54 fz55 fz56 ty33 br20 br21 br22 br23 fz57 fz58 fz59
set_option maxHeartbeats 4000000

/-- A result, written no more. -/
theorem OutI.sls {l : List Int} {r : AV} (h : OutI l r) : SLs 1 (ints l) (freezeA r) := by
  cases h with
  | own => exact .rows true
  | part => exact .rows true
  | nil h => exact .nil (by rw [h]; rfl)
theorem OutI.stab {l : List Int} {r : AV} (h : OutI l r) : (freezeA r).stab = true := by
  cases h <;> rfl
theorem OutI.frz {l : List Int} {f : FuncId} {args : List AV} (h : ∃ r, OutI l r ∧ EvV CX f args (· = r)) : ∃ v r, SLs 1 (ints l) v ∧ (v.stab = true ∧ v ≠ .esl) ∧ freezeA r = v ∧ (∀ Q : AV → Prop, EvV CX f args Q = Q r) := by
  obtain ⟨r, h1, h2⟩ := h
  refine ⟨_, r, h1.sls, ⟨h1.stab, ?_⟩, rfl, h2.rw⟩
  cases h1 <;> simp [freezeA, frz1]

/-- Right groups. -/
structure RightG (ps : List Psn) (gs : List Grp) : Prop where
  few : FewP ps gs
  chk : chkG ps gs = 0

theorem rightE {v w : AV} {gs : List Grp} {ps : List Psn} (h : GsV v gs) (hw : SLs 3 (ps.map encP) w) : EvV CX 14 [w, v] (fun r => ∃ b, r = .bool b ∧ (b = true → RightG ps gs)) := by
  have hvs := fun S => h.sl.snap (S := S)
  have hws := hw.snap
  obtain ⟨r, ⟨b, rfl, hb⟩, hq⟩ := (fewE h hw).ex
  have q := hq.rw
  clear hq
  cases b with
  | false =>
    refine EvV.walk rfl fn14 rfl nt14 rfl ?_
    simp only [List.length_cons, List.length_nil, List.cons_append, List.nil_append, Nat.reduceAdd, Nat.reduceSub, List.replicate]
    repeat' (first | refine go1 ?_ | refine blockK_else rfl ?_ | (refine wpC_cond fun A B hA hB => ?_; simp only [go_sem, reduceIte, Nat.reduceAdd, Nat.reduceEqDiff, Nat.reduceLT, Nat.reduceLeDiff, *, and_self, hvs, hws, q]; first | (refine hA.out ?_; clear hA hB A B) | (refine hB.out ?_; clear hA hB A B) | (refine iteI (fun h => hA.out ?_) (fun h => hB.out ?_) <;> clear hA hB A B) | (refine iteI (fun h => hB.out ?_) (fun h => hA.out ?_) <;> clear hA hB A B)) | (refine wpO_cons fun K hK => ?_; simp only [go_sem, reduceIte, Nat.reduceAdd, Nat.reduceEqDiff, Nat.reduceLT, Nat.reduceLeDiff, *, and_self, hvs, hws, q]; first | (refine hK.out _ _ ?_; clear hK K) | (refine iteI (fun h => hK.out _ _ ?_) (fun h => hK.out _ _ ?_) <;> clear hK K)))
    simp only [resultsR, resultsL, resultA, expK_int, expK_bool, expK_str, expK_agg, expK_own, expK_tsl, resK_some, go_sem, reduceIte, Nat.reduceAdd, Nat.reduceEqDiff, Nat.reduceLT, Nat.reduceLeDiff, and_self, ]
    exact ⟨false, rfl, fun e => by cases e⟩
  | true =>
    have hf := hb rfl
    have q2 := (checkR (h.few hf) hw (by have := hf.pl; omega) (fun g hg => by have := (hf.gn g hg).1; omega)).rw
    have hh : Hold (FewP ps gs) := ⟨hf⟩
    clear hb hf
    obtain ⟨c, hc⟩ : ∃ c, chkG ps gs = c := ⟨_, rfl⟩
    rw [hc] at q2
    have hhc : Hold (chkG ps gs = c) := ⟨hc⟩
    clear hc
    by_cases h0 : c = 0
    · subst h0
      have z : ((0 : Int) == 0) = true := rfl
      refine EvV.walk rfl fn14 rfl nt14 rfl ?_
      simp only [List.length_cons, List.length_nil, List.cons_append, List.nil_append, Nat.reduceAdd, Nat.reduceSub, List.replicate]
      repeat' (first | refine go1 ?_ | refine blockK_else rfl ?_ | (refine wpC_cond fun A B hA hB => ?_; simp only [go_sem, reduceIte, Nat.reduceAdd, Nat.reduceEqDiff, Nat.reduceLT, Nat.reduceLeDiff, *, and_self, hvs, hws, q, q2, z]; first | (refine hA.out ?_; clear hA hB A B) | (refine hB.out ?_; clear hA hB A B) | (refine iteI (fun h => hA.out ?_) (fun h => hB.out ?_) <;> clear hA hB A B) | (refine iteI (fun h => hB.out ?_) (fun h => hA.out ?_) <;> clear hA hB A B)) | (refine wpO_cons fun K hK => ?_; simp only [go_sem, reduceIte, Nat.reduceAdd, Nat.reduceEqDiff, Nat.reduceLT, Nat.reduceLeDiff, *, and_self, hvs, hws, q, q2, z]; first | (refine hK.out _ _ ?_; clear hK K) | (refine iteI (fun h => hK.out _ _ ?_) (fun h => hK.out _ _ ?_) <;> clear hK K)))
      simp only [resultsR, resultsL, resultA, expK_int, expK_bool, expK_str, expK_agg, expK_own, expK_tsl, resK_some, go_sem, reduceIte, Nat.reduceAdd, Nat.reduceEqDiff, Nat.reduceLT, Nat.reduceLeDiff, and_self, ]
      exact ⟨true, rfl, fun _ => ⟨hh.out, hhc.out⟩⟩
    · have z : (c == 0) = false := by simpa using h0
      clear h0
      refine EvV.walk rfl fn14 rfl nt14 rfl ?_
      simp only [List.length_cons, List.length_nil, List.cons_append, List.nil_append, Nat.reduceAdd, Nat.reduceSub, List.replicate]
      repeat' (first | refine go1 ?_ | refine blockK_else rfl ?_ | (refine wpC_cond fun A B hA hB => ?_; simp only [go_sem, reduceIte, Nat.reduceAdd, Nat.reduceEqDiff, Nat.reduceLT, Nat.reduceLeDiff, *, and_self, hvs, hws, q, q2, z]; first | (refine hA.out ?_; clear hA hB A B) | (refine hB.out ?_; clear hA hB A B) | (refine iteI (fun h => hA.out ?_) (fun h => hB.out ?_) <;> clear hA hB A B) | (refine iteI (fun h => hB.out ?_) (fun h => hA.out ?_) <;> clear hA hB A B)) | (refine wpO_cons fun K hK => ?_; simp only [go_sem, reduceIte, Nat.reduceAdd, Nat.reduceEqDiff, Nat.reduceLT, Nat.reduceLeDiff, *, and_self, hvs, hws, q, q2, z]; first | (refine hK.out _ _ ?_; clear hK K) | (refine iteI (fun h => hK.out _ _ ?_) (fun h => hK.out _ _ ?_) <;> clear hK K)))
      simp only [resultsR, resultsL, resultA, expK_int, expK_bool, expK_str, expK_agg, expK_own, expK_tsl, resK_some, go_sem, reduceIte, Nat.reduceAdd, Nat.reduceEqDiff, Nat.reduceLT, Nat.reduceLeDiff, and_self, ]
      exact ⟨false, rfl, fun e => by cases e⟩

theorem lawChecks {v w : AV} {gs : List Grp} {ps : List Psn} (h : GsV v gs) (hw : SLs 3 (ps.map encP) w) : EvV CX 3 [w, v] (· = .bool true) := by
  have hvs := fun S => h.sl.snap (S := S)
  have hws := hw.snap
  have qa := awake.rw
  obtain ⟨r, ⟨b, rfl, hb⟩, hq⟩ := (fewE h hw).ex
  have q := hq.rw
  clear hq
  cases b with
  | false =>
    refine EvV.walk rfl fn3 rfl nt3 rfl ?_
    simp only [List.length_cons, List.length_nil, List.cons_append, List.nil_append, Nat.reduceAdd, Nat.reduceSub, List.replicate]
    repeat' (first | refine go1 ?_ | refine blockK_else rfl ?_ | (refine wpC_cond fun A B hA hB => ?_; simp only [go_sem, reduceIte, Nat.reduceAdd, Nat.reduceEqDiff, Nat.reduceLT, Nat.reduceLeDiff, *, and_self, hvs, hws, q, qa]; first | (refine hA.out ?_; clear hA hB A B) | (refine hB.out ?_; clear hA hB A B) | (refine iteI (fun h => hA.out ?_) (fun h => hB.out ?_) <;> clear hA hB A B) | (refine iteI (fun h => hB.out ?_) (fun h => hA.out ?_) <;> clear hA hB A B)) | (refine wpO_cons fun K hK => ?_; simp only [go_sem, reduceIte, Nat.reduceAdd, Nat.reduceEqDiff, Nat.reduceLT, Nat.reduceLeDiff, *, and_self, hvs, hws, q, qa]; first | (refine hK.out _ _ ?_; clear hK K) | (refine iteI (fun h => hK.out _ _ ?_) (fun h => hK.out _ _ ?_) <;> clear hK K)))
    simp only [resultsR, resultsL, resultA, expK_int, expK_bool, expK_str, expK_agg, expK_own, expK_tsl, resK_some, go_sem, reduceIte, Nat.reduceAdd, Nat.reduceEqDiff, Nat.reduceLT, Nat.reduceLeDiff, and_self, ]
  | true =>
    have hf := hb rfl
    have q1 := (checkE (h.few hf) hw (by have := hf.pl; omega) (fun g hg => by have := (hf.gn g hg).1; omega)).rw
    have q2 := (checkR (h.few hf) hw (by have := hf.pl; omega) (fun g hg => by have := (hf.gn g hg).1; omega)).rw
    clear hb hf
    refine EvV.walk rfl fn3 rfl nt3 rfl ?_
    simp only [List.length_cons, List.length_nil, List.cons_append, List.nil_append, Nat.reduceAdd, Nat.reduceSub, List.replicate]
    repeat' (first | refine go1 ?_ | refine blockK_else rfl ?_ | (refine wpC_cond fun A B hA hB => ?_; simp only [go_sem, reduceIte, Nat.reduceAdd, Nat.reduceEqDiff, Nat.reduceLT, Nat.reduceLeDiff, *, and_self, hvs, hws, q, q1, q2, qa, beq_self_eq_true]; first | (refine hA.out ?_; clear hA hB A B) | (refine hB.out ?_; clear hA hB A B) | (refine iteI (fun h => hA.out ?_) (fun h => hB.out ?_) <;> clear hA hB A B) | (refine iteI (fun h => hB.out ?_) (fun h => hA.out ?_) <;> clear hA hB A B)) | (refine wpO_cons fun K hK => ?_; simp only [go_sem, reduceIte, Nat.reduceAdd, Nat.reduceEqDiff, Nat.reduceLT, Nat.reduceLeDiff, *, and_self, hvs, hws, q, q1, q2, qa, beq_self_eq_true]; first | (refine hK.out _ _ ?_; clear hK K) | (refine iteI (fun h => hK.out _ _ ?_) (fun h => hK.out _ _ ?_) <;> clear hK K)))
    simp only [resultsR, resultsL, resultA, expK_int, expK_bool, expK_str, expK_agg, expK_own, expK_tsl, resK_some, go_sem, reduceIte, Nat.reduceAdd, Nat.reduceEqDiff, Nat.reduceLT, Nat.reduceLeDiff, and_self, ]

/-! What right groups are. -/
theorem errF_all {ps : List Psn} : ∀ {pre post : List Grp}, errF ps pre post = 0 → ∀ a x b, post = a ++ x :: b → errG ps (pre ++ a) x = 0
  | pre, [], _, a, x, b, e => by simp at e
  | pre, y :: post, h, a, x, b, e => by
    unfold errF at h
    split at h
    · rename_i h0
      cases a with
      | nil => simp at e; rw [← e.1, List.append_nil]; exact h0
      | cons z a =>
        simp at e
        have := errF_all h a x b e.2
        rw [← e.1]; simpa using this
    · rename_i h0; exact absurd h h0
theorem RightG.err {ps : List Psn} {gs : List Grp} (h : RightG ps gs) : errF ps [] gs = 0 := by
  have := h.chk
  unfold chkG at this
  split at this
  · split at this
    · assumption
    · exact this
  · cases this
theorem RightG.clo {ps : List Psn} {gs : List Grp} (h : RightG ps gs) : Clo gs := by
  have := h.chk
  unfold chkG at this
  split at this
  · split at this
    · split at this
      · rename_i h2; exact clo_of h2
      · cases this
    · rename_i h1; exact absurd h.err h1
  · cases this
theorem RightG.acyc {ps : List Psn} {gs : List Grp} (h : RightG ps gs) : ∀ g ∈ gs, g.id ∉ below gs g.id := by
  have := h.chk
  unfold chkG at this
  split at this
  · split at this
    · split at this
      · split at this
        · cases this
        · rename_i h3
          intro g hg hm
          apply h3
          rw [List.any_eq_true]
          exact ⟨g, hg, by simpa using hm⟩
      · cases this
    · rename_i h1; exact absurd h.err h1
  · cases this
theorem errG_zero {ps : List Psn} {pre : List Grp} {x : Grp} (h : errG ps pre x = 0) : ordG pre x = true ∧ upB x.people = true ∧ upB x.subs = true ∧ x.people.all (isP ps) = true ∧ idOK x.id = true ∧ nameL x.name.data.toList = true := by
  unfold errG at h
  repeat' split at h
  all_goals first | exact absurd h (by decide) | (refine ⟨?_, ?_, ?_, ?_, ?_, ?_⟩ <;> assumption)
theorem up_of_upB : ∀ {l : List Int}, upB l = true → UpL l
  | [], _ => up_nil
  | [x], _ => by simp [UpL]
  | x :: y :: l, h => by
    simp only [upB, Bool.and_eq_true, decide_eq_true_eq] at h
    have ih := up_of_upB h.2
    have ih' := List.pairwise_cons.mp ih
    refine List.pairwise_cons.mpr ⟨fun z hz => ?_, ih⟩
    rcases List.mem_cons.mp hz with e | e
    · omega
    · have := ih'.1 z e; omega
theorem upB_of_up : ∀ {l : List Int}, UpL l → upB l = true
  | [], _ => rfl
  | [x], _ => rfl
  | x :: y :: l, h => by
    have h' := List.pairwise_cons.mp h
    simp only [upB, Bool.and_eq_true, decide_eq_true_eq]
    exact ⟨h'.1 y (by simp), upB_of_up h'.2⟩
theorem ids_up_aux {ps : List Psn} : ∀ {pre post : List Grp}, UpL (pre.map (·.id)) → (∀ a x b, post = a ++ x :: b → errG ps (pre ++ a) x = 0) → UpL ((pre ++ post).map (·.id))
  | pre, [], hu, _ => by simpa using hu
  | pre, x :: post, hu, h => by
    have h0 := (errG_zero (h [] x post rfl)).1
    simp only [List.append_nil] at h0
    have : UpL ((pre ++ [x]).map (·.id)) := by
      rcases snoc_cases pre with e | ⟨q, y, e⟩
      · subst e; simp [UpL]
      · subst e
        have hl : lastG (q ++ [y]) = y := by simp [lastG]
        simp only [ordG, hl] at h0
        have hlt : y.id < x.id := by simpa using h0
        unfold UpL at hu ⊢
        rw [List.map_append, List.pairwise_append] at hu ⊢
        refine ⟨?_, by simp, ?_⟩
        · rw [List.map_append, List.pairwise_append]; exact hu
        · intro a ha b hb
          simp only [List.map_cons, List.map_nil, List.mem_singleton] at hb
          subst hb
          simp only [List.map_append, List.map_cons, List.map_nil, List.mem_append, List.mem_singleton] at ha
          rcases ha with ha | ha
          · have := hu.2.2 a ha y.id (by simp); omega
          · omega
    have := ids_up_aux (pre := pre ++ [x]) (post := post) this (fun a z b e => by
      have := h (x :: a) z b (by rw [e]; rfl)
      simpa using this)
    simpa using this
theorem RightG.ids {ps : List Psn} {gs : List Grp} (h : RightG ps gs) : UpL (gs.map (·.id)) := by
  have := ids_up_aux (ps := ps) (pre := []) (post := gs) up_nil (fun a x b e => errF_all h.err a x b e)
  simpa using this
theorem RightG.ok {ps : List Psn} {gs : List Grp} (h : RightG ps gs) {g : Grp} (hg : g ∈ gs) : UpL g.people ∧ UpL g.subs ∧ (∀ p ∈ g.people, isP ps p = true) := by
  obtain ⟨a, b, e⟩ := List.append_of_mem hg
  have := errG_zero (errF_all h.err a g b e)
  exact ⟨up_of_upB this.2.1, up_of_upB this.2.2.1, by have := this.2.2.2.1; rw [List.all_eq_true] at this; exact this⟩

theorem lawBelow {v w : AV} {gs : List Grp} {ps : List Psn} (h : GsV v gs) (hw : SLs 3 (ps.map encP) w) (n : Int) : EvV CX 4 [w, v, .int .i64 n] (· = .bool true) := by
  have hvs := fun S => h.sl.snap (S := S)
  have hws := hw.snap
  have qa := awake.rw
  obtain ⟨r, ⟨b, rfl, hb⟩, hq⟩ := (rightE h hw).ex
  have q := hq.rw
  clear hq
  cases b with
  | false =>
    refine EvV.walk rfl fn4 rfl nt4 rfl ?_
    simp only [List.length_cons, List.length_nil, List.cons_append, List.nil_append, Nat.reduceAdd, Nat.reduceSub, List.replicate]
    repeat' (first | refine go1 ?_ | refine blockK_else rfl ?_ | (refine wpC_cond fun A B hA hB => ?_; simp only [go_sem, reduceIte, Nat.reduceAdd, Nat.reduceEqDiff, Nat.reduceLT, Nat.reduceLeDiff, *, and_self, hvs, hws, q, qa]; first | (refine hA.out ?_; clear hA hB A B) | (refine hB.out ?_; clear hA hB A B) | (refine iteI (fun h => hA.out ?_) (fun h => hB.out ?_) <;> clear hA hB A B) | (refine iteI (fun h => hB.out ?_) (fun h => hA.out ?_) <;> clear hA hB A B)) | (refine wpO_cons fun K hK => ?_; simp only [go_sem, reduceIte, Nat.reduceAdd, Nat.reduceEqDiff, Nat.reduceLT, Nat.reduceLeDiff, *, and_self, hvs, hws, q, qa]; first | (refine hK.out _ _ ?_; clear hK K) | (refine iteI (fun h => hK.out _ _ ?_) (fun h => hK.out _ _ ?_) <;> clear hK K)))
    simp only [resultsR, resultsL, resultA, expK_int, expK_bool, expK_str, expK_agg, expK_own, expK_tsl, resK_some, go_sem, reduceIte, Nat.reduceAdd, Nat.reduceEqDiff, Nat.reduceLT, Nat.reduceLeDiff, and_self, ]
  | true =>
    have hr := hb rfl
    have hg := h.few hr.few
    clear hb
    have qb := (belowRE hg n).rw
    have qm := (membersRE hg n).rw
    rw [belowR_eq hr.clo] at qb
    rw [membersR_eq hr.clo] at qm
    obtain ⟨v1, r1, o1, t1, f1, q1⟩ := OutI.frz (belowE hg n)
    obtain ⟨v2, r2, o2, t2, f2, q2⟩ := OutI.frz (membersE hg n)
    have bl := below_len gs n
    have ml := members_len hg n
    have hgl := hg.len
    have n1 := o1.snap
    have n2 := o2.snap
    have s1 := (same1 v1 (.tsl true 1 (ints (below gs n))) _ _ o1 (.rows true) (by omega)).rw
    have s2 := (same1 v2 (.tsl true 1 (ints (members gs n))) _ _ o2 (.rows true) (by omega)).rw
    simp only [decide_true] at s1 s2
    clear o1 o2 t1 t2 hr hg hgl ml bl
    refine EvV.walk rfl fn4 rfl nt4 rfl ?_
    simp only [List.length_cons, List.length_nil, List.cons_append, List.nil_append, Nat.reduceAdd, Nat.reduceSub, List.replicate]
    repeat' (first | refine go1 ?_ | refine blockK_else rfl ?_ | (refine wpC_cond fun A B hA hB => ?_; simp only [go_sem, reduceIte, Nat.reduceAdd, Nat.reduceEqDiff, Nat.reduceLT, Nat.reduceLeDiff, *, and_self, hvs, hws, q, qa, q1, q2, qb, qm, s1, s2, f1, f2, n1, n2, hws, hvs, snap_str, getElem?_len, getElem?_lenAdd, set_len, set_lenAdd, len_mid, ints_len, List.length_map, lt_mid, List.nil_append, List.cons_append, Bool.not_true, Bool.not_false, adopt_int, adopt_bool, adopt_two, adopt_osl, adopt_tsl, adopt_nils]; first | (refine hA.out ?_; clear hA hB A B) | (refine hB.out ?_; clear hA hB A B) | (refine iteI (fun h => hA.out ?_) (fun h => hB.out ?_) <;> clear hA hB A B) | (refine iteI (fun h => hB.out ?_) (fun h => hA.out ?_) <;> clear hA hB A B)) | (refine wpO_cons fun K hK => ?_; simp only [go_sem, reduceIte, Nat.reduceAdd, Nat.reduceEqDiff, Nat.reduceLT, Nat.reduceLeDiff, *, and_self, hvs, hws, q, qa, q1, q2, qb, qm, s1, s2, f1, f2, n1, n2, hws, hvs, snap_str, getElem?_len, getElem?_lenAdd, set_len, set_lenAdd, len_mid, ints_len, List.length_map, lt_mid, List.nil_append, List.cons_append, Bool.not_true, Bool.not_false, adopt_int, adopt_bool, adopt_two, adopt_osl, adopt_tsl, adopt_nils]; first | (refine hK.out _ _ ?_; clear hK K) | (refine iteI (fun h => hK.out _ _ ?_) (fun h => hK.out _ _ ?_) <;> clear hK K)))
    simp only [resultsR, resultsL, resultA, expK_int, expK_bool, expK_str, expK_agg, expK_own, expK_tsl, resK_some, go_sem, reduceIte, Nat.reduceAdd, Nat.reduceEqDiff, Nat.reduceLT, Nat.reduceLeDiff, and_self, ]

theorem ofR_eq {ps : List Psn} {gs : List Grp} (h : RightG ps gs) (p : Int) : ofR gs gs p = ofP gs gs p := by
  unfold ofR ofP
  simp only [membersR_eq h.clo]
  rw [sortR_eq]
  refine sorted_of_up ?_
  have := h.ids
  unfold UpL at this ⊢
  rw [List.pairwise_map] at this ⊢
  exact this.filter _

theorem lawIn {v w : AV} {gs : List Grp} {ps : List Psn} (h : GsV v gs) (hw : SLs 3 (ps.map encP) w) (n p : Int) : EvV CX 5 [w, v, .agg [.int .i64 n, .int .i64 p]] (· = .bool true) := by
  have hvs := fun S => h.sl.snap (S := S)
  have hws := hw.snap
  have qa := awake.rw
  obtain ⟨r, ⟨b, rfl, hb⟩, hq⟩ := (rightE h hw).ex
  have q := hq.rw
  clear hq
  cases b with
  | false =>
    refine EvV.walk rfl fn5 rfl nt5 rfl ?_
    simp only [List.length_cons, List.length_nil, List.cons_append, List.nil_append, Nat.reduceAdd, Nat.reduceSub, List.replicate]
    repeat' (first | refine go1 ?_ | refine blockK_else rfl ?_ | (refine wpC_cond fun A B hA hB => ?_; simp only [go_sem, reduceIte, Nat.reduceAdd, Nat.reduceEqDiff, Nat.reduceLT, Nat.reduceLeDiff, *, and_self, hvs, hws, q, qa]; first | (refine hA.out ?_; clear hA hB A B) | (refine hB.out ?_; clear hA hB A B) | (refine iteI (fun h => hA.out ?_) (fun h => hB.out ?_) <;> clear hA hB A B) | (refine iteI (fun h => hB.out ?_) (fun h => hA.out ?_) <;> clear hA hB A B)) | (refine wpO_cons fun K hK => ?_; simp only [go_sem, reduceIte, Nat.reduceAdd, Nat.reduceEqDiff, Nat.reduceLT, Nat.reduceLeDiff, *, and_self, hvs, hws, q, qa]; first | (refine hK.out _ _ ?_; clear hK K) | (refine iteI (fun h => hK.out _ _ ?_) (fun h => hK.out _ _ ?_) <;> clear hK K)))
    simp only [resultsR, resultsL, resultA, expK_int, expK_bool, expK_str, expK_agg, expK_own, expK_tsl, resK_some, go_sem, reduceIte, Nat.reduceAdd, Nat.reduceEqDiff, Nat.reduceLT, Nat.reduceLeDiff, and_self, ]
  | true =>
    have hr := hb rfl
    have hg := h.few hr.few
    clear hb
    have q1 := (inE hg n p).rw
    have q2 := (inRE hg n p).rw
    have q3 := (ofE hg p).rw
    have q4 := (ofRE hg p).rw
    rw [membersR_eq hr.clo] at q2
    rw [ofR_eq hr] at q4
    have ol := ofP_len gs gs p
    have hgl := hg.len
    have s1 := (same1 (.tsl true 1 (ints (ofP gs gs p))) (.tsl true 1 (ints (ofP gs gs p))) _ _ (.rows true) (.rows true) (by omega)).rw
    simp only [decide_true] at s1
    clear hr hg hgl ol
    generalize ofP gs gs p = O at *
    generalize (members gs n).contains p = M at *
    have z : (M == M) = true := by simp
    refine EvV.walk rfl fn5 rfl nt5 rfl ?_
    simp only [List.length_cons, List.length_nil, List.cons_append, List.nil_append, Nat.reduceAdd, Nat.reduceSub, List.replicate]
    repeat' (first | refine go1 ?_ | refine blockK_else rfl ?_ | (refine wpC_cond fun A B hA hB => ?_; simp only [go_sem, reduceIte, Nat.reduceAdd, Nat.reduceEqDiff, Nat.reduceLT, Nat.reduceLeDiff, *, and_self, hvs, hws, q, qa, q1, q2, q3, q4, s1, z, hws, hvs, snap_str, getElem?_len, getElem?_lenAdd, set_len, set_lenAdd, len_mid, ints_len, List.length_map, lt_mid, List.nil_append, List.cons_append, Bool.not_true, Bool.not_false, adopt_int, adopt_bool, adopt_two, adopt_osl, adopt_tsl, adopt_nils, snap_sl, rowsOf_sl, ints_len, ints_take, List.take_length, Nat.zero_le, Nat.zero_add, Bool.true_or, List.getElem?_cons_succ]; first | (refine hA.out ?_; clear hA hB A B) | (refine hB.out ?_; clear hA hB A B) | (refine iteI (fun h => hA.out ?_) (fun h => hB.out ?_) <;> clear hA hB A B) | (refine iteI (fun h => hB.out ?_) (fun h => hA.out ?_) <;> clear hA hB A B)) | (refine wpO_cons fun K hK => ?_; simp only [go_sem, reduceIte, Nat.reduceAdd, Nat.reduceEqDiff, Nat.reduceLT, Nat.reduceLeDiff, *, and_self, hvs, hws, q, qa, q1, q2, q3, q4, s1, z, hws, hvs, snap_str, getElem?_len, getElem?_lenAdd, set_len, set_lenAdd, len_mid, ints_len, List.length_map, lt_mid, List.nil_append, List.cons_append, Bool.not_true, Bool.not_false, adopt_int, adopt_bool, adopt_two, adopt_osl, adopt_tsl, adopt_nils, snap_sl, rowsOf_sl, ints_len, ints_take, List.take_length, Nat.zero_le, Nat.zero_add, Bool.true_or, List.getElem?_cons_succ]; first | (refine hK.out _ _ ?_; clear hK K) | (refine iteI (fun h => hK.out _ _ ?_) (fun h => hK.out _ _ ?_) <;> clear hK K)))
    simp only [resultsR, resultsL, resultA, expK_int, expK_bool, expK_str, expK_agg, expK_own, expK_tsl, resK_some, go_sem, reduceIte, Nat.reduceAdd, Nat.reduceEqDiff, Nat.reduceLT, Nat.reduceLeDiff, and_self, ]
end Go.Eng

/- Groups: arguments as trees. -/
namespace Go.Eng
open Go.Proofs

theorem rows_ints {r : List (List AV)} (h : ∀ x ∈ r, ∃ v r', x = v :: r' ∧ (∃ n, v = .int .i64 n ∧ (Lit.int .i64 n).wf = true) ∧ r' = []) : ∃ l, r = ints l ∧ ∀ n ∈ l, (Lit.int .i64 n).wf = true :=
  ints_of fun x hx => by obtain ⟨_, _, rfl, ⟨n, rfl, hn⟩, rfl⟩ := h x hx; exact ⟨n, rfl, hn⟩
theorem gsv_aux : ∀ {rows : List (List AV)}, (∀ r ∈ rows, okR [.int .i64, .str, .sl [.int .i64], .sl [.int .i64]] r) → ∃ gs : List Grp, rows = gs.map encG ∧ (∀ g ∈ gs, g.ok) ∧ (∀ g ∈ gs, g.pv.stab = true ∧ g.sv.stab = true) ∧ ∀ g ∈ gs, g.pv ≠ .esl
  | [], _ => ⟨[], rfl, (fun _ h => by cases h), (fun _ h => by cases h), (fun _ h => by cases h)⟩
  | r :: rows, h => by
    have hr := h r (by simp)
    simp only [okR, okC] at hr
    obtain ⟨_, _, rfl, ⟨a, rfl, _⟩, _, _, rfl, ⟨s, rfl, _⟩, _, _, rfl, ⟨r1, rfl, _, k1⟩, _, _, rfl, ⟨r2, rfl, _, k2⟩, rfl⟩ := hr
    obtain ⟨l1, rfl, _⟩ := rows_ints k1
    obtain ⟨l2, rfl, _⟩ := rows_ints k2
    obtain ⟨gs, rfl, hg, hs, he⟩ := gsv_aux (rows := rows) fun r hr => h r (by simp [hr])
    refine ⟨⟨a, s, l1, l2, .tsl true 1 (ints l1), .tsl true 1 (ints l2)⟩ :: gs, rfl, fun g hgm => ?_, fun g hgm => ?_, fun g hgm => ?_⟩
    · rcases List.mem_cons.1 hgm with rfl | hgm
      · exact ⟨.rows true, .rows true⟩
      · exact hg g hgm
    · rcases List.mem_cons.1 hgm with rfl | hgm
      · exact ⟨rfl, rfl⟩
      · exact hs g hgm
    · rcases List.mem_cons.1 hgm with rfl | hgm
      · simp
      · exact he g hgm
theorem gsv_of {rows : List (List AV)} (h : ∀ r ∈ rows, okR [.int .i64, .str, .sl [.int .i64], .sl [.int .i64]] r) : ∃ gs : List Grp, rows = gs.map encG ∧ GsV (.tsl true 4 rows) gs ∧ ∀ g ∈ gs, g.pv ≠ .esl := by
  obtain ⟨gs, rfl, h1, h2, h3⟩ := gsv_aux h
  exact ⟨gs, rfl, ⟨.rows true, h1, h2⟩, h3⟩
theorem psns_of : ∀ {rows : List (List AV)}, (∀ r ∈ rows, okR [.int .i64, .str, .bool] r) → ∃ ps : List Psn, rows = ps.map encP
  | [], _ => ⟨[], rfl⟩
  | r :: rows, h => by
    have hr := h r (by simp)
    simp only [okR, okC] at hr
    obtain ⟨_, _, rfl, ⟨a, rfl, _⟩, _, _, rfl, ⟨s, rfl, _⟩, _, _, rfl, ⟨b, rfl⟩, rfl⟩ := hr
    obtain ⟨ps, rfl⟩ := psns_of (rows := rows) fun r hr => h r (by simp [hr])
    exact ⟨⟨a, s, b⟩ :: ps, rfl⟩
theorem u8_lo {a : Int} (h : (Lit.int .u8 a).wf = true) : 0 ≤ a := by
  simp [Lit.wf, IntKind.min, IntKind.signed] at h; omega
theorem u8_hi {a : Int} (h : (Lit.int .u8 a).wf = true) : a ≤ 255 := by
  simp [Lit.wf, IntKind.max, IntKind.signed, IntKind.bits] at h; omega
end Go.Eng

/- Groups: the laws Nested, Plain, Agrees as runs. -/
namespace Go.Eng
open Go.Proofs
set_option linter.unusedSimpArgs false
set_option linter.unusedVariables false
attribute [local irreducible] wpC wpO wp1 EvV EvR wpL
attribute [local go_sem] ty3 ty4 ty9 ty22 ty23 ty29 ty37 ty42 br11 br14 br16 br18 br24 br25 fz60 fz61 fz62 fz63 fz64 fz65 beq_iff_eq beq_eq_false_iff_ne Int.natCast_inj Bool.not_eq_false' op1_go wpK_box wpK_alloc wpK_load wpK_store wpK_binOp wpK_unOp wpK_fieldAddr wpK_field wpK_build wpK_indexAddr wpK_slice wpK_len wpK_extract wpK_nilCheck wpK_pick wpK_makeFunc wpK_call wpK_callT wpK_max wpK_min wpK_assignT wpK_moveT wpK_assignB wpK_moveB wpK_assignI wpK_moveI wpK_assignA wpK_moveA callK_fn snapL_nil snapL_cons snap_int snap_bool snap_str snap_tsl snap_agg snap_fn snap_flat adopt_int adopt_bool adopt_str adopt_agg adopt_osl adopt_tsl adopt_tup op1_guard grdK_bool grdK_undef condK_bool someK_some pairK_some nilK_ptr nilK_tptr boxK storeK evalA_tmp evalA_int evalA_bool evalA_agg evalA_fn evalA_nil ofC_int ofC_bool getA_zero getA_succ cells_int cells_agg cells_bool cells_sl cells_tsl cell_int cell_bool cell_str cell_sl cell_esl cell_tsl cell_ptr cell_tptr cell_fn cell_nils cell_nilf List.all_cons List.all_nil Bool.and_true Bool.and_self Bool.true_and putA_some putA_none List.set_cons_zero List.set_cons_succ List.length_cons List.length_nil List.nil_append List.cons_append stabL AV.stab fieldAddrA fieldA List.getElem?_cons_zero List.getElem?_cons_succ Nat.zero_add loadA rowOf Nat.le_refl and_self true_and and_true partA binA unA intBin eqBin eqCells eqCell Option.bind_some decide_true decide_false decide_eq_true_eq ite_not Bool.not_eq_true' decide_eq_false_iff_not Bool.false_eq_true Option.map_some Option.map_none Bool.not_true Bool.not_false buildA fillA patch List.take List.drop List.map_cons List.map_nil extK List.getD_cons_zero List.getD_cons_succ minmaxA minmaxGo adoptZ_false adoptZ_true freeze_int freeze_bool freeze_str freeze_flat freeze_agg freeze_osl freeze_tsl freeze_tup frz1_bool frz1_int frz1_str frz1_agg frz1_osl frz1_tsl bne Bool.false_and Bool.and_false ne_eq not_true_eq_false not_false_eq_true List.append_nil
set_option maxHeartbeats 4000000

theorem nested_plain {ps : List Psn} {gs : List Grp} (h : RightG ps gs) {g : Grp} (hg : g ∈ gs) : (below gs g.id).contains g.id = false ∧ ∀ y ∈ below gs g.id, (below gs y).contains g.id = false ∧ minus (members gs y) (members gs g.id) = [] := by
  have ha := h.acyc g hg
  refine ⟨by simpa using ha, fun y hy => ⟨?_, ?_⟩⟩
  · have : g.id ∉ below gs y := fun hm => ha (mem_below.mpr ((mem_below.mp hy).trans (mem_below.mp hm)))
    simpa using this
  · have : ∀ x, x ∉ minus (members gs y) (members gs g.id) := by
      intro x hx
      obtain ⟨h1, h2⟩ := (mem_minus _ _ _).mp hx
      apply h2
      rw [mem_members] at h1 ⊢
      right
      rcases h1 with h1 | ⟨z, h1, h3⟩
      · exact ⟨y, mem_below.mp hy, h1⟩
      · exact ⟨z, (mem_below.mp hy).trans h1, h3⟩
    exact List.eq_nil_iff_forall_not_mem.mpr this

theorem lawNested {v w : AV} {gs : List Grp} {ps : List Psn} (h : GsV v gs) (hw : SLs 3 (ps.map encP) w) : EvV CX 6 [w, v] (· = .bool true) := by
  have hvs := fun S => h.sl.snap (S := S)
  have hws := hw.snap
  have qa := awake.rw
  obtain ⟨r, ⟨b, rfl, hb⟩, hq⟩ := (rightE h hw).ex
  have q := hq.rw
  clear hq
  cases b with
  | false =>
    refine EvV.walk rfl fn6 rfl nt6 rfl ?_
    simp only [List.length_cons, List.length_nil, List.cons_append, List.nil_append, Nat.reduceAdd, Nat.reduceSub, List.replicate]
    repeat' (first | refine go1 ?_ | refine blockK_else rfl ?_ | (refine wpC_cond fun A B hA hB => ?_; simp only [go_sem, reduceIte, Nat.reduceAdd, Nat.reduceEqDiff, Nat.reduceLT, Nat.reduceLeDiff, *, and_self, hvs, hws, q, qa]; first | (refine hA.out ?_; clear hA hB A B) | (refine hB.out ?_; clear hA hB A B) | (refine iteI (fun h => hA.out ?_) (fun h => hB.out ?_) <;> clear hA hB A B) | (refine iteI (fun h => hB.out ?_) (fun h => hA.out ?_) <;> clear hA hB A B)) | (refine wpO_cons fun K hK => ?_; simp only [go_sem, reduceIte, Nat.reduceAdd, Nat.reduceEqDiff, Nat.reduceLT, Nat.reduceLeDiff, *, and_self, hvs, hws, q, qa]; first | (refine hK.out _ _ ?_; clear hK K) | (refine iteI (fun h => hK.out _ _ ?_) (fun h => hK.out _ _ ?_) <;> clear hK K)))
    simp only [resultsR, resultsL, resultA, expK_int, expK_bool, expK_str, expK_agg, expK_own, expK_tsl, resK_some, go_sem, reduceIte, Nat.reduceAdd, Nat.reduceEqDiff, Nat.reduceLT, Nat.reduceLeDiff, and_self, ]
  | true =>
  have hr := hb rfl
  have hg := h.few hr.few
  have hgl := hg.len
  clear hb
  refine EvV.walk rfl fn6 rfl nt6 rfl ?_
  simp only [List.length_cons, List.length_nil, List.cons_append, List.nil_append, Nat.reduceAdd, Nat.reduceSub, List.replicate]
  repeat' (first | refine go1 ?_ | refine blockK_else rfl ?_ | (refine wpC_cond fun A B hA hB => ?_; simp only [go_sem, reduceIte, Nat.reduceAdd, Nat.reduceEqDiff, Nat.reduceLT, Nat.reduceLeDiff, *, and_self, hvs, hws, q, qa, lenK_sls h.sl, getElem?_len, getElem?_lenAdd, set_len, set_lenAdd, len_mid, ints_len, List.length_map, lt_mid, List.nil_append]; first | (refine hA.out ?_; clear hA hB A B) | (refine hB.out ?_; clear hA hB A B) | (refine iteI (fun h => hA.out ?_) (fun h => hB.out ?_) <;> clear hA hB A B) | (refine iteI (fun h => hB.out ?_) (fun h => hA.out ?_) <;> clear hA hB A B)) | (refine wpO_cons fun K hK => ?_; simp only [go_sem, reduceIte, Nat.reduceAdd, Nat.reduceEqDiff, Nat.reduceLT, Nat.reduceLeDiff, *, and_self, hvs, hws, q, qa, lenK_sls h.sl, getElem?_len, getElem?_lenAdd, set_len, set_lenAdd, len_mid, ints_len, List.length_map, lt_mid, List.nil_append]; first | (refine hK.out _ _ ?_; clear hK K) | (refine iteI (fun h => hK.out _ _ ?_) (fun h => hK.out _ _ ?_) <;> clear hK K)))
  clear q
  refine wpC_each [4, 5, 6, 7, 8, 17, 18, 19, 20, 21, 22, 23, 24, 25, 26, 27, 28, 29, 30, 31, 32, 33, 34, 35, 36, 37, 38, 39, 40, 41, 42, 43, 44, 45, 46, 47, 48, 49, 50, 51, 52, 53, 54, 55, 56, 57, 58, 59, 60, 61, 62, 63, 64, 65, 66, 67, 68, 69, 70] 16 gs (fun _ _ => True) ?_ ?_ ?_ ?_
  · trivial
  · rfl
  · intro g G _
    simp only [garbA_cons, garbA_nil, setL_cons, setL_nil, List.set_cons_zero, List.set_cons_succ]
    repeat' (first | refine go1 ?_ | refine blockK_else rfl ?_ | (refine wpC_cond fun A B hA hB => ?_; simp only [go_sem, reduceIte, Nat.reduceAdd, Nat.reduceEqDiff, Nat.reduceLT, Nat.reduceLeDiff, *, and_self, ints_len, List.length_map, Int.lt_irrefl, List.nil_append, qa]; first | (refine hA.out ?_; clear hA hB A B) | (refine hB.out ?_; clear hA hB A B) | (refine iteI (fun h => hA.out ?_) (fun h => hB.out ?_) <;> clear hA hB A B) | (refine iteI (fun h => hB.out ?_) (fun h => hA.out ?_) <;> clear hA hB A B)) | (refine wpO_cons fun K hK => ?_; simp only [go_sem, reduceIte, Nat.reduceAdd, Nat.reduceEqDiff, Nat.reduceLT, Nat.reduceLeDiff, *, and_self, ints_len, List.length_map, Int.lt_irrefl, List.nil_append, qa]; first | (refine hK.out _ _ ?_; clear hK K) | (refine iteI (fun h => hK.out _ _ ?_) (fun h => hK.out _ _ ?_) <;> clear hK K)))
    simp only [resultsR, resultsL, resultA, expK_int, expK_bool, expK_str, expK_agg, expK_own, expK_tsl, resK_some, go_sem, reduceIte, Nat.reduceAdd, Nat.reduceEqDiff, Nat.reduceLT, Nat.reduceLeDiff, and_self, ]
  intro g G pre x post h1 _
  simp only [garbA_cons, garbA_nil, setL_cons, setL_nil, List.set_cons_zero, List.set_cons_succ]
  have lt1 : (pre.length : Int) < (gs.length : Int) := by rw [h1]; simp; omega
  have i0 := idx_sls h.sl (X := CX) ty23 ty37 rfl (n := pre.length) (row := encG x) (k := .i64) (map_at encG h1)
  have w1 := wrap_succ (n := pre.length) (by omega)
  have hxm : x ∈ gs := by rw [h1]; simp
  have hh1 : Hold (gs = pre ++ x :: post) := ⟨h1⟩
  obtain ⟨a1, a2⟩ := nested_plain hr hxm
  have ha2 : Hold (∀ y ∈ below gs x.id, (below gs y).contains x.id = false ∧ minus (members gs y) (members gs x.id) = []) := ⟨a2⟩
  obtain ⟨v1, r1, o1, t1, f1, q1⟩ := OutI.frz (belowE hg x.id)
  obtain ⟨v2, r2, o2, t2, f2, q2⟩ := OutI.frz (membersE hg x.id)
  have bl := below_len gs x.id
  have ml := members_len hg x.id
  have n1 := o1.snap
  have n2 := o2.snap
  have s1 := (has1 v1 _ x.id o1 (by omega)).rw
  rw [a1] at s1
  clear h1 a2 a1 hxm t1 t2
  repeat' (first | refine go1 ?_ | refine blockK_else rfl ?_ | (refine wpO_cons fun K hK => ?_; simp only [go_sem, reduceIte, Nat.reduceAdd, Nat.reduceEqDiff, Nat.reduceLT, Nat.reduceLeDiff, *, and_self, ]; first | (refine hK.out _ _ ?_; clear hK K) | (refine iteI (fun h => hK.out _ _ ?_) (fun h => hK.out _ _ ?_) <;> clear hK K)))
  (refine wpC_cond fun A B hA hB => ?_; simp only [go_sem, reduceIte, Nat.reduceAdd, Nat.reduceEqDiff, Nat.reduceLT, Nat.reduceLeDiff, *, and_self, lt1]; first | (refine hA.out ?_; clear hA hB A B) | (refine hB.out ?_; clear hA hB A B))
  repeat' (first | refine go1 ?_ | refine blockK_else rfl ?_ | (refine wpO_cons fun K hK => ?_; simp only [go_sem, reduceIte, Nat.reduceAdd, Nat.reduceEqDiff, Nat.reduceLT, Nat.reduceLeDiff, *, and_self, hws, hvs, snap_str, getElem?_len, getElem?_lenAdd, set_len, set_lenAdd, len_mid, ints_len, List.length_map, lt_mid, List.nil_append, List.cons_append, Bool.not_true, Bool.not_false, adopt_int, adopt_bool, adopt_two, adopt_osl, adopt_tsl, adopt_nils, i0, encG, q1, q2, f1, f2, n1, n2, s1]; first | (refine hK.out _ _ ?_; clear hK K) | (refine iteI (fun h => hK.out _ _ ?_) (fun h => hK.out _ _ ?_) <;> clear hK K)))
  (refine wpC_cond fun A B hA hB => ?_; simp only [go_sem, reduceIte, Nat.reduceAdd, Nat.reduceEqDiff, Nat.reduceLT, Nat.reduceLeDiff, *, and_self, ]; first | (refine hA.out ?_; clear hA hB A B) | (refine hB.out ?_; clear hA hB A B))
  repeat' (first | refine go1 ?_ | refine blockK_else rfl ?_ | (refine wpO_cons fun K hK => ?_; simp only [go_sem, reduceIte, Nat.reduceAdd, Nat.reduceEqDiff, Nat.reduceLT, Nat.reduceLeDiff, *, and_self, lenK_sls o1, ints_len]; first | (refine hK.out _ _ ?_; clear hK K) | (refine iteI (fun h => hK.out _ _ ?_) (fun h => hK.out _ _ ?_) <;> clear hK K)))
  refine wpC_each [4, 8, 43, 44, 45, 46, 47, 48, 49, 50, 51, 52, 53, 54, 55, 56, 57, 58, 59, 60, 61, 62, 63, 64, 65, 66, 67, 68, 69] 42 (below gs x.id) (fun _ _ => True) ?_ ?_ ?_ ?_
  · trivial
  · rfl
  · intro g' G' _
    simp only [garbA_cons, garbA_nil, setL_cons, setL_nil, List.set_cons_zero, List.set_cons_succ]
    repeat' (first | refine go1 ?_ | refine blockK_else rfl ?_ | (refine wpO_cons fun K hK => ?_; simp only [go_sem, reduceIte, Nat.reduceAdd, Nat.reduceEqDiff, Nat.reduceLT, Nat.reduceLeDiff, *, and_self, ]; first | (refine hK.out _ _ ?_; clear hK K) | (refine iteI (fun h => hK.out _ _ ?_) (fun h => hK.out _ _ ?_) <;> clear hK K)))
    (refine wpC_cond fun A B hA hB => ?_; simp only [go_sem, reduceIte, Nat.reduceAdd, Nat.reduceEqDiff, Nat.reduceLT, Nat.reduceLeDiff, *, and_self, Int.lt_irrefl]; first | (refine hA.out ?_; clear hA hB A B) | (refine hB.out ?_; clear hA hB A B))
    repeat' (first | refine go1 ?_ | refine blockK_else rfl ?_ | (refine wpO_cons fun K hK => ?_; simp only [go_sem, reduceIte, Nat.reduceAdd, Nat.reduceEqDiff, Nat.reduceLT, Nat.reduceLeDiff, *, and_self, w1]; first | (refine hK.out _ _ ?_; clear hK K) | (refine iteI (fun h => hK.out _ _ ?_) (fun h => hK.out _ _ ?_) <;> clear hK K)))
    refine each_next hh1.out ?_ ?_ ?_
    · trivial
    · ((try simp only [eraseA_cons, eraseA_nil, setL_cons, setL_nil, List.set_cons_zero, List.set_cons_succ]); all_goals (first | rfl | (simp only [len_snoc, ints_len, List.length_map, ]; done) | (simp only [len_snoc, len_mid, ints_len, List.length_map, List.length_append, List.length_cons, List.length_nil, Nat.zero_add, ]; done) | (simp only [len_mid, len_snoc, ints_len, List.length_map, List.length_append, List.length_cons, List.length_nil, Nat.zero_add, ]; rfl)))
    · first | exact ⟨[], (List.append_nil _).symm⟩ | exact ⟨_, rfl⟩ | (simp only [List.append_assoc, List.cons_append, List.nil_append]; exact ⟨_, rfl⟩)
  · intro g' G' pr y po h2 _
    simp only [garbA_cons, garbA_nil, setL_cons, setL_nil, List.set_cons_zero, List.set_cons_succ]
    have lt2 : (pr.length : Int) < ((below gs x.id).length : Int) := by rw [h2]; simp; omega
    have j1 := idx_sls o1 (X := CX) ty29 ty3 rfl (n := pr.length) (row := [.int .i64 y]) (k := .i64) (by rw [h2]; exact ints_mid pr y po)
    have w2 := wrap_succ (n := pr.length) (by omega)
    obtain ⟨a3, a4⟩ := ha2.out y (by rw [h2]; simp)
    have hh2 : Hold (below gs x.id = pr ++ y :: po) := ⟨h2⟩
    obtain ⟨v3, r3, o3, t3, f3, q3⟩ := OutI.frz (belowE hg y)
    obtain ⟨v4, r4, o4, t4, f4, q4⟩ := OutI.frz (membersE hg y)
    have bl3 := below_len gs y
    have ml3 := members_len hg y
    have n3 := o3.snap
    have n4 := o4.snap
    have s3 := (has1 v3 _ x.id o3 (by omega)).rw
    rw [a3] at s3
    have s4 := (minus1 v4 v2 _ _ o4 o2 (by omega) (by omega)).rw
    rw [a4] at s4
    have z : ints [] = [] := rfl
    have z1 : ¬ (0 : Int) < ((0 : Nat) : Int) := by omega
    clear h2 a3 a4 t3 t4 q1 q2 f1 f2 s1
    repeat' (first | refine go1 ?_ | refine blockK_else rfl ?_ | (refine wpO_cons fun K hK => ?_; simp only [go_sem, reduceIte, Nat.reduceAdd, Nat.reduceEqDiff, Nat.reduceLT, Nat.reduceLeDiff, *, and_self, ]; first | (refine hK.out _ _ ?_; clear hK K) | (refine iteI (fun h => hK.out _ _ ?_) (fun h => hK.out _ _ ?_) <;> clear hK K)))
    (refine wpC_cond fun A B hA hB => ?_; simp only [go_sem, reduceIte, Nat.reduceAdd, Nat.reduceEqDiff, Nat.reduceLT, Nat.reduceLeDiff, *, and_self, lt2]; first | (refine hA.out ?_; clear hA hB A B) | (refine hB.out ?_; clear hA hB A B))
    repeat' (first | refine go1 ?_ | refine blockK_else rfl ?_ | (refine wpO_cons fun K hK => ?_; simp only [go_sem, reduceIte, Nat.reduceAdd, Nat.reduceEqDiff, Nat.reduceLT, Nat.reduceLeDiff, *, and_self, hws, hvs, snap_str, getElem?_len, getElem?_lenAdd, set_len, set_lenAdd, len_mid, ints_len, List.length_map, lt_mid, List.nil_append, List.cons_append, Bool.not_true, Bool.not_false, adopt_int, adopt_bool, adopt_two, adopt_osl, adopt_tsl, adopt_nils, i0, j1, encG, q3, q4, f3, f4, n3, n4, s3, s4, z, z1, lenK_tsl, List.length_nil, Int.lt_irrefl, Int.natCast_zero]; first | (refine hK.out _ _ ?_; clear hK K) | (refine iteI (fun h => hK.out _ _ ?_) (fun h => hK.out _ _ ?_) <;> clear hK K)))
    (refine wpC_cond fun A B hA hB => ?_; simp only [go_sem, reduceIte, Nat.reduceAdd, Nat.reduceEqDiff, Nat.reduceLT, Nat.reduceLeDiff, *, and_self, ]; first | (refine hA.out ?_; clear hA hB A B) | (refine hB.out ?_; clear hA hB A B))
    repeat' (first | refine go1 ?_ | refine blockK_else rfl ?_ | (refine wpO_cons fun K hK => ?_; simp only [go_sem, reduceIte, Nat.reduceAdd, Nat.reduceEqDiff, Nat.reduceLT, Nat.reduceLeDiff, *, and_self, w2]; first | (refine hK.out _ _ ?_; clear hK K) | (refine iteI (fun h => hK.out _ _ ?_) (fun h => hK.out _ _ ?_) <;> clear hK K)))
    refine each_next hh2.out ?_ ?_ ?_
    · trivial
    · ((try simp only [eraseA_cons, eraseA_nil, setL_cons, setL_nil, List.set_cons_zero, List.set_cons_succ]); all_goals (first | rfl | (simp only [len_snoc, ints_len, List.length_map, ]; done) | (simp only [len_snoc, len_mid, ints_len, List.length_map, List.length_append, List.length_cons, List.length_nil, Nat.zero_add, ]; done) | (simp only [len_mid, len_snoc, ints_len, List.length_map, List.length_append, List.length_cons, List.length_nil, Nat.zero_add, ]; rfl)))
    · first | exact ⟨[], (List.append_nil _).symm⟩ | exact ⟨_, rfl⟩ | (simp only [List.append_assoc, List.cons_append, List.nil_append]; exact ⟨_, rfl⟩)

/- Groups: the laws Plain, Agrees as runs. -/
open Go.Proofs
attribute [local go_sem] br15 br26 br27 fz28 fz66 fz67 fz68 fz69 fz70 fz71
set_option maxHeartbeats 4000000

theorem fnd_self {gs : List Grp} (hu : UpL (gs.map (·.id))) {g : Grp} (hg : g ∈ gs) : fnd gs g.id = g := by
  obtain ⟨a, b, e⟩ := List.append_of_mem hg
  subst e
  have : (gFind (a ++ g :: b) g.id) = some g := by
    unfold gFind
    rw [List.find?_append]
    have : a.find? (fun x => x.id == g.id) = none := by
      rw [List.find?_eq_none]
      intro x hx e
      have e' : x.id = g.id := by simpa using e
      unfold UpL at hu
      rw [List.map_append, List.pairwise_append] at hu
      have := hu.2.2 x.id (List.mem_map.mpr ⟨x, hx, rfl⟩) g.id (by simp)
      omega
    rw [this]; simp
  unfold fnd; rw [this]; rfl

/-- Lists joined over some groups. -/
def joinL (f : Int → List Int) (l out : List Int) : List Int := l.foldl (fun out s => sorted (out ++ f s)) out
theorem joinL_snoc (f : Int → List Int) (l out : List Int) (x : Int) : joinL f (l ++ [x]) out = sorted (joinL f l out ++ f x) := by simp [joinL, List.foldl_append]
theorem joinL_up {f : Int → List Int} : ∀ {l out : List Int}, UpL out → UpL (joinL f l out)
  | [], _, h => h
  | x :: l, out, _ => by
    unfold joinL
    rw [List.foldl_cons]
    exact joinL_up (l := l) (sorted_up _)
theorem mem_joinL {f : Int → List Int} {y : Int} : ∀ {l out : List Int}, y ∈ joinL f l out ↔ y ∈ out ∨ ∃ s ∈ l, y ∈ f s
  | [], out => by simp [joinL]
  | x :: l, out => by
    unfold joinL
    rw [List.foldl_cons]
    have ih := fun m => mem_joinL (f := f) (y := y) (l := l) (out := m)
    unfold joinL at ih
    rw [ih, mem_sorted, List.mem_append]
    constructor
    · rintro ((h | h) | ⟨z, h1, h2⟩)
      · exact .inl h
      · exact .inr ⟨x, by simp, h⟩
      · exact .inr ⟨z, by simp [h1], h2⟩
    · rintro (h | ⟨z, h1, h3⟩)
      · exact .inl (.inl h)
      · rcases List.mem_cons.mp h1 with e | e
        · subst e; exact .inl (.inr h3)
        · exact .inr ⟨z, e, h3⟩
theorem members_sub {gs : List Grp} {n y : Int} (h : y ∈ members gs n) : y ∈ gs.flatMap (·.people) := by
  have one : ∀ x, y ∈ (fnd gs x).people → y ∈ gs.flatMap (·.people) := fun x hx => by
    rcases fnd_cases gs x with ⟨_, e⟩ | ⟨_, _, e⟩
    · rw [e] at hx; simp [noG] at hx
    · exact List.mem_flatMap.mpr ⟨_, e, hx⟩
  rcases mem_members.mp h with h | ⟨x, _, h⟩
  · exact one _ h
  · exact one _ h
theorem plain_members {ps : List Psn} {gs : List Grp} (h : RightG ps gs) {g : Grp} (hg : g ∈ gs) : joinL (members gs) g.subs (sorted g.people) = members gs g.id := by
  have e := fnd_self h.ids hg
  refine up_unique (joinL_up (sorted_up _)) (members_up gs _) fun y => ?_
  rw [mem_joinL, mem_sorted, mem_members, e]
  constructor
  · rintro (h1 | ⟨s, h1, h2⟩)
    · exact .inl h1
    · have hs : Rch gs g.id s := .one (by rw [e]; exact h1) (h.clo g hg s h1)
      rcases mem_members.mp h2 with h3 | ⟨x, h3, h4⟩
      · exact .inr ⟨s, hs, h3⟩
      · exact .inr ⟨x, hs.trans h3, h4⟩
  · rintro (h1 | ⟨x, h1, h2⟩)
    · exact .inl h1
    · right
      have : ∃ s ∈ g.subs, x = s ∨ Rch gs s x := by
        clear h2
        induction h1 with
        | one h3 hg' => exact ⟨_, by rw [e] at h3; exact h3, .inl rfl⟩
        | step hy h3 hg' ih =>
          obtain ⟨s, k1, k2⟩ := ih
          refine ⟨s, k1, .inr ?_⟩
          rcases k2 with k2 | k2
          · subst k2; exact .one h3 hg'
          · exact .step k2 h3 hg'
      obtain ⟨s, k1, k2⟩ := this
      refine ⟨s, k1, mem_members.mpr ?_⟩
      rcases k2 with k2 | k2
      · subst k2; exact .inl h2
      · exact .inr ⟨x, k2, h2⟩
theorem plain_below {ps : List Psn} {gs : List Grp} (h : RightG ps gs) {g : Grp} (hg : g ∈ gs) : joinL (below gs) g.subs (sorted g.subs) = below gs g.id := by
  have e := fnd_self h.ids hg
  refine up_unique (joinL_up (sorted_up _)) (below_up gs _) fun y => ?_
  rw [mem_joinL, mem_sorted, mem_below]
  constructor
  · rintro (h1 | ⟨s, h1, h2⟩)
    · exact .one (by rw [e]; exact h1) (h.clo g hg y h1)
    · have hs : Rch gs g.id s := .one (by rw [e]; exact h1) (h.clo g hg s h1)
      exact hs.trans (mem_below.mp h2)
  · intro h1
    induction h1 with
    | one h3 hg' => exact .inl (by rw [e] at h3; exact h3)
    | step hy h3 hg' ih =>
      right
      rcases ih with k | ⟨s, k1, k2⟩
      · exact ⟨_, k, mem_below.mpr (.one h3 hg')⟩
      · exact ⟨s, k1, mem_below.mpr (.step (mem_below.mp k2) h3 hg')⟩

theorem join_len {v : AV} {gs : List Grp} (h : GsOK v gs) {l A : List Int} (hA : ∀ y ∈ A, y ∈ gs.flatMap (·.people)) (hu : UpL A) : (joinL (members gs) l A).length ≤ 1000000 := by
  refine InP.len (gs := gs) (v := v) ⟨joinL_up hu, fun y hy => ?_⟩ h
  rcases mem_joinL.mp hy with h1 | ⟨s, h1, h2⟩
  · exact hA y h1
  · exact members_sub h2
theorem below_sub {gs : List Grp} {n y : Int} (h : y ∈ below gs n) : y ∈ gs.flatMap (·.subs) := by
  have one : ∀ x, y ∈ (fnd gs x).subs → y ∈ gs.flatMap (·.subs) := fun x hx => by
    rcases fnd_cases gs x with ⟨_, e⟩ | ⟨_, _, e⟩
    · rw [e] at hx; simp [noG] at hx
    · exact List.mem_flatMap.mpr ⟨_, e, hx⟩
  cases mem_below.mp h with
  | one h1 _ => exact one _ h1
  | step _ h1 _ => exact one _ h1
theorem joinB_len {v : AV} {gs : List Grp} (h : GsOK v gs) {l A : List Int} (hA : ∀ y ∈ A, y ∈ gs.flatMap (·.subs)) (hu : UpL A) : (joinL (below gs) l A).length ≤ 1000000 := by
  refine InB.len (gs := gs) (v := v) ⟨joinL_up hu, fun y hy => ?_⟩ h
  rcases mem_joinL.mp hy with h1 | ⟨s, h1, h2⟩
  · exact hA y h1
  · exact below_sub h2

theorem lawPlain {v w : AV} {gs : List Grp} {ps : List Psn} (h : GsV v gs) (hw : SLs 3 (ps.map encP) w) : EvV CX 7 [w, v] (· = .bool true) := by
  have hvs := fun S => h.sl.snap (S := S)
  have hws := hw.snap
  have qa := awake.rw
  obtain ⟨r, ⟨b, rfl, hb⟩, hq⟩ := (rightE h hw).ex
  have q := hq.rw
  clear hq
  cases b with
  | false =>
    refine EvV.walk rfl fn7 rfl nt7 rfl ?_
    simp only [List.length_cons, List.length_nil, List.cons_append, List.nil_append, Nat.reduceAdd, Nat.reduceSub, List.replicate]
    repeat' (first | refine go1 ?_ | refine blockK_else rfl ?_ | (refine wpC_cond fun A B hA hB => ?_; simp only [go_sem, reduceIte, Nat.reduceAdd, Nat.reduceEqDiff, Nat.reduceLT, Nat.reduceLeDiff, *, and_self, hvs, hws, q, qa]; first | (refine hA.out ?_; clear hA hB A B) | (refine hB.out ?_; clear hA hB A B) | (refine iteI (fun h => hA.out ?_) (fun h => hB.out ?_) <;> clear hA hB A B) | (refine iteI (fun h => hB.out ?_) (fun h => hA.out ?_) <;> clear hA hB A B)) | (refine wpO_cons fun K hK => ?_; simp only [go_sem, reduceIte, Nat.reduceAdd, Nat.reduceEqDiff, Nat.reduceLT, Nat.reduceLeDiff, *, and_self, hvs, hws, q, qa]; first | (refine hK.out _ _ ?_; clear hK K) | (refine iteI (fun h => hK.out _ _ ?_) (fun h => hK.out _ _ ?_) <;> clear hK K)))
    simp only [resultsR, resultsL, resultA, expK_int, expK_bool, expK_str, expK_agg, expK_own, expK_tsl, resK_some, go_sem, reduceIte, Nat.reduceAdd, Nat.reduceEqDiff, Nat.reduceLT, Nat.reduceLeDiff, and_self, ]
  | true =>
  have hr := hb rfl
  have hg := h.few hr.few
  have hgl := hg.len
  clear hb
  refine EvV.walk rfl fn7 rfl nt7 rfl ?_
  simp only [List.length_cons, List.length_nil, List.cons_append, List.nil_append, Nat.reduceAdd, Nat.reduceSub, List.replicate]
  repeat' (first | refine go1 ?_ | refine blockK_else rfl ?_ | (refine wpC_cond fun A B hA hB => ?_; simp only [go_sem, reduceIte, Nat.reduceAdd, Nat.reduceEqDiff, Nat.reduceLT, Nat.reduceLeDiff, *, and_self, hvs, hws, q, qa, lenK_sls h.sl, getElem?_len, getElem?_lenAdd, set_len, set_lenAdd, len_mid, ints_len, List.length_map, lt_mid, List.nil_append]; first | (refine hA.out ?_; clear hA hB A B) | (refine hB.out ?_; clear hA hB A B) | (refine iteI (fun h => hA.out ?_) (fun h => hB.out ?_) <;> clear hA hB A B) | (refine iteI (fun h => hB.out ?_) (fun h => hA.out ?_) <;> clear hA hB A B)) | (refine wpO_cons fun K hK => ?_; simp only [go_sem, reduceIte, Nat.reduceAdd, Nat.reduceEqDiff, Nat.reduceLT, Nat.reduceLeDiff, *, and_self, hvs, hws, q, qa, lenK_sls h.sl, getElem?_len, getElem?_lenAdd, set_len, set_lenAdd, len_mid, ints_len, List.length_map, lt_mid, List.nil_append]; first | (refine hK.out _ _ ?_; clear hK K) | (refine iteI (fun h => hK.out _ _ ?_) (fun h => hK.out _ _ ?_) <;> clear hK K)))
  clear q
  refine wpC_each [4, 5, 6, 7, 8, 17, 18, 19, 20, 21, 22, 23, 24, 25, 26, 27, 28, 29, 30, 31, 32, 33, 34, 35, 36, 37, 38, 39, 40, 41, 42, 43, 44, 45, 46, 47, 48, 49, 50, 51, 52, 53, 54, 55, 56, 57, 58, 59, 60, 61, 62, 63, 64, 65, 66, 67, 68, 69, 70, 71, 72, 73, 74, 75, 76, 77, 78, 79, 80, 81, 82, 83, 84, 85, 86, 87] 16 gs (fun _ _ => True) ?_ ?_ ?_ ?_
  · trivial
  · rfl
  · intro g G _
    simp only [garbA_cons, garbA_nil, setL_cons, setL_nil, List.set_cons_zero, List.set_cons_succ]
    repeat' (first | refine go1 ?_ | refine blockK_else rfl ?_ | (refine wpC_cond fun A B hA hB => ?_; simp only [go_sem, reduceIte, Nat.reduceAdd, Nat.reduceEqDiff, Nat.reduceLT, Nat.reduceLeDiff, *, and_self, ints_len, List.length_map, Int.lt_irrefl, List.nil_append, qa]; first | (refine hA.out ?_; clear hA hB A B) | (refine hB.out ?_; clear hA hB A B) | (refine iteI (fun h => hA.out ?_) (fun h => hB.out ?_) <;> clear hA hB A B) | (refine iteI (fun h => hB.out ?_) (fun h => hA.out ?_) <;> clear hA hB A B)) | (refine wpO_cons fun K hK => ?_; simp only [go_sem, reduceIte, Nat.reduceAdd, Nat.reduceEqDiff, Nat.reduceLT, Nat.reduceLeDiff, *, and_self, ints_len, List.length_map, Int.lt_irrefl, List.nil_append, qa]; first | (refine hK.out _ _ ?_; clear hK K) | (refine iteI (fun h => hK.out _ _ ?_) (fun h => hK.out _ _ ?_) <;> clear hK K)))
    simp only [resultsR, resultsL, resultA, expK_int, expK_bool, expK_str, expK_agg, expK_own, expK_tsl, resK_some, go_sem, reduceIte, Nat.reduceAdd, Nat.reduceEqDiff, Nat.reduceLT, Nat.reduceLeDiff, and_self, ]
  intro g G pre x post h1 _
  simp only [garbA_cons, garbA_nil, setL_cons, setL_nil, List.set_cons_zero, List.set_cons_succ]
  have lt1 : (pre.length : Int) < (gs.length : Int) := by rw [h1]; simp; omega
  have i0 := idx_sls h.sl (X := CX) ty23 ty37 rfl (n := pre.length) (row := encG x) (k := .i64) (map_at encG h1)
  have w1 := wrap_succ (n := pre.length) (by omega)
  have hxm : x ∈ gs := by rw [h1]; simp
  have hx := h.ok x hxm
  have s1 := hx.pv.snap
  have s2 := hx.sv.snap
  have hh1 : Hold (gs = pre ++ x :: post) := ⟨h1⟩
  have hhx : Hold (x ∈ gs) := ⟨hxm⟩
  have xl := hg.ppl x hxm
  have xs := hg.subs x hxm
  have r1 := (sorted1 _ _ hx.pv (by omega)).rw
  have r2 := (sorted1 _ _ hx.sv (by omega)).rw
  clear h1 hxm
  repeat' (first | refine go1 ?_ | refine blockK_else rfl ?_ | (refine wpO_cons fun K hK => ?_; simp only [go_sem, reduceIte, Nat.reduceAdd, Nat.reduceEqDiff, Nat.reduceLT, Nat.reduceLeDiff, *, and_self, ]; first | (refine hK.out _ _ ?_; clear hK K) | (refine iteI (fun h => hK.out _ _ ?_) (fun h => hK.out _ _ ?_) <;> clear hK K)))
  (refine wpC_cond fun A B hA hB => ?_; simp only [go_sem, reduceIte, Nat.reduceAdd, Nat.reduceEqDiff, Nat.reduceLT, Nat.reduceLeDiff, *, and_self, lt1]; first | (refine hA.out ?_; clear hA hB A B) | (refine hB.out ?_; clear hA hB A B))
  repeat' (first | refine go1 ?_ | refine blockK_else rfl ?_ | (refine wpO_cons fun K hK => ?_; simp only [go_sem, reduceIte, Nat.reduceAdd, Nat.reduceEqDiff, Nat.reduceLT, Nat.reduceLeDiff, *, and_self, hws, hvs, snap_str, getElem?_len, getElem?_lenAdd, set_len, set_lenAdd, len_mid, ints_len, List.length_map, lt_mid, List.nil_append, List.cons_append, Bool.not_true, Bool.not_false, adopt_int, adopt_bool, adopt_two, adopt_osl, adopt_tsl, adopt_nils, i0, encG, s1, s2, r1, r2, lenK_sls hx.sv, ints_len]; first | (refine hK.out _ _ ?_; clear hK K) | (refine iteI (fun h => hK.out _ _ ?_) (fun h => hK.out _ _ ?_) <;> clear hK K)))
  refine wpC_eachE [8, 38, 39, 40, 41, 42, 43, 44, 45, 46, 47, 48, 49, 50, 51, 52, 53, 54, 55, 56, 57, 58, 59, 60, 61, 62, 63, 64] 37 (fun pr => [(6, .tsl true 1 (ints (joinL (members gs) pr (sorted x.people)))), (7, .tsl true 1 (ints (joinL (below gs) pr (sorted x.subs))))]) x.subs (fun _ _ => True) ?_ ?_ ?_ ?_
  · trivial
  · rfl
  · intro g' G' _
    obtain ⟨v1, k1, o1, t1, f1, q1⟩ := OutI.frz (belowE hg x.id)
    obtain ⟨v2, k2, o2, t2, f2, q2⟩ := OutI.frz (membersE hg x.id)
    have bl := below_len gs x.id
    have ml := members_len hg x.id
    have n1 := o1.snap
    have n2 := o2.snap
    have c1 := (same1 v1 (.tsl true 1 (ints (below gs x.id))) _ _ o1 (.rows true) (by omega)).rw
    have c2 := (same1 v2 (.tsl true 1 (ints (members gs x.id))) _ _ o2 (.rows true) (by omega)).rw
    simp only [decide_true] at c1 c2
    have e1 := plain_members hr hhx.out
    have e2 := plain_below hr hhx.out
    clear t1 t2 r1 r2
    simp only [e1, e2]
    simp only [garbA_cons, garbA_nil, setL_cons, setL_nil, List.set_cons_zero, List.set_cons_succ]
    clear e1 e2
    repeat' (first | refine go1 ?_ | refine blockK_else rfl ?_ | (refine wpO_cons fun K hK => ?_; simp only [go_sem, reduceIte, Nat.reduceAdd, Nat.reduceEqDiff, Nat.reduceLT, Nat.reduceLeDiff, *, and_self, ]; first | (refine hK.out _ _ ?_; clear hK K) | (refine iteI (fun h => hK.out _ _ ?_) (fun h => hK.out _ _ ?_) <;> clear hK K)))
    (refine wpC_cond fun A B hA hB => ?_; simp only [go_sem, reduceIte, Nat.reduceAdd, Nat.reduceEqDiff, Nat.reduceLT, Nat.reduceLeDiff, *, and_self, Int.lt_irrefl]; first | (refine hA.out ?_; clear hA hB A B) | (refine hB.out ?_; clear hA hB A B))
    repeat' (first | refine go1 ?_ | refine blockK_else rfl ?_ | (refine wpO_cons fun K hK => ?_; simp only [go_sem, reduceIte, Nat.reduceAdd, Nat.reduceEqDiff, Nat.reduceLT, Nat.reduceLeDiff, *, and_self, hws, hvs, snap_str, getElem?_len, getElem?_lenAdd, set_len, set_lenAdd, len_mid, ints_len, List.length_map, lt_mid, List.nil_append, List.cons_append, Bool.not_true, Bool.not_false, adopt_int, adopt_bool, adopt_two, adopt_osl, adopt_tsl, adopt_nils, i0, encG, q1, q2, f1, f2, n1, n2, c1, c2]; first | (refine hK.out _ _ ?_; clear hK K) | (refine iteI (fun h => hK.out _ _ ?_) (fun h => hK.out _ _ ?_) <;> clear hK K)))
    (refine wpC_cond fun A B hA hB => ?_; simp only [go_sem, reduceIte, Nat.reduceAdd, Nat.reduceEqDiff, Nat.reduceLT, Nat.reduceLeDiff, *, and_self, ]; first | (refine hA.out ?_; clear hA hB A B) | (refine hB.out ?_; clear hA hB A B))
    repeat' (first | refine go1 ?_ | refine blockK_else rfl ?_ | (refine wpO_cons fun K hK => ?_; simp only [go_sem, reduceIte, Nat.reduceAdd, Nat.reduceEqDiff, Nat.reduceLT, Nat.reduceLeDiff, *, and_self, w1]; first | (refine hK.out _ _ ?_; clear hK K) | (refine iteI (fun h => hK.out _ _ ?_) (fun h => hK.out _ _ ?_) <;> clear hK K)))
    refine each_next hh1.out ?_ ?_ ?_
    · trivial
    · ((try simp only [eraseA_cons, eraseA_nil, setL_cons, setL_nil, List.set_cons_zero, List.set_cons_succ]); all_goals (first | rfl | (simp only [len_snoc, ints_len, List.length_map, ]; done) | (simp only [len_snoc, len_mid, ints_len, List.length_map, List.length_append, List.length_cons, List.length_nil, Nat.zero_add, ]; done) | (simp only [len_mid, len_snoc, ints_len, List.length_map, List.length_append, List.length_cons, List.length_nil, Nat.zero_add, ]; rfl)))
    · first | exact ⟨[], (List.append_nil _).symm⟩ | exact ⟨_, rfl⟩ | (simp only [List.append_assoc, List.cons_append, List.nil_append]; exact ⟨_, rfl⟩)
  · intro g' G' pr y po h2 _
    have lt2 : (pr.length : Int) < (x.subs.length : Int) := by rw [h2]; simp; omega
    have j1 := idx_sls hx.sv (X := CX) ty29 ty3 rfl (n := pr.length) (row := [.int .i64 y]) (k := .i64) (by rw [h2]; exact ints_mid pr y po)
    have w2 := wrap_succ (n := pr.length) (by omega)
    have hh2 : Hold (x.subs = pr ++ y :: po) := ⟨h2⟩
    obtain ⟨v3, r3, o3, t3, f3, q3⟩ := OutI.frz (belowE hg y)
    obtain ⟨v4, r4, o4, t4, f4, q4⟩ := OutI.frz (membersE hg y)
    have bl3 := below_len gs y
    have ml3 := members_len hg y
    have n3 := o3.snap
    have n4 := o4.snap
    have jl : (joinL (members gs) pr (sorted x.people)).length ≤ 1000000 := join_len hg (fun z hz => List.mem_flatMap.mpr ⟨x, hhx.out, (mem_sorted _ _).mp hz⟩) (sorted_up _)
    have jb : (joinL (below gs) pr (sorted x.subs)).length ≤ 1000000 := joinB_len hg (fun z hz => List.mem_flatMap.mpr ⟨x, hhx.out, (mem_sorted _ _).mp hz⟩) (sorted_up _)
    have u1 := (union1 (.tsl true 1 (ints (joinL (members gs) pr (sorted x.people)))) v4 _ _ (.rows true) o4 (by omega) (by omega)).rw
    have u2 := (union1 (.tsl true 1 (ints (joinL (below gs) pr (sorted x.subs)))) v3 _ _ (.rows true) o3 (by omega) (by omega)).rw
    have e1 := joinL_snoc (members gs) pr (sorted x.people) y
    have e2 := joinL_snoc (below gs) pr (sorted x.subs) y
    have hhe : Hold (joinL (members gs) (pr ++ [y]) (sorted x.people) = sorted (joinL (members gs) pr (sorted x.people) ++ members gs y) ∧ joinL (below gs) (pr ++ [y]) (sorted x.subs) = sorted (joinL (below gs) pr (sorted x.subs) ++ below gs y)) := ⟨e1, e2⟩
    clear h2 t3 t4 r1 r2 e1 e2
    simp only [garbA_cons, garbA_nil, setL_cons, setL_nil, List.set_cons_zero, List.set_cons_succ]
    repeat' (first | refine go1 ?_ | refine blockK_else rfl ?_ | (refine wpO_cons fun K hK => ?_; simp only [go_sem, reduceIte, Nat.reduceAdd, Nat.reduceEqDiff, Nat.reduceLT, Nat.reduceLeDiff, *, and_self, ]; first | (refine hK.out _ _ ?_; clear hK K) | (refine iteI (fun h => hK.out _ _ ?_) (fun h => hK.out _ _ ?_) <;> clear hK K)))
    (refine wpC_cond fun A B hA hB => ?_; simp only [go_sem, reduceIte, Nat.reduceAdd, Nat.reduceEqDiff, Nat.reduceLT, Nat.reduceLeDiff, *, and_self, lt2]; first | (refine hA.out ?_; clear hA hB A B) | (refine hB.out ?_; clear hA hB A B))
    repeat' (first | refine go1 ?_ | refine blockK_else rfl ?_ | (refine wpO_cons fun K hK => ?_; simp only [go_sem, reduceIte, Nat.reduceAdd, Nat.reduceEqDiff, Nat.reduceLT, Nat.reduceLeDiff, *, and_self, hws, hvs, snap_str, getElem?_len, getElem?_lenAdd, set_len, set_lenAdd, len_mid, ints_len, List.length_map, lt_mid, List.nil_append, List.cons_append, Bool.not_true, Bool.not_false, adopt_int, adopt_bool, adopt_two, adopt_osl, adopt_tsl, adopt_nils, i0, j1, encG, q3, q4, f3, f4, n3, n4, u1, u2, w2]; first | (refine hK.out _ _ ?_; clear hK K) | (refine iteI (fun h => hK.out _ _ ?_) (fun h => hK.out _ _ ?_) <;> clear hK K)))
    refine each_next hh2.out ?_ ?_ ?_
    · trivial
    · ((try simp only [eraseA_cons, eraseA_nil, setL_cons, setL_nil, List.set_cons_zero, List.set_cons_succ]); all_goals (first | rfl | (simp only [len_snoc, ints_len, List.length_map, hhe.out.1, hhe.out.2]; done) | (simp only [len_snoc, len_mid, ints_len, List.length_map, List.length_append, List.length_cons, List.length_nil, Nat.zero_add, hhe.out.1, hhe.out.2]; done) | (simp only [len_mid, len_snoc, ints_len, List.length_map, List.length_append, List.length_cons, List.length_nil, Nat.zero_add, hhe.out.1, hhe.out.2]; rfl)))
    · first | exact ⟨[], (List.append_nil _).symm⟩ | exact ⟨_, rfl⟩ | (simp only [List.append_assoc, List.cons_append, List.nil_append]; exact ⟨_, rfl⟩)

/- Groups: the law Agrees as a run. -/
open Go.Proofs
attribute [local go_sem] br20 br22 br28 fz29 fz30 fz31 fz32 fz33 fz34 fz35
set_option maxHeartbeats 4000000

theorem of_has {gs : List Grp} {p : Int} {g : Grp} (hg : g ∈ gs) : (ofP gs gs p).contains g.id = (members gs g.id).contains p := by
  rw [Bool.eq_iff_iff]
  simp only [List.contains_iff_mem]
  unfold ofP
  simp only [List.mem_map, List.mem_filter]
  constructor
  · rintro ⟨x, ⟨_, h2⟩, e⟩
    rw [e] at h2; simpa using h2
  · intro h; exact ⟨g, ⟨hg, by simpa using h⟩, rfl⟩
theorem of_up {ps : List Psn} {gs : List Grp} (h : RightG ps gs) (p : Int) : UpL (ofP gs gs p) := by
  have := h.ids
  unfold ofP UpL at *
  rw [List.pairwise_map] at this ⊢
  exact this.filter _

theorem lawAgrees {v w : AV} {gs : List Grp} {ps : List Psn} (h : GsV v gs) (hw : SLs 3 (ps.map encP) w) : EvV CX 8 [w, v] (· = .bool true) := by
  have hvs := fun S => h.sl.snap (S := S)
  have hws := hw.snap
  have qa := awake.rw
  obtain ⟨r, ⟨b, rfl, hb⟩, hq⟩ := (rightE h hw).ex
  have q := hq.rw
  clear hq
  cases b with
  | false =>
    refine EvV.walk rfl fn8 rfl nt8 rfl ?_
    simp only [List.length_cons, List.length_nil, List.cons_append, List.nil_append, Nat.reduceAdd, Nat.reduceSub, List.replicate]
    repeat' (first | refine go1 ?_ | refine blockK_else rfl ?_ | (refine wpC_cond fun A B hA hB => ?_; simp only [go_sem, reduceIte, Nat.reduceAdd, Nat.reduceEqDiff, Nat.reduceLT, Nat.reduceLeDiff, *, and_self, hvs, hws, q, qa]; first | (refine hA.out ?_; clear hA hB A B) | (refine hB.out ?_; clear hA hB A B) | (refine iteI (fun h => hA.out ?_) (fun h => hB.out ?_) <;> clear hA hB A B) | (refine iteI (fun h => hB.out ?_) (fun h => hA.out ?_) <;> clear hA hB A B)) | (refine wpO_cons fun K hK => ?_; simp only [go_sem, reduceIte, Nat.reduceAdd, Nat.reduceEqDiff, Nat.reduceLT, Nat.reduceLeDiff, *, and_self, hvs, hws, q, qa]; first | (refine hK.out _ _ ?_; clear hK K) | (refine iteI (fun h => hK.out _ _ ?_) (fun h => hK.out _ _ ?_) <;> clear hK K)))
    simp only [resultsR, resultsL, resultA, expK_int, expK_bool, expK_str, expK_agg, expK_own, expK_tsl, resK_some, go_sem, reduceIte, Nat.reduceAdd, Nat.reduceEqDiff, Nat.reduceLT, Nat.reduceLeDiff, and_self, ]
  | true =>
  have hr := hb rfl
  have hg := h.few hr.few
  have hgl := hg.len
  have hpl : ps.length ≤ 1000 := by have := hr.few.pl; omega
  clear hb
  refine EvV.walk rfl fn8 rfl nt8 rfl ?_
  simp only [List.length_cons, List.length_nil, List.cons_append, List.nil_append, Nat.reduceAdd, Nat.reduceSub, List.replicate]
  repeat' (first | refine go1 ?_ | refine blockK_else rfl ?_ | (refine wpC_cond fun A B hA hB => ?_; simp only [go_sem, reduceIte, Nat.reduceAdd, Nat.reduceEqDiff, Nat.reduceLT, Nat.reduceLeDiff, *, and_self, hvs, hws, q, qa, lenK_sls hw, getElem?_len, getElem?_lenAdd, set_len, set_lenAdd, len_mid, ints_len, List.length_map, lt_mid, List.nil_append]; first | (refine hA.out ?_; clear hA hB A B) | (refine hB.out ?_; clear hA hB A B) | (refine iteI (fun h => hA.out ?_) (fun h => hB.out ?_) <;> clear hA hB A B) | (refine iteI (fun h => hB.out ?_) (fun h => hA.out ?_) <;> clear hA hB A B)) | (refine wpO_cons fun K hK => ?_; simp only [go_sem, reduceIte, Nat.reduceAdd, Nat.reduceEqDiff, Nat.reduceLT, Nat.reduceLeDiff, *, and_self, hvs, hws, q, qa, lenK_sls hw, getElem?_len, getElem?_lenAdd, set_len, set_lenAdd, len_mid, ints_len, List.length_map, lt_mid, List.nil_append]; first | (refine hK.out _ _ ?_; clear hK K) | (refine iteI (fun h => hK.out _ _ ?_) (fun h => hK.out _ _ ?_) <;> clear hK K)))
  clear q
  refine wpC_each [4, 5, 6, 7, 8, 9, 18, 19, 20, 21, 22, 23, 24, 25, 26, 27, 28, 29, 30, 31, 32, 33, 34, 35, 36, 37, 38, 39, 40, 41, 42, 43, 44, 45, 46, 47, 48, 49, 50, 51, 52, 53, 54, 55, 56, 57, 58, 59, 60, 61, 62, 63, 64, 65, 66, 67, 68, 69, 70, 71, 72, 73, 74, 75, 76, 77, 78, 79, 80, 81, 82, 83] 17 ps (fun _ _ => True) ?_ ?_ ?_ ?_
  · trivial
  · rfl
  · intro g G _
    simp only [garbA_cons, garbA_nil, setL_cons, setL_nil, List.set_cons_zero, List.set_cons_succ]
    repeat' (first | refine go1 ?_ | refine blockK_else rfl ?_ | (refine wpC_cond fun A B hA hB => ?_; simp only [go_sem, reduceIte, Nat.reduceAdd, Nat.reduceEqDiff, Nat.reduceLT, Nat.reduceLeDiff, *, and_self, ints_len, List.length_map, Int.lt_irrefl, List.nil_append, qa]; first | (refine hA.out ?_; clear hA hB A B) | (refine hB.out ?_; clear hA hB A B) | (refine iteI (fun h => hA.out ?_) (fun h => hB.out ?_) <;> clear hA hB A B) | (refine iteI (fun h => hB.out ?_) (fun h => hA.out ?_) <;> clear hA hB A B)) | (refine wpO_cons fun K hK => ?_; simp only [go_sem, reduceIte, Nat.reduceAdd, Nat.reduceEqDiff, Nat.reduceLT, Nat.reduceLeDiff, *, and_self, ints_len, List.length_map, Int.lt_irrefl, List.nil_append, qa]; first | (refine hK.out _ _ ?_; clear hK K) | (refine iteI (fun h => hK.out _ _ ?_) (fun h => hK.out _ _ ?_) <;> clear hK K)))
    simp only [resultsR, resultsL, resultA, expK_int, expK_bool, expK_str, expK_agg, expK_own, expK_tsl, resK_some, go_sem, reduceIte, Nat.reduceAdd, Nat.reduceEqDiff, Nat.reduceLT, Nat.reduceLeDiff, and_self, ]
  intro g G pre x post h1 _
  simp only [garbA_cons, garbA_nil, setL_cons, setL_nil, List.set_cons_zero, List.set_cons_succ]
  have lt1 : (pre.length : Int) < (ps.length : Int) := by rw [h1]; simp; omega
  have i0 := idx_sls hw (X := CX) ty22 ty42 rfl (n := pre.length) (row := encP x) (k := .i64) (map_at encP h1)
  have w1 := wrap_succ (n := pre.length) (by omega)
  have hh1 : Hold (ps = pre ++ x :: post) := ⟨h1⟩
  have q1 := (ofE hg x.id).rw
  clear h1
  have ol := ofP_len gs gs x.id
  repeat' (first | refine go1 ?_ | refine blockK_else rfl ?_ | (refine wpO_cons fun K hK => ?_; simp only [go_sem, reduceIte, Nat.reduceAdd, Nat.reduceEqDiff, Nat.reduceLT, Nat.reduceLeDiff, *, and_self, ]; first | (refine hK.out _ _ ?_; clear hK K) | (refine iteI (fun h => hK.out _ _ ?_) (fun h => hK.out _ _ ?_) <;> clear hK K)))
  (refine wpC_cond fun A B hA hB => ?_; simp only [go_sem, reduceIte, Nat.reduceAdd, Nat.reduceEqDiff, Nat.reduceLT, Nat.reduceLeDiff, *, and_self, lt1]; first | (refine hA.out ?_; clear hA hB A B) | (refine hB.out ?_; clear hA hB A B))
  repeat' (first | refine go1 ?_ | refine blockK_else rfl ?_ | (refine wpO_cons fun K hK => ?_; simp only [go_sem, reduceIte, Nat.reduceAdd, Nat.reduceEqDiff, Nat.reduceLT, Nat.reduceLeDiff, *, and_self, hws, hvs, snap_str, getElem?_len, getElem?_lenAdd, set_len, set_lenAdd, len_mid, ints_len, List.length_map, lt_mid, List.nil_append, List.cons_append, Bool.not_true, Bool.not_false, adopt_int, adopt_bool, adopt_two, adopt_osl, adopt_tsl, adopt_nils, i0, encP, q1, lenK_sls h.sl]; first | (refine hK.out _ _ ?_; clear hK K) | (refine iteI (fun h => hK.out _ _ ?_) (fun h => hK.out _ _ ?_) <;> clear hK K)))
  refine wpC_eachE [4, 8, 9, 30, 31, 32, 33, 34, 35, 36, 37, 38, 39, 40, 41, 42, 43, 44, 45, 46, 47, 48, 49, 50, 51, 52, 53, 54, 55, 56, 57, 58, 59, 60, 61, 62, 63, 64, 65, 66, 67, 68, 69, 70, 71, 72, 73] 29 (fun pr => [(7, .int .i64 ((ofP gs pr x.id).length : Int))]) gs (fun _ _ => True) ?_ ?_ ?_ ?_
  · trivial
  · rfl
  · intro g' G' _
    have ou := upB_of_up (of_up hr x.id)
    have u1 := (up1 (.tsl true 1 (ints (ofP gs gs x.id))) _ (.rows true) (by omega)).rw
    rw [ou] at u1
    simp only [garbA_cons, garbA_nil, setL_cons, setL_nil, List.set_cons_zero, List.set_cons_succ]
    repeat' (first | refine go1 ?_ | refine blockK_else rfl ?_ | (refine wpO_cons fun K hK => ?_; simp only [go_sem, reduceIte, Nat.reduceAdd, Nat.reduceEqDiff, Nat.reduceLT, Nat.reduceLeDiff, *, and_self, ]; first | (refine hK.out _ _ ?_; clear hK K) | (refine iteI (fun h => hK.out _ _ ?_) (fun h => hK.out _ _ ?_) <;> clear hK K)))
    (refine wpC_cond fun A B hA hB => ?_; simp only [go_sem, reduceIte, Nat.reduceAdd, Nat.reduceEqDiff, Nat.reduceLT, Nat.reduceLeDiff, *, and_self, Int.lt_irrefl]; first | (refine hA.out ?_; clear hA hB A B) | (refine hB.out ?_; clear hA hB A B))
    repeat' (first | refine go1 ?_ | refine blockK_else rfl ?_ | (refine wpO_cons fun K hK => ?_; simp only [go_sem, reduceIte, Nat.reduceAdd, Nat.reduceEqDiff, Nat.reduceLT, Nat.reduceLeDiff, *, and_self, hws, hvs, snap_str, getElem?_len, getElem?_lenAdd, set_len, set_lenAdd, len_mid, ints_len, List.length_map, lt_mid, List.nil_append, List.cons_append, Bool.not_true, Bool.not_false, adopt_int, adopt_bool, adopt_two, adopt_osl, adopt_tsl, adopt_nils, u1, ints_len, bne_self_eq_false, lenK_tsl]; first | (refine hK.out _ _ ?_; clear hK K) | (refine iteI (fun h => hK.out _ _ ?_) (fun h => hK.out _ _ ?_) <;> clear hK K)))
    (refine wpC_cond fun A B hA hB => ?_; simp only [go_sem, reduceIte, Nat.reduceAdd, Nat.reduceEqDiff, Nat.reduceLT, Nat.reduceLeDiff, *, and_self, ]; first | (refine hA.out ?_; clear hA hB A B) | (refine hB.out ?_; clear hA hB A B))
    repeat' (first | refine go1 ?_ | refine blockK_else rfl ?_ | (refine wpO_cons fun K hK => ?_; simp only [go_sem, reduceIte, Nat.reduceAdd, Nat.reduceEqDiff, Nat.reduceLT, Nat.reduceLeDiff, *, and_self, w1]; first | (refine hK.out _ _ ?_; clear hK K) | (refine iteI (fun h => hK.out _ _ ?_) (fun h => hK.out _ _ ?_) <;> clear hK K)))
    refine each_next hh1.out ?_ ?_ ?_
    · trivial
    · ((try simp only [eraseA_cons, eraseA_nil, setL_cons, setL_nil, List.set_cons_zero, List.set_cons_succ]); all_goals (first | rfl | (simp only [len_snoc, ints_len, List.length_map, ]; done) | (simp only [len_snoc, len_mid, ints_len, List.length_map, List.length_append, List.length_cons, List.length_nil, Nat.zero_add, ]; done) | (simp only [len_mid, len_snoc, ints_len, List.length_map, List.length_append, List.length_cons, List.length_nil, Nat.zero_add, ]; rfl)))
    · first | exact ⟨[], (List.append_nil _).symm⟩ | exact ⟨_, rfl⟩ | (simp only [List.append_assoc, List.cons_append, List.nil_append]; exact ⟨_, rfl⟩)
  · intro g' G' pr y po h2 _
    have hym : y ∈ gs := by rw [h2]; simp
    have lt2 : (pr.length : Int) < (gs.length : Int) := by rw [h2]; simp; omega
    have j1 := idx_sls h.sl (X := CX) ty23 ty37 rfl (n := pr.length) (row := encG y) (k := .i64) (map_at encG h2)
    have w2 := wrap_succ (n := pr.length) (by omega)
    have hh2 : Hold (gs = pr ++ y :: po) := ⟨h2⟩
    have ol2 := ofP_len gs pr x.id
    have lpr : pr.length ≤ gs.length := by rw [h2]; simp
    have w3 := wrap_succ (n := (ofP gs pr x.id).length) (by omega)
    have q2 := (inE hg y.id x.id).rw
    obtain ⟨v4, r4, o4, t4, f4, q4⟩ := OutI.frz (membersE hg y.id)
    have ml4 := members_len hg y.id
    have n4 := o4.snap
    have s1 := (has1 (.tsl true 1 (ints (ofP gs gs x.id))) _ y.id (.rows true) (by omega)).rw
    have s2 := (has1 v4 _ x.id o4 (by omega)).rw
    rw [of_has hym] at s1
    have hs := ofP_snoc gs pr x.id y
    clear h2 hym t4
    by_cases k1 : (members gs y.id).contains x.id = true
    · rw [k1] at s1 s2 q2 hs
      simp only [if_true] at hs
      have hhs : Hold (ofP gs (pr ++ [y]) x.id = ofP gs pr x.id ++ [y.id]) := ⟨hs⟩
      have z : (true != true) = false := rfl
      clear hs k1
      simp only [garbA_cons, garbA_nil, setL_cons, setL_nil, List.set_cons_zero, List.set_cons_succ]
      repeat' (first | refine go1 ?_ | refine blockK_else rfl ?_ | (refine wpO_cons fun K hK => ?_; simp only [go_sem, reduceIte, Nat.reduceAdd, Nat.reduceEqDiff, Nat.reduceLT, Nat.reduceLeDiff, *, and_self, ]; first | (refine hK.out _ _ ?_; clear hK K) | (refine iteI (fun h => hK.out _ _ ?_) (fun h => hK.out _ _ ?_) <;> clear hK K)))
      (refine wpC_cond fun A B hA hB => ?_; simp only [go_sem, reduceIte, Nat.reduceAdd, Nat.reduceEqDiff, Nat.reduceLT, Nat.reduceLeDiff, *, and_self, lt2]; first | (refine hA.out ?_; clear hA hB A B) | (refine hB.out ?_; clear hA hB A B))
      repeat' (first | refine go1 ?_ | refine blockK_else rfl ?_ | (refine wpO_cons fun K hK => ?_; simp only [go_sem, reduceIte, Nat.reduceAdd, Nat.reduceEqDiff, Nat.reduceLT, Nat.reduceLeDiff, *, and_self, hws, hvs, snap_str, getElem?_len, getElem?_lenAdd, set_len, set_lenAdd, len_mid, ints_len, List.length_map, lt_mid, List.nil_append, List.cons_append, Bool.not_true, Bool.not_false, adopt_int, adopt_bool, adopt_two, adopt_osl, adopt_tsl, adopt_nils, i0, j1, encP, encG, q2, q4, f4, n4, s1, s2, z]; first | (refine hK.out _ _ ?_; clear hK K) | (refine iteI (fun h => hK.out _ _ ?_) (fun h => hK.out _ _ ?_) <;> clear hK K)))
      (refine wpC_cond fun A B hA hB => ?_; simp only [go_sem, reduceIte, Nat.reduceAdd, Nat.reduceEqDiff, Nat.reduceLT, Nat.reduceLeDiff, *, and_self, ]; first | (refine hA.out ?_; clear hA hB A B) | (refine hB.out ?_; clear hA hB A B))
      repeat' (first | refine go1 ?_ | refine blockK_else rfl ?_ | (refine wpO_cons fun K hK => ?_; simp only [go_sem, reduceIte, Nat.reduceAdd, Nat.reduceEqDiff, Nat.reduceLT, Nat.reduceLeDiff, *, and_self, ]; first | (refine hK.out _ _ ?_; clear hK K) | (refine iteI (fun h => hK.out _ _ ?_) (fun h => hK.out _ _ ?_) <;> clear hK K)))
      (refine wpC_cond fun A B hA hB => ?_; simp only [go_sem, reduceIte, Nat.reduceAdd, Nat.reduceEqDiff, Nat.reduceLT, Nat.reduceLeDiff, *, and_self, ]; first | (refine hA.out ?_; clear hA hB A B) | (refine hB.out ?_; clear hA hB A B))
      repeat' (first | refine go1 ?_ | refine blockK_else rfl ?_ | (refine wpO_cons fun K hK => ?_; simp only [go_sem, reduceIte, Nat.reduceAdd, Nat.reduceEqDiff, Nat.reduceLT, Nat.reduceLeDiff, *, and_self, w2, w3]; first | (refine hK.out _ _ ?_; clear hK K) | (refine iteI (fun h => hK.out _ _ ?_) (fun h => hK.out _ _ ?_) <;> clear hK K)))
      refine each_next hh2.out ?_ ?_ ?_
      · trivial
      · ((try simp only [eraseA_cons, eraseA_nil, setL_cons, setL_nil, List.set_cons_zero, List.set_cons_succ]); all_goals (first | rfl | (simp only [len_snoc, ints_len, List.length_map, hhs.out]; done) | (simp only [len_snoc, len_mid, ints_len, List.length_map, List.length_append, List.length_cons, List.length_nil, Nat.zero_add, hhs.out]; done) | (simp only [len_mid, len_snoc, ints_len, List.length_map, List.length_append, List.length_cons, List.length_nil, Nat.zero_add, hhs.out]; rfl)))
      · first | exact ⟨[], (List.append_nil _).symm⟩ | exact ⟨_, rfl⟩ | (simp only [List.append_assoc, List.cons_append, List.nil_append]; exact ⟨_, rfl⟩)
    · have k1 : (members gs y.id).contains x.id = false := by simpa using k1
      rw [k1] at s1 s2 q2 hs
      simp only [Bool.false_eq_true, if_false, List.append_nil] at hs
      have hhs : Hold (ofP gs (pr ++ [y]) x.id = ofP gs pr x.id) := ⟨hs⟩
      have z : (false != false) = false := rfl
      clear hs k1
      simp only [garbA_cons, garbA_nil, setL_cons, setL_nil, List.set_cons_zero, List.set_cons_succ]
      repeat' (first | refine go1 ?_ | refine blockK_else rfl ?_ | (refine wpO_cons fun K hK => ?_; simp only [go_sem, reduceIte, Nat.reduceAdd, Nat.reduceEqDiff, Nat.reduceLT, Nat.reduceLeDiff, *, and_self, ]; first | (refine hK.out _ _ ?_; clear hK K) | (refine iteI (fun h => hK.out _ _ ?_) (fun h => hK.out _ _ ?_) <;> clear hK K)))
      (refine wpC_cond fun A B hA hB => ?_; simp only [go_sem, reduceIte, Nat.reduceAdd, Nat.reduceEqDiff, Nat.reduceLT, Nat.reduceLeDiff, *, and_self, lt2]; first | (refine hA.out ?_; clear hA hB A B) | (refine hB.out ?_; clear hA hB A B))
      repeat' (first | refine go1 ?_ | refine blockK_else rfl ?_ | (refine wpO_cons fun K hK => ?_; simp only [go_sem, reduceIte, Nat.reduceAdd, Nat.reduceEqDiff, Nat.reduceLT, Nat.reduceLeDiff, *, and_self, hws, hvs, snap_str, getElem?_len, getElem?_lenAdd, set_len, set_lenAdd, len_mid, ints_len, List.length_map, lt_mid, List.nil_append, List.cons_append, Bool.not_true, Bool.not_false, adopt_int, adopt_bool, adopt_two, adopt_osl, adopt_tsl, adopt_nils, i0, j1, encP, encG, q2, q4, f4, n4, s1, s2, z]; first | (refine hK.out _ _ ?_; clear hK K) | (refine iteI (fun h => hK.out _ _ ?_) (fun h => hK.out _ _ ?_) <;> clear hK K)))
      (refine wpC_cond fun A B hA hB => ?_; simp only [go_sem, reduceIte, Nat.reduceAdd, Nat.reduceEqDiff, Nat.reduceLT, Nat.reduceLeDiff, *, and_self, ]; first | (refine hA.out ?_; clear hA hB A B) | (refine hB.out ?_; clear hA hB A B))
      repeat' (first | refine go1 ?_ | refine blockK_else rfl ?_ | (refine wpO_cons fun K hK => ?_; simp only [go_sem, reduceIte, Nat.reduceAdd, Nat.reduceEqDiff, Nat.reduceLT, Nat.reduceLeDiff, *, and_self, ]; first | (refine hK.out _ _ ?_; clear hK K) | (refine iteI (fun h => hK.out _ _ ?_) (fun h => hK.out _ _ ?_) <;> clear hK K)))
      (refine wpC_cond fun A B hA hB => ?_; simp only [go_sem, reduceIte, Nat.reduceAdd, Nat.reduceEqDiff, Nat.reduceLT, Nat.reduceLeDiff, *, and_self, ]; first | (refine hA.out ?_; clear hA hB A B) | (refine hB.out ?_; clear hA hB A B))
      repeat' (first | refine go1 ?_ | refine blockK_else rfl ?_ | (refine wpO_cons fun K hK => ?_; simp only [go_sem, reduceIte, Nat.reduceAdd, Nat.reduceEqDiff, Nat.reduceLT, Nat.reduceLeDiff, *, and_self, w2, w3]; first | (refine hK.out _ _ ?_; clear hK K) | (refine iteI (fun h => hK.out _ _ ?_) (fun h => hK.out _ _ ?_) <;> clear hK K)))
      refine each_next hh2.out ?_ ?_ ?_
      · trivial
      · ((try simp only [eraseA_cons, eraseA_nil, setL_cons, setL_nil, List.set_cons_zero, List.set_cons_succ]); all_goals (first | rfl | (simp only [len_snoc, ints_len, List.length_map, hhs.out]; done) | (simp only [len_snoc, len_mid, ints_len, List.length_map, List.length_append, List.length_cons, List.length_nil, Nat.zero_add, hhs.out]; done) | (simp only [len_mid, len_snoc, ints_len, List.length_map, List.length_append, List.length_cons, List.length_nil, Nat.zero_add, hhs.out]; rfl)))
      · first | exact ⟨[], (List.append_nil _).symm⟩ | exact ⟨_, rfl⟩ | (simp only [List.append_assoc, List.cons_append, List.nil_append]; exact ⟨_, rfl⟩)
end Go.Eng

/- Groups: a further person of a group (plain). -/
namespace Go.Eng

/-- The group k gets a further person. -/
def grow1 (k p : Int) (g : Grp) : Grp := if g.id = k then { g with people := put g.people p, pv := .tsl true 1 (ints (put g.people p)) } else g
def grow (k p : Int) (gs : List Grp) : List Grp := gs.map (grow1 k p)
theorem grow1_id (k p : Int) (g : Grp) : (grow1 k p g).id = g.id := by unfold grow1; split <;> rfl
theorem grow1_subs (k p : Int) (g : Grp) : (grow1 k p g).subs = g.subs := by unfold grow1; split <;> rfl
theorem grow1_name (k p : Int) (g : Grp) : (grow1 k p g).name = g.name := by unfold grow1; split <;> rfl
theorem grow1_sv (k p : Int) (g : Grp) : (grow1 k p g).sv = g.sv := by unfold grow1; split <;> rfl
theorem grow1_people (k p : Int) (g : Grp) : (grow1 k p g).people = if g.id = k then put g.people p else g.people := by unfold grow1; split <;> rfl
theorem gFind_grow (k p n : Int) (gs : List Grp) : gFind (grow k p gs) n = (gFind gs n).map (grow1 k p) := by
  unfold gFind grow
  rw [List.find?_map]
  congr 2
  funext g
  simp [grow1_id]
theorem isG_grow (k p n : Int) (gs : List Grp) : isG (grow k p gs) n = isG gs n := by
  unfold isG; rw [gFind_grow]; simp
theorem subs_grow (k p n : Int) (gs : List Grp) : (fnd (grow k p gs) n).subs = (fnd gs n).subs := by
  unfold fnd; rw [gFind_grow]
  cases gFind gs n with
  | none => rfl
  | some g => simp [grow1_subs]
theorem people_grow (k p n : Int) (gs : List Grp) : (fnd (grow k p gs) n).people = if isG gs n = true ∧ n = k then put (fnd gs n).people p else (fnd gs n).people := by
  unfold fnd isG
  rw [gFind_grow]
  cases h : gFind gs n with
  | none => simp
  | some g =>
    have : g.id = n := by have := List.find?_some h; simpa using this
    simp [grow1_people, this]
theorem rch_grow (k p n x : Int) (gs : List Grp) : Rch (grow k p gs) n x ↔ Rch gs n x := by
  constructor
  · intro h
    induction h with
    | one h1 hg => rw [subs_grow] at h1; rw [isG_grow] at hg; exact .one h1 hg
    | step _ h1 hg ih => rw [subs_grow] at h1; rw [isG_grow] at hg; exact .step ih h1 hg
  · intro h
    induction h with
    | one h1 hg => rw [← subs_grow k p] at h1; rw [← isG_grow k p] at hg; exact .one h1 hg
    | step _ h1 hg ih => rw [← subs_grow k p] at h1; rw [← isG_grow k p] at hg; exact .step ih h1 hg
theorem below_grow (k p n : Int) (gs : List Grp) : below (grow k p gs) n = below gs n :=
  up_unique (below_up _ _) (below_up _ _) fun x => by rw [mem_below, mem_below, rch_grow]
theorem members_grow {k p n : Int} {gs : List Grp} (hk : isG gs k = true) : members (grow k p gs) n = if n = k ∨ k ∈ below gs n then put (members gs n) p else members gs n := by
  have mp : ∀ x y, y ∈ (fnd (grow k p gs) x).people ↔ y ∈ (fnd gs x).people ∨ (y = p ∧ x = k) := by
    intro x y
    rw [people_grow]
    by_cases hx : x = k
    · subst hx
      rw [if_pos ⟨hk, rfl⟩, mem_put]
      constructor
      · rintro (h | h)
        · exact .inr ⟨h, rfl⟩
        · exact .inl h
      · rintro (h | h)
        · exact .inr h
        · exact .inl h.1
    · rw [if_neg (fun h => hx h.2)]
      exact ⟨.inl, fun h => h.resolve_right fun h => hx h.2⟩
  have mm : ∀ y, y ∈ members (grow k p gs) n ↔ y ∈ members gs n ∨ (y = p ∧ (n = k ∨ k ∈ below gs n)) := by
    intro y
    rw [mem_members, mem_members, mp]
    simp only [mp, rch_grow]
    constructor
    · rintro ((h | h) | ⟨x, h1, h2 | h2⟩)
      · exact .inl (.inl h)
      · exact .inr ⟨h.1, .inl h.2⟩
      · exact .inl (.inr ⟨x, h1, h2⟩)
      · exact .inr ⟨h2.1, .inr (mem_below.mpr (h2.2 ▸ h1))⟩
    · rintro ((h | ⟨x, h1, h2⟩) | ⟨h, h1 | h1⟩)
      · exact .inl (.inl h)
      · exact .inr ⟨x, h1, .inl h2⟩
      · exact .inl (.inr ⟨h, h1⟩)
      · exact .inr ⟨k, mem_below.mp h1, .inr ⟨h, rfl⟩⟩
  split
  · rename_i h
    refine up_unique (members_up _ _) (put_up (members_up _ _)) fun y => ?_
    rw [mm, mem_put]
    constructor
    · rintro (h1 | h1)
      · exact .inr h1
      · exact .inl h1.1
    · rintro (h1 | h1)
      · exact .inr ⟨h1, h⟩
      · exact .inl h1
  · rename_i h
    refine up_unique (members_up _ _) (members_up _ _) fun y => ?_
    rw [mm]
    exact ⟨fun h1 => h1.resolve_right fun h2 => h h2.2, .inl⟩

theorem lastG_grow (k p : Int) (pre : List Grp) (h : pre ≠ []) : (lastG (pre.map (grow1 k p))).id = (lastG pre).id := by
  rcases snoc_cases pre with e | ⟨q, y, e⟩
  · exact absurd e h
  · subst e; simp [lastG, grow1_id]
theorem errG_grow {ps : List Psn} {k p : Int} (hp : isP ps p = true) {pre : List Grp} {x : Grp} (h : errG ps pre x = 0) : errG ps (pre.map (grow1 k p)) (grow1 k p x) = 0 := by
  obtain ⟨h1, h2, h3, h4, h5, h6⟩ := errG_zero h
  have e1 : ordG (pre.map (grow1 k p)) (grow1 k p x) = true := by
    by_cases hp : pre = []
    · subst hp; rfl
    · unfold ordG at h1 ⊢
      rw [grow1_id, lastG_grow k p pre hp]
      simp only [List.map_eq_nil_iff]
      exact h1
  have e2 : upB (grow1 k p x).people = true := by
    rw [grow1_people]
    split
    · exact upB_of_up (put_up (up_of_upB h2))
    · exact h2
  have e3 : (grow1 k p x).people.all (isP ps) = true := by
    rw [grow1_people]
    split
    · rw [List.all_eq_true] at h4 ⊢
      intro y hy
      rcases (mem_put _ _ _).mp hy with e | e
      · subst e; exact hp
      · exact h4 y e
    · exact h4
  unfold errG
  rw [grow1_id, grow1_name, grow1_subs, if_pos h5, if_pos e1, if_pos h6, if_pos e2, if_pos e3, if_pos h3]
theorem errF_grow {ps : List Psn} {k p : Int} (hp : isP ps p = true) : ∀ {post pre : List Grp}, errF ps pre post = 0 → errF ps (pre.map (grow1 k p)) (post.map (grow1 k p)) = 0
  | [], _, _ => rfl
  | x :: post, pre, h => by
    unfold errF at h
    split at h
    · rename_i h0
      rw [List.map_cons, errF, if_pos (errG_grow hp h0)]
      have := errF_grow (k := k) hp (post := post) h
      simpa using this
    · rename_i h0; exact absurd h h0
theorem chk_grow {ps : List Psn} {k p : Int} {gs : List Grp} (h : RightG ps gs) (hp : isP ps p = true) : chkG ps (grow k p gs) = 0 := by
  have hl : gs.length ≤ 20 := by
    have := h.chk
    unfold chkG at this
    split at this
    · assumption
    · cases this
  have e1 : errF ps [] (grow k p gs) = 0 := errF_grow hp (pre := []) h.err
  have e2 : (grow k p gs).all (fun g => g.subs.all (isG (grow k p gs))) = true := by
    rw [List.all_eq_true]
    intro g hg
    obtain ⟨x, hx, rfl⟩ := List.mem_map.mp hg
    rw [List.all_eq_true]
    intro s hs
    rw [grow1_subs] at hs
    rw [isG_grow]; exact h.clo x hx s hs
  have e3 : ¬ (grow k p gs).any (fun g => (below (grow k p gs) g.id).contains g.id) = true := by
    rw [List.any_eq_true]
    rintro ⟨g, hg, hc⟩
    obtain ⟨x, hx, rfl⟩ := List.mem_map.mp hg
    rw [below_grow, grow1_id] at hc
    exact h.acyc x hx (by simpa using hc)
  unfold chkG
  rw [if_pos (by unfold grow; simpa using hl), if_pos e1, if_pos e2, if_neg e3]
theorem grow_ok {v : AV} {gs : List Grp} {ps : List Psn} (h : GsV v gs) (hf : FewP ps gs) (k p : Int) : GsOK (.tsl false 4 ((grow k p gs).map encG)) (grow k p gs) := by
  refine ⟨.rows false, ?_, ?_, ?_, ?_, ?_⟩
  · intro g hg
    obtain ⟨x, hx, rfl⟩ := List.mem_map.mp hg
    unfold grow1
    split
    · exact ⟨.rows true, (h.ok x hx).sv⟩
    · exact h.ok x hx
  · intro g hg
    obtain ⟨x, hx, rfl⟩ := List.mem_map.mp hg
    unfold grow1
    split
    · exact ⟨rfl, (h.st x hx).2⟩
    · exact h.st x hx
  · have := hf.gl; unfold grow; simp; omega
  · intro g hg
    obtain ⟨x, hx, rfl⟩ := List.mem_map.mp hg
    rw [grow1_subs]; have := (hf.gn x hx).2.2; omega
  · intro g hg
    obtain ⟨x, hx, rfl⟩ := List.mem_map.mp hg
    rw [grow1_people]
    have := (hf.gn x hx).2.1
    split
    · have := put_len x.people p; omega
    · omega
end Go.Eng

/- Groups: the law Grows as a run. -/
namespace Go.Eng
open Go.Proofs
set_option linter.unusedSimpArgs false
set_option linter.unusedVariables false
attribute [local irreducible] wpC wpO wp1 EvV EvR wpL
attribute [local go_sem] ty3 ty4 ty29 List.all_cons List.all_nil List.replicate List.set_cons_zero Nat.one_mul Nat.reduceMul Nat.zero_mul appK bslA fz88 fz89 lenK_esl lenK_nils lenK_sl lenK_tsl nilsK rowsFill rowsOf_esl rowsOf_nils rowsOf_sl rowsOf_tsl ty5 ty9 ty22 ty23 ty26 ty37 ty42 ty45 br11 br12 br14 br15 br16 br18 br24 br29 allocK fz37 fz38 fz40 fz41 fz42 fz43 fz44 fz46 fz47 fz48 beq_iff_eq beq_eq_false_iff_ne Int.natCast_inj Bool.not_eq_false' op1_go wpK_box wpK_alloc wpK_load wpK_store wpK_binOp wpK_unOp wpK_fieldAddr wpK_field wpK_build wpK_indexAddr wpK_slice wpK_len wpK_extract wpK_nilCheck wpK_pick wpK_makeFunc wpK_call wpK_callT wpK_max wpK_min wpK_assignT wpK_moveT wpK_assignB wpK_moveB wpK_assignI wpK_moveI wpK_assignA wpK_moveA callK_fn snapL_nil snapL_cons snap_int snap_bool snap_str snap_tsl snap_agg snap_fn snap_flat adopt_int adopt_bool adopt_str adopt_agg adopt_osl adopt_tsl adopt_tup op1_guard grdK_bool grdK_undef condK_bool someK_some pairK_some nilK_ptr nilK_tptr boxK storeK evalA_tmp evalA_int evalA_bool evalA_agg evalA_fn evalA_nil ofC_int ofC_bool getA_zero getA_succ cells_int cells_agg cells_bool cells_sl cells_tsl cell_int cell_bool cell_str cell_sl cell_esl cell_tsl cell_ptr cell_tptr cell_fn cell_nils cell_nilf List.all_cons List.all_nil Bool.and_true Bool.and_self Bool.true_and putA_some putA_none List.set_cons_zero List.set_cons_succ List.length_cons List.length_nil List.nil_append List.cons_append stabL AV.stab fieldAddrA fieldA List.getElem?_cons_zero List.getElem?_cons_succ Nat.zero_add loadA rowOf Nat.le_refl and_self true_and and_true partA binA unA intBin eqBin eqCells eqCell Option.bind_some decide_true decide_false decide_eq_true_eq ite_not Bool.not_eq_true' decide_eq_false_iff_not Bool.false_eq_true Option.map_some Option.map_none Bool.not_true Bool.not_false buildA fillA patch List.take List.drop List.map_cons List.map_nil extK List.getD_cons_zero List.getD_cons_succ minmaxA minmaxGo adoptZ_false adoptZ_true freeze_int freeze_bool freeze_str freeze_flat freeze_agg freeze_osl freeze_tsl freeze_tup frz1_bool frz1_int frz1_str frz1_agg frz1_osl frz1_tsl bne Bool.false_and Bool.and_false ne_eq not_true_eq_false not_false_eq_true List.append_nil
set_option maxHeartbeats 4000000

theorem put1n (n : Int) : EvV CX 29 [.flat (.slice none 0 0), .int .i64 n] (· = .osl 1 (ints (put [] n))) := by
  have e : sliceA CX 29 (.flat (.slice none 0 0)) (some (.int .i64 0)) none none = some (.tsl true 1 []) := by simp [sliceA, ty29, ty3, boundA]
  refine EvV.walk rfl fn29 rfl nt29 rfl ?_
  simp only [List.length_cons, List.length_nil, List.cons_append, List.nil_append, Nat.reduceAdd, Nat.reduceSub, List.replicate]
  repeat' (first | refine go1 ?_ | refine blockK_else rfl ?_ | (refine wpC_cond fun A B hA hB => ?_; simp only [go_sem, reduceIte, Nat.reduceAdd, Nat.reduceEqDiff, Nat.reduceLT, Nat.reduceLeDiff, *, wpK_append ty29 rfl, wpK_assignN ty29 rfl, wpK_buildSlice ty29 rfl, ]; first | (refine hA.out ?_; clear hA hB A B) | (refine hB.out ?_; clear hA hB A B) | (refine iteI (fun h => hA.out ?_) (fun h => hB.out ?_) <;> clear hA hB A B) | (refine iteI (fun h => hB.out ?_) (fun h => hA.out ?_) <;> clear hA hB A B)) | (refine wpO_cons fun K hK => ?_; simp only [go_sem, reduceIte, Nat.reduceAdd, Nat.reduceEqDiff, Nat.reduceLT, Nat.reduceLeDiff, *, wpK_append ty29 rfl, wpK_assignN ty29 rfl, wpK_buildSlice ty29 rfl, ]; first | (refine hK.out _ _ ?_; clear hK K) | (refine iteI (fun h => hK.out _ _ ?_) (fun h => hK.out _ _ ?_) <;> clear hK K)))
  refine wpC_loopF [7, 8, 9, 10, 11, 12, 13, 14, 15, 16, 17, 18, 19, 20, 21, 22, 23, 24, 25, 26, 27] (fun a : Unit => [(5, .sl 1 0 0 0 1), (6, .int .i64 0)]) (fun a G => .arr [] 1 0 true :: .arr [] 1 0 true :: G)
    (fun _ => True) (fun _ => 0) () trivial ?_ ⟨_, rfl⟩ ?_
  · rfl
  rintro _ g G _
  simp only [garbA_cons, garbA_nil, setL_cons, setL_nil, List.set_cons_zero, List.set_cons_succ]
  have z : ¬ (0 : Int) < ((0 : Nat) : Int) := by omega
  repeat' (first | refine go1 ?_ | refine blockK_else rfl ?_ | (refine wpC_cond fun A B hA hB => ?_; simp only [go_sem, reduceIte, Nat.reduceAdd, Nat.reduceEqDiff, Nat.reduceLT, Nat.reduceLeDiff, *, wpK_append ty29 rfl, wpK_assignN ty29 rfl, wpK_buildSlice ty29 rfl, getElem?_len, getElem?_lenAdd, set_len, set_lenAdd, len_mid, ints_len, List.length_map, lt_mid, List.nil_append, z, e, List.length_nil]; first | (refine hA.out ?_; clear hA hB A B) | (refine hB.out ?_; clear hA hB A B) | (refine iteI (fun h => hA.out ?_) (fun h => hB.out ?_) <;> clear hA hB A B) | (refine iteI (fun h => hB.out ?_) (fun h => hA.out ?_) <;> clear hA hB A B)) | (refine wpO_cons fun K hK => ?_; simp only [go_sem, reduceIte, Nat.reduceAdd, Nat.reduceEqDiff, Nat.reduceLT, Nat.reduceLeDiff, *, wpK_append ty29 rfl, wpK_assignN ty29 rfl, wpK_buildSlice ty29 rfl, getElem?_len, getElem?_lenAdd, set_len, set_lenAdd, len_mid, ints_len, List.length_map, lt_mid, List.nil_append, z, e, List.length_nil]; first | (refine hK.out _ _ ?_; clear hK K) | (refine iteI (fun h => hK.out _ _ ?_) (fun h => hK.out _ _ ?_) <;> clear hK K)))
  simp only [resultsR, resultsL, resultA, expK_int, expK_bool, expK_str, expK_agg, expK_own, expK_tsl, resK_some, go_sem, reduceIte, Nat.reduceAdd, Nat.reduceEqDiff, Nat.reduceLT, Nat.reduceLeDiff, wpK_append ty29 rfl, wpK_assignN ty29 rfl, wpK_buildSlice ty29 rfl, List.getElem?_cons_succ, snap_sl, rowsOf_sl, ints_len, ints_take, List.take_length, Nat.zero_le, Nat.zero_add, Bool.true_or]
  simp [put, ints]
theorem put1s {v : AV} {l : List Int} (hv : SLs 1 (ints l) v) (hne : v ≠ .esl) (n : Int) (hl : l.length ≤ 1099511627776) : EvV CX 29 [v, .int .i64 n] (· = .osl 1 (ints (put l n))) := by
  cases hv with
  | rows st => exact put1 st l n hl
  | esl h => exact absurd rfl hne
  | nil h =>
    have : l = [] := by cases l with
      | nil => rfl
      | cons x l => simp [ints] at h
    subst this; exact put1n n

theorem mod_idx {β : Type} {l : List β} (hl : l ≠ []) (hs : l.length ≤ 1000) {a : Int} (h0 : 0 ≤ a) (h1 : a ≤ 255) : ∃ A z B, l = A ++ z :: B ∧ a.tmod (l.length : Int) = (A.length : Int) ∧ IntKind.wrap .i64 a = a := by
  have hlt : a.toNat % l.length < l.length := Nat.mod_lt _ (List.length_pos_iff.mpr hl)
  refine ⟨l.take (a.toNat % l.length), l[a.toNat % l.length], l.drop (a.toNat % l.length + 1), ?_, ?_, wrap_small (by omega) (by omega)⟩
  · rw [← List.drop_eq_getElem_cons hlt, List.take_append_drop]
  · rw [List.length_take, Nat.min_eq_left (by omega)]
    rw [Int.tmod_eq_emod_of_nonneg h0]
    obtain ⟨n, rfl⟩ := Int.eq_ofNat_of_zero_le h0
    rw [Int.toNat_natCast, Int.natCast_emod]
theorem split_eq {β : Type} {A B A' B' : List β} {z z' : β} (h : A ++ z :: B = A' ++ z' :: B') (hl : A.length = A'.length) : z = z' := by
  have := (List.append_inj h hl).2
  injection this
theorem ids_inj {gs : List Grp} (hu : UpL (gs.map (·.id))) {A B A' B' : List Grp} {z z' : Grp} (h : gs = A ++ z :: B) (h' : gs = A' ++ z' :: B') (hi : z.id = z'.id) : A.length = A'.length := by
  have e1 : (gs.map (·.id))[A.length]? = some z.id := by rw [h]; simp
  have e2 : (gs.map (·.id))[A'.length]? = some z.id := by rw [h', hi]; simp
  exact (List.getElem?_inj (List.getElem?_eq_some_iff.mp e1).1 (up_nodup hu)).mp (by rw [e1, e2])
theorem grow_snoc (k p : Int) (a : List Grp) (x : Grp) : (grow k p (a ++ [x])).map encG = (grow k p a).map encG ++ [encG (grow1 k p x)] := by simp [grow]
theorem grow_len (k p : Int) (a : List Grp) : (grow k p a).length = a.length := by simp [grow]
theorem isP_mem {ps A B : List Psn} {y : Psn} (h : ps = A ++ y :: B) : isP ps y.id = true := by
  unfold isP pFind
  rw [List.find?_isSome]
  exact ⟨y, by rw [h]; simp, by simp⟩

theorem lawGrows {v w : AV} {gs : List Grp} {ps : List Psn} (h : GsV v gs) (hw : SLs 3 (ps.map encP) w) (hpv : ∀ g ∈ gs, g.pv ≠ .esl) {a b : Int} (ha0 : 0 ≤ a) (ha1 : a ≤ 255) (hb0 : 0 ≤ b) (hb1 : b ≤ 255) : EvV CX 9 [w, v, .agg [.int .u8 a, .int .u8 b]] (· = .bool true) := by
  have hvs := fun S => h.sl.snap (S := S)
  have hws := hw.snap
  have qa := awake.rw
  obtain ⟨r, ⟨b0, rfl, hb⟩, hq⟩ := (rightE h hw).ex
  have q := hq.rw
  clear hq
  cases b0 with
  | false =>
    refine EvV.walk rfl fn9 rfl nt9 rfl ?_
    simp only [List.length_cons, List.length_nil, List.cons_append, List.nil_append, Nat.reduceAdd, Nat.reduceSub, List.replicate]
    repeat' (first | refine go1 ?_ | refine blockK_else rfl ?_ | (refine wpC_cond fun A B hA hB => ?_; simp only [go_sem, reduceIte, Nat.reduceAdd, Nat.reduceEqDiff, Nat.reduceLT, Nat.reduceLeDiff, *, cvtK_int, wpK_append ty23 rfl, wpK_assignN ty23 rfl, wpK_buildSlice ty23 rfl, wpK_cvt ty5 ty3 rfl, hvs, hws, q, qa]; first | (refine hA.out ?_; clear hA hB A B) | (refine hB.out ?_; clear hA hB A B) | (refine iteI (fun h => hA.out ?_) (fun h => hB.out ?_) <;> clear hA hB A B) | (refine iteI (fun h => hB.out ?_) (fun h => hA.out ?_) <;> clear hA hB A B)) | (refine wpO_cons fun K hK => ?_; simp only [go_sem, reduceIte, Nat.reduceAdd, Nat.reduceEqDiff, Nat.reduceLT, Nat.reduceLeDiff, *, cvtK_int, wpK_append ty23 rfl, wpK_assignN ty23 rfl, wpK_buildSlice ty23 rfl, wpK_cvt ty5 ty3 rfl, hvs, hws, q, qa]; first | (refine hK.out _ _ ?_; clear hK K) | (refine iteI (fun h => hK.out _ _ ?_) (fun h => hK.out _ _ ?_) <;> clear hK K)))
    simp only [resultsR, resultsL, resultA, expK_int, expK_bool, expK_str, expK_agg, expK_own, expK_tsl, resK_some, go_sem, reduceIte, Nat.reduceAdd, Nat.reduceEqDiff, Nat.reduceLT, Nat.reduceLeDiff, cvtK_int, wpK_append ty23 rfl, wpK_assignN ty23 rfl, wpK_buildSlice ty23 rfl, wpK_cvt ty5 ty3 rfl, ]
  | true =>
  have hr := hb rfl
  clear hb
  by_cases z1 : ps = []
  · subst z1
    refine EvV.walk rfl fn9 rfl nt9 rfl ?_
    simp only [List.length_cons, List.length_nil, List.cons_append, List.nil_append, Nat.reduceAdd, Nat.reduceSub, List.replicate]
    repeat' (first | refine go1 ?_ | refine blockK_else rfl ?_ | (refine wpC_cond fun A B hA hB => ?_; simp only [go_sem, reduceIte, Nat.reduceAdd, Nat.reduceEqDiff, Nat.reduceLT, Nat.reduceLeDiff, *, cvtK_int, wpK_append ty23 rfl, wpK_assignN ty23 rfl, wpK_buildSlice ty23 rfl, wpK_cvt ty5 ty3 rfl, hvs, hws, q, qa, lenK_sls hw, List.length_map, List.length_nil, beq_self_eq_true, Int.natCast_zero]; first | (refine hA.out ?_; clear hA hB A B) | (refine hB.out ?_; clear hA hB A B) | (refine iteI (fun h => hA.out ?_) (fun h => hB.out ?_) <;> clear hA hB A B) | (refine iteI (fun h => hB.out ?_) (fun h => hA.out ?_) <;> clear hA hB A B)) | (refine wpO_cons fun K hK => ?_; simp only [go_sem, reduceIte, Nat.reduceAdd, Nat.reduceEqDiff, Nat.reduceLT, Nat.reduceLeDiff, *, cvtK_int, wpK_append ty23 rfl, wpK_assignN ty23 rfl, wpK_buildSlice ty23 rfl, wpK_cvt ty5 ty3 rfl, hvs, hws, q, qa, lenK_sls hw, List.length_map, List.length_nil, beq_self_eq_true, Int.natCast_zero]; first | (refine hK.out _ _ ?_; clear hK K) | (refine iteI (fun h => hK.out _ _ ?_) (fun h => hK.out _ _ ?_) <;> clear hK K)))
    simp only [resultsR, resultsL, resultA, expK_int, expK_bool, expK_str, expK_agg, expK_own, expK_tsl, resK_some, go_sem, reduceIte, Nat.reduceAdd, Nat.reduceEqDiff, Nat.reduceLT, Nat.reduceLeDiff, cvtK_int, wpK_append ty23 rfl, wpK_assignN ty23 rfl, wpK_buildSlice ty23 rfl, wpK_cvt ty5 ty3 rfl, ]
  by_cases z2 : gs = []
  · subst z2
    have z1' : ((ps.length : Int) == 0) = false := by simpa using z1
    refine EvV.walk rfl fn9 rfl nt9 rfl ?_
    simp only [List.length_cons, List.length_nil, List.cons_append, List.nil_append, Nat.reduceAdd, Nat.reduceSub, List.replicate]
    repeat' (first | refine go1 ?_ | refine blockK_else rfl ?_ | (refine wpC_cond fun A B hA hB => ?_; simp only [go_sem, reduceIte, Nat.reduceAdd, Nat.reduceEqDiff, Nat.reduceLT, Nat.reduceLeDiff, *, cvtK_int, wpK_append ty23 rfl, wpK_assignN ty23 rfl, wpK_buildSlice ty23 rfl, wpK_cvt ty5 ty3 rfl, hvs, hws, q, qa, lenK_sls hw, lenK_sls h.sl, List.length_map, List.length_nil, beq_self_eq_true, Int.natCast_zero]; first | (refine hA.out ?_; clear hA hB A B) | (refine hB.out ?_; clear hA hB A B) | (refine iteI (fun h => hA.out ?_) (fun h => hB.out ?_) <;> clear hA hB A B) | (refine iteI (fun h => hB.out ?_) (fun h => hA.out ?_) <;> clear hA hB A B)) | (refine wpO_cons fun K hK => ?_; simp only [go_sem, reduceIte, Nat.reduceAdd, Nat.reduceEqDiff, Nat.reduceLT, Nat.reduceLeDiff, *, cvtK_int, wpK_append ty23 rfl, wpK_assignN ty23 rfl, wpK_buildSlice ty23 rfl, wpK_cvt ty5 ty3 rfl, hvs, hws, q, qa, lenK_sls hw, lenK_sls h.sl, List.length_map, List.length_nil, beq_self_eq_true, Int.natCast_zero]; first | (refine hK.out _ _ ?_; clear hK K) | (refine iteI (fun h => hK.out _ _ ?_) (fun h => hK.out _ _ ?_) <;> clear hK K)))
    simp only [resultsR, resultsL, resultA, expK_int, expK_bool, expK_str, expK_agg, expK_own, expK_tsl, resK_some, go_sem, reduceIte, Nat.reduceAdd, Nat.reduceEqDiff, Nat.reduceLT, Nat.reduceLeDiff, cvtK_int, wpK_append ty23 rfl, wpK_assignN ty23 rfl, wpK_buildSlice ty23 rfl, wpK_cvt ty5 ty3 rfl, ]
  have hg := h.few hr.few
  have hgl := hg.len
  have hpl : ps.length ≤ 1000 := by have := hr.few.pl; omega
  obtain ⟨A, z, B, hA, m1, w1⟩ := mod_idx z2 hgl ha0 ha1
  obtain ⟨A', y, B', hA', m2, w2⟩ := mod_idx z1 hpl hb0 hb1
  have z1' : ((ps.length : Int) == 0) = false := by simpa using z1
  have z2' : ((gs.length : Int) == 0) = false := by simpa using z2
  have z3 : ¬ (ps.length : Int) = 0 := by simpa using z1
  have z4 : ¬ (gs.length : Int) = 0 := by simpa using z2
  have iy := idx_sls hw (X := CX) ty22 ty42 rfl (n := A'.length) (row := encP y) (k := .i64) (map_at encP hA')
  have iz := idx_sls h.sl (X := CX) ty23 ty37 rfl (n := A.length) (row := encG z) (k := .i64) (map_at encG hA)
  have hhA : Hold (gs = A ++ z :: B) := ⟨hA⟩
  have hhp : Hold (isP ps y.id = true) := ⟨isP_mem hA'⟩
  clear hA hA' z1 z2
  generalize hp : y.id = p at *
  generalize hk : z.id = k at *
  refine EvV.walk rfl fn9 rfl nt9 rfl ?_
  simp only [List.length_cons, List.length_nil, List.cons_append, List.nil_append, Nat.reduceAdd, Nat.reduceSub, List.replicate]
  repeat' (first | refine go1 ?_ | refine blockK_else rfl ?_ | (refine wpC_cond fun A B hA hB => ?_; simp only [go_sem, reduceIte, Nat.reduceAdd, Nat.reduceEqDiff, Nat.reduceLT, Nat.reduceLeDiff, *, cvtK_int, wpK_append ty23 rfl, wpK_assignN ty23 rfl, wpK_buildSlice ty23 rfl, wpK_cvt ty5 ty3 rfl, hvs, hws, q, qa, lenK_sls hw, lenK_sls h.sl, List.length_map, z1', z2', z3, z4, m1, m2, w1, w2, iy, encP, hp]; first | (refine hA.out ?_; clear hA hB A B) | (refine hB.out ?_; clear hA hB A B) | (refine iteI (fun h => hA.out ?_) (fun h => hB.out ?_) <;> clear hA hB A B) | (refine iteI (fun h => hB.out ?_) (fun h => hA.out ?_) <;> clear hA hB A B)) | (refine wpO_cons fun K hK => ?_; simp only [go_sem, reduceIte, Nat.reduceAdd, Nat.reduceEqDiff, Nat.reduceLT, Nat.reduceLeDiff, *, cvtK_int, wpK_append ty23 rfl, wpK_assignN ty23 rfl, wpK_buildSlice ty23 rfl, wpK_cvt ty5 ty3 rfl, hvs, hws, q, qa, lenK_sls hw, lenK_sls h.sl, List.length_map, z1', z2', z3, z4, m1, m2, w1, w2, iy, encP, hp]; first | (refine hK.out _ _ ?_; clear hK K) | (refine iteI (fun h => hK.out _ _ ?_) (fun h => hK.out _ _ ?_) <;> clear hK K)))
  clear q
  refine wpC_loopF [10, 11, 48, 49, 50, 51, 52, 53, 54, 55, 56, 57, 58, 59, 60, 61, 62, 63, 64, 65, 66] (fun d : List Grp × List Grp => [(9, .sl 1 d.1.length 0 d.1.length 4), (47, .int .i64 d.1.length)]) (fun d G => .arr [[.int .u8 a, .int .u8 b]] 2 0 true :: .arr ((grow k p d.1).map encG) 4 0 true :: G)
    (fun d => gs = d.1 ++ d.2) (fun d => d.2.length) ([], gs) rfl ?_ ⟨[], rfl⟩ ?_
  · ((try simp only [eraseA_cons, eraseA_nil, setL_cons, setL_nil, List.set_cons_zero, List.set_cons_succ]); all_goals (first | rfl | (simp only [len_snoc, ints_len, List.length_map, ]; done) | (simp only [len_snoc, len_mid, ints_len, List.length_map, List.length_append, List.length_cons, List.length_nil, Nat.zero_add, ]; done) | (simp only [len_mid, len_snoc, ints_len, List.length_map, List.length_append, List.length_cons, List.length_nil, Nat.zero_add, ]; rfl)))
  rintro ⟨pre, post⟩ g G h1
  simp only at h1
  cases post with
  | cons x post =>
    have lt1 : (pre.length : Int) < (gs.length : Int) := by rw [h1]; simp; omega
    have i0 := idx_sls h.sl (X := CX) ty23 ty37 rfl (n := pre.length) (row := encG x) (k := .i64) (map_at encG h1)
    have ws := wrap_succ (n := pre.length) (by omega)
    have hxm : x ∈ gs := by rw [h1]; simp
    have hx := h.ok x hxm
    obtain ⟨t1, t2⟩ := h.st x hxm
    have c1 := hx.pv.cell
    have c2 := hx.sv.cell
    have s1 := hx.pv.snap
    have s2 := hx.sv.snap
    have xl := hg.ppl x hxm
    have qp := (put1s hx.pv (hpv x hxm) p (by omega)).rw
    have b1 : (pre.length + 1) * 72 ≤ 140737488355328 := by omega
    have b2 : pre.length + 1 ≤ 140737488355328 := by omega
    have gl := grow_len k p pre
    have hh1 : Hold (gs = pre ++ x :: post) := ⟨h1⟩
    clear hxm
    by_cases he : (pre.length : Int) = (A.length : Int)
    · have hxz : x = z := split_eq (h1.symm.trans hhA.out) (by omega)
      have hxk : x.id = k := by rw [hxz]; exact hk
      have hgr : encG (grow1 k p x) = [.int .i64 x.id, .str x.name, .tsl true 1 (ints (put x.people p)), x.sv] := by unfold grow1; rw [if_pos hxk]; rfl
      have hh : Hold (encG (grow1 k p x) = [.int .i64 x.id, .str x.name, .tsl true 1 (ints (put x.people p)), x.sv]) := ⟨hgr⟩
      have he' : ((pre.length : Int) == (A.length : Int)) = true := by simpa using he
      clear h1 hgr hxz hxk he
      simp only [garbA_cons, garbA_nil, setL_cons, setL_nil, List.set_cons_zero, List.set_cons_succ]
      repeat' (first | refine go1 ?_ | refine blockK_else rfl ?_ | (refine wpO_cons fun K hK => ?_; simp only [go_sem, reduceIte, Nat.reduceAdd, Nat.reduceEqDiff, Nat.reduceLT, Nat.reduceLeDiff, *, cvtK_int, wpK_append ty23 rfl, wpK_assignN ty23 rfl, wpK_buildSlice ty23 rfl, wpK_cvt ty5 ty3 rfl, hws, hvs, snap_str, getElem?_len, getElem?_lenAdd, set_len, set_lenAdd, len_mid, ints_len, List.length_map, lt_mid, List.nil_append, List.cons_append, Bool.not_true, Bool.not_false, adopt_int, adopt_bool, adopt_two, adopt_osl, adopt_tsl, adopt_nils]; first | (refine hK.out _ _ ?_; clear hK K) | (refine iteI (fun h => hK.out _ _ ?_) (fun h => hK.out _ _ ?_) <;> clear hK K)))
      (refine wpC_cond fun A B hA hB => ?_; simp only [go_sem, reduceIte, Nat.reduceAdd, Nat.reduceEqDiff, Nat.reduceLT, Nat.reduceLeDiff, *, cvtK_int, wpK_append ty23 rfl, wpK_assignN ty23 rfl, wpK_buildSlice ty23 rfl, wpK_cvt ty5 ty3 rfl, lt1]; first | (refine hA.out ?_; clear hA hB A B) | (refine hB.out ?_; clear hA hB A B))
      repeat' (first | refine go1 ?_ | refine blockK_else rfl ?_ | (refine wpO_cons fun K hK => ?_; simp only [go_sem, reduceIte, Nat.reduceAdd, Nat.reduceEqDiff, Nat.reduceLT, Nat.reduceLeDiff, *, cvtK_int, wpK_append ty23 rfl, wpK_assignN ty23 rfl, wpK_buildSlice ty23 rfl, wpK_cvt ty5 ty3 rfl, hws, hvs, snap_str, getElem?_len, getElem?_lenAdd, set_len, set_lenAdd, len_mid, ints_len, List.length_map, lt_mid, List.nil_append, List.cons_append, Bool.not_true, Bool.not_false, adopt_int, adopt_bool, adopt_two, adopt_osl, adopt_tsl, adopt_nils, i0, encG, c1, c2]; first | (refine hK.out _ _ ?_; clear hK K) | (refine iteI (fun h => hK.out _ _ ?_) (fun h => hK.out _ _ ?_) <;> clear hK K)))
      (refine wpC_cond fun A B hA hB => ?_; simp only [go_sem, reduceIte, Nat.reduceAdd, Nat.reduceEqDiff, Nat.reduceLT, Nat.reduceLeDiff, *, cvtK_int, wpK_append ty23 rfl, wpK_assignN ty23 rfl, wpK_buildSlice ty23 rfl, wpK_cvt ty5 ty3 rfl, he']; first | (refine hA.out ?_; clear hA hB A B) | (refine hB.out ?_; clear hA hB A B))
      repeat' (first | refine go1 ?_ | refine blockK_else rfl ?_ | (refine wpO_cons fun K hK => ?_; simp only [go_sem, reduceIte, Nat.reduceAdd, Nat.reduceEqDiff, Nat.reduceLT, Nat.reduceLeDiff, *, cvtK_int, wpK_append ty23 rfl, wpK_assignN ty23 rfl, wpK_buildSlice ty23 rfl, wpK_cvt ty5 ty3 rfl, hws, hvs, snap_str, getElem?_len, getElem?_lenAdd, set_len, set_lenAdd, len_mid, ints_len, List.length_map, lt_mid, List.nil_append, List.cons_append, Bool.not_true, Bool.not_false, adopt_int, adopt_bool, adopt_two, adopt_osl, adopt_tsl, adopt_nils, encG, s1, s2, c1, c2, qp, t1, t2, snap_sl, rowsOf_sl, ints_len, ints_take, List.take_length, Nat.zero_le, Nat.zero_add, Bool.true_or, List.getElem?_cons_succ, List.append_assoc, b1, b2, gl, ws, List.length_append]; first | (refine hK.out _ _ ?_; clear hK K) | (refine iteI (fun h => hK.out _ _ ?_) (fun h => hK.out _ _ ?_) <;> clear hK K)))
      refine loopF_next (pre ++ [x], post) (Nat.lt_succ_self _) (by rw [hh1.out]; simp) ?_ ?_
      · ((try simp only [eraseA_cons, eraseA_nil, setL_cons, setL_nil, List.set_cons_zero, List.set_cons_succ]); all_goals (first | rfl | (simp only [len_snoc, ints_len, List.length_map, ]; done) | (simp only [len_snoc, len_mid, ints_len, List.length_map, List.length_append, List.length_cons, List.length_nil, Nat.zero_add, ]; done) | (simp only [len_mid, len_snoc, ints_len, List.length_map, List.length_append, List.length_cons, List.length_nil, Nat.zero_add, ]; rfl)))
      · rw [grow_snoc, hh.out]; exact ⟨_, rfl⟩
    · have hne : x.id ≠ k := fun e => he (by have := ids_inj hr.ids h1 hhA.out (e.trans hk.symm); omega)
      have hgr : encG (grow1 k p x) = encG x := by unfold grow1; rw [if_neg hne]
      have hh : Hold (encG (grow1 k p x) = encG x) := ⟨hgr⟩
      have he' : ((pre.length : Int) == (A.length : Int)) = false := by simpa using he
      clear h1 hgr hne he
      simp only [garbA_cons, garbA_nil, setL_cons, setL_nil, List.set_cons_zero, List.set_cons_succ]
      repeat' (first | refine go1 ?_ | refine blockK_else rfl ?_ | (refine wpO_cons fun K hK => ?_; simp only [go_sem, reduceIte, Nat.reduceAdd, Nat.reduceEqDiff, Nat.reduceLT, Nat.reduceLeDiff, *, cvtK_int, wpK_append ty23 rfl, wpK_assignN ty23 rfl, wpK_buildSlice ty23 rfl, wpK_cvt ty5 ty3 rfl, hws, hvs, snap_str, getElem?_len, getElem?_lenAdd, set_len, set_lenAdd, len_mid, ints_len, List.length_map, lt_mid, List.nil_append, List.cons_append, Bool.not_true, Bool.not_false, adopt_int, adopt_bool, adopt_two, adopt_osl, adopt_tsl, adopt_nils]; first | (refine hK.out _ _ ?_; clear hK K) | (refine iteI (fun h => hK.out _ _ ?_) (fun h => hK.out _ _ ?_) <;> clear hK K)))
      (refine wpC_cond fun A B hA hB => ?_; simp only [go_sem, reduceIte, Nat.reduceAdd, Nat.reduceEqDiff, Nat.reduceLT, Nat.reduceLeDiff, *, cvtK_int, wpK_append ty23 rfl, wpK_assignN ty23 rfl, wpK_buildSlice ty23 rfl, wpK_cvt ty5 ty3 rfl, lt1]; first | (refine hA.out ?_; clear hA hB A B) | (refine hB.out ?_; clear hA hB A B))
      repeat' (first | refine go1 ?_ | refine blockK_else rfl ?_ | (refine wpO_cons fun K hK => ?_; simp only [go_sem, reduceIte, Nat.reduceAdd, Nat.reduceEqDiff, Nat.reduceLT, Nat.reduceLeDiff, *, cvtK_int, wpK_append ty23 rfl, wpK_assignN ty23 rfl, wpK_buildSlice ty23 rfl, wpK_cvt ty5 ty3 rfl, hws, hvs, snap_str, getElem?_len, getElem?_lenAdd, set_len, set_lenAdd, len_mid, ints_len, List.length_map, lt_mid, List.nil_append, List.cons_append, Bool.not_true, Bool.not_false, adopt_int, adopt_bool, adopt_two, adopt_osl, adopt_tsl, adopt_nils, i0, encG, c1, c2]; first | (refine hK.out _ _ ?_; clear hK K) | (refine iteI (fun h => hK.out _ _ ?_) (fun h => hK.out _ _ ?_) <;> clear hK K)))
      (refine wpC_cond fun A B hA hB => ?_; simp only [go_sem, reduceIte, Nat.reduceAdd, Nat.reduceEqDiff, Nat.reduceLT, Nat.reduceLeDiff, *, cvtK_int, wpK_append ty23 rfl, wpK_assignN ty23 rfl, wpK_buildSlice ty23 rfl, wpK_cvt ty5 ty3 rfl, he']; first | (refine hA.out ?_; clear hA hB A B) | (refine hB.out ?_; clear hA hB A B))
      repeat' (first | refine go1 ?_ | refine blockK_else rfl ?_ | (refine wpO_cons fun K hK => ?_; simp only [go_sem, reduceIte, Nat.reduceAdd, Nat.reduceEqDiff, Nat.reduceLT, Nat.reduceLeDiff, *, cvtK_int, wpK_append ty23 rfl, wpK_assignN ty23 rfl, wpK_buildSlice ty23 rfl, wpK_cvt ty5 ty3 rfl, hws, hvs, snap_str, getElem?_len, getElem?_lenAdd, set_len, set_lenAdd, len_mid, ints_len, List.length_map, lt_mid, List.nil_append, List.cons_append, Bool.not_true, Bool.not_false, adopt_int, adopt_bool, adopt_two, adopt_osl, adopt_tsl, adopt_nils, encG, s1, s2, c1, c2, t1, t2, snap_sl, rowsOf_sl, ints_len, ints_take, List.take_length, Nat.zero_le, Nat.zero_add, Bool.true_or, List.getElem?_cons_succ, List.append_assoc, b1, b2, gl, ws, List.length_append]; first | (refine hK.out _ _ ?_; clear hK K) | (refine iteI (fun h => hK.out _ _ ?_) (fun h => hK.out _ _ ?_) <;> clear hK K)))
      refine loopF_next (pre ++ [x], post) (Nat.lt_succ_self _) (by rw [hh1.out]; simp) ?_ ?_
      · ((try simp only [eraseA_cons, eraseA_nil, setL_cons, setL_nil, List.set_cons_zero, List.set_cons_succ]); all_goals (first | rfl | (simp only [len_snoc, ints_len, List.length_map, ]; done) | (simp only [len_snoc, len_mid, ints_len, List.length_map, List.length_append, List.length_cons, List.length_nil, Nat.zero_add, ]; done) | (simp only [len_mid, len_snoc, ints_len, List.length_map, List.length_append, List.length_cons, List.length_nil, Nat.zero_add, ]; rfl)))
      · rw [grow_snoc, hh.out]; exact ⟨_, rfl⟩
  | nil =>
  rw [List.append_nil] at h1
  subst h1
  have hok := grow_ok h hr.few k p
  have gl := grow_len k p gs
  have hkG : isG gs k = true := isG_mem.mpr (List.mem_map.mpr ⟨z, by rw [hhA.out]; simp, hk⟩)
  have qc := (checkE hok hw hpl (fun g hg' => by
    obtain ⟨x, hx, rfl⟩ := List.mem_map.mp hg'
    rw [grow1_name]; have := (hr.few.gn x hx).1; omega)).rw
  rw [chk_grow hr hhp.out] at qc
  obtain ⟨L, hL⟩ : ∃ L, (grow k p gs).map encG = L := ⟨_, rfl⟩
  have ln : L.length = gs.length := by rw [← hL, List.length_map, gl]
  have tk : L.take gs.length = L := by rw [← ln]; exact List.take_length
  rw [hL] at qc hok ⊢
  simp only [garbA_cons, garbA_nil, setL_cons, setL_nil, List.set_cons_zero, List.set_cons_succ]
  clear gl hL
  repeat' (first | refine go1 ?_ | refine blockK_else rfl ?_ | (refine wpO_cons fun K hK => ?_; simp only [go_sem, reduceIte, Nat.reduceAdd, Nat.reduceEqDiff, Nat.reduceLT, Nat.reduceLeDiff, *, cvtK_int, wpK_append ty23 rfl, wpK_assignN ty23 rfl, wpK_buildSlice ty23 rfl, wpK_cvt ty5 ty3 rfl, ]; first | (refine hK.out _ _ ?_; clear hK K) | (refine iteI (fun h => hK.out _ _ ?_) (fun h => hK.out _ _ ?_) <;> clear hK K)))
  (refine wpC_cond fun A B hA hB => ?_; simp only [go_sem, reduceIte, Nat.reduceAdd, Nat.reduceEqDiff, Nat.reduceLT, Nat.reduceLeDiff, *, cvtK_int, wpK_append ty23 rfl, wpK_assignN ty23 rfl, wpK_buildSlice ty23 rfl, wpK_cvt ty5 ty3 rfl, Int.lt_irrefl]; first | (refine hA.out ?_; clear hA hB A B) | (refine hB.out ?_; clear hA hB A B))
  repeat' (first | refine go1 ?_ | refine blockK_else rfl ?_ | (refine wpO_cons fun K hK => ?_; simp only [go_sem, reduceIte, Nat.reduceAdd, Nat.reduceEqDiff, Nat.reduceLT, Nat.reduceLeDiff, *, cvtK_int, wpK_append ty23 rfl, wpK_assignN ty23 rfl, wpK_buildSlice ty23 rfl, wpK_cvt ty5 ty3 rfl, hws, hvs, snap_str, getElem?_len, getElem?_lenAdd, set_len, set_lenAdd, len_mid, ints_len, List.length_map, lt_mid, List.nil_append, List.cons_append, Bool.not_true, Bool.not_false, adopt_int, adopt_bool, adopt_two, adopt_osl, adopt_tsl, adopt_nils, snap_sl, rowsOf_sl, ln, tk, Nat.zero_le, Nat.zero_add, Nat.le_refl, Bool.true_or, qc, bne_self_eq_false]; first | (refine hK.out _ _ ?_; clear hK K) | (refine iteI (fun h => hK.out _ _ ?_) (fun h => hK.out _ _ ?_) <;> clear hK K)))
  (refine wpC_cond fun A B hA hB => ?_; simp only [go_sem, reduceIte, Nat.reduceAdd, Nat.reduceEqDiff, Nat.reduceLT, Nat.reduceLeDiff, *, cvtK_int, wpK_append ty23 rfl, wpK_assignN ty23 rfl, wpK_buildSlice ty23 rfl, wpK_cvt ty5 ty3 rfl, ]; first | (refine hA.out ?_; clear hA hB A B) | (refine hB.out ?_; clear hA hB A B))
  repeat' (first | refine go1 ?_ | refine blockK_else rfl ?_ | (refine wpO_cons fun K hK => ?_; simp only [go_sem, reduceIte, Nat.reduceAdd, Nat.reduceEqDiff, Nat.reduceLT, Nat.reduceLeDiff, *, cvtK_int, wpK_append ty23 rfl, wpK_assignN ty23 rfl, wpK_buildSlice ty23 rfl, wpK_cvt ty5 ty3 rfl, lenK_sls h.sl, List.length_map]; first | (refine hK.out _ _ ?_; clear hK K) | (refine iteI (fun h => hK.out _ _ ?_) (fun h => hK.out _ _ ?_) <;> clear hK K)))
  clear qc
  refine wpC_each [6, 12, 13, 74, 75, 76, 77, 78, 79, 80, 81, 82, 83, 84, 85, 86, 87, 88, 89, 90, 91, 92, 93, 94, 95, 96, 97, 98, 99, 100, 101, 102, 103, 104, 105, 106, 107, 108, 109, 110, 111, 112, 113, 114] 73 gs (fun _ _ => True) ?_ ?_ ?_ ?_
  · trivial
  · rfl
  · intro g' G' _
    simp only [garbA_cons, garbA_nil, setL_cons, setL_nil, List.set_cons_zero, List.set_cons_succ]
    repeat' (first | refine go1 ?_ | refine blockK_else rfl ?_ | (refine wpC_cond fun A B hA hB => ?_; simp only [go_sem, reduceIte, Nat.reduceAdd, Nat.reduceEqDiff, Nat.reduceLT, Nat.reduceLeDiff, *, cvtK_int, wpK_append ty23 rfl, wpK_assignN ty23 rfl, wpK_buildSlice ty23 rfl, wpK_cvt ty5 ty3 rfl, ints_len, List.length_map, Int.lt_irrefl, List.nil_append, qa]; first | (refine hA.out ?_; clear hA hB A B) | (refine hB.out ?_; clear hA hB A B) | (refine iteI (fun h => hA.out ?_) (fun h => hB.out ?_) <;> clear hA hB A B) | (refine iteI (fun h => hB.out ?_) (fun h => hA.out ?_) <;> clear hA hB A B)) | (refine wpO_cons fun K hK => ?_; simp only [go_sem, reduceIte, Nat.reduceAdd, Nat.reduceEqDiff, Nat.reduceLT, Nat.reduceLeDiff, *, cvtK_int, wpK_append ty23 rfl, wpK_assignN ty23 rfl, wpK_buildSlice ty23 rfl, wpK_cvt ty5 ty3 rfl, ints_len, List.length_map, Int.lt_irrefl, List.nil_append, qa]; first | (refine hK.out _ _ ?_; clear hK K) | (refine iteI (fun h => hK.out _ _ ?_) (fun h => hK.out _ _ ?_) <;> clear hK K)))
    simp only [resultsR, resultsL, resultA, expK_int, expK_bool, expK_str, expK_agg, expK_own, expK_tsl, resK_some, go_sem, reduceIte, Nat.reduceAdd, Nat.reduceEqDiff, Nat.reduceLT, Nat.reduceLeDiff, cvtK_int, wpK_append ty23 rfl, wpK_assignN ty23 rfl, wpK_buildSlice ty23 rfl, wpK_cvt ty5 ty3 rfl, ]
  intro g' G' pre x post h1 _
  have lt1 : (pre.length : Int) < (gs.length : Int) := by rw [h1]; simp; omega
  have i0 := idx_sls h.sl (X := CX) ty23 ty37 rfl (n := pre.length) (row := encG x) (k := .i64) (map_at encG h1)
  have ws := wrap_succ (n := pre.length) (by omega)
  have hh1 : Hold (gs = pre ++ x :: post) := ⟨h1⟩
  obtain ⟨v1, r1, o1, t1, f1, q1⟩ := OutI.frz (membersE hg x.id)
  obtain ⟨v2, r2, o2, t2, f2, q2⟩ := OutI.frz (belowE hg x.id)
  obtain ⟨v3, r3, o3, t3, f3, q3⟩ := OutI.frz (membersE hok x.id)
  have bl := below_len gs x.id
  have ml := members_len hg x.id
  have ml3 := members_len hok x.id
  have n1 := o1.snap
  have n2 := o2.snap
  have n3 := o3.snap
  have mg := members_grow (p := p) (n := x.id) hkG
  have qp := (put1s o1 t1.2 p (by omega)).rw
  have sb := (has1 v2 _ k o2 (by omega)).rw
  have d1 : ∀ S, snap S (.tsl true 1 (ints (put (members gs x.id) p))) = some (.tsl true 1 (ints (put (members gs x.id) p))) := fun S => snap_tsl
  clear t1 t2 t3
  by_cases he : (pre.length : Int) = (A.length : Int)
  · have hxz : x = z := split_eq (h1.symm.trans hhA.out) (by omega)
    have hxk : x.id = k := by rw [hxz]; exact hk
    have he' : ((pre.length : Int) == (A.length : Int)) = true := by simpa using he
    rw [if_pos (.inl hxk)] at mg
    rw [mg] at o3 ml3
    have s3 := (same1 v3 (.tsl true 1 (ints (put (members gs x.id) p))) _ _ o3 (.rows true) (by omega)).rw
    simp only [decide_true] at s3
    clear h1 hxz hxk he mg sb q2 f2 n2 o2
    simp only [garbA_cons, garbA_nil, setL_cons, setL_nil, List.set_cons_zero, List.set_cons_succ]
    repeat' (first | refine go1 ?_ | refine blockK_else rfl ?_ | (refine wpO_cons fun K hK => ?_; simp only [go_sem, reduceIte, Nat.reduceAdd, Nat.reduceEqDiff, Nat.reduceLT, Nat.reduceLeDiff, *, cvtK_int, wpK_append ty23 rfl, wpK_assignN ty23 rfl, wpK_buildSlice ty23 rfl, wpK_cvt ty5 ty3 rfl, hws, hvs, snap_str, getElem?_len, getElem?_lenAdd, set_len, set_lenAdd, len_mid, ints_len, List.length_map, lt_mid, List.nil_append, List.cons_append, Bool.not_true, Bool.not_false, adopt_int, adopt_bool, adopt_two, adopt_osl, adopt_tsl, adopt_nils]; first | (refine hK.out _ _ ?_; clear hK K) | (refine iteI (fun h => hK.out _ _ ?_) (fun h => hK.out _ _ ?_) <;> clear hK K)))
    (refine wpC_cond fun A B hA hB => ?_; simp only [go_sem, reduceIte, Nat.reduceAdd, Nat.reduceEqDiff, Nat.reduceLT, Nat.reduceLeDiff, *, cvtK_int, wpK_append ty23 rfl, wpK_assignN ty23 rfl, wpK_buildSlice ty23 rfl, wpK_cvt ty5 ty3 rfl, lt1]; first | (refine hA.out ?_; clear hA hB A B) | (refine hB.out ?_; clear hA hB A B))
    repeat' (first | refine go1 ?_ | refine blockK_else rfl ?_ | (refine wpO_cons fun K hK => ?_; simp only [go_sem, reduceIte, Nat.reduceAdd, Nat.reduceEqDiff, Nat.reduceLT, Nat.reduceLeDiff, *, cvtK_int, wpK_append ty23 rfl, wpK_assignN ty23 rfl, wpK_buildSlice ty23 rfl, wpK_cvt ty5 ty3 rfl, hws, hvs, snap_str, getElem?_len, getElem?_lenAdd, set_len, set_lenAdd, len_mid, ints_len, List.length_map, lt_mid, List.nil_append, List.cons_append, Bool.not_true, Bool.not_false, adopt_int, adopt_bool, adopt_two, adopt_osl, adopt_tsl, adopt_nils, i0, encG, q1, f1, n1, he']; first | (refine hK.out _ _ ?_; clear hK K) | (refine iteI (fun h => hK.out _ _ ?_) (fun h => hK.out _ _ ?_) <;> clear hK K)))
    (refine wpC_cond fun A B hA hB => ?_; simp only [go_sem, reduceIte, Nat.reduceAdd, Nat.reduceEqDiff, Nat.reduceLT, Nat.reduceLeDiff, *, cvtK_int, wpK_append ty23 rfl, wpK_assignN ty23 rfl, wpK_buildSlice ty23 rfl, wpK_cvt ty5 ty3 rfl, he']; first | (refine hA.out ?_; clear hA hB A B) | (refine hB.out ?_; clear hA hB A B))
    repeat' (first | refine go1 ?_ | refine blockK_else rfl ?_ | (refine wpO_cons fun K hK => ?_; simp only [go_sem, reduceIte, Nat.reduceAdd, Nat.reduceEqDiff, Nat.reduceLT, Nat.reduceLeDiff, *, cvtK_int, wpK_append ty23 rfl, wpK_assignN ty23 rfl, wpK_buildSlice ty23 rfl, wpK_cvt ty5 ty3 rfl, hws, hvs, snap_str, getElem?_len, getElem?_lenAdd, set_len, set_lenAdd, len_mid, ints_len, List.length_map, lt_mid, List.nil_append, List.cons_append, Bool.not_true, Bool.not_false, adopt_int, adopt_bool, adopt_two, adopt_osl, adopt_tsl, adopt_nils, i0, encG, n1, qp, q3, f3, n3, s3, snap_sl, rowsOf_sl, ln, tk, Nat.zero_le, Nat.zero_add, Nat.le_refl, Bool.true_or, List.getElem?_cons_succ]; first | (refine hK.out _ _ ?_; clear hK K) | (refine iteI (fun h => hK.out _ _ ?_) (fun h => hK.out _ _ ?_) <;> clear hK K)))
    (refine wpC_cond fun A B hA hB => ?_; simp only [go_sem, reduceIte, Nat.reduceAdd, Nat.reduceEqDiff, Nat.reduceLT, Nat.reduceLeDiff, *, cvtK_int, wpK_append ty23 rfl, wpK_assignN ty23 rfl, wpK_buildSlice ty23 rfl, wpK_cvt ty5 ty3 rfl, ]; first | (refine hA.out ?_; clear hA hB A B) | (refine hB.out ?_; clear hA hB A B))
    repeat' (first | refine go1 ?_ | refine blockK_else rfl ?_ | (refine wpO_cons fun K hK => ?_; simp only [go_sem, reduceIte, Nat.reduceAdd, Nat.reduceEqDiff, Nat.reduceLT, Nat.reduceLeDiff, *, cvtK_int, wpK_append ty23 rfl, wpK_assignN ty23 rfl, wpK_buildSlice ty23 rfl, wpK_cvt ty5 ty3 rfl, ws]; first | (refine hK.out _ _ ?_; clear hK K) | (refine iteI (fun h => hK.out _ _ ?_) (fun h => hK.out _ _ ?_) <;> clear hK K)))
    refine each_next hh1.out ?_ ?_ ?_
    · trivial
    · ((try simp only [eraseA_cons, eraseA_nil, setL_cons, setL_nil, List.set_cons_zero, List.set_cons_succ]); all_goals (first | rfl | (simp only [len_snoc, ints_len, List.length_map, ]; done) | (simp only [len_snoc, len_mid, ints_len, List.length_map, List.length_append, List.length_cons, List.length_nil, Nat.zero_add, ]; done) | (simp only [len_mid, len_snoc, ints_len, List.length_map, List.length_append, List.length_cons, List.length_nil, Nat.zero_add, ]; rfl)))
    · first | exact ⟨[], (List.append_nil _).symm⟩ | exact ⟨_, rfl⟩ | (simp only [List.append_assoc, List.cons_append, List.nil_append]; exact ⟨_, rfl⟩)
  · have hne : ¬ x.id = k := fun e => he (by have := ids_inj hr.ids h1 hhA.out (e.trans hk.symm); omega)
    have he' : ((pre.length : Int) == (A.length : Int)) = false := by simpa using he
    by_cases hc : (below gs x.id).contains k = true
    · rw [if_pos (.inr (by simpa using hc))] at mg
      rw [mg] at o3 ml3
      rw [hc] at sb
      have s3 := (same1 v3 (.tsl true 1 (ints (put (members gs x.id) p))) _ _ o3 (.rows true) (by omega)).rw
      simp only [decide_true] at s3
      clear h1 he mg hne
      simp only [garbA_cons, garbA_nil, setL_cons, setL_nil, List.set_cons_zero, List.set_cons_succ]
      repeat' (first | refine go1 ?_ | refine blockK_else rfl ?_ | (refine wpO_cons fun K hK => ?_; simp only [go_sem, reduceIte, Nat.reduceAdd, Nat.reduceEqDiff, Nat.reduceLT, Nat.reduceLeDiff, *, cvtK_int, wpK_append ty23 rfl, wpK_assignN ty23 rfl, wpK_buildSlice ty23 rfl, wpK_cvt ty5 ty3 rfl, hws, hvs, snap_str, getElem?_len, getElem?_lenAdd, set_len, set_lenAdd, len_mid, ints_len, List.length_map, lt_mid, List.nil_append, List.cons_append, Bool.not_true, Bool.not_false, adopt_int, adopt_bool, adopt_two, adopt_osl, adopt_tsl, adopt_nils]; first | (refine hK.out _ _ ?_; clear hK K) | (refine iteI (fun h => hK.out _ _ ?_) (fun h => hK.out _ _ ?_) <;> clear hK K)))
      (refine wpC_cond fun A B hA hB => ?_; simp only [go_sem, reduceIte, Nat.reduceAdd, Nat.reduceEqDiff, Nat.reduceLT, Nat.reduceLeDiff, *, cvtK_int, wpK_append ty23 rfl, wpK_assignN ty23 rfl, wpK_buildSlice ty23 rfl, wpK_cvt ty5 ty3 rfl, lt1]; first | (refine hA.out ?_; clear hA hB A B) | (refine hB.out ?_; clear hA hB A B))
      repeat' (first | refine go1 ?_ | refine blockK_else rfl ?_ | (refine wpO_cons fun K hK => ?_; simp only [go_sem, reduceIte, Nat.reduceAdd, Nat.reduceEqDiff, Nat.reduceLT, Nat.reduceLeDiff, *, cvtK_int, wpK_append ty23 rfl, wpK_assignN ty23 rfl, wpK_buildSlice ty23 rfl, wpK_cvt ty5 ty3 rfl, hws, hvs, snap_str, getElem?_len, getElem?_lenAdd, set_len, set_lenAdd, len_mid, ints_len, List.length_map, lt_mid, List.nil_append, List.cons_append, Bool.not_true, Bool.not_false, adopt_int, adopt_bool, adopt_two, adopt_osl, adopt_tsl, adopt_nils, i0, iz, encG, q1, f1, n1, he', q2, f2, n2, sb, hk]; first | (refine hK.out _ _ ?_; clear hK K) | (refine iteI (fun h => hK.out _ _ ?_) (fun h => hK.out _ _ ?_) <;> clear hK K)))
      (refine wpC_cond fun A B hA hB => ?_; simp only [go_sem, reduceIte, Nat.reduceAdd, Nat.reduceEqDiff, Nat.reduceLT, Nat.reduceLeDiff, *, cvtK_int, wpK_append ty23 rfl, wpK_assignN ty23 rfl, wpK_buildSlice ty23 rfl, wpK_cvt ty5 ty3 rfl, ]; first | (refine hA.out ?_; clear hA hB A B) | (refine hB.out ?_; clear hA hB A B))
      repeat' (first | refine go1 ?_ | refine blockK_else rfl ?_ | (refine wpO_cons fun K hK => ?_; simp only [go_sem, reduceIte, Nat.reduceAdd, Nat.reduceEqDiff, Nat.reduceLT, Nat.reduceLeDiff, *, cvtK_int, wpK_append ty23 rfl, wpK_assignN ty23 rfl, wpK_buildSlice ty23 rfl, wpK_cvt ty5 ty3 rfl, hws, hvs, snap_str, getElem?_len, getElem?_lenAdd, set_len, set_lenAdd, len_mid, ints_len, List.length_map, lt_mid, List.nil_append, List.cons_append, Bool.not_true, Bool.not_false, adopt_int, adopt_bool, adopt_two, adopt_osl, adopt_tsl, adopt_nils, i0, encG, n1, qp, q3, f3, n3, s3, snap_sl, rowsOf_sl, ln, tk, Nat.zero_le, Nat.zero_add, Nat.le_refl, Bool.true_or, List.getElem?_cons_succ]; first | (refine hK.out _ _ ?_; clear hK K) | (refine iteI (fun h => hK.out _ _ ?_) (fun h => hK.out _ _ ?_) <;> clear hK K)))
      (refine wpC_cond fun A B hA hB => ?_; simp only [go_sem, reduceIte, Nat.reduceAdd, Nat.reduceEqDiff, Nat.reduceLT, Nat.reduceLeDiff, *, cvtK_int, wpK_append ty23 rfl, wpK_assignN ty23 rfl, wpK_buildSlice ty23 rfl, wpK_cvt ty5 ty3 rfl, ]; first | (refine hA.out ?_; clear hA hB A B) | (refine hB.out ?_; clear hA hB A B))
      repeat' (first | refine go1 ?_ | refine blockK_else rfl ?_ | (refine wpO_cons fun K hK => ?_; simp only [go_sem, reduceIte, Nat.reduceAdd, Nat.reduceEqDiff, Nat.reduceLT, Nat.reduceLeDiff, *, cvtK_int, wpK_append ty23 rfl, wpK_assignN ty23 rfl, wpK_buildSlice ty23 rfl, wpK_cvt ty5 ty3 rfl, ws]; first | (refine hK.out _ _ ?_; clear hK K) | (refine iteI (fun h => hK.out _ _ ?_) (fun h => hK.out _ _ ?_) <;> clear hK K)))
      refine each_next hh1.out ?_ ?_ ?_
      · trivial
      · ((try simp only [eraseA_cons, eraseA_nil, setL_cons, setL_nil, List.set_cons_zero, List.set_cons_succ]); all_goals (first | rfl | (simp only [len_snoc, ints_len, List.length_map, ]; done) | (simp only [len_snoc, len_mid, ints_len, List.length_map, List.length_append, List.length_cons, List.length_nil, Nat.zero_add, ]; done) | (simp only [len_mid, len_snoc, ints_len, List.length_map, List.length_append, List.length_cons, List.length_nil, Nat.zero_add, ]; rfl)))
      · first | exact ⟨[], (List.append_nil _).symm⟩ | exact ⟨_, rfl⟩ | (simp only [List.append_assoc, List.cons_append, List.nil_append]; exact ⟨_, rfl⟩)
    · have hc' : (below gs x.id).contains k = false := by simpa using hc
      rw [if_neg (by rintro (e | e); exact hne e; exact hc (by simpa using e))] at mg
      rw [mg] at o3 ml3
      rw [hc'] at sb
      have s3 := (same1 v3 v1 _ _ o3 o1 (by omega)).rw
      simp only [decide_true] at s3
      clear h1 he mg hne hc qp
      simp only [garbA_cons, garbA_nil, setL_cons, setL_nil, List.set_cons_zero, List.set_cons_succ]
      repeat' (first | refine go1 ?_ | refine blockK_else rfl ?_ | (refine wpO_cons fun K hK => ?_; simp only [go_sem, reduceIte, Nat.reduceAdd, Nat.reduceEqDiff, Nat.reduceLT, Nat.reduceLeDiff, *, cvtK_int, wpK_append ty23 rfl, wpK_assignN ty23 rfl, wpK_buildSlice ty23 rfl, wpK_cvt ty5 ty3 rfl, hws, hvs, snap_str, getElem?_len, getElem?_lenAdd, set_len, set_lenAdd, len_mid, ints_len, List.length_map, lt_mid, List.nil_append, List.cons_append, Bool.not_true, Bool.not_false, adopt_int, adopt_bool, adopt_two, adopt_osl, adopt_tsl, adopt_nils]; first | (refine hK.out _ _ ?_; clear hK K) | (refine iteI (fun h => hK.out _ _ ?_) (fun h => hK.out _ _ ?_) <;> clear hK K)))
      (refine wpC_cond fun A B hA hB => ?_; simp only [go_sem, reduceIte, Nat.reduceAdd, Nat.reduceEqDiff, Nat.reduceLT, Nat.reduceLeDiff, *, cvtK_int, wpK_append ty23 rfl, wpK_assignN ty23 rfl, wpK_buildSlice ty23 rfl, wpK_cvt ty5 ty3 rfl, lt1]; first | (refine hA.out ?_; clear hA hB A B) | (refine hB.out ?_; clear hA hB A B))
      repeat' (first | refine go1 ?_ | refine blockK_else rfl ?_ | (refine wpO_cons fun K hK => ?_; simp only [go_sem, reduceIte, Nat.reduceAdd, Nat.reduceEqDiff, Nat.reduceLT, Nat.reduceLeDiff, *, cvtK_int, wpK_append ty23 rfl, wpK_assignN ty23 rfl, wpK_buildSlice ty23 rfl, wpK_cvt ty5 ty3 rfl, hws, hvs, snap_str, getElem?_len, getElem?_lenAdd, set_len, set_lenAdd, len_mid, ints_len, List.length_map, lt_mid, List.nil_append, List.cons_append, Bool.not_true, Bool.not_false, adopt_int, adopt_bool, adopt_two, adopt_osl, adopt_tsl, adopt_nils, i0, iz, encG, q1, f1, n1, he', q2, f2, n2, sb, hk]; first | (refine hK.out _ _ ?_; clear hK K) | (refine iteI (fun h => hK.out _ _ ?_) (fun h => hK.out _ _ ?_) <;> clear hK K)))
      (refine wpC_cond fun A B hA hB => ?_; simp only [go_sem, reduceIte, Nat.reduceAdd, Nat.reduceEqDiff, Nat.reduceLT, Nat.reduceLeDiff, *, cvtK_int, wpK_append ty23 rfl, wpK_assignN ty23 rfl, wpK_buildSlice ty23 rfl, wpK_cvt ty5 ty3 rfl, ]; first | (refine hA.out ?_; clear hA hB A B) | (refine hB.out ?_; clear hA hB A B))
      repeat' (first | refine go1 ?_ | refine blockK_else rfl ?_ | (refine wpO_cons fun K hK => ?_; simp only [go_sem, reduceIte, Nat.reduceAdd, Nat.reduceEqDiff, Nat.reduceLT, Nat.reduceLeDiff, *, cvtK_int, wpK_append ty23 rfl, wpK_assignN ty23 rfl, wpK_buildSlice ty23 rfl, wpK_cvt ty5 ty3 rfl, hws, hvs, snap_str, getElem?_len, getElem?_lenAdd, set_len, set_lenAdd, len_mid, ints_len, List.length_map, lt_mid, List.nil_append, List.cons_append, Bool.not_true, Bool.not_false, adopt_int, adopt_bool, adopt_two, adopt_osl, adopt_tsl, adopt_nils, i0, encG, n1, q3, f3, n3, s3, snap_sl, rowsOf_sl, ln, tk, Nat.zero_le, Nat.zero_add, Nat.le_refl, Bool.true_or, List.getElem?_cons_succ]; first | (refine hK.out _ _ ?_; clear hK K) | (refine iteI (fun h => hK.out _ _ ?_) (fun h => hK.out _ _ ?_) <;> clear hK K)))
      (refine wpC_cond fun A B hA hB => ?_; simp only [go_sem, reduceIte, Nat.reduceAdd, Nat.reduceEqDiff, Nat.reduceLT, Nat.reduceLeDiff, *, cvtK_int, wpK_append ty23 rfl, wpK_assignN ty23 rfl, wpK_buildSlice ty23 rfl, wpK_cvt ty5 ty3 rfl, ]; first | (refine hA.out ?_; clear hA hB A B) | (refine hB.out ?_; clear hA hB A B))
      repeat' (first | refine go1 ?_ | refine blockK_else rfl ?_ | (refine wpO_cons fun K hK => ?_; simp only [go_sem, reduceIte, Nat.reduceAdd, Nat.reduceEqDiff, Nat.reduceLT, Nat.reduceLeDiff, *, cvtK_int, wpK_append ty23 rfl, wpK_assignN ty23 rfl, wpK_buildSlice ty23 rfl, wpK_cvt ty5 ty3 rfl, ws]; first | (refine hK.out _ _ ?_; clear hK K) | (refine iteI (fun h => hK.out _ _ ?_) (fun h => hK.out _ _ ?_) <;> clear hK K)))
      refine each_next hh1.out ?_ ?_ ?_
      · trivial
      · ((try simp only [eraseA_cons, eraseA_nil, setL_cons, setL_nil, List.set_cons_zero, List.set_cons_succ]); all_goals (first | rfl | (simp only [len_snoc, ints_len, List.length_map, ]; done) | (simp only [len_snoc, len_mid, ints_len, List.length_map, List.length_append, List.length_cons, List.length_nil, Nat.zero_add, ]; done) | (simp only [len_mid, len_snoc, ints_len, List.length_map, List.length_append, List.length_cons, List.length_nil, Nat.zero_add, ]; rfl)))
      · first | exact ⟨[], (List.append_nil _).symm⟩ | exact ⟨_, rfl⟩ | (simp only [List.append_assoc, List.cons_append, List.nil_append]; exact ⟨_, rfl⟩)
end Go.Eng
