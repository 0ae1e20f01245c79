/- Part 6 of the texts behind this claim. -/
import Derived.Test.YtpdacimgcojgnaaGreatDoorZ5
import Derived.Test.YtpdacimgcojgnaaGreatDoorCtxS
import Derived.Test.YtpdacimgcojgnaaGreatDoorEngV
set_option linter.all false

/- Small functions over lists of numbers. -/
namespace Go.Eng
open Go.Proofs
set_option linter.unusedSimpArgs false
set_option linter.unusedVariables false
attribute [local irreducible] wpC wpO wp1 EvV EvR wpL
attribute [local go_sem] ty3 ty4 ty9 ty24 ty29 ty68 ty34 allocK beq_iff_eq beq_eq_false_iff_ne Int.natCast_inj Bool.not_eq_false' op1_go wpK_box wpK_alloc wpK_load wpK_store wpK_binOp wpK_unOp wpK_fieldAddr wpK_field wpK_build wpK_indexAddr wpK_slice wpK_len wpK_extract wpK_nilCheck wpK_pick wpK_makeFunc wpK_call wpK_callT wpK_max wpK_min wpK_assignT wpK_moveT wpK_assignB wpK_moveB wpK_assignI wpK_moveI wpK_assignA wpK_moveA callK_fn snapL_nil snapL_cons snap_int snap_bool snap_str snap_tsl snap_agg snap_fn snap_flat adopt_int adopt_bool adopt_str adopt_agg adopt_osl adopt_tsl adopt_tup op1_guard grdK_bool grdK_undef condK_bool someK_some pairK_some nilK_ptr nilK_tptr boxK storeK evalA_tmp evalA_int evalA_bool evalA_agg evalA_fn evalA_nil ofC_int ofC_bool getA_zero getA_succ cells_int cells_agg cells_bool cells_sl cells_tsl cell_int cell_bool cell_str cell_sl cell_esl cell_tsl cell_ptr cell_tptr cell_fn cell_nils cell_nilf List.all_cons List.all_nil Bool.and_true Bool.and_self Bool.true_and putA_some putA_none List.set_cons_zero List.set_cons_succ List.length_cons List.length_nil List.nil_append List.cons_append stabL AV.stab fieldAddrA fieldA List.getElem?_cons_zero List.getElem?_cons_succ Nat.zero_add loadA rowOf Nat.le_refl and_self true_and and_true partA binA unA intBin eqBin eqCells eqCell Option.bind_some decide_true decide_false decide_eq_true_eq ite_not Bool.not_eq_true' decide_eq_false_iff_not Bool.false_eq_true Option.map_some Option.map_none Bool.not_true Bool.not_false buildA fillA patch List.take List.drop List.map_cons List.map_nil extK List.getD_cons_zero List.getD_cons_succ minmaxA minmaxGo adoptZ_false adoptZ_true freeze_int freeze_bool freeze_str freeze_flat freeze_agg freeze_osl freeze_tsl freeze_tup frz1_bool frz1_int frz1_str frz1_agg frz1_osl frz1_tsl bne Bool.false_and Bool.and_false ne_eq not_true_eq_false not_false_eq_true List.append_nil


def known (gs : List Grp) (n : Int) : Bool := gs.any fun g => g.id == n

theorem exists44 (v : AV) (gs : List Grp) (n : Int) (hv : SLs 4 (gs.map encG) v) (hl : gs.length < 9223372036854775807) : EvV CX 88 [v, .int .i64 n] (· = .bool (known gs n)) := by
  refine EvV.walk rfl fn88 rfl nt88 rfl ?_
  simp only [List.length_cons, List.length_nil, List.cons_append, List.nil_append, Nat.reduceAdd, Nat.reduceSub, List.replicate]
  repeat' (first | refine go1 ?_ | refine blockK_else rfl ?_ | ((first | refine wpC_cond fun A B hA hB => ?_ | refine wpO_consD fun A B hA hB => ?_); simp only [go_sem, reduceIte, Nat.reduceAdd, Nat.reduceEqDiff, Nat.reduceLT, Nat.reduceLeDiff, *, and_self, lenK_sls hv]; (first | apply hA.out | apply hB.out | (refine iteI (fun h => ?_) (fun h => ?_) <;> first | apply hA.out | apply hB.out)) <;> clear hA hB A B))
  refine wpC_each [4, 6, 7, 8, 9, 10, 11, 12, 13, 14, 15, 16, 17, 18] 5 gs (fun _ post => known gs n = known post n) ?_ ?_ ?_ ?_
  · rfl
  · rfl
  · intro g G h2
    rw [h2]; simp only [garbA_cons, garbA_nil, setL_cons, setL_nil, List.set_cons_zero, List.set_cons_succ]
    repeat' (first | refine go1 ?_ | refine blockK_else rfl ?_ | ((first | refine wpC_cond fun A B hA hB => ?_ | refine wpO_consD fun A B hA hB => ?_); simp only [go_sem, reduceIte, Nat.reduceAdd, Nat.reduceEqDiff, Nat.reduceLT, Nat.reduceLeDiff, *, and_self, ints_len, List.length_map, Int.lt_irrefl, List.nil_append, lenK_sls hv]; (first | apply hA.out | apply hB.out | (refine iteI (fun h => ?_) (fun h => ?_) <;> first | apply hA.out | apply hB.out)) <;> clear hA hB A B))
    simp only [resultsR, resultsL, resultA, expK_int, expK_bool, expK_str, expK_agg, expK_own, expK_tsl, resK_some, go_sem, reduceIte, Nat.reduceAdd, Nat.reduceEqDiff, Nat.reduceLT, Nat.reduceLeDiff, and_self, known, List.any_nil]
  · intro g G pre x post h1 h2
    rw [h2]; subst h1; simp only [garbA_cons, garbA_nil, setL_cons, setL_nil, List.set_cons_zero, List.set_cons_succ]
    have i1 := idx_sls hv (X := CX) ty24 ty68 rfl (map_mid encG pre x post) (k := .i64)
    have w1 := wrap_succ (n := pre.length) (by simp at hl; omega)
    repeat' (first | refine go1 ?_ | refine blockK_else rfl ?_ | ((first | refine wpC_cond fun A B hA hB => ?_ | refine wpO_consD fun A B hA hB => ?_); simp only [go_sem, reduceIte, Nat.reduceAdd, Nat.reduceEqDiff, Nat.reduceLT, Nat.reduceLeDiff, *, and_self, getElem?_len, getElem?_lenAdd, set_len, set_lenAdd, len_mid, ints_len, List.length_map, lt_mid, List.nil_append, lenK_sls hv, i1, w1, encG]; (first | apply hA.out | apply hB.out | (refine iteI (fun h => ?_) (fun h => ?_) <;> first | apply hA.out | apply hB.out)) <;> clear hA hB A B))
    · simp only [resultsR, resultsL, resultA, expK_int, expK_bool, expK_str, expK_agg, expK_own, expK_tsl, resK_some, go_sem, reduceIte, Nat.reduceAdd, Nat.reduceEqDiff, Nat.reduceLT, Nat.reduceLeDiff, and_self, ]
      simp [known, h]
    · refine each_next rfl ?_ ?_ ?_
      · simp [known, h]
      · ((try simp only [eraseA_cons, eraseA_nil, setL_cons, setL_nil, List.set_cons_zero, List.set_cons_succ]); all_goals (first | rfl | (simp only [len_snoc, ints_len, List.length_map, ]; done) | (simp only [len_snoc, len_mid, ints_len, List.length_map, List.length_append, List.length_cons, List.length_nil, Nat.zero_add, ]; first | done | rfl)))
      · first | exact ⟨[], (List.append_nil _).symm⟩ | exact ⟨_, rfl⟩ | (simp only [List.append_assoc, List.cons_append, List.nil_append]; exact ⟨_, rfl⟩)

def listedF (gs : List Grp) : List Int → List Int → Int
  | _, [] => 0
  | pre, n :: l => if (0 : Int) < (pre.length : Int) ∧ n ≤ pre.getLastD 0 then 10 else if known gs n = true then listedF gs (pre ++ [n]) l else 9

/- Protocols: Copy, Check, Wider, Same. -/
open Go.Proofs
attribute [local go_sem] ty56 br101 fz120 br88 fz146


def checkF (groups : List Grp) (lv : Int) (gs : List Int) (un : Int) : Int :=
  if lv < 0 ∨ 3 < lv then 14 else if lv ≠ 2 ∧ (0 : Int) < (gs.length : Int) then 1 else if lv = 2 ∧ (gs.length : Int) = 0 then 4
  else if listedF groups [] gs ≠ 0 then listedF groups [] gs else if un < 0 ∨ 109573 < un then 12 else 0

theorem check15 (v gv : AV) (groups : List Grp) (lv un : Int) (gs : List Int) (hv : SLs 4 (groups.map encG) v) (hw : SLs 1 (ints gs) gv) (hg : groups.length < 9223372036854775807) (hl : gs.length < 9223372036854775807) :
    EvV CX 56 [v, .agg [.int .i64 lv, gv, .int .i64 un]] (· = .int .i64 (checkF groups lv gs un)) := by
  have c1 := hw.cell
  refine EvV.walk rfl fn56 rfl nt56 rfl ?_
  simp only [List.length_cons, List.length_nil, List.cons_append, List.nil_append, Nat.reduceAdd, Nat.reduceSub, List.replicate]
  repeat' (first | refine go1 ?_ | refine blockK_else rfl ?_ | ((first | refine wpC_cond fun A B hA hB => ?_ | refine wpO_consD fun A B hA hB => ?_); simp only [go_sem, reduceIte, Nat.reduceAdd, Nat.reduceEqDiff, Nat.reduceLT, Nat.reduceLeDiff, *, and_self, lenK_sls hw, ints_len, c1, hw.snap, hv.snap]; (first | apply hA.out | apply hB.out | (refine iteI (fun h => ?_) (fun h => ?_) <;> first | apply hA.out | apply hB.out)) <;> clear hA hB A B))
  all_goals first
    | (exfalso; omega)
    | (simp only [resultsR, resultsL, resultA, expK_int, expK_bool, expK_str, expK_agg, expK_own, expK_tsl, resK_some, go_sem, reduceIte, Nat.reduceAdd, Nat.reduceEqDiff, Nat.reduceLT, Nat.reduceLeDiff, and_self, ]; simp only [checkF, *, if_true, if_false, true_or, or_true, and_true, true_and, ne_eq, not_true_eq_false, not_false_eq_true, false_and, and_false, or_self, and_self, false_or, or_false, Bool.false_eq_true, Bool.true_and, Bool.and_true, Bool.false_and, Bool.and_false, Bool.true_or, Bool.or_true, Bool.false_or, Bool.or_false, Bool.not_true, Bool.not_false, decide_true, decide_false, not_false_iff, reduceIte]; (try simp); done)
    | skip
  all_goals
    have hF : checkF groups lv gs un = if listedF groups [] gs ≠ 0 then listedF groups [] gs else if un < 0 ∨ 109573 < un then 12 else 0 := by
      unfold checkF; rw [if_neg (by omega), if_neg (by omega), if_neg (by omega)]
    rw [hF]; clear hF
    refine wpC_each [4, 32, 33, 34, 35, 36, 37, 38, 39, 40, 41, 42, 43, 44, 45, 46, 47, 48, 49, 50, 51, 52, 53, 54, 55, 56, 57, 58, 59, 60, 61, 62] 5 gs (fun pre post => listedF groups [] gs = listedF groups pre post) ?_ ?_ ?_ ?_
    · rfl
    · rfl
    · intro g G h2
      rw [h2]; simp only [garbA_cons, garbA_nil, setL_cons, setL_nil, List.set_cons_zero, List.set_cons_succ]
      repeat' (first | refine go1 ?_ | refine blockK_else rfl ?_ | ((first | refine wpC_cond fun A B hA hB => ?_ | refine wpO_consD fun A B hA hB => ?_); simp only [go_sem, reduceIte, Nat.reduceAdd, Nat.reduceEqDiff, Nat.reduceLT, Nat.reduceLeDiff, *, and_self, ints_len, List.length_map, Int.lt_irrefl, List.nil_append, lenK_sls hw]; (first | apply hA.out | apply hB.out | (refine iteI (fun h => ?_) (fun h => ?_) <;> first | apply hA.out | apply hB.out)) <;> clear hA hB A B))
      all_goals simp only [resultsR, resultsL, resultA, expK_int, expK_bool, expK_str, expK_agg, expK_own, expK_tsl, resK_some, go_sem, reduceIte, Nat.reduceAdd, Nat.reduceEqDiff, Nat.reduceLT, Nat.reduceLeDiff, and_self, ]
      all_goals simp [listedF, *]
    · intro g G pre x post h1 h2
      rw [h2]; subst h1; simp only [garbA_cons, garbA_nil, setL_cons, setL_nil, List.set_cons_zero, List.set_cons_succ]
      have i1 := idx_sls hw (X := CX) ty29 ty3 rfl (ints_mid pre x post) (k := .i64)
      have i2 := prev_ints hw hl (X := CX) ty29 ty3 rfl (k := .i64)
      have w1 := wrap_succ (n := pre.length) (by simp at hl; omega)
      repeat' (first | refine go1 ?_ | refine blockK_else rfl ?_ | ((first | refine wpC_cond fun A B hA hB => ?_ | refine wpO_consD fun A B hA hB => ?_); simp only [go_sem, reduceIte, Nat.reduceAdd, Nat.reduceEqDiff, Nat.reduceLT, Nat.reduceLeDiff, *, and_self, getElem?_len, getElem?_lenAdd, set_len, set_lenAdd, len_mid, ints_len, List.length_map, lt_mid, List.nil_append, i1, w1, lenK_sls hw, hv.snap, (exists44 v groups x hv hg).rw]; (first | apply hA.out | apply hB.out | (refine iteI (fun h => ?_) (fun h => ?_) <;> first | apply hA.out | apply hB.out)) <;> clear hA hB A B))
      all_goals first
        | (simp only [resultsR, resultsL, resultA, expK_int, expK_bool, expK_str, expK_agg, expK_own, expK_tsl, resK_some, go_sem, reduceIte, Nat.reduceAdd, Nat.reduceEqDiff, Nat.reduceLT, Nat.reduceLeDiff, and_self, ]
           simp only [listedF, *, and_self, false_and, and_false, if_true, if_false, Bool.false_eq_true]; simp; done)
        | (refine each_next rfl ?_ ?_ ?_
           · have hno : ¬ ((0 : Int) < (pre.length : Int) ∧ x ≤ pre.getLastD 0) := by rintro ⟨_, _⟩; contradiction
             rw [listedF, if_neg hno, if_pos (by simpa using h)]
           · ((try simp only [eraseA_cons, eraseA_nil, setL_cons, setL_nil, List.set_cons_zero, List.set_cons_succ]); all_goals (first | rfl | (simp only [len_snoc, ints_len, List.length_map, ]; done) | (simp only [len_snoc, len_mid, ints_len, List.length_map, List.length_append, List.length_cons, List.length_nil, Nat.zero_add, ]; first | done | rfl)))
           · first | exact ⟨[], (List.append_nil _).symm⟩ | exact ⟨_, rfl⟩ | (simp only [List.append_assoc, List.cons_append, List.nil_append]; exact ⟨_, rfl⟩))
end Go.Eng

/- Time spans and their lists (plain): two normal lists with the same times are one. -/
namespace Go.Eng

abbrev Spn := Int × Int
def rgt (s : Spn) : Bool := decide (0 ≤ s.1) && (decide (s.1 < s.2) && decide (s.2 ≤ 86400000))
end Go.Eng

/- Rights: Rule and Check of the reference. -/
namespace Go.Eng
open Go.Proofs
set_option linter.unusedSimpArgs false
set_option linter.unusedVariables false
attribute [local irreducible] wpC wpO wp1 EvV EvR wpL
attribute [local go_sem] ty3 ty4 ty47 eq47 ty9 ty22 ty23 ty24 ty25 ty26 ty28 ty29 ty31 ty34 ty53 ty56 ty58 ty66 ty68 br50 br55 br56 fz136 fz138 fz141 beq_iff_eq beq_eq_false_iff_ne Int.natCast_inj Bool.not_eq_false' op1_go wpK_box wpK_alloc wpK_load wpK_store wpK_binOp wpK_unOp wpK_fieldAddr wpK_field wpK_build wpK_indexAddr wpK_slice wpK_len wpK_extract wpK_nilCheck wpK_pick wpK_makeFunc wpK_call wpK_callT wpK_max wpK_min wpK_assignT wpK_moveT wpK_assignB wpK_moveB wpK_assignI wpK_moveI wpK_assignA wpK_moveA callK_fn snapL_nil snapL_cons snap_int snap_bool snap_str snap_tsl snap_agg snap_fn snap_flat adopt_int adopt_bool adopt_str adopt_agg adopt_osl adopt_tsl adopt_tup op1_guard grdK_bool grdK_undef condK_bool someK_some pairK_some nilK_ptr nilK_tptr boxK storeK evalA_tmp evalA_int evalA_bool evalA_agg evalA_fn evalA_nil ofC_int ofC_bool getA_zero getA_succ cells_int cells_agg cells_bool cells_sl cells_tsl cell_int cell_bool cell_str cell_sl cell_esl cell_tsl cell_ptr cell_tptr cell_fn cell_nils cell_nilf List.all_cons List.all_nil Bool.and_true Bool.and_self Bool.true_and putA_some putA_none List.set_cons_zero List.set_cons_succ List.length_cons List.length_nil List.nil_append List.cons_append stabL AV.stab fieldAddrA fieldA List.getElem?_cons_zero List.getElem?_cons_succ Nat.zero_add loadA rowOf Nat.le_refl and_self true_and and_true partA binA unA intBin eqBin eqCells eqCell Option.bind_some decide_true decide_false decide_eq_true_eq ite_not Bool.not_eq_true' decide_eq_false_iff_not Bool.false_eq_true Option.map_some Option.map_none Bool.not_true Bool.not_false buildA fillA patch List.take List.drop List.map_cons List.map_nil extK List.getD_cons_zero List.getD_cons_succ minmaxA minmaxGo adoptZ_false adoptZ_true freeze_int freeze_bool freeze_str freeze_flat freeze_agg freeze_osl freeze_tsl freeze_tup frz1_bool frz1_int frz1_str frz1_agg frz1_osl frz1_tsl bne Bool.false_and Bool.and_false ne_eq not_true_eq_false not_false_eq_true List.append_nil
set_option maxHeartbeats 4000000

theorem rightN (a b : Int) : EvV CX 50 [.agg [.int .i64 a, .int .i64 b]] (· = .bool (rgt (a, b))) := by
  refine EvV.walk rfl fn50 rfl nt50 rfl ?_
  simp only [List.length_cons, List.length_nil, List.cons_append, List.nil_append, Nat.reduceAdd, Nat.reduceSub, List.replicate]
  repeat' (first | refine go1 ?_ | refine blockK_else rfl ?_ | ((first | refine wpC_cond fun A B hA hB => ?_ | refine wpO_consD fun A B hA hB => ?_); simp only [go_sem, reduceIte, Nat.reduceAdd, Nat.reduceEqDiff, Nat.reduceLT, Nat.reduceLeDiff, *, and_self, ]; (first | apply hA.out | apply hB.out | (refine iteI (fun h => ?_) (fun h => ?_) <;> first | apply hA.out | apply hB.out)) <;> clear hA hB A B))
  all_goals simp only [resultsR, resultsL, resultA, expK_int, expK_bool, expK_str, expK_agg, expK_own, expK_tsl, resK_some, go_sem, reduceIte, Nat.reduceAdd, Nat.reduceEqDiff, Nat.reduceLT, Nat.reduceLeDiff, and_self, ]
  all_goals simp [rgt, *]

def spOK (s : Int × Int) : Bool := ((s.1 == 0) && (s.2 == 0)) || rgt s
def outR (x : Ru) (r : Rec) : Bool := (r.id == x.rc) && decide (r.len < x.sp.2)
/-- What is wrong with a rule. -/
def ruleF (recs : List Rec) (gs : List Grp) (x : Ru) : Int :=
  if idOK x.rc = true then if spOK x.sp = true then if recs.any (outR x) = true then 12 else checkF gs x.lv x.gl x.un else 12 else 2
def rulesF (recs : List Rec) (gs : List Grp) : List Ru → Int
  | [] => 0
  | x :: l => if ruleF recs gs x = 0 then rulesF recs gs l else ruleF recs gs x
noncomputable def chkRt (ps : List Psn) (recs : List Rec) (gs : List Grp) (cs : List Con) (rs : List Ru) : Int :=
  if pplF ps = 0 then if recsF ps recs = 0 then if chkG ps gs = 0 then if cnsF ps cs = 0 then if rs.length ≤ 60 then rulesF recs gs rs else 11 else cnsF ps cs else chkG ps gs else recsF ps recs else pplF ps

theorem ruleR {pv gv cv rv u : AV} {ps : List Psn} {gs : List Grp} {cs : List Con} {rs : List Ru} {recs : List Rec} (h : RtV pv gv cv rv ps gs cs rs) (hu : SLs 5 (recs.map encRc) u) (hok : ∀ r ∈ recs, r.ok) (hl : recs.length ≤ 1000) (hgl : gs.length ≤ 1000) (x : Ru) (hx : x.ok) (hxl : x.gl.length ≤ 1000) :
    EvV CX 28 [u, .agg [pv, gv, cv, rv], .agg (encRu x)] (· = .int .i64 (ruleF recs gs x)) := by
  have c1 := h.p.cell
  have c2 := h.g.cell
  have c3 := h.c.cell
  have c4 := h.r.cell
  have c5 := hx.sl.cell
  have s2 := h.g.snap
  have s5 := hx.sl.snap
  have su := hu.snap
  have qi := (identR x.rc).rw
  have qr := (rightN x.sp.1 x.sp.2).rw
  have qc := (check15 gv x.gv gs x.lv x.un x.gl h.g hx.sl (by omega) (by omega)).rw
  have hE : ruleF recs gs x = if idOK x.rc = true then if spOK x.sp = true then if recs.any (outR x) = true then 12 else checkF gs x.lv x.gl x.un else 12 else 2 := rfl
  have hS : spOK x.sp = (((x.sp.1 == 0) && (x.sp.2 == 0)) || rgt (x.sp.1, x.sp.2)) := rfl
  cases k1 : idOK x.rc with
  | false =>
    rw [k1] at hE qi
    rw [hE]
    clear hE hS k1
    refine EvV.walk rfl fn28 rfl nt28 rfl ?_
    simp only [List.length_cons, List.length_nil, List.cons_append, List.nil_append, Nat.reduceAdd, Nat.reduceSub, List.replicate]
    repeat' (first | refine go1 ?_ | refine blockK_else rfl ?_ | ((first | refine wpC_cond fun A B hA hB => ?_ | refine wpO_consD fun A B hA hB => ?_); simp only [go_sem, reduceIte, Nat.reduceAdd, Nat.reduceEqDiff, Nat.reduceLT, Nat.reduceLeDiff, *, and_self, encRu, c1, c2, c3, c4, c5, qi]; (first | apply hA.out | apply hB.out | (refine iteI (fun h => ?_) (fun h => ?_) <;> first | apply hA.out | apply hB.out)) <;> clear hA hB A B))
    simp only [resultsR, resultsL, resultA, expK_int, expK_bool, expK_str, expK_agg, expK_own, expK_tsl, resK_some, go_sem, reduceIte, Nat.reduceAdd, Nat.reduceEqDiff, Nat.reduceLT, Nat.reduceLeDiff, and_self, ]
  | true =>
    rw [k1, if_pos rfl] at hE
    rw [k1] at qi
    clear k1
    have ways : ((x.sp.1 == 0) = true ∧ (x.sp.2 == 0) = true) ∨ ((x.sp.1 == 0) = true ∧ (x.sp.2 == 0) = false) ∨ (x.sp.1 == 0) = false := by
      cases (x.sp.1 == 0) <;> cases (x.sp.2 == 0) <;> simp
    cases k2 : spOK x.sp with
    | false =>
      rw [k2] at hE
      rw [hE]
      have k3 : rgt (x.sp.1, x.sp.2) = false := by
        cases e : rgt (x.sp.1, x.sp.2) with
        | false => rfl
        | true => rw [hS, e, Bool.or_true] at k2; cases k2
      rw [k3] at qr
      clear hE
      rcases ways with ⟨b1, b2⟩ | ⟨b1, b2⟩ | b1
      · rw [hS, b1, b2] at k2; cases k2
      all_goals
        clear hS k2 k3
        refine EvV.walk rfl fn28 rfl nt28 rfl ?_
        simp only [List.length_cons, List.length_nil, List.cons_append, List.nil_append, Nat.reduceAdd, Nat.reduceSub, List.replicate]
        repeat' (first | refine go1 ?_ | refine blockK_else rfl ?_ | ((first | refine wpC_cond fun A B hA hB => ?_ | refine wpO_consD fun A B hA hB => ?_); simp only [go_sem, reduceIte, Nat.reduceAdd, Nat.reduceEqDiff, Nat.reduceLT, Nat.reduceLeDiff, *, and_self, encRu, c1, c2, c3, c4, c5, qi, qr, b1, List.getElem?_cons_succ]; (first | apply hA.out | apply hB.out | (refine iteI (fun h => ?_) (fun h => ?_) <;> first | apply hA.out | apply hB.out)) <;> clear hA hB A B))
        simp only [resultsR, resultsL, resultA, expK_int, expK_bool, expK_str, expK_agg, expK_own, expK_tsl, resK_some, go_sem, reduceIte, Nat.reduceAdd, Nat.reduceEqDiff, Nat.reduceLT, Nat.reduceLeDiff, and_self, ]
    | true =>
      rw [k2, if_pos rfl] at hE
      obtain ⟨R, hR⟩ : ∃ R, ruleF recs gs x = R := ⟨_, rfl⟩
      have hhE : Hold (R = if recs.any (outR x) = true then 12 else checkF gs x.lv x.gl x.un) := ⟨by rw [← hR, hE]⟩
      rw [hR]
      clear hE hR
      have qr2 : ((x.sp.1 == 0) = true ∧ (x.sp.2 == 0) = true) ∨ (((x.sp.1 == 0) = true ∧ (x.sp.2 == 0) = false) ∨ (x.sp.1 == 0) = false) ∧ rgt (x.sp.1, x.sp.2) = true := by
        rcases ways with w | w | w
        · exact .inl w
        · refine .inr ⟨.inl w, ?_⟩; rw [hS, w.1, w.2] at k2; exact k2
        · refine .inr ⟨.inr w, ?_⟩; rw [hS, w] at k2; exact k2
      clear ways k2 hS
      rcases qr2 with ⟨b1, b2⟩ | ⟨⟨b1, b2⟩ | b1, k3⟩
      all_goals (try rw [k3] at qr)
      all_goals (try clear k3)
      all_goals
        refine EvV.walk rfl fn28 rfl nt28 rfl ?_
        simp only [List.length_cons, List.length_nil, List.cons_append, List.nil_append, Nat.reduceAdd, Nat.reduceSub, List.replicate]
        repeat' (first | refine go1 ?_ | refine blockK_else rfl ?_ | ((first | refine wpC_cond fun A B hA hB => ?_ | refine wpO_consD fun A B hA hB => ?_); simp only [go_sem, reduceIte, Nat.reduceAdd, Nat.reduceEqDiff, Nat.reduceLT, Nat.reduceLeDiff, *, and_self, encRu, c1, c2, c3, c4, c5, qi, qr, b1, lenK_sls hu, List.length_map, List.getElem?_cons_succ]; (first | apply hA.out | apply hB.out | (refine iteI (fun h => ?_) (fun h => ?_) <;> first | apply hA.out | apply hB.out)) <;> clear hA hB A B))
        refine wpC_each [6, 7, 25, 26, 27, 28, 29, 30, 31, 32, 33, 34, 35, 36, 37, 38, 39, 40, 41, 42, 43, 44, 45, 46] 24 recs (fun pre _ => pre.any (outR x) = false) ?_ ?_ ?_ ?_
        · rfl
        · rfl
        · intro g G hA
          have e : R = checkF gs x.lv x.gl x.un := by rw [hhE.out, hA]; rfl
          rw [e]
          clear e hA hhE
          simp only [garbA_cons, garbA_nil, setL_cons, setL_nil, List.set_cons_zero, List.set_cons_succ]
          repeat' (first | refine go1 ?_ | refine blockK_else rfl ?_ | ((first | refine wpC_cond fun A B hA hB => ?_ | refine wpO_consD fun A B hA hB => ?_); simp only [go_sem, reduceIte, Nat.reduceAdd, Nat.reduceEqDiff, Nat.reduceLT, Nat.reduceLeDiff, *, and_self, Int.lt_irrefl, c1, c2, c3, c4, c5, s2, s5, qc, List.getElem?_cons_succ]; (first | apply hA.out | apply hB.out | (refine iteI (fun h => ?_) (fun h => ?_) <;> first | apply hA.out | apply hB.out)) <;> clear hA hB A B))
          simp only [resultsR, resultsL, resultA, expK_int, expK_bool, expK_str, expK_agg, expK_own, expK_tsl, resK_some, go_sem, reduceIte, Nat.reduceAdd, Nat.reduceEqDiff, Nat.reduceLT, Nat.reduceLeDiff, and_self, ]
        · intro g G pre r post h1 hA
          have hpl : pre.length < recs.length := by rw [h1]; simp
          have lt1 : (pre.length : Int) < (recs.length : Int) := by omega
          have w1 := wrap_succ (n := pre.length) (by omega)
          have i0 := idx_sls hu (X := CX) ty22 ty31 rfl (n := pre.length) (row := encRc r) (k := .i64) (by rw [h1]; exact map_mid encRc pre r post)
          have hrm : r ∈ recs := by rw [h1]; simp
          have hr := hok r hrm
          have d1 := hr.sv.cell
          have hh1 : Hold (recs = pre ++ r :: post) := ⟨h1⟩
          have hyes : Hold (outR x r = true → R = 12) := ⟨fun e => by rw [hhE.out, if_pos (List.any_eq_true.2 ⟨r, hrm, e⟩)]⟩
          have hno : Hold (outR x r = false → (pre ++ [r]).any (outR x) = false) := ⟨fun e => by rw [List.any_append, hA]; simp [e]⟩
          have ho : outR x r = ((r.id == x.rc) && decide (r.len < x.sp.2)) := rfl
          clear h1 hpl hA hrm hhE
          cases e1 : (r.id == x.rc) with
          | false =>
            rw [e1] at ho
            have hh2 := hno.out ho
            have hhn : Hold ((pre ++ [r]).any (outR x) = false) := ⟨hh2⟩
            clear ho hh2 hyes hno
            simp only [garbA_cons, garbA_nil, setL_cons, setL_nil, List.set_cons_zero, List.set_cons_succ]
            repeat' (first | refine go1 ?_ | refine blockK_else rfl ?_ | ((first | refine wpC_cond fun A B hA hB => ?_ | refine wpO_consD fun A B hA hB => ?_); simp only [go_sem, reduceIte, Nat.reduceAdd, Nat.reduceEqDiff, Nat.reduceLT, Nat.reduceLeDiff, *, and_self, lt1, w1, i0, encRc, c1, c2, c3, c4, c5, d1, su, e1, List.getElem?_cons_succ]; (first | apply hA.out | apply hB.out | (refine iteI (fun h => ?_) (fun h => ?_) <;> first | apply hA.out | apply hB.out)) <;> clear hA hB A B))
            refine each_next hh1.out hhn.out ?_ ?_
            · ((try simp only [eraseA_cons, eraseA_nil, setL_cons, setL_nil, List.set_cons_zero, List.set_cons_succ]); all_goals (first | rfl | (simp only [len_snoc, ints_len, List.length_map, ]; done) | (simp only [len_snoc, len_mid, ints_len, List.length_map, List.length_append, List.length_cons, List.length_nil, Nat.zero_add, ]; first | done | rfl)))
            · first | exact ⟨[], (List.append_nil _).symm⟩ | exact ⟨_, rfl⟩ | (simp only [List.append_assoc, List.cons_append, List.nil_append]; exact ⟨_, rfl⟩)
          | true =>
            by_cases e2 : r.len < x.sp.2
            · have e : R = 12 := hyes.out (by rw [ho, e1]; simp [e2])
              rw [e]
              clear e ho hyes hno
              simp only [garbA_cons, garbA_nil, setL_cons, setL_nil, List.set_cons_zero, List.set_cons_succ]
              repeat' (first | refine go1 ?_ | refine blockK_else rfl ?_ | ((first | refine wpC_cond fun A B hA hB => ?_ | refine wpO_consD fun A B hA hB => ?_); simp only [go_sem, reduceIte, Nat.reduceAdd, Nat.reduceEqDiff, Nat.reduceLT, Nat.reduceLeDiff, *, and_self, lt1, w1, i0, encRc, c1, c2, c3, c4, c5, d1, su, e1, e2, List.getElem?_cons_succ]; (first | apply hA.out | apply hB.out | (refine iteI (fun h => ?_) (fun h => ?_) <;> first | apply hA.out | apply hB.out)) <;> clear hA hB A B))
              simp only [resultsR, resultsL, resultA, expK_int, expK_bool, expK_str, expK_agg, expK_own, expK_tsl, resK_some, go_sem, reduceIte, Nat.reduceAdd, Nat.reduceEqDiff, Nat.reduceLT, Nat.reduceLeDiff, and_self, ]
            · have hhn : Hold ((pre ++ [r]).any (outR x) = false) := ⟨hno.out (by rw [ho, e1]; simp [e2])⟩
              clear ho hyes hno
              simp only [garbA_cons, garbA_nil, setL_cons, setL_nil, List.set_cons_zero, List.set_cons_succ]
              repeat' (first | refine go1 ?_ | refine blockK_else rfl ?_ | ((first | refine wpC_cond fun A B hA hB => ?_ | refine wpO_consD fun A B hA hB => ?_); simp only [go_sem, reduceIte, Nat.reduceAdd, Nat.reduceEqDiff, Nat.reduceLT, Nat.reduceLeDiff, *, and_self, lt1, w1, i0, encRc, c1, c2, c3, c4, c5, d1, su, e1, e2, List.getElem?_cons_succ]; (first | apply hA.out | apply hB.out | (refine iteI (fun h => ?_) (fun h => ?_) <;> first | apply hA.out | apply hB.out)) <;> clear hA hB A B))
              refine each_next hh1.out hhn.out ?_ ?_
              · ((try simp only [eraseA_cons, eraseA_nil, setL_cons, setL_nil, List.set_cons_zero, List.set_cons_succ]); all_goals (first | rfl | (simp only [len_snoc, ints_len, List.length_map, ]; done) | (simp only [len_snoc, len_mid, ints_len, List.length_map, List.length_append, List.length_cons, List.length_nil, Nat.zero_add, ]; first | done | rfl)))
              · first | exact ⟨[], (List.append_nil _).symm⟩ | exact ⟨_, rfl⟩ | (simp only [List.append_assoc, List.cons_append, List.nil_append]; exact ⟨_, rfl⟩)

/- Rights: Check of the reference; what right is. -/
open Go.Proofs
attribute [local go_sem] br41 fz177 br28 br37 br38 br39 br40 fz144 fz146 fz147 fz149 fz151 ty38 ty40 br14 br16 fz86 fz87
set_option maxHeartbeats 4000000

theorem few_out {ps : List Psn} {gs : List Grp} {cs : List Con} {rs : List Ru} (h : fewRt ps gs cs rs = true) :
    ps.length ≤ 50 ∧ gs.length ≤ 25 ∧ cs.length ≤ 65 ∧ rs.length ≤ 65 ∧ (∀ p ∈ ps, p.name.size ≤ 100) ∧ (∀ g ∈ gs, g.name.size ≤ 100 ∧ g.people.length ≤ 50 ∧ g.subs.length ≤ 25) ∧ ∀ x ∈ rs, x.gl.length ≤ 25 := by
  simp only [fewRt, Bool.and_eq_true, decide_eq_true_eq, List.all_eq_true, fewG] at h
  obtain ⟨⟨⟨⟨⟨⟨h1, h2⟩, h3⟩, h4⟩, h5⟩, h6⟩, h7⟩ := h
  exact ⟨h1, h2, h3, h4, h5, fun g hg => ⟨(h6 g hg).1.1, (h6 g hg).1.2, (h6 g hg).2⟩, h7⟩
theorem RtV.gsok {pv gv cv rv : AV} {ps : List Psn} {gs : List Grp} {cs : List Con} {rs : List Ru} (h : RtV pv gv cv rv ps gs cs rs) (hf : fewRt ps gs cs rs = true) : GsOK gv gs :=
  ⟨h.g, h.go, h.gt, by have := (few_out hf).2.1; omega, fun g hg => by have := ((few_out hf).2.2.2.2.2.1 g hg).2.2; omega, fun g hg => by have := ((few_out hf).2.2.2.2.2.1 g hg).2.1; omega⟩

theorem recsNil {w : AV} {ps : List Psn} (hw : SLs 3 (ps.map encP) w) : EvV CX 38 [w, .flat (.slice none 0 0)] (· = .int .i64 (recsF ps [])) := by
  obtain ⟨L, hL, hv⟩ : ∃ L : List Rec, L = [] ∧ SLs 5 (L.map encRc) (.flat (.slice none 0 0)) := ⟨[], rfl, .nil rfl⟩
  have hws := hw.snap
  have e : recsF ps [] = 0 := rfl
  rw [e]
  clear e
  have k : ¬ (12 : Int) < (L.length : Int) := by rw [hL]; simp
  have hhL : Hold (L = []) := ⟨hL⟩
  clear hL
  refine EvV.walk rfl fn38 rfl nt38 rfl ?_
  simp only [List.length_cons, List.length_nil, List.cons_append, List.nil_append, Nat.reduceAdd, Nat.reduceSub, List.replicate]
  repeat' (first | refine go1 ?_ | refine blockK_else rfl ?_ | ((first | refine wpC_cond fun A B hA hB => ?_ | refine wpO_consD fun A B hA hB => ?_); simp only [go_sem, reduceIte, Nat.reduceAdd, Nat.reduceEqDiff, Nat.reduceLT, Nat.reduceLeDiff, *, and_self, lenK_sls hv, List.length_map]; (first | apply hA.out | apply hB.out | (refine iteI (fun h => ?_) (fun h => ?_) <;> first | apply hA.out | apply hB.out)) <;> clear hA hB A B))
  refine wpC_each [4, 5, 6, 7, 14, 15, 16, 17, 18, 19, 20, 21, 22, 23, 24, 25, 26, 27, 28, 29, 30, 31, 32, 33, 34, 35, 36, 37, 38, 39, 40, 41, 42, 43, 44, 45, 46, 47, 48, 49, 50, 51, 52, 53, 54, 55, 56, 57] 13 L (fun _ _ => True) ?_ ?_ ?_ ?_
  · trivial
  · ((try simp only [eraseA_cons, eraseA_nil, setL_cons, setL_nil, List.set_cons_zero, List.set_cons_succ]); all_goals (first | rfl | (simp only [len_snoc, ints_len, List.length_map, ]; done) | (simp only [len_snoc, len_mid, ints_len, List.length_map, List.length_append, List.length_cons, List.length_nil, Nat.zero_add, ]; first | done | rfl)))
  · intro g G _
    simp only [garbA_cons, garbA_nil, setL_cons, setL_nil, List.set_cons_zero, List.set_cons_succ]
    repeat' (first | refine go1 ?_ | refine blockK_else rfl ?_ | ((first | refine wpC_cond fun A B hA hB => ?_ | refine wpO_consD fun A B hA hB => ?_); simp only [go_sem, reduceIte, Nat.reduceAdd, Nat.reduceEqDiff, Nat.reduceLT, Nat.reduceLeDiff, *, and_self, Int.lt_irrefl]; (first | apply hA.out | apply hB.out | (refine iteI (fun h => ?_) (fun h => ?_) <;> first | apply hA.out | apply hB.out)) <;> clear hA hB A B))
    simp only [resultsR, resultsL, resultA, expK_int, expK_bool, expK_str, expK_agg, expK_own, expK_tsl, resK_some, go_sem, reduceIte, Nat.reduceAdd, Nat.reduceEqDiff, Nat.reduceLT, Nat.reduceLeDiff, and_self, ]
  · intro g G pre x post h1 _
    rw [hhL.out] at h1
    simp at h1

theorem chkR45 {pv gv cv rv u : AV} {ps : List Psn} {gs : List Grp} {cs : List Con} {rs : List Ru} {recs : List Rec} (h : RtV pv gv cv rv ps gs cs rs) (hu : SLs 5 (recs.map encRc) u) (hok : ∀ r ∈ recs, r.ok) (hl : recs.length ≤ 1000) (hf : fewRt ps gs cs rs = true)
    (qrec : EvV CX 38 [pv, u] (· = .int .i64 (recsF ps recs))) : EvV CX 16 [u, .agg [pv, gv, cv, rv]] (· = .int .i64 (chkRt ps recs gs cs rs)) := by
  obtain ⟨f1, f2, f3, f4, f5, f6, f7⟩ := few_out hf
  have hgs := h.gsok hf
  have c1 := h.p.cell
  have c2 := h.g.cell
  have c3 := h.c.cell
  have c4 := h.r.cell
  have s1 := h.p.snap
  have s2 := h.g.snap
  have s3 := h.c.snap
  have s4 := h.r.snap
  have su := hu.snap
  have q1 := (peopleR h.p (by omega) (fun p hp => by have := f5 p hp; omega)).rw
  have q2 := qrec.rw
  have q3 := (checkR hgs h.p (by omega) (fun g hg => by have := (f6 g hg).1; omega)).rw
  have q4 := (cnsR h.c h.p (by omega)).rw
  have hE : chkRt ps recs gs cs rs = if pplF ps = 0 then if recsF ps recs = 0 then if chkG ps gs = 0 then if cnsF ps cs = 0 then if rs.length ≤ 60 then rulesF recs gs rs else 11 else cnsF ps cs else chkG ps gs else recsF ps recs else pplF ps := rfl
  generalize pplF ps = e1 at *
  generalize recsF ps recs = e2 at *
  generalize chkG ps gs = e3 at *
  generalize cnsF ps cs = e4 at *
  clear qrec hgs
  obtain ⟨R, hR⟩ : ∃ R, chkRt ps recs gs cs rs = R := ⟨_, rfl⟩
  rw [hR] at hE ⊢
  clear hR
  by_cases k1 : e1 = 0
  rotate_left
  · rw [if_neg k1] at hE
    have b1 : (e1 == 0) = false := beq_false_of_ne k1
    rw [hE]
    clear hE k1
    refine EvV.walk rfl fn16 rfl nt16 rfl ?_
    simp only [List.length_cons, List.length_nil, List.cons_append, List.nil_append, Nat.reduceAdd, Nat.reduceSub, List.replicate]
    repeat' (first | refine go1 ?_ | refine blockK_else rfl ?_ | ((first | refine wpC_cond fun A B hA hB => ?_ | refine wpO_consD fun A B hA hB => ?_); simp only [go_sem, reduceIte, Nat.reduceAdd, Nat.reduceEqDiff, Nat.reduceLT, Nat.reduceLeDiff, *, and_self, c1, c2, c3, c4, s1, q1, b1]; (first | apply hA.out | apply hB.out | (refine iteI (fun h => ?_) (fun h => ?_) <;> first | apply hA.out | apply hB.out)) <;> clear hA hB A B))
    simp only [resultsR, resultsL, resultA, expK_int, expK_bool, expK_str, expK_agg, expK_own, expK_tsl, resK_some, go_sem, reduceIte, Nat.reduceAdd, Nat.reduceEqDiff, Nat.reduceLT, Nat.reduceLeDiff, and_self, ]
  subst k1
  rw [if_pos rfl] at hE
  by_cases k1 : e2 = 0
  rotate_left
  · rw [if_neg k1] at hE
    have b1 : (e2 == 0) = false := beq_false_of_ne k1
    rw [hE]
    clear hE k1
    refine EvV.walk rfl fn16 rfl nt16 rfl ?_
    simp only [List.length_cons, List.length_nil, List.cons_append, List.nil_append, Nat.reduceAdd, Nat.reduceSub, List.replicate]
    repeat' (first | refine go1 ?_ | refine blockK_else rfl ?_ | ((first | refine wpC_cond fun A B hA hB => ?_ | refine wpO_consD fun A B hA hB => ?_); simp only [go_sem, reduceIte, Nat.reduceAdd, Nat.reduceEqDiff, Nat.reduceLT, Nat.reduceLeDiff, *, and_self, c1, c2, c3, c4, s1, su, q1, q2, b1]; (first | apply hA.out | apply hB.out | (refine iteI (fun h => ?_) (fun h => ?_) <;> first | apply hA.out | apply hB.out)) <;> clear hA hB A B))
    simp only [resultsR, resultsL, resultA, expK_int, expK_bool, expK_str, expK_agg, expK_own, expK_tsl, resK_some, go_sem, reduceIte, Nat.reduceAdd, Nat.reduceEqDiff, Nat.reduceLT, Nat.reduceLeDiff, and_self, ]
  subst k1
  rw [if_pos rfl] at hE
  by_cases k1 : e3 = 0
  rotate_left
  · rw [if_neg k1] at hE
    have b1 : (e3 == 0) = false := beq_false_of_ne k1
    rw [hE]
    clear hE k1
    refine EvV.walk rfl fn16 rfl nt16 rfl ?_
    simp only [List.length_cons, List.length_nil, List.cons_append, List.nil_append, Nat.reduceAdd, Nat.reduceSub, List.replicate]
    repeat' (first | refine go1 ?_ | refine blockK_else rfl ?_ | ((first | refine wpC_cond fun A B hA hB => ?_ | refine wpO_consD fun A B hA hB => ?_); simp only [go_sem, reduceIte, Nat.reduceAdd, Nat.reduceEqDiff, Nat.reduceLT, Nat.reduceLeDiff, *, and_self, c1, c2, c3, c4, s1, s2, su, q1, q2, q3, b1, List.getElem?_cons_succ]; (first | apply hA.out | apply hB.out | (refine iteI (fun h => ?_) (fun h => ?_) <;> first | apply hA.out | apply hB.out)) <;> clear hA hB A B))
    simp only [resultsR, resultsL, resultA, expK_int, expK_bool, expK_str, expK_agg, expK_own, expK_tsl, resK_some, go_sem, reduceIte, Nat.reduceAdd, Nat.reduceEqDiff, Nat.reduceLT, Nat.reduceLeDiff, and_self, ]
  subst k1
  rw [if_pos rfl] at hE
  by_cases k1 : e4 = 0
  rotate_left
  · rw [if_neg k1] at hE
    have b1 : (e4 == 0) = false := beq_false_of_ne k1
    rw [hE]
    clear hE k1
    refine EvV.walk rfl fn16 rfl nt16 rfl ?_
    simp only [List.length_cons, List.length_nil, List.cons_append, List.nil_append, Nat.reduceAdd, Nat.reduceSub, List.replicate]
    repeat' (first | refine go1 ?_ | refine blockK_else rfl ?_ | ((first | refine wpC_cond fun A B hA hB => ?_ | refine wpO_consD fun A B hA hB => ?_); simp only [go_sem, reduceIte, Nat.reduceAdd, Nat.reduceEqDiff, Nat.reduceLT, Nat.reduceLeDiff, *, and_self, c1, c2, c3, c4, s1, s2, s3, su, q1, q2, q3, q4, b1, List.getElem?_cons_succ]; (first | apply hA.out | apply hB.out | (refine iteI (fun h => ?_) (fun h => ?_) <;> first | apply hA.out | apply hB.out)) <;> clear hA hB A B))
    simp only [resultsR, resultsL, resultA, expK_int, expK_bool, expK_str, expK_agg, expK_own, expK_tsl, resK_some, go_sem, reduceIte, Nat.reduceAdd, Nat.reduceEqDiff, Nat.reduceLT, Nat.reduceLeDiff, and_self, ]
  subst k1
  rw [if_pos rfl] at hE
  by_cases k1 : 60 < (rs.length : Int)
  · rw [if_neg (by omega)] at hE
    rw [hE]
    clear hE
    refine EvV.walk rfl fn16 rfl nt16 rfl ?_
    simp only [List.length_cons, List.length_nil, List.cons_append, List.nil_append, Nat.reduceAdd, Nat.reduceSub, List.replicate]
    repeat' (first | refine go1 ?_ | refine blockK_else rfl ?_ | ((first | refine wpC_cond fun A B hA hB => ?_ | refine wpO_consD fun A B hA hB => ?_); simp only [go_sem, reduceIte, Nat.reduceAdd, Nat.reduceEqDiff, Nat.reduceLT, Nat.reduceLeDiff, *, and_self, c1, c2, c3, c4, s1, s2, s3, s4, su, q1, q2, q3, q4, lenK_sls h.r, List.length_map, List.getElem?_cons_succ]; (first | apply hA.out | apply hB.out | (refine iteI (fun h => ?_) (fun h => ?_) <;> first | apply hA.out | apply hB.out)) <;> clear hA hB A B))
    simp only [resultsR, resultsL, resultA, expK_int, expK_bool, expK_str, expK_agg, expK_own, expK_tsl, resK_some, go_sem, reduceIte, Nat.reduceAdd, Nat.reduceEqDiff, Nat.reduceLT, Nat.reduceLeDiff, and_self, ]
  rw [if_pos (by omega)] at hE
  have hhE : Hold (R = rulesF recs gs rs) := ⟨hE⟩
  clear hE
  refine EvV.walk rfl fn16 rfl nt16 rfl ?_
  simp only [List.length_cons, List.length_nil, List.cons_append, List.nil_append, Nat.reduceAdd, Nat.reduceSub, List.replicate]
  repeat' (first | refine go1 ?_ | refine blockK_else rfl ?_ | ((first | refine wpC_cond fun A B hA hB => ?_ | refine wpO_consD fun A B hA hB => ?_); simp only [go_sem, reduceIte, Nat.reduceAdd, Nat.reduceEqDiff, Nat.reduceLT, Nat.reduceLeDiff, *, and_self, c1, c2, c3, c4, s1, s2, s3, s4, su, q1, q2, q3, q4, lenK_sls h.r, List.length_map, List.getElem?_cons_succ]; (first | apply hA.out | apply hB.out | (refine iteI (fun h => ?_) (fun h => ?_) <;> first | apply hA.out | apply hB.out)) <;> clear hA hB A B))
  clear k1
  refine wpC_each [4, 5, 6, 44, 45, 46, 47, 48, 49, 50, 51, 52, 53, 54, 55, 56, 57] 43 rs (fun _ post => rulesF recs gs rs = rulesF recs gs post) ?_ ?_ ?_ ?_
  · rfl
  · rfl
  · intro g G hA
    have e : R = 0 := by rw [hhE.out, hA]; rfl
    rw [e]
    clear e hA hhE
    simp only [garbA_cons, garbA_nil, setL_cons, setL_nil, List.set_cons_zero, List.set_cons_succ]
    repeat' (first | refine go1 ?_ | refine blockK_else rfl ?_ | ((first | refine wpC_cond fun A B hA hB => ?_ | refine wpO_consD fun A B hA hB => ?_); simp only [go_sem, reduceIte, Nat.reduceAdd, Nat.reduceEqDiff, Nat.reduceLT, Nat.reduceLeDiff, *, and_self, Int.lt_irrefl]; (first | apply hA.out | apply hB.out | (refine iteI (fun h => ?_) (fun h => ?_) <;> first | apply hA.out | apply hB.out)) <;> clear hA hB A B))
    simp only [resultsR, resultsL, resultA, expK_int, expK_bool, expK_str, expK_agg, expK_own, expK_tsl, resK_some, go_sem, reduceIte, Nat.reduceAdd, Nat.reduceEqDiff, Nat.reduceLT, Nat.reduceLeDiff, and_self, ]
  intro g G pre x post h1 hA
  have hpl : pre.length < rs.length := by rw [h1]; simp
  have lt1 : (pre.length : Int) < (rs.length : Int) := by omega
  have w1 := wrap_succ (n := pre.length) (by omega)
  have i0 := idx_sls h.r (X := CX) ty26 ty58 rfl (n := pre.length) (row := encRu x) (k := .i64) (by rw [h1]; exact map_mid encRu pre x post)
  have hxm : x ∈ rs := by rw [h1]; simp
  have hx := h.ro x hxm
  have d1 := hx.sl.cell
  have t1 := hx.sl.snap
  have q5 := (ruleR h hu hok hl (by omega) x hx (by have := f7 x hxm; omega)).rw
  have hh1 : Hold (rs = pre ++ x :: post) := ⟨h1⟩
  have hhA : Hold (rulesF recs gs rs = rulesF recs gs (x :: post)) := ⟨hA⟩
  clear h1 hpl hA hxm
  obtain ⟨e, he⟩ : ∃ e, ruleF recs gs x = e := ⟨_, rfl⟩
  rw [he] at q5
  have hhe : Hold (ruleF recs gs x = e) := ⟨he⟩
  clear he
  simp only [encRu] at i0 q5
  by_cases k2 : e = 0
  · subst k2
    simp only [garbA_cons, garbA_nil, setL_cons, setL_nil, List.set_cons_zero, List.set_cons_succ]
    repeat' (first | refine go1 ?_ | refine blockK_else rfl ?_ | ((first | refine wpC_cond fun A B hA hB => ?_ | refine wpO_consD fun A B hA hB => ?_); simp only [go_sem, reduceIte, Nat.reduceAdd, Nat.reduceEqDiff, Nat.reduceLT, Nat.reduceLeDiff, *, and_self, lt1, w1, i0, c1, c2, c3, c4, d1, t1, s1, s2, s3, s4, su, q5, lenK_sls h.r, List.length_map, List.getElem?_cons_succ]; (first | apply hA.out | apply hB.out | (refine iteI (fun h => ?_) (fun h => ?_) <;> first | apply hA.out | apply hB.out)) <;> clear hA hB A B))
    refine each_next hh1.out ?_ ?_ ?_
    · rw [hhA.out, rulesF, if_pos hhe.out]
    · ((try simp only [eraseA_cons, eraseA_nil, setL_cons, setL_nil, List.set_cons_zero, List.set_cons_succ]); all_goals (first | rfl | (simp only [len_snoc, ints_len, List.length_map, ]; done) | (simp only [len_snoc, len_mid, ints_len, List.length_map, List.length_append, List.length_cons, List.length_nil, Nat.zero_add, ]; first | done | rfl)))
    · first | exact ⟨[], (List.append_nil _).symm⟩ | exact ⟨_, rfl⟩ | (simp only [List.append_assoc, List.cons_append, List.nil_append]; exact ⟨_, rfl⟩)
  · have b1 : (e == 0) = false := beq_false_of_ne k2
    have eR : R = e := by rw [hhE.out, hhA.out, rulesF, hhe.out, if_neg k2]
    rw [eR]
    clear eR hhA hhe hhE k2
    simp only [garbA_cons, garbA_nil, setL_cons, setL_nil, List.set_cons_zero, List.set_cons_succ]
    repeat' (first | refine go1 ?_ | refine blockK_else rfl ?_ | ((first | refine wpC_cond fun A B hA hB => ?_ | refine wpO_consD fun A B hA hB => ?_); simp only [go_sem, reduceIte, Nat.reduceAdd, Nat.reduceEqDiff, Nat.reduceLT, Nat.reduceLeDiff, *, and_self, lt1, w1, i0, c1, c2, c3, c4, d1, t1, s1, s2, s3, s4, su, q5, b1, lenK_sls h.r, List.length_map, List.getElem?_cons_succ]; (first | apply hA.out | apply hB.out | (refine iteI (fun h => ?_) (fun h => ?_) <;> first | apply hA.out | apply hB.out)) <;> clear hA hB A B))
    simp only [resultsR, resultsL, resultA, expK_int, expK_bool, expK_str, expK_agg, expK_own, expK_tsl, resK_some, go_sem, reduceIte, Nat.reduceAdd, Nat.reduceEqDiff, Nat.reduceLT, Nat.reduceLeDiff, and_self, ]

/-- What right is. -/
noncomputable def rightC (ps : List Psn) (gs : List Grp) (cs : List Con) (rs : List Ru) (r : Rec) : Bool :=
  fewRt ps gs cs rs && (decide (r.name.size ≤ 100) && (decide (r.sp.length ≤ 50) && (decide (chkRt ps [] gs cs rs = 0) && decide (chkC ps r = 0))))
theorem rightE45 {pv gv cv rv : AV} {ps : List Psn} {gs : List Grp} {cs : List Con} {rs : List Ru} (h : RtV pv gv cv rv ps gs cs rs) (r : Rec) (hr : r.ok) (vp vd : Int) :
    EvV CX 17 [.agg [pv, gv, cv, rv, .int .i64 r.id, .str r.name, .int .i64 r.len, .int .i64 r.day, r.sv, .int .i64 vp, .int .i64 vd]] (· = .bool (rightC ps gs cs rs r)) := by
  have c1 := h.p.cell
  have c2 := h.g.cell
  have c3 := h.c.cell
  have c4 := h.r.cell
  have c5 := hr.sv.cell
  have s1 := h.p.snap
  have s2 := h.g.snap
  have s3 := h.c.snap
  have s4 := h.r.snap
  have s5 := hr.sv.snap
  have q1 := (fewR h).rw
  have hE : rightC ps gs cs rs r = (fewRt ps gs cs rs && (decide (r.name.size ≤ 100) && (decide (r.sp.length ≤ 50) && (decide (chkRt ps [] gs cs rs = 0) && decide (chkC ps r = 0))))) := rfl
  cases k1 : fewRt ps gs cs rs with
  | false =>
    rw [k1] at hE q1
    rw [hE]
    clear hE k1
    refine EvV.walk rfl fn17 rfl nt17 rfl ?_
    simp only [List.length_cons, List.length_nil, List.cons_append, List.nil_append, Nat.reduceAdd, Nat.reduceSub, List.replicate]
    repeat' (first | refine go1 ?_ | refine blockK_else rfl ?_ | ((first | refine wpC_cond fun A B hA hB => ?_ | refine wpO_consD fun A B hA hB => ?_); simp only [go_sem, reduceIte, Nat.reduceAdd, Nat.reduceEqDiff, Nat.reduceLT, Nat.reduceLeDiff, *, and_self, c1, c2, c3, c4, c5, s1, s2, s3, s4, s5, q1]; (first | apply hA.out | apply hB.out | (refine iteI (fun h => ?_) (fun h => ?_) <;> first | apply hA.out | apply hB.out)) <;> clear hA hB A B))
    simp only [resultsR, resultsL, resultA, expK_int, expK_bool, expK_str, expK_agg, expK_own, expK_tsl, resK_some, go_sem, reduceIte, Nat.reduceAdd, Nat.reduceEqDiff, Nat.reduceLT, Nat.reduceLeDiff, and_self, ]
  | true =>
    have q2 := (chkR45 (u := .flat (.slice none 0 0)) (recs := []) h (.nil rfl) (fun r hr => by cases hr) (by simp) k1 (recsNil h.p)).rw
    have fo := few_out k1
    rw [k1, Bool.true_and] at hE
    rw [k1] at q1
    clear k1
    by_cases k2 : 100 < (r.name.size : Int)
    · rw [decide_eq_false (show ¬ r.name.size ≤ 100 by omega), Bool.false_and] at hE
      rw [hE]
      clear hE q2 fo
      refine EvV.walk rfl fn17 rfl nt17 rfl ?_
      simp only [List.length_cons, List.length_nil, List.cons_append, List.nil_append, Nat.reduceAdd, Nat.reduceSub, List.replicate]
      repeat' (first | refine go1 ?_ | refine blockK_else rfl ?_ | ((first | refine wpC_cond fun A B hA hB => ?_ | refine wpO_consD fun A B hA hB => ?_); simp only [go_sem, reduceIte, Nat.reduceAdd, Nat.reduceEqDiff, Nat.reduceLT, Nat.reduceLeDiff, *, and_self, c1, c2, c3, c4, c5, s1, s2, s3, s4, s5, q1, lenK_str, List.getElem?_cons_succ]; (first | apply hA.out | apply hB.out | (refine iteI (fun h => ?_) (fun h => ?_) <;> first | apply hA.out | apply hB.out)) <;> clear hA hB A B))
      simp only [resultsR, resultsL, resultA, expK_int, expK_bool, expK_str, expK_agg, expK_own, expK_tsl, resK_some, go_sem, reduceIte, Nat.reduceAdd, Nat.reduceEqDiff, Nat.reduceLT, Nat.reduceLeDiff, and_self, ]
    by_cases k3 : 50 < (r.sp.length : Int)
    · rw [decide_eq_false (show ¬ r.sp.length ≤ 50 by omega), Bool.false_and, Bool.and_false] at hE
      rw [hE]
      clear hE q2 fo
      refine EvV.walk rfl fn17 rfl nt17 rfl ?_
      simp only [List.length_cons, List.length_nil, List.cons_append, List.nil_append, Nat.reduceAdd, Nat.reduceSub, List.replicate]
      repeat' (first | refine go1 ?_ | refine blockK_else rfl ?_ | ((first | refine wpC_cond fun A B hA hB => ?_ | refine wpO_consD fun A B hA hB => ?_); simp only [go_sem, reduceIte, Nat.reduceAdd, Nat.reduceEqDiff, Nat.reduceLT, Nat.reduceLeDiff, *, and_self, c1, c2, c3, c4, c5, s1, s2, s3, s4, s5, q1, lenK_str, lenK_sls hr.sv, ints_len, List.getElem?_cons_succ]; (first | apply hA.out | apply hB.out | (refine iteI (fun h => ?_) (fun h => ?_) <;> first | apply hA.out | apply hB.out)) <;> clear hA hB A B))
      simp only [resultsR, resultsL, resultA, expK_int, expK_bool, expK_str, expK_agg, expK_own, expK_tsl, resK_some, go_sem, reduceIte, Nat.reduceAdd, Nat.reduceEqDiff, Nat.reduceLT, Nat.reduceLeDiff, and_self, ]
    rw [decide_eq_true (show r.name.size ≤ 100 by omega), decide_eq_true (show r.sp.length ≤ 50 by omega), Bool.true_and, Bool.true_and] at hE
    have q3 := (checkRr h.p (by omega) hr (by omega) (by omega)).rw
    simp only [encRc] at q3
    rw [hE]
    clear hE fo
    generalize chkRt ps [] gs cs rs = e1 at *
    generalize chkC ps r = e2 at *
    by_cases k4 : e1 = 0
    · subst k4
      have b1 : decide ((0 : Int) = 0) = true := rfl
      rw [b1, Bool.true_and]
      clear b1
      have b2 : (e2 == 0) = decide (e2 = 0) := by rw [Bool.eq_iff_iff]; simp
      refine EvV.walk rfl fn17 rfl nt17 rfl ?_
      simp only [List.length_cons, List.length_nil, List.cons_append, List.nil_append, Nat.reduceAdd, Nat.reduceSub, List.replicate]
      repeat' (first | refine go1 ?_ | refine blockK_else rfl ?_ | ((first | refine wpC_cond fun A B hA hB => ?_ | refine wpO_consD fun A B hA hB => ?_); simp only [go_sem, reduceIte, Nat.reduceAdd, Nat.reduceEqDiff, Nat.reduceLT, Nat.reduceLeDiff, *, and_self, c1, c2, c3, c4, c5, s1, s2, s3, s4, s5, q1, q2, q3, lenK_str, lenK_sls hr.sv, ints_len, List.getElem?_cons_succ]; (first | apply hA.out | apply hB.out | (refine iteI (fun h => ?_) (fun h => ?_) <;> first | apply hA.out | apply hB.out)) <;> clear hA hB A B))
      simp only [resultsR, resultsL, resultA, expK_int, expK_bool, expK_str, expK_agg, expK_own, expK_tsl, resK_some, go_sem, reduceIte, Nat.reduceAdd, Nat.reduceEqDiff, Nat.reduceLT, Nat.reduceLeDiff, and_self, ]
    · have b1 : (e1 == 0) = false := beq_false_of_ne k4
      rw [decide_eq_false k4, Bool.false_and]
      clear k4
      refine EvV.walk rfl fn17 rfl nt17 rfl ?_
      simp only [List.length_cons, List.length_nil, List.cons_append, List.nil_append, Nat.reduceAdd, Nat.reduceSub, List.replicate]
      repeat' (first | refine go1 ?_ | refine blockK_else rfl ?_ | ((first | refine wpC_cond fun A B hA hB => ?_ | refine wpO_consD fun A B hA hB => ?_); simp only [go_sem, reduceIte, Nat.reduceAdd, Nat.reduceEqDiff, Nat.reduceLT, Nat.reduceLeDiff, *, and_self, c1, c2, c3, c4, c5, s1, s2, s3, s4, s5, q1, q2, q3, b1, lenK_str, lenK_sls hr.sv, ints_len, List.getElem?_cons_succ]; (first | apply hA.out | apply hB.out | (refine iteI (fun h => ?_) (fun h => ?_) <;> first | apply hA.out | apply hB.out)) <;> clear hA hB A B))
      simp only [resultsR, resultsL, resultA, expK_int, expK_bool, expK_str, expK_agg, expK_own, expK_tsl, resK_some, go_sem, reduceIte, Nat.reduceAdd, Nat.reduceEqDiff, Nat.reduceLT, Nat.reduceLeDiff, and_self, ]

/- Rights: Base, as the program and the reference tell it. -/
open Go.Proofs
attribute [local go_sem] ty75 br66 allocK fz10 ty77 br75 br76 fz12 fz13 br42 fz1 br43 br44 fz158 fz159
set_option maxHeartbeats 4000000

/- Rights: the law Base. -/
open Go.Proofs
attribute [local go_sem] br13 br17 br18 br19 fz93 fz94 fz95
set_option maxHeartbeats 4000000

theorem right_out {ps : List Psn} {gs : List Grp} {cs : List Con} {rs : List Ru} {r : Rec} (h : rightC ps gs cs rs r = true) : fewRt ps gs cs rs = true ∧ r.name.size ≤ 100 ∧ r.sp.length ≤ 50 ∧ chkRt ps [] gs cs rs = 0 ∧ chkC ps r = 0 := by
  simp only [rightC, Bool.and_eq_true, decide_eq_true_eq] at h
  exact ⟨h.1, h.2.1, h.2.2.1, h.2.2.2.1, h.2.2.2.2⟩

/- Rights: Days, as the program and the reference tell them; the law Days. -/
open Go.Proofs
attribute [local go_sem] br51 br52 List.replicate Nat.one_mul Nat.reduceMul Nat.zero_mul appK bslA fz6 fz7 fz8 fz9 lenK_esl lenK_nils lenK_sl lenK_tsl nilsK rowsFill rowsOf_esl rowsOf_nils rowsOf_sl rowsOf_tsl br53 br54 fz130 fz131 fz133 br25 br26 br27 fz102 fz103 fz104
set_option maxHeartbeats 4000000

def dayC (r : Rec) (c : Con) : Bool := r.sp.contains c.person && ((c.rc == 0) || (c.rc == r.id))
def dayU (r : Rec) (x : Ru) : Bool := (x.rc == r.id) && !(x.un == 0)
def dC (r : Rec) (cs : List Con) : List Int := (cs.filter (dayC r)).map Con.day
def dU (r : Rec) (rs : List Ru) : List Int := (rs.filter (dayU r)).map Ru.un
theorem dC_snoc (r : Rec) (cs : List Con) (c : Con) : dC r (cs ++ [c]) = dC r cs ++ if dayC r c = true then [c.day] else [] := by
  unfold dC
  rw [List.filter_append, List.map_append, List.filter_cons]
  split <;> simp
theorem dU_snoc (r : Rec) (rs : List Ru) (x : Ru) : dU r (rs ++ [x]) = dU r rs ++ if dayU r x = true then [x.un] else [] := by
  unfold dU
  rw [List.filter_append, List.map_append, List.filter_cons]
  split <;> simp
theorem dC_len (r : Rec) (cs : List Con) : (dC r cs).length ≤ cs.length := by
  unfold dC; rw [List.length_map]; exact List.length_filter_le _ _
theorem dU_len (r : Rec) (rs : List Ru) : (dU r rs).length ≤ rs.length := by
  unfold dU; rw [List.length_map]; exact List.length_filter_le _ _

theorem daysM {pv gv cv rv : AV} {ps : List Psn} {gs : List Grp} {cs : List Con} {rs : List Ru} (h : RtV pv gv cv rv ps gs cs rs) (hcl : cs.length ≤ 1000) (hrl : rs.length ≤ 1000) (r : Rec) (hr : r.ok) (hsl : r.sp.length ≤ 1000) :
    ∃ o, OutI (sorted (dC r cs ++ dU r rs)) o ∧ EvV CX 26 [.agg [pv, gv, cv, rv], .agg [.int .i64 r.id, .str r.name, .int .i64 r.len, .int .i64 r.day, r.sv]] (· = o) := by
  suffices hs : EvV CX 26 [.agg [pv, gv, cv, rv], .agg [.int .i64 r.id, .str r.name, .int .i64 r.len, .int .i64 r.day, r.sv]] (OutI (sorted (dC r cs ++ dU r rs))) by
    exact hs.ex
  have c1 := h.p.cell
  have c2 := h.g.cell
  have c3 := h.c.cell
  have c4 := h.r.cell
  have c5 := hr.sv.cell
  have s1 := h.p.snap
  have s2 := h.g.snap
  have s3 := h.c.snap
  have s4 := h.r.snap
  have s5 := hr.sv.snap
  refine EvV.walk rfl fn26 rfl nt26 rfl ?_
  simp only [List.length_cons, List.length_nil, List.cons_append, List.nil_append, Nat.reduceAdd, Nat.reduceSub, List.replicate]
  repeat' (first | refine go1 ?_ | refine blockK_else rfl ?_ | ((first | refine wpC_cond fun A B hA hB => ?_ | refine wpO_consD fun A B hA hB => ?_); simp only [go_sem, reduceIte, Nat.reduceAdd, Nat.reduceEqDiff, Nat.reduceLT, Nat.reduceLeDiff, *, wpK_append ty29 rfl, wpK_assignN ty29 rfl, wpK_buildSlice ty29 rfl, c1, c2, c3, c4, c5, lenK_sls h.c, List.length_map, List.getElem?_cons_succ]; (first | apply hA.out | apply hB.out | (refine iteI (fun h => ?_) (fun h => ?_) <;> first | apply hA.out | apply hB.out)) <;> clear hA hB A B))
  obtain ⟨st, hst⟩ : ∃ st, (pv.stab && (gv.stab && (cv.stab && rv.stab))) = st := ⟨_, rfl⟩
  rw [hst]
  clear hst
  refine wpC_loopF [7, 14, 15, 16, 17, 18, 19, 20, 21, 22, 23, 24, 25, 26, 27, 28, 29, 30, 31, 32, 33, 34, 35, 36, 37, 38] (fun p : List Con × List Con => [(5, .sl 3 (dC r p.1).length 0 (dC r p.1).length 1), (13, .int .i64 p.1.length)]) (fun p G => .arr [[pv, gv, cv, rv]] 4 0 st :: .arr [[.int .i64 r.id, .str r.name, .int .i64 r.len, .int .i64 r.day, r.sv]] 5 0 r.sv.stab :: .arr [] 1 0 true :: .arr (ints (dC r p.1)) 1 0 true :: G)
    (fun p => cs = p.1 ++ p.2) (fun p => p.2.length) ([], cs) rfl ?_ ⟨[], rfl⟩ ?_
  · rfl
  rintro ⟨pre, post⟩ g G h1
  simp only at h1
  cases post with
  | cons x post =>
    have hpl : pre.length < cs.length := by rw [h1]; simp
    have hdl := dC_len r pre
    have lt1 : (pre.length : Int) < (cs.length : Int) := by omega
    have w1 := wrap_succ (n := pre.length) (by omega)
    have i0 := idx_sls h.c (X := CX) ty25 ty53 rfl (n := pre.length) (row := encCn x) (k := .i64) (by rw [h1]; exact map_mid encCn pre x post)
    have q := (speaksM r x.person hr (by omega)).rw
    simp only [encRc] at q
    have hh1 : Hold (cs = (pre ++ [x]) ++ post) := ⟨by rw [h1]; simp⟩
    have hs := dC_snoc r pre x
    have hd : dayC r x = (r.sp.contains x.person && ((x.rc == 0) || (x.rc == r.id))) := rfl
    obtain ⟨b5, b6⟩ := app1 (n := (dC r pre).length) (by omega)
    clear h1 hpl hdl
    generalize r.sp.contains x.person = B at *
    have ways : (dayC r x = false ∧ (B = false ∨ (B = true ∧ (x.rc == 0) = false ∧ (x.rc == r.id) = false))) ∨ (dayC r x = true ∧ B = true ∧ ((x.rc == 0) = true ∨ ((x.rc == 0) = false ∧ (x.rc == r.id) = true))) := by
      rw [hd]
      cases B <;> cases (x.rc == 0) <;> cases (x.rc == r.id) <;> simp
    clear hd
    rcases ways with ⟨k, hw⟩ | ⟨k, rfl, hw⟩
    · rw [k, if_neg (by simp), List.append_nil] at hs
      have hh2 : Hold (dC r (pre ++ [x]) = dC r pre) := ⟨hs⟩
      clear hs k
      generalize dC r pre = L at *
      rcases hw with rfl | ⟨rfl, b1, b2⟩
      all_goals
        simp only [garbA_cons, garbA_nil, setL_cons, setL_nil, List.set_cons_zero, List.set_cons_succ]
        repeat' (first | refine go1 ?_ | refine blockK_else rfl ?_ | ((first | refine wpC_cond fun A B hA hB => ?_ | refine wpO_consD fun A B hA hB => ?_); simp only [go_sem, reduceIte, Nat.reduceAdd, Nat.reduceEqDiff, Nat.reduceLT, Nat.reduceLeDiff, *, wpK_append ty29 rfl, wpK_assignN ty29 rfl, wpK_buildSlice ty29 rfl, lt1, w1, i0, encCn, c1, c2, c3, c4, c5, s1, s2, s3, s4, s5, q, set_lenAdd, List.set_cons_succ, List.set_cons_zero, List.getElem?_cons_succ, Nat.zero_le, getElem?_len, getElem?_lenAdd, set_len, List.append_assoc, List.length_append, List.cons_append, ints_len, snap_sl, rowsOf_sl, ints_len, ints_take, List.take_length, Nat.zero_le, Nat.zero_add, Bool.true_or]; (first | apply hA.out | apply hB.out | (refine iteI (fun h => ?_) (fun h => ?_) <;> first | apply hA.out | apply hB.out)) <;> clear hA hB A B))
        refine loopF_next (pre ++ [x], post) (Nat.lt_succ_self _) hh1.out ?_ ?_
        · ((try simp only [eraseA_cons, eraseA_nil, setL_cons, setL_nil, List.set_cons_zero, List.set_cons_succ]); all_goals (first | rfl | (simp only [len_snoc, ints_len, List.length_map, hh2.out]; done) | (simp only [len_snoc, len_mid, ints_len, List.length_map, List.length_append, List.length_cons, List.length_nil, Nat.zero_add, hh2.out]; first | done | rfl)))
        · simp only [hh2.out]; exact ⟨_, rfl⟩
    · rw [k, if_pos rfl] at hs
      have hh2 : Hold (dC r (pre ++ [x]) = dC r pre ++ [x.day]) := ⟨hs⟩
      clear hs k
      generalize dC r pre = L at *
      have hi : ints L ++ [[.int .i64 x.day]] = ints (L ++ [x.day]) := by rw [ints_append]; rfl
      rcases hw with b1 | ⟨b1, b2⟩
      all_goals
        simp only [garbA_cons, garbA_nil, setL_cons, setL_nil, List.set_cons_zero, List.set_cons_succ]
        repeat' (first | refine go1 ?_ | refine blockK_else rfl ?_ | ((first | refine wpC_cond fun A B hA hB => ?_ | refine wpO_consD fun A B hA hB => ?_); simp only [go_sem, reduceIte, Nat.reduceAdd, Nat.reduceEqDiff, Nat.reduceLT, Nat.reduceLeDiff, *, wpK_append ty29 rfl, wpK_assignN ty29 rfl, wpK_buildSlice ty29 rfl, lt1, w1, i0, encCn, c1, c2, c3, c4, c5, s1, s2, s3, s4, s5, q, b1, b5, b6, hi, set_lenAdd, List.set_cons_succ, List.set_cons_zero, List.getElem?_cons_succ, Nat.zero_le, getElem?_len, getElem?_lenAdd, set_len, List.append_assoc, List.length_append, List.cons_append, ints_len, snap_sl, rowsOf_sl, ints_len, ints_take, List.take_length, Nat.zero_le, Nat.zero_add, Bool.true_or]; (first | apply hA.out | apply hB.out | (refine iteI (fun h => ?_) (fun h => ?_) <;> first | apply hA.out | apply hB.out)) <;> clear hA hB A B))
        refine loopF_next (pre ++ [x], post) (Nat.lt_succ_self _) hh1.out ?_ ?_
        · ((try simp only [eraseA_cons, eraseA_nil, setL_cons, setL_nil, List.set_cons_zero, List.set_cons_succ]); all_goals (first | rfl | (simp only [len_snoc, ints_len, List.length_map, hh2.out]; done) | (simp only [len_snoc, len_mid, ints_len, List.length_map, List.length_append, List.length_cons, List.length_nil, Nat.zero_add, hh2.out]; first | done | rfl)))
        · simp only [hh2.out]; exact ⟨_, rfl⟩
  | nil =>
    rw [List.append_nil] at h1
    subst h1
    have hdl := dC_len r cs
    have hhl : Hold ((dC r cs).length ≤ cs.length) := ⟨hdl⟩
    clear hdl
    generalize dC r cs = C at *
    simp only [garbA_cons, garbA_nil, setL_cons, setL_nil, List.set_cons_zero, List.set_cons_succ]
    repeat' (first | refine go1 ?_ | refine blockK_else rfl ?_ | ((first | refine wpC_cond fun A B hA hB => ?_ | refine wpO_consD fun A B hA hB => ?_); simp only [go_sem, reduceIte, Nat.reduceAdd, Nat.reduceEqDiff, Nat.reduceLT, Nat.reduceLeDiff, *, wpK_append ty29 rfl, wpK_assignN ty29 rfl, wpK_buildSlice ty29 rfl, Int.lt_irrefl, c1, c2, c3, c4, c5, lenK_sls h.r, List.length_map, set_lenAdd, List.set_cons_succ, List.set_cons_zero, List.getElem?_cons_succ, Nat.zero_le, getElem?_len, getElem?_lenAdd, set_len, List.append_assoc, List.length_append, List.cons_append, ints_len, snap_sl, rowsOf_sl, ints_len, ints_take, List.take_length, Nat.zero_le, Nat.zero_add, Bool.true_or]; (first | apply hA.out | apply hB.out | (refine iteI (fun h => ?_) (fun h => ?_) <;> first | apply hA.out | apply hB.out)) <;> clear hA hB A B))
    refine wpC_loopF [9, 43, 44, 45, 46, 47, 48, 49, 50, 51, 52, 53, 54, 55, 56, 57, 58, 59, 60, 61, 62, 63] (fun p : List Ru × List Ru => [(5, .sl 3 (C ++ dU r p.1).length 0 (C ++ dU r p.1).length 1), (42, .int .i64 p.1.length)]) (fun p G => .arr [[pv, gv, cv, rv]] 4 0 st :: .arr [[.int .i64 r.id, .str r.name, .int .i64 r.len, .int .i64 r.day, r.sv]] 5 0 r.sv.stab :: .arr [] 1 0 true :: .arr (ints (C ++ dU r p.1)) 1 0 true :: G)
      (fun p => rs = p.1 ++ p.2) (fun p => p.2.length) ([], rs) rfl ?_ ⟨G, ?_⟩ ?_
    · have e0 : C ++ dU r [] = C := List.append_nil C
      ((try simp only [eraseA_cons, eraseA_nil, setL_cons, setL_nil, List.set_cons_zero, List.set_cons_succ]); all_goals (first | rfl | (simp only [len_snoc, ints_len, List.length_map, e0]; done) | (simp only [len_snoc, len_mid, ints_len, List.length_map, List.length_append, List.length_cons, List.length_nil, Nat.zero_add, e0]; first | done | rfl)))
    · have e0 : C ++ dU r [] = C := List.append_nil C
      simp only [e0]
    rintro ⟨pre, post⟩ g2 G2 h1
    simp only at h1
    cases post with
    | cons x post =>
      have hpl : pre.length < rs.length := by rw [h1]; simp
      have hdl := dU_len r pre
      have lt1 : (pre.length : Int) < (rs.length : Int) := by omega
      have w1 := wrap_succ (n := pre.length) (by omega)
      have i0 := idx_sls h.r (X := CX) ty26 ty58 rfl (n := pre.length) (row := encRu x) (k := .i64) (by rw [h1]; exact map_mid encRu pre x post)
      have hx := h.ro x (by rw [h1]; simp)
      have d1 := hx.sl.cell
      have hh1 : Hold (rs = (pre ++ [x]) ++ post) := ⟨by rw [h1]; simp⟩
      have hs : C ++ dU r (pre ++ [x]) = (C ++ dU r pre) ++ if dayU r x = true then [x.un] else [] := by rw [dU_snoc, List.append_assoc]
      have hd : dayU r x = ((x.rc == r.id) && !(x.un == 0)) := rfl
      obtain ⟨b5, b6⟩ := app1 (n := (C ++ dU r pre).length) (by have := hhl.out; rw [List.length_append]; omega)
      have ways : (dayU r x = false ∧ ((x.rc == r.id) = false ∨ ((x.rc == r.id) = true ∧ (x.un == 0) = true))) ∨ (dayU r x = true ∧ (x.rc == r.id) = true ∧ (x.un == 0) = false) := by
        rw [hd]
        cases (x.rc == r.id) <;> cases (x.un == 0) <;> simp
      clear h1 hpl hdl hd
      rcases ways with ⟨k, hw⟩ | ⟨k, b1, b2⟩
      · rw [k, if_neg (by simp), List.append_nil] at hs
        have hh2 : Hold (C ++ dU r (pre ++ [x]) = C ++ dU r pre) := ⟨hs⟩
        clear hs k
        generalize C ++ dU r pre = L at *
        rcases hw with b1 | ⟨b1, b2⟩
        all_goals
          simp only [garbA_cons, garbA_nil, setL_cons, setL_nil, List.set_cons_zero, List.set_cons_succ]
          repeat' (first | refine go1 ?_ | refine blockK_else rfl ?_ | ((first | refine wpC_cond fun A B hA hB => ?_ | refine wpO_consD fun A B hA hB => ?_); simp only [go_sem, reduceIte, Nat.reduceAdd, Nat.reduceEqDiff, Nat.reduceLT, Nat.reduceLeDiff, *, wpK_append ty29 rfl, wpK_assignN ty29 rfl, wpK_buildSlice ty29 rfl, lt1, w1, i0, encRu, c1, c2, c3, c4, c5, d1, s1, s2, s3, s4, s5, b1, set_lenAdd, List.set_cons_succ, List.set_cons_zero, List.getElem?_cons_succ, Nat.zero_le, getElem?_len, getElem?_lenAdd, set_len, List.append_assoc, List.length_append, List.cons_append, ints_len, snap_sl, rowsOf_sl, ints_len, ints_take, List.take_length, Nat.zero_le, Nat.zero_add, Bool.true_or]; (first | apply hA.out | apply hB.out | (refine iteI (fun h => ?_) (fun h => ?_) <;> first | apply hA.out | apply hB.out)) <;> clear hA hB A B))
          refine loopF_next (pre ++ [x], post) (Nat.lt_succ_self _) hh1.out ?_ ?_
          · ((try simp only [eraseA_cons, eraseA_nil, setL_cons, setL_nil, List.set_cons_zero, List.set_cons_succ]); all_goals (first | rfl | (simp only [len_snoc, ints_len, List.length_map, hh2.out]; done) | (simp only [len_snoc, len_mid, ints_len, List.length_map, List.length_append, List.length_cons, List.length_nil, Nat.zero_add, hh2.out]; first | done | rfl)))
          · simp only [hh2.out]; exact ⟨_, rfl⟩
      · rw [k, if_pos rfl] at hs
        have hh2 : Hold (C ++ dU r (pre ++ [x]) = (C ++ dU r pre) ++ [x.un]) := ⟨hs⟩
        clear hs k
        generalize C ++ dU r pre = L at *
        have hi : ints L ++ [[.int .i64 x.un]] = ints (L ++ [x.un]) := by rw [ints_append]; rfl
        simp only [garbA_cons, garbA_nil, setL_cons, setL_nil, List.set_cons_zero, List.set_cons_succ]
        repeat' (first | refine go1 ?_ | refine blockK_else rfl ?_ | ((first | refine wpC_cond fun A B hA hB => ?_ | refine wpO_consD fun A B hA hB => ?_); simp only [go_sem, reduceIte, Nat.reduceAdd, Nat.reduceEqDiff, Nat.reduceLT, Nat.reduceLeDiff, *, wpK_append ty29 rfl, wpK_assignN ty29 rfl, wpK_buildSlice ty29 rfl, lt1, w1, i0, encRu, c1, c2, c3, c4, c5, d1, s1, s2, s3, s4, s5, b1, b2, b5, b6, hi, set_lenAdd, List.set_cons_succ, List.set_cons_zero, List.getElem?_cons_succ, Nat.zero_le, getElem?_len, getElem?_lenAdd, set_len, List.append_assoc, List.length_append, List.cons_append, ints_len, snap_sl, rowsOf_sl, ints_len, ints_take, List.take_length, Nat.zero_le, Nat.zero_add, Bool.true_or]; (first | apply hA.out | apply hB.out | (refine iteI (fun h => ?_) (fun h => ?_) <;> first | apply hA.out | apply hB.out)) <;> clear hA hB A B))
        refine loopF_next (pre ++ [x], post) (Nat.lt_succ_self _) hh1.out ?_ ?_
        · ((try simp only [eraseA_cons, eraseA_nil, setL_cons, setL_nil, List.set_cons_zero, List.set_cons_succ]); all_goals (first | rfl | (simp only [len_snoc, ints_len, List.length_map, hh2.out]; done) | (simp only [len_snoc, len_mid, ints_len, List.length_map, List.length_append, List.length_cons, List.length_nil, Nat.zero_add, hh2.out]; first | done | rfl)))
        · simp only [hh2.out]; exact ⟨_, rfl⟩
    | nil =>
      rw [List.append_nil] at h1
      subst h1
      have hdl := dU_len r rs
      have hll : (C ++ dU r rs).length ≤ 2000 := by have := hhl.out; rw [List.length_append]; omega
      clear hdl hhl
      generalize C ++ dU r rs = L at *
      have tL : (ints L).take L.length = ints L := by rw [← ints_len L]; exact List.take_length
      obtain ⟨o, ho, hq⟩ := sortedE (.tsl false 1 (ints L)) L (.rows false) (by omega)
      have q := hq.rw
      clear hq hll
      cases ho with
      | own =>
        simp only [garbA_cons, garbA_nil, setL_cons, setL_nil, List.set_cons_zero, List.set_cons_succ]
        repeat' (first | refine go1 ?_ | refine blockK_else rfl ?_ | ((first | refine wpC_cond fun A B hA hB => ?_ | refine wpO_consD fun A B hA hB => ?_); simp only [go_sem, reduceIte, Nat.reduceAdd, Nat.reduceEqDiff, Nat.reduceLT, Nat.reduceLeDiff, *, wpK_append ty29 rfl, wpK_assignN ty29 rfl, wpK_buildSlice ty29 rfl, Int.lt_irrefl, c1, c2, c3, c4, c5, q, tL, set_lenAdd, List.set_cons_succ, List.set_cons_zero, List.getElem?_cons_succ, Nat.zero_le, getElem?_len, getElem?_lenAdd, set_len, List.append_assoc, List.length_append, List.cons_append, ints_len, snap_sl, rowsOf_sl, ints_len, ints_take, List.take_length, Nat.zero_le, Nat.zero_add, Bool.true_or]; (first | apply hA.out | apply hB.out | (refine iteI (fun h => ?_) (fun h => ?_) <;> first | apply hA.out | apply hB.out)) <;> clear hA hB A B))
        simp only [resultsR, resultsL, resultA, expK_int, expK_bool, expK_str, expK_agg, expK_own, expK_tsl, resK_some, go_sem, reduceIte, Nat.reduceAdd, Nat.reduceEqDiff, Nat.reduceLT, Nat.reduceLeDiff, wpK_append ty29 rfl, wpK_assignN ty29 rfl, wpK_buildSlice ty29 rfl, set_lenAdd, List.set_cons_succ, List.set_cons_zero, List.getElem?_cons_succ, Nat.zero_le, getElem?_len, getElem?_lenAdd, set_len, List.append_assoc, List.length_append, List.cons_append, ints_len, snap_sl, rowsOf_sl, ints_len, ints_take, List.take_length, Nat.zero_le, Nat.zero_add, Bool.true_or]
        exact .own
      | part =>
        simp only [garbA_cons, garbA_nil, setL_cons, setL_nil, List.set_cons_zero, List.set_cons_succ]
        repeat' (first | refine go1 ?_ | refine blockK_else rfl ?_ | ((first | refine wpC_cond fun A B hA hB => ?_ | refine wpO_consD fun A B hA hB => ?_); simp only [go_sem, reduceIte, Nat.reduceAdd, Nat.reduceEqDiff, Nat.reduceLT, Nat.reduceLeDiff, *, wpK_append ty29 rfl, wpK_assignN ty29 rfl, wpK_buildSlice ty29 rfl, Int.lt_irrefl, c1, c2, c3, c4, c5, q, tL, set_lenAdd, List.set_cons_succ, List.set_cons_zero, List.getElem?_cons_succ, Nat.zero_le, getElem?_len, getElem?_lenAdd, set_len, List.append_assoc, List.length_append, List.cons_append, ints_len, snap_sl, rowsOf_sl, ints_len, ints_take, List.take_length, Nat.zero_le, Nat.zero_add, Bool.true_or]; (first | apply hA.out | apply hB.out | (refine iteI (fun h => ?_) (fun h => ?_) <;> first | apply hA.out | apply hB.out)) <;> clear hA hB A B))
        simp only [resultsR, resultsL, resultA, expK_int, expK_bool, expK_str, expK_agg, expK_own, expK_tsl, resK_some, go_sem, reduceIte, Nat.reduceAdd, Nat.reduceEqDiff, Nat.reduceLT, Nat.reduceLeDiff, wpK_append ty29 rfl, wpK_assignN ty29 rfl, wpK_buildSlice ty29 rfl, set_lenAdd, List.set_cons_succ, List.set_cons_zero, List.getElem?_cons_succ, Nat.zero_le, getElem?_len, getElem?_lenAdd, set_len, List.append_assoc, List.length_append, List.cons_append, ints_len, snap_sl, rowsOf_sl, ints_len, ints_take, List.take_length, Nat.zero_le, Nat.zero_add, Bool.true_or]
        exact .part
      | nil hl =>
        simp only [garbA_cons, garbA_nil, setL_cons, setL_nil, List.set_cons_zero, List.set_cons_succ]
        repeat' (first | refine go1 ?_ | refine blockK_else rfl ?_ | ((first | refine wpC_cond fun A B hA hB => ?_ | refine wpO_consD fun A B hA hB => ?_); simp only [go_sem, reduceIte, Nat.reduceAdd, Nat.reduceEqDiff, Nat.reduceLT, Nat.reduceLeDiff, *, wpK_append ty29 rfl, wpK_assignN ty29 rfl, wpK_buildSlice ty29 rfl, Int.lt_irrefl, c1, c2, c3, c4, c5, q, tL, adopt_nils, set_lenAdd, List.set_cons_succ, List.set_cons_zero, List.getElem?_cons_succ, Nat.zero_le, getElem?_len, getElem?_lenAdd, set_len, List.append_assoc, List.length_append, List.cons_append, ints_len, snap_sl, rowsOf_sl, ints_len, ints_take, List.take_length, Nat.zero_le, Nat.zero_add, Bool.true_or]; (first | apply hA.out | apply hB.out | (refine iteI (fun h => ?_) (fun h => ?_) <;> first | apply hA.out | apply hB.out)) <;> clear hA hB A B))
        simp only [resultsR, resultsL, resultA, expK_int, expK_bool, expK_str, expK_agg, expK_own, expK_tsl, resK_some, go_sem, reduceIte, Nat.reduceAdd, Nat.reduceEqDiff, Nat.reduceLT, Nat.reduceLeDiff, wpK_append ty29 rfl, wpK_assignN ty29 rfl, wpK_buildSlice ty29 rfl, adopt_nils, expK_nils, set_lenAdd, List.set_cons_succ, List.set_cons_zero, List.getElem?_cons_succ, Nat.zero_le, getElem?_len, getElem?_lenAdd, set_len, List.append_assoc, List.length_append, List.cons_append, ints_len, snap_sl, rowsOf_sl, ints_len, ints_take, List.take_length, Nat.zero_le, Nat.zero_add, Bool.true_or]
        exact .nil hl

theorem puts_snocD (a : List Int) (n : Int) : (a ++ [n]).foldl put [] = put (a.foldl put []) n := by simp [List.foldl_append]
theorem puts_lenD (b : List Int) : (b.foldl put []).length ≤ b.length := by have := puts_lenM b []; simpa using this

theorem daysR {pv gv cv rv : AV} {ps : List Psn} {gs : List Grp} {cs : List Con} {rs : List Ru} (h : RtV pv gv cv rv ps gs cs rs) (hcl : cs.length ≤ 1000) (hrl : rs.length ≤ 1000) (r : Rec) (hr : r.ok) (hsl : r.sp.length ≤ 1000) :
    EvV CX 27 [.agg [pv, gv, cv, rv], .agg [.int .i64 r.id, .str r.name, .int .i64 r.len, .int .i64 r.day, r.sv]] (· = .osl 1 (ints (sorted (dC r cs ++ dU r rs)))) := by
  rw [← sortR_eq]
  have c1 := h.p.cell
  have c2 := h.g.cell
  have c3 := h.c.cell
  have c4 := h.r.cell
  have c5 := hr.sv.cell
  have s1 := h.p.snap
  have s2 := h.g.snap
  have s3 := h.c.snap
  have s4 := h.r.snap
  have s5 := hr.sv.snap
  refine EvV.walk rfl fn27 rfl nt27 rfl ?_
  simp only [List.length_cons, List.length_nil, List.cons_append, List.nil_append, Nat.reduceAdd, Nat.reduceSub, List.replicate]
  repeat' (first | refine go1 ?_ | refine blockK_else rfl ?_ | ((first | refine wpC_cond fun A B hA hB => ?_ | refine wpO_consD fun A B hA hB => ?_); simp only [go_sem, reduceIte, Nat.reduceAdd, Nat.reduceEqDiff, Nat.reduceLT, Nat.reduceLeDiff, *, wpK_assignN ty29 rfl, c1, c2, c3, c4, c5, lenK_sls h.c, List.length_map, List.getElem?_cons_succ]; (first | apply hA.out | apply hB.out | (refine iteI (fun h => ?_) (fun h => ?_) <;> first | apply hA.out | apply hB.out)) <;> clear hA hB A B))
  obtain ⟨st, hst⟩ : ∃ st, (pv.stab && (gv.stab && (cv.stab && rv.stab))) = st := ⟨_, rfl⟩
  rw [hst]
  clear hst
  refine wpC_loopF [6, 7, 14, 15, 16, 17, 18, 19, 20, 21, 22, 23, 24, 25, 26, 27, 28, 29, 30, 31, 32, 33, 34, 35, 36, 37, 38, 39, 40, 41] (fun p : List Con × List Con × List Blk => [(5, .sl (p.2.2.length + 1 + 1) ((dC r p.1).foldl put []).length 0 ((dC r p.1).foldl put []).length 1), (13, .int .i64 p.1.length)]) (fun p G => .arr [[pv, gv, cv, rv]] 4 0 st :: .arr [[.int .i64 r.id, .str r.name, .int .i64 r.len, .int .i64 r.day, r.sv]] 5 0 r.sv.stab :: (p.2.2 ++ .arr (ints ((dC r p.1).foldl put [])) 1 0 true :: G))
    (fun p => cs = p.1 ++ p.2.1) (fun p => p.2.1.length) ([], cs, [.arr [] 1 0 true]) rfl ?_ ⟨[], rfl⟩ ?_
  · rfl
  rintro ⟨pre, post, X⟩ g G h1
  simp only at h1
  cases post with
  | cons x post =>
    have hpl : pre.length < cs.length := by rw [h1]; simp
    have hdl := dC_len r pre
    have hpu := puts_lenD (dC r pre)
    have lt1 : (pre.length : Int) < (cs.length : Int) := by omega
    have w1 := wrap_succ (n := pre.length) (by omega)
    have i0 := idx_sls h.c (X := CX) ty25 ty53 rfl (n := pre.length) (row := encCn x) (k := .i64) (by rw [h1]; exact map_mid encCn pre x post)
    have q := (speaksR r x.person hr (by omega)).rw
    simp only [encRc] at q
    have hh1 : Hold (cs = (pre ++ [x]) ++ post) := ⟨by rw [h1]; simp⟩
    have hs := dC_snoc r pre x
    have hd : dayC r x = (r.sp.contains x.person && ((x.rc == 0) || (x.rc == r.id))) := rfl
    clear h1 hpl
    generalize r.sp.contains x.person = B at *
    have ways : (dayC r x = false ∧ ((x.rc == 0) = true ∧ B = false ∨ (x.rc == 0) = false ∧ (x.rc == r.id) = false ∨ (x.rc == 0) = false ∧ (x.rc == r.id) = true ∧ B = false)) ∨ (dayC r x = true ∧ ((x.rc == 0) = true ∧ B = true ∨ (x.rc == 0) = false ∧ (x.rc == r.id) = true ∧ B = true)) := by
      rw [hd]
      cases B <;> cases (x.rc == 0) <;> cases (x.rc == r.id) <;> simp
    clear hd
    rcases ways with ⟨k, hw⟩ | ⟨k, hw⟩
    · rw [k, if_neg (by simp), List.append_nil] at hs
      have hh2 : Hold ((dC r (pre ++ [x])).foldl put [] = (dC r pre).foldl put []) := ⟨by rw [hs]⟩
      clear hs k hdl hpu
      generalize (dC r pre).foldl put [] = L at *
      rcases hw with ⟨b1, b2⟩ | ⟨b1, b2⟩ | ⟨b1, b2, b3⟩
      all_goals
        (try subst b2)
        (try subst b3)
        simp only [garbA_cons, garbA_nil, setL_cons, setL_nil, List.set_cons_zero, List.set_cons_succ]
        repeat' (first | refine go1 ?_ | refine blockK_else rfl ?_ | ((first | refine wpC_cond fun A B hA hB => ?_ | refine wpO_consD fun A B hA hB => ?_); simp only [go_sem, reduceIte, Nat.reduceAdd, Nat.reduceEqDiff, Nat.reduceLT, Nat.reduceLeDiff, *, wpK_assignN ty29 rfl, lt1, w1, i0, encCn, c1, c2, c3, c4, c5, s1, s2, s3, s4, s5, q, b1, set_lenAdd, List.set_cons_succ, List.set_cons_zero, List.getElem?_cons_succ, Nat.zero_le, getElem?_len, getElem?_lenAdd, set_len, List.append_assoc, List.length_append, List.cons_append, ints_len, snap_sl, rowsOf_sl, ints_len, ints_take, List.take_length, Nat.zero_le, Nat.zero_add, Bool.true_or]; (first | apply hA.out | apply hB.out | (refine iteI (fun h => ?_) (fun h => ?_) <;> first | apply hA.out | apply hB.out)) <;> clear hA hB A B))
        refine loopF_next (pre ++ [x], post, X) (Nat.lt_succ_self _) hh1.out ?_ ?_
        · ((try simp only [eraseA_cons, eraseA_nil, setL_cons, setL_nil, List.set_cons_zero, List.set_cons_succ]); all_goals (first | rfl | (simp only [len_snoc, ints_len, List.length_map, hh2.out]; done) | (simp only [len_snoc, len_mid, ints_len, List.length_map, List.length_append, List.length_cons, List.length_nil, Nat.zero_add, hh2.out]; first | done | rfl)))
        · simp only [hh2.out]; exact ⟨_, rfl⟩
    · rw [k, if_pos rfl] at hs
      have hh2 : Hold ((dC r (pre ++ [x])).foldl put [] = put ((dC r pre).foldl put []) x.day) := ⟨by rw [hs, puts_snocD]⟩
      clear hs k
      obtain ⟨L, hL⟩ : ∃ L, (dC r pre).foldl put [] = L := ⟨_, rfl⟩
      rw [hL] at hh2 hpu
      simp only [hL]
      have qp := (put1 false L x.day (by omega)).rw
      have tL : (ints L).take L.length = ints L := by rw [← ints_len L]; exact List.take_length
      clear hL hdl hpu
      rcases hw with ⟨b1, b2⟩ | ⟨b1, b2, b3⟩
      all_goals
        (try subst b2)
        (try subst b3)
        simp only [garbA_cons, garbA_nil, setL_cons, setL_nil, List.set_cons_zero, List.set_cons_succ]
        repeat' (first | refine go1 ?_ | refine blockK_else rfl ?_ | ((first | refine wpC_cond fun A B hA hB => ?_ | refine wpO_consD fun A B hA hB => ?_); simp only [go_sem, reduceIte, Nat.reduceAdd, Nat.reduceEqDiff, Nat.reduceLT, Nat.reduceLeDiff, *, wpK_assignN ty29 rfl, lt1, w1, i0, encCn, c1, c2, c3, c4, c5, s1, s2, s3, s4, s5, q, qp, tL, b1, set_lenAdd, List.set_cons_succ, List.set_cons_zero, List.getElem?_cons_succ, Nat.zero_le, getElem?_len, getElem?_lenAdd, set_len, List.append_assoc, List.length_append, List.cons_append, ints_len, snap_sl, rowsOf_sl, ints_len, ints_take, List.take_length, Nat.zero_le, Nat.zero_add, Bool.true_or]; (first | apply hA.out | apply hB.out | (refine iteI (fun h => ?_) (fun h => ?_) <;> first | apply hA.out | apply hB.out)) <;> clear hA hB A B))
        refine loopF_next (pre ++ [x], post, X ++ .arr (ints L) 1 0 true :: (G ++ [.arr [encCn x] 4 1 true])) (Nat.lt_succ_self _) hh1.out ?_ ?_
        · ((try simp only [eraseA_cons, eraseA_nil, setL_cons, setL_nil, List.set_cons_zero, List.set_cons_succ]); all_goals (first | rfl | (simp only [len_snoc, ints_len, List.length_map, hh2.out]; done) | (simp only [len_snoc, len_mid, ints_len, List.length_map, List.length_append, List.length_cons, List.length_nil, Nat.zero_add, hh2.out]; first | done | rfl)))
        · exact ⟨[], by simp [hh2.out, encCn]⟩
  | nil =>
    rw [List.append_nil] at h1
    subst h1
    have hdl := dC_len r cs
    have hhl : Hold ((dC r cs).length ≤ cs.length) := ⟨hdl⟩
    have e1 : ∀ U : List Int, (dC r cs ++ U).foldl put [] = U.foldl put ((dC r cs).foldl put []) := fun U => List.foldl_append
    clear hdl
    simp only [garbA_cons, garbA_nil, setL_cons, setL_nil, List.set_cons_zero, List.set_cons_succ]
    repeat' (first | refine go1 ?_ | refine blockK_else rfl ?_ | ((first | refine wpC_cond fun A B hA hB => ?_ | refine wpO_consD fun A B hA hB => ?_); simp only [go_sem, reduceIte, Nat.reduceAdd, Nat.reduceEqDiff, Nat.reduceLT, Nat.reduceLeDiff, *, wpK_assignN ty29 rfl, Int.lt_irrefl, c1, c2, c3, c4, c5, lenK_sls h.r, List.length_map, set_lenAdd, List.set_cons_succ, List.set_cons_zero, List.getElem?_cons_succ, Nat.zero_le, getElem?_len, getElem?_lenAdd, set_len, List.append_assoc, List.length_append, List.cons_append, ints_len, snap_sl, rowsOf_sl, ints_len, ints_take, List.take_length, Nat.zero_le, Nat.zero_add, Bool.true_or]; (first | apply hA.out | apply hB.out | (refine iteI (fun h => ?_) (fun h => ?_) <;> first | apply hA.out | apply hB.out)) <;> clear hA hB A B))
    refine wpC_loopF [8, 9, 46, 47, 48, 49, 50, 51, 52, 53, 54, 55, 56, 57, 58, 59, 60, 61, 62, 63, 64, 65, 66, 67, 68, 69] (fun p : List Ru × List Ru × List Blk => [(5, .sl (p.2.2.length + 1 + 1) ((dC r cs ++ dU r p.1).foldl put []).length 0 ((dC r cs ++ dU r p.1).foldl put []).length 1), (45, .int .i64 p.1.length)]) (fun p G => .arr [[pv, gv, cv, rv]] 4 0 st :: .arr [[.int .i64 r.id, .str r.name, .int .i64 r.len, .int .i64 r.day, r.sv]] 5 0 r.sv.stab :: (p.2.2 ++ .arr (ints ((dC r cs ++ dU r p.1).foldl put [])) 1 0 true :: G))
      (fun p => rs = p.1 ++ p.2.1) (fun p => p.2.1.length) ([], rs, X) rfl ?_ ⟨G, ?_⟩ ?_
    · have e0 : dC r cs ++ dU r [] = dC r cs := List.append_nil _
      ((try simp only [eraseA_cons, eraseA_nil, setL_cons, setL_nil, List.set_cons_zero, List.set_cons_succ]); all_goals (first | rfl | (simp only [len_snoc, ints_len, List.length_map, e0]; done) | (simp only [len_snoc, len_mid, ints_len, List.length_map, List.length_append, List.length_cons, List.length_nil, Nat.zero_add, e0]; first | done | rfl)))
    · have e0 : dC r cs ++ dU r [] = dC r cs := List.append_nil _
      simp only [e0]
    generalize dC r cs = C at *
    clear e1
    rintro ⟨pre, post, X2⟩ g2 G2 h1
    simp only at h1
    cases post with
    | cons x post =>
      have hpl : pre.length < rs.length := by rw [h1]; simp
      have hdl := dU_len r pre
      have hpu := puts_lenD (C ++ dU r pre)
      rw [List.length_append] at hpu
      have lt1 : (pre.length : Int) < (rs.length : Int) := by omega
      have w1 := wrap_succ (n := pre.length) (by omega)
      have i0 := idx_sls h.r (X := CX) ty26 ty58 rfl (n := pre.length) (row := encRu x) (k := .i64) (by rw [h1]; exact map_mid encRu pre x post)
      have hx := h.ro x (by rw [h1]; simp)
      have d1 := hx.sl.cell
      have d2 := hx.st
      have hh1 : Hold (rs = (pre ++ [x]) ++ post) := ⟨by rw [h1]; simp⟩
      have hs : C ++ dU r (pre ++ [x]) = (C ++ dU r pre) ++ if dayU r x = true then [x.un] else [] := by rw [dU_snoc, List.append_assoc]
      have hd : dayU r x = ((x.rc == r.id) && !(x.un == 0)) := rfl
      have hb := hhl.out
      have ways : (dayU r x = false ∧ ((x.rc == r.id) = false ∨ ((x.rc == r.id) = true ∧ (x.un == 0) = true))) ∨ (dayU r x = true ∧ (x.rc == r.id) = true ∧ (x.un == 0) = false) := by
        rw [hd]
        cases (x.rc == r.id) <;> cases (x.un == 0) <;> simp
      clear h1 hd
      rcases ways with ⟨k, hw⟩ | ⟨k, b1, b2⟩
      · rw [k, if_neg (by simp), List.append_nil] at hs
        have hh2 : Hold ((C ++ dU r (pre ++ [x])).foldl put [] = (C ++ dU r pre).foldl put []) := ⟨by rw [hs]⟩
        clear hs k hpl hdl hpu hb
        generalize (C ++ dU r pre).foldl put [] = L at *
        rcases hw with b1 | ⟨b1, b2⟩
        all_goals
          simp only [garbA_cons, garbA_nil, setL_cons, setL_nil, List.set_cons_zero, List.set_cons_succ]
          repeat' (first | refine go1 ?_ | refine blockK_else rfl ?_ | ((first | refine wpC_cond fun A B hA hB => ?_ | refine wpO_consD fun A B hA hB => ?_); simp only [go_sem, reduceIte, Nat.reduceAdd, Nat.reduceEqDiff, Nat.reduceLT, Nat.reduceLeDiff, *, wpK_assignN ty29 rfl, lt1, w1, i0, encRu, c1, c2, c3, c4, c5, d1, s1, s2, s3, s4, s5, b1, set_lenAdd, List.set_cons_succ, List.set_cons_zero, List.getElem?_cons_succ, Nat.zero_le, getElem?_len, getElem?_lenAdd, set_len, List.append_assoc, List.length_append, List.cons_append, ints_len, snap_sl, rowsOf_sl, ints_len, ints_take, List.take_length, Nat.zero_le, Nat.zero_add, Bool.true_or]; (first | apply hA.out | apply hB.out | (refine iteI (fun h => ?_) (fun h => ?_) <;> first | apply hA.out | apply hB.out)) <;> clear hA hB A B))
          refine loopF_next (pre ++ [x], post, X2) (Nat.lt_succ_self _) hh1.out ?_ ?_
          · ((try simp only [eraseA_cons, eraseA_nil, setL_cons, setL_nil, List.set_cons_zero, List.set_cons_succ]); all_goals (first | rfl | (simp only [len_snoc, ints_len, List.length_map, hh2.out]; done) | (simp only [len_snoc, len_mid, ints_len, List.length_map, List.length_append, List.length_cons, List.length_nil, Nat.zero_add, hh2.out]; first | done | rfl)))
          · simp only [hh2.out]; exact ⟨_, rfl⟩
      · rw [k, if_pos rfl] at hs
        have hh2 : Hold ((C ++ dU r (pre ++ [x])).foldl put [] = put ((C ++ dU r pre).foldl put []) x.un) := ⟨by rw [hs, puts_snocD]⟩
        clear hs k
        obtain ⟨L, hL⟩ : ∃ L, (C ++ dU r pre).foldl put [] = L := ⟨_, rfl⟩
        rw [hL] at hh2 hpu
        simp only [hL]
        have qp := (put1 false L x.un (by omega)).rw
        have tL : (ints L).take L.length = ints L := by rw [← ints_len L]; exact List.take_length
        clear hL hpl hdl hpu hb
        simp only [garbA_cons, garbA_nil, setL_cons, setL_nil, List.set_cons_zero, List.set_cons_succ]
        repeat' (first | refine go1 ?_ | refine blockK_else rfl ?_ | ((first | refine wpC_cond fun A B hA hB => ?_ | refine wpO_consD fun A B hA hB => ?_); simp only [go_sem, reduceIte, Nat.reduceAdd, Nat.reduceEqDiff, Nat.reduceLT, Nat.reduceLeDiff, *, wpK_assignN ty29 rfl, lt1, w1, i0, encRu, c1, c2, c3, c4, c5, d1, s1, s2, s3, s4, s5, qp, tL, b1, b2, set_lenAdd, List.set_cons_succ, List.set_cons_zero, List.getElem?_cons_succ, Nat.zero_le, getElem?_len, getElem?_lenAdd, set_len, List.append_assoc, List.length_append, List.cons_append, ints_len, snap_sl, rowsOf_sl, ints_len, ints_take, List.take_length, Nat.zero_le, Nat.zero_add, Bool.true_or]; (first | apply hA.out | apply hB.out | (refine iteI (fun h => ?_) (fun h => ?_) <;> first | apply hA.out | apply hB.out)) <;> clear hA hB A B))
        refine loopF_next (pre ++ [x], post, X2 ++ .arr (ints L) 1 0 true :: (G2 ++ [.arr [encRu x] 6 1 true])) (Nat.lt_succ_self _) hh1.out ?_ ?_
        · ((try simp only [eraseA_cons, eraseA_nil, setL_cons, setL_nil, List.set_cons_zero, List.set_cons_succ]); all_goals (first | rfl | (simp only [len_snoc, ints_len, List.length_map, hh2.out]; done) | (simp only [len_snoc, len_mid, ints_len, List.length_map, List.length_append, List.length_cons, List.length_nil, Nat.zero_add, hh2.out]; first | done | rfl)))
        · exact ⟨[], by simp [hh2.out, encRu]⟩
    | nil =>
      rw [List.append_nil] at h1
      subst h1
      clear hhl
      generalize (C ++ dU r rs).foldl put [] = L at *
      simp only [garbA_cons, garbA_nil, setL_cons, setL_nil, List.set_cons_zero, List.set_cons_succ]
      repeat' (first | refine go1 ?_ | refine blockK_else rfl ?_ | ((first | refine wpC_cond fun A B hA hB => ?_ | refine wpO_consD fun A B hA hB => ?_); simp only [go_sem, reduceIte, Nat.reduceAdd, Nat.reduceEqDiff, Nat.reduceLT, Nat.reduceLeDiff, *, wpK_assignN ty29 rfl, Int.lt_irrefl, c1, c2, c3, c4, c5, set_lenAdd, List.set_cons_succ, List.set_cons_zero, List.getElem?_cons_succ, Nat.zero_le, getElem?_len, getElem?_lenAdd, set_len, List.append_assoc, List.length_append, List.cons_append, ints_len, snap_sl, rowsOf_sl, ints_len, ints_take, List.take_length, Nat.zero_le, Nat.zero_add, Bool.true_or]; (first | apply hA.out | apply hB.out | (refine iteI (fun h => ?_) (fun h => ?_) <;> first | apply hA.out | apply hB.out)) <;> clear hA hB A B))
      simp only [resultsR, resultsL, resultA, expK_int, expK_bool, expK_str, expK_agg, expK_own, expK_tsl, resK_some, go_sem, reduceIte, Nat.reduceAdd, Nat.reduceEqDiff, Nat.reduceLT, Nat.reduceLeDiff, wpK_assignN ty29 rfl, set_lenAdd, List.set_cons_succ, List.set_cons_zero, List.getElem?_cons_succ, Nat.zero_le, getElem?_len, getElem?_lenAdd, set_len, List.append_assoc, List.length_append, List.cons_append, ints_len, snap_sl, rowsOf_sl, ints_len, ints_take, List.take_length, Nat.zero_le, Nat.zero_add, Bool.true_or]

theorem lawDays45 {pv gv cv rv : AV} {ps : List Psn} {gs : List Grp} {cs : List Con} {rs : List Ru} (h : RtV pv gv cv rv ps gs cs rs) (r : Rec) (hr : r.ok) (pe day : Int) :
    EvV CX 7 [.agg [pv, gv, cv, rv, .int .i64 r.id, .str r.name, .int .i64 r.len, .int .i64 r.day, r.sv, .int .i64 pe, .int .i64 day]] (· = .bool true) := by
  have qa := awake.rw
  have c1 := h.p.cell
  have c2 := h.g.cell
  have c3 := h.c.cell
  have c4 := h.r.cell
  have c5 := hr.sv.cell
  have s1 := h.p.snap
  have s2 := h.g.snap
  have s3 := h.c.snap
  have s4 := h.r.snap
  have s5 := hr.sv.snap
  have q1 := (rightE45 h r hr pe day).rw
  cases k : rightC ps gs cs rs r with
  | false =>
    rw [k] at q1
    clear k
    refine EvV.walk rfl fn7 rfl nt7 rfl ?_
    simp only [List.length_cons, List.length_nil, List.cons_append, List.nil_append, Nat.reduceAdd, Nat.reduceSub, List.replicate]
    repeat' (first | refine go1 ?_ | refine blockK_else rfl ?_ | ((first | refine wpC_cond fun A B hA hB => ?_ | refine wpO_consD fun A B hA hB => ?_); simp only [go_sem, reduceIte, Nat.reduceAdd, Nat.reduceEqDiff, Nat.reduceLT, Nat.reduceLeDiff, *, and_self, c1, c2, c3, c4, c5, s1, s2, s3, s4, s5, q1, qa]; (first | apply hA.out | apply hB.out | (refine iteI (fun h => ?_) (fun h => ?_) <;> first | apply hA.out | apply hB.out)) <;> clear hA hB A B))
    simp only [resultsR, resultsL, resultA, expK_int, expK_bool, expK_str, expK_agg, expK_own, expK_tsl, resK_some, go_sem, reduceIte, Nat.reduceAdd, Nat.reduceEqDiff, Nat.reduceLT, Nat.reduceLeDiff, and_self, ]
  | true =>
    obtain ⟨f, _, g, _, _⟩ := right_out k
    obtain ⟨f1, f2, f3, f4, _⟩ := few_out f
    rw [k] at q1
    clear k
    obtain ⟨o, ho, hq⟩ := daysM h (by omega) (by omega) r hr (by omega)
    have q2 := hq.rw
    have q3 := (daysR h (by omega) (by omega) r hr (by omega)).rw
    have hl : (sorted (dC r cs ++ dU r rs)).length < 9223372036854775807 := by
      rw [← sortR_eq]
      have a := puts_lenD (dC r cs ++ dU r rs)
      have b := dC_len r cs
      have c := dU_len r rs
      rw [List.length_append] at a
      omega
    generalize sorted (dC r cs ++ dU r rs) = L at *
    have q4 := fun v w (hv : SLs 1 (ints L) v) (hw : SLs 1 (ints L) w) => (same1 v w L L hv hw hl).rw
    have s6 : ∀ l S, snap S (.tsl true 1 (ints l)) = some (.tsl true 1 (ints l)) := fun l S => by simp only [snap]
    simp only [decide_true] at q4
    clear f f1 f2 f3 f4 g hq hl
    cases ho with
    | own =>
      have q5 := q4 (.tsl true 1 (ints L)) (.tsl true 1 (ints L)) (.rows true) (.rows true)
      clear q4
      refine EvV.walk rfl fn7 rfl nt7 rfl ?_
      simp only [List.length_cons, List.length_nil, List.cons_append, List.nil_append, Nat.reduceAdd, Nat.reduceSub, List.replicate]
      repeat' (first | refine go1 ?_ | refine blockK_else rfl ?_ | ((first | refine wpC_cond fun A B hA hB => ?_ | refine wpO_consD fun A B hA hB => ?_); simp only [go_sem, reduceIte, Nat.reduceAdd, Nat.reduceEqDiff, Nat.reduceLT, Nat.reduceLeDiff, *, and_self, c1, c2, c3, c4, c5, s1, s2, s3, s4, s5, s6, q1, q2, q3, q5, qa, List.getElem?_cons_succ]; (first | apply hA.out | apply hB.out | (refine iteI (fun h => ?_) (fun h => ?_) <;> first | apply hA.out | apply hB.out)) <;> clear hA hB A B))
      simp only [resultsR, resultsL, resultA, expK_int, expK_bool, expK_str, expK_agg, expK_own, expK_tsl, resK_some, go_sem, reduceIte, Nat.reduceAdd, Nat.reduceEqDiff, Nat.reduceLT, Nat.reduceLeDiff, and_self, ]
    | part =>
      have q5 := q4 (.tsl true 1 (ints L)) (.tsl true 1 (ints L)) (.rows true) (.rows true)
      clear q4
      refine EvV.walk rfl fn7 rfl nt7 rfl ?_
      simp only [List.length_cons, List.length_nil, List.cons_append, List.nil_append, Nat.reduceAdd, Nat.reduceSub, List.replicate]
      repeat' (first | refine go1 ?_ | refine blockK_else rfl ?_ | ((first | refine wpC_cond fun A B hA hB => ?_ | refine wpO_consD fun A B hA hB => ?_); simp only [go_sem, reduceIte, Nat.reduceAdd, Nat.reduceEqDiff, Nat.reduceLT, Nat.reduceLeDiff, *, and_self, c1, c2, c3, c4, c5, s1, s2, s3, s4, s5, s6, q1, q2, q3, q5, qa, List.getElem?_cons_succ]; (first | apply hA.out | apply hB.out | (refine iteI (fun h => ?_) (fun h => ?_) <;> first | apply hA.out | apply hB.out)) <;> clear hA hB A B))
      simp only [resultsR, resultsL, resultA, expK_int, expK_bool, expK_str, expK_agg, expK_own, expK_tsl, resK_some, go_sem, reduceIte, Nat.reduceAdd, Nat.reduceEqDiff, Nat.reduceLT, Nat.reduceLeDiff, and_self, ]
    | nil hl =>
      have q5 := q4 (.flat (.slice none 0 0)) (.tsl true 1 (ints L)) (.nil (by rw [hl]; rfl)) (.rows true)
      clear q4 hl
      refine EvV.walk rfl fn7 rfl nt7 rfl ?_
      simp only [List.length_cons, List.length_nil, List.cons_append, List.nil_append, Nat.reduceAdd, Nat.reduceSub, List.replicate]
      repeat' (first | refine go1 ?_ | refine blockK_else rfl ?_ | ((first | refine wpC_cond fun A B hA hB => ?_ | refine wpO_consD fun A B hA hB => ?_); simp only [go_sem, reduceIte, Nat.reduceAdd, Nat.reduceEqDiff, Nat.reduceLT, Nat.reduceLeDiff, *, and_self, c1, c2, c3, c4, c5, s1, s2, s3, s4, s5, s6, q1, q2, q3, q5, qa, adopt_nils, List.getElem?_cons_succ]; (first | apply hA.out | apply hB.out | (refine iteI (fun h => ?_) (fun h => ?_) <;> first | apply hA.out | apply hB.out)) <;> clear hA hB A B))
      simp only [resultsR, resultsL, resultA, expK_int, expK_bool, expK_str, expK_agg, expK_own, expK_tsl, resK_some, go_sem, reduceIte, Nat.reduceAdd, Nat.reduceEqDiff, Nat.reduceLT, Nat.reduceLeDiff, and_self, ]
end Go.Eng
