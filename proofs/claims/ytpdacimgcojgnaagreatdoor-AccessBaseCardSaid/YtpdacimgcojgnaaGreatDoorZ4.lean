/- Part 4 of the texts behind this claim. -/
import Derived.Test.YtpdacimgcojgnaaGreatDoorZ3
import Derived.Sort.LotD5
import Derived.Test.YtpdacimgcojgnaaGreatDoorCtxS
import Derived.Test.YtpdacimgcojgnaaGreatDoorEngV
set_option linter.all false

/- The library's sort of ints as a run: bits, the stirring of a row that sorts badly. -/
namespace Go.Eng
open Go.Proofs
set_option linter.unusedSimpArgs false
set_option linter.unusedVariables false
attribute [local irreducible] wpC wpO wp1 EvV EvR wpL
attribute [local go_sem] ty3 ty4 ty5 ty9 ty169 ty147 ty167 br148 br149 fz25 fz26 br130 fz189 beq_iff_eq beq_eq_false_iff_ne Int.natCast_inj Bool.not_eq_false' op1_go wpK_box wpK_alloc wpK_load wpK_store wpK_binOp wpK_unOp wpK_fieldAddr wpK_field wpK_build wpK_indexAddr wpK_slice wpK_len wpK_extract wpK_nilCheck wpK_pick wpK_makeFunc wpK_call wpK_callT wpK_max wpK_min wpK_assignT wpK_moveT wpK_assignB wpK_moveB wpK_assignI wpK_moveI wpK_assignA wpK_moveA callK_fn snapL_nil snapL_cons snap_int snap_bool snap_str snap_tsl snap_agg snap_fn snap_flat adopt_int adopt_bool adopt_str adopt_agg adopt_osl adopt_tsl adopt_tup op1_guard grdK_bool grdK_undef condK_bool someK_some pairK_some nilK_ptr nilK_tptr boxK storeK evalA_tmp evalA_int evalA_bool evalA_agg evalA_fn evalA_nil ofC_int ofC_bool getA_zero getA_succ cells_int cells_agg cells_bool cells_sl cells_tsl cell_int cell_bool cell_str cell_sl cell_esl cell_tsl cell_ptr cell_tptr cell_fn cell_nils cell_nilf List.all_cons List.all_nil Bool.and_true Bool.and_self Bool.true_and putA_some putA_none List.set_cons_zero List.set_cons_succ List.length_cons List.length_nil List.nil_append List.cons_append stabL AV.stab fieldAddrA fieldA List.getElem?_cons_zero List.getElem?_cons_succ Nat.zero_add loadA rowOf Nat.le_refl and_self true_and and_true partA binA unA intBin eqBin eqCells eqCell Option.bind_some decide_true decide_false decide_eq_true_eq ite_not Bool.not_eq_true' decide_eq_false_iff_not Bool.false_eq_true Option.map_some Option.map_none Bool.not_true Bool.not_false buildA fillA patch List.take List.drop List.map_cons List.map_nil extK List.getD_cons_zero List.getD_cons_succ minmaxA minmaxGo adoptZ_false adoptZ_true freeze_int freeze_bool freeze_str freeze_flat freeze_agg freeze_osl freeze_tsl freeze_tup frz1_bool frz1_int frz1_str frz1_agg frz1_osl frz1_tsl bne Bool.false_and Bool.and_false ne_eq not_true_eq_false not_false_eq_true List.append_nil
set_option maxRecDepth 20000
set_option maxHeartbeats 4000000

/- The library's sort of ints as a run: bits, the stirring of a row that sorts badly. -/
open Go.Proofs
set_option maxRecDepth 20000
set_option maxHeartbeats 4000000


/- The library's sort of ints as a run: the sort. -/
open Go.Proofs
attribute [local go_sem] ty29 ty159 br133 br150 br151 br152 br153 br154 br155 br156 br157 br158 fz239 fz240 fz241 fz242 fz243 fz244 fz270 fz271 fz272 fz273 fz274
set_option maxRecDepth 20000
set_option maxHeartbeats 8000000

/- slices.Sort, slices.Collect, slices.Sorted at ints. -/
open Go.Proofs
attribute [local go_sem] ty108 br118 br119 fz56 fz57 nilsK fz188 fz245 br132 fz55
set_option maxRecDepth 20000
set_option maxHeartbeats 4000000

def srt (l : List Int) : List Int := l.mergeSort fun x y => decide (x ≤ y)
theorem srt_len (l : List Int) : (srt l).length = l.length := by simp [srt]
/- slices.Compact at ints, num.Sorted. -/
open Go.Proofs
attribute [local go_sem] br85 br86 br87 fz118 ty107 br120
set_option maxRecDepth 20000
set_option maxHeartbeats 4000000

/-- One of each run of equal numbers. -/
def dedup : List Int → List Int
  | [] => []
  | [x] => [x]
  | x :: y :: l => if x = y then dedup (y :: l) else x :: dedup (y :: l)

theorem idxS {b n off len j : Nat} {k : IntKind} (h : j < len) : indexAddrA CX 29 (.sl b n off len 1) (.int k j) = some (.ptr b n 1 (off + j) 0) := by
  have : (j : Int) < len := by omega
  simp [indexAddrA, ty29, ty3, this]
theorem take_set {l : List Int} {i : Nat} {x : Int} (h : i < l.length) : (l.set i x).take (i + 1) = l.take i ++ [x] := by
  rw [List.take_add_one, List.take_set_of_le (Nat.le_refl _)]; simp [h]

/-- A list of numbers, as a callee hands it back. -/
inductive OutI (l : List Int) : AV → Prop
  | own : OutI l (.osl 1 (ints l))
  | part : OutI l (.tsl true 1 (ints l))
  | nil (h : l = []) : OutI l (.flat (.slice none 0 0))

def sorted (l : List Int) : List Int := dedup (srt l)

theorem SLs.clean {sz : Nat} {rows : List (List AV)} {v : AV} (h : SLs sz rows v) : v.clean = true := by cases h <;> simp [AV.clean]

/- Recordings: Recs, as the program and the reference test them. -/
open Go.Proofs
attribute [local go_sem] ty31 ty22 ty93 fz182 br93 fz184 ty23 ty34 ty66 br59 br60 br61 allocK fz107 fz117
set_option maxHeartbeats 4000000

def noR : Rec := ⟨0, .empty, 0, 0, .flat (.slice none 0 0), []⟩
/-- Two recordings have one name. -/
def nmE (x r : Rec) : Bool := x.name.toList == r.name.toList
/-- What is wrong with the recordings of an archive. -/
def rcF (ps : List Psn) : List Rec → List Rec → Int
  | _, [] => 0
  | pre, x :: post => if chkC ps x = 0 then if (0 : Int) < (pre.length : Int) ∧ x.id ≤ (pre.getLastD noR).id then 10 else if (pre.any fun y => nmE y x) = true then 8 else rcF ps (pre ++ [x]) post else chkC ps x
def recsF (ps : List Psn) (rs : List Rec) : Int := if rs.length ≤ 12 then rcF ps [] rs else 11

end Go.Eng

/- Increasing lists (plain). -/
namespace Go.Eng

/-- The outcome, named. -/
theorem EvV.ex {X : Ctx} {f : FuncId} {args : List AV} {R : AV → Prop} (h : EvV X f args R) : ∃ r, R r ∧ EvV X f args (· = r) := by
  obtain ⟨n, r, h1, h2⟩ := h
  exact ⟨r, h2, n, r, h1, rfl⟩
theorem adopt_nils {id : Nat} : adoptA id (.flat (.slice none 0 0)) = (.flat (.slice none 0 0), []) := rfl
def UpL (l : List Int) : Prop := l.Pairwise (· < ·)

theorem up_unique : ∀ {a b : List Int}, UpL a → UpL b → (∀ x, x ∈ a ↔ x ∈ b) → a = b
  | [], [], _, _, _ => rfl
  | [], y :: b, _, _, h => absurd ((h y).mpr (by simp)) (by simp)
  | x :: a, [], _, _, h => absurd ((h x).mp (by simp)) (by simp)
  | x :: a, y :: b, ha, hb, h => by
    have ha' := List.pairwise_cons.mp ha
    have hb' := List.pairwise_cons.mp hb
    have hxy : x = y := by
      have h1 := (h x).mp (by simp)
      have h2 := (h y).mpr (by simp)
      rcases List.mem_cons.mp h1 with h1 | h1
      · exact h1
      · rcases List.mem_cons.mp h2 with h2 | h2
        · exact h2.symm
        · have := ha'.1 _ h2; have := hb'.1 _ h1; omega
    subst hxy
    rw [up_unique ha'.2 hb'.2 fun z => ?_]
    constructor
    · intro hz
      have := (h z).mp (by simp [hz])
      rcases List.mem_cons.mp this with e | e
      · subst e; have := ha'.1 _ hz; omega
      · exact e
    · intro hz
      have := (h z).mpr (by simp [hz])
      rcases List.mem_cons.mp this with e | e
      · subst e; have := hb'.1 _ hz; omega
      · exact e

theorem mem_dedup (n : Int) : ∀ l : List Int, n ∈ dedup l ↔ n ∈ l
  | [] => by simp [dedup]
  | [x] => by simp [dedup]
  | x :: y :: l => by
    rw [dedup]
    have ih := mem_dedup n (y :: l)
    split
    · rename_i h; subst h; rw [ih]; simp
    · rw [List.mem_cons, ih]; simp
theorem dedup_up : ∀ {l : List Int}, l.Pairwise (· ≤ ·) → UpL (dedup l)
  | [], _ => by simp [dedup, UpL]
  | [x], _ => by simp [dedup, UpL]
  | x :: y :: l, h => by
    rw [dedup]
    have h' := List.pairwise_cons.mp h
    have ih := dedup_up h'.2
    split
    · exact ih
    · rename_i hne
      refine List.pairwise_cons.mpr ⟨fun z hz => ?_, ih⟩
      rw [mem_dedup] at hz
      have h2 := List.pairwise_cons.mp h'.2
      have := h'.1 y (by simp)
      rcases List.mem_cons.mp hz with e | e
      · subst e; omega
      · have := h2.1 z e; omega
theorem srt_le (l : List Int) : (srt l).Pairwise (· ≤ ·) := by
  have := List.pairwise_mergeSort (le := fun x y : Int => decide (x ≤ y)) (by intro a b c; simp; omega) (by intro a b; simp; omega) l
  exact this.imp (by simp)
theorem mem_srt (n : Int) (l : List Int) : n ∈ srt l ↔ n ∈ l := (List.mergeSort_perm l _).mem_iff
theorem sorted_up (l : List Int) : UpL (sorted l) := dedup_up (srt_le l)
theorem mem_sorted (n : Int) (l : List Int) : n ∈ sorted l ↔ n ∈ l := by rw [sorted, mem_dedup, mem_srt]
theorem dedup_len : ∀ l : List Int, (dedup l).length ≤ l.length
  | [] => by simp [dedup]
  | [x] => by simp [dedup]
  | x :: y :: l => by
    rw [dedup]
    have ih := dedup_len (y :: l)
    split
    · simp only [List.length_cons] at *; omega
    · simp only [List.length_cons] at *; omega
theorem sorted_len (l : List Int) : (sorted l).length ≤ l.length := by
  have := dedup_len (srt l); rw [srt_len] at this; exact this
theorem sorted_eq {l m : List Int} (h : ∀ x, x ∈ l ↔ x ∈ m) : sorted l = sorted m := up_unique (sorted_up l) (sorted_up m) fun x => by rw [mem_sorted, mem_sorted, h]
end Go.Eng

/- The reference's small functions over lists of numbers: Has, Same. -/
namespace Go.Eng
open Go.Proofs
set_option linter.unusedSimpArgs false
set_option linter.unusedVariables false
attribute [local irreducible] wpC wpO wp1 EvV EvR wpL
attribute [local go_sem] ty3 ty4 ty29 beq_iff_eq beq_eq_false_iff_ne Int.natCast_inj Bool.not_eq_false' op1_go wpK_box wpK_alloc wpK_load wpK_store wpK_binOp wpK_unOp wpK_fieldAddr wpK_field wpK_build wpK_indexAddr wpK_slice wpK_len wpK_extract wpK_nilCheck wpK_pick wpK_makeFunc wpK_call wpK_callT wpK_max wpK_min wpK_assignT wpK_moveT wpK_assignB wpK_moveB wpK_assignI wpK_moveI wpK_assignA wpK_moveA callK_fn snapL_nil snapL_cons snap_int snap_bool snap_str snap_tsl snap_agg snap_fn snap_flat adopt_int adopt_bool adopt_str adopt_agg adopt_osl adopt_tsl adopt_tup op1_guard grdK_bool grdK_undef condK_bool someK_some pairK_some nilK_ptr nilK_tptr boxK storeK evalA_tmp evalA_int evalA_bool evalA_agg evalA_fn evalA_nil ofC_int ofC_bool getA_zero getA_succ cells_int cells_agg cells_bool cells_sl cells_tsl cell_int cell_bool cell_str cell_sl cell_esl cell_tsl cell_ptr cell_tptr cell_fn cell_nils cell_nilf List.all_cons List.all_nil Bool.and_true Bool.and_self Bool.true_and putA_some putA_none List.set_cons_zero List.set_cons_succ List.length_cons List.length_nil List.nil_append List.cons_append stabL AV.stab fieldAddrA fieldA List.getElem?_cons_zero List.getElem?_cons_succ Nat.zero_add loadA rowOf Nat.le_refl and_self true_and and_true partA binA unA intBin eqBin eqCells eqCell Option.bind_some decide_true decide_false decide_eq_true_eq ite_not Bool.not_eq_true' decide_eq_false_iff_not Bool.false_eq_true Option.map_some Option.map_none Bool.not_true Bool.not_false buildA fillA patch List.take List.drop List.map_cons List.map_nil extK List.getD_cons_zero List.getD_cons_succ minmaxA minmaxGo adoptZ_false adoptZ_true freeze_int freeze_bool freeze_str freeze_flat freeze_agg freeze_osl freeze_tsl freeze_tup frz1_bool frz1_int frz1_str frz1_agg frz1_osl frz1_tsl bne Bool.false_and Bool.and_false ne_eq not_true_eq_false not_false_eq_true List.append_nil

theorem has1 (v : AV) (l : List Int) (n : Int) (hv : SLs 1 (ints l) v) (hl : l.length < 9223372036854775807) : EvV CX 71 [v, .int .i64 n] (· = .bool (l.contains n)) := by
  refine EvV.walk rfl fn71 rfl nt71 rfl ?_
  simp only [List.length_cons, List.length_nil, List.cons_append, List.nil_append, Nat.reduceAdd, Nat.reduceSub, List.replicate]
  repeat' (first | refine go1 ?_ | refine blockK_else rfl ?_ | ((first | refine wpC_cond fun A B hA hB => ?_ | refine wpO_consD fun A B hA hB => ?_); simp only [go_sem, reduceIte, Nat.reduceAdd, Nat.reduceEqDiff, Nat.reduceLT, Nat.reduceLeDiff, *, and_self, lenK_sls hv]; (first | apply hA.out | apply hB.out | (refine iteI (fun h => ?_) (fun h => ?_) <;> first | apply hA.out | apply hB.out)) <;> clear hA hB A B))
  refine wpC_each [4, 5, 9, 10, 11, 12, 13, 14, 15, 16, 17] 8 l (fun _ post => l.contains n = post.contains n) ?_ ?_ ?_ ?_
  · rfl
  · rfl
  · intro g G h2
    rw [h2]; simp only [garbA_cons, garbA_nil, setL_cons, setL_nil, List.set_cons_zero, List.set_cons_succ]
    repeat' (first | refine go1 ?_ | refine blockK_else rfl ?_ | ((first | refine wpC_cond fun A B hA hB => ?_ | refine wpO_consD fun A B hA hB => ?_); simp only [go_sem, reduceIte, Nat.reduceAdd, Nat.reduceEqDiff, Nat.reduceLT, Nat.reduceLeDiff, *, and_self, ints_len, List.length_map, Int.lt_irrefl, List.nil_append]; (first | apply hA.out | apply hB.out | (refine iteI (fun h => ?_) (fun h => ?_) <;> first | apply hA.out | apply hB.out)) <;> clear hA hB A B))
    simp only [resultsR, resultsL, resultA, expK_int, expK_bool, expK_str, expK_agg, expK_own, expK_tsl, resK_some, go_sem, reduceIte, Nat.reduceAdd, Nat.reduceEqDiff, Nat.reduceLT, Nat.reduceLeDiff, and_self, List.contains_nil]
  · intro g G pre x post h1 h2
    rw [h2]; subst h1; simp only [garbA_cons, garbA_nil, setL_cons, setL_nil, List.set_cons_zero, List.set_cons_succ]
    have i1 := idx_sls hv (X := CX) ty29 ty3 rfl (ints_mid pre x post) (k := .i64)
    have w1 := wrap_succ (n := pre.length) (by simp at hl; omega)
    repeat' (first | refine go1 ?_ | refine blockK_else rfl ?_ | ((first | refine wpC_cond fun A B hA hB => ?_ | refine wpO_consD fun A B hA hB => ?_); simp only [go_sem, reduceIte, Nat.reduceAdd, Nat.reduceEqDiff, Nat.reduceLT, Nat.reduceLeDiff, *, and_self, getElem?_len, getElem?_lenAdd, set_len, set_lenAdd, len_mid, ints_len, List.length_map, lt_mid, List.nil_append, i1, w1, beq_iff_eq]; (first | apply hA.out | apply hB.out | (refine iteI (fun h => ?_) (fun h => ?_) <;> first | apply hA.out | apply hB.out)) <;> clear hA hB A B))
    · simp only [resultsR, resultsL, resultA, expK_int, expK_bool, expK_str, expK_agg, expK_own, expK_tsl, resK_some, go_sem, reduceIte, Nat.reduceAdd, Nat.reduceEqDiff, Nat.reduceLT, Nat.reduceLeDiff, and_self, List.contains_cons]
      simp_all
    · refine each_next rfl ?_ ?_ ?_
      · have : ¬ n = x := fun e => h e.symm
        rw [List.contains_cons]; simp [this]
      · ((try simp only [eraseA_cons, eraseA_nil, setL_cons, setL_nil, List.set_cons_zero, List.set_cons_succ]); all_goals (first | rfl | (simp only [len_snoc, ints_len, List.length_map, ]; done) | (simp only [len_snoc, len_mid, ints_len, List.length_map, List.length_append, List.length_cons, List.length_nil, Nat.zero_add, ]; first | done | rfl)))
      · first | exact ⟨[], (List.append_nil _).symm⟩ | exact ⟨_, rfl⟩ | (simp only [List.append_assoc, List.cons_append, List.nil_append]; exact ⟨_, rfl⟩)

/- Sets of numbers: Put, Minus. -/
open Go.Proofs
attribute [local go_sem] List.replicate Nat.one_mul Nat.reduceMul Nat.zero_mul appK bslA fz160 fz162 lenK_esl lenK_nils lenK_sl lenK_tsl nilsK rowsFill rowsOf_esl rowsOf_nils rowsOf_sl rowsOf_tsl

def put : List Int → Int → List Int
  | [], n => [n]
  | x :: l, n => if x < n then x :: put l n else if x = n then n :: l else n :: x :: l

theorem put_len : ∀ (l : List Int) (n : Int), (put l n).length ≤ l.length + 1
  | [], n => by simp [put]
  | x :: l, n => by
    unfold put
    split
    · simp only [List.length_cons]; have := put_len l n; omega
    · split <;> simp

theorem put1 (st : Bool) (l : List Int) (n : Int) (hl : l.length ≤ 1099511627776) : EvV CX 54 [.tsl st 1 (ints l), .int .i64 n] (· = .osl 1 (ints (put l n))) := by
  have hv : SLs 1 (ints l) (.tsl st 1 (ints l)) := .rows st
  refine EvV.walk rfl fn54 rfl nt54 rfl ?_
  simp only [List.length_cons, List.length_nil, List.cons_append, List.nil_append, Nat.reduceAdd, Nat.reduceSub, List.replicate]
  repeat' (first | refine go1 ?_ | refine blockK_else rfl ?_ | ((first | refine wpC_cond fun A B hA hB => ?_ | refine wpO_consD fun A B hA hB => ?_); simp only [go_sem, reduceIte, Nat.reduceAdd, Nat.reduceEqDiff, Nat.reduceLT, Nat.reduceLeDiff, *, wpK_append ty29 rfl, wpK_assignN ty29 rfl, wpK_buildSlice ty29 rfl, ]; (first | apply hA.out | apply hB.out | (refine iteI (fun h => ?_) (fun h => ?_) <;> first | apply hA.out | apply hB.out)) <;> clear hA hB A B))
  refine wpC_loopF [7, 8, 9, 10, 11, 12, 13, 14, 15, 16, 17, 18, 19, 20, 21, 22, 23, 24, 25, 26, 27] (fun a : List Int × List Int => [(5, .sl 1 a.1.length 0 a.1.length 1), (6, .int .i64 a.1.length)]) (fun a G => .arr [] 1 0 true :: .arr (ints a.1) 1 0 true :: G)
    (fun a => l = a.1 ++ a.2 ∧ put l n = a.1 ++ put a.2 n) (fun a => a.2.length) ([], l) ⟨rfl, rfl⟩ ?_ ?_ ?_
  · rfl
  · exact ⟨[], rfl⟩
  rintro ⟨pre, post⟩ g G ⟨h1, h2⟩
  simp only at h1 h2
  rw [h2]; subst h1; simp only [garbA_cons, garbA_nil, setL_cons, setL_nil, List.set_cons_zero, List.set_cons_succ]
  simp only [List.length_append] at hl
  cases post with
  | nil =>
    simp only [List.append_nil] at *
    obtain ⟨b1, b2⟩ := app1 (n := pre.length) (by omega)
    have i3 := slice_from (X := CX) (st := st) (n := pre.length) (k := .i64) ty29 ty3 rfl (rows := ints pre) (rows' := []) (by rw [ints_len]; exact Nat.le_refl _) (by simp [ints])
    simp only [List.length_nil, Nat.add_zero] at hl
    repeat' (first | refine go1 ?_ | refine blockK_else rfl ?_ | ((first | refine wpC_cond fun A B hA hB => ?_ | refine wpO_consD fun A B hA hB => ?_); simp only [go_sem, reduceIte, Nat.reduceAdd, Nat.reduceEqDiff, Nat.reduceLT, Nat.reduceLeDiff, *, wpK_append ty29 rfl, wpK_assignN ty29 rfl, wpK_buildSlice ty29 rfl, getElem?_len, getElem?_lenAdd, set_len, set_lenAdd, len_mid, ints_len, List.length_map, lt_mid, List.nil_append, ints_len, List.length_map, Int.lt_irrefl, List.nil_append, i3, b1, b2]; (first | apply hA.out | apply hB.out | (refine iteI (fun h => ?_) (fun h => ?_) <;> first | apply hA.out | apply hB.out)) <;> clear hA hB A B))
    · simp only [resultsR, resultsL, resultA, expK_int, expK_bool, expK_str, expK_agg, expK_own, expK_tsl, resK_some, go_sem, reduceIte, Nat.reduceAdd, Nat.reduceEqDiff, Nat.reduceLT, Nat.reduceLeDiff, wpK_append ty29 rfl, wpK_assignN ty29 rfl, wpK_buildSlice ty29 rfl, List.getElem?_cons_succ, ints_len, List.length_append]
      simp [put, ints]
  | cons x post =>
    obtain ⟨b1, b2⟩ := app1 (n := pre.length) (by omega)
    have b3 : (pre.length + 1 + post.length) * 8 ≤ 140737488355328 := by simp only [List.length_cons] at hl; omega
    have b4 : pre.length + 1 + post.length ≤ 140737488355328 := by omega
    have b5 : (pre.length + 1 + (post.length + 1)) * 8 ≤ 140737488355328 := by simp only [List.length_cons] at hl; omega
    have b6 : pre.length + 1 + (post.length + 1) ≤ 140737488355328 := by omega
    have i1 := idx_sls hv (X := CX) ty29 ty3 rfl (ints_mid pre x post) (k := .i64)
    have w1 := wrap_succ (n := pre.length) (by omega)
    have i3 := slice_from (X := CX) (st := st) (n := pre.length) (k := .i64) ty29 ty3 rfl (rows := ints (pre ++ x :: post)) (rows' := ints (x :: post)) (by rw [ints_len]; simp) (by rw [ints_drop]; simp)
    have i4 := slice_from (X := CX) (st := st) (n := pre.length + 1) (k := .i64) ty29 ty3 rfl (rows := ints (pre ++ x :: post)) (rows' := ints post) (by rw [ints_len]; simp) (by rw [ints_drop, ← List.drop_drop]; simp)
    by_cases hx : x = n
    · subst hx
      repeat' (first | refine go1 ?_ | refine blockK_else rfl ?_ | ((first | refine wpC_cond fun A B hA hB => ?_ | refine wpO_consD fun A B hA hB => ?_); simp only [go_sem, reduceIte, Nat.reduceAdd, Nat.reduceEqDiff, Nat.reduceLT, Nat.reduceLeDiff, *, wpK_append ty29 rfl, wpK_assignN ty29 rfl, wpK_buildSlice ty29 rfl, getElem?_len, getElem?_lenAdd, set_len, set_lenAdd, len_mid, ints_len, List.length_map, lt_mid, List.nil_append, i1, i3, i4, w1, b1, b2, b3, b4, ints_len, Int.lt_irrefl, beq_self_eq_true]; (first | apply hA.out | apply hB.out | (refine iteI (fun h => ?_) (fun h => ?_) <;> first | apply hA.out | apply hB.out)) <;> clear hA hB A B))
      all_goals
        simp only [resultsR, resultsL, resultA, expK_int, expK_bool, expK_str, expK_agg, expK_own, expK_tsl, resK_some, go_sem, reduceIte, Nat.reduceAdd, Nat.reduceEqDiff, Nat.reduceLT, Nat.reduceLeDiff, wpK_append ty29 rfl, wpK_assignN ty29 rfl, wpK_buildSlice ty29 rfl, List.getElem?_cons_succ, ints_len, List.length_append, List.length_cons, *]
        simp [put, ints, List.eq_nil_of_length_eq_zero, *]
    · repeat' (first | refine go1 ?_ | refine blockK_else rfl ?_ | ((first | refine wpC_cond fun A B hA hB => ?_ | refine wpO_consD fun A B hA hB => ?_); simp only [go_sem, reduceIte, Nat.reduceAdd, Nat.reduceEqDiff, Nat.reduceLT, Nat.reduceLeDiff, *, wpK_append ty29 rfl, wpK_assignN ty29 rfl, wpK_buildSlice ty29 rfl, getElem?_len, getElem?_lenAdd, set_len, set_lenAdd, len_mid, ints_len, List.length_map, lt_mid, List.nil_append, i1, i3, i4, w1, b1, b2, b5, b6, ints_len]; (first | apply hA.out | apply hB.out | (refine iteI (fun h => ?_) (fun h => ?_) <;> first | apply hA.out | apply hB.out)) <;> clear hA hB A B))
      · refine loopF_next (pre ++ [x], post) (Nat.lt_succ_self _) ⟨by simp, by simp [put, h]⟩ ?_ ?_
        · ((try simp only [eraseA_cons, eraseA_nil, setL_cons, setL_nil, List.set_cons_zero, List.set_cons_succ]); all_goals (first | rfl | (simp only [len_snoc, ints_len, List.length_map, ]; done) | (simp only [len_snoc, len_mid, ints_len, List.length_map, List.length_append, List.length_cons, List.length_nil, Nat.zero_add, ]; first | done | rfl)))
        · exact ⟨_, by simp only [ints_append]; rfl⟩
      all_goals
        simp only [resultsR, resultsL, resultA, expK_int, expK_bool, expK_str, expK_agg, expK_own, expK_tsl, resK_some, go_sem, reduceIte, Nat.reduceAdd, Nat.reduceEqDiff, Nat.reduceLT, Nat.reduceLeDiff, wpK_append ty29 rfl, wpK_assignN ty29 rfl, wpK_buildSlice ty29 rfl, List.getElem?_cons_succ, ints_len, List.length_append, List.length_cons]
        simp [put, ints, *]

end Go.Eng

/- Increasing lists and putting into them (plain). -/
namespace Go.Eng

theorem mem_put (x n : Int) : ∀ l : List Int, x ∈ put l n ↔ x = n ∨ x ∈ l
  | [] => by simp [put]
  | y :: l => by
    unfold put
    have ih := mem_put x n l
    split
    · rw [List.mem_cons, ih, List.mem_cons]
      constructor
      · rintro (h | h | h)
        · exact .inr (.inl h)
        · exact .inl h
        · exact .inr (.inr h)
      · rintro (h | h | h)
        · exact .inr (.inl h)
        · exact .inl h
        · exact .inr (.inr h)
    · split
      · rename_i h; subst h; simp
      · simp
theorem put_up {n : Int} : ∀ {l : List Int}, UpL l → UpL (put l n)
  | [], _ => by simp [put, UpL]
  | y :: l, h => by
    have h' := List.pairwise_cons.mp h
    unfold put
    split
    · rename_i hy
      refine List.pairwise_cons.mpr ⟨fun z hz => ?_, put_up h'.2⟩
      rcases (mem_put z n l).mp hz with e | e
      · omega
      · exact h'.1 z e
    · split
      · rename_i h1 h2; subst h2; exact h
      · rename_i h1 h2
        refine List.pairwise_cons.mpr ⟨fun z hz => ?_, h⟩
        rcases List.mem_cons.mp hz with e | e
        · omega
        · have := h'.1 z e; omega
theorem mem_puts (x : Int) : ∀ (b out : List Int), x ∈ b.foldl put out ↔ x ∈ out ∨ x ∈ b
  | [], out => by simp
  | y :: b, out => by
    rw [List.foldl_cons, mem_puts x b, mem_put, List.mem_cons]
    constructor
    · rintro ((h | h) | h)
      · exact .inr (.inl h)
      · exact .inl h
      · exact .inr (.inr h)
    · rintro (h | h | h)
      · exact .inl (.inr h)
      · exact .inl (.inl h)
      · exact .inr h
theorem puts_up : ∀ (b out : List Int), UpL out → UpL (b.foldl put out)
  | [], _, h => h
  | x :: b, out, h => puts_up b (put out x) (put_up h)
theorem puts_eq {b out : List Int} (h : UpL out) : b.foldl put out = sorted (out ++ b) :=
  up_unique (puts_up b out h) (sorted_up _) fun x => by rw [mem_puts, mem_sorted, List.mem_append]
theorem up_nil : UpL [] := List.Pairwise.nil
theorem sortR_eq (l : List Int) : l.foldl put [] = sorted l := puts_eq up_nil
theorem unionR_eq (a b : List Int) : b.foldl put (sorted a) = sorted (a ++ b) := by
  rw [puts_eq (sorted_up a)]
  exact sorted_eq fun x => by rw [List.mem_append, List.mem_append, mem_sorted]
theorem up_nodup {l : List Int} (h : UpL l) : l.Nodup := h.imp (by intro a b h e; omega)
end Go.Eng

/- Recordings: the reference's Recs; Speaks and Heard. -/
namespace Go.Eng
open Go.Proofs
set_option linter.unusedSimpArgs false
set_option linter.unusedVariables false
attribute [local irreducible] wpC wpO wp1 EvV EvR wpL
attribute [local go_sem] ty3 ty4 ty9 ty22 ty23 ty29 ty31 ty34 ty66 br41 fz177 br64 fz108 br71 fz131 beq_iff_eq beq_eq_false_iff_ne Int.natCast_inj Bool.not_eq_false' op1_go wpK_box wpK_alloc wpK_load wpK_store wpK_binOp wpK_unOp wpK_fieldAddr wpK_field wpK_build wpK_indexAddr wpK_slice wpK_len wpK_extract wpK_nilCheck wpK_pick wpK_makeFunc wpK_call wpK_callT wpK_max wpK_min wpK_assignT wpK_moveT wpK_assignB wpK_moveB wpK_assignI wpK_moveI wpK_assignA wpK_moveA callK_fn snapL_nil snapL_cons snap_int snap_bool snap_str snap_tsl snap_agg snap_fn snap_flat adopt_int adopt_bool adopt_str adopt_agg adopt_osl adopt_tsl adopt_tup op1_guard grdK_bool grdK_undef condK_bool someK_some pairK_some nilK_ptr nilK_tptr boxK storeK evalA_tmp evalA_int evalA_bool evalA_agg evalA_fn evalA_nil ofC_int ofC_bool getA_zero getA_succ cells_int cells_agg cells_bool cells_sl cells_tsl cell_int cell_bool cell_str cell_sl cell_esl cell_tsl cell_ptr cell_tptr cell_fn cell_nils cell_nilf List.all_cons List.all_nil Bool.and_true Bool.and_self Bool.true_and putA_some putA_none List.set_cons_zero List.set_cons_succ List.length_cons List.length_nil List.nil_append List.cons_append stabL AV.stab fieldAddrA fieldA List.getElem?_cons_zero List.getElem?_cons_succ Nat.zero_add loadA rowOf Nat.le_refl and_self true_and and_true partA binA unA intBin eqBin eqCells eqCell Option.bind_some decide_true decide_false decide_eq_true_eq ite_not Bool.not_eq_true' decide_eq_false_iff_not Bool.false_eq_true Option.map_some Option.map_none Bool.not_true Bool.not_false buildA fillA patch List.take List.drop List.map_cons List.map_nil extK List.getD_cons_zero List.getD_cons_succ minmaxA minmaxGo adoptZ_false adoptZ_true freeze_int freeze_bool freeze_str freeze_flat freeze_agg freeze_osl freeze_tsl freeze_tup frz1_bool frz1_int frz1_str frz1_agg frz1_osl frz1_tsl bne Bool.false_and Bool.and_false ne_eq not_true_eq_false not_false_eq_true List.append_nil
set_option maxHeartbeats 4000000

end Go.Eng
