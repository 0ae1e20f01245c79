/- Part 5 of the texts behind this claim. -/
import Derived.Test.YtoeogoeahmlgnaaZ4
import Derived.Laws.StructEq
import Derived.Test.YtoeogoeahmlgnaaCtxS
set_option linter.all false

/- Repair: Texts, as the program and the reference tell them. -/
namespace Go.Eng
open Go.Proofs
set_option linter.unusedSimpArgs false
set_option linter.unusedVariables false
attribute [local irreducible] wpC wpO wp1 EvV EvR wpL
attribute [local go_sem] ty3 ty4 ty9 ty41 ty46 ty47 ty49 ty69 ty71 ty83 eq46 List.all_cons List.all_nil List.replicate List.set_cons_zero Nat.one_mul Nat.reduceMul Nat.zero_mul allocK appK bslA fz43 lenK_esl lenK_nils lenK_sl lenK_tsl nilsK rowsFill rowsOf_esl rowsOf_nils rowsOf_sl rowsOf_tsl fz24 reduceIte Nat.reduceAdd Nat.reduceEqDiff Nat.reduceLT Nat.reduceLeDiff beq_iff_eq beq_eq_false_iff_ne Int.natCast_inj Bool.not_eq_false' op1_go wpK_box wpK_alloc wpK_load wpK_store wpK_binOp wpK_unOp wpK_fieldAddr wpK_field wpK_build wpK_indexAddr wpK_slice wpK_len wpK_extract wpK_nilCheck wpK_pick wpK_makeFunc wpK_call wpK_callT wpK_max wpK_min wpK_assignT wpK_moveT wpK_assignB wpK_moveB wpK_assignI wpK_moveI wpK_assignA wpK_moveA callK_fn snapL_nil snapL_cons snap_int snap_bool snap_str snap_tsl snap_agg snap_fn snap_flat adopt_int adopt_bool adopt_str adopt_agg adopt_osl adopt_tsl adopt_tup op1_guard grdK_bool grdK_undef condK_bool someK_some pairK_some nilK_ptr nilK_tptr boxK storeK evalA_tmp evalA_int evalA_bool evalA_agg evalA_fn evalA_nil ofC_int ofC_bool getA_zero getA_succ cells_int cells_agg cells_bool cells_sl cells_tsl cell_int cell_bool cell_str cell_sl cell_esl cell_tsl cell_ptr cell_tptr cell_fn cell_nils cell_nilf List.all_cons List.all_nil Bool.and_true Bool.and_self Bool.true_and putA_some putA_none List.set_cons_zero List.set_cons_succ List.length_cons List.length_nil List.nil_append List.cons_append stabL AV.stab fieldAddrA fieldA List.getElem?_cons_zero List.getElem?_cons_succ Nat.zero_add loadA rowOf Nat.le_refl and_self true_and and_true partA binA unA intBin eqBin eqCells eqCell Option.bind_some decide_true decide_false decide_eq_true_eq ite_not Bool.not_eq_true' decide_eq_false_iff_not Bool.false_eq_true Option.map_some Option.map_none Bool.not_true Bool.not_false buildA fillA patch List.take List.drop List.map_cons List.map_nil extK List.getD_cons_zero List.getD_cons_succ minmaxA minmaxGo adoptZ_false adoptZ_true freeze_int freeze_bool freeze_str freeze_flat freeze_agg freeze_osl freeze_tsl freeze_tup frz1_bool frz1_int frz1_str frz1_agg frz1_osl frz1_tsl bne Bool.false_and Bool.and_false ne_eq not_true_eq_false not_false_eq_true List.append_nil resultsR resultsL resultA expK_int expK_bool expK_str expK_agg expK_own expK_tsl resK_some nestNo wpK_lookup wpK_makeMap wpK_mapUpdate cell_mp
set_option maxHeartbeats 4000000

def strs (l : List ByteArray) : List (List AV) := l.map fun s => [.str s]
theorem strs_len (l : List ByteArray) : (strs l).length = l.length := by simp [strs]
theorem strs_snoc (l : List ByteArray) (s : ByteArray) : strs l ++ [[.str s]] = strs (l ++ [s]) := by simp [strs]
theorem strs_mid (pre : List ByteArray) (x : ByteArray) (post : List ByteArray) : (strs (pre ++ x :: post))[pre.length]? = some [.str x] := by simp [strs]
theorem bLeq (a b : ByteArray) : (a.toList == b.toList) = decide (a = b) := by
  rw [ByteArray.toList_eq, ByteArray.toList_eq]
  by_cases h : a = b
  · rw [h]; simp
  · have : ¬ a.data.toList = b.data.toList := fun e => h (by
      have e2 : a.data = b.data := Array.toList_inj.1 e
      cases a; cases b; simp only at e2; rw [e2])
    rw [show decide (a = b) = false by simp [h]]; exact beq_false_of_ne this
theorem bAeq (a b : ByteArray) : (a == b) = decide (a = b) := by rw [beq_toListBytes, bLeq]

def inS (out : List ByteArray) (s : ByteArray) : Bool := out.any fun o => decide (o = s)
theorem inS_snoc (out : List ByteArray) (o s : ByteArray) : inS (out ++ [o]) s = (inS out s || decide (o = s)) := by simp [inS]
/-- The different texts of values. -/
def txtF (l : List Val) : List ByteArray := l.foldl (fun out v => if inS out v.t = true then out else out ++ [v.t]) []
theorem txtF_snoc (l : List Val) (v : Val) : txtF (l ++ [v]) = if inS (txtF l) v.t = true then txtF l else txtF l ++ [v.t] := by unfold txtF; rw [List.foldl_append]; rfl
theorem txtF_len : ∀ l : List Val, (txtF l).length ≤ l.length := by
  have key : ∀ (l : List Val) (out : List ByteArray), (l.foldl (fun out v => if inS out v.t = true then out else out ++ [v.t]) out).length ≤ out.length + l.length := by
    intro l
    induction l with
    | nil => intro out; simp
    | cons v l ih =>
      intro out
      rw [List.foldl_cons]
      have h1 := ih (if inS out v.t = true then out else out ++ [v.t])
      have h2 : (if inS out v.t = true then out else out ++ [v.t]).length ≤ out.length + 1 := by
        by_cases h : inS out v.t = true
        · rw [if_pos h]; omega
        · rw [if_neg h]; simp
      simp only [List.length_cons]; omega
  intro l
  have := key l []
  simpa [txtF] using this

/-- The map of the texts that have been seen. -/
def mstr (out : List ByteArray) : List (AV × AV) := out.map fun s => (.str s, .bool true)
theorem find_mstr (s : ByteArray) : ∀ out : List ByteArray, findA (.str s) (mstr out) = some (if inS out s = true then some (.bool true) else none)
  | [] => rfl
  | o :: out => by
    have ih := find_mstr s out
    simp only [mstr, List.map_cons, findA, eqKey] at ih ⊢
    rw [bAeq]
    have e : inS (o :: out) s = (decide (o = s) || inS out s) := rfl
    rw [e]
    by_cases h : s = o
    · subst h; simp
    · have h2 : ¬ o = s := fun e => h e.symm
      simp only [decide_eq_false h, decide_eq_false h2, Bool.false_or]
      exact ih
theorem upd_mstr {s : ByteArray} {out : List ByteArray} (h : inS out s = false) : updA (.str s) (.bool true) (mstr out) = mstr (out ++ [s]) := by
  have := find_mstr s out
  rw [h] at this
  rw [findA_none this]
  simp [mstr]

theorem textsP {c : Cel} (hc : c.ok) (hl : c.tl.length ≤ 1000) : EvV CX 17 [.agg (encC c)] (· = .osl 1 (strs (txtF c.tl))) := by
  have c1 := hc.t.cell
  have c2 := hc.f.cell
  have c3 := hc.o.cell
  refine EvV.walk rfl fn17 rfl nt17 rfl ?_
  simp only [List.length_cons, List.length_nil, List.cons_append, List.nil_append, Nat.reduceAdd, Nat.reduceSub, List.replicate]
  repeat' (first | refine go1 ?_ | refine blockK_else rfl ?_ | (refine go2 fun A B a b => ?_; simp only [go_sem, *, wpK_append ty41 rfl, wpK_assignN ty41 rfl, wpK_buildSlice ty41 rfl, encC, c1, c2, c3, lenK_sls hc.t, List.length_map]; (repeat' first | apply a.1 | apply b.1 | refine iteI (fun h => ?_) fun h => ?_) <;> clear a b A B))
  obtain ⟨st, hst⟩ : ∃ st, (c.tv.stab && (c.fv.stab && c.ov.stab)) = st := ⟨_, rfl⟩
  rw [hst]
  clear hst
  refine wpC_loopF [6, 12, 13, 14, 15, 16, 17, 18, 19, 20, 21, 22, 23, 24, 25, 26, 27, 28] (fun p : List Val × List Val => [(3, .sl 2 (txtF p.1).length 0 (txtF p.1).length 1), (11, .int .i64 p.1.length)]) (fun p G => .arr [encC c] 11 0 st :: .arr [] 1 0 true :: .arr (strs (txtF p.1)) 1 0 true :: .map (mstr (txtF p.1)) :: G)
    (fun p => c.tl = p.1 ++ p.2) (fun p => p.2.length) ([], c.tl) rfl ?_ ⟨[], rfl⟩ ?_
  · ((try simp only [eraseA_cons, eraseA_nil, setL_cons, setL_nil, List.set_cons_zero, List.set_cons_succ]); all_goals (first | rfl | (simp only [len_snoc, ints_len, List.length_map, ]; done) | (simp only [len_snoc, len_mid, ints_len, List.length_map, List.length_append, List.length_cons, List.length_nil, Nat.zero_add, ]; first | done | rfl)))
  rintro ⟨pre, post⟩ g G h1
  simp only at h1
  cases post with
  | cons x post =>
    have hpl : pre.length < c.tl.length := by rw [h1]; simp
    have hdl := txtF_len pre
    have lt1 : (pre.length : Int) < (c.tl.length : Int) := by omega
    have w1 := wrap_succ (n := pre.length) (by omega)
    have i0 := idx_sls hc.t (X := CX) ty47 ty71 rfl (n := pre.length) (row := encV x) (k := .i64) (by rw [h1]; exact map_midV encV pre x post)
    have hh1 : Hold (c.tl = (pre ++ [x]) ++ post) := ⟨by rw [h1]; simp⟩
    have hs := txtF_snoc pre x
    have b5 : ((txtF pre).length + 1) * 16 ≤ 140737488355328 := by omega
    have b6 : (txtF pre).length + 1 ≤ 140737488355328 := by omega
    have hf := find_mstr x.t (txtF pre)
    clear h1 hpl hdl
    cases k : inS (txtF pre) x.t with
    | true =>
      rw [k, if_pos rfl] at hs hf
      have hh2 : Hold (txtF (pre ++ [x]) = txtF pre) := ⟨hs⟩
      clear hs k b5 b6
      generalize txtF pre = L at *
      simp only [garbA_cons, garbA_nil, setL_cons, setL_nil, List.set_cons_zero, List.set_cons_succ]
      repeat' (first | refine go1 ?_ | refine blockK_else rfl ?_ | (refine go2 fun A B a b => ?_; simp only [go_sem, *, wpK_append ty41 rfl, wpK_assignN ty41 rfl, wpK_buildSlice ty41 rfl, lt1, w1, i0, encC, encV, c1, c2, c3, hf, cells_str, lookA, mupK, keyA, unCells, Option.isSome_some, lenK_sls hc.t, set_lenAdd, Nat.zero_le, getElem?_len, getElem?_lenAdd, set_len, List.append_assoc, List.length_append, List.length_map, lenK_str, strs_len, snap_sl, ints_len, ints_take, List.take_length, Bool.true_or]; (repeat' first | apply a.1 | apply b.1 | refine iteI (fun h => ?_) fun h => ?_) <;> clear a b A B))
      refine loopF_next (pre ++ [x], post) (Nat.lt_succ_self _) hh1.out ?_ ?_
      · ((try simp only [eraseA_cons, eraseA_nil, setL_cons, setL_nil, List.set_cons_zero, List.set_cons_succ]); all_goals (first | rfl | (simp only [len_snoc, ints_len, List.length_map, hh2.out]; done) | (simp only [len_snoc, len_mid, ints_len, List.length_map, List.length_append, List.length_cons, List.length_nil, Nat.zero_add, hh2.out]; first | done | rfl)))
      · simp only [hh2.out]; exact ⟨_, rfl⟩
    | false =>
      have hu := upd_mstr k
      rw [k, if_neg (by simp)] at hs hf
      have hh2 : Hold (txtF (pre ++ [x]) = txtF pre ++ [x.t]) := ⟨hs⟩
      clear hs k
      generalize txtF pre = L at *
      have hi := strs_snoc L x.t
      simp only [garbA_cons, garbA_nil, setL_cons, setL_nil, List.set_cons_zero, List.set_cons_succ]
      repeat' (first | refine go1 ?_ | refine blockK_else rfl ?_ | (refine go2 fun A B a b => ?_; simp only [go_sem, *, wpK_append ty41 rfl, wpK_assignN ty41 rfl, wpK_buildSlice ty41 rfl, lt1, w1, i0, encC, encV, c1, c2, c3, hf, hu, hi, b5, b6, cells_str, lookA, mupK, keyA, unCells, Option.isSome_some, lenK_sls hc.t, set_lenAdd, Nat.zero_le, getElem?_len, getElem?_lenAdd, set_len, List.append_assoc, List.length_append, List.length_map, lenK_str, strs_len, snap_sl, ints_len, ints_take, List.take_length, Bool.true_or]; (repeat' first | apply a.1 | apply b.1 | refine iteI (fun h => ?_) fun h => ?_) <;> clear a b A B))
      refine loopF_next (pre ++ [x], post) (Nat.lt_succ_self _) hh1.out ?_ ?_
      · ((try simp only [eraseA_cons, eraseA_nil, setL_cons, setL_nil, List.set_cons_zero, List.set_cons_succ]); all_goals (first | rfl | (simp only [len_snoc, ints_len, List.length_map, hh2.out]; done) | (simp only [len_snoc, len_mid, ints_len, List.length_map, List.length_append, List.length_cons, List.length_nil, Nat.zero_add, hh2.out]; first | done | rfl)))
      · simp only [hh2.out]; exact ⟨_, rfl⟩
  | nil =>
    rw [List.append_nil] at h1
    rw [h1]
    clear h1
    generalize txtF pre = L at *
    simp only [garbA_cons, garbA_nil, setL_cons, setL_nil, List.set_cons_zero, List.set_cons_succ]
    repeat' (first | refine go1 ?_ | refine blockK_else rfl ?_ | (refine go2 fun A B a b => ?_; simp only [go_sem, *, wpK_append ty41 rfl, wpK_assignN ty41 rfl, wpK_buildSlice ty41 rfl, Int.lt_irrefl, set_lenAdd, Nat.zero_le, getElem?_len, getElem?_lenAdd, set_len, List.append_assoc, List.length_append, List.length_map, lenK_str, strs_len, snap_sl, ints_len, ints_take, List.take_length, Bool.true_or]; (repeat' first | apply a.1 | apply b.1 | refine iteI (fun h => ?_) fun h => ?_) <;> clear a b A B))
    simp only [go_sem, wpK_append ty41 rfl, wpK_assignN ty41 rfl, wpK_buildSlice ty41 rfl, set_lenAdd, Nat.zero_le, getElem?_len, getElem?_lenAdd, set_len, List.append_assoc, List.length_append, List.length_map, lenK_str, strs_len, snap_sl, ints_len, ints_take, List.take_length, Bool.true_or]

theorem idx_ownV {X : Ctx} {t el : TypeId} {a c : Nat} {b : Bool} {d : List AV} {ei : TyI} {bk e len sz n : Nat} {k : IntKind} (ht : X.ty t = some ⟨a, b, c, d, .slice el⟩) (he : X.ty el = some ei) (hz : sz = ei.size) (hn : n < len) :
    indexAddrA X t (.sl bk e 0 len sz) (.int k n) = some (.ptr bk e sz n 0) := by
  simp only [indexAddrA, ht, he, hz, Int.toNat_natCast, Int.natCast_nonneg, Nat.zero_add, true_and, and_true]
  rw [if_pos (by omega)]

theorem textsR {c : Cel} (hc : c.ok) (hl : c.tl.length ≤ 1000) : EvV CX 18 [.agg (encC c)] (· = .osl 1 (strs (txtF c.tl))) := by
  have c1 := hc.t.cell
  have c2 := hc.f.cell
  have c3 := hc.o.cell
  refine EvV.walk rfl fn18 rfl nt18 rfl ?_
  simp only [List.length_cons, List.length_nil, List.cons_append, List.nil_append, Nat.reduceAdd, Nat.reduceSub, List.replicate]
  repeat' (first | refine go1 ?_ | refine blockK_else rfl ?_ | (refine go2 fun A B a b => ?_; simp only [go_sem, *, wpK_append ty41 rfl, wpK_assignN ty41 rfl, wpK_buildSlice ty41 rfl, encC, c1, c2, c3, lenK_sls hc.t, List.length_map]; (repeat' first | apply a.1 | apply b.1 | refine iteI (fun h => ?_) fun h => ?_) <;> clear a b A B))
  obtain ⟨st, hst⟩ : ∃ st, (c.tv.stab && (c.fv.stab && c.ov.stab)) = st := ⟨_, rfl⟩
  rw [hst]
  clear hst
  refine wpC_loopF [4, 5, 6, 11, 12, 13, 14, 15, 16, 17, 18, 19, 20, 21, 22, 23, 24, 25, 26, 27, 28, 29, 30, 31, 32, 33, 34, 35, 36, 37, 38, 39, 40, 41, 42, 43, 44] (fun p : List Val × List Val => [(3, .sl 2 (txtF p.1).length 0 (txtF p.1).length 1), (10, .int .i64 p.1.length)]) (fun p G => .arr [encC c] 11 0 st :: .arr [] 1 0 true :: .arr (strs (txtF p.1)) 1 0 true :: G)
    (fun p => c.tl = p.1 ++ p.2) (fun p => p.2.length) ([], c.tl) rfl ?_ ⟨[], rfl⟩ ?_
  · ((try simp only [eraseA_cons, eraseA_nil, setL_cons, setL_nil, List.set_cons_zero, List.set_cons_succ]); all_goals (first | rfl | (simp only [len_snoc, ints_len, List.length_map, ]; done) | (simp only [len_snoc, len_mid, ints_len, List.length_map, List.length_append, List.length_cons, List.length_nil, Nat.zero_add, ]; first | done | rfl)))
  rintro ⟨pre, post⟩ g G h1
  simp only at h1
  cases post with
  | cons x post =>
    have hpl : pre.length < c.tl.length := by rw [h1]; simp
    have hdl := txtF_len pre
    have lt1 : (pre.length : Int) < (c.tl.length : Int) := by omega
    have w1 := wrap_succ (n := pre.length) (by omega)
    have i0 := idx_sls hc.t (X := CX) ty47 ty71 rfl (n := pre.length) (row := encV x) (k := .i64) (by rw [h1]; exact map_midV encV pre x post)
    have hh1 : Hold (c.tl = (pre ++ [x]) ++ post) := ⟨by rw [h1]; simp⟩
    have hs := txtF_snoc pre x
    have b5 : ((txtF pre).length + 1) * 16 ≤ 140737488355328 := by omega
    have b6 : (txtF pre).length + 1 ≤ 140737488355328 := by omega
    have b7 : Hold ((txtF pre).length ≤ 1000) := ⟨by omega⟩
    clear h1 hpl hdl
    generalize txtF pre = L at *
    simp only [garbA_cons, garbA_nil, setL_cons, setL_nil, List.set_cons_zero, List.set_cons_succ]
    repeat' (first | refine go1 ?_ | refine blockK_else rfl ?_ | (refine go2 fun A B a b => ?_; simp only [go_sem, *, wpK_append ty41 rfl, wpK_assignN ty41 rfl, wpK_buildSlice ty41 rfl, lt1, lenK_sls hc.t, set_lenAdd, Nat.zero_le, getElem?_len, getElem?_lenAdd, set_len, List.append_assoc, List.length_append, List.length_map, lenK_str, strs_len, snap_sl, ints_len, ints_take, List.take_length, Bool.true_or]; (repeat' first | apply a.1 | apply b.1 | refine iteI (fun h => ?_) fun h => ?_) <;> clear a b A B))
    refine wpC_eachE [6, 16, 17, 18, 19, 20, 21, 22, 23, 24, 25, 26, 27, 28, 29, 30, 31, 32] 15 (fun p2 => [(5, .bool (inS p2 x.t))]) L (fun _ _ => True) ?_ ?_ ?_ ?_
    · trivial
    · ((try simp only [eraseA_cons, eraseA_nil, setL_cons, setL_nil, List.set_cons_zero, List.set_cons_succ]); all_goals (first | rfl | (simp only [len_snoc, ints_len, List.length_map, ]; done) | (simp only [len_snoc, len_mid, ints_len, List.length_map, List.length_append, List.length_cons, List.length_nil, Nat.zero_add, ]; first | done | rfl)))
    · intro g2 G2 _
      cases k : inS L x.t with
      | true =>
        rw [k, if_pos rfl] at hs
        have hh2 : Hold (txtF (pre ++ [x]) = L) := ⟨hs⟩
        clear hs k b5 b6 b7
        simp only [garbA_cons, garbA_nil, setL_cons, setL_nil, List.set_cons_zero, List.set_cons_succ]
        repeat' (first | refine go1 ?_ | refine blockK_else rfl ?_ | (refine go2 fun A B a b => ?_; simp only [go_sem, *, wpK_append ty41 rfl, wpK_assignN ty41 rfl, wpK_buildSlice ty41 rfl, Int.lt_irrefl, w1, set_lenAdd, Nat.zero_le, getElem?_len, getElem?_lenAdd, set_len, List.append_assoc, List.length_append, List.length_map, lenK_str, strs_len, snap_sl, ints_len, ints_take, List.take_length, Bool.true_or]; (repeat' first | apply a.1 | apply b.1 | refine iteI (fun h => ?_) fun h => ?_) <;> clear a b A B))
        refine loopF_next (pre ++ [x], post) (Nat.lt_succ_self _) hh1.out ?_ ?_
        · ((try simp only [eraseA_cons, eraseA_nil, setL_cons, setL_nil, List.set_cons_zero, List.set_cons_succ]); all_goals (first | rfl | (simp only [len_snoc, ints_len, List.length_map, hh2.out]; done) | (simp only [len_snoc, len_mid, ints_len, List.length_map, List.length_append, List.length_cons, List.length_nil, Nat.zero_add, hh2.out]; first | done | rfl)))
        · simp only [hh2.out, List.append_assoc]; exact ⟨_, rfl⟩
      | false =>
        rw [k, if_neg (by simp)] at hs
        have hh2 : Hold (txtF (pre ++ [x]) = L ++ [x.t]) := ⟨hs⟩
        clear hs k b7
        have hi := strs_snoc L x.t
        simp only [garbA_cons, garbA_nil, setL_cons, setL_nil, List.set_cons_zero, List.set_cons_succ]
        repeat' (first | refine go1 ?_ | refine blockK_else rfl ?_ | (refine go2 fun A B a b => ?_; simp only [go_sem, *, wpK_append ty41 rfl, wpK_assignN ty41 rfl, wpK_buildSlice ty41 rfl, Int.lt_irrefl, w1, i0, encV, encC, hi, b5, b6, cells_str, set_lenAdd, Nat.zero_le, getElem?_len, getElem?_lenAdd, set_len, List.append_assoc, List.length_append, List.length_map, lenK_str, strs_len, snap_sl, ints_len, ints_take, List.take_length, Bool.true_or]; (repeat' first | apply a.1 | apply b.1 | refine iteI (fun h => ?_) fun h => ?_) <;> clear a b A B))
        refine loopF_next (pre ++ [x], post) (Nat.lt_succ_self _) hh1.out ?_ ?_
        · ((try simp only [eraseA_cons, eraseA_nil, setL_cons, setL_nil, List.set_cons_zero, List.set_cons_succ]); all_goals (first | rfl | (simp only [len_snoc, ints_len, List.length_map, hh2.out]; done) | (simp only [len_snoc, len_mid, ints_len, List.length_map, List.length_append, List.length_cons, List.length_nil, Nat.zero_add, hh2.out]; first | done | rfl)))
        · simp only [hh2.out, List.append_assoc]; exact ⟨_, rfl⟩
    · intro g2 G2 p2 o q2 h2 _
      have lp : p2.length < L.length := by rw [h2]; simp
      have lt2 : (p2.length : Int) < (L.length : Int) := by omega
      have w2 := wrap_succ (n := p2.length) (by have := b7.out; omega)
      have io := idx_ownV (X := CX) (bk := 2) (e := L.length) (len := L.length) (sz := 1) (n := p2.length) (k := .i64) ty41 ty9 rfl lp
      have sm : (strs L)[p2.length]? = some [.str o] := by rw [h2]; exact strs_mid p2 o q2
      have hh3 : Hold (L = p2 ++ o :: q2) := ⟨h2⟩
      have hin := inS_snoc p2 o x.t
      clear h2 hs b5 b6
      cases kb : inS p2 x.t with
      | true =>
        rw [kb, Bool.true_or] at hin
        have hh4 : Hold (inS (p2 ++ [o]) x.t = true) := ⟨hin⟩
        clear hin
        simp only [garbA_cons, garbA_nil, setL_cons, setL_nil, List.set_cons_zero, List.set_cons_succ]
        repeat' (first | refine go1 ?_ | refine blockK_else rfl ?_ | (refine go2 fun A B a b => ?_; simp only [go_sem, *, wpK_append ty41 rfl, wpK_assignN ty41 rfl, wpK_buildSlice ty41 rfl, lt2, w2, kb, set_lenAdd, Nat.zero_le, getElem?_len, getElem?_lenAdd, set_len, List.append_assoc, List.length_append, List.length_map, lenK_str, strs_len, snap_sl, ints_len, ints_take, List.take_length, Bool.true_or]; (repeat' first | apply a.1 | apply b.1 | refine iteI (fun h => ?_) fun h => ?_) <;> clear a b A B))
        refine each_next hh3.out trivial ?_ ?_
        · ((try simp only [eraseA_cons, eraseA_nil, setL_cons, setL_nil, List.set_cons_zero, List.set_cons_succ]); all_goals (first | rfl | (simp only [len_snoc, ints_len, List.length_map, hh4.out]; done) | (simp only [len_snoc, len_mid, ints_len, List.length_map, List.length_append, List.length_cons, List.length_nil, Nat.zero_add, hh4.out]; first | done | rfl)))
        · first | exact ⟨[], (List.append_nil _).symm⟩ | exact ⟨_, rfl⟩ | (simp only [List.append_assoc, List.cons_append, List.nil_append]; exact ⟨_, rfl⟩)
      | false =>
        rw [kb, Bool.false_or] at hin
        have hh4 : Hold (inS (p2 ++ [o]) x.t = decide (o = x.t)) := ⟨hin⟩
        clear hin
        have sb : strBin .eql o x.t = some (.bool (decide (o = x.t))) := by simp only [strBin, bLeq]
        generalize decide (o = x.t) = D at *
        simp only [garbA_cons, garbA_nil, setL_cons, setL_nil, List.set_cons_zero, List.set_cons_succ]
        repeat' (first | refine go1 ?_ | refine blockK_else rfl ?_ | (refine go2 fun A B a b => ?_; simp only [go_sem, *, wpK_append ty41 rfl, wpK_assignN ty41 rfl, wpK_buildSlice ty41 rfl, lt2, w2, kb, lp, io, sm, i0, encV, encC, sb, set_lenAdd, Nat.zero_le, getElem?_len, getElem?_lenAdd, set_len, List.append_assoc, List.length_append, List.length_map, lenK_str, strs_len, snap_sl, ints_len, ints_take, List.take_length, Bool.true_or]; (repeat' first | apply a.1 | apply b.1 | refine iteI (fun h => ?_) fun h => ?_) <;> clear a b A B))
        refine each_next hh3.out trivial ?_ ?_
        · ((try simp only [eraseA_cons, eraseA_nil, setL_cons, setL_nil, List.set_cons_zero, List.set_cons_succ]); all_goals (first | rfl | (simp only [len_snoc, ints_len, List.length_map, hh4.out]; done) | (simp only [len_snoc, len_mid, ints_len, List.length_map, List.length_append, List.length_cons, List.length_nil, Nat.zero_add, hh4.out]; first | done | rfl)))
        · first | exact ⟨[], (List.append_nil _).symm⟩ | exact ⟨_, rfl⟩ | (simp only [List.append_assoc, List.cons_append, List.nil_append]; exact ⟨_, rfl⟩)
  | nil =>
    rw [List.append_nil] at h1
    rw [h1]
    clear h1
    generalize txtF pre = L at *
    simp only [garbA_cons, garbA_nil, setL_cons, setL_nil, List.set_cons_zero, List.set_cons_succ]
    repeat' (first | refine go1 ?_ | refine blockK_else rfl ?_ | (refine go2 fun A B a b => ?_; simp only [go_sem, *, wpK_append ty41 rfl, wpK_assignN ty41 rfl, wpK_buildSlice ty41 rfl, Int.lt_irrefl, set_lenAdd, Nat.zero_le, getElem?_len, getElem?_lenAdd, set_len, List.append_assoc, List.length_append, List.length_map, lenK_str, strs_len, snap_sl, ints_len, ints_take, List.take_length, Bool.true_or]; (repeat' first | apply a.1 | apply b.1 | refine iteI (fun h => ?_) fun h => ?_) <;> clear a b A B))
    simp only [go_sem, wpK_append ty41 rfl, wpK_assignN ty41 rfl, wpK_buildSlice ty41 rfl, set_lenAdd, Nat.zero_le, getElem?_len, getElem?_lenAdd, set_len, List.append_assoc, List.length_append, List.length_map, lenK_str, strs_len, snap_sl, ints_len, ints_take, List.take_length, Bool.true_or]

theorem sameSE {v w : AV} {l : List ByteArray} (hv : SLs 1 (strs l) v) (hw : SLs 1 (strs l) w) (hl : l.length < 9223372036854775807) : EvV CX 16 [v, w] (· = .bool true) := by
  refine EvV.walk rfl fn16 rfl nt16 rfl ?_
  simp only [List.length_cons, List.length_nil, List.cons_append, List.nil_append, Nat.reduceAdd, Nat.reduceSub, List.replicate]
  repeat' (first | refine go1 ?_ | refine blockK_else rfl ?_ | (refine go2 fun A B a b => ?_; simp only [go_sem, *, lenK_sls hv, lenK_sls hw, strs_len, beq_self_eq_true]; (repeat' first | apply a.1 | apply b.1 | refine iteI (fun h => ?_) fun h => ?_) <;> clear a b A B))
  refine wpC_each [4, 11, 12, 13, 14, 15, 16, 17, 18, 19, 20, 21, 22, 23, 24, 25] 5 l (fun _ _ => True) ?_ ?_ ?_ ?_
  · trivial
  · ((try simp only [eraseA_cons, eraseA_nil, setL_cons, setL_nil, List.set_cons_zero, List.set_cons_succ]); all_goals (first | rfl | (simp only [len_snoc, ints_len, List.length_map, ]; done) | (simp only [len_snoc, len_mid, ints_len, List.length_map, List.length_append, List.length_cons, List.length_nil, Nat.zero_add, ]; first | done | rfl)))
  · intro g G _
    simp only [garbA_cons, garbA_nil, setL_cons, setL_nil, List.set_cons_zero, List.set_cons_succ]
    repeat' (first | refine go1 ?_ | refine blockK_else rfl ?_ | (refine go2 fun A B a b => ?_; simp only [go_sem, *, Int.lt_irrefl, lenK_sls hv, strs_len]; (repeat' first | apply a.1 | apply b.1 | refine iteI (fun h => ?_) fun h => ?_) <;> clear a b A B))
    simp only [go_sem]
  · intro g G pre x post h1 _
    have hpl : pre.length < l.length := by rw [h1]; simp
    have lt1 : (pre.length : Int) < (l.length : Int) := by omega
    have w1 := wrap_succ (n := pre.length) (by omega)
    have i1 := idx_sls hv (X := CX) ty41 ty9 rfl (n := pre.length) (row := [.str x]) (k := .i64) (by rw [h1]; exact strs_mid pre x post)
    have i2 := idx_sls hw (X := CX) ty41 ty9 rfl (n := pre.length) (row := [.str x]) (k := .i64) (by rw [h1]; exact strs_mid pre x post)
    have hh1 : Hold (l = pre ++ x :: post) := ⟨h1⟩
    have sb : strBin .neq x x = some (.bool false) := by simp [strBin]
    clear h1 hpl
    simp only [garbA_cons, garbA_nil, setL_cons, setL_nil, List.set_cons_zero, List.set_cons_succ]
    repeat' (first | refine go1 ?_ | refine blockK_else rfl ?_ | (refine go2 fun A B a b => ?_; simp only [go_sem, *, lt1, w1, i1, i2, sb, lenK_sls hv, strs_len]; (repeat' first | apply a.1 | apply b.1 | refine iteI (fun h => ?_) fun h => ?_) <;> clear a b A B))
    refine each_next hh1.out trivial ?_ ?_
    · ((try simp only [eraseA_cons, eraseA_nil, setL_cons, setL_nil, List.set_cons_zero, List.set_cons_succ]); all_goals (first | rfl | (simp only [len_snoc, ints_len, List.length_map, ]; done) | (simp only [len_snoc, len_mid, ints_len, List.length_map, List.length_append, List.length_cons, List.length_nil, Nat.zero_add, ]; first | done | rfl)))
    · first | exact ⟨[], (List.append_nil _).symm⟩ | exact ⟨_, rfl⟩ | (simp only [List.append_assoc, List.cons_append, List.nil_append]; exact ⟨_, rfl⟩)

/- Repair: the law Conflicts. -/
open Go.Proofs
attribute [local go_sem] ty22 ty26 br10 br15 br16 br17 br18 br19 br20 br21 fz18 fz19 fz20 fz21
set_option maxHeartbeats 4000000

theorem outFrz {l : List Int} {f : FuncId} {args : List AV} (h : ∃ r, OutI l r ∧ EvV CX f args (· = r)) : ∃ v r, SLs 1 (ints l) v ∧ freezeA r = v ∧ (∀ Q : AV → Prop, EvV CX f args Q = Q r) := by
  obtain ⟨r, h1, h2⟩ := h
  refine ⟨_, r, ?_, rfl, h2.rw⟩
  cases h1 with
  | own => simp only [freezeA, frz1]; exact .rows true
  | part => simp only [freezeA, frz1]; exact .rows true
  | nil h => simp only [freezeA, frz1]; exact .nil (by rw [h]; rfl)

theorem lawConf52 {v : AV} {l : List Cel} (hv : SLs 11 (l.map encC) v) (hok : ∀ c ∈ l, c.ok) (hl : l.length ≤ 9223372036854775807) (hll : ∀ c ∈ l, c.tl.length ≤ 9223372036854775807 ∧ c.fl.length ≤ 9223372036854775807 ∧ c.ol.length ≤ 9223372036854775807) :
    EvV CX 4 [v] (· = .bool true) := by
  have qa := awake.rw
  obtain ⟨b, hb, qf⟩ := fewC hv hok hl hll
  have q1 := qf.rw
  have n0 := hv.snap
  clear qf
  cases b with
  | false =>
    clear hb hl hll
    refine EvV.walk rfl fn4 rfl nt4 rfl ?_
    simp only [List.length_cons, List.length_nil, List.cons_append, List.nil_append, Nat.reduceAdd, Nat.reduceSub, List.replicate]
    repeat' (first | refine go1 ?_ | refine blockK_else rfl ?_ | (refine go2 fun A B a b => ?_; simp only [go_sem, *, q1, qa, n0]; (repeat' first | apply a.1 | apply b.1 | refine iteI (fun h => ?_) fun h => ?_) <;> clear a b A B))
    simp only [go_sem]
  | true =>
    have hf := hb rfl
    clear hb hl hll
    have hfl := hf.len
    obtain ⟨w, r, hw, f1, q5⟩ := outFrz (confP hv hok (by omega))
    have q6 := (confR hv hok (by omega)).rw
    have hcl := conf_len l
    have hsl : (sorted (conf l)).length ≤ 320 := by
      rw [← sortR_eq]
      have := puts_lenV (conf l) []
      simp only [List.length_nil] at this
      show ((conf l).foldl put []).length ≤ 320
      omega
    have q7 := (same1 w (.tsl true 1 (ints (sorted (conf l)))) _ _ hw (.rows true) (by omega)).rw
    simp only [decide_true] at q7
    have nw := hw.snap
    have ny : ∀ (S : Store) (rows : List (List AV)), snap S (.tsl true 1 rows) = some (.tsl true 1 rows) := fun S rows => by simp only [snap]
    refine EvV.walk rfl fn4 rfl nt4 rfl ?_
    simp only [List.length_cons, List.length_nil, List.cons_append, List.nil_append, Nat.reduceAdd, Nat.reduceSub, List.replicate]
    repeat' (first | refine go1 ?_ | refine blockK_else rfl ?_ | (refine go2 fun A B a b => ?_; simp only [go_sem, *, q1, n0, lenK_sls hv, List.length_map]; (repeat' first | apply a.1 | apply b.1 | refine iteI (fun h => ?_) fun h => ?_) <;> clear a b A B))
    refine wpC_each [2, 3, 11, 12, 13, 14, 15, 16, 17, 18, 19, 20, 21, 22, 23, 24, 25] 10 l (fun _ _ => True) ?_ ?_ ?_ ?_
    · trivial
    · ((try simp only [eraseA_cons, eraseA_nil, setL_cons, setL_nil, List.set_cons_zero, List.set_cons_succ]); all_goals (first | rfl | (simp only [len_snoc, ints_len, List.length_map, ]; done) | (simp only [len_snoc, len_mid, ints_len, List.length_map, List.length_append, List.length_cons, List.length_nil, Nat.zero_add, ]; first | done | rfl)))
    · intro g G _
      simp only [garbA_cons, garbA_nil, setL_cons, setL_nil, List.set_cons_zero, List.set_cons_succ]
      repeat' (first | refine go1 ?_ | refine blockK_else rfl ?_ | (refine go2 fun A B a b => ?_; simp only [go_sem, *, Int.lt_irrefl, n0, q5, q6, q7, f1, nw, ny, qa]; (repeat' first | apply a.1 | apply b.1 | refine iteI (fun h => ?_) fun h => ?_) <;> clear a b A B))
      simp only [go_sem]
    · intro g G pre x post h1 _
      have hpl : pre.length < l.length := by rw [h1]; simp
      have lt1 : (pre.length : Int) < (l.length : Int) := by omega
      have w1 := wrap_succ (n := pre.length) (by omega)
      have i1 := idx_sls hv (X := CX) ty26 ty49 rfl (n := pre.length) (row := encC x) (k := .i64) (by rw [h1]; exact map_midV encC pre x post)
      have hxm : x ∈ l := by rw [h1]; simp
      have hx := hok x hxm
      have d1 := hx.t.cell
      have d2 := hx.f.cell
      have d3 := hx.o.cell
      have e1 := hx.t.snap
      have e2 := hx.f.snap
      have e3 := hx.o.snap
      have htl := (hf.each x hxm).t
      have p1 := (textsP hx (by omega)).rw
      have p2 := (textsR hx (by omega)).rw
      have hlen := txtF_len x.tl
      have p3 := (sameSE (v := .tsl true 1 (strs (txtF x.tl))) (w := .tsl true 1 (strs (txtF x.tl))) (.rows true) (.rows true) (by omega)).rw
      simp only [encC] at p1 p2
      have hh1 : Hold (l = pre ++ x :: post) := ⟨h1⟩
      clear h1 hpl htl hlen hxm
      generalize txtF x.tl = L at *
      simp only [garbA_cons, garbA_nil, setL_cons, setL_nil, List.set_cons_zero, List.set_cons_succ]
      repeat' (first | refine go1 ?_ | refine blockK_else rfl ?_ | (refine go2 fun A B a b => ?_; simp only [go_sem, *, lt1, w1, i1, encC, d1, d2, d3, e1, e2, e3, p1, p2, p3]; (repeat' first | apply a.1 | apply b.1 | refine iteI (fun h => ?_) fun h => ?_) <;> clear a b A B))
      refine each_next hh1.out trivial ?_ ?_
      · ((try simp only [eraseA_cons, eraseA_nil, setL_cons, setL_nil, List.set_cons_zero, List.set_cons_succ]); all_goals (first | rfl | (simp only [len_snoc, ints_len, List.length_map, ]; done) | (simp only [len_snoc, len_mid, ints_len, List.length_map, List.length_append, List.length_cons, List.length_nil, Nat.zero_add, ]; first | done | rfl)))
      · first | exact ⟨[], (List.append_nil _).symm⟩ | exact ⟨_, rfl⟩ | (simp only [List.append_assoc, List.cons_append, List.nil_append]; exact ⟨_, rfl⟩)

/- Repair: Lost, as the reference tells it. -/
open Go.Proofs
attribute [local go_sem] ty24 ty25 ty31 ty33 ty34 ty44 ty54 ty59 ty65 eq44 eq59 eq65 br25 br41 fz25 fz26
set_option maxHeartbeats 4000000

def hasLo (lo : List (Nt × Int)) (n : Int) : Bool := lo.any fun y => y.1.id == n
theorem hasLo_snoc (lo : List (Nt × Int)) (y : Nt × Int) (n : Int) : hasLo (lo ++ [y]) n = (hasLo lo n || (y.1.id == n)) := by simp [hasLo]
theorem has_both (ds : List Nt) (lo : List (Nt × Int)) (n : Int) : (hasN ds n || hasLo lo n) = (ds.map (·.id) ++ lo.map (·.1.id)).contains n := by
  rw [Bool.eq_iff_iff, Bool.or_eq_true, List.contains_iff_mem, List.mem_append]
  simp only [hasN, hasLo, List.any_eq_true, beq_iff_eq, List.mem_map]
theorem hasLo_nil (n : Int) : hasLo [] n = false := rfl
theorem adoptNB {id : Nat} {cs : List AV} {b : Bool} : adoptA id (.tup [.agg cs, .bool b]) = (.tup [.agg cs, .bool b], []) := rfl

theorem lostR {v dv lv : AV} {l : List Cel} {ds : List Nt} {lo : List (Nt × Int)} (hv : SLs 11 (l.map encC) v) (hok : ∀ c ∈ l, c.ok) (hd : SLs 7 (ds.map encN) dv) (hlo : SLs 8 (lo.map encL) lv) (h1 : l.length ≤ 1000) (h2 : ds.length ≤ 1000) (h3 : lo.length ≤ 1000) :
    EvV CX 23 [v, .agg (docA dv), lv] (· = .osl 1 (ints (sorted (lostF (ds.map (·.id) ++ lo.map (·.1.id)) l)))) := by
  rw [← sortR_eq]
  have c1 := hd.cell
  have n1 := hd.snap
  refine EvV.walk rfl fn23 rfl nt23 rfl ?_
  simp only [List.length_cons, List.length_nil, List.cons_append, List.nil_append, Nat.reduceAdd, Nat.reduceSub, List.replicate]
  repeat' (first | refine go1 ?_ | refine blockK_else rfl ?_ | (refine go2 fun A B a b => ?_; simp only [go_sem, *, wpK_assignN ty22 rfl, docA, c1, lenK_sls hv, List.length_map]; (repeat' first | apply a.1 | apply b.1 | refine iteI (fun h => ?_) fun h => ?_) <;> clear a b A B))
  obtain ⟨st, hst⟩ : ∃ st, dv.stab = st := ⟨_, rfl⟩
  rw [hst]
  clear hst
  refine wpC_loopF [8, 9, 10, 11, 12, 16, 17, 18, 19, 20, 21, 22, 23, 24, 25, 26, 27, 28, 29, 30, 31, 32, 33, 34, 35, 36, 37, 38, 39, 40, 41, 42, 43, 44, 45, 46, 47, 48, 49, 50, 51, 52] (fun p : List Cel × List Cel × List Blk => [(7, .sl (p.2.2.length + 1 + 1) ((lostF (ds.map (·.id) ++ lo.map (·.1.id)) p.1).foldl put []).length 0 ((lostF (ds.map (·.id) ++ lo.map (·.1.id)) p.1).foldl put []).length 1), (15, .int .i64 p.1.length)]) (fun p G => .arr [docA dv] 7 0 st :: .arr [] 1 0 true :: (p.2.2 ++ .arr (ints ((lostF (ds.map (·.id) ++ lo.map (·.1.id)) p.1).foldl put [])) 1 0 true :: G))
    (fun p => l = p.1 ++ p.2.1) (fun p => p.2.1.length) ([], l, []) rfl ?_ ⟨[], rfl⟩ ?_
  · ((try simp only [eraseA_cons, eraseA_nil, setL_cons, setL_nil, List.set_cons_zero, List.set_cons_succ]); all_goals (first | rfl | (simp only [len_snoc, ints_len, List.length_map, ]; done) | (simp only [len_snoc, len_mid, ints_len, List.length_map, List.length_append, List.length_cons, List.length_nil, Nat.zero_add, ]; first | done | rfl)))
  rintro ⟨pre, post, X⟩ g G h4
  simp only at h4
  cases post with
  | cons x post =>
    have hpl : pre.length < l.length := by rw [h4]; simp
    have hdl := lostF_len (ds.map (·.id) ++ lo.map (·.1.id)) pre
    have hpu := puts_lenV (lostF (ds.map (·.id) ++ lo.map (·.1.id)) pre) []
    simp only [List.length_nil, Nat.zero_add] at hpu
    have lt1 : (pre.length : Int) < (l.length : Int) := by omega
    have w1 := wrap_succ (n := pre.length) (by omega)
    have i0 := idx_sls hv (X := CX) ty26 ty49 rfl (n := pre.length) (row := encC x) (k := .i64) (by rw [h4]; exact map_midV encC pre x post)
    have hx := hok x (by rw [h4]; simp)
    have d1 := hx.t.cell
    have d2 := hx.f.cell
    have d3 := hx.o.cell
    have hh1 : Hold (l = (pre ++ [x]) ++ post) := ⟨by rw [h4]; simp⟩
    have hs := lostF_snoc (ds.map (·.id) ++ lo.map (·.1.id)) pre x
    obtain ⟨nt, hg⟩ := getE x.nt.id hd (by omega)
    have qg := hg.rw
    have hb := has_both ds lo x.nt.id
    have hlc : Hold (lo.length ≤ 1000) := ⟨h3⟩
    simp only [docA] at qg
    clear h4 hpl hg
    generalize ds.map (·.id) ++ lo.map (·.1.id) = I at *
    generalize hasN ds x.nt.id = B at *
    have hbH : Hold ((B || hasLo lo x.nt.id) = I.contains x.nt.id) := ⟨hb⟩
    have hsH : Hold (lostF I (pre ++ [x]) = lostF I pre ++ if I.contains x.nt.id = true then [] else [x.nt.id]) := ⟨hs⟩
    clear hb hs
    have hpH : Hold (((lostF I pre).foldl put []).length ≤ 2000) := ⟨by omega⟩
    clear hdl hpu
    obtain ⟨L, hL⟩ : ∃ L, (lostF I pre).foldl put [] = L := ⟨_, rfl⟩
    rw [hL] at hpH
    simp only [hL]
    have hLH : Hold ((lostF I pre).foldl put [] = L) := ⟨hL⟩
    clear hL
    simp only [garbA_cons, garbA_nil, setL_cons, setL_nil, List.set_cons_zero, List.set_cons_succ]
    repeat' (first | refine go1 ?_ | refine blockK_else rfl ?_ | (refine go2 fun A B a b => ?_; simp only [go_sem, *, wpK_assignN ty22 rfl, docA, c1, n1, d1, d2, d3, lt1, i0, encC, encN, qg, adoptNB, lenK_sls hlo, set_lenAdd, Nat.zero_le, getElem?_len, getElem?_lenAdd, set_len, List.append_assoc, List.length_append, List.length_map, lenK_str, snap_sl, rowsOf_sl, ints_len, ints_take, List.take_length, Bool.true_or]; (repeat' first | apply a.1 | apply b.1 | refine iteI (fun h => ?_) fun h => ?_) <;> clear a b A B))
    refine wpC_eachE [12, 33, 34, 35, 36, 37, 38, 39, 40, 41, 42, 43, 44, 45, 46] 32 (fun p2 => [(11, .bool (B || hasLo p2 x.nt.id))]) lo (fun _ _ => True) ?_ ?_ ?_ ?_
    · trivial
    · ((try simp only [eraseA_cons, eraseA_nil, setL_cons, setL_nil, List.set_cons_zero, List.set_cons_succ]); all_goals (first | rfl | (simp only [len_snoc, ints_len, List.length_map, hasLo_nil, Bool.or_false]; done) | (simp only [len_snoc, len_mid, ints_len, List.length_map, List.length_append, List.length_cons, List.length_nil, Nat.zero_add, hasLo_nil, Bool.or_false]; first | done | rfl)))
    · intro g2 G2 _
      have hc := hbH.out
      cases k : I.contains x.nt.id with
      | true =>
        rw [k] at hc
        have hh2 : Hold ((lostF I (pre ++ [x])).foldl put [] = L) := ⟨by rw [hsH.out, k, if_pos rfl, List.append_nil]; exact hLH.out⟩
        clear k
        simp only [garbA_cons, garbA_nil, setL_cons, setL_nil, List.set_cons_zero, List.set_cons_succ]
        repeat' (first | refine go1 ?_ | refine blockK_else rfl ?_ | (refine go2 fun A B a b => ?_; simp only [go_sem, *, wpK_assignN ty22 rfl, Int.lt_irrefl, w1, hc, set_lenAdd, Nat.zero_le, getElem?_len, getElem?_lenAdd, set_len, List.append_assoc, List.length_append, List.length_map, lenK_str, snap_sl, rowsOf_sl, ints_len, ints_take, List.take_length, Bool.true_or]; (repeat' first | apply a.1 | apply b.1 | refine iteI (fun h => ?_) fun h => ?_) <;> clear a b A B))
        refine loopF_next (pre ++ [x], post, X) (Nat.lt_succ_self _) hh1.out ?_ ?_
        · ((try simp only [eraseA_cons, eraseA_nil, setL_cons, setL_nil, List.set_cons_zero, List.set_cons_succ]); all_goals (first | rfl | (simp only [len_snoc, ints_len, List.length_map, hh2.out]; done) | (simp only [len_snoc, len_mid, ints_len, List.length_map, List.length_append, List.length_cons, List.length_nil, Nat.zero_add, hh2.out]; first | done | rfl)))
        · simp only [hh2.out, List.append_assoc, List.cons_append]; exact ⟨_, rfl⟩
      | false =>
        rw [k] at hc
        have hh2 : Hold ((lostF I (pre ++ [x])).foldl put [] = put L x.nt.id) := ⟨by rw [hsH.out, k, if_neg (by decide), puts_snocV, hLH.out]⟩
        have qp := (put1 false L x.nt.id (by have := hpH.out; omega)).rw
        have tL : (ints L).take L.length = ints L := by rw [← ints_len L]; exact List.take_length
        clear k
        simp only [garbA_cons, garbA_nil, setL_cons, setL_nil, List.set_cons_zero, List.set_cons_succ]
        repeat' (first | refine go1 ?_ | refine blockK_else rfl ?_ | (refine go2 fun A B a b => ?_; simp only [go_sem, *, wpK_assignN ty22 rfl, Int.lt_irrefl, w1, hc, qp, tL, set_lenAdd, Nat.zero_le, getElem?_len, getElem?_lenAdd, set_len, List.append_assoc, List.length_append, List.length_map, lenK_str, snap_sl, rowsOf_sl, ints_len, ints_take, List.take_length, Bool.true_or]; (repeat' first | apply a.1 | apply b.1 | refine iteI (fun h => ?_) fun h => ?_) <;> clear a b A B))
        refine loopF_next (pre ++ [x], post, X ++ .arr (ints L) 1 0 true :: (G ++ .arr [encN nt] 7 1 true :: G2)) (Nat.lt_succ_self _) hh1.out ?_ ?_
        · ((try simp only [eraseA_cons, eraseA_nil, setL_cons, setL_nil, List.set_cons_zero, List.set_cons_succ]); all_goals (first | rfl | (simp only [len_snoc, ints_len, List.length_map, hh2.out]; done) | (simp only [len_snoc, len_mid, ints_len, List.length_map, List.length_append, List.length_cons, List.length_nil, Nat.zero_add, hh2.out]; first | done | rfl)))
        · exact ⟨[], by simp [hh2.out, docA, encN]⟩
    · intro g2 G2 p2 o q2 h5 _
      have lp : p2.length < lo.length := by rw [h5]; simp
      have lt2 : (p2.length : Int) < (lo.length : Int) := by omega
      have w2 := wrap_succ (n := p2.length) (by have := hlc.out; omega)
      have io := idx_sls hlo (X := CX) ty34 ty59 rfl (n := p2.length) (row := encL o) (k := .i64) (by rw [h5]; exact map_midV encL p2 o q2)
      have hh3 : Hold (lo = p2 ++ o :: q2) := ⟨h5⟩
      have hin := hasLo_snoc p2 o x.nt.id
      clear h5
      cases kb : (B || hasLo p2 x.nt.id) with
      | true =>
        have hh4 : Hold ((B || hasLo (p2 ++ [o]) x.nt.id) = true) := ⟨by rw [hin, ← Bool.or_assoc, kb, Bool.true_or]⟩
        clear hin
        simp only [garbA_cons, garbA_nil, setL_cons, setL_nil, List.set_cons_zero, List.set_cons_succ]
        repeat' (first | refine go1 ?_ | refine blockK_else rfl ?_ | (refine go2 fun A B a b => ?_; simp only [go_sem, *, wpK_assignN ty22 rfl, lt2, w2, kb, set_lenAdd, Nat.zero_le, getElem?_len, getElem?_lenAdd, set_len, List.append_assoc, List.length_append, List.length_map, lenK_str, snap_sl, rowsOf_sl, ints_len, ints_take, List.take_length, Bool.true_or]; (repeat' first | apply a.1 | apply b.1 | refine iteI (fun h => ?_) fun h => ?_) <;> clear a b A B))
        refine each_next hh3.out trivial ?_ ?_
        · ((try simp only [eraseA_cons, eraseA_nil, setL_cons, setL_nil, List.set_cons_zero, List.set_cons_succ]); all_goals (first | rfl | (simp only [len_snoc, ints_len, List.length_map, hh4.out]; done) | (simp only [len_snoc, len_mid, ints_len, List.length_map, List.length_append, List.length_cons, List.length_nil, Nat.zero_add, hh4.out]; first | done | rfl)))
        · first | exact ⟨[], (List.append_nil _).symm⟩ | exact ⟨_, rfl⟩ | (simp only [List.append_assoc, List.cons_append, List.nil_append]; exact ⟨_, rfl⟩)
      | false =>
        have hh4 : Hold ((B || hasLo (p2 ++ [o]) x.nt.id) = (o.1.id == x.nt.id)) := ⟨by rw [hin, ← Bool.or_assoc, kb, Bool.false_or]⟩
        clear hin
        obtain ⟨D, hD⟩ : ∃ D, (o.1.id == x.nt.id) = D := ⟨_, rfl⟩
        rw [hD] at hh4
        simp only [garbA_cons, garbA_nil, setL_cons, setL_nil, List.set_cons_zero, List.set_cons_succ]
        repeat' (first | refine go1 ?_ | refine blockK_else rfl ?_ | (refine go2 fun A B a b => ?_; simp only [go_sem, *, wpK_assignN ty22 rfl, lt2, w2, kb, io, encL, hD, set_lenAdd, Nat.zero_le, getElem?_len, getElem?_lenAdd, set_len, List.append_assoc, List.length_append, List.length_map, lenK_str, snap_sl, rowsOf_sl, ints_len, ints_take, List.take_length, Bool.true_or]; (repeat' first | apply a.1 | apply b.1 | refine iteI (fun h => ?_) fun h => ?_) <;> clear a b A B))
        refine each_next hh3.out trivial ?_ ?_
        · ((try simp only [eraseA_cons, eraseA_nil, setL_cons, setL_nil, List.set_cons_zero, List.set_cons_succ]); all_goals (first | rfl | (simp only [len_snoc, ints_len, List.length_map, hh4.out]; done) | (simp only [len_snoc, len_mid, ints_len, List.length_map, List.length_append, List.length_cons, List.length_nil, Nat.zero_add, hh4.out]; first | done | rfl)))
        · first | exact ⟨[], (List.append_nil _).symm⟩ | exact ⟨_, rfl⟩ | (simp only [List.append_assoc, List.cons_append, List.nil_append]; exact ⟨_, rfl⟩)
  | nil =>
    rw [List.append_nil] at h4
    subst h4
    generalize (lostF (ds.map (·.id) ++ lo.map (·.1.id)) l).foldl put [] = L at *
    simp only [garbA_cons, garbA_nil, setL_cons, setL_nil, List.set_cons_zero, List.set_cons_succ]
    repeat' (first | refine go1 ?_ | refine blockK_else rfl ?_ | (refine go2 fun A B a b => ?_; simp only [go_sem, *, wpK_assignN ty22 rfl, Int.lt_irrefl, set_lenAdd, Nat.zero_le, getElem?_len, getElem?_lenAdd, set_len, List.append_assoc, List.length_append, List.length_map, lenK_str, snap_sl, rowsOf_sl, ints_len, ints_take, List.take_length, Bool.true_or]; (repeat' first | apply a.1 | apply b.1 | refine iteI (fun h => ?_) fun h => ?_) <;> clear a b A B))
    simp only [go_sem, wpK_assignN ty22 rfl, set_lenAdd, Nat.zero_le, getElem?_len, getElem?_lenAdd, set_len, List.append_assoc, List.length_append, List.length_map, lenK_str, snap_sl, rowsOf_sl, ints_len, ints_take, List.take_length, Bool.true_or]

/- Repair: the law Lost. -/
open Go.Proofs
attribute [local go_sem] br22 br23 fz10 fz8 fz9
set_option maxHeartbeats 4000000

theorem slsCells {sz : Nat} {rows : List (List AV)} {v : AV} (h : SLs sz rows v) : v.cells = [v] := by cases h <;> rfl

theorem lawLost52 {v dv lv : AV} {l : List Cel} {ds : List Nt} {lo : List (Nt × Int)} (hv : SLs 11 (l.map encC) v) (hok : ∀ c ∈ l, c.ok) (hd : SLs 7 (ds.map encN) dv) (hlo : SLs 8 (lo.map encL) lv) (hl : l.length ≤ 9223372036854775807) (hll : ∀ c ∈ l, c.tl.length ≤ 9223372036854775807 ∧ c.fl.length ≤ 9223372036854775807 ∧ c.ol.length ≤ 9223372036854775807) :
    EvV CX 5 [v, dv, lv] (· = .bool true) := by
  have qa := awake.rw
  obtain ⟨b, hb, qf⟩ := fewC hv hok hl hll
  have q1 := qf.rw
  have n0 := hv.snap
  have n1 := hd.snap
  have n2 := hlo.snap
  have c1 := hd.cell
  have cc := slsCells hd
  clear qf
  cases b with
  | false =>
    clear hb hl hll
    refine EvV.walk rfl fn5 rfl nt5 rfl ?_
    simp only [List.length_cons, List.length_nil, List.cons_append, List.nil_append, Nat.reduceAdd, Nat.reduceSub, List.replicate]
    repeat' (first | refine go1 ?_ | refine blockK_else rfl ?_ | (refine go2 fun A B a b => ?_; simp only [go_sem, *, q1, qa, n0, n1, n2, lenK_sls hd, lenK_sls hlo, List.length_map]; (repeat' first | apply a.1 | apply b.1 | refine iteI (fun h => ?_) fun h => ?_) <;> clear a b A B))
    all_goals simp only [go_sem]
  | true =>
    have hf := hb rfl
    have hfl := hf.len
    clear hb hl hll
    by_cases k1 : (100 : Int) < (ds.length : Int)
    · clear hf hfl
      refine EvV.walk rfl fn5 rfl nt5 rfl ?_
      simp only [List.length_cons, List.length_nil, List.cons_append, List.nil_append, Nat.reduceAdd, Nat.reduceSub, List.replicate]
      repeat' (first | refine go1 ?_ | refine blockK_else rfl ?_ | (refine go2 fun A B a b => ?_; simp only [go_sem, *, q1, qa, n0, n1, n2, k1, lenK_sls hd, lenK_sls hlo, List.length_map]; (repeat' first | apply a.1 | apply b.1 | refine iteI (fun h => ?_) fun h => ?_) <;> clear a b A B))
      all_goals simp only [go_sem]
    by_cases k2 : (100 : Int) < (lo.length : Int)
    · clear hf hfl
      refine EvV.walk rfl fn5 rfl nt5 rfl ?_
      simp only [List.length_cons, List.length_nil, List.cons_append, List.nil_append, Nat.reduceAdd, Nat.reduceSub, List.replicate]
      repeat' (first | refine go1 ?_ | refine blockK_else rfl ?_ | (refine go2 fun A B a b => ?_; simp only [go_sem, *, q1, qa, n0, n1, n2, k1, k2, lenK_sls hd, lenK_sls hlo, List.length_map]; (repeat' first | apply a.1 | apply b.1 | refine iteI (fun h => ?_) fun h => ?_) <;> clear a b A B))
      all_goals simp only [go_sem]
    obtain ⟨w, r, hw, f1, q5⟩ := outFrz (lostP hv hok hd hlo (by omega) (by omega) (by omega))
    have q6 := (lostR hv hok hd hlo (by omega) (by omega) (by omega)).rw
    have hcl := lostF_len (ds.map (·.id) ++ lo.map (·.1.id)) l
    have hsl : (sorted (lostF (ds.map (·.id) ++ lo.map (·.1.id)) l)).length ≤ 320 := by
      rw [← sortR_eq]
      have := puts_lenV (lostF (ds.map (·.id) ++ lo.map (·.1.id)) l) []
      simp only [List.length_nil] at this
      show ((lostF (ds.map (·.id) ++ lo.map (·.1.id)) l).foldl put []).length ≤ 320
      omega
    have q7 := (same1 w (.tsl true 1 (ints (sorted (lostF (ds.map (·.id) ++ lo.map (·.1.id)) l)))) _ _ hw (.rows true) (by omega)).rw
    simp only [decide_true] at q7
    have nw := hw.snap
    have ny : ∀ (S : Store) (rows : List (List AV)), snap S (.tsl true 1 rows) = some (.tsl true 1 rows) := fun S rows => by simp only [snap]
    obtain ⟨st, hst⟩ : ∃ st, dv.stab = st := ⟨_, rfl⟩
    simp only [docA] at q5 q6
    generalize sorted (lostF (ds.map (·.id) ++ lo.map (·.1.id)) l) = L at *
    clear hf hfl hcl hsl
    refine EvV.walk rfl fn5 rfl nt5 rfl ?_
    simp only [List.length_cons, List.length_nil, List.cons_append, List.nil_append, Nat.reduceAdd, Nat.reduceSub, List.replicate]
    repeat' (first | refine go1 ?_ | refine blockK_else rfl ?_ | (refine go2 fun A B a b => ?_; simp only [go_sem, *, q1, qa, n0, n1, n2, c1, cc, k1, k2, q5, q6, q7, f1, nw, ny, lenK_sls hd, lenK_sls hlo, List.length_map, hst]; (repeat' first | apply a.1 | apply b.1 | refine iteI (fun h => ?_) fun h => ?_) <;> clear a b A B))
    all_goals simp only [go_sem]
end Go.Eng
