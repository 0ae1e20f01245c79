/- Part 3 of the texts behind this claim. -/
import Derived.Test.YtoeogoeahmlgnaaGreatDoorZ2
set_option linter.all false

/- Rebuilds: Doc as a run. -/
namespace Go.Eng
open Go.Proofs
set_option linter.unusedSimpArgs false
set_option linter.unusedVariables false
attribute [local irreducible] wpC wpO wp1 EvV EvR wpL
attribute [local go_sem] ty3 ty4 ty9 ty22 ty24 ty25 ty26 ty28 ty34 ty38 ty40 ty43 ty46 ty53 ty54 ty56 ty61 ty64 ty79 ty80 ty82 eq38 eq40 eq64 br24 br25 br26 br27 List.all_cons List.all_nil List.replicate List.set_cons_zero Nat.one_mul Nat.reduceMul Nat.zero_mul allocK appK bslA fz101 fz102 fz103 fz104 fz105 fz106 fz107 lenK_esl lenK_nils lenK_sl lenK_tsl lt5 nilsK rowsFill rowsOf_esl rowsOf_nils rowsOf_sl rowsOf_tsl reduceIte Nat.reduceAdd Nat.reduceEqDiff Nat.reduceLT Nat.reduceLeDiff beq_iff_eq beq_eq_false_iff_ne Int.natCast_inj Bool.not_eq_false' op1_go wpK_box wpK_alloc wpK_load wpK_store wpK_binOp wpK_unOp wpK_fieldAddr wpK_field wpK_build wpK_indexAddr wpK_slice wpK_len wpK_extract wpK_nilCheck wpK_pick wpK_makeFunc wpK_call wpK_callT wpK_max wpK_min wpK_assignT wpK_moveT wpK_assignB wpK_moveB wpK_assignI wpK_moveI wpK_assignA wpK_moveA callK_fn snapL_nil snapL_cons snap_int snap_bool snap_str snap_tsl snap_agg snap_fn snap_flat adopt_int adopt_bool adopt_str adopt_agg adopt_osl adopt_tsl adopt_tup op1_guard grdK_bool grdK_undef condK_bool someK_some pairK_some nilK_ptr nilK_tptr boxK storeK evalA_tmp evalA_int evalA_bool evalA_agg evalA_fn evalA_nil ofC_int ofC_bool getA_zero getA_succ cells_int cells_agg cells_bool cells_sl cells_tsl cell_int cell_bool cell_str cell_sl cell_esl cell_tsl cell_ptr cell_tptr cell_fn cell_nils cell_nilf List.all_cons List.all_nil Bool.and_true Bool.and_self Bool.true_and putA_some putA_none List.set_cons_zero List.set_cons_succ List.length_cons List.length_nil List.nil_append List.cons_append stabL AV.stab fieldAddrA fieldA List.getElem?_cons_zero List.getElem?_cons_succ Nat.zero_add loadA rowOf Nat.le_refl and_self true_and and_true partA binA unA intBin eqBin eqCells eqCell Option.bind_some decide_true decide_false decide_eq_true_eq ite_not Bool.not_eq_true' decide_eq_false_iff_not Bool.false_eq_true Option.map_some Option.map_none Bool.not_true Bool.not_false buildA fillA patch List.take List.drop List.map_cons List.map_nil extK List.getD_cons_zero List.getD_cons_succ minmaxA minmaxGo adoptZ_false adoptZ_true freeze_int freeze_bool freeze_str freeze_flat freeze_agg freeze_osl freeze_tsl freeze_tup frz1_bool frz1_int frz1_str frz1_agg frz1_osl frz1_tsl bne Bool.false_and Bool.and_false ne_eq not_true_eq_false not_false_eq_true List.append_nil resultsR resultsL resultA expK_int expK_bool expK_str expK_agg expK_own expK_tsl resK_some latK_false latK_true latP_store latP_move latP_assign latP_pick latP_nilCheck latP_makeInterface latP_binOp latP_unOp latP_convert latP_build latP_field latP_fieldAddr latP_indexAddr latP_index latP_slice latP_makeFunc latP_extract latP_call latP_load latP_alloc latP_box latP_buildSlice latP_makeSlice latP_makeMap latP_lookup latP_mapUpdate latP_range latP_next latP_entry nestNo wpK_lookup wpK_range wpK_next wpK_entry wpK_makeMap wpK_mapUpdate cell_mp
set_option maxHeartbeats 4000000
set_option maxRecDepth 20000

theorem slsCells {sz : Nat} {rows : List (List AV)} {v : AV} (h : SLs sz rows v) : v.cells = [v] := by cases h <;> rfl
def recA (d : Dc) : List AV := [.int .i64 d.id, .str d.nm, .int .i64 d.len, .int .i64 d.day, d.sp]
/-- What 'ranked' gets. -/
def rkV (done : List Nt) : AV := if done = [] then .flat (.slice none 0 0) else .tsl false 7 (done.map encN)
theorem rkV_sls (done : List Nt) : SLs 7 (done.map encN) (rkV done) := by
  unfold rkV
  by_cases h : done = []
  · rw [if_pos h, h]; exact .nil rfl
  · rw [if_neg h]; exact .rows false
theorem snap_doc {b0 b1 b2 b5 b6 : Blk} {d : Dc} {w y : Nat} {done : List Nt} {Y : Store} (hw : w ≤ 1) (h1 : d.sp.clean = true) (h2 : d.tv.clean = true) (hY : done ≠ [] → Y[y]? = some (.arr (done.map encN) 7 0 true)) :
    snap (docS b0 b1 b2 b5 b6 d w y done Y) (.ptr 4 1 8 0 0) = some (.tptr false (rrow d (rkV done)) 0) := by
  have hr : rowOf (docS b0 b1 b2 b5 b6 d w y done Y) 4 1 8 0 = some (prow d (noV done (y + 1 + 1 + 1 + 1 + 1 + 1 + 1)) 3) := by
    simp only [rowOf, docS, List.getElem?_cons_succ, List.getElem?_cons_zero]
    rw [if_pos ⟨trivial, hw, by decide⟩]
  have hc : cleanL (prow d (noV done (y + 1 + 1 + 1 + 1 + 1 + 1 + 1)) 3) = false := by
    unfold prow
    simp only [cleanL, AV.clean, h1, h2, Bool.and_false, Bool.false_and, Bool.and_true]
  have hv : snapC (docS b0 b1 b2 b5 b6 d w y done Y) (noV done (y + 1 + 1 + 1 + 1 + 1 + 1 + 1)) = rkV done := by
    unfold noV rkV
    by_cases hd : done = []
    · rw [if_pos hd, if_pos hd]; rfl
    · rw [if_neg hd, if_neg hd]
      simp only [snapC, AV.clean, Bool.false_eq_true, if_false, rowsOf, docS, List.getElem?_cons_succ, hY hd]
      rw [if_pos ⟨trivial, trivial, Nat.zero_le _, by omega, by simp⟩]
      simp only [Bool.true_or, if_true, List.drop_zero]
      rw [List.take_of_length_le (by simp)]
  simp only [snap, hr, hc, Bool.false_eq_true, if_false]
  simp only [prow, List.map_cons, List.map_nil, hv]
  simp only [snapC, AV.clean, h1, h2, if_true, Bool.false_eq_true, if_false, rrow]

theorem expCell_stab {v : AV} (h : v.stab = true) (S : Store) : expCell S v = some v := by
  cases v <;> first | (simp only [expCell, h, if_true]; done) | (simp only [AV.stab] at h; cases h)
theorem idsOK_doc {sp tv : AV} {r1 r2 : List (List AV)} (h1 : SLs 1 r1 sp) (h2 : SLs 4 r2 tv) {a b c : Int} {s : ByteArray} {n e : Nat} (hn : n ≠ 5) : idsOK [.agg [.int .i64 a, .str s, .int .i64 b, .int .i64 c, sp, tv, .sl n e 0 e 7], .sl 5 0 0 0 8] = true := by
  cases h1 <;> cases h2 <;> simp [idsOK, ownIds, lentIds, cellIds, hn, Ne.symm hn]
theorem docE {sp : List (List AV)} {d : Dc} {ts : List Ti} {ms : List Nt} {cv : AV} (hd : DocOK d ts ms) (hsp : SLs 1 sp d.sp) (hcv : SLs 11 (celsL ms) cv) :
    EvV CX 9 [.agg (recA d), d.tv, cv] (· = .tup [.agg [.int .i64 d.id, .str d.nm, .int .i64 d.len, .int .i64 d.day, d.sp, d.tv, .tsl true 7 (ms.map encN)], .osl 8 []]) := by
  have c1 := hd.sc
  have c2 := hd.t.cell
  have c3 := hd.sst
  have c4 := hd.tst
  have s1 := hd.ss
  have s2 := hd.t.snap
  have htv := hd.t
  have cc := slsCells hd.t
  have cl := celsL_len ms
  have hdH : Hold (DocOK d ts ms) := ⟨hd⟩
  clear hd
  refine EvV.walk rfl fn9 rfl nt9 rfl ?_
  simp only [List.length_cons, List.length_nil, List.cons_append, List.nil_append, Nat.reduceAdd, Nat.reduceSub, List.replicate]
  repeat' (first | refine go1 ?_ | refine blockK_else rfl ?_ | (refine go2 fun A B a b => ?_; simp only [go_sem, *, wpK_append ty26 rfl, wpK_append ty43 rfl, wpK_assignN ty26 rfl, wpK_assignN ty43 rfl, wpK_buildSlice ty26 rfl, wpK_buildSlice ty43 rfl, recA, c1, c2, c3, c4, cc, cells_mpB, lenK_sls hcv, cl, set_lenAdd, Nat.zero_le, getElem?_len, getElem?_lenAdd, set_len, List.append_assoc, List.length_append, List.length_map, lenK_str, snap_sl, ints_len, ints_take, List.take_length, Bool.true_or]; (repeat' first | apply a.1 | apply b.1 | refine iteI (fun h => ?_) fun h => ?_) <;> clear a b A B))
  refine wpC_loopF [12, 13, 26, 27, 28, 29, 30, 31, 32, 33, 34, 35, 36, 37, 38, 39, 40, 41, 42, 43, 44, 45, 46, 47, 48, 49, 50] (fun k : Nat => [(10, .sl 6 k 0 k 7), (25, .int .i64 (k : Int))]) (fun k G => docS (.arr [recA d] 5 0 true) (.arr [[.int .i64 0, .str .empty, .int .i64 0, .int .i64 0, .flat (.slice none 0 0), .flat (.slice none 0 0), .flat (.slice none 0 0)]] 7 0 true) (.arr [] 8 0 true) (.arr [] 8 0 true) (.arr ((ms.take k).map encN) 7 0 true) d 0 0 [] G) (fun k => k ≤ ms.length) (fun k => ms.length - k) 0 (Nat.zero_le _) ?_ ⟨[], rfl⟩ ?_
  · ((try simp only [eraseA_cons, eraseA_nil, setL_cons, setL_nil, List.set_cons_zero, List.set_cons_succ]); all_goals (first | rfl | (simp only [len_snoc, ints_len, List.length_map, ]; done) | (simp only [len_snoc, len_mid, ints_len, List.length_map, List.length_append, List.length_cons, List.length_nil, Nat.zero_add, ]; first | done | rfl)))
  intro k g G hk
  replace hk : k ≤ ms.length := hk
  by_cases hlt : k < ms.length
  · obtain ⟨m, hm⟩ : ∃ m, ms[k]? = some m := ⟨_, List.getElem?_eq_getElem hlt⟩
    have i0 := idx_sls hcv (X := CX) ty46 ty56 rfl (n := k) (row := celO k m) (k := .i64) (by simp [celsL, hm])
    have lt1 : (k : Int) < (ms.length : Int) := by omega
    have hf := hdH.out.few
    have w1 := wrap_succ (n := k) (by omega)
    have fn := hdH.out.fine k m hm
    have t0 : ¬ m.ti < 0 := by have := fn.ti0; omega
    have t1 : ¬ (ts.length : Int) ≤ m.ti := by have := fn.tiL; omega
    have qc := (currE k m).rw
    have n2 : ∀ (S : Store) (rows : List (List AV)), snap S (.tsl true 4 rows) = some (.tsl true 4 rows) := fun S rows => by simp only [snap]
    simp only [celO, encN, List.cons_append, List.nil_append] at qc
    have hm1 : Hold (ms.length - (k + 1) < ms.length - k ∧ k + 1 ≤ ms.length) := ⟨by omega⟩
    have htk : Hold ((ms.take (k + 1)).map encN = (ms.take k).map encN ++ [encN m]) := ⟨by rw [take_snoc hm, List.map_append]; rfl⟩
    have hlen : (ms.take k).length = k := by rw [List.length_take, Nat.min_eq_left hk]
    have b1 : (k + 1) * 64 ≤ 140737488355328 := by omega
    have b2 : k + 1 ≤ 140737488355328 := by omega
    clear hk hlt hm fn hf
    simp only [docS]
    simp only [garbA_cons, garbA_nil, setL_cons, setL_nil, List.set_cons_zero, List.set_cons_succ]
    repeat' (first | refine go1 ?_ | refine blockK_else rfl ?_ | (refine go2 fun A B a b => ?_; simp only [go_sem, *, wpK_append ty26 rfl, wpK_append ty43 rfl, wpK_assignN ty26 rfl, wpK_assignN ty43 rfl, wpK_buildSlice ty26 rfl, wpK_buildSlice ty43 rfl, celO, encN, lt1, w1, i0, t0, t1, qc, n2, lenK_sls htv, hlen, b1, b2, set_lenAdd, Nat.zero_le, getElem?_len, getElem?_lenAdd, set_len, List.append_assoc, List.length_append, List.length_map, lenK_str, snap_sl, ints_len, ints_take, List.take_length, Bool.true_or]; (repeat' first | apply a.1 | apply b.1 | refine iteI (fun h => ?_) fun h => ?_) <;> clear a b A B))
    refine loopF_next (k + 1) hm1.out.1 hm1.out.2 ?_ ?_
    · ((try simp only [eraseA_cons, eraseA_nil, setL_cons, setL_nil, List.set_cons_zero, List.set_cons_succ]); all_goals (first | rfl | (simp only [len_snoc, ints_len, List.length_map, ]; done) | (simp only [len_snoc, len_mid, ints_len, List.length_map, List.length_append, List.length_cons, List.length_nil, Nat.zero_add, ]; first | done | rfl)))
    · simp only [docS, htk.out, encN]; exact ⟨_, rfl⟩
  have hkm : k = ms.length := by omega
  subst hkm
  clear hk hlt
  rw [show (ms.take ms.length).map encN = ms.map encN by rw [List.take_length]]
  obtain ⟨b0, hb0⟩ : ∃ b, Blk.arr [recA d] 5 0 true = b := ⟨_, rfl⟩
  obtain ⟨b1, hb1⟩ : ∃ b, Blk.arr [[AV.int .i64 0, .str .empty, .int .i64 0, .int .i64 0, .flat (.slice none 0 0), .flat (.slice none 0 0), .flat (.slice none 0 0)]] 7 0 true = b := ⟨_, rfl⟩
  obtain ⟨b2, hb2⟩ : ∃ b, Blk.arr [] 8 0 true = b := ⟨_, rfl⟩
  obtain ⟨b6, hb6⟩ : ∃ b, Blk.arr (ms.map encN) 7 0 true = b := ⟨_, rfl⟩
  rw [hb0, hb1, hb2, hb6]
  have hbH : Hold (Blk.arr [recA d] 5 0 true = b0 ∧ Blk.arr [[AV.int .i64 0, .str .empty, .int .i64 0, .int .i64 0, .flat (.slice none 0 0), .flat (.slice none 0 0), .flat (.slice none 0 0)]] 7 0 true = b1 ∧ Blk.arr [] 8 0 true = b2 ∧ Blk.arr (ms.map encN) 7 0 true = b6) := ⟨hb0, hb1, hb2, hb6⟩
  clear hb0 hb1 hb2 hb6
  simp only [docS]
  simp only [garbA_cons, garbA_nil, setL_cons, setL_nil, List.set_cons_zero, List.set_cons_succ]
  repeat' (first | refine go1 ?_ | refine blockK_else rfl ?_ | (refine go2 fun A B a b => ?_; simp only [go_sem, *, wpK_append ty26 rfl, wpK_append ty43 rfl, wpK_assignN ty26 rfl, wpK_assignN ty43 rfl, wpK_buildSlice ty26 rfl, wpK_buildSlice ty43 rfl, lenK_sls htv, List.length_map, Int.lt_irrefl, set_lenAdd, Nat.zero_le, getElem?_len, getElem?_lenAdd, set_len, List.append_assoc, List.length_append, lenK_str, snap_sl, ints_len, ints_take, List.take_length, Bool.true_or]; (repeat' first | apply a.1 | apply b.1 | refine iteI (fun h => ?_) fun h => ?_) <;> clear a b A B))
  refine wpC_loopF [14, 16, 17, 54, 55, 56, 57, 58, 59, 60, 61, 62, 63, 64, 65, 66, 67, 68, 69, 70, 71, 72, 73, 74, 75, 76, 77, 78, 79, 80, 81] (fun p : Nat × Nat × Nat × Store => [(53, .int .i64 (p.1 : Int))]) (fun p _ => docS b0 b1 b2 b2 b6 d p.2.1 p.2.2.1 (doneAt ms p.1 0) p.2.2.2) (fun p => p.1 ≤ ts.length ∧ p.2.1 ≤ 1 ∧ (doneAt ms p.1 0 ≠ [] → p.2.2.2[p.2.2.1]? = some (.arr ((doneAt ms p.1 0).map encN) 7 0 true))) (fun p => ts.length - p.1) (0, 0, 0, G) ⟨Nat.zero_le _, Nat.zero_le 1, ?_⟩ ?_ ⟨[], ?_⟩ ?_
  · have e0 : doneAt ms 0 0 = [] := by
      rw [doneAt_zero, List.filter_eq_nil_iff]
      intro a ha
      obtain ⟨j, hj⟩ := List.getElem?_of_mem ha
      have := (hdH.out.fine j a hj).ti0
      simp; omega
    intro h; exact absurd e0 h
  · ((try simp only [eraseA_cons, eraseA_nil, setL_cons, setL_nil, List.set_cons_zero, List.set_cons_succ]); all_goals (first | rfl | (simp only [len_snoc, ints_len, List.length_map, ]; done) | (simp only [len_snoc, len_mid, ints_len, List.length_map, List.length_append, List.length_cons, List.length_nil, Nat.zero_add, ]; first | done | rfl)))
  · have e0 : doneAt ms 0 0 = [] := by
      rw [doneAt_zero, List.filter_eq_nil_iff]
      intro a ha
      obtain ⟨j, hj⟩ := List.getElem?_of_mem ha
      have := (hdH.out.fine j a hj).ti0
      simp; omega
    simp only [docS, e0]
  rintro ⟨t, w, y, Y⟩ g2 _ ⟨ht, hw, hY⟩
  replace ht : t ≤ ts.length := ht
  replace hw : w ≤ 1 := hw
  replace hY : doneAt ms t 0 ≠ [] → Y[y]? = some (.arr ((doneAt ms t 0).map encN) 7 0 true) := hY
  by_cases hlt : t < ts.length
  · have lt1 : (t : Int) < (ts.length : Int) := by omega
    have w1 := wrap_succ (n := t) (by have := hdH.out.fewT; omega)
    have htH : Hold (ts.length - (t + 1) < ts.length - t ∧ t + 1 ≤ ts.length) := ⟨by omega⟩
    have hYH : Hold (w ≤ 1 ∧ (doneAt ms t 0 ≠ [] → Y[y]? = some (.arr ((doneAt ms t 0).map encN) 7 0 true))) := ⟨hw, hY⟩
    clear ht hw hY hlt
    simp only [docS]
    simp only [garbA_cons, garbA_nil, setL_cons, setL_nil, List.set_cons_zero, List.set_cons_succ]
    repeat' (first | refine go1 ?_ | refine blockK_else rfl ?_ | (refine go2 fun A B a b => ?_; simp only [go_sem, *, wpK_append ty26 rfl, wpK_append ty43 rfl, wpK_assignN ty26 rfl, wpK_assignN ty43 rfl, wpK_buildSlice ty26 rfl, wpK_buildSlice ty43 rfl, lt1, set_lenAdd, Nat.zero_le, getElem?_len, getElem?_lenAdd, set_len, List.append_assoc, List.length_append, List.length_map, lenK_str, snap_sl, ints_len, ints_take, List.take_length, Bool.true_or]; (repeat' first | apply a.1 | apply b.1 | refine iteI (fun h => ?_) fun h => ?_) <;> clear a b A B))
    refine wpC_loopF [16, 17, 59, 60, 61, 62, 63, 64, 65, 66, 67, 68, 69, 70, 71, 72, 73, 74, 75, 76, 77, 78, 79, 80] (fun p : Nat × Nat × Nat × Store => [(58, .int .i64 (p.1 : Int))]) (fun p _ => docS b0 b1 b2 b2 b6 d p.2.1 p.2.2.1 (doneAt ms t p.1) p.2.2.2) (fun p => p.1 ≤ ms.length ∧ p.2.1 ≤ 1 ∧ (doneAt ms t p.1 ≠ [] → p.2.2.2[p.2.2.1]? = some (.arr ((doneAt ms t p.1).map encN) 7 0 true))) (fun p => ms.length - p.1) (0, w, y, Y) ⟨Nat.zero_le _, hYH.out.1, hYH.out.2⟩ ?_ ⟨[], rfl⟩ ?_
    · ((try simp only [eraseA_cons, eraseA_nil, setL_cons, setL_nil, List.set_cons_zero, List.set_cons_succ]); all_goals (first | rfl | (simp only [len_snoc, ints_len, List.length_map, ]; done) | (simp only [len_snoc, len_mid, ints_len, List.length_map, List.length_append, List.length_cons, List.length_nil, Nat.zero_add, ]; first | done | rfl)))
    clear hYH
    rintro ⟨j, w', y', Y'⟩ g3 _ ⟨hj, hw, hY⟩
    replace hj : j ≤ ms.length := hj
    replace hw : w' ≤ 1 := hw
    replace hY : doneAt ms t j ≠ [] → Y'[y']? = some (.arr ((doneAt ms t j).map encN) 7 0 true) := hY
    by_cases hjl : j < ms.length
    · obtain ⟨x, hx⟩ : ∃ x, ms[j]? = some x := ⟨_, List.getElem?_eq_getElem hjl⟩
      have lt2 : (j : Int) < (ms.length : Int) := by omega
      have w2 := wrap_succ (n := j) (by have := hdH.out.few; omega)
      have hjH : Hold (ms.length - (j + 1) < ms.length - j ∧ j + 1 ≤ ms.length) := ⟨by omega⟩
      have ix := idxN (b := 6) (e := ms.length) (k := .i64) hjl
      have hb6 : (.arr (ms.map encN) 7 0 true) = b6 := hbH.out.2.2.2
      have row : (ms.map encN)[j]? = some (encN x) := by rw [List.getElem?_map, hx]; rfl
      have hro : ∀ (a0 a1 a2 a3 a4 a5 : Blk) (Z : Store), rowOf (a0 :: a1 :: a2 :: a3 :: a4 :: a5 :: b6 :: Z) 6 ms.length 7 j = some (encN x) := fun a0 a1 a2 a3 a4 a5 Z => by
        simp only [rowOf, List.getElem?_cons_succ, List.getElem?_cons_zero, ← hb6]
        rw [if_pos ⟨trivial, Nat.zero_le _, hjl⟩, row]
      have hb6e : b6 = .arr (ms.map encN) 7 0 true := hb6.symm
      have hYH : Hold (w' ≤ 1 ∧ (doneAt ms t j ≠ [] → Y'[y']? = some (.arr ((doneAt ms t j).map encN) 7 0 true))) := ⟨hw, hY⟩
      have hxH : Hold (ms[j]? = some x) := ⟨hx⟩
      clear hj hw hY hx hro hb6
      cases k0 : (x.ti == (t : Int)) with
      | false =>
        have hdone : Hold (doneAt ms t (j + 1) = doneAt ms t j) := ⟨doneAt_other hxH.out k0⟩
        have hY2 : Hold (∀ Z, doneAt ms t j ≠ [] → (Y' ++ Z)[y']? = some (.arr ((doneAt ms t j).map encN) 7 0 true)) := ⟨fun Z h => at_app0 (hYH.out.2 h) Z⟩
        simp only [docS]
        rw [hb6e]
        simp only [garbA_cons, garbA_nil, setL_cons, setL_nil, List.set_cons_zero, List.set_cons_succ]
        repeat' (first | refine go1 ?_ | refine blockK_else rfl ?_ | (refine go2 fun A B a b => ?_; simp only [go_sem, *, wpK_append ty26 rfl, wpK_append ty43 rfl, wpK_assignN ty26 rfl, wpK_assignN ty43 rfl, wpK_buildSlice ty26 rfl, wpK_buildSlice ty43 rfl, encN, lt2, w2, ix, row, hjl, k0, set_lenAdd, Nat.zero_le, getElem?_len, getElem?_lenAdd, set_len, List.append_assoc, List.length_append, List.length_map, lenK_str, snap_sl, ints_len, ints_take, List.take_length, Bool.true_or]; (repeat' first | apply a.1 | apply b.1 | refine iteI (fun h => ?_) fun h => ?_) <;> clear a b A B))
        refine loopF_next (j + 1, w', y', Y' ++ [.arr [encN x] 7 1 true]) hjH.out.1 ⟨hjH.out.2, hYH.out.1, by rw [hdone.out]; exact hY2.out _⟩ ?_ ?_
        · ((try simp only [eraseA_cons, eraseA_nil, setL_cons, setL_nil, List.set_cons_zero, List.set_cons_succ]); all_goals (first | rfl | (simp only [len_snoc, ints_len, List.length_map, ]; done) | (simp only [len_snoc, len_mid, ints_len, List.length_map, List.length_append, List.length_cons, List.length_nil, Nat.zero_add, ]; first | done | rfl)))
        · simp only [docS, hdone.out, encN, hb6e]
          first | exact ⟨[], rfl⟩ | exact ⟨[], trivial⟩
      | true =>
        have hdt : doneAt ms t j = ms.take j := doneAt_take hdH.out.sorted hxH.out (by simpa using k0)
        have hdn : Hold (doneAt ms t (j + 1) = ms.take j ++ [x]) := ⟨by rw [doneAt_same hxH.out k0, hdt]⟩
        rw [hdt]
        rw [hdt] at hYH
        clear hdt
        have hY1 : Hold (∀ Z, ms.take j ≠ [] → (Y' ++ Z)[y']? = some (.arr ((ms.take j).map encN) 7 0 true)) := ⟨fun Z h => at_app0 (hYH.out.2 h) Z⟩
        simp only [docS]
        rw [hb6e]
        simp only [garbA_cons, garbA_nil, setL_cons, setL_nil, List.set_cons_zero, List.set_cons_succ]
        repeat' (first | refine go1 ?_ | refine blockK_else rfl ?_ | (refine go2 fun A B a b => ?_; simp only [go_sem, *, wpK_append ty26 rfl, wpK_append ty43 rfl, wpK_assignN ty26 rfl, wpK_assignN ty43 rfl, wpK_buildSlice ty26 rfl, wpK_buildSlice ty43 rfl, encN, lt2, ix, row, hjl, k0, set_lenAdd, Nat.zero_le, getElem?_len, getElem?_lenAdd, set_len, List.append_assoc, List.length_append, List.length_map, lenK_str, snap_sl, ints_len, ints_take, List.take_length, Bool.true_or]; (repeat' first | apply a.1 | apply b.1 | refine iteI (fun h => ?_) fun h => ?_) <;> clear a b A B))
        have hC := docWhy (b0 := b0) (b1 := b1) (b2 := b2) (b5 := b2) (b6 := b6) hdH.out hYH.out.1 hxH.out (hY1.out [.arr [encN x] 7 1 true])
        rw [hb6e] at hC
        simp only [docS, encN] at hC
        refine wpO_cons fun K hK => ?_
        simp only [go_sem, wpK_append ty26 rfl, wpK_append ty43 rfl, wpK_assignN ty26 rfl, wpK_assignN ty43 rfl, wpK_buildSlice ty26 rfl, wpK_buildSlice ty43 rfl]
        refine EvR.mono (hC) ?_
        clear hC
        rintro _ _ ⟨rfl, G1, rfl⟩
        refine hK.out _ _ ?_
        clear hK K
        repeat' (first | refine go1 ?_ | refine blockK_else rfl ?_ | (refine go2 fun A B a b => ?_; simp only [go_sem, *, wpK_append ty26 rfl, wpK_append ty43 rfl, wpK_assignN ty26 rfl, wpK_assignN ty43 rfl, wpK_buildSlice ty26 rfl, wpK_buildSlice ty43 rfl, encN, set_lenAdd, Nat.zero_le, getElem?_len, getElem?_lenAdd, set_len, List.append_assoc, List.length_append, List.length_map, lenK_str, snap_sl, ints_len, ints_take, List.take_length, Bool.true_or]; (repeat' first | apply a.1 | apply b.1 | refine iteI (fun h => ?_) fun h => ?_) <;> clear a b A B))
        have hC := docPut (b0 := b0) (b1 := b1) (b2 := b2) (b5 := b2) (b6 := b6) hdH.out hYH.out.1 hxH.out (hY1.out (.arr [encN x] 7 1 true :: G1))
        unfold PutOK at hC
        rw [hb6e] at hC
        simp only [docS, encN] at hC
        refine wpO_cons fun K hK => ?_
        simp only [go_sem, wpK_append ty26 rfl, wpK_append ty43 rfl, wpK_assignN ty26 rfl, wpK_assignN ty43 rfl, wpK_buildSlice ty26 rfl, wpK_buildSlice ty43 rfl]
        refine EvR.mono (hC) ?_
        clear hC
        rintro _ _ ⟨rfl, y2, Y2, hY3, rfl⟩
        refine hK.out _ _ ?_
        clear hK K
        have hYk : Hold (Y2[y2]? = some (.arr ((ms.take j ++ [x]).map encN) 7 0 true)) := ⟨hY3⟩
        clear hY3
        repeat' (first | refine go1 ?_ | refine blockK_else rfl ?_ | (refine go2 fun A B a b => ?_; simp only [go_sem, *, wpK_append ty26 rfl, wpK_append ty43 rfl, wpK_assignN ty26 rfl, wpK_assignN ty43 rfl, wpK_buildSlice ty26 rfl, wpK_buildSlice ty43 rfl, w2, set_lenAdd, Nat.zero_le, getElem?_len, getElem?_lenAdd, set_len, List.append_assoc, List.length_append, List.length_map, lenK_str, snap_sl, ints_len, ints_take, List.take_length, Bool.true_or]; (repeat' first | apply a.1 | apply b.1 | refine iteI (fun h => ?_) fun h => ?_) <;> clear a b A B))
        refine loopF_next (j + 1, 1, y2, Y2) hjH.out.1 ⟨hjH.out.2, Nat.le_refl _, by rw [hdn.out]; exact fun _ => hYk.out⟩ ?_ ?_
        · ((try simp only [eraseA_cons, eraseA_nil, setL_cons, setL_nil, List.set_cons_zero, List.set_cons_succ]); all_goals (first | rfl | (simp only [len_snoc, ints_len, List.length_map, ]; done) | (simp only [len_snoc, len_mid, ints_len, List.length_map, List.length_append, List.length_cons, List.length_nil, Nat.zero_add, ]; first | done | rfl)))
        · simp only [docS, hdn.out, encN, hb6e]
          first | exact ⟨[], rfl⟩ | exact ⟨[], trivial⟩
    · have hjm : j = ms.length := by omega
      subst hjm
      have hde := doneAt_end ms hdH.out.sorted t
      rw [hde] at hY ⊢
      have hYk : Hold (w' ≤ 1 ∧ (doneAt ms (t + 1) 0 ≠ [] → Y'[y']? = some (.arr ((doneAt ms (t + 1) 0).map encN) 7 0 true))) := ⟨hw, hY⟩
      clear hj hjl hw hY hde
      simp only [docS]
      simp only [garbA_cons, garbA_nil, setL_cons, setL_nil, List.set_cons_zero, List.set_cons_succ]
      repeat' (first | refine go1 ?_ | refine blockK_else rfl ?_ | (refine go2 fun A B a b => ?_; simp only [go_sem, *, wpK_append ty26 rfl, wpK_append ty43 rfl, wpK_assignN ty26 rfl, wpK_assignN ty43 rfl, wpK_buildSlice ty26 rfl, wpK_buildSlice ty43 rfl, Int.lt_irrefl, w1, set_lenAdd, Nat.zero_le, getElem?_len, getElem?_lenAdd, set_len, List.append_assoc, List.length_append, List.length_map, lenK_str, snap_sl, ints_len, ints_take, List.take_length, Bool.true_or]; (repeat' first | apply a.1 | apply b.1 | refine iteI (fun h => ?_) fun h => ?_) <;> clear a b A B))
      refine loopF_next (t + 1, w', y', Y') htH.out.1 ⟨htH.out.2, hYk.out⟩ ?_ ?_
      · ((try simp only [eraseA_cons, eraseA_nil, setL_cons, setL_nil, List.set_cons_zero, List.set_cons_succ]); all_goals (first | rfl | (simp only [len_snoc, ints_len, List.length_map, ]; done) | (simp only [len_snoc, len_mid, ints_len, List.length_map, List.length_append, List.length_cons, List.length_nil, Nat.zero_add, ]; first | done | rfl)))
      · simp only [docS]; first | exact ⟨[], rfl⟩ | exact ⟨[], trivial⟩
  · have htl : t = ts.length := by omega
    subst htl
    have hall : doneAt ms ts.length 0 = ms := by
      rw [doneAt_zero, List.filter_eq_self]
      intro a ha
      obtain ⟨j, hj⟩ := List.getElem?_of_mem ha
      have := (hdH.out.fine j a hj).tiL
      simpa using this
    rw [hall] at hY ⊢
    have qk := (rankedRE (rkV_sls ms) hdH.out.t hdH.out.sc hdH.out.few (fun m hm => by obtain ⟨j, hj⟩ := List.getElem?_of_mem hm; have := hdH.out.fine j m hj; exact ⟨this.ti0, this.tiL⟩) hdH.out.rank hdH.out.id).rw
    have hsn := snap_doc (b0 := b0) (b1 := b1) (b2 := b2) (b5 := b2) (b6 := b6) (d := d) hw hdH.out.scl hdH.out.tcl hY
    have hb0 : b0 = .arr [recA d] 5 0 true := hbH.out.1.symm
    have hb1 : b1 = .arr [[AV.int .i64 0, .str .empty, .int .i64 0, .int .i64 0, .flat (.slice none 0 0), .flat (.slice none 0 0), .flat (.slice none 0 0)]] 7 0 true := hbH.out.2.1.symm
    have hb2 : b2 = .arr [] 8 0 true := hbH.out.2.2.1.symm
    simp only [recA] at hb0
    simp only [docS, rrow] at hsn qk
    obtain ⟨V, hV⟩ : ∃ V, rkV ms = V := ⟨_, rfl⟩
    rw [hV] at hsn qk
    rw [hb0, hb1, hb2] at hsn ⊢
    clear hY hV hall ht hlt hb0 hb1 hb2 hw
    simp only [docS]
    simp only [garbA_cons, garbA_nil, setL_cons, setL_nil, List.set_cons_zero, List.set_cons_succ]
    repeat' (first | refine go1 ?_ | refine blockK_else rfl ?_ | (refine go2 fun A B a b => ?_; simp only [go_sem, *, wpK_append ty26 rfl, wpK_append ty43 rfl, wpK_assignN ty26 rfl, wpK_assignN ty43 rfl, wpK_buildSlice ty26 rfl, wpK_buildSlice ty43 rfl, c1, c2, c3, c4, cc, s1, s2, Int.lt_irrefl, hsn, qk, set_lenAdd, Nat.zero_le, getElem?_len, getElem?_lenAdd, set_len, List.append_assoc, List.length_append, List.length_map, lenK_str, snap_sl, ints_len, ints_take, List.take_length, Bool.true_or]; (repeat' first | apply a.1 | apply b.1 | refine iteI (fun h => ?_) fun h => ?_) <;> clear a b A B))
    simp only [go_sem, wpK_append ty26 rfl, wpK_append ty43 rfl, wpK_assignN ty26 rfl, wpK_assignN ty43 rfl, wpK_buildSlice ty26 rfl, wpK_buildSlice ty43 rfl, expK, exportA]
    rw [if_pos (idsOK_doc hsp htv (by omega))]
    have k3 : ∀ (S : Store) (m : Int), expCell S (.int .i64 m) = some (.int .i64 m) := fun _ _ => rfl
    have k4 : ∀ (S : Store) (m : ByteArray), expCell S (.str m) = some (.str m) := fun _ _ => rfl
    have k5 : ∀ (S : Store) (b e off len sz : Nat), expCell S (.sl b e off len sz) = match rowsOf S sz (.sl b e off len sz) with
      | some (rows, pr) => if pr || rows.all stabL then some (.tsl true sz rows) else none
      | none => none := fun _ _ _ _ _ _ => rfl
    have x1 := expCell_stab c3
    have x2 := expCell_stab c4
    have tk : (ms.map encN).take ms.length = ms.map encN := by rw [List.take_of_length_le (by simp)]
    simp only [expTops, expTop, expCells, k3, k4, k5, x1, x2, List.getElem?_cons_succ, List.getElem?_cons_zero, rowsOf_sl, getElem?_len, List.length_map, Nat.le_refl, Nat.zero_le, and_self, if_true, Nat.zero_add, Bool.true_or, List.drop_zero, List.length_nil, tk]

/- Rebuilds: what holds along the way (plain), and 'plain' of the law. -/
open Go.Proofs
attribute [local go_sem] lt3
set_option maxHeartbeats 4000000
set_option maxRecDepth 20000

theorem runN_app (l l' : List Nt) : ∃ r, runN (l ++ l') = runN l ++ r := by
  refine snocInd (P := fun l' => ∃ r, runN (l ++ l') = runN l ++ r) ⟨[], by simp⟩ (fun l' x ih => ?_) l'
  obtain ⟨r, hr⟩ := ih
  refine ⟨r ++ [(x, newN (runN l ++ r) x)], ?_⟩
  rw [← List.append_assoc, runN_snoc, hr, stepN, List.append_assoc]
/-- The notes that are added when tier t is at its i-th note. -/
def seqAt (l0 : List Nt) (t i : Nat) : List Nt := seqN t l0 ++ (l0.take i).filter fun n => n.ti == (t : Int)
theorem seqAt_zero (l0 : List Nt) (t : Nat) : seqAt l0 t 0 = seqN t l0 := by simp [seqAt]
theorem seqAt_other {l0 : List Nt} {t i : Nat} {x : Nt} (h : l0[i]? = some x) (hx : (x.ti == (t : Int)) = false) : seqAt l0 t (i + 1) = seqAt l0 t i := by
  unfold seqAt; rw [take_snoc h, List.filter_append]; simp [hx]
theorem seqAt_same {l0 : List Nt} {t i : Nat} {x : Nt} (h : l0[i]? = some x) (hx : (x.ti == (t : Int)) = true) : seqAt l0 t (i + 1) = seqAt l0 t i ++ [x] := by
  unfold seqAt; rw [take_snoc h, List.filter_append]; simp [hx]
theorem seqAt_end (l0 : List Nt) (t : Nat) : seqAt l0 t l0.length = seqAt l0 (t + 1) 0 := by
  rw [seqAt_zero, seqN_succ]; unfold seqAt; rw [List.take_length]
theorem seqN_pre (l0 : List Nt) (t : Nat) : ∀ k, ∃ r, seqN (t + k) l0 = seqN t l0 ++ r
  | 0 => ⟨[], by simp⟩
  | k + 1 => by
    obtain ⟨r, hr⟩ := seqN_pre l0 t k
    exact ⟨r ++ _, by rw [show t + (k + 1) = (t + k) + 1 by omega, seqN_succ, hr, List.append_assoc]⟩
theorem seqAt_pre (l0 : List Nt) {t T : Nat} (h : t < T) (i : Nat) : ∃ r, seqN T l0 = seqAt l0 t i ++ r := by
  obtain ⟨r, hr⟩ := seqN_pre l0 (t + 1) (T - (t + 1))
  rw [show t + 1 + (T - (t + 1)) = T by omega] at hr
  rw [hr, seqN_succ]
  refine ⟨(l0.drop i).filter (fun n => n.ti == (t : Int)) ++ r, ?_⟩
  unfold seqAt
  conv => lhs; rw [← List.take_append_drop i l0]
  rw [List.filter_append]
  simp only [List.append_assoc, List.take_append_drop]

/-- The new notes. -/
def newL (l : List Nt) : List Nt := (runN l).map (·.2)
theorem newL_len (l : List Nt) : (newL l).length = l.length := by simp [newL, runN_len]
theorem newL_snoc (l : List Nt) (x : Nt) : newL (l ++ [x]) = newL l ++ [newN (runN l) x] := by simp [newL, runN_snoc, stepN]
theorem newL_get {l : List Nt} {i : Nat} {m : Nt} (h : (newL l)[i]? = some m) : ∃ o, (runN l)[i]? = some (o, m) := by
  unfold newL at h
  rw [List.getElem?_map] at h
  cases hr : (runN l)[i]? with
  | none => rw [hr] at h; cases h
  | some p => rw [hr] at h; injection h with h; exact ⟨p.1, by rw [← h]⟩

section
variable {d : Dc} {ts : List Ti} {ns l0 : List Nt} (hR : RightD TX d.len ts ns) (hm : ∀ n, n ∈ l0 ↔ n ∈ ns) (hlen : l0.length = ns.length) (hnd : (l0.map (·.id)).Nodup)
include hR hm hlen hnd

theorem full_add {i : Nat} {m : Nt} (h : (newL (seqN ts.length l0))[i]? = some m) : AddOK i m := by
  obtain ⟨o, ho⟩ := newL_get h
  have f := fine_at hR hm hlen hnd ho
  have hT := hR.fewT
  refine ⟨runN_id ho, f.ti0, by have := f.tiL; omega, f.pa0, f.paL, f.rk0, f.rkL, ?_, f.tx⟩
  cases ha : alK (tierAt ts m.ti).kd with
  | true => exact .inr (rgt_iff.2 (f.sp ha))
  | false => exact .inl (f.sp0 ha)
theorem pre_add {t i : Nat} (ht : t < ts.length) : AllOK (newL (seqAt l0 t i)) := by
  intro k m h
  obtain ⟨r, hr⟩ := seqAt_pre l0 ht i
  obtain ⟨r2, hr2⟩ := runN_app (seqAt l0 t i) r
  refine full_add hR hm hlen hnd (i := k) (m := m) ?_
  have hk := (List.getElem?_eq_some_iff.1 h).1
  unfold newL at h hk ⊢
  rw [hr, hr2, List.map_append, List.getElem?_append_left hk]
  exact h
theorem pre_len {t i : Nat} (ht : t < ts.length) : (seqAt l0 t i).length ≤ 14 := by
  obtain ⟨r, hr⟩ := seqAt_pre l0 ht i
  have h1 := run_len hR hm hlen
  rw [runN_len, hr, List.length_append] at h1
  have := hR.few
  omega

theorem full_doc (htv : SLs 4 (ts.map encT) d.tv) (h1 : d.tv.clean = true) (h2 : d.tv.stab = true) (h3 : d.sp.cell = true) (h4 : ∀ S, snap S d.sp = some d.sp) (h5 : d.sp.clean = true) (h6 : d.sp.stab = true)
    (hpl : ∀ x ∈ ns, (tierAt ts x.ti).kd ≠ 1 ∧ (tierAt ts x.ti).ro ≠ 3 ∧ (tierAt ts x.ti).ro ≠ 4) : DocOK d ts (newL (seqN ts.length l0)) := by
  have hl : (newL (seqN ts.length l0)).length = ns.length := by unfold newL; rw [List.length_map]; exact run_len hR hm hlen
  refine ⟨htv, h1, h2, h3, h4, h5, h6, by rw [hl]; exact hR.few, hR.fewT, ?_, ?_, ?_, ?_, ?_⟩
  · intro j x hx
    obtain ⟨o, ho⟩ := newL_get hx
    have := fine_at hR hm hlen hnd ho
    rw [List.map_take] at this
    exact this
  · intro x hx
    obtain ⟨j, hj⟩ := List.getElem?_of_mem hx
    obtain ⟨o, ho⟩ := newL_get hj
    obtain ⟨e1, _⟩ := new_same ho
    rw [e1]
    exact hpl o ((seq_all hR hm).1 (List.mem_of_getElem? (run_mem ho)))
  · intro m hmm hk
    obtain ⟨j, hj⟩ := List.getElem?_of_mem hmm
    obtain ⟨o, ho⟩ := newL_get hj
    exact rank_at hR hm hlen hnd ho hk
  · intro i m h
    obtain ⟨o, ho⟩ := newL_get h
    exact runN_id ho
  · have hs := seqN_sorted ts.length l0
    rw [List.pairwise_iff_getElem] at hs ⊢
    intro i j hi hj hij
    obtain ⟨o1, ho1⟩ := newL_get (List.getElem?_eq_getElem hi)
    obtain ⟨o2, ho2⟩ := newL_get (List.getElem?_eq_getElem hj)
    rw [(new_same ho1).1, (new_same ho2).1]
    have e1 := List.getElem?_eq_some_iff.1 (run_mem ho1)
    have e2 := List.getElem?_eq_some_iff.1 (run_mem ho2)
    have := hs i j e1.1 e2.1 hij
    rw [e1.2, e2.2] at this
    exact this
end

theorem plainE {d : Dc} {ts : List Ti} {ns : List Nt} (hd : d.ok ts ns) (hl : ns.length ≤ 14) (hti : ∀ n ∈ ns, 0 ≤ n.ti ∧ n.ti < ts.length) :
    ∃ b, (b = true → ∀ x ∈ ns, (tierAt ts x.ti).kd ≠ 1 ∧ (tierAt ts x.ti).ro ≠ 3 ∧ (tierAt ts x.ti).ro ≠ 4) ∧ EvV CX 5 [.agg (encD d)] (· = .bool b) := by
  suffices h : EvV CX 5 [.agg (encD d)] (fun r => ∃ b, r = .bool b ∧ (b = true → ∀ x ∈ ns, (tierAt ts x.ti).kd ≠ 1 ∧ (tierAt ts x.ti).ro ≠ 3 ∧ (tierAt ts x.ti).ro ≠ 4)) by
    obtain ⟨r, ⟨b, rfl, hb⟩, h⟩ := h.ex
    exact ⟨b, hb, h⟩
  have c1 := hd.nc
  have c2 := hd.tc
  have c3 := hd.sc
  have p1 := hd.p1
  have p2 := hd.p2
  have p3 := hd.p3
  have hn := hd.n
  have htv := hd.t
  have htiH : Hold (∀ n ∈ ns, 0 ≤ n.ti ∧ n.ti < ts.length) := ⟨hti⟩
  have hlH : Hold (ns.length ≤ 14) := ⟨hl⟩
  clear hti hl
  refine EvV.walk rfl fn5 rfl nt5 rfl ?_
  simp only [List.length_cons, List.length_nil, List.cons_append, List.nil_append, Nat.reduceAdd, Nat.reduceSub, List.replicate]
  repeat' (first | refine go1 ?_ | refine blockK_else rfl ?_ | (refine go2 fun A B a b => ?_; simp only [go_sem, *, encD, c1, c2, c3, p1, p2, p3, lenK_sls hn, List.length_map]; (repeat' first | apply a.1 | apply b.1 | refine iteI (fun h => ?_) fun h => ?_) <;> clear a b A B))
  refine wpC_each [2, 3, 4, 9, 10, 11, 12, 13, 14, 15, 16, 17, 18, 19, 20, 21, 22, 23, 24, 25, 26, 27, 28, 29, 30, 31, 32, 33, 34] 8 ns (fun pre _ => ∀ x ∈ pre, (tierAt ts x.ti).kd ≠ 1 ∧ (tierAt ts x.ti).ro ≠ 3 ∧ (tierAt ts x.ti).ro ≠ 4) ?_ ?_ ?_ ?_
  · intro x h; cases h
  · ((try simp only [eraseA_cons, eraseA_nil, setL_cons, setL_nil, List.set_cons_zero, List.set_cons_succ]); all_goals (first | rfl | (simp only [len_snoc, ints_len, List.length_map, ]; done) | (simp only [len_snoc, len_mid, ints_len, List.length_map, List.length_append, List.length_cons, List.length_nil, Nat.zero_add, ]; first | done | rfl)))
  · intro g G hP
    have hPH : Hold (∀ x ∈ ns, (tierAt ts x.ti).kd ≠ 1 ∧ (tierAt ts x.ti).ro ≠ 3 ∧ (tierAt ts x.ti).ro ≠ 4) := ⟨hP⟩
    clear hP
    simp only [garbA_cons, garbA_nil, setL_cons, setL_nil, List.set_cons_zero, List.set_cons_succ]
    repeat' (first | refine go1 ?_ | refine blockK_else rfl ?_ | (refine go2 fun A B a b => ?_; simp only [go_sem, *, Int.lt_irrefl, set_lenAdd, Nat.zero_le, getElem?_len, getElem?_lenAdd, set_len, List.append_assoc, List.length_append, List.length_map, lenK_str, snap_sl, rowsOf_sl, ints_len, ints_take, List.take_length, Bool.true_or]; (repeat' first | apply a.1 | apply b.1 | refine iteI (fun h => ?_) fun h => ?_) <;> clear a b A B))
    simp only [go_sem]
    exact ⟨_, rfl, fun _ => hPH.out⟩
  · intro g G pre x post h1 hP
    have hpl : pre.length < ns.length := by rw [h1]; simp
    have lt1 : (pre.length : Int) < (ns.length : Int) := by omega
    have w1 := wrap_succ (n := pre.length) (by have := hlH.out; omega)
    have i1 := idx_sls hn (X := CX) ty26 ty40 rfl (n := pre.length) (row := encN x) (k := .i64) (by rw [h1]; exact map_midV encN pre x post)
    have h0 := htiH.out x (by rw [h1]; simp)
    have ht : ts[x.ti.toNat]? = some (tierAt ts x.ti) := by
      unfold tierAt
      rw [List.getD_eq_getElem?_getD, List.getElem?_eq_getElem (by omega)]; rfl
    have i0 := idx_sls htv (X := CX) ty25 ty53 rfl (n := x.ti.toNat) (row := encT (tierAt ts x.ti)) (k := .i64) (by rw [List.getElem?_map, ht]; rfl)
    rw [show ((x.ti.toNat : Nat) : Int) = x.ti by omega] at i0
    have hh1 : Hold (ns = pre ++ x :: post) := ⟨h1⟩
    obtain ⟨t, hT⟩ : ∃ t, tierAt ts x.ti = t := ⟨_, rfl⟩
    have nxt : Hold (t.kd ≠ 1 → t.ro ≠ 3 → t.ro ≠ 4 → ∀ y ∈ pre ++ [x], (tierAt ts y.ti).kd ≠ 1 ∧ (tierAt ts y.ti).ro ≠ 3 ∧ (tierAt ts y.ti).ro ≠ 4) := ⟨fun a b c y hy => by
      rcases List.mem_append.1 hy with h | h
      · exact hP y h
      · simp at h; subst h; rw [hT]; exact ⟨a, b, c⟩⟩
    rw [hT] at i0
    clear h1 hP hpl h0 ht hT
    cases k1 : (t.kd == 1) with
    | true =>
      simp only [garbA_cons, garbA_nil, setL_cons, setL_nil, List.set_cons_zero, List.set_cons_succ]
      repeat' (first | refine go1 ?_ | refine blockK_else rfl ?_ | (refine go2 fun A B a b => ?_; simp only [go_sem, *, encN, encT, lt1, i0, i1, k1, set_lenAdd, Nat.zero_le, getElem?_len, getElem?_lenAdd, set_len, List.append_assoc, List.length_append, List.length_map, lenK_str, snap_sl, rowsOf_sl, ints_len, ints_take, List.take_length, Bool.true_or]; (repeat' first | apply a.1 | apply b.1 | refine iteI (fun h => ?_) fun h => ?_) <;> clear a b A B))
      simp only [go_sem]
      exact ⟨_, rfl, fun h => by cases h⟩
    | false =>
    cases k2 : (t.ro == 3) with
    | true =>
      simp only [garbA_cons, garbA_nil, setL_cons, setL_nil, List.set_cons_zero, List.set_cons_succ]
      repeat' (first | refine go1 ?_ | refine blockK_else rfl ?_ | (refine go2 fun A B a b => ?_; simp only [go_sem, *, encN, encT, lt1, i0, i1, k1, k2, set_lenAdd, Nat.zero_le, getElem?_len, getElem?_lenAdd, set_len, List.append_assoc, List.length_append, List.length_map, lenK_str, snap_sl, rowsOf_sl, ints_len, ints_take, List.take_length, Bool.true_or]; (repeat' first | apply a.1 | apply b.1 | refine iteI (fun h => ?_) fun h => ?_) <;> clear a b A B))
      simp only [go_sem]
      exact ⟨_, rfl, fun h => by cases h⟩
    | false =>
    cases k3 : (t.ro == 4) with
    | true =>
      simp only [garbA_cons, garbA_nil, setL_cons, setL_nil, List.set_cons_zero, List.set_cons_succ]
      repeat' (first | refine go1 ?_ | refine blockK_else rfl ?_ | (refine go2 fun A B a b => ?_; simp only [go_sem, *, encN, encT, lt1, i0, i1, k1, k2, k3, set_lenAdd, Nat.zero_le, getElem?_len, getElem?_lenAdd, set_len, List.append_assoc, List.length_append, List.length_map, lenK_str, snap_sl, rowsOf_sl, ints_len, ints_take, List.take_length, Bool.true_or]; (repeat' first | apply a.1 | apply b.1 | refine iteI (fun h => ?_) fun h => ?_) <;> clear a b A B))
      simp only [go_sem]
      exact ⟨_, rfl, fun h => by cases h⟩
    | false =>
      have fin := nxt.out (by simpa using k1) (by simpa using k2) (by simpa using k3)
      have finH : Hold (∀ y ∈ pre ++ [x], (tierAt ts y.ti).kd ≠ 1 ∧ (tierAt ts y.ti).ro ≠ 3 ∧ (tierAt ts y.ti).ro ≠ 4) := ⟨fin⟩
      clear fin
      simp only [garbA_cons, garbA_nil, setL_cons, setL_nil, List.set_cons_zero, List.set_cons_succ]
      repeat' (first | refine go1 ?_ | refine blockK_else rfl ?_ | (refine go2 fun A B a b => ?_; simp only [go_sem, *, encN, encT, lt1, w1, i0, i1, k1, k2, k3, set_lenAdd, Nat.zero_le, getElem?_len, getElem?_lenAdd, set_len, List.append_assoc, List.length_append, List.length_map, lenK_str, snap_sl, rowsOf_sl, ints_len, ints_take, List.take_length, Bool.true_or]; (repeat' first | apply a.1 | apply b.1 | refine iteI (fun h => ?_) fun h => ?_) <;> clear a b A B))
      refine each_next hh1.out finH.out ?_ ?_
      · ((try simp only [eraseA_cons, eraseA_nil, setL_cons, setL_nil, List.set_cons_zero, List.set_cons_succ]); all_goals (first | rfl | (simp only [len_snoc, ints_len, List.length_map, ]; done) | (simp only [len_snoc, len_mid, ints_len, List.length_map, List.length_append, List.length_cons, List.length_nil, Nat.zero_add, ]; first | done | rfl)))
      · first | exact ⟨[], (List.append_nil _).symm⟩ | exact ⟨_, rfl⟩ | (simp only [List.append_assoc, List.cons_append, List.nil_append]; exact ⟨_, rfl⟩)

/- Rebuilds: the law. -/
open Go.Proofs
attribute [local go_sem] ty31 ty33 ty78 br4 br5 br6 br7 br8 br9 br10 br11 fz19 fz20 fz21 fz22 fz23 fz24 fz25 fz26 fz27 fz28 fz29 fz30 lt0 lt1 lt2
set_option maxHeartbeats 4000000
set_option maxRecDepth 20000

def ovOf (M : List Nt) : AV := if M = [] then .flat (.slice none 0 0) else .tsl true 15 (opsL M)
theorem ovOf_sls (M : List Nt) : SLs 15 (opsL M) (ovOf M) := by
  unfold ovOf
  by_cases h : M = []
  · rw [if_pos h, h]; exact .nil rfl
  · rw [if_neg h]; exact .rows true
theorem ovOf_snoc (M : List Nt) (m : Nt) : ovOf (M ++ [m]) = .tsl true 15 (opsL (M ++ [m])) := by unfold ovOf; rw [if_neg (by simp)]
theorem ovOf_stab (M : List Nt) : (ovOf M).stab = true := by unfold ovOf; split <;> rfl
def idsL (l : List Nt) : List Int := (pairsN (runN l)).map (·.2)
def oldsL (l : List Nt) : List Int := (pairsN (runN l)).map (·.1)
theorem idsL_len (l : List Nt) : (idsL l).length = l.length + 1 := by simp [idsL, pairsN, runN_len]
theorem oldsL_len (l : List Nt) : (oldsL l).length = l.length + 1 := by simp [oldsL, pairsN, runN_len]
theorem pairs_len (l : List Nt) : (pairsN (runN l)).length = l.length + 1 := by simp [pairsN, runN_len]
theorem idsL_snoc (l : List Nt) (x : Nt) : idsL (l ++ [x]) = idsL l ++ [idOf l.length] := by
  simp [idsL, pairsN, runN_snoc, stepN, newN, runN_len]
theorem oldsL_snoc (l : List Nt) (x : Nt) : oldsL (l ++ [x]) = oldsL l ++ [x.id] := by
  simp [oldsL, pairsN, runN_snoc, stepN]
theorem idxI {b e len j : Nat} {k : IntKind} (h : j < len) : indexAddrA CX 22 (.sl b e 0 len 1) (.int k j) = some (.ptr b e 1 j 0) := by
  have : (j : Int) < len := by omega
  simp [indexAddrA, ty22, ty3, this]
theorem ints_get {l : List Int} {j : Nat} {x : Int} (h : l[j]? = some x) : (ints l)[j]? = some [.int .i64 x] := by simp [ints, h]
theorem ints_snoc (l : List Int) (x : Int) : ints l ++ [[.int .i64 x]] = ints (l ++ [x]) := by simp [ints]

/-- The store of the law under way. -/
def lawS (d : Dc) (l : List Nt) (olds : List Int) (G : Store) : Store :=
  .arr [encD d] 7 0 true :: .arr [encR (newL l) (ovOf (newL l))] 3 1 true :: .arr (ints (idsL l)) 1 0 true :: .arr (ints olds) 1 0 true :: G
/-- One note is added. -/
theorem addSt {d : Dc} {ts : List Ti} {ns l0 : List Nt} (hR : RightD TX d.len ts ns) (hm : ∀ n, n ∈ l0 ↔ n ∈ ns) (hlen : l0.length = ns.length) (hnd : (l0.map (·.id)).Nodup) {t i : Nat} {x : Nt} (ht : t < ts.length) (hx : l0[i]? = some x) (hxt : (x.ti == (t : Int)) = true) :
    EvV CX 8 [.agg (encR (newL (seqAt l0 t i)) (ovOf (newL (seqAt l0 t i)))), .int .i64 1, .agg (encN { x with pa := lk (pairsN (runN (seqAt l0 t i))) x.pa })] (· = .tup [.agg (encR (newL (seqAt l0 t i ++ [x])) (ovOf (newL (seqAt l0 t i ++ [x])))), .int .i64 (idOf (seqAt l0 t i).length), .int .i64 0]) := by
  have hA := pre_add (i := i + 1) hR hm hlen hnd ht
  have hL := pre_len (i := i + 1) hR hm hlen hnd ht
  rw [seqAt_same hx hxt] at hA hL
  rw [newL_snoc] at hA ⊢
  rw [ovOf_snoc]
  have e : newN (runN (seqAt l0 t i)) x = { ({ x with pa := lk (pairsN (runN (seqAt l0 t i))) x.pa } : Nt) with id := idOf (newL (seqAt l0 t i)).length } := by
    unfold newN; rw [newL_len, runN_len]
  rw [e] at hA ⊢
  have h := addE (m := { x with pa := lk (pairsN (runN (seqAt l0 t i))) x.pa }) (ovOf_sls _) hA (by rw [newL_len]; simp at hL; omega)
  refine h.mono fun r hr => ?_
  subst hr
  simp only [encR, List.length_append, List.length_cons, List.length_nil, newL_len]

section
variable {d : Dc} {ts : List Ti} {ns : List Nt} {sp : List (List AV)}

theorem lawReb_false (hd : d.ok ts ns) (hsp : SLs 1 sp d.sp) (hcl : d.sp.clean = true ∧ d.tv.clean = true) (hn : ∀ x ∈ ts, x.nm.size ≤ 9223372036854775807) (hx : ∀ n ∈ ns, n.tx.size ≤ 9223372036854775807) : EvV CX 3 [.agg (encD d), .bool false] (· = .bool true) := by
  have qa := awake.rw
  obtain ⟨b1, hb1, q1⟩ := lightE hd hsp hn hx
  have q1 := q1.rw
  have c1 := hd.nc
  have c2 := hd.tc
  have c3 := hd.sc
  have p1 := hd.p1
  have p2 := hd.p2
  have p3 := hd.p3
  have s1 := hd.nsn
  have s2 := hd.tsn
  have s3 := hd.ss
  have hnn := hd.n
  have htt := hd.t
  have cc := slsCells hd.t
  simp only [encD] at q1
  cases b1 with
  | false =>
    clear hb1 hn hx
    refine EvV.walk rfl fn3 rfl nt3 rfl ?_
    simp only [List.length_cons, List.length_nil, List.cons_append, List.nil_append, Nat.reduceAdd, Nat.reduceSub, List.replicate]
    repeat' (first | refine go1 ?_ | refine blockK_else rfl ?_ | (refine go2 fun A B a b => ?_; simp only [go_sem, *, wpK_append ty22 rfl, wpK_buildSlice ty22 rfl, encD, c1, c2, c3, p1, p2, p3, s1, s2, s3, q1, qa]; (repeat' first | apply a.1 | apply b.1 | refine iteI (fun h => ?_) fun h => ?_) <;> clear a b A B))
    all_goals simp only [go_sem, wpK_append ty22 rfl, wpK_buildSlice ty22 rfl]
  | true =>
  have hR := hb1 rfl
  obtain ⟨b2, hb2, q2⟩ := plainE hd hR.few (fun n h => ⟨(hR.note n h).ti0, (hR.note n h).tiL⟩)
  have q2 := q2.rw
  simp only [encD] at q2
  cases b2 with
  | false =>
    clear hb1 hb2 hn hx hR
    refine EvV.walk rfl fn3 rfl nt3 rfl ?_
    simp only [List.length_cons, List.length_nil, List.cons_append, List.nil_append, Nat.reduceAdd, Nat.reduceSub, List.replicate]
    repeat' (first | refine go1 ?_ | refine blockK_else rfl ?_ | (refine go2 fun A B a b => ?_; simp only [go_sem, *, wpK_append ty22 rfl, wpK_buildSlice ty22 rfl, encD, c1, c2, c3, p1, p2, p3, s1, s2, s3, q1, q2, qa]; (repeat' first | apply a.1 | apply b.1 | refine iteI (fun h => ?_) fun h => ?_) <;> clear a b A B))
    all_goals simp only [go_sem, wpK_append ty22 rfl, wpK_buildSlice ty22 rfl]
  | true =>
  have hP := hb2 rfl
  obtain ⟨l0, hl0⟩ : ∃ l0, l0 = ns := ⟨_, rfl⟩
  have hm : ∀ n, n ∈ l0 ↔ n ∈ ns := fun n => by rw [hl0]
  have hlen : l0.length = ns.length := by rw [hl0]
  have hnd : (l0.map (·.id)).Nodup := by
    rw [hl0]
    exact ids_nodup hR.ids
  have qN := newK.rw
  have few := hR.few
  have fewT := hR.fewT
  have hAdd : Hold (∀ (t i : Nat) (x : Nt), t < ts.length → l0[i]? = some x → (x.ti == (t : Int)) = true → EvV CX 8 [.agg (encR (newL (seqAt l0 t i)) (ovOf (newL (seqAt l0 t i)))), .int .i64 1, .agg (encN { x with pa := lk (pairsN (runN (seqAt l0 t i))) x.pa })] (· = .tup [.agg (encR (newL (seqAt l0 t i ++ [x])) (ovOf (newL (seqAt l0 t i ++ [x])))), .int .i64 (idOf (seqAt l0 t i).length), .int .i64 0])) :=
    ⟨fun t i x h1 h2 h3 => addSt hR hm hlen hnd h1 h2 h3⟩
  have hLen : Hold (∀ t i, t < ts.length → (seqAt l0 t i).length ≤ 14) := ⟨fun t i h => pre_len hR hm hlen hnd h⟩
  have hD : Hold (DocOK d ts (newL (seqN ts.length l0))) := ⟨full_doc hR hm hlen hnd htt hcl.2 p2 c3 s3 hcl.1 p1 hP⟩
  have hM : Hold ((newL (seqN ts.length l0)).length = ns.length) := ⟨by unfold newL; rw [List.length_map]; exact run_len hR hm hlen⟩
  have hAll : Hold (AllOK (newL (seqN ts.length l0))) := ⟨fun k m h => full_add hR hm hlen hnd h⟩
  have hRH : Hold (RightD TX d.len ts ns) := ⟨hR⟩
  have hmH : Hold (∀ n, n ∈ l0 ↔ n ∈ ns) := ⟨hm⟩
  have hdH : Hold (d.ok ts ns) := ⟨hd⟩
  have fewH : Hold (ns.length ≤ 14 ∧ ts.length ≤ 6 ∧ l0.length = ns.length) := ⟨few, fewT, hlen⟩
  have hl0H : Hold (l0 = ns) := ⟨hl0⟩
  clear hb1 hb2 hn hx hR hP hm hlen hnd hl0 few fewT hd
  have r0 : encR (newL (seqN 0 l0)) (ovOf (newL (seqN 0 l0))) = [.int .i64 2, .tsl true 1 (ints (seenL 0)), .flat (.slice none 0 0)] := rfl
  have ad4 : ∀ {id : Nat} {a : List AV} {b : Int}, freezeA (.tup [.agg a, .int .i64 b]) = .tup [.agg a, .int .i64 b] := rfl
  refine EvV.walk rfl fn3 rfl nt3 rfl ?_
  simp only [List.length_cons, List.length_nil, List.cons_append, List.nil_append, Nat.reduceAdd, Nat.reduceSub, List.replicate]
  repeat' (first | refine go1 ?_ | refine blockK_else rfl ?_ | (refine go2 fun A B a b => ?_; simp only [go_sem, *, wpK_append ty22 rfl, wpK_buildSlice ty22 rfl, encD, c1, c2, c3, p1, p2, p3, s1, s2, s3, q1, q2, qN, ad4, lenK_sls htt, List.length_map, set_lenAdd, Nat.zero_le, getElem?_len, getElem?_lenAdd, set_len, List.append_assoc, List.length_append, lenK_str, snap_sl, ints_len, ints_take, List.take_length, Bool.true_or]; (repeat' first | apply a.1 | apply b.1 | refine iteI (fun h => ?_) fun h => ?_) <;> clear a b A B))
  refine wpC_loopF [9, 10, 11, 12, 13, 40, 41, 42, 43, 44, 45, 46, 47, 48, 49, 50, 51, 52, 53, 54, 55, 56, 57, 58, 59, 60, 61, 62, 63, 64, 65, 66, 67, 68, 69, 70, 71, 72, 73, 74, 75, 76, 77, 78, 79, 80, 81, 82, 83, 84, 85, 86, 87, 88, 89, 90, 91, 92, 93, 94, 95, 96, 97, 98, 99, 100, 101, 102, 103, 104, 105, 106, 107] (fun t : Nat => [(6, .int .i64 0), (7, .sl 2 ((seqAt l0 t 0).length + 1) 0 ((seqAt l0 t 0).length + 1) 1), (8, .sl 3 ((seqAt l0 t 0).length + 1) 0 ((seqAt l0 t 0).length + 1) 1), (39, .int .i64 (t : Int))]) (fun t G => lawS d (seqAt l0 t 0) (oldsL (seqAt l0 t 0)) G) (fun t => t ≤ ts.length) (fun t => ts.length - t) 0 (Nat.zero_le _) ?_ ⟨[], rfl⟩ ?_
  · ((try simp only [eraseA_cons, eraseA_nil, setL_cons, setL_nil, List.set_cons_zero, List.set_cons_succ]); all_goals (first | rfl | (simp only [len_snoc, ints_len, List.length_map, ]; done) | (simp only [len_snoc, len_mid, ints_len, List.length_map, List.length_append, List.length_cons, List.length_nil, Nat.zero_add, ]; first | done | rfl)))
  intro t g G ht
  replace ht : t ≤ ts.length := ht
  by_cases htl : t < ts.length
  · have lt1 : (t : Int) < (ts.length : Int) := by omega
    have w1 := wrap_succ (n := t) (by have := fewH.out; omega)
    have htH : Hold (ts.length - (t + 1) < ts.length - t ∧ t + 1 ≤ ts.length ∧ t < ts.length) := ⟨by omega⟩
    clear ht htl
    simp only [lawS]
    simp only [garbA_cons, garbA_nil, setL_cons, setL_nil, List.set_cons_zero, List.set_cons_succ]
    repeat' (first | refine go1 ?_ | refine blockK_else rfl ?_ | (refine go2 fun A B a b => ?_; simp only [go_sem, *, wpK_append ty22 rfl, wpK_buildSlice ty22 rfl, encD, lenK_sls hnn, List.length_map, set_lenAdd, Nat.zero_le, getElem?_len, getElem?_lenAdd, set_len, List.append_assoc, List.length_append, lenK_str, snap_sl, ints_len, ints_take, List.take_length, Bool.true_or]; (repeat' first | apply a.1 | apply b.1 | refine iteI (fun h => ?_) fun h => ?_) <;> clear a b A B))
    refine wpC_loopF [10, 11, 12, 13, 46, 47, 48, 49, 50, 51, 52, 53, 54, 55, 56, 57, 58, 59, 60, 61, 62, 63, 64, 65, 66, 67, 68, 69, 70, 71, 72, 73, 74, 75, 76, 77, 78, 79, 80, 81, 82, 83, 84, 85, 86, 87, 88, 89, 90, 91, 92, 93, 94, 95, 96, 97, 98, 99, 100, 101, 102, 103, 104, 105, 106] (fun i : Nat => [(6, .int .i64 0), (7, .sl 2 ((seqAt l0 t i).length + 1) 0 ((seqAt l0 t i).length + 1) 1), (8, .sl 3 ((seqAt l0 t i).length + 1) 0 ((seqAt l0 t i).length + 1) 1), (45, .int .i64 (i : Int))]) (fun i G => lawS d (seqAt l0 t i) (oldsL (seqAt l0 t i)) G) (fun i => i ≤ ns.length) (fun i => ns.length - i) 0 (Nat.zero_le _) ?_ ⟨G, rfl⟩ ?_
    · ((try simp only [eraseA_cons, eraseA_nil, setL_cons, setL_nil, List.set_cons_zero, List.set_cons_succ]); all_goals (first | rfl | (simp only [len_snoc, ints_len, List.length_map, ]; done) | (simp only [len_snoc, len_mid, ints_len, List.length_map, List.length_append, List.length_cons, List.length_nil, Nat.zero_add, ]; first | done | rfl)))
    intro i g2 G2 hi
    replace hi : i ≤ ns.length := hi
    by_cases hil : i < ns.length
    · have lt2 : (i : Int) < (ns.length : Int) := by omega
      have w2 := wrap_succ (n := i) (by have := fewH.out; omega)
      have hiH : Hold (ns.length - (i + 1) < ns.length - i ∧ i + 1 ≤ ns.length) := ⟨by omega⟩
      obtain ⟨x, hx⟩ : ∃ x, l0[i]? = some x := ⟨_, List.getElem?_eq_getElem (by have := fewH.out; omega)⟩
      have hxH : Hold (l0[i]? = some x) := ⟨hx⟩
      have i0 := idx_sls hnn (X := CX) ty26 ty40 rfl (n := i) (row := encN x) (k := .i64) (by rw [List.getElem?_map, ← hl0H.out, hx]; rfl)
      clear hi hil hx
      cases k0 : (x.ti == (t : Int)) with
      | false =>
        have hse : Hold (seqAt l0 t (i + 1) = seqAt l0 t i) := ⟨seqAt_other hxH.out k0⟩
        simp only [lawS]
        simp only [garbA_cons, garbA_nil, setL_cons, setL_nil, List.set_cons_zero, List.set_cons_succ]
        repeat' (first | refine go1 ?_ | refine blockK_else rfl ?_ | (refine go2 fun A B a b => ?_; simp only [go_sem, *, wpK_append ty22 rfl, wpK_buildSlice ty22 rfl, encD, encN, w2, i0, k0, set_lenAdd, Nat.zero_le, getElem?_len, getElem?_lenAdd, set_len, List.append_assoc, List.length_append, List.length_map, lenK_str, snap_sl, ints_len, ints_take, List.take_length, Bool.true_or]; (repeat' first | apply a.1 | apply b.1 | refine iteI (fun h => ?_) fun h => ?_) <;> clear a b A B))
        refine loopF_next (i + 1) hiH.out.1 hiH.out.2 ?_ ?_
        · ((try simp only [eraseA_cons, eraseA_nil, setL_cons, setL_nil, List.set_cons_zero, List.set_cons_succ]); all_goals (first | rfl | (simp only [len_snoc, ints_len, List.length_map, hse.out]; done) | (simp only [len_snoc, len_mid, ints_len, List.length_map, List.length_append, List.length_cons, List.length_nil, Nat.zero_add, hse.out]; first | done | rfl)))
        · simp only [lawS, hse.out, encD]; exact ⟨_, rfl⟩
      | true =>
        have hse : Hold (seqAt l0 t (i + 1) = seqAt l0 t i ++ [x]) := ⟨seqAt_same hxH.out k0⟩
        have qA := (hAdd.out t i x htH.out.2.2 hxH.out k0).rw
        have hL14 := hLen.out t i htH.out.2.2
        have hst := ovOf_stab (newL (seqAt l0 t i))
        have hst2 := ovOf_stab (newL (seqAt l0 t i ++ [x]))
        have hoc := (ovOf_sls (newL (seqAt l0 t i))).cell
        have hos := (ovOf_sls (newL (seqAt l0 t i))).snap
        have hoc2 := (ovOf_sls (newL (seqAt l0 t i ++ [x]))).cell
        have hoe2 := slsCells (ovOf_sls (newL (seqAt l0 t i ++ [x])))
        have il := idsL_len (seqAt l0 t i)
        have ol := oldsL_len (seqAt l0 t i)
        have isn : Hold (idsL (seqAt l0 t i ++ [x]) = idsL (seqAt l0 t i) ++ [idOf (seqAt l0 t i).length]) := ⟨idsL_snoc _ _⟩
        have osn : Hold (oldsL (seqAt l0 t i ++ [x]) = oldsL (seqAt l0 t i) ++ [x.id]) := ⟨oldsL_snoc _ _⟩
        have hpr : Hold (∀ (pre : List (Int × Int)) (p : Int × Int) (post : List (Int × Int)), pairsN (runN (seqAt l0 t i)) = pre ++ p :: post → (oldsL (seqAt l0 t i) ++ [x.id])[pre.length]? = some p.1 ∧ (idsL (seqAt l0 t i))[pre.length]? = some p.2 ∧ pre.length < (seqAt l0 t i).length + 1) := ⟨fun pre p post h => by
          have hl := pairs_len (seqAt l0 t i)
          have hpl : pre.length < (seqAt l0 t i).length + 1 := by rw [← hl, h]; simp
          refine ⟨?_, ?_, hpl⟩
          · rw [List.getElem?_append_left (by rw [oldsL_len]; exact hpl)]
            unfold oldsL; rw [h]; simp
          · unfold idsL; rw [h]; simp⟩
        have pl := pairs_len (seqAt l0 t i)
        have hse2 : (seqAt l0 t i ++ [x]).length = (seqAt l0 t i).length + 1 := by simp
        simp only [encR] at qA
        obtain ⟨R1, hR1⟩ : ∃ R, seenL (newL (seqAt l0 t i)).length = R := ⟨_, rfl⟩
        obtain ⟨R2, hR2⟩ : ∃ R, seenL (newL (seqAt l0 t i ++ [x])).length = R := ⟨_, rfl⟩
        have hRR : Hold (seenL (newL (seqAt l0 t i ++ [x])).length = R2) := ⟨hR2⟩
        rw [hR1, hR2] at qA
        have n5 : ∀ (S : Store), snap S (.tsl true 1 (ints R1)) = some (.tsl true 1 (ints R1)) := fun S => by simp only [snap]
        simp only [lawS, encR, hR1]
        clear hR1 hR2
        obtain ⟨P, hPd⟩ : ∃ P, pairsN (runN (seqAt l0 t i)) = P := ⟨_, rfl⟩
        rw [hPd] at pl hpr qA
        clear hPd
        obtain ⟨n, hn⟩ : ∃ n, (seqAt l0 t i).length = n := ⟨_, rfl⟩
        have hnH : Hold ((seqAt l0 t i).length = n) := ⟨hn⟩
        rw [hn] at il ol pl hpr isn qA hL14 hse2
        obtain ⟨O1, hO1⟩ : ∃ O, ovOf (newL (seqAt l0 t i)) = O := ⟨_, rfl⟩
        obtain ⟨O2, hO2⟩ : ∃ O, ovOf (newL (seqAt l0 t i ++ [x])) = O := ⟨_, rfl⟩
        have hOO : Hold (ovOf (newL (seqAt l0 t i ++ [x])) = O2) := ⟨hO2⟩
        rw [hO1, hO2] at qA
        rw [hO1] at hst hoc hos ⊢
        rw [hO2] at hst2 hoc2 hoe2
        clear hO1 hO2
        rw [hn]
        clear hn
        obtain ⟨I, hI⟩ : ∃ I, idsL (seqAt l0 t i) = I := ⟨_, rfl⟩
        obtain ⟨O, hO⟩ : ∃ O, oldsL (seqAt l0 t i) = O := ⟨_, rfl⟩
        rw [hI] at il isn hpr ⊢
        rw [hO] at ol osn hpr ⊢
        clear hI hO
        have b1 : (n + 1 + 1) * 8 ≤ 140737488355328 := by omega
        have b2 : n + 1 + 1 ≤ 140737488355328 := by omega
        have hnL : Hold (n ≤ 14) := ⟨hL14⟩
        have ad5 : ∀ {a : List AV} {b c : Int}, freezeA (.tup [.agg a, .int .i64 b, .int .i64 c]) = .tup [.agg a, .int .i64 b, .int .i64 c] := rfl
        have hqH : Hold (∀ Q, EvV CX 8 [.agg [.int .i64 2, .tsl true 1 (ints R1), O1], .int .i64 1, .agg (encN { x with pa := lk P x.pa })] Q = Q (.tup [.agg [.int .i64 2, .tsl true 1 (ints R2), O2], .int .i64 (idOf n), .int .i64 0])) := ⟨qA⟩
        clear hL14 qA
        simp only [garbA_cons, garbA_nil, setL_cons, setL_nil, List.set_cons_zero, List.set_cons_succ]
        repeat' (first | refine go1 ?_ | refine blockK_else rfl ?_ | (refine go2 fun A B a b => ?_; simp only [go_sem, *, wpK_append ty22 rfl, wpK_buildSlice ty22 rfl, encD, encN, i0, k0, ints_len, ol, b1, b2, set_lenAdd, Nat.zero_le, getElem?_len, getElem?_lenAdd, set_len, List.append_assoc, List.length_append, List.length_map, lenK_str, snap_sl, ints_take, List.take_length, Bool.true_or]; (repeat' first | apply a.1 | apply b.1 | refine iteI (fun h => ?_) fun h => ?_) <;> clear a b A B))
        refine wpC_each [12, 80, 81, 82, 83, 84, 85, 86, 87, 88, 89, 90, 91, 92, 93, 94] 79 P (fun _ post => lk P x.pa = lk post x.pa) ?_ ?_ ?_ ?_
        · rfl
        · ((try simp only [eraseA_cons, eraseA_nil, setL_cons, setL_nil, List.set_cons_zero, List.set_cons_succ]); all_goals (first | rfl | (simp only [len_snoc, ints_len, List.length_map, ]; done) | (simp only [len_snoc, len_mid, ints_len, List.length_map, List.length_append, List.length_cons, List.length_nil, Nat.zero_add, ]; first | done | rfl)))
        · intro g3 G3 hlk
          have qA := hqH.out
          rw [hlk] at qA
          simp only [lk, encN] at qA
          clear hlk
          simp only [garbA_cons, garbA_nil, setL_cons, setL_nil, List.set_cons_zero, List.set_cons_succ]
          repeat' (first | refine go1 ?_ | refine blockK_else rfl ?_ | (refine go2 fun A B a b => ?_; simp only [go_sem, *, wpK_append ty22 rfl, wpK_buildSlice ty22 rfl, encD, encN, pl, Int.lt_irrefl, qA, hoc, hos, hoe2, hoc2, hst2, n5, ad5, ints_len, il, b1, b2, w2, set_lenAdd, Nat.zero_le, getElem?_len, getElem?_lenAdd, set_len, List.append_assoc, List.length_append, List.length_map, lenK_str, snap_sl, ints_take, List.take_length, Bool.true_or]; (repeat' first | apply a.1 | apply b.1 | refine iteI (fun h => ?_) fun h => ?_) <;> clear a b A B))
          refine loopF_next (i + 1) hiH.out.1 hiH.out.2 ?_ ?_
          · ((try simp only [eraseA_cons, eraseA_nil, setL_cons, setL_nil, List.set_cons_zero, List.set_cons_succ]); all_goals (first | rfl | (simp only [len_snoc, ints_len, List.length_map, hse.out, hse2, hnH.out]; done) | (simp only [len_snoc, len_mid, ints_len, List.length_map, List.length_append, List.length_cons, List.length_nil, Nat.zero_add, hse.out, hse2, hnH.out]; first | done | rfl)))
          · simp only [lawS, encR, hse.out, hOO.out, hRR.out, isn.out, osn.out, ints_append, encD]; exact ⟨_, rfl⟩
        · intro g3 G3 pre p post h1 hlk
          obtain ⟨hp1, hp2, hp3⟩ := hpr.out pre p post h1
          have lt3 : (pre.length : Int) < ((n + 1 : Nat) : Int) := by omega
          have w3 := wrap_succ (n := pre.length) (by have := hnL.out; omega)
          have ix1 := idxI (b := 3) (e := n + 1 + 1) (k := .i64) (show pre.length < n + 1 + 1 by omega)
          have ix2 := idxI (b := 2) (e := n + 1) (k := .i64) hp3
          have ro := ints_get hp1
          rw [ints_append] at ro
          simp only [ints, List.map_cons, List.map_nil] at ro
          have ri := ints_get hp2
          have hp4 : pre.length < n + 1 + 1 := by omega
          have hh1 : Hold (P = pre ++ p :: post) := ⟨h1⟩
          have hii : (List.map (fun n => [AV.int .i64 n]) O) = ints O := rfl
          rw [hii] at ro
          clear h1 hp1 hp2 hii
          cases k9 : (p.1 == x.pa) with
          | true =>
            have qA := hqH.out
            rw [hlk] at qA
            have e9 : lk (p :: post) x.pa = p.2 := by obtain ⟨a, b⟩ := p; simp only [lk]; simp only at k9; rw [k9, if_pos rfl]
            rw [e9] at qA
            simp only [encN] at qA
            clear hlk e9
            simp only [garbA_cons, garbA_nil, setL_cons, setL_nil, List.set_cons_zero, List.set_cons_succ]
            repeat' (first | refine go1 ?_ | refine blockK_else rfl ?_ | (refine go2 fun A B a b => ?_; simp only [go_sem, *, wpK_append ty22 rfl, wpK_buildSlice ty22 rfl, encD, encN, pl, lt3, ix1, ix2, ro, ri, hp3, hp4, k9, qA, hoc, hos, hoe2, hoc2, hst2, n5, ad5, ints_len, il, ol, b1, b2, w2, set_lenAdd, Nat.zero_le, getElem?_len, getElem?_lenAdd, set_len, List.append_assoc, List.length_append, List.length_map, lenK_str, snap_sl, ints_take, List.take_length, Bool.true_or]; (repeat' first | apply a.1 | apply b.1 | refine iteI (fun h => ?_) fun h => ?_) <;> clear a b A B))
            refine loopF_next (i + 1) hiH.out.1 hiH.out.2 ?_ ?_
            · ((try simp only [eraseA_cons, eraseA_nil, setL_cons, setL_nil, List.set_cons_zero, List.set_cons_succ]); all_goals (first | rfl | (simp only [len_snoc, ints_len, List.length_map, hse.out, hse2, hnH.out]; done) | (simp only [len_snoc, len_mid, ints_len, List.length_map, List.length_append, List.length_cons, List.length_nil, Nat.zero_add, hse.out, hse2, hnH.out]; first | done | rfl)))
            · simp only [lawS, encR, hse.out, hOO.out, hRR.out, isn.out, osn.out, ints_append, encD]; exact ⟨_, rfl⟩
          | false =>
            have e9 : Hold (lk P x.pa = lk post x.pa) := ⟨by rw [hlk]; obtain ⟨a, b⟩ := p; simp only [lk]; simp only at k9; rw [k9, if_neg (by simp)]⟩
            clear hlk
            simp only [garbA_cons, garbA_nil, setL_cons, setL_nil, List.set_cons_zero, List.set_cons_succ]
            repeat' (first | refine go1 ?_ | refine blockK_else rfl ?_ | (refine go2 fun A B a b => ?_; simp only [go_sem, *, wpK_append ty22 rfl, wpK_buildSlice ty22 rfl, encD, encN, pl, lt3, w3, ix1, ro, hp3, hp4, k9, ints_len, ol, set_lenAdd, Nat.zero_le, getElem?_len, getElem?_lenAdd, set_len, List.append_assoc, List.length_append, List.length_map, lenK_str, snap_sl, ints_take, List.take_length, Bool.true_or]; (repeat' first | apply a.1 | apply b.1 | refine iteI (fun h => ?_) fun h => ?_) <;> clear a b A B))
            refine each_next hh1.out e9.out ?_ ?_
            · ((try simp only [eraseA_cons, eraseA_nil, setL_cons, setL_nil, List.set_cons_zero, List.set_cons_succ]); all_goals (first | rfl | (simp only [len_snoc, ints_len, List.length_map, ]; done) | (simp only [len_snoc, len_mid, ints_len, List.length_map, List.length_append, List.length_cons, List.length_nil, Nat.zero_add, ]; first | done | rfl)))
            · first | exact ⟨[], (List.append_nil _).symm⟩ | exact ⟨_, rfl⟩ | (simp only [List.append_assoc, List.cons_append, List.nil_append]; exact ⟨_, rfl⟩)
    · have hin : i = l0.length := by have := fewH.out; omega
      have e1 : (i : Int) = (ns.length : Int) := by have := fewH.out; omega
      have hse : Hold (seqAt l0 t i = seqAt l0 (t + 1) 0) := ⟨by rw [hin]; exact seqAt_end l0 t⟩
      clear hi hil hin
      simp only [lawS]
      simp only [garbA_cons, garbA_nil, setL_cons, setL_nil, List.set_cons_zero, List.set_cons_succ]
      repeat' (first | refine go1 ?_ | refine blockK_else rfl ?_ | (refine go2 fun A B a b => ?_; simp only [go_sem, *, wpK_append ty22 rfl, wpK_buildSlice ty22 rfl, encD, e1, Int.lt_irrefl, w1, set_lenAdd, Nat.zero_le, getElem?_len, getElem?_lenAdd, set_len, List.append_assoc, List.length_append, List.length_map, lenK_str, snap_sl, ints_len, ints_take, List.take_length, Bool.true_or]; (repeat' first | apply a.1 | apply b.1 | refine iteI (fun h => ?_) fun h => ?_) <;> clear a b A B))
      refine loopF_next (t + 1) htH.out.1 htH.out.2.1 ?_ ?_
      · ((try simp only [eraseA_cons, eraseA_nil, setL_cons, setL_nil, List.set_cons_zero, List.set_cons_succ]); all_goals (first | rfl | (simp only [len_snoc, ints_len, List.length_map, hse.out]; done) | (simp only [len_snoc, len_mid, ints_len, List.length_map, List.length_append, List.length_cons, List.length_nil, Nat.zero_add, hse.out]; first | done | rfl)))
      · simp only [lawS, hse.out, encD]; exact ⟨_, rfl⟩
  · have e1 : t = ts.length := by omega
    subst e1
    rw [seqAt_zero]
    clear ht htl
    have hM14 : (newL (seqN ts.length l0)).length ≤ 14 := by have := hM.out; have := fewH.out; omega
    have qC := (cellsE (ovOf_sls (newL (seqN ts.length l0))) hAll.out hM14).rw
    have qD := (docE hD.out hsp (cv := .tsl true 11 (celsL (newL (seqN ts.length l0)))) (.rows true)).rw
    have hos := (ovOf_sls (newL (seqN ts.length l0))).snap
    have hoc := (ovOf_sls (newL (seqN ts.length l0))).cell
    have hst := ovOf_stab (newL (seqN ts.length l0))
    have n5 : ∀ (S : Store) (r : List (List AV)), snap S (.tsl true 1 r) = some (.tsl true 1 r) := fun S r => by simp only [snap]
    have n11 : ∀ (S : Store) (r : List (List AV)), snap S (.tsl true 11 r) = some (.tsl true 11 r) := fun S r => by simp only [snap]
    have n7 : ∀ (S : Store) (r : List (List AV)), snap S (.tsl true 7 r) = some (.tsl true 7 r) := fun S r => by simp only [snap]
    have hdx : Dc.ok { d with nv := .tsl true 7 ((newL (seqN ts.length l0)).map encN) } ts (newL (seqN ts.length l0)) := ⟨c3, s3, htt, .rows true, p1, p2, rfl⟩
    have hG1 : Hold (∀ (i : Nat) (o m : Nt), (runN (seqN ts.length l0))[i]? = some (o, m) → EvV CX 11 [.agg [.int .i64 d.id, .str d.nm, .int .i64 d.len, .int .i64 d.day, d.sp, d.tv, .tsl true 7 ((newL (seqN ts.length l0)).map encN)], .int .i64 m.id] (· = .tup [.agg [.int .i64 m.id, .int .i64 o.ti, .int .i64 m.pa, .int .i64 o.fr, .int .i64 o.en, .int .i64 o.rk, .str o.tx], .bool true])) := ⟨fun i o m h => by
      have h1 := getE m.id hdx (by omega)
      have hmm : m ∈ newL (seqN ts.length l0) := List.mem_map.2 ⟨(o, m), List.mem_of_getElem? h, rfl⟩
      rw [getN_of hD.out.nodup hmm] at h1
      obtain ⟨e1, e2, e3, e4, e5⟩ := new_same h
      simp only [getV, encN, e1, e2, e3, e4, e5, encD] at h1
      exact h1⟩
    have hG2 : Hold (∀ (i : Nat) (o m : Nt), (runN (seqN ts.length l0))[i]? = some (o, m) → EvV CX 11 [.agg (encD d), .int .i64 o.id] (· = .tup [.agg (encN o), .bool true])) := ⟨fun i o m h => by
      have h1 := getE o.id hdH.out (by have := fewH.out; omega)
      have ho : o ∈ ns := (seq_all hRH.out hmH.out).1 (List.mem_of_getElem? (run_mem h))
      rw [getN_of (ids_nodup hRH.out.ids) ho] at h1
      exact h1⟩
    have hI : Hold (∀ (i : Nat) (o m : Nt), (runN (seqN ts.length l0))[i]? = some (o, m) → (idsL (seqN ts.length l0))[i + 1]? = some m.id ∧ (oldsL (seqN ts.length l0))[i + 1]? = some o.id) := ⟨fun i o m h => by
      unfold idsL oldsL pairsN
      simp [h]⟩
    have ml := hM.out
    have il := idsL_len (seqN ts.length l0)
    have ol := oldsL_len (seqN ts.length l0)
    have rl := runN_len (seqN ts.length l0)
    have nl : (seqN ts.length l0).length ≤ 14 := by rw [← newL_len]; exact hM14
    have ll : (ns.length : Int) = ((seqN ts.length l0).length : Int) := by rw [← ml, newL_len]
    have ml2 : ((newL (seqN ts.length l0)).length : Int) = (ns.length : Int) := by rw [ml]
    have nlH : Hold ((seqN ts.length l0).length ≤ 14) := ⟨nl⟩
    simp only [recA] at qD
    simp only [encR] at qC
    simp only [lawS, encR]
    clear hdx hM14 nl hM hAll ml
    generalize newL (seqN ts.length l0) = M at *
    generalize seqN ts.length l0 = l at *
    have fz : freezeA (.tup [.agg [.int .i64 d.id, .str d.nm, .int .i64 d.len, .int .i64 d.day, d.sp, d.tv, .tsl true 7 (M.map encN)], .osl 8 []]) = .tup [.agg [.int .i64 d.id, .str d.nm, .int .i64 d.len, .int .i64 d.day, d.sp, d.tv, .tsl true 7 (M.map encN)], .tsl true 8 []] := rfl
    have z0 : (((0 : Nat) : Int) < 0) = False := by simp
    have hnb : ((ns.length : Int) == (ns.length : Int)) = true := by simp
    clear ll hD rl
    simp only [garbA_cons, garbA_nil, setL_cons, setL_nil, List.set_cons_zero, List.set_cons_succ]
    repeat' (first | refine go1 ?_ | refine blockK_else rfl ?_ | (refine go2 fun A B a b => ?_; simp only [go_sem, *, wpK_append ty22 rfl, wpK_buildSlice ty22 rfl, encD, c1, c2, c3, p1, p2, p3, s1, s2, s3, cc, hos, hoc, hst, n5, n11, qC, qD, fz, Int.lt_irrefl, lenK_sls hnn, List.length_map, ml2, hnb, ints_len, il, ol, set_lenAdd, Nat.zero_le, getElem?_len, getElem?_lenAdd, set_len, List.append_assoc, List.length_append, lenK_str, snap_sl, ints_take, List.take_length, Bool.true_or]; (repeat' first | apply a.1 | apply b.1 | refine iteI (fun h => ?_) fun h => ?_) <;> clear a b A B))
    have e01 : ((0 + 1 : Nat) : Int) = 1 := rfl
    refine wpC_loopF [4, 17, 18, 19, 20, 132, 133, 134, 135, 136, 137, 138, 139, 140, 141, 142, 143, 144, 145, 146, 147, 148, 149, 150, 151, 152, 153, 154, 155, 156, 157, 158, 159, 160, 161, 162, 163, 164, 165, 166, 167, 168, 169, 170, 171, 172, 173, 174, 175, 176, 177, 178, 179, 180, 181, 182, 183, 184, 185] (fun i : Nat => [(16, .int .i64 ((i + 1 : Nat) : Int))]) (fun _ G2 => .arr [encD d] 7 0 true :: .arr [[.int .i64 2, .tsl true 1 (ints (seenL M.length)), ovOf M]] 3 1 true :: .arr (ints (idsL l)) 1 0 true :: .arr (ints (oldsL l)) 1 0 true :: (G ++ .arr [[.int .i64 d.id, .str d.nm, .int .i64 d.len, .int .i64 d.day, d.sp, d.tv, .tsl true 7 (M.map encN)]] 7 1 true :: G2)) (fun i => i ≤ l.length) (fun i => l.length - i) 0 (Nat.zero_le _) ?_ ⟨[], by simp only [encD]⟩ ?_
    · ((try simp only [eraseA_cons, eraseA_nil, setL_cons, setL_nil, List.set_cons_zero, List.set_cons_succ]); all_goals (first | rfl | (simp only [len_snoc, ints_len, List.length_map, e01]; done) | (simp only [len_snoc, len_mid, ints_len, List.length_map, List.length_append, List.length_cons, List.length_nil, Nat.zero_add, e01]; first | done | rfl)))
    clear e01
    intro i g2 G2 hi
    replace hi : i ≤ l.length := hi
    by_cases hil : i < l.length
    · obtain ⟨o, ho⟩ : ∃ o, l[i]? = some o := ⟨_, List.getElem?_eq_getElem hil⟩
      obtain ⟨m, hm⟩ := run_at ho
      obtain ⟨k1, k2⟩ := hI.out i o m hm
      have r1 := ints_get k1
      have r2 := ints_get k2
      have qg1 := (hG1.out i o m hm).rw
      have qg2 := (hG2.out i o m hm).rw
      simp only [encN, encD] at qg2
      have lt1 : ((i + 1 : Nat) : Int) < ((l.length + 1 : Nat) : Int) := by omega
      have w1 := wrap_succ (n := i + 1) (by have := nlH.out; omega)
      have hl1 : i + 1 < l.length + 1 := by omega
      have x1 := idxI (b := 2) (e := l.length + 1) (k := .i64) hl1
      have x2 := idxI (b := 3) (e := l.length + 1) (k := .i64) hl1
      have hiH : Hold (l.length - (i + 1) < l.length - i ∧ i + 1 ≤ l.length) := ⟨by omega⟩
      clear hi hil ho hm k1 k2
      simp only [garbA_cons, garbA_nil, setL_cons, setL_nil, List.set_cons_zero, List.set_cons_succ]
      repeat' (first | refine go1 ?_ | refine blockK_else rfl ?_ | (refine go2 fun A B a b => ?_; simp only [go_sem, *, wpK_append ty22 rfl, wpK_buildSlice ty22 rfl, encD, encN, c1, c2, c3, p1, p2, p3, s1, s2, s3, n7, w1, x1, x2, r1, r2, hl1, qg1, qg2, adoptNB, strBin, beq_self_eq_true, set_lenAdd, Nat.zero_le, getElem?_len, getElem?_lenAdd, set_len, List.append_assoc, List.length_append, List.length_map, lenK_str, snap_sl, ints_len, ints_take, List.take_length, Bool.true_or]; (repeat' first | apply a.1 | apply b.1 | refine iteI (fun h => ?_) fun h => ?_) <;> clear a b A B))
      refine loopF_next (i + 1) hiH.out.1 hiH.out.2 ?_ ?_
      · ((try simp only [eraseA_cons, eraseA_nil, setL_cons, setL_nil, List.set_cons_zero, List.set_cons_succ]); all_goals (first | rfl | (simp only [len_snoc, ints_len, List.length_map, ]; done) | (simp only [len_snoc, len_mid, ints_len, List.length_map, List.length_append, List.length_cons, List.length_nil, Nat.zero_add, ]; first | done | rfl)))
      · simp only [encD]; exact ⟨_, rfl⟩
    · have hie : i = l.length := by omega
      subst hie
      clear hi hil
      simp only [garbA_cons, garbA_nil, setL_cons, setL_nil, List.set_cons_zero, List.set_cons_succ]
      repeat' (first | refine go1 ?_ | refine blockK_else rfl ?_ | (refine go2 fun A B a b => ?_; simp only [go_sem, *, wpK_append ty22 rfl, wpK_buildSlice ty22 rfl, Int.lt_irrefl, qa, set_lenAdd, Nat.zero_le, getElem?_len, getElem?_lenAdd, set_len, List.append_assoc, List.length_append, List.length_map, lenK_str, snap_sl, ints_len, ints_take, List.take_length, Bool.true_or]; (repeat' first | apply a.1 | apply b.1 | refine iteI (fun h => ?_) fun h => ?_) <;> clear a b A B))
      simp only [go_sem, wpK_append ty22 rfl, wpK_buildSlice ty22 rfl]

theorem lawReb_true (hd : d.ok ts ns) (hsp : SLs 1 sp d.sp) (hcl : d.sp.clean = true ∧ d.tv.clean = true) (hn : ∀ x ∈ ts, x.nm.size ≤ 9223372036854775807) (hx : ∀ n ∈ ns, n.tx.size ≤ 9223372036854775807) : EvV CX 3 [.agg (encD d), .bool true] (· = .bool true) := by
  have qa := awake.rw
  obtain ⟨b1, hb1, q1⟩ := lightE hd hsp hn hx
  have q1 := q1.rw
  have c1 := hd.nc
  have c2 := hd.tc
  have c3 := hd.sc
  have p1 := hd.p1
  have p2 := hd.p2
  have p3 := hd.p3
  have s1 := hd.nsn
  have s2 := hd.tsn
  have s3 := hd.ss
  have hnn := hd.n
  have htt := hd.t
  have cc := slsCells hd.t
  simp only [encD] at q1
  cases b1 with
  | false =>
    clear hb1 hn hx
    refine EvV.walk rfl fn3 rfl nt3 rfl ?_
    simp only [List.length_cons, List.length_nil, List.cons_append, List.nil_append, Nat.reduceAdd, Nat.reduceSub, List.replicate]
    repeat' (first | refine go1 ?_ | refine blockK_else rfl ?_ | (refine go2 fun A B a b => ?_; simp only [go_sem, *, wpK_append ty22 rfl, wpK_buildSlice ty22 rfl, encD, c1, c2, c3, p1, p2, p3, s1, s2, s3, q1, qa]; (repeat' first | apply a.1 | apply b.1 | refine iteI (fun h => ?_) fun h => ?_) <;> clear a b A B))
    all_goals simp only [go_sem, wpK_append ty22 rfl, wpK_buildSlice ty22 rfl]
  | true =>
  have hR := hb1 rfl
  obtain ⟨b2, hb2, q2⟩ := plainE hd hR.few (fun n h => ⟨(hR.note n h).ti0, (hR.note n h).tiL⟩)
  have q2 := q2.rw
  simp only [encD] at q2
  cases b2 with
  | false =>
    clear hb1 hb2 hn hx hR
    refine EvV.walk rfl fn3 rfl nt3 rfl ?_
    simp only [List.length_cons, List.length_nil, List.cons_append, List.nil_append, Nat.reduceAdd, Nat.reduceSub, List.replicate]
    repeat' (first | refine go1 ?_ | refine blockK_else rfl ?_ | (refine go2 fun A B a b => ?_; simp only [go_sem, *, wpK_append ty22 rfl, wpK_buildSlice ty22 rfl, encD, c1, c2, c3, p1, p2, p3, s1, s2, s3, q1, q2, qa]; (repeat' first | apply a.1 | apply b.1 | refine iteI (fun h => ?_) fun h => ?_) <;> clear a b A B))
    all_goals simp only [go_sem, wpK_append ty22 rfl, wpK_buildSlice ty22 rfl]
  | true =>
  have hP := hb2 rfl
  obtain ⟨l0, hl0⟩ : ∃ l0, l0 = ns.reverse := ⟨_, rfl⟩
  have hm : ∀ n, n ∈ l0 ↔ n ∈ ns := fun n => by rw [hl0]; simp
  have hlen : l0.length = ns.length := by rw [hl0]; simp
  have hnd : (l0.map (·.id)).Nodup := by
    rw [hl0]
    rw [List.map_reverse, List.Nodup, List.pairwise_reverse]
    exact (ids_nodup hR.ids).imp fun h e => h e.symm
  have qN := newK.rw
  have few := hR.few
  have fewT := hR.fewT
  have hAdd : Hold (∀ (t i : Nat) (x : Nt), t < ts.length → l0[i]? = some x → (x.ti == (t : Int)) = true → EvV CX 8 [.agg (encR (newL (seqAt l0 t i)) (ovOf (newL (seqAt l0 t i)))), .int .i64 1, .agg (encN { x with pa := lk (pairsN (runN (seqAt l0 t i))) x.pa })] (· = .tup [.agg (encR (newL (seqAt l0 t i ++ [x])) (ovOf (newL (seqAt l0 t i ++ [x])))), .int .i64 (idOf (seqAt l0 t i).length), .int .i64 0])) :=
    ⟨fun t i x h1 h2 h3 => addSt hR hm hlen hnd h1 h2 h3⟩
  have hLen : Hold (∀ t i, t < ts.length → (seqAt l0 t i).length ≤ 14) := ⟨fun t i h => pre_len hR hm hlen hnd h⟩
  have hD : Hold (DocOK d ts (newL (seqN ts.length l0))) := ⟨full_doc hR hm hlen hnd htt hcl.2 p2 c3 s3 hcl.1 p1 hP⟩
  have hM : Hold ((newL (seqN ts.length l0)).length = ns.length) := ⟨by unfold newL; rw [List.length_map]; exact run_len hR hm hlen⟩
  have hAll : Hold (AllOK (newL (seqN ts.length l0))) := ⟨fun k m h => full_add hR hm hlen hnd h⟩
  have hRH : Hold (RightD TX d.len ts ns) := ⟨hR⟩
  have hmH : Hold (∀ n, n ∈ l0 ↔ n ∈ ns) := ⟨hm⟩
  have hdH : Hold (d.ok ts ns) := ⟨hd⟩
  have fewH : Hold (ns.length ≤ 14 ∧ ts.length ≤ 6 ∧ l0.length = ns.length) := ⟨few, fewT, hlen⟩
  have hl0H : Hold (l0 = ns.reverse) := ⟨hl0⟩
  clear hb1 hb2 hn hx hR hP hm hlen hnd hl0 few fewT hd
  have r0 : encR (newL (seqN 0 l0)) (ovOf (newL (seqN 0 l0))) = [.int .i64 2, .tsl true 1 (ints (seenL 0)), .flat (.slice none 0 0)] := rfl
  have ad4 : ∀ {id : Nat} {a : List AV} {b : Int}, freezeA (.tup [.agg a, .int .i64 b]) = .tup [.agg a, .int .i64 b] := rfl
  refine EvV.walk rfl fn3 rfl nt3 rfl ?_
  simp only [List.length_cons, List.length_nil, List.cons_append, List.nil_append, Nat.reduceAdd, Nat.reduceSub, List.replicate]
  repeat' (first | refine go1 ?_ | refine blockK_else rfl ?_ | (refine go2 fun A B a b => ?_; simp only [go_sem, *, wpK_append ty22 rfl, wpK_buildSlice ty22 rfl, encD, c1, c2, c3, p1, p2, p3, s1, s2, s3, q1, q2, qN, ad4, lenK_sls htt, List.length_map, set_lenAdd, Nat.zero_le, getElem?_len, getElem?_lenAdd, set_len, List.append_assoc, List.length_append, lenK_str, snap_sl, ints_len, ints_take, List.take_length, Bool.true_or]; (repeat' first | apply a.1 | apply b.1 | refine iteI (fun h => ?_) fun h => ?_) <;> clear a b A B))
  refine wpC_loopF [9, 10, 11, 12, 13, 40, 41, 42, 43, 44, 45, 46, 47, 48, 49, 50, 51, 52, 53, 54, 55, 56, 57, 58, 59, 60, 61, 62, 63, 64, 65, 66, 67, 68, 69, 70, 71, 72, 73, 74, 75, 76, 77, 78, 79, 80, 81, 82, 83, 84, 85, 86, 87, 88, 89, 90, 91, 92, 93, 94, 95, 96, 97, 98, 99, 100, 101, 102, 103, 104, 105, 106, 107] (fun t : Nat => [(6, .int .i64 0), (7, .sl 2 ((seqAt l0 t 0).length + 1) 0 ((seqAt l0 t 0).length + 1) 1), (8, .sl 3 ((seqAt l0 t 0).length + 1) 0 ((seqAt l0 t 0).length + 1) 1), (39, .int .i64 (t : Int))]) (fun t G => lawS d (seqAt l0 t 0) (oldsL (seqAt l0 t 0)) G) (fun t => t ≤ ts.length) (fun t => ts.length - t) 0 (Nat.zero_le _) ?_ ⟨[], rfl⟩ ?_
  · ((try simp only [eraseA_cons, eraseA_nil, setL_cons, setL_nil, List.set_cons_zero, List.set_cons_succ]); all_goals (first | rfl | (simp only [len_snoc, ints_len, List.length_map, ]; done) | (simp only [len_snoc, len_mid, ints_len, List.length_map, List.length_append, List.length_cons, List.length_nil, Nat.zero_add, ]; first | done | rfl)))
  intro t g G ht
  replace ht : t ≤ ts.length := ht
  by_cases htl : t < ts.length
  · have lt1 : (t : Int) < (ts.length : Int) := by omega
    have w1 := wrap_succ (n := t) (by have := fewH.out; omega)
    have htH : Hold (ts.length - (t + 1) < ts.length - t ∧ t + 1 ≤ ts.length ∧ t < ts.length) := ⟨by omega⟩
    clear ht htl
    simp only [lawS]
    simp only [garbA_cons, garbA_nil, setL_cons, setL_nil, List.set_cons_zero, List.set_cons_succ]
    repeat' (first | refine go1 ?_ | refine blockK_else rfl ?_ | (refine go2 fun A B a b => ?_; simp only [go_sem, *, wpK_append ty22 rfl, wpK_buildSlice ty22 rfl, encD, lenK_sls hnn, List.length_map, set_lenAdd, Nat.zero_le, getElem?_len, getElem?_lenAdd, set_len, List.append_assoc, List.length_append, lenK_str, snap_sl, ints_len, ints_take, List.take_length, Bool.true_or]; (repeat' first | apply a.1 | apply b.1 | refine iteI (fun h => ?_) fun h => ?_) <;> clear a b A B))
    refine wpC_loopF [10, 11, 12, 13, 46, 47, 48, 49, 50, 51, 52, 53, 54, 55, 56, 57, 58, 59, 60, 61, 62, 63, 64, 65, 66, 67, 68, 69, 70, 71, 72, 73, 74, 75, 76, 77, 78, 79, 80, 81, 82, 83, 84, 85, 86, 87, 88, 89, 90, 91, 92, 93, 94, 95, 96, 97, 98, 99, 100, 101, 102, 103, 104, 105, 106] (fun i : Nat => [(6, .int .i64 0), (7, .sl 2 ((seqAt l0 t i).length + 1) 0 ((seqAt l0 t i).length + 1) 1), (8, .sl 3 ((seqAt l0 t i).length + 1) 0 ((seqAt l0 t i).length + 1) 1), (45, .int .i64 (i : Int))]) (fun i G => lawS d (seqAt l0 t i) (oldsL (seqAt l0 t i)) G) (fun i => i ≤ ns.length) (fun i => ns.length - i) 0 (Nat.zero_le _) ?_ ⟨G, rfl⟩ ?_
    · ((try simp only [eraseA_cons, eraseA_nil, setL_cons, setL_nil, List.set_cons_zero, List.set_cons_succ]); all_goals (first | rfl | (simp only [len_snoc, ints_len, List.length_map, ]; done) | (simp only [len_snoc, len_mid, ints_len, List.length_map, List.length_append, List.length_cons, List.length_nil, Nat.zero_add, ]; first | done | rfl)))
    intro i g2 G2 hi
    replace hi : i ≤ ns.length := hi
    by_cases hil : i < ns.length
    · have lt2 : (i : Int) < (ns.length : Int) := by omega
      have w2 := wrap_succ (n := i) (by have := fewH.out; omega)
      have hiH : Hold (ns.length - (i + 1) < ns.length - i ∧ i + 1 ≤ ns.length) := ⟨by omega⟩
      obtain ⟨x, hx⟩ : ∃ x, l0[i]? = some x := ⟨_, List.getElem?_eq_getElem (by have := fewH.out; omega)⟩
      have hxH : Hold (l0[i]? = some x) := ⟨hx⟩
      obtain ⟨x0, hx0⟩ : ∃ x0, ns[i]? = some x0 := ⟨_, List.getElem?_eq_getElem hil⟩
      have i0 := idx_sls hnn (X := CX) ty26 ty40 rfl (n := i) (row := encN x0) (k := .i64) (by rw [List.getElem?_map, hx0]; rfl)
      have ib := idx_sls hnn (X := CX) ty26 ty40 rfl (n := ns.length - 1 - i) (row := encN x) (k := .i64) (by
        have hxx := hx
        rw [hl0H.out, List.getElem?_reverse (by have := fewH.out; omega)] at hxx
        rw [List.getElem?_map, hxx]; rfl)
      have wa : IntKind.wrap .i64 ((ns.length : Int) - 1) = ((ns.length - 1 : Nat) : Int) := by rw [wrap_small (by omega) (by have := fewH.out; omega)]; omega
      have wb : IntKind.wrap .i64 (((ns.length - 1 : Nat) : Int) - (i : Int)) = ((ns.length - 1 - i : Nat) : Int) := by rw [wrap_small (by omega) (by have := fewH.out; omega)]; omega
      have hls := lenK_sls hnn (a := 1) (b := false) (c := 24) (d := [.flat (.slice none 0 0)]) (el := 40)
      rw [List.length_map] at hls
      clear hx0
      clear hi hil hx
      cases k0 : (x.ti == (t : Int)) with
      | false =>
        have hse : Hold (seqAt l0 t (i + 1) = seqAt l0 t i) := ⟨seqAt_other hxH.out k0⟩
        simp only [lawS]
        simp only [garbA_cons, garbA_nil, setL_cons, setL_nil, List.set_cons_zero, List.set_cons_succ]
        repeat' (first | refine go1 ?_ | refine blockK_else rfl ?_ | (refine go2 fun A B a b => ?_; simp only [go_sem, *, wpK_append ty22 rfl, wpK_buildSlice ty22 rfl, encD, encN, w2, i0, ib, wa, wb, hls, k0, set_lenAdd, Nat.zero_le, getElem?_len, getElem?_lenAdd, set_len, List.append_assoc, List.length_append, List.length_map, lenK_str, snap_sl, ints_len, ints_take, List.take_length, Bool.true_or]; (repeat' first | apply a.1 | apply b.1 | refine iteI (fun h => ?_) fun h => ?_) <;> clear a b A B))
        refine loopF_next (i + 1) hiH.out.1 hiH.out.2 ?_ ?_
        · ((try simp only [eraseA_cons, eraseA_nil, setL_cons, setL_nil, List.set_cons_zero, List.set_cons_succ]); all_goals (first | rfl | (simp only [len_snoc, ints_len, List.length_map, hse.out]; done) | (simp only [len_snoc, len_mid, ints_len, List.length_map, List.length_append, List.length_cons, List.length_nil, Nat.zero_add, hse.out]; first | done | rfl)))
        · simp only [lawS, hse.out, encD]; exact ⟨_, rfl⟩
      | true =>
        have hse : Hold (seqAt l0 t (i + 1) = seqAt l0 t i ++ [x]) := ⟨seqAt_same hxH.out k0⟩
        have qA := (hAdd.out t i x htH.out.2.2 hxH.out k0).rw
        have hL14 := hLen.out t i htH.out.2.2
        have hst := ovOf_stab (newL (seqAt l0 t i))
        have hst2 := ovOf_stab (newL (seqAt l0 t i ++ [x]))
        have hoc := (ovOf_sls (newL (seqAt l0 t i))).cell
        have hos := (ovOf_sls (newL (seqAt l0 t i))).snap
        have hoc2 := (ovOf_sls (newL (seqAt l0 t i ++ [x]))).cell
        have hoe2 := slsCells (ovOf_sls (newL (seqAt l0 t i ++ [x])))
        have il := idsL_len (seqAt l0 t i)
        have ol := oldsL_len (seqAt l0 t i)
        have isn : Hold (idsL (seqAt l0 t i ++ [x]) = idsL (seqAt l0 t i) ++ [idOf (seqAt l0 t i).length]) := ⟨idsL_snoc _ _⟩
        have osn : Hold (oldsL (seqAt l0 t i ++ [x]) = oldsL (seqAt l0 t i) ++ [x.id]) := ⟨oldsL_snoc _ _⟩
        have hpr : Hold (∀ (pre : List (Int × Int)) (p : Int × Int) (post : List (Int × Int)), pairsN (runN (seqAt l0 t i)) = pre ++ p :: post → (oldsL (seqAt l0 t i) ++ [x.id])[pre.length]? = some p.1 ∧ (idsL (seqAt l0 t i))[pre.length]? = some p.2 ∧ pre.length < (seqAt l0 t i).length + 1) := ⟨fun pre p post h => by
          have hl := pairs_len (seqAt l0 t i)
          have hpl : pre.length < (seqAt l0 t i).length + 1 := by rw [← hl, h]; simp
          refine ⟨?_, ?_, hpl⟩
          · rw [List.getElem?_append_left (by rw [oldsL_len]; exact hpl)]
            unfold oldsL; rw [h]; simp
          · unfold idsL; rw [h]; simp⟩
        have pl := pairs_len (seqAt l0 t i)
        have hse2 : (seqAt l0 t i ++ [x]).length = (seqAt l0 t i).length + 1 := by simp
        simp only [encR] at qA
        obtain ⟨R1, hR1⟩ : ∃ R, seenL (newL (seqAt l0 t i)).length = R := ⟨_, rfl⟩
        obtain ⟨R2, hR2⟩ : ∃ R, seenL (newL (seqAt l0 t i ++ [x])).length = R := ⟨_, rfl⟩
        have hRR : Hold (seenL (newL (seqAt l0 t i ++ [x])).length = R2) := ⟨hR2⟩
        rw [hR1, hR2] at qA
        have n5 : ∀ (S : Store), snap S (.tsl true 1 (ints R1)) = some (.tsl true 1 (ints R1)) := fun S => by simp only [snap]
        simp only [lawS, encR, hR1]
        clear hR1 hR2
        obtain ⟨P, hPd⟩ : ∃ P, pairsN (runN (seqAt l0 t i)) = P := ⟨_, rfl⟩
        rw [hPd] at pl hpr qA
        clear hPd
        obtain ⟨n, hn⟩ : ∃ n, (seqAt l0 t i).length = n := ⟨_, rfl⟩
        have hnH : Hold ((seqAt l0 t i).length = n) := ⟨hn⟩
        rw [hn] at il ol pl hpr isn qA hL14 hse2
        obtain ⟨O1, hO1⟩ : ∃ O, ovOf (newL (seqAt l0 t i)) = O := ⟨_, rfl⟩
        obtain ⟨O2, hO2⟩ : ∃ O, ovOf (newL (seqAt l0 t i ++ [x])) = O := ⟨_, rfl⟩
        have hOO : Hold (ovOf (newL (seqAt l0 t i ++ [x])) = O2) := ⟨hO2⟩
        rw [hO1, hO2] at qA
        rw [hO1] at hst hoc hos ⊢
        rw [hO2] at hst2 hoc2 hoe2
        clear hO1 hO2
        rw [hn]
        clear hn
        obtain ⟨I, hI⟩ : ∃ I, idsL (seqAt l0 t i) = I := ⟨_, rfl⟩
        obtain ⟨O, hO⟩ : ∃ O, oldsL (seqAt l0 t i) = O := ⟨_, rfl⟩
        rw [hI] at il isn hpr ⊢
        rw [hO] at ol osn hpr ⊢
        clear hI hO
        have b1 : (n + 1 + 1) * 8 ≤ 140737488355328 := by omega
        have b2 : n + 1 + 1 ≤ 140737488355328 := by omega
        have hnL : Hold (n ≤ 14) := ⟨hL14⟩
        have ad5 : ∀ {a : List AV} {b c : Int}, freezeA (.tup [.agg a, .int .i64 b, .int .i64 c]) = .tup [.agg a, .int .i64 b, .int .i64 c] := rfl
        have hqH : Hold (∀ Q, EvV CX 8 [.agg [.int .i64 2, .tsl true 1 (ints R1), O1], .int .i64 1, .agg (encN { x with pa := lk P x.pa })] Q = Q (.tup [.agg [.int .i64 2, .tsl true 1 (ints R2), O2], .int .i64 (idOf n), .int .i64 0])) := ⟨qA⟩
        clear hL14 qA
        simp only [garbA_cons, garbA_nil, setL_cons, setL_nil, List.set_cons_zero, List.set_cons_succ]
        repeat' (first | refine go1 ?_ | refine blockK_else rfl ?_ | (refine go2 fun A B a b => ?_; simp only [go_sem, *, wpK_append ty22 rfl, wpK_buildSlice ty22 rfl, encD, encN, i0, ib, wa, wb, hls, k0, ints_len, ol, b1, b2, set_lenAdd, Nat.zero_le, getElem?_len, getElem?_lenAdd, set_len, List.append_assoc, List.length_append, List.length_map, lenK_str, snap_sl, ints_take, List.take_length, Bool.true_or]; (repeat' first | apply a.1 | apply b.1 | refine iteI (fun h => ?_) fun h => ?_) <;> clear a b A B))
        refine wpC_each [12, 80, 81, 82, 83, 84, 85, 86, 87, 88, 89, 90, 91, 92, 93, 94] 79 P (fun _ post => lk P x.pa = lk post x.pa) ?_ ?_ ?_ ?_
        · rfl
        · ((try simp only [eraseA_cons, eraseA_nil, setL_cons, setL_nil, List.set_cons_zero, List.set_cons_succ]); all_goals (first | rfl | (simp only [len_snoc, ints_len, List.length_map, ]; done) | (simp only [len_snoc, len_mid, ints_len, List.length_map, List.length_append, List.length_cons, List.length_nil, Nat.zero_add, ]; first | done | rfl)))
        · intro g3 G3 hlk
          have qA := hqH.out
          rw [hlk] at qA
          simp only [lk, encN] at qA
          clear hlk
          simp only [garbA_cons, garbA_nil, setL_cons, setL_nil, List.set_cons_zero, List.set_cons_succ]
          repeat' (first | refine go1 ?_ | refine blockK_else rfl ?_ | (refine go2 fun A B a b => ?_; simp only [go_sem, *, wpK_append ty22 rfl, wpK_buildSlice ty22 rfl, encD, encN, pl, Int.lt_irrefl, qA, hoc, hos, hoe2, hoc2, hst2, n5, ad5, ints_len, il, b1, b2, w2, set_lenAdd, Nat.zero_le, getElem?_len, getElem?_lenAdd, set_len, List.append_assoc, List.length_append, List.length_map, lenK_str, snap_sl, ints_take, List.take_length, Bool.true_or]; (repeat' first | apply a.1 | apply b.1 | refine iteI (fun h => ?_) fun h => ?_) <;> clear a b A B))
          refine loopF_next (i + 1) hiH.out.1 hiH.out.2 ?_ ?_
          · ((try simp only [eraseA_cons, eraseA_nil, setL_cons, setL_nil, List.set_cons_zero, List.set_cons_succ]); all_goals (first | rfl | (simp only [len_snoc, ints_len, List.length_map, hse.out, hse2, hnH.out]; done) | (simp only [len_snoc, len_mid, ints_len, List.length_map, List.length_append, List.length_cons, List.length_nil, Nat.zero_add, hse.out, hse2, hnH.out]; first | done | rfl)))
          · simp only [lawS, encR, hse.out, hOO.out, hRR.out, isn.out, osn.out, ints_append, encD]; exact ⟨_, rfl⟩
        · intro g3 G3 pre p post h1 hlk
          obtain ⟨hp1, hp2, hp3⟩ := hpr.out pre p post h1
          have lt3 : (pre.length : Int) < ((n + 1 : Nat) : Int) := by omega
          have w3 := wrap_succ (n := pre.length) (by have := hnL.out; omega)
          have ix1 := idxI (b := 3) (e := n + 1 + 1) (k := .i64) (show pre.length < n + 1 + 1 by omega)
          have ix2 := idxI (b := 2) (e := n + 1) (k := .i64) hp3
          have ro := ints_get hp1
          rw [ints_append] at ro
          simp only [ints, List.map_cons, List.map_nil] at ro
          have ri := ints_get hp2
          have hp4 : pre.length < n + 1 + 1 := by omega
          have hh1 : Hold (P = pre ++ p :: post) := ⟨h1⟩
          have hii : (List.map (fun n => [AV.int .i64 n]) O) = ints O := rfl
          rw [hii] at ro
          clear h1 hp1 hp2 hii
          cases k9 : (p.1 == x.pa) with
          | true =>
            have qA := hqH.out
            rw [hlk] at qA
            have e9 : lk (p :: post) x.pa = p.2 := by obtain ⟨a, b⟩ := p; simp only [lk]; simp only at k9; rw [k9, if_pos rfl]
            rw [e9] at qA
            simp only [encN] at qA
            clear hlk e9
            simp only [garbA_cons, garbA_nil, setL_cons, setL_nil, List.set_cons_zero, List.set_cons_succ]
            repeat' (first | refine go1 ?_ | refine blockK_else rfl ?_ | (refine go2 fun A B a b => ?_; simp only [go_sem, *, wpK_append ty22 rfl, wpK_buildSlice ty22 rfl, encD, encN, pl, lt3, ix1, ix2, ro, ri, hp3, hp4, k9, qA, hoc, hos, hoe2, hoc2, hst2, n5, ad5, ints_len, il, ol, b1, b2, w2, set_lenAdd, Nat.zero_le, getElem?_len, getElem?_lenAdd, set_len, List.append_assoc, List.length_append, List.length_map, lenK_str, snap_sl, ints_take, List.take_length, Bool.true_or]; (repeat' first | apply a.1 | apply b.1 | refine iteI (fun h => ?_) fun h => ?_) <;> clear a b A B))
            refine loopF_next (i + 1) hiH.out.1 hiH.out.2 ?_ ?_
            · ((try simp only [eraseA_cons, eraseA_nil, setL_cons, setL_nil, List.set_cons_zero, List.set_cons_succ]); all_goals (first | rfl | (simp only [len_snoc, ints_len, List.length_map, hse.out, hse2, hnH.out]; done) | (simp only [len_snoc, len_mid, ints_len, List.length_map, List.length_append, List.length_cons, List.length_nil, Nat.zero_add, hse.out, hse2, hnH.out]; first | done | rfl)))
            · simp only [lawS, encR, hse.out, hOO.out, hRR.out, isn.out, osn.out, ints_append, encD]; exact ⟨_, rfl⟩
          | false =>
            have e9 : Hold (lk P x.pa = lk post x.pa) := ⟨by rw [hlk]; obtain ⟨a, b⟩ := p; simp only [lk]; simp only at k9; rw [k9, if_neg (by simp)]⟩
            clear hlk
            simp only [garbA_cons, garbA_nil, setL_cons, setL_nil, List.set_cons_zero, List.set_cons_succ]
            repeat' (first | refine go1 ?_ | refine blockK_else rfl ?_ | (refine go2 fun A B a b => ?_; simp only [go_sem, *, wpK_append ty22 rfl, wpK_buildSlice ty22 rfl, encD, encN, pl, lt3, w3, ix1, ro, hp3, hp4, k9, ints_len, ol, set_lenAdd, Nat.zero_le, getElem?_len, getElem?_lenAdd, set_len, List.append_assoc, List.length_append, List.length_map, lenK_str, snap_sl, ints_take, List.take_length, Bool.true_or]; (repeat' first | apply a.1 | apply b.1 | refine iteI (fun h => ?_) fun h => ?_) <;> clear a b A B))
            refine each_next hh1.out e9.out ?_ ?_
            · ((try simp only [eraseA_cons, eraseA_nil, setL_cons, setL_nil, List.set_cons_zero, List.set_cons_succ]); all_goals (first | rfl | (simp only [len_snoc, ints_len, List.length_map, ]; done) | (simp only [len_snoc, len_mid, ints_len, List.length_map, List.length_append, List.length_cons, List.length_nil, Nat.zero_add, ]; first | done | rfl)))
            · first | exact ⟨[], (List.append_nil _).symm⟩ | exact ⟨_, rfl⟩ | (simp only [List.append_assoc, List.cons_append, List.nil_append]; exact ⟨_, rfl⟩)
    · have hin : i = l0.length := by have := fewH.out; omega
      have e1 : (i : Int) = (ns.length : Int) := by have := fewH.out; omega
      have hse : Hold (seqAt l0 t i = seqAt l0 (t + 1) 0) := ⟨by rw [hin]; exact seqAt_end l0 t⟩
      clear hi hil hin
      simp only [lawS]
      simp only [garbA_cons, garbA_nil, setL_cons, setL_nil, List.set_cons_zero, List.set_cons_succ]
      repeat' (first | refine go1 ?_ | refine blockK_else rfl ?_ | (refine go2 fun A B a b => ?_; simp only [go_sem, *, wpK_append ty22 rfl, wpK_buildSlice ty22 rfl, encD, e1, Int.lt_irrefl, w1, set_lenAdd, Nat.zero_le, getElem?_len, getElem?_lenAdd, set_len, List.append_assoc, List.length_append, List.length_map, lenK_str, snap_sl, ints_len, ints_take, List.take_length, Bool.true_or]; (repeat' first | apply a.1 | apply b.1 | refine iteI (fun h => ?_) fun h => ?_) <;> clear a b A B))
      refine loopF_next (t + 1) htH.out.1 htH.out.2.1 ?_ ?_
      · ((try simp only [eraseA_cons, eraseA_nil, setL_cons, setL_nil, List.set_cons_zero, List.set_cons_succ]); all_goals (first | rfl | (simp only [len_snoc, ints_len, List.length_map, hse.out]; done) | (simp only [len_snoc, len_mid, ints_len, List.length_map, List.length_append, List.length_cons, List.length_nil, Nat.zero_add, hse.out]; first | done | rfl)))
      · simp only [lawS, hse.out, encD]; exact ⟨_, rfl⟩
  · have e1 : t = ts.length := by omega
    subst e1
    rw [seqAt_zero]
    clear ht htl
    have hM14 : (newL (seqN ts.length l0)).length ≤ 14 := by have := hM.out; have := fewH.out; omega
    have qC := (cellsE (ovOf_sls (newL (seqN ts.length l0))) hAll.out hM14).rw
    have qD := (docE hD.out hsp (cv := .tsl true 11 (celsL (newL (seqN ts.length l0)))) (.rows true)).rw
    have hos := (ovOf_sls (newL (seqN ts.length l0))).snap
    have hoc := (ovOf_sls (newL (seqN ts.length l0))).cell
    have hst := ovOf_stab (newL (seqN ts.length l0))
    have n5 : ∀ (S : Store) (r : List (List AV)), snap S (.tsl true 1 r) = some (.tsl true 1 r) := fun S r => by simp only [snap]
    have n11 : ∀ (S : Store) (r : List (List AV)), snap S (.tsl true 11 r) = some (.tsl true 11 r) := fun S r => by simp only [snap]
    have n7 : ∀ (S : Store) (r : List (List AV)), snap S (.tsl true 7 r) = some (.tsl true 7 r) := fun S r => by simp only [snap]
    have hdx : Dc.ok { d with nv := .tsl true 7 ((newL (seqN ts.length l0)).map encN) } ts (newL (seqN ts.length l0)) := ⟨c3, s3, htt, .rows true, p1, p2, rfl⟩
    have hG1 : Hold (∀ (i : Nat) (o m : Nt), (runN (seqN ts.length l0))[i]? = some (o, m) → EvV CX 11 [.agg [.int .i64 d.id, .str d.nm, .int .i64 d.len, .int .i64 d.day, d.sp, d.tv, .tsl true 7 ((newL (seqN ts.length l0)).map encN)], .int .i64 m.id] (· = .tup [.agg [.int .i64 m.id, .int .i64 o.ti, .int .i64 m.pa, .int .i64 o.fr, .int .i64 o.en, .int .i64 o.rk, .str o.tx], .bool true])) := ⟨fun i o m h => by
      have h1 := getE m.id hdx (by omega)
      have hmm : m ∈ newL (seqN ts.length l0) := List.mem_map.2 ⟨(o, m), List.mem_of_getElem? h, rfl⟩
      rw [getN_of hD.out.nodup hmm] at h1
      obtain ⟨e1, e2, e3, e4, e5⟩ := new_same h
      simp only [getV, encN, e1, e2, e3, e4, e5, encD] at h1
      exact h1⟩
    have hG2 : Hold (∀ (i : Nat) (o m : Nt), (runN (seqN ts.length l0))[i]? = some (o, m) → EvV CX 11 [.agg (encD d), .int .i64 o.id] (· = .tup [.agg (encN o), .bool true])) := ⟨fun i o m h => by
      have h1 := getE o.id hdH.out (by have := fewH.out; omega)
      have ho : o ∈ ns := (seq_all hRH.out hmH.out).1 (List.mem_of_getElem? (run_mem h))
      rw [getN_of (ids_nodup hRH.out.ids) ho] at h1
      exact h1⟩
    have hI : Hold (∀ (i : Nat) (o m : Nt), (runN (seqN ts.length l0))[i]? = some (o, m) → (idsL (seqN ts.length l0))[i + 1]? = some m.id ∧ (oldsL (seqN ts.length l0))[i + 1]? = some o.id) := ⟨fun i o m h => by
      unfold idsL oldsL pairsN
      simp [h]⟩
    have ml := hM.out
    have il := idsL_len (seqN ts.length l0)
    have ol := oldsL_len (seqN ts.length l0)
    have rl := runN_len (seqN ts.length l0)
    have nl : (seqN ts.length l0).length ≤ 14 := by rw [← newL_len]; exact hM14
    have ll : (ns.length : Int) = ((seqN ts.length l0).length : Int) := by rw [← ml, newL_len]
    have ml2 : ((newL (seqN ts.length l0)).length : Int) = (ns.length : Int) := by rw [ml]
    have nlH : Hold ((seqN ts.length l0).length ≤ 14) := ⟨nl⟩
    simp only [recA] at qD
    simp only [encR] at qC
    simp only [lawS, encR]
    clear hdx hM14 nl hM hAll ml
    generalize newL (seqN ts.length l0) = M at *
    generalize seqN ts.length l0 = l at *
    have fz : freezeA (.tup [.agg [.int .i64 d.id, .str d.nm, .int .i64 d.len, .int .i64 d.day, d.sp, d.tv, .tsl true 7 (M.map encN)], .osl 8 []]) = .tup [.agg [.int .i64 d.id, .str d.nm, .int .i64 d.len, .int .i64 d.day, d.sp, d.tv, .tsl true 7 (M.map encN)], .tsl true 8 []] := rfl
    have z0 : (((0 : Nat) : Int) < 0) = False := by simp
    have hnb : ((ns.length : Int) == (ns.length : Int)) = true := by simp
    clear ll hD rl
    simp only [garbA_cons, garbA_nil, setL_cons, setL_nil, List.set_cons_zero, List.set_cons_succ]
    repeat' (first | refine go1 ?_ | refine blockK_else rfl ?_ | (refine go2 fun A B a b => ?_; simp only [go_sem, *, wpK_append ty22 rfl, wpK_buildSlice ty22 rfl, encD, c1, c2, c3, p1, p2, p3, s1, s2, s3, cc, hos, hoc, hst, n5, n11, qC, qD, fz, Int.lt_irrefl, lenK_sls hnn, List.length_map, ml2, hnb, ints_len, il, ol, set_lenAdd, Nat.zero_le, getElem?_len, getElem?_lenAdd, set_len, List.append_assoc, List.length_append, lenK_str, snap_sl, ints_take, List.take_length, Bool.true_or]; (repeat' first | apply a.1 | apply b.1 | refine iteI (fun h => ?_) fun h => ?_) <;> clear a b A B))
    have e01 : ((0 + 1 : Nat) : Int) = 1 := rfl
    refine wpC_loopF [4, 17, 18, 19, 20, 132, 133, 134, 135, 136, 137, 138, 139, 140, 141, 142, 143, 144, 145, 146, 147, 148, 149, 150, 151, 152, 153, 154, 155, 156, 157, 158, 159, 160, 161, 162, 163, 164, 165, 166, 167, 168, 169, 170, 171, 172, 173, 174, 175, 176, 177, 178, 179, 180, 181, 182, 183, 184, 185] (fun i : Nat => [(16, .int .i64 ((i + 1 : Nat) : Int))]) (fun _ G2 => .arr [encD d] 7 0 true :: .arr [[.int .i64 2, .tsl true 1 (ints (seenL M.length)), ovOf M]] 3 1 true :: .arr (ints (idsL l)) 1 0 true :: .arr (ints (oldsL l)) 1 0 true :: (G ++ .arr [[.int .i64 d.id, .str d.nm, .int .i64 d.len, .int .i64 d.day, d.sp, d.tv, .tsl true 7 (M.map encN)]] 7 1 true :: G2)) (fun i => i ≤ l.length) (fun i => l.length - i) 0 (Nat.zero_le _) ?_ ⟨[], by simp only [encD]⟩ ?_
    · ((try simp only [eraseA_cons, eraseA_nil, setL_cons, setL_nil, List.set_cons_zero, List.set_cons_succ]); all_goals (first | rfl | (simp only [len_snoc, ints_len, List.length_map, e01]; done) | (simp only [len_snoc, len_mid, ints_len, List.length_map, List.length_append, List.length_cons, List.length_nil, Nat.zero_add, e01]; first | done | rfl)))
    clear e01
    intro i g2 G2 hi
    replace hi : i ≤ l.length := hi
    by_cases hil : i < l.length
    · obtain ⟨o, ho⟩ : ∃ o, l[i]? = some o := ⟨_, List.getElem?_eq_getElem hil⟩
      obtain ⟨m, hm⟩ := run_at ho
      obtain ⟨k1, k2⟩ := hI.out i o m hm
      have r1 := ints_get k1
      have r2 := ints_get k2
      have qg1 := (hG1.out i o m hm).rw
      have qg2 := (hG2.out i o m hm).rw
      simp only [encN, encD] at qg2
      have lt1 : ((i + 1 : Nat) : Int) < ((l.length + 1 : Nat) : Int) := by omega
      have w1 := wrap_succ (n := i + 1) (by have := nlH.out; omega)
      have hl1 : i + 1 < l.length + 1 := by omega
      have x1 := idxI (b := 2) (e := l.length + 1) (k := .i64) hl1
      have x2 := idxI (b := 3) (e := l.length + 1) (k := .i64) hl1
      have hiH : Hold (l.length - (i + 1) < l.length - i ∧ i + 1 ≤ l.length) := ⟨by omega⟩
      clear hi hil ho hm k1 k2
      simp only [garbA_cons, garbA_nil, setL_cons, setL_nil, List.set_cons_zero, List.set_cons_succ]
      repeat' (first | refine go1 ?_ | refine blockK_else rfl ?_ | (refine go2 fun A B a b => ?_; simp only [go_sem, *, wpK_append ty22 rfl, wpK_buildSlice ty22 rfl, encD, encN, c1, c2, c3, p1, p2, p3, s1, s2, s3, n7, w1, x1, x2, r1, r2, hl1, qg1, qg2, adoptNB, strBin, beq_self_eq_true, set_lenAdd, Nat.zero_le, getElem?_len, getElem?_lenAdd, set_len, List.append_assoc, List.length_append, List.length_map, lenK_str, snap_sl, ints_len, ints_take, List.take_length, Bool.true_or]; (repeat' first | apply a.1 | apply b.1 | refine iteI (fun h => ?_) fun h => ?_) <;> clear a b A B))
      refine loopF_next (i + 1) hiH.out.1 hiH.out.2 ?_ ?_
      · ((try simp only [eraseA_cons, eraseA_nil, setL_cons, setL_nil, List.set_cons_zero, List.set_cons_succ]); all_goals (first | rfl | (simp only [len_snoc, ints_len, List.length_map, ]; done) | (simp only [len_snoc, len_mid, ints_len, List.length_map, List.length_append, List.length_cons, List.length_nil, Nat.zero_add, ]; first | done | rfl)))
      · simp only [encD]; exact ⟨_, rfl⟩
    · have hie : i = l.length := by omega
      subst hie
      clear hi hil
      simp only [garbA_cons, garbA_nil, setL_cons, setL_nil, List.set_cons_zero, List.set_cons_succ]
      repeat' (first | refine go1 ?_ | refine blockK_else rfl ?_ | (refine go2 fun A B a b => ?_; simp only [go_sem, *, wpK_append ty22 rfl, wpK_buildSlice ty22 rfl, Int.lt_irrefl, qa, set_lenAdd, Nat.zero_le, getElem?_len, getElem?_lenAdd, set_len, List.append_assoc, List.length_append, List.length_map, lenK_str, snap_sl, ints_len, ints_take, List.take_length, Bool.true_or]; (repeat' first | apply a.1 | apply b.1 | refine iteI (fun h => ?_) fun h => ?_) <;> clear a b A B))
      simp only [go_sem, wpK_append ty22 rfl, wpK_buildSlice ty22 rfl]
end
end Go.Eng
