/- Part 2 of the texts behind this claim. -/
import Derived.Test.YtoeogoeahmlgnaaGreatDoorZ1
import Derived.Test.YtoeogoeahmlgnaaGreatDoorPt
set_option linter.all false

/- Rebuilds: what the reference's check of a document tells. -/
namespace Go.Eng
open Go.Proofs
set_option linter.unusedSimpArgs false
set_option linter.unusedVariables false
attribute [local irreducible] wpC wpO wp1 EvV EvR wpL
attribute [local go_sem] ty3 ty4 ty9 ty24 ty25 ty26 ty28 ty34 ty38 ty40 ty53 ty126 eq38 eq40 br11 br45 br46 br47 br48 br49 br50 allocK fz60 fz61 fz62 fz63 fz64 reduceIte Nat.reduceAdd Nat.reduceEqDiff Nat.reduceLT Nat.reduceLeDiff beq_iff_eq beq_eq_false_iff_ne Int.natCast_inj Bool.not_eq_false' op1_go wpK_box wpK_alloc wpK_load wpK_store wpK_binOp wpK_unOp wpK_fieldAddr wpK_field wpK_build wpK_indexAddr wpK_slice wpK_len wpK_extract wpK_nilCheck wpK_pick wpK_makeFunc wpK_call wpK_callT wpK_max wpK_min wpK_assignT wpK_moveT wpK_assignB wpK_moveB wpK_assignI wpK_moveI wpK_assignA wpK_moveA callK_fn snapL_nil snapL_cons snap_int snap_bool snap_str snap_tsl snap_agg snap_fn snap_flat adopt_int adopt_bool adopt_str adopt_agg adopt_osl adopt_tsl adopt_tup op1_guard grdK_bool grdK_undef condK_bool someK_some pairK_some nilK_ptr nilK_tptr boxK storeK evalA_tmp evalA_int evalA_bool evalA_agg evalA_fn evalA_nil ofC_int ofC_bool getA_zero getA_succ cells_int cells_agg cells_bool cells_sl cells_tsl cell_int cell_bool cell_str cell_sl cell_esl cell_tsl cell_ptr cell_tptr cell_fn cell_nils cell_nilf List.all_cons List.all_nil Bool.and_true Bool.and_self Bool.true_and putA_some putA_none List.set_cons_zero List.set_cons_succ List.length_cons List.length_nil List.nil_append List.cons_append stabL AV.stab fieldAddrA fieldA List.getElem?_cons_zero List.getElem?_cons_succ Nat.zero_add loadA rowOf Nat.le_refl and_self true_and and_true partA binA unA intBin eqBin eqCells eqCell Option.bind_some decide_true decide_false decide_eq_true_eq ite_not Bool.not_eq_true' decide_eq_false_iff_not Bool.false_eq_true Option.map_some Option.map_none Bool.not_true Bool.not_false buildA fillA patch List.take List.drop List.map_cons List.map_nil extK List.getD_cons_zero List.getD_cons_succ minmaxA minmaxGo adoptZ_false adoptZ_true freeze_int freeze_bool freeze_str freeze_flat freeze_agg freeze_osl freeze_tsl freeze_tup frz1_bool frz1_int frz1_str frz1_agg frz1_osl frz1_tsl bne Bool.false_and Bool.and_false ne_eq not_true_eq_false not_false_eq_true List.append_nil resultsR resultsL resultA expK_int expK_bool expK_str expK_agg expK_own expK_tsl resK_some latK_false latK_true latP_store latP_move latP_assign latP_pick latP_nilCheck latP_makeInterface latP_binOp latP_unOp latP_convert latP_build latP_field latP_fieldAddr latP_indexAddr latP_index latP_slice latP_makeFunc latP_extract latP_call latP_load latP_alloc latP_box latP_buildSlice latP_makeSlice latP_makeMap latP_lookup latP_mapUpdate latP_range latP_next latP_entry nestNo wpK_lookup wpK_range wpK_next wpK_entry wpK_makeMap wpK_mapUpdate cell_mp
set_option maxHeartbeats 4000000
set_option maxRecDepth 20000

/-- What the reference says of the siblings of a note. -/
def SibQ (ns : List Nt) (kd tier : Int) (n : Nt) : Prop :=
  (alK kd = true → (sibs ns tier n.pa).Pairwise Apart) ∧ (kd = 3 → ∀ k : Nat, k < (sibs ns tier n.pa).length → ∃ x ∈ sibs ns tier n.pa, x.rk = k) ∧ (kd = 4 → (sibs ns tier n.pa).length ≤ 1)

theorem kinds4 (kd : Int) : (kd = 1 ∧ (kd == 1) = true ∧ (kd == 3) = false ∧ (kd == 4) = false ∧ alK kd = true) ∨ (kd = 3 ∧ (kd == 1) = false ∧ (kd == 3) = true ∧ (kd == 4) = false ∧ alK kd = false) ∨ (kd = 4 ∧ (kd == 1) = false ∧ (kd == 3) = false ∧ (kd == 4) = true ∧ alK kd = false) ∨ (kd ≠ 3 ∧ kd ≠ 4 ∧ (kd == 1) = false ∧ (kd == 3) = false ∧ (kd == 4) = false) := by
  by_cases h1 : kd = 1
  · subst h1; exact .inl ⟨rfl, rfl, rfl, rfl, rfl⟩
  by_cases h3 : kd = 3
  · subst h3; exact .inr (.inl ⟨rfl, rfl, rfl, rfl, rfl⟩)
  by_cases h4 : kd = 4
  · subst h4; exact .inr (.inr (.inl ⟨rfl, rfl, rfl, rfl, rfl⟩))
  · refine .inr (.inr (.inr ⟨h3, h4, ?_, ?_, ?_⟩)) <;> simpa

theorem tierErrE {d : Dc} {ts : List Ti} {ns : List Nt} {j : Nat} {t : Ti} (hd : d.ok ts ns) (hl : ns.length ≤ 1000) (hj : ts[j]? = some t) :
    ∃ e, (e = 0 → ∀ n ∈ ns, n.ti = j → SibQ ns t.kd j n) ∧ EvV CX 31 [.agg (encD d), .int .i64 j] (· = .int .i64 e) := by
  suffices h : EvV CX 31 [.agg (encD d), .int .i64 j] (fun r => ∃ e, r = .int .i64 e ∧ (e = 0 → ∀ n ∈ ns, n.ti = j → SibQ ns t.kd j n)) by
    obtain ⟨r, ⟨b, rfl, hb⟩, h⟩ := h.ex
    exact ⟨b, hb, h⟩
  have c1 := hd.nc
  have c2 := hd.tc
  have c3 := hd.sc
  have p1 := hd.p1
  have p2 := hd.p2
  have p3 := hd.p3
  have s1 := hd.nsn
  have s2 := hd.tsn
  have s3 := hd.ss
  have hn := hd.n
  have i0 := idx_sls hd.t (X := CX) ty25 ty53 rfl (n := j) (row := encT t) (k := .i64) (by rw [List.getElem?_map, hj]; rfl)
  obtain ⟨J, hJ⟩ : ∃ J : Int, (j : Int) = J := ⟨_, rfl⟩
  rw [hJ] at i0 ⊢
  have qa := (alignedE t.kd).rw
  clear hj
  refine EvV.walk rfl fn31 rfl nt31 rfl ?_
  simp only [List.length_cons, List.length_nil, List.cons_append, List.nil_append, Nat.reduceAdd, Nat.reduceSub, List.replicate]
  repeat' (first | refine go1 ?_ | refine blockK_else rfl ?_ | (refine go2 fun A B a b => ?_; simp only [go_sem, *, encD, encT, c1, c2, c3, p1, p2, p3, i0]; (repeat' first | apply a.1 | apply b.1 | refine iteI (fun h => ?_) fun h => ?_) <;> clear a b A B))
  refine wpC_loopF [4, 8, 9, 10, 11, 18, 19, 20, 21, 22, 23, 24, 25, 26, 27, 28, 29, 30, 31, 32, 33, 34, 35, 36, 37, 38, 39, 40, 41, 42, 43, 44, 45, 46, 47, 48, 49, 50, 51, 52, 53, 54, 55, 56, 57, 58, 59, 60, 61, 62, 63, 64, 65, 66, 67, 68, 69, 70, 71, 72, 73, 74, 75] (fun p : List Nt × List Nt × Int => [(6, .int .i64 p.2.2), (7, .int .i64 (p.1.length : Int))]) (fun _ G => .arr [encD d] 7 0 true :: G) (fun p => ns = p.1 ++ p.2.1 ∧ (p.2.2 = 0 → ∀ n ∈ p.1, n.ti = J → SibQ ns t.kd J n)) (fun p => p.2.1.length) ([], ns, 0) ⟨rfl, fun _ n h => by cases h⟩ ?_ ⟨[], rfl⟩ ?_
  · ((try simp only [eraseA_cons, eraseA_nil, setL_cons, setL_nil, List.set_cons_zero, List.set_cons_succ]); all_goals (first | rfl | (simp only [len_snoc, ints_len, List.length_map, ]; done) | (simp only [len_snoc, len_mid, ints_len, List.length_map, List.length_append, List.length_cons, List.length_nil, Nat.zero_add, ]; first | done | rfl)))
  rintro ⟨pre, post, e⟩ g G ⟨h1, hP⟩
  replace h1 : ns = pre ++ post := h1
  replace hP : e = 0 → ∀ n ∈ pre, n.ti = J → SibQ ns t.kd J n := hP
  cases post with
  | nil =>
    rw [List.append_nil] at h1
    have hPH : Hold (e = 0 → ∀ n ∈ ns, n.ti = J → SibQ ns t.kd J n) := ⟨by rw [h1] at hP ⊢; exact hP⟩
    have e1 : (pre.length : Int) = (ns.length : Int) := by rw [h1]
    clear h1 hP
    simp only [garbA_cons, garbA_nil, setL_cons, setL_nil, List.set_cons_zero, List.set_cons_succ]
    repeat' (first | refine go1 ?_ | refine blockK_else rfl ?_ | (refine go2 fun A B a b => ?_; simp only [go_sem, *, encD, e1, lenK_sls hn, List.length_map, Int.lt_irrefl, set_lenAdd, Nat.zero_le, getElem?_len, getElem?_lenAdd, set_len, List.append_assoc, List.length_append, lenK_str, snap_sl, rowsOf_sl, ints_len, ints_take, List.take_length, Bool.true_or]; (repeat' first | apply a.1 | apply b.1 | refine iteI (fun h => ?_) fun h => ?_) <;> clear a b A B))
    simp only [go_sem, set_lenAdd, Nat.zero_le, getElem?_len, getElem?_lenAdd, set_len, List.append_assoc, List.length_append, List.length_map, lenK_str, snap_sl, rowsOf_sl, ints_len, ints_take, List.take_length, Bool.true_or]
    exact ⟨_, rfl, hPH.out⟩
  | cons x post =>
    have hPH : Hold (e = 0 → ∀ n ∈ pre, n.ti = J → SibQ ns t.kd J n) := ⟨hP⟩
    have hpl : pre.length < ns.length := by rw [h1]; simp
    have lt1 : (pre.length : Int) < (ns.length : Int) := by omega
    have w1 := wrap_succ (n := pre.length) (by omega)
    have i1 := idx_sls hn (X := CX) ty26 ty40 rfl (n := pre.length) (row := encN x) (k := .i64) (by rw [h1]; exact map_midV encN pre x post)
    have hh1 : Hold (ns = (pre ++ [x]) ++ post) := ⟨by rw [h1]; simp⟩
    have qs := (sibE J x.pa hd hl).rw
    have hL1 := sibs_len ns J x.pa
    obtain ⟨L, hL⟩ : ∃ L, sibs ns J x.pa = L := ⟨_, rfl⟩
    have hSQ : Hold (SibQ ns t.kd J x ↔ (alK t.kd = true → L.Pairwise Apart) ∧ (t.kd = 3 → ∀ k : Nat, k < L.length → ∃ x ∈ L, x.rk = k) ∧ (t.kd = 4 → L.length ≤ 1)) := ⟨by unfold SibQ; rw [hL]⟩
    rw [hL] at qs hL1
    have hLn : L.length ≤ 1000 := by omega
    obtain ⟨bo, hbo, qo⟩ := overlapE (v := .tsl false 7 (L.map encN)) (.rows false) hLn
    obtain ⟨br, hbr, qr⟩ := rankedE (v := .tsl false 7 (L.map encN)) (.rows false) hLn
    have qo := qo.rw
    have qr := qr.rw
    obtain ⟨z, b, hz⟩ : ∃ z b, getV (getN ns x.pa) = .tup [.agg (encN z), .bool b] := by cases getN ns x.pa; exact ⟨_, _, rfl⟩; exact ⟨_, _, rfl⟩
    have qg := (getE x.pa hd (by omega)).rw
    rw [hz] at qg
    have qp := (spansE (v := .tsl false 7 (L.map encN)) (.rows false) hLn).rw
    have hsl : (L.map fun n => (n.fr, n.en)).length = L.length := by simp
    have qc := (Fo.covRE (.tsl false 2 (Fo.spans (L.map fun n => (n.fr, n.en)))) (L.map fun n => (n.fr, n.en)) (z.fr, z.en) (.rows false) (by omega)).rw
    obtain ⟨bc, hbc⟩ : ∃ bc, covR (L.map fun n => (n.fr, n.en)) (z.fr, z.en) = bc := ⟨_, rfl⟩
    rw [hbc] at qc
    simp only [encD] at qs qg
    simp only [encN] at qg
    simp only [Fo.encE] at qc
    have tk : ∀ {α : Type} (f : Nt → α), (L.map f).take L.length = L.map f := fun f => by rw [List.take_of_length_le (by simp)]
    have tk2 : (Fo.spans (L.map fun n => (n.fr, n.en))).take L.length = Fo.spans (L.map fun n => (n.fr, n.en)) := by rw [List.take_of_length_le (by simp [Fo.spans])]
    have sl2 : (Fo.spans (L.map fun n => (n.fr, n.en))).length = L.length := by simp [Fo.spans]
    have more : ∀ {e' : Int}, (e' = 0 → e = 0) → (e' = 0 → x.ti = J → SibQ ns t.kd J x) → (e' = 0 → ∀ n ∈ pre ++ [x], n.ti = J → SibQ ns t.kd J n) := fun h k h0 n hn hj => by
      rcases List.mem_append.1 hn with h2 | h2
      · exact hPH.out (h h0) n h2 hj
      · simp at h2; subst h2; exact k h0 hj
    have moreH : Hold (∀ {e' : Int}, (e' = 0 → e = 0) → (e' = 0 → x.ti = J → SibQ ns t.kd J x) → (e' = 0 → ∀ n ∈ pre ++ [x], n.ti = J → SibQ ns t.kd J n)) := ⟨more⟩
    have hboH : Hold (bo = false → L.Pairwise Apart) := ⟨hbo⟩
    have hbrH : Hold (br = true → ∀ k : Nat, k < L.length → ∃ x ∈ L, x.rk = k) := ⟨hbr⟩
    have hjJ : Hold ((j : Int) = J) := ⟨hJ⟩
    clear h1 hP hpl hL hL1 hbo hbr hz hsl hbc more hLn hJ
    cases k0 : (x.ti == J) with
    | false =>
      have hne : Hold (x.ti ≠ J) := ⟨by simpa using k0⟩
      simp only [garbA_cons, garbA_nil, setL_cons, setL_nil, List.set_cons_zero, List.set_cons_succ]
      repeat' (first | refine go1 ?_ | refine blockK_else rfl ?_ | (refine go2 fun A B a b => ?_; simp only [go_sem, *, encD, encN, encT, c1, c2, c3, p1, p2, p3, s1, s2, s3, Fo.encE, lenK_sls hn, List.length_map, lt1, w1, i1, k0, set_lenAdd, Nat.zero_le, getElem?_len, getElem?_lenAdd, set_len, List.append_assoc, List.length_append, lenK_str, snap_sl, rowsOf_sl, ints_len, ints_take, List.take_length, Bool.true_or]; (repeat' first | apply a.1 | apply b.1 | refine iteI (fun h => ?_) fun h => ?_) <;> clear a b A B))
      refine loopF_next (pre ++ [x], post, e) (Nat.lt_succ_self _) ⟨hh1.out, moreH.out (fun h => h) fun _ h => absurd h hne.out⟩ ?_ ?_
      · ((try simp only [eraseA_cons, eraseA_nil, setL_cons, setL_nil, List.set_cons_zero, List.set_cons_succ]); all_goals (first | rfl | (simp only [len_snoc, ints_len, List.length_map, ]; done) | (simp only [len_snoc, len_mid, ints_len, List.length_map, List.length_append, List.length_cons, List.length_nil, Nat.zero_add, ]; first | done | rfl)))
      · exact ⟨_, rfl⟩
    | true =>
    rcases kinds4 t.kd with ⟨kk, k1, k3, k4, ka⟩ | ⟨kk, k1, k3, k4, ka⟩ | ⟨kk, k1, k3, k4, ka⟩ | ⟨kk3, kk4, k1, k3, k4⟩
    · have hkk : Hold (t.kd = 1) := ⟨kk⟩
      clear kk
      cases bo with
      | true =>
        simp only [garbA_cons, garbA_nil, setL_cons, setL_nil, List.set_cons_zero, List.set_cons_succ]
        repeat' (first | refine go1 ?_ | refine blockK_else rfl ?_ | (refine go2 fun A B a b => ?_; simp only [go_sem, *, encD, encN, encT, c1, c2, c3, p1, p2, p3, s1, s2, s3, Fo.encE, adoptNB, adoptL, adopt1, lenK_sls hn, List.length_map, lt1, w1, i1, k0, k1, k3, k4, ka, qs, qa, qo, tk, set_lenAdd, Nat.zero_le, getElem?_len, getElem?_lenAdd, set_len, List.append_assoc, List.length_append, lenK_str, snap_sl, rowsOf_sl, ints_len, ints_take, List.take_length, Bool.true_or]; (repeat' first | apply a.1 | apply b.1 | refine iteI (fun h => ?_) fun h => ?_) <;> clear a b A B))
        all_goals simp only [go_sem]
        all_goals exact ⟨_, rfl, fun h => by cases h⟩
      | false =>
        have hP : Hold (SibQ ns t.kd J x) := ⟨hSQ.out.2 ⟨fun _ => hboH.out rfl, fun h => (by rw [hkk.out] at h; cases h), fun h => (by rw [hkk.out] at h; cases h)⟩⟩
        cases bc with
        | true =>
          simp only [garbA_cons, garbA_nil, setL_cons, setL_nil, List.set_cons_zero, List.set_cons_succ]
          repeat' (first | refine go1 ?_ | refine blockK_else rfl ?_ | (refine go2 fun A B a b => ?_; simp only [go_sem, *, encD, encN, encT, c1, c2, c3, p1, p2, p3, s1, s2, s3, Fo.encE, adoptNB, adoptL, adopt1, lenK_sls hn, List.length_map, lt1, w1, i1, k0, k1, k3, k4, ka, qs, qa, qo, qg, qp, qc, tk, tk2, sl2, set_lenAdd, Nat.zero_le, getElem?_len, getElem?_lenAdd, set_len, List.append_assoc, List.length_append, lenK_str, snap_sl, rowsOf_sl, ints_len, ints_take, List.take_length, Bool.true_or]; (repeat' first | apply a.1 | apply b.1 | refine iteI (fun h => ?_) fun h => ?_) <;> clear a b A B))
          refine loopF_next (pre ++ [x], post, e) (Nat.lt_succ_self _) ⟨hh1.out, moreH.out (fun h => h) fun _ _ => hP.out⟩ ?_ ?_
          · ((try simp only [eraseA_cons, eraseA_nil, setL_cons, setL_nil, List.set_cons_zero, List.set_cons_succ]); all_goals (first | rfl | (simp only [len_snoc, ints_len, List.length_map, ]; done) | (simp only [len_snoc, len_mid, ints_len, List.length_map, List.length_append, List.length_cons, List.length_nil, Nat.zero_add, ]; first | done | rfl)))
          · exact ⟨_, rfl⟩
        | false =>
          simp only [garbA_cons, garbA_nil, setL_cons, setL_nil, List.set_cons_zero, List.set_cons_succ]
          repeat' (first | refine go1 ?_ | refine blockK_else rfl ?_ | (refine go2 fun A B a b => ?_; simp only [go_sem, *, encD, encN, encT, c1, c2, c3, p1, p2, p3, s1, s2, s3, Fo.encE, adoptNB, adoptL, adopt1, lenK_sls hn, List.length_map, lt1, w1, i1, k0, k1, k3, k4, ka, qs, qa, qo, qg, qp, qc, tk, tk2, sl2, set_lenAdd, Nat.zero_le, getElem?_len, getElem?_lenAdd, set_len, List.append_assoc, List.length_append, lenK_str, snap_sl, rowsOf_sl, ints_len, ints_take, List.take_length, Bool.true_or]; (repeat' first | apply a.1 | apply b.1 | refine iteI (fun h => ?_) fun h => ?_) <;> clear a b A B))
          refine loopF_next (pre ++ [x], post, 16) (Nat.lt_succ_self _) ⟨hh1.out, moreH.out (fun h => by cases h) fun _ _ => hP.out⟩ ?_ ?_
          · ((try simp only [eraseA_cons, eraseA_nil, setL_cons, setL_nil, List.set_cons_zero, List.set_cons_succ]); all_goals (first | rfl | (simp only [len_snoc, ints_len, List.length_map, ]; done) | (simp only [len_snoc, len_mid, ints_len, List.length_map, List.length_append, List.length_cons, List.length_nil, Nat.zero_add, ]; first | done | rfl)))
          · exact ⟨_, rfl⟩
    · have hkk : Hold (t.kd = 3) := ⟨kk⟩
      have hka : Hold (alK t.kd = false) := ⟨ka⟩
      clear kk
      cases br with
      | true =>
        have hP : Hold (SibQ ns t.kd J x) := ⟨hSQ.out.2 ⟨fun h => (by rw [hka.out] at h; cases h), fun _ => hbrH.out rfl, fun h => by rw [hkk.out] at h; cases h⟩⟩
        simp only [garbA_cons, garbA_nil, setL_cons, setL_nil, List.set_cons_zero, List.set_cons_succ]
        repeat' (first | refine go1 ?_ | refine blockK_else rfl ?_ | (refine go2 fun A B a b => ?_; simp only [go_sem, *, encD, encN, encT, c1, c2, c3, p1, p2, p3, s1, s2, s3, Fo.encE, adoptNB, adoptL, adopt1, lenK_sls hn, List.length_map, lt1, w1, i1, k0, k1, k3, k4, ka, qs, qa, qr, qg, tk, set_lenAdd, Nat.zero_le, getElem?_len, getElem?_lenAdd, set_len, List.append_assoc, List.length_append, lenK_str, snap_sl, rowsOf_sl, ints_len, ints_take, List.take_length, Bool.true_or]; (repeat' first | apply a.1 | apply b.1 | refine iteI (fun h => ?_) fun h => ?_) <;> clear a b A B))
        refine loopF_next (pre ++ [x], post, e) (Nat.lt_succ_self _) ⟨hh1.out, moreH.out (fun h => h) fun _ _ => hP.out⟩ ?_ ?_
        · ((try simp only [eraseA_cons, eraseA_nil, setL_cons, setL_nil, List.set_cons_zero, List.set_cons_succ]); all_goals (first | rfl | (simp only [len_snoc, ints_len, List.length_map, ]; done) | (simp only [len_snoc, len_mid, ints_len, List.length_map, List.length_append, List.length_cons, List.length_nil, Nat.zero_add, ]; first | done | rfl)))
        · exact ⟨_, rfl⟩
      | false =>
        simp only [garbA_cons, garbA_nil, setL_cons, setL_nil, List.set_cons_zero, List.set_cons_succ]
        repeat' (first | refine go1 ?_ | refine blockK_else rfl ?_ | (refine go2 fun A B a b => ?_; simp only [go_sem, *, encD, encN, encT, c1, c2, c3, p1, p2, p3, s1, s2, s3, Fo.encE, adoptNB, adoptL, adopt1, lenK_sls hn, List.length_map, lt1, w1, i1, k0, k1, k3, k4, ka, qs, qa, qr, qg, tk, set_lenAdd, Nat.zero_le, getElem?_len, getElem?_lenAdd, set_len, List.append_assoc, List.length_append, lenK_str, snap_sl, rowsOf_sl, ints_len, ints_take, List.take_length, Bool.true_or]; (repeat' first | apply a.1 | apply b.1 | refine iteI (fun h => ?_) fun h => ?_) <;> clear a b A B))
        refine loopF_next (pre ++ [x], post, 10) (Nat.lt_succ_self _) ⟨hh1.out, moreH.out (fun h => by cases h) fun h => by cases h⟩ ?_ ?_
        · ((try simp only [eraseA_cons, eraseA_nil, setL_cons, setL_nil, List.set_cons_zero, List.set_cons_succ]); all_goals (first | rfl | (simp only [len_snoc, ints_len, List.length_map, ]; done) | (simp only [len_snoc, len_mid, ints_len, List.length_map, List.length_append, List.length_cons, List.length_nil, Nat.zero_add, ]; first | done | rfl)))
        · exact ⟨_, rfl⟩
    · have hkk : Hold (t.kd = 4) := ⟨kk⟩
      have hka : Hold (alK t.kd = false) := ⟨ka⟩
      clear kk
      by_cases kl : (1 : Int) < (L.length : Int)
      · simp only [garbA_cons, garbA_nil, setL_cons, setL_nil, List.set_cons_zero, List.set_cons_succ]
        repeat' (first | refine go1 ?_ | refine blockK_else rfl ?_ | (refine go2 fun A B a b => ?_; simp only [go_sem, *, encD, encN, encT, c1, c2, c3, p1, p2, p3, s1, s2, s3, Fo.encE, adoptNB, adoptL, adopt1, lenK_sls hn, List.length_map, lt1, w1, i1, k0, k1, k3, k4, ka, qs, qa, qg, tk, kl, lenK_sl, set_lenAdd, Nat.zero_le, getElem?_len, getElem?_lenAdd, set_len, List.append_assoc, List.length_append, lenK_str, snap_sl, rowsOf_sl, ints_len, ints_take, List.take_length, Bool.true_or]; (repeat' first | apply a.1 | apply b.1 | refine iteI (fun h => ?_) fun h => ?_) <;> clear a b A B))
        refine loopF_next (pre ++ [x], post, 8) (Nat.lt_succ_self _) ⟨hh1.out, moreH.out (fun h => by cases h) fun h => by cases h⟩ ?_ ?_
        · ((try simp only [eraseA_cons, eraseA_nil, setL_cons, setL_nil, List.set_cons_zero, List.set_cons_succ]); all_goals (first | rfl | (simp only [len_snoc, ints_len, List.length_map, ]; done) | (simp only [len_snoc, len_mid, ints_len, List.length_map, List.length_append, List.length_cons, List.length_nil, Nat.zero_add, ]; first | done | rfl)))
        · exact ⟨_, rfl⟩
      · have hP : Hold (SibQ ns t.kd J x) := ⟨hSQ.out.2 ⟨fun h => (by rw [hka.out] at h; cases h), fun h => (by rw [hkk.out] at h; cases h), fun _ => by omega⟩⟩
        simp only [garbA_cons, garbA_nil, setL_cons, setL_nil, List.set_cons_zero, List.set_cons_succ]
        repeat' (first | refine go1 ?_ | refine blockK_else rfl ?_ | (refine go2 fun A B a b => ?_; simp only [go_sem, *, encD, encN, encT, c1, c2, c3, p1, p2, p3, s1, s2, s3, Fo.encE, adoptNB, adoptL, adopt1, lenK_sls hn, List.length_map, lt1, w1, i1, k0, k1, k3, k4, ka, qs, qa, qg, tk, kl, lenK_sl, set_lenAdd, Nat.zero_le, getElem?_len, getElem?_lenAdd, set_len, List.append_assoc, List.length_append, lenK_str, snap_sl, rowsOf_sl, ints_len, ints_take, List.take_length, Bool.true_or]; (repeat' first | apply a.1 | apply b.1 | refine iteI (fun h => ?_) fun h => ?_) <;> clear a b A B))
        refine loopF_next (pre ++ [x], post, e) (Nat.lt_succ_self _) ⟨hh1.out, moreH.out (fun h => h) fun _ _ => hP.out⟩ ?_ ?_
        · ((try simp only [eraseA_cons, eraseA_nil, setL_cons, setL_nil, List.set_cons_zero, List.set_cons_succ]); all_goals (first | rfl | (simp only [len_snoc, ints_len, List.length_map, ]; done) | (simp only [len_snoc, len_mid, ints_len, List.length_map, List.length_append, List.length_cons, List.length_nil, Nat.zero_add, ]; first | done | rfl)))
        · exact ⟨_, rfl⟩
    · have hkk : Hold (t.kd ≠ 3 ∧ t.kd ≠ 4) := ⟨kk3, kk4⟩
      clear kk3 kk4
      cases ka : alK t.kd with
      | false =>
        have hka : Hold (alK t.kd = false) := ⟨ka⟩
        have hP : Hold (SibQ ns t.kd J x) := ⟨hSQ.out.2 ⟨fun h => (by rw [hka.out] at h; cases h), fun h => absurd h hkk.out.1, fun h => absurd h hkk.out.2⟩⟩
        simp only [garbA_cons, garbA_nil, setL_cons, setL_nil, List.set_cons_zero, List.set_cons_succ]
        repeat' (first | refine go1 ?_ | refine blockK_else rfl ?_ | (refine go2 fun A B a b => ?_; simp only [go_sem, *, encD, encN, encT, c1, c2, c3, p1, p2, p3, s1, s2, s3, Fo.encE, adoptNB, adoptL, adopt1, lenK_sls hn, List.length_map, lt1, w1, i1, k0, k1, k3, k4, ka, qs, qa, qg, tk, set_lenAdd, Nat.zero_le, getElem?_len, getElem?_lenAdd, set_len, List.append_assoc, List.length_append, lenK_str, snap_sl, rowsOf_sl, ints_len, ints_take, List.take_length, Bool.true_or]; (repeat' first | apply a.1 | apply b.1 | refine iteI (fun h => ?_) fun h => ?_) <;> clear a b A B))
        refine loopF_next (pre ++ [x], post, e) (Nat.lt_succ_self _) ⟨hh1.out, moreH.out (fun h => h) fun _ _ => hP.out⟩ ?_ ?_
        · ((try simp only [eraseA_cons, eraseA_nil, setL_cons, setL_nil, List.set_cons_zero, List.set_cons_succ]); all_goals (first | rfl | (simp only [len_snoc, ints_len, List.length_map, ]; done) | (simp only [len_snoc, len_mid, ints_len, List.length_map, List.length_append, List.length_cons, List.length_nil, Nat.zero_add, ]; first | done | rfl)))
        · exact ⟨_, rfl⟩
      | true =>
        cases bo with
        | true =>
          simp only [garbA_cons, garbA_nil, setL_cons, setL_nil, List.set_cons_zero, List.set_cons_succ]
          repeat' (first | refine go1 ?_ | refine blockK_else rfl ?_ | (refine go2 fun A B a b => ?_; simp only [go_sem, *, encD, encN, encT, c1, c2, c3, p1, p2, p3, s1, s2, s3, Fo.encE, adoptNB, adoptL, adopt1, lenK_sls hn, List.length_map, lt1, w1, i1, k0, k1, k3, k4, ka, qs, qa, qo, tk, set_lenAdd, Nat.zero_le, getElem?_len, getElem?_lenAdd, set_len, List.append_assoc, List.length_append, lenK_str, snap_sl, rowsOf_sl, ints_len, ints_take, List.take_length, Bool.true_or]; (repeat' first | apply a.1 | apply b.1 | refine iteI (fun h => ?_) fun h => ?_) <;> clear a b A B))
          all_goals simp only [go_sem]
          all_goals exact ⟨_, rfl, fun h => by cases h⟩
        | false =>
          have hP : Hold (SibQ ns t.kd J x) := ⟨hSQ.out.2 ⟨fun _ => hboH.out rfl, fun h => absurd h hkk.out.1, fun h => absurd h hkk.out.2⟩⟩
          simp only [garbA_cons, garbA_nil, setL_cons, setL_nil, List.set_cons_zero, List.set_cons_succ]
          repeat' (first | refine go1 ?_ | refine blockK_else rfl ?_ | (refine go2 fun A B a b => ?_; simp only [go_sem, *, encD, encN, encT, c1, c2, c3, p1, p2, p3, s1, s2, s3, Fo.encE, adoptNB, adoptL, adopt1, lenK_sls hn, List.length_map, lt1, w1, i1, k0, k1, k3, k4, ka, qs, qa, qo, qg, tk, set_lenAdd, Nat.zero_le, getElem?_len, getElem?_lenAdd, set_len, List.append_assoc, List.length_append, lenK_str, snap_sl, rowsOf_sl, ints_len, ints_take, List.take_length, Bool.true_or]; (repeat' first | apply a.1 | apply b.1 | refine iteI (fun h => ?_) fun h => ?_) <;> clear a b A B))
          refine loopF_next (pre ++ [x], post, e) (Nat.lt_succ_self _) ⟨hh1.out, moreH.out (fun h => h) fun _ _ => hP.out⟩ ?_ ?_
          · ((try simp only [eraseA_cons, eraseA_nil, setL_cons, setL_nil, List.set_cons_zero, List.set_cons_succ]); all_goals (first | rfl | (simp only [len_snoc, ints_len, List.length_map, ]; done) | (simp only [len_snoc, len_mid, ints_len, List.length_map, List.length_append, List.length_cons, List.length_nil, Nat.zero_add, ]; first | done | rfl)))
          · exact ⟨_, rfl⟩

/- Rebuilds: right documents, as the reference checks them. -/
open Go.Proofs
attribute [local go_sem] ty22 br29 br30 br31 fz66 fz67 fz69 br12 fz72
set_option maxHeartbeats 4000000
set_option maxRecDepth 20000

theorem at_app0 {S : Store} {b : Nat} {x : Blk} (h : S[b]? = some x) : ∀ X, (S ++ X)[b]? = some x := fun X => by
  rw [List.getElem?_append_left (List.getElem?_eq_some_iff.1 h).1]; exact h
theorem pw_snoc {pre : List Nt} {x : Nt} (h : pre.Pairwise fun a b => a.id < b.id) (hx : ∀ y, pre.getLast? = some y → y.id < x.id) : (pre ++ [x]).Pairwise fun a b => a.id < b.id := by
  rw [List.pairwise_append]
  refine ⟨h, by simp, fun a ha b hb => ?_⟩
  simp at hb; subst hb
  rcases snoc_cases pre with rfl | ⟨p, y, rfl⟩
  · cases ha
  · have h1 := hx y (by simp)
    rw [List.pairwise_append] at h
    rcases List.mem_append.1 ha with h2 | h2
    · have := h.2.2 a h2 y (by simp); omega
    · simp at h2; subst h2; exact h1

theorem checkDE {d : Dc} {ts : List Ti} {ns : List Nt} (hd : d.ok ts ns) (hl : ns.length ≤ 14) (htl : ts.length ≤ 6) (hn : ∀ x ∈ ts, x.nm.size ≤ 9223372036854775807) (hx : ∀ n ∈ ns, n.tx.size ≤ 9223372036854775807) :
    ∃ e, (e = 0 → RightD TX d.len ts ns) ∧ EvV CX 12 [.agg (encD d)] (· = .int .i64 e) := by
  suffices h : EvV CX 12 [.agg (encD d)] (fun r => ∃ e, r = .int .i64 e ∧ (e = 0 → RightD TX d.len ts ns)) by
    obtain ⟨r, ⟨b, rfl, hb⟩, h⟩ := h.ex
    exact ⟨b, hb, h⟩
  have c1 := hd.nc
  have c2 := hd.tc
  have c3 := hd.sc
  have p1 := hd.p1
  have p2 := hd.p2
  have p3 := hd.p3
  have s1 := hd.nsn
  have s2 := hd.tsn
  have s3 := hd.ss
  have hnn := hd.n
  have htt := hd.t
  obtain ⟨e1, he1, q1⟩ := checkE hd.t (by omega) hn
  have q1 := q1.rw
  cases k1 : (e1 == 0) with
  | false =>
    have hz : Hold (e1 ≠ 0) := ⟨by simpa using k1⟩
    refine EvV.walk rfl fn12 rfl nt12 rfl ?_
    simp only [List.length_cons, List.length_nil, List.cons_append, List.nil_append, Nat.reduceAdd, Nat.reduceSub, List.replicate]
    repeat' (first | refine go1 ?_ | refine blockK_else rfl ?_ | (refine go2 fun A B a b => ?_; simp only [go_sem, *, encD, c1, c2, c3, p1, p2, p3, s1, s2, s3, q1, k1]; (repeat' first | apply a.1 | apply b.1 | refine iteI (fun h => ?_) fun h => ?_) <;> clear a b A B))
    simp only [go_sem]
    exact ⟨_, rfl, fun h => absurd h hz.out⟩
  | true =>
  have hT : Hold (∀ (i : Nat) t, ts[i]? = some t → tierP i t) := ⟨he1 (by simpa using k1)⟩
  clear he1
  by_cases k2 : d.len < 0
  · refine EvV.walk rfl fn12 rfl nt12 rfl ?_
    simp only [List.length_cons, List.length_nil, List.cons_append, List.nil_append, Nat.reduceAdd, Nat.reduceSub, List.replicate]
    repeat' (first | refine go1 ?_ | refine blockK_else rfl ?_ | (refine go2 fun A B a b => ?_; simp only [go_sem, *, encD, c1, c2, c3, p1, p2, p3, s1, s2, s3, q1, k1, k2]; (repeat' first | apply a.1 | apply b.1 | refine iteI (fun h => ?_) fun h => ?_) <;> clear a b A B))
    simp only [go_sem]
    exact ⟨_, rfl, fun h => by cases h⟩
  by_cases k3 : 86400000 < d.len
  · refine EvV.walk rfl fn12 rfl nt12 rfl ?_
    simp only [List.length_cons, List.length_nil, List.cons_append, List.nil_append, Nat.reduceAdd, Nat.reduceSub, List.replicate]
    repeat' (first | refine go1 ?_ | refine blockK_else rfl ?_ | (refine go2 fun A B a b => ?_; simp only [go_sem, *, encD, c1, c2, c3, p1, p2, p3, s1, s2, s3, q1, k1, k2, k3]; (repeat' first | apply a.1 | apply b.1 | refine iteI (fun h => ?_) fun h => ?_) <;> clear a b A B))
    simp only [go_sem]
    exact ⟨_, rfl, fun h => by cases h⟩
  have k4 : ¬ (300 : Int) < (ns.length : Int) := by omega
  have hNE : Hold (∀ (pre : List Nt) (n : Nt) (post : List Nt), ns = pre ++ n :: post → ∃ e, (e = 0 → NoteOK TX d.len ts ns n ∧ (∀ y, pre.getLast? = some y → y.id < n.id)) ∧ EvV CX 30 [.agg (encD d), .int .i64 pre.length] (· = .int .i64 e)) :=
    ⟨fun pre n post h => noteE hd h (by omega) (hx n (by rw [h]; simp)) (by omega)⟩
  have hTE : Hold (∀ (j : Nat) (t : Ti), ts[j]? = some t → ∃ e, (e = 0 → ∀ n ∈ ns, n.ti = j → SibQ ns t.kd j n) ∧ EvV CX 31 [.agg (encD d), .int .i64 j] (· = .int .i64 e)) := ⟨fun j t h => tierErrE hd (by omega) h⟩
  have hb : Hold (ns.length ≤ 14 ∧ ts.length ≤ 6) := ⟨hl, htl⟩
  clear hn hx hl htl
  refine EvV.walk rfl fn12 rfl nt12 rfl ?_
  simp only [List.length_cons, List.length_nil, List.cons_append, List.nil_append, Nat.reduceAdd, Nat.reduceSub, List.replicate]
  repeat' (first | refine go1 ?_ | refine blockK_else rfl ?_ | (refine go2 fun A B a b => ?_; simp only [go_sem, *, encD, c1, c2, c3, p1, p2, p3, s1, s2, s3, q1, k1, k2, k3, k4, lenK_sls hnn, List.length_map]; (repeat' first | apply a.1 | apply b.1 | refine iteI (fun h => ?_) fun h => ?_) <;> clear a b A B))
  refine wpC_each [2, 5, 28, 29, 30, 31, 32, 33, 34, 35, 36, 37, 38, 39, 40] 4 ns (fun pre _ => (pre.Pairwise fun a b => a.id < b.id) ∧ ∀ n ∈ pre, NoteOK TX d.len ts ns n) ?_ ?_ ?_ ?_
  · exact ⟨.nil, fun n h => by cases h⟩
  · ((try simp only [eraseA_cons, eraseA_nil, setL_cons, setL_nil, List.set_cons_zero, List.set_cons_succ]); all_goals (first | rfl | (simp only [len_snoc, ints_len, List.length_map, ]; done) | (simp only [len_snoc, len_mid, ints_len, List.length_map, List.length_append, List.length_cons, List.length_nil, Nat.zero_add, ]; first | done | rfl)))
  · intro g G hP
    have hPH : Hold ((ns.Pairwise fun a b => a.id < b.id) ∧ ∀ n ∈ ns, NoteOK TX d.len ts ns n) := ⟨hP⟩
    clear hP
    obtain ⟨GG, hGG⟩ : ∃ GG : Store, [Blk.arr [encD d] 7 0 true] ++ G = GG := ⟨_, rfl⟩
    have hG0 : GG[0]? = some (.arr [encD d] 7 0 true) := by rw [← hGG]; rfl
    simp only [encD] at hGG hG0
    try rw [hGG]
    have hGH : Hold (GG[0]? = some (.arr [encD d] 7 0 true)) := ⟨by simp only [encD]; exact hG0⟩
    simp only [garbA_cons, garbA_nil, setL_cons, setL_nil, List.set_cons_zero, List.set_cons_succ]
    repeat' (first | refine go1 ?_ | refine blockK_else rfl ?_ | (refine go2 fun A B a b => ?_; simp only [go_sem, *, encD, hG0, lenK_sls hnn, List.length_map, Int.lt_irrefl, set_lenAdd, Nat.zero_le, getElem?_len, getElem?_lenAdd, set_len, List.append_assoc, List.length_append, lenK_str, snap_sl, rowsOf_sl, ints_len, ints_take, List.take_length, Bool.true_or]; (repeat' first | apply a.1 | apply b.1 | refine iteI (fun h => ?_) fun h => ?_) <;> clear a b A B))
    clear hGG hG0
    refine wpC_each [2, 7, 41, 42, 43, 44, 45, 46, 47, 48, 49, 50, 51, 52, 53] 6 ts (fun pre _ => ∀ (j : Nat) (t : Ti), j < pre.length → ts[j]? = some t → ∀ n ∈ ns, n.ti = j → SibQ ns t.kd j n) ?_ ?_ ?_ ?_
    · intro j t h; simp at h
    · ((try simp only [eraseA_cons, eraseA_nil, setL_cons, setL_nil, List.set_cons_zero, List.set_cons_succ]); all_goals (first | rfl | (simp only [len_snoc, ints_len, List.length_map, ]; done) | (simp only [len_snoc, len_mid, ints_len, List.length_map, List.length_append, List.length_cons, List.length_nil, Nat.zero_add, ]; first | done | rfl)))
    · intro g2 G2 hQ
      have hG0 : GG[0]? = some (.arr [encD d] 7 0 true) := hGH.out
      have hG1 := at_app0 hG0
      simp only [encD] at hG1
      have hR : Hold (RightD TX d.len ts ns) := ⟨by
        refine ⟨hb.out.1, hb.out.2, hT.out, hPH.out.1, hPH.out.2, ?_, ?_, ?_⟩
        all_goals
          intro n hn hk
          have ok := hPH.out.2 n hn
          have h0 := ok.ti0
          have h1 := ok.tiL
          have ht : ts[n.ti.toNat]? = some (tierAt ts n.ti) := by
            unfold tierAt
            rw [List.getD_eq_getElem?_getD, List.getElem?_eq_getElem (by omega)]; rfl
          have hq := hQ n.ti.toNat _ (by omega) ht n hn (by omega)
          rw [show ((n.ti.toNat : Nat) : Int) = n.ti by omega] at hq
        · exact hq.1 hk
        · exact hq.2.1 hk
        · exact hq.2.2 hk⟩
      clear hG0 hQ
      simp only [garbA_cons, garbA_nil, setL_cons, setL_nil, List.set_cons_zero, List.set_cons_succ]
      repeat' (first | refine go1 ?_ | refine blockK_else rfl ?_ | (refine go2 fun A B a b => ?_; simp only [go_sem, *, encD, hG1, lenK_sls htt, List.length_map, Int.lt_irrefl, set_lenAdd, Nat.zero_le, getElem?_len, getElem?_lenAdd, set_len, List.append_assoc, List.length_append, lenK_str, snap_sl, rowsOf_sl, ints_len, ints_take, List.take_length, Bool.true_or]; (repeat' first | apply a.1 | apply b.1 | refine iteI (fun h => ?_) fun h => ?_) <;> clear a b A B))
      simp only [go_sem]
      exact ⟨_, rfl, fun _ => hR.out⟩
    · intro g2 G2 pre x post h1 hQ
      have hQH : Hold (∀ (j : Nat) (t : Ti), j < pre.length → ts[j]? = some t → ∀ n ∈ ns, n.ti = j → SibQ ns t.kd j n) := ⟨hQ⟩
      have hpl : pre.length < ts.length := by rw [h1]; simp
      have lt1 : (pre.length : Int) < (ts.length : Int) := by omega
      have w1 := wrap_succ (n := pre.length) (by have := hb.out.2; omega)
      have hx0 : ts[pre.length]? = some x := by rw [h1]; simp
      obtain ⟨e, he, q⟩ := hTE.out pre.length x hx0
      have q := q.rw
      simp only [encD] at q
      have hh1 : Hold (ts = pre ++ x :: post) := ⟨h1⟩
      have hG1 := at_app0 hGH.out
      simp only [encD] at hG1
      cases k5 : (e == 0) with
      | false =>
        have hz : Hold (e ≠ 0) := ⟨by simpa using k5⟩
        clear h1 hQ hpl he hx0
        simp only [garbA_cons, garbA_nil, setL_cons, setL_nil, List.set_cons_zero, List.set_cons_succ]
        repeat' (first | refine go1 ?_ | refine blockK_else rfl ?_ | (refine go2 fun A B a b => ?_; simp only [go_sem, *, encD, c1, c2, c3, s1, s2, s3, hG1, lenK_sls htt, List.length_map, lt1, q, k5, set_lenAdd, Nat.zero_le, getElem?_len, getElem?_lenAdd, set_len, List.append_assoc, List.length_append, lenK_str, snap_sl, rowsOf_sl, ints_len, ints_take, List.take_length, Bool.true_or]; (repeat' first | apply a.1 | apply b.1 | refine iteI (fun h => ?_) fun h => ?_) <;> clear a b A B))
        simp only [go_sem]
        exact ⟨_, rfl, fun h => absurd h hz.out⟩
      | true =>
        have hS : Hold (∀ (j : Nat) (t : Ti), j < (pre ++ [x]).length → ts[j]? = some t → ∀ n ∈ ns, n.ti = j → SibQ ns t.kd j n) := ⟨by
          intro j t hj ht
          rw [List.length_append] at hj
          by_cases hjp : j < pre.length
          · exact hQ j t hjp ht
          · have : j = pre.length := by simp at hj; omega
            subst this
            rw [hx0] at ht
            injection ht with ht; subst ht
            exact he (by simpa using k5)⟩
        clear h1 hQ hpl he hx0
        simp only [garbA_cons, garbA_nil, setL_cons, setL_nil, List.set_cons_zero, List.set_cons_succ]
        repeat' (first | refine go1 ?_ | refine blockK_else rfl ?_ | (refine go2 fun A B a b => ?_; simp only [go_sem, *, encD, c1, c2, c3, s1, s2, s3, hG1, lenK_sls htt, List.length_map, lt1, w1, q, k5, set_lenAdd, Nat.zero_le, getElem?_len, getElem?_lenAdd, set_len, List.append_assoc, List.length_append, lenK_str, snap_sl, rowsOf_sl, ints_len, ints_take, List.take_length, Bool.true_or]; (repeat' first | apply a.1 | apply b.1 | refine iteI (fun h => ?_) fun h => ?_) <;> clear a b A B))
        refine each_next hh1.out hS.out ?_ ?_
        · ((try simp only [eraseA_cons, eraseA_nil, setL_cons, setL_nil, List.set_cons_zero, List.set_cons_succ]); all_goals (first | rfl | (simp only [len_snoc, ints_len, List.length_map, ]; done) | (simp only [len_snoc, len_mid, ints_len, List.length_map, List.length_append, List.length_cons, List.length_nil, Nat.zero_add, ]; first | done | rfl)))
        · first | exact ⟨[], (List.append_nil _).symm⟩ | exact ⟨_, rfl⟩ | (simp only [List.append_assoc, List.cons_append, List.nil_append]; exact ⟨_, rfl⟩)
  · intro g G pre x post h1 hP
    have hpl : pre.length < ns.length := by rw [h1]; simp
    have lt1 : (pre.length : Int) < (ns.length : Int) := by omega
    have w1 := wrap_succ (n := pre.length) (by have := hb.out.1; omega)
    obtain ⟨e, he, q⟩ := hNE.out pre x post h1
    have q := q.rw
    simp only [encD] at q
    have hh1 : Hold (ns = pre ++ x :: post) := ⟨h1⟩
    cases k5 : (e == 0) with
    | false =>
      have hz : Hold (e ≠ 0) := ⟨by simpa using k5⟩
      clear h1 hP hpl he
      simp only [garbA_cons, garbA_nil, setL_cons, setL_nil, List.set_cons_zero, List.set_cons_succ]
      repeat' (first | refine go1 ?_ | refine blockK_else rfl ?_ | (refine go2 fun A B a b => ?_; simp only [go_sem, *, encD, c1, c2, c3, s1, s2, s3, lenK_sls hnn, List.length_map, lt1, q, k5, set_lenAdd, Nat.zero_le, getElem?_len, getElem?_lenAdd, set_len, List.append_assoc, List.length_append, lenK_str, snap_sl, rowsOf_sl, ints_len, ints_take, List.take_length, Bool.true_or]; (repeat' first | apply a.1 | apply b.1 | refine iteI (fun h => ?_) fun h => ?_) <;> clear a b A B))
      simp only [go_sem]
      exact ⟨_, rfl, fun h => absurd h hz.out⟩
    | true =>
      have hS : Hold (((pre ++ [x]).Pairwise fun a b => a.id < b.id) ∧ ∀ n ∈ pre ++ [x], NoteOK TX d.len ts ns n) := ⟨by
        have h2 := he (by simpa using k5)
        refine ⟨pw_snoc hP.1 h2.2, fun n hn => ?_⟩
        rcases List.mem_append.1 hn with h | h
        · exact hP.2 n h
        · simp at h; subst h; exact h2.1⟩
      clear h1 hP hpl he
      simp only [garbA_cons, garbA_nil, setL_cons, setL_nil, List.set_cons_zero, List.set_cons_succ]
      repeat' (first | refine go1 ?_ | refine blockK_else rfl ?_ | (refine go2 fun A B a b => ?_; simp only [go_sem, *, encD, c1, c2, c3, s1, s2, s3, lenK_sls hnn, List.length_map, lt1, w1, q, k5, set_lenAdd, Nat.zero_le, getElem?_len, getElem?_lenAdd, set_len, List.append_assoc, List.length_append, lenK_str, snap_sl, rowsOf_sl, ints_len, ints_take, List.take_length, Bool.true_or]; (repeat' first | apply a.1 | apply b.1 | refine iteI (fun h => ?_) fun h => ?_) <;> clear a b A B))
      refine each_next hh1.out hS.out ?_ ?_
      · ((try simp only [eraseA_cons, eraseA_nil, setL_cons, setL_nil, List.set_cons_zero, List.set_cons_succ]); all_goals (first | rfl | (simp only [len_snoc, ints_len, List.length_map, ]; done) | (simp only [len_snoc, len_mid, ints_len, List.length_map, List.length_append, List.length_cons, List.length_nil, Nat.zero_add, ]; first | done | rfl)))
      · first | exact ⟨[], (List.append_nil _).symm⟩ | exact ⟨_, rfl⟩ | (simp only [List.append_assoc, List.cons_append, List.nil_append]; exact ⟨_, rfl⟩)

theorem lightE {d : Dc} {ts : List Ti} {ns : List Nt} {sp : List (List AV)} (hd : d.ok ts ns) (hsp : SLs 1 sp d.sp) (hn : ∀ x ∈ ts, x.nm.size ≤ 9223372036854775807) (hx : ∀ n ∈ ns, n.tx.size ≤ 9223372036854775807) :
    ∃ b, (b = true → RightD TX d.len ts ns) ∧ EvV CX 4 [.agg (encD d)] (· = .bool b) := by
  suffices h : EvV CX 4 [.agg (encD d)] (fun r => ∃ b, r = .bool b ∧ (b = true → RightD TX d.len ts ns)) by
    obtain ⟨r, ⟨b, rfl, hb⟩, h⟩ := h.ex
    exact ⟨b, hb, h⟩
  have c1 := hd.nc
  have c2 := hd.tc
  have c3 := hd.sc
  have p1 := hd.p1
  have p2 := hd.p2
  have p3 := hd.p3
  have s1 := hd.nsn
  have s2 := hd.tsn
  have s3 := hd.ss
  have hnn := hd.n
  have htt := hd.t
  by_cases k1 : (ns.length : Int) ≤ 14
  · by_cases k2 : (ts.length : Int) ≤ 6
    · obtain ⟨e, he, q⟩ := checkDE hd (by omega) (by omega) hn hx
      have q := q.rw
      simp only [encD] at q
      have heH : Hold (e = 0 → RightD TX d.len ts ns) := ⟨he⟩
      clear he hn hx
      refine EvV.walk rfl fn4 rfl nt4 rfl ?_
      simp only [List.length_cons, List.length_nil, List.cons_append, List.nil_append, Nat.reduceAdd, Nat.reduceSub, List.replicate]
      repeat' (first | refine go1 ?_ | refine blockK_else rfl ?_ | (refine go2 fun A B a b => ?_; simp only [go_sem, *, encD, c1, c2, c3, p1, p2, p3, s1, s2, s3, lenK_sls hnn, lenK_sls htt, lenK_sls hsp, List.length_map, k1, k2, q]; (repeat' first | apply a.1 | apply b.1 | refine iteI (fun h => ?_) fun h => ?_) <;> clear a b A B))
      all_goals simp only [go_sem]
      all_goals
        refine ⟨_, rfl, fun h => ?_⟩
        first | (exact heH.out (by simpa using h)) | (cases h; done)
    · clear hn hx
      refine EvV.walk rfl fn4 rfl nt4 rfl ?_
      simp only [List.length_cons, List.length_nil, List.cons_append, List.nil_append, Nat.reduceAdd, Nat.reduceSub, List.replicate]
      repeat' (first | refine go1 ?_ | refine blockK_else rfl ?_ | (refine go2 fun A B a b => ?_; simp only [go_sem, *, encD, c1, c2, c3, p1, p2, p3, lenK_sls hnn, lenK_sls htt, lenK_sls hsp, List.length_map, k1, k2]; (repeat' first | apply a.1 | apply b.1 | refine iteI (fun h => ?_) fun h => ?_) <;> clear a b A B))
      all_goals simp only [go_sem]
      all_goals exact ⟨_, rfl, fun h => by cases h⟩
  · clear hn hx
    refine EvV.walk rfl fn4 rfl nt4 rfl ?_
    simp only [List.length_cons, List.length_nil, List.cons_append, List.nil_append, Nat.reduceAdd, Nat.reduceSub, List.replicate]
    repeat' (first | refine go1 ?_ | refine blockK_else rfl ?_ | (refine go2 fun A B a b => ?_; simp only [go_sem, *, encD, c1, c2, c3, p1, p2, p3, lenK_sls hnn, lenK_sls htt, lenK_sls hsp, List.length_map, k1]; (repeat' first | apply a.1 | apply b.1 | refine iteI (fun h => ?_) fun h => ?_) <;> clear a b A B))
    all_goals simp only [go_sem]
    all_goals exact ⟨_, rfl, fun h => by cases h⟩

/- Labels, as the program tests them. -/
open Go.Proofs
set_option maxHeartbeats 4000000

/-- What runes.Points hands back. -/
def ptsP : Option (List Nat) → AV
  | none => .tup [.flat (.slice none 0 0), .bool false]
  | some l => if l.length = 0 then .tup [.flat (.slice none 0 0), .bool true] else .tup [.osl 1 (ints (natI l)), .bool true]
theorem pointsE (s : ByteArray) (hs : s.size ≤ 1073741824) : EvV CX 123 [.str s] (· = ptsP (pts s.data.toList)) := by
  cases h : pts s.data.toList with
  | none =>
    refine EvV.prim (r := .tup [.flat (.slice none 0 0), .bool false]) (S := []) rfl ?_ ?_
    · simp only [primPts, if_pos hs, h]
    · simp [exportA, idsOK, ownIds, expTop, expTops, AV.stab, ptsP]
  | some l =>
    by_cases h0 : l.length = 0
    · refine EvV.prim (r := .tup [.flat (.slice none 0 0), .bool true]) (S := []) rfl ?_ ?_
      · simp only [primPts, if_pos hs, h, if_pos h0]
      · simp [exportA, idsOK, ownIds, expTop, expTops, AV.stab, ptsP, h0]
    · refine EvV.prim (r := .tup [.sl 0 l.length 0 l.length 1, .bool true]) (S := [.arr (l.map fun n : Nat => [.int .i64 (n : Int)]) 1 0 true]) rfl ?_ ?_
      · simp only [primPts, if_pos hs, h, if_neg h0]
        rfl
      · have e : (l.map fun n : Nat => [AV.int .i64 (n : Int)]) = ints (natI l) := by simp [ints, natI]
        have e2 : (ints (natI l)).length = l.length := by simp [ints, natI]
        simp [exportA, idsOK, ownIds, lentIds, expTop, expTops, AV.stab, ptsP, h0, e, e2]

theorem adL1 {id : Nat} {b : Bool} : adoptL id [.flat (.slice none 0 0), .bool b] = ([.flat (.slice none 0 0), .bool b], []) := rfl
theorem adL2 {id : Nat} {b : Bool} {rows : List (List AV)} : adoptL id [.osl 1 rows, .bool b] = ([.sl id rows.length 0 rows.length 1, .bool b], [.arr rows 1 0 true]) := rfl

/- Rebuilds: stamps, as the program counts them (run in the kernel). -/
open Go.Proofs
set_option maxHeartbeats 4000000
set_option maxRecDepth 20000

/-- What has been seen after k operations of the second device. -/
def seenL (k : Nat) : List Int := [0, (k : Int), 0, 0, 0, 0, 0, 0, 0, 0, 0, 0, 0, 0, 0]
def stK (k : Nat) : List AV := [.int .i64 (k : Int), .int .i64 2]
theorem joinK : EvV CX 20 [.flat (.slice none 0 0), .flat (.slice none 0 0)] (· = .osl 1 (ints (seenL 0))) := EvV.intro 60 (by kernel_rfl) rfl
theorem newK : EvV CX 7 [.int .i64 2] (· = .tup [.agg [.int .i64 2, .tsl true 1 (ints (seenL 0)), .flat (.slice none 0 0)], .int .i64 0]) := EvV.intro 60 (by kernel_rfl) rfl
theorem less0 : EvV CX 61 [.agg [.int .i64 0, .int .i64 0], .agg (stK 1)] (· = .bool true) := EvV.intro 60 (by kernel_rfl) rfl
theorem wantK : EvV CX 83 [.bool true] (· = .int .i64 0) := EvV.intro 60 (by kernel_rfl) rfl
theorem firstK : EvV CX 84 [.tsl false 1 [[.int .i64 0], [.int .i64 0], [.int .i64 0]]] (· = .int .i64 0) := EvV.intro 60 (by kernel_rfl) rfl
theorem nextK : ∀ k : Nat, k < 15 → EvV CX 21 [.tsl true 1 (ints (seenL k)), .int .i64 2] (· = .tup [.agg (stK (k + 1)), .bool true]) := by
  intro k hk
  rcases k with _ | k
  · exact EvV.intro 60 (by kernel_rfl) rfl
  rcases k with _ | k
  · exact EvV.intro 60 (by kernel_rfl) rfl
  rcases k with _ | k
  · exact EvV.intro 60 (by kernel_rfl) rfl
  rcases k with _ | k
  · exact EvV.intro 60 (by kernel_rfl) rfl
  rcases k with _ | k
  · exact EvV.intro 60 (by kernel_rfl) rfl
  rcases k with _ | k
  · exact EvV.intro 60 (by kernel_rfl) rfl
  rcases k with _ | k
  · exact EvV.intro 60 (by kernel_rfl) rfl
  rcases k with _ | k
  · exact EvV.intro 60 (by kernel_rfl) rfl
  rcases k with _ | k
  · exact EvV.intro 60 (by kernel_rfl) rfl
  rcases k with _ | k
  · exact EvV.intro 60 (by kernel_rfl) rfl
  rcases k with _ | k
  · exact EvV.intro 60 (by kernel_rfl) rfl
  rcases k with _ | k
  · exact EvV.intro 60 (by kernel_rfl) rfl
  rcases k with _ | k
  · exact EvV.intro 60 (by kernel_rfl) rfl
  rcases k with _ | k
  · exact EvV.intro 60 (by kernel_rfl) rfl
  rcases k with _ | k
  · exact EvV.intro 60 (by kernel_rfl) rfl
  omega
theorem idK : ∀ k : Nat, k < 15 → EvV CX 22 [.agg (stK (k + 1))] (· = .int .i64 (idOf k)) := by
  intro k hk
  rcases k with _ | k
  · exact EvV.intro 60 (by kernel_rfl) rfl
  rcases k with _ | k
  · exact EvV.intro 60 (by kernel_rfl) rfl
  rcases k with _ | k
  · exact EvV.intro 60 (by kernel_rfl) rfl
  rcases k with _ | k
  · exact EvV.intro 60 (by kernel_rfl) rfl
  rcases k with _ | k
  · exact EvV.intro 60 (by kernel_rfl) rfl
  rcases k with _ | k
  · exact EvV.intro 60 (by kernel_rfl) rfl
  rcases k with _ | k
  · exact EvV.intro 60 (by kernel_rfl) rfl
  rcases k with _ | k
  · exact EvV.intro 60 (by kernel_rfl) rfl
  rcases k with _ | k
  · exact EvV.intro 60 (by kernel_rfl) rfl
  rcases k with _ | k
  · exact EvV.intro 60 (by kernel_rfl) rfl
  rcases k with _ | k
  · exact EvV.intro 60 (by kernel_rfl) rfl
  rcases k with _ | k
  · exact EvV.intro 60 (by kernel_rfl) rfl
  rcases k with _ | k
  · exact EvV.intro 60 (by kernel_rfl) rfl
  rcases k with _ | k
  · exact EvV.intro 60 (by kernel_rfl) rfl
  rcases k with _ | k
  · exact EvV.intro 60 (by kernel_rfl) rfl
  omega
theorem rightK : ∀ k : Nat, k < 15 → EvV CX 34 [.agg (stK (k + 1))] (· = .bool true) := by
  intro k hk
  rcases k with _ | k
  · exact EvV.intro 60 (by kernel_rfl) rfl
  rcases k with _ | k
  · exact EvV.intro 60 (by kernel_rfl) rfl
  rcases k with _ | k
  · exact EvV.intro 60 (by kernel_rfl) rfl
  rcases k with _ | k
  · exact EvV.intro 60 (by kernel_rfl) rfl
  rcases k with _ | k
  · exact EvV.intro 60 (by kernel_rfl) rfl
  rcases k with _ | k
  · exact EvV.intro 60 (by kernel_rfl) rfl
  rcases k with _ | k
  · exact EvV.intro 60 (by kernel_rfl) rfl
  rcases k with _ | k
  · exact EvV.intro 60 (by kernel_rfl) rfl
  rcases k with _ | k
  · exact EvV.intro 60 (by kernel_rfl) rfl
  rcases k with _ | k
  · exact EvV.intro 60 (by kernel_rfl) rfl
  rcases k with _ | k
  · exact EvV.intro 60 (by kernel_rfl) rfl
  rcases k with _ | k
  · exact EvV.intro 60 (by kernel_rfl) rfl
  rcases k with _ | k
  · exact EvV.intro 60 (by kernel_rfl) rfl
  rcases k with _ | k
  · exact EvV.intro 60 (by kernel_rfl) rfl
  rcases k with _ | k
  · exact EvV.intro 60 (by kernel_rfl) rfl
  omega
theorem lessK : ∀ k : Nat, k < 15 → EvV CX 61 [.agg (stK (k + 1)), .agg (stK (k + 2))] (· = .bool true) := by
  intro k hk
  rcases k with _ | k
  · exact EvV.intro 60 (by kernel_rfl) rfl
  rcases k with _ | k
  · exact EvV.intro 60 (by kernel_rfl) rfl
  rcases k with _ | k
  · exact EvV.intro 60 (by kernel_rfl) rfl
  rcases k with _ | k
  · exact EvV.intro 60 (by kernel_rfl) rfl
  rcases k with _ | k
  · exact EvV.intro 60 (by kernel_rfl) rfl
  rcases k with _ | k
  · exact EvV.intro 60 (by kernel_rfl) rfl
  rcases k with _ | k
  · exact EvV.intro 60 (by kernel_rfl) rfl
  rcases k with _ | k
  · exact EvV.intro 60 (by kernel_rfl) rfl
  rcases k with _ | k
  · exact EvV.intro 60 (by kernel_rfl) rfl
  rcases k with _ | k
  · exact EvV.intro 60 (by kernel_rfl) rfl
  rcases k with _ | k
  · exact EvV.intro 60 (by kernel_rfl) rfl
  rcases k with _ | k
  · exact EvV.intro 60 (by kernel_rfl) rfl
  rcases k with _ | k
  · exact EvV.intro 60 (by kernel_rfl) rfl
  rcases k with _ | k
  · exact EvV.intro 60 (by kernel_rfl) rfl
  rcases k with _ | k
  · exact EvV.intro 60 (by kernel_rfl) rfl
  omega
theorem seeT : ∀ k : Nat, k < 15 → EvV CX 35 [.tsl true 1 (ints (seenL k)), .agg (stK (k + 1))] (· = .osl 1 (ints (seenL (k + 1)))) := by
  intro k hk
  rcases k with _ | k
  · exact EvV.intro 60 (by kernel_rfl) rfl
  rcases k with _ | k
  · exact EvV.intro 60 (by kernel_rfl) rfl
  rcases k with _ | k
  · exact EvV.intro 60 (by kernel_rfl) rfl
  rcases k with _ | k
  · exact EvV.intro 60 (by kernel_rfl) rfl
  rcases k with _ | k
  · exact EvV.intro 60 (by kernel_rfl) rfl
  rcases k with _ | k
  · exact EvV.intro 60 (by kernel_rfl) rfl
  rcases k with _ | k
  · exact EvV.intro 60 (by kernel_rfl) rfl
  rcases k with _ | k
  · exact EvV.intro 60 (by kernel_rfl) rfl
  rcases k with _ | k
  · exact EvV.intro 60 (by kernel_rfl) rfl
  rcases k with _ | k
  · exact EvV.intro 60 (by kernel_rfl) rfl
  rcases k with _ | k
  · exact EvV.intro 60 (by kernel_rfl) rfl
  rcases k with _ | k
  · exact EvV.intro 60 (by kernel_rfl) rfl
  rcases k with _ | k
  · exact EvV.intro 60 (by kernel_rfl) rfl
  rcases k with _ | k
  · exact EvV.intro 60 (by kernel_rfl) rfl
  rcases k with _ | k
  · exact EvV.intro 60 (by kernel_rfl) rfl
  omega
theorem seeF : ∀ k : Nat, k < 15 → EvV CX 35 [.tsl false 1 (ints (seenL k)), .agg (stK (k + 1))] (· = .osl 1 (ints (seenL (k + 1)))) := by
  intro k hk
  rcases k with _ | k
  · exact EvV.intro 60 (by kernel_rfl) rfl
  rcases k with _ | k
  · exact EvV.intro 60 (by kernel_rfl) rfl
  rcases k with _ | k
  · exact EvV.intro 60 (by kernel_rfl) rfl
  rcases k with _ | k
  · exact EvV.intro 60 (by kernel_rfl) rfl
  rcases k with _ | k
  · exact EvV.intro 60 (by kernel_rfl) rfl
  rcases k with _ | k
  · exact EvV.intro 60 (by kernel_rfl) rfl
  rcases k with _ | k
  · exact EvV.intro 60 (by kernel_rfl) rfl
  rcases k with _ | k
  · exact EvV.intro 60 (by kernel_rfl) rfl
  rcases k with _ | k
  · exact EvV.intro 60 (by kernel_rfl) rfl
  rcases k with _ | k
  · exact EvV.intro 60 (by kernel_rfl) rfl
  rcases k with _ | k
  · exact EvV.intro 60 (by kernel_rfl) rfl
  rcases k with _ | k
  · exact EvV.intro 60 (by kernel_rfl) rfl
  rcases k with _ | k
  · exact EvV.intro 60 (by kernel_rfl) rfl
  rcases k with _ | k
  · exact EvV.intro 60 (by kernel_rfl) rfl
  rcases k with _ | k
  · exact EvV.intro 60 (by kernel_rfl) rfl
  omega
theorem equalK : ∀ k : Nat, k < 15 → EvV CX 55 [.tsl false 1 (ints (seenL k)), .tsl false 1 (ints (seenL k))] (· = .bool true) := by
  intro k hk
  rcases k with _ | k
  · exact EvV.intro 60 (by kernel_rfl) rfl
  rcases k with _ | k
  · exact EvV.intro 60 (by kernel_rfl) rfl
  rcases k with _ | k
  · exact EvV.intro 60 (by kernel_rfl) rfl
  rcases k with _ | k
  · exact EvV.intro 60 (by kernel_rfl) rfl
  rcases k with _ | k
  · exact EvV.intro 60 (by kernel_rfl) rfl
  rcases k with _ | k
  · exact EvV.intro 60 (by kernel_rfl) rfl
  rcases k with _ | k
  · exact EvV.intro 60 (by kernel_rfl) rfl
  rcases k with _ | k
  · exact EvV.intro 60 (by kernel_rfl) rfl
  rcases k with _ | k
  · exact EvV.intro 60 (by kernel_rfl) rfl
  rcases k with _ | k
  · exact EvV.intro 60 (by kernel_rfl) rfl
  rcases k with _ | k
  · exact EvV.intro 60 (by kernel_rfl) rfl
  rcases k with _ | k
  · exact EvV.intro 60 (by kernel_rfl) rfl
  rcases k with _ | k
  · exact EvV.intro 60 (by kernel_rfl) rfl
  rcases k with _ | k
  · exact EvV.intro 60 (by kernel_rfl) rfl
  rcases k with _ | k
  · exact EvV.intro 60 (by kernel_rfl) rfl
  omega

/- Rebuilds: texts and operations, as the program tests them. -/
open Go.Proofs
attribute [local go_sem] ty5 br123 fz151 ty59 ty76 ty78 eq59 br22 br112 br113 fz40 fz43 fz44 ty187 br34 br83 br84 br85 br86 br87 br88 List.replicate Nat.one_mul Nat.reduceMul Nat.zero_mul bslA fz37 fz38 fz39 fz50 fz51 rowsFill
set_option maxHeartbeats 4000000
set_option maxRecDepth 20000

theorem spanRE (x : Int × Int) : EvV CX 112 [.agg [.int .i64 x.1, .int .i64 x.2]] (· = .bool (rgt x)) := by
  obtain ⟨a, b⟩ := x
  refine EvV.walk rfl fn112 rfl nt112 rfl ?_
  simp only [List.length_cons, List.length_nil, List.cons_append, List.nil_append, Nat.reduceAdd, Nat.reduceSub, List.replicate]
  repeat' (first | refine go1 ?_ | refine blockK_else rfl ?_ | (refine go2 fun A B a b => ?_; simp only [go_sem, *]; (repeat' first | apply a.1 | apply b.1 | refine iteI (fun h => ?_) fun h => ?_) <;> clear a b A B))
  all_goals simp only [go_sem]
  all_goals simp [rgt, *]

theorem textP {s : ByteArray} (h : TX s) : EvV CX 113 [.str s] (· = .int .i64 0) := by
  obtain ⟨h1, h2, h3⟩ := h
  obtain ⟨ps, hps⟩ := Option.isSome_iff_exists.1 h2
  have q := (pointsE s (by omega)).rw
  obtain ⟨r, hr⟩ : ∃ r, ptsP (pts s.data.toList) = .tup [r, .bool true] ∧ ∀ id, adoptA id (.tup [r, .bool true]) = (.tup [(adopt1 id r).1, .bool true], (adopt1 id r).2) := by
    rw [hps]
    unfold ptsP
    by_cases h0 : ps.length = 0
    · exact ⟨_, if_pos h0, fun id => rfl⟩
    · exact ⟨_, if_neg h0, fun id => by simp only [adoptA, adoptL, adopt1, List.append_nil]⟩
  rw [hr.1] at q
  have hA := hr.2
  have k1 : ¬ (200 : Int) < (s.size : Int) := by omega
  obtain ⟨l, hl⟩ : ∃ l, s.data.toList = l := ⟨_, rfl⟩
  have hlen := str_len hl
  have hsz : (s.size : Int) = (l.length : Int) := by rw [hlen]
  have hlH : Hold (s.data.toList = l) := ⟨hl⟩
  have h3H : Hold (∀ b ∈ l, okB b) := ⟨by rw [← hl]; exact h3⟩
  have hbH : Hold (l.length ≤ 200) := ⟨by omega⟩
  rw [hsz] at k1
  clear h1 h2 h3 hps hr hl hlen
  refine EvV.walk rfl fn113 rfl nt113 rfl ?_
  simp only [List.length_cons, List.length_nil, List.cons_append, List.nil_append, Nat.reduceAdd, Nat.reduceSub, List.replicate]
  repeat' (first | refine go1 ?_ | refine blockK_else rfl ?_ | (refine go2 fun A B a b => ?_; simp only [go_sem, *, lenK_str, hsz, k1, q, hA]; (repeat' first | apply a.1 | apply b.1 | refine iteI (fun h => ?_) fun h => ?_) <;> clear a b A B))
  refine wpC_each [2, 5, 19, 20, 21, 22, 23, 24, 25, 26, 27, 28, 29, 30, 31] 18 l (fun _ _ => True) ?_ ?_ ?_ ?_
  · trivial
  · ((try simp only [eraseA_cons, eraseA_nil, setL_cons, setL_nil, List.set_cons_zero, List.set_cons_succ]); all_goals (first | rfl | (simp only [len_snoc, ints_len, List.length_map, ]; done) | (simp only [len_snoc, len_mid, ints_len, List.length_map, List.length_append, List.length_cons, List.length_nil, Nat.zero_add, ]; first | done | rfl)))
  · intro g G _
    simp only [garbA_cons, garbA_nil, setL_cons, setL_nil, List.set_cons_zero, List.set_cons_succ]
    repeat' (first | refine go1 ?_ | refine blockK_else rfl ?_ | (refine go2 fun A B a b => ?_; simp only [go_sem, *, Int.lt_irrefl]; (repeat' first | apply a.1 | apply b.1 | refine iteI (fun h => ?_) fun h => ?_) <;> clear a b A B))
    simp only [go_sem]
  · intro g G pre x post h1 _
    have hpl : pre.length < l.length := by rw [h1]; simp
    have lt1 : (pre.length : Int) < (l.length : Int) := by omega
    have w1 := wrap_succ (n := pre.length) (by have := hbH.out; omega)
    have i0 := index_str (X := CX) (k := .i64) ty9 (str_get (hlH.out.trans h1))
    have hok := h3H.out x (by rw [h1]; simp)
    unfold okB at hok
    have x1 : ¬ (x.toNat : Int) < 32 := by omega
    have x2 : ((x.toNat : Int) == 127) = false := by simp; omega
    have hh1 : Hold (l = pre ++ x :: post) := ⟨h1⟩
    clear h1 hpl hok
    simp only [garbA_cons, garbA_nil, setL_cons, setL_nil, List.set_cons_zero, List.set_cons_succ]
    repeat' (first | refine go1 ?_ | refine blockK_else rfl ?_ | (refine go2 fun A B a b => ?_; simp only [go_sem, *, wpK_index, i0, lt1, w1, x1, x2]; (repeat' first | apply a.1 | apply b.1 | refine iteI (fun h => ?_) fun h => ?_) <;> clear a b A B))
    refine each_next hh1.out trivial ?_ ?_
    · ((try simp only [eraseA_cons, eraseA_nil, setL_cons, setL_nil, List.set_cons_zero, List.set_cons_succ]); all_goals (first | rfl | (simp only [len_snoc, ints_len, List.length_map, ]; done) | (simp only [len_snoc, len_mid, ints_len, List.length_map, List.length_append, List.length_cons, List.length_nil, Nat.zero_add, ]; first | done | rfl)))
    · first | exact ⟨[], (List.append_nil _).symm⟩ | exact ⟨_, rfl⟩ | (simp only [List.append_assoc, List.cons_append, List.nil_append]; exact ⟨_, rfl⟩)

/-- What a note needs to be added. -/
structure AddOK (k : Nat) (m : Nt) : Prop where
  id : m.id = idOf k
  ti0 : 0 ≤ m.ti
  tiL : m.ti < 12
  pa0 : 0 ≤ m.pa
  paL : m.pa ≤ 1000
  rk0 : 0 ≤ m.rk
  rkL : m.rk ≤ 14
  sp : (m.fr = 0 ∧ m.en = 0) ∨ rgt (m.fr, m.en) = true
  tx : TX m.tx

/-- The operation that adds a note. -/
def encO (k : Nat) (m : Nt) : List AV := [.int .i64 ((k + 1 : Nat) : Int), .int .i64 2, .int .i64 0, .int .i64 1, .int .i64 m.id, .int .i64 m.ti, .int .i64 m.pa, .int .i64 m.fr, .int .i64 m.en, .int .i64 m.rk, .str m.tx, .int .i64 0, .int .i64 0, .str .empty, .flat (.slice none 0 0)]

theorem addedE {k : Nat} {m : Nt} (hk : k < 15) (h : AddOK k m) : EvV CX 85 [.agg (encO k m)] (· = .int .i64 0) := by
  have qi := (idK k hk).rw
  simp only [stK] at qi
  have qr := (spanRE (m.fr, m.en)).rw
  have qt := (textP h.tx).rw
  have k0 : (m.id == idOf k) = true := by simpa using h.id
  have k1 : ¬ m.ti < 0 := by have := h.ti0; omega
  have k2 : ¬ (12 : Int) ≤ m.ti := by have := h.tiL; omega
  have k3 : ¬ m.pa < 0 := by have := h.pa0; omega
  have k4 : ¬ (1099511627776 : Int) < m.pa := by have := h.paL; omega
  have k5 : ¬ m.rk < 0 := by have := h.rk0; omega
  have k6 : ¬ (300 : Int) < m.rk := by have := h.rkL; omega
  rcases h.sp with ⟨e1, e2⟩ | e1
  · have e1 : (m.fr == 0) = true := by simpa using e1
    have e2 : (m.en == 0) = true := by simpa using e2
    clear h qr
    refine EvV.walk rfl fn85 rfl nt85 rfl ?_
    simp only [List.length_cons, List.length_nil, List.cons_append, List.nil_append, Nat.reduceAdd, Nat.reduceSub, List.replicate]
    repeat' (first | refine go1 ?_ | refine blockK_else rfl ?_ | (refine go2 fun A B a b => ?_; simp only [go_sem, *, encO, stK, k0, k1, k2, k3, k4, k5, k6, qi, qt, e1, e2]; (repeat' first | apply a.1 | apply b.1 | refine iteI (fun h => ?_) fun h => ?_) <;> clear a b A B))
    simp only [go_sem]
  · rw [e1] at qr
    clear h e1
    refine EvV.walk rfl fn85 rfl nt85 rfl ?_
    simp only [List.length_cons, List.length_nil, List.cons_append, List.nil_append, Nat.reduceAdd, Nat.reduceSub, List.replicate]
    repeat' (first | refine go1 ?_ | refine blockK_else rfl ?_ | (refine go2 fun A B a b => ?_; simp only [go_sem, *, encO, stK, k0, k1, k2, k3, k4, k5, k6, qi, qt, qr]; (repeat' first | apply a.1 | apply b.1 | refine iteI (fun h => ?_) fun h => ?_) <;> clear a b A B))
    all_goals simp only [go_sem]

theorem emptyB : (ByteArray.empty.toList == (⟨#[]⟩ : ByteArray).toList) = true := by rw [toList_data, toList_data]; rfl

theorem opE {k : Nat} {m : Nt} (hk : k < 15) (h : AddOK k m) : EvV CX 72 [.agg (encO k m)] (· = .int .i64 0) := by
  have qi := (rightK k hk).rw
  simp only [stK] at qi
  have qa := (addedE hk h).rw
  have qw := wantK.rw
  have qf := firstK.rw
  have e0 := emptyB
  have z0 : (((0 : Nat) : Int) == 0) = true := rfl
  simp only [encO] at qa
  clear h
  refine EvV.walk rfl fn72 rfl nt72 rfl ?_
  simp only [List.length_cons, List.length_nil, List.cons_append, List.nil_append, Nat.reduceAdd, Nat.reduceSub, List.replicate]
  repeat' (first | refine go1 ?_ | refine blockK_else rfl ?_ | (refine go2 fun A B a b => ?_; simp only [go_sem, *, wpK_buildSlice ty187 rfl, encO, stK, qi, qa, qw, qf, evalA_str, strBin, e0, z0, lenK_nils, set_lenAdd, Nat.zero_le, getElem?_len, getElem?_lenAdd, set_len, List.append_assoc, List.length_append, List.length_map, lenK_str, snap_sl, rowsOf_sl, ints_len, ints_take, List.take_length, Bool.true_or]; (repeat' first | apply a.1 | apply b.1 | refine iteI (fun h => ?_) fun h => ?_) <;> clear a b A B))
  all_goals simp only [go_sem, wpK_buildSlice ty187 rfl]

/- Rebuilds: what an operation writes. -/
open Go.Proofs
attribute [local go_sem] br73 fz41 ty61 fz42 lt11
set_option maxHeartbeats 4000000
set_option maxRecDepth 20000

theorem writesE (k : Nat) (m : Nt) (f : Int) (hf : f = 0 ∨ f = 1 ∨ f = 2) : EvV CX 73 [.agg (encO k m), .int .i64 f] (· = .bool true) := by
  rcases hf with rfl | rfl | rfl
  · refine EvV.walk rfl fn73 rfl nt73 rfl ?_
    simp only [List.length_cons, List.length_nil, List.cons_append, List.nil_append, Nat.reduceAdd, Nat.reduceSub, List.replicate]
    repeat' (first | refine go1 ?_ | refine blockK_else rfl ?_ | (refine go2 fun A B a b => ?_; simp only [go_sem, *, encO]; (repeat' first | apply a.1 | apply b.1 | refine iteI (fun h => ?_) fun h => ?_) <;> clear a b A B))
    all_goals simp only [go_sem]
    all_goals rfl
  · refine EvV.walk rfl fn73 rfl nt73 rfl ?_
    simp only [List.length_cons, List.length_nil, List.cons_append, List.nil_append, Nat.reduceAdd, Nat.reduceSub, List.replicate]
    repeat' (first | refine go1 ?_ | refine blockK_else rfl ?_ | (refine go2 fun A B a b => ?_; simp only [go_sem, *, encO]; (repeat' first | apply a.1 | apply b.1 | refine iteI (fun h => ?_) fun h => ?_) <;> clear a b A B))
    all_goals simp only [go_sem]
    all_goals rfl
  · refine EvV.walk rfl fn73 rfl nt73 rfl ?_
    simp only [List.length_cons, List.length_nil, List.cons_append, List.nil_append, Nat.reduceAdd, Nat.reduceSub, List.replicate]
    repeat' (first | refine go1 ?_ | refine blockK_else rfl ?_ | (refine go2 fun A B a b => ?_; simp only [go_sem, *, encO]; (repeat' first | apply a.1 | apply b.1 | refine iteI (fun h => ?_) fun h => ?_) <;> clear a b A B))
    all_goals simp only [go_sem]
    all_goals rfl

theorem WritesE (k : Nat) (m : Nt) (n f : Int) (hf : f = 0 ∨ f = 1 ∨ f = 2) : EvV CX 57 [.agg (encO k m), .int .i64 n, .int .i64 f] (· = .bool (m.id == n)) := by
  have q := (writesE k m f hf).rw
  simp only [encO] at q
  cases h : (m.id == n) with
  | true =>
    refine EvV.walk rfl fn57 rfl nt57 rfl ?_
    simp only [List.length_cons, List.length_nil, List.cons_append, List.nil_append, Nat.reduceAdd, Nat.reduceSub, List.replicate]
    repeat' (first | refine go1 ?_ | refine blockK_else rfl ?_ | (refine go2 fun A B a b => ?_; simp only [go_sem, *, encO, h, q]; (repeat' first | apply a.1 | apply b.1 | refine iteI (fun h => ?_) fun h => ?_) <;> clear a b A B))
    all_goals simp only [go_sem]
  | false =>
    refine EvV.walk rfl fn57 rfl nt57 rfl ?_
    simp only [List.length_cons, List.length_nil, List.cons_append, List.nil_append, Nat.reduceAdd, Nat.reduceSub, List.replicate]
    repeat' (first | refine go1 ?_ | refine blockK_else rfl ?_ | (refine go2 fun A B a b => ?_; simp only [go_sem, *, encO, h, q]; (repeat' first | apply a.1 | apply b.1 | refine iteI (fun h => ?_) fun h => ?_) <;> clear a b A B))
    all_goals simp only [go_sem]

/-- The value that an operation gives a field. -/
def valO (k : Nat) (m : Nt) (f : Int) : List AV := [.int .i64 ((k + 1 : Nat) : Int), .int .i64 2, .int .i64 (if f = 1 then m.fr else if f = 2 then m.en else 0), .str (if f = 0 then m.tx else .empty)]
theorem emptyA : (⟨#[]⟩ : ByteArray) = .empty := rfl



theorem valueE (k : Nat) (m : Nt) (f : Int) (hf : f = 0 ∨ f = 1 ∨ f = 2) : EvV CX 58 [.agg (encO k m), .int .i64 f] (· = .agg (valO k m f)) := by
  have q := (writesE k m f hf).rw
  simp only [encO] at q
  rcases hf with rfl | rfl | rfl
  · refine EvV.walk rfl fn58 rfl nt58 rfl ?_
    simp only [List.length_cons, List.length_nil, List.cons_append, List.nil_append, Nat.reduceAdd, Nat.reduceSub, List.replicate]
    repeat' (first | refine go1 ?_ | refine blockK_else rfl ?_ | (refine go2 fun A B a b => ?_; simp only [go_sem, *, encO, q, apartA, evalA_str, cells_str]; (repeat' first | apply a.1 | apply b.1 | refine iteI (fun h => ?_) fun h => ?_) <;> clear a b A B))
    all_goals simp only [go_sem]
    all_goals rfl
  · refine EvV.walk rfl fn58 rfl nt58 rfl ?_
    simp only [List.length_cons, List.length_nil, List.cons_append, List.nil_append, Nat.reduceAdd, Nat.reduceSub, List.replicate]
    repeat' (first | refine go1 ?_ | refine blockK_else rfl ?_ | (refine go2 fun A B a b => ?_; simp only [go_sem, *, encO, q, apartA, evalA_str, cells_str]; (repeat' first | apply a.1 | apply b.1 | refine iteI (fun h => ?_) fun h => ?_) <;> clear a b A B))
    all_goals simp only [go_sem]
    all_goals rfl
  · refine EvV.walk rfl fn58 rfl nt58 rfl ?_
    simp only [List.length_cons, List.length_nil, List.cons_append, List.nil_append, Nat.reduceAdd, Nat.reduceSub, List.replicate]
    repeat' (first | refine go1 ?_ | refine blockK_else rfl ?_ | (refine go2 fun A B a b => ?_; simp only [go_sem, *, encO, q, apartA, evalA_str, cells_str]; (repeat' first | apply a.1 | apply b.1 | refine iteI (fun h => ?_) fun h => ?_) <;> clear a b A B))
    all_goals simp only [go_sem]
    all_goals rfl

/- Rebuilds: the check of a replica's operations. -/
open Go.Proofs
attribute [local go_sem] ty132 ty133 ty135 ty150 ty152 ty154 eq154 br57 br61 br72 evalA_glob fz135 fz136 fz137 gl0
set_option maxHeartbeats 4000000
set_option maxRecDepth 20000

theorem cells_mpB {b : Nat} : (AV.mp b).cells = [.mp b] := rfl

/-- All keys are numbers. -/
def KI (es : List (AV × AV)) : Prop := ∀ e ∈ es, ∃ n : Int, e.1 = .int .i64 n
theorem KI.find {es : List (AV × AV)} (h : KI es) (n : Int) : (findA (.int .i64 n) es).isSome = true := by
  induction es with
  | nil => rfl
  | cons e es ih =>
    obtain ⟨m, hm⟩ := h e (by simp)
    have ih := ih fun x hx => h x (by simp [hx])
    simp only [findA, hm, eqKey, if_true]
    cases (n == m) <;> simp [ih]
theorem KI.upd {es : List (AV × AV)} (h : KI es) (n : Int) (v : AV) : KI (updA (.int .i64 n) v es) := by
  induction es with
  | nil => intro e he; simp [updA] at he; subst he; exact ⟨n, rfl⟩
  | cons e es ih =>
    have ih := ih fun x hx => h x (by simp [hx])
    simp only [updA]
    split
    · intro x hx
      rcases List.mem_cons.1 hx with rfl | hx
      · exact ⟨n, rfl⟩
      · exact h x (by simp [hx])
    · intro x hx
      rcases List.mem_cons.1 hx with rfl | hx
      · exact h x (by simp)
      · exact ih x hx
/-- All keys are four numbers. -/
def KW (es : List (AV × AV)) : Prop := ∀ e ∈ es, ∃ a b c d : Int, e.1 = .agg [.int .i64 a, .int .i64 b, .int .i64 c, .int .i64 d]
theorem KW.find {es : List (AV × AV)} (h : KW es) (a b c d : Int) : (findA (.agg [.int .i64 a, .int .i64 b, .int .i64 c, .int .i64 d]) es).isSome = true := by
  induction es with
  | nil => rfl
  | cons e es ih =>
    obtain ⟨a', b', c', d', hm⟩ := h e (by simp)
    have ih := ih fun x hx => h x (by simp [hx])
    simp only [findA, hm, eqKey, eqKeys, if_true]
    cases (a == a' && (b == b' && (c == c' && (d == d' && true)))) <;> simp [ih]
theorem KW.upd {es : List (AV × AV)} (h : KW es) (a b c d : Int) (v : AV) : KW (updA (.agg [.int .i64 a, .int .i64 b, .int .i64 c, .int .i64 d]) v es) := by
  induction es with
  | nil => intro e he; simp [updA] at he; subst he; exact ⟨a, b, c, d, rfl⟩
  | cons e es ih =>
    have ih := ih fun x hx => h x (by simp [hx])
    simp only [updA]
    split
    · intro x hx
      rcases List.mem_cons.1 hx with rfl | hx
      · exact ⟨a, b, c, d, rfl⟩
      · exact h x (by simp [hx])
    · intro x hx
      rcases List.mem_cons.1 hx with rfl | hx
      · exact h x (by simp)
      · exact ih x hx

/-- The store of a check under way. -/
def ckS (B0 : Blk) (e1 e2 : List (AV × AV)) (c d : Int) (X : Store) : Store := B0 :: .map e1 :: .map e2 :: .arr [[.mp 1, .mp 2, .int .i64 c, .int .i64 d]] 4 1 false :: X
theorem ix0 : indexA CX 152 (.agg [.int .i64 0, .int .i64 1, .int .i64 2]) (.int .i64 ((0 : Nat) : Int)) = some (.int .i64 0) := rfl
theorem ix1 : indexA CX 152 (.agg [.int .i64 0, .int .i64 1, .int .i64 2]) (.int .i64 ((1 : Nat) : Int)) = some (.int .i64 1) := rfl
theorem ix2 : indexA CX 152 (.agg [.int .i64 0, .int .i64 1, .int .i64 2]) (.int .i64 ((2 : Nat) : Int)) = some (.int .i64 2) := rfl

theorem oneE {k : Nat} {m : Nt} {B0 : Blk} {e1 e2 : List (AV × AV)} {c d : Int} (X : Store) (hk : k < 15) (h : AddOK k m) (hless : EvV CX 61 [.agg [.int .i64 c, .int .i64 d], .agg (stK (k + 1))] (· = .bool true)) (K1 : KI e1) (K2 : KW e2) :
    EvR CX 54 [.ptr 3 1 4 0 0, .agg (encO k m)] (ckS B0 e1 e2 c d X) (fun v S' => v = .int .i64 0 ∧ ∃ e1' e2' G, KI e1' ∧ KW e2' ∧ S' = ckS B0 e1' e2' ((k + 1 : Nat) : Int) 2 (X ++ G)) := by
  have qo := (opE hk h).rw
  have ql := hless.rw
  simp only [encO] at qo
  simp only [stK] at ql
  have f1 := K1.find m.id
  have k1 := K1.upd m.id (.int .i64 1)
  have qW := fun f hf => (WritesE k m m.id f hf).rw
  simp only [encO, beq_self_eq_true] at qW
  have q0 := qW 0 (.inl rfl)
  have q1 := qW 1 (.inr (.inl rfl))
  have q2 := qW 2 (.inr (.inr rfl))
  clear h hless K1 qW
  have K2H : Hold (KW e2) := ⟨K2⟩
  have k1H : Hold (KI (updA (.int .i64 m.id) (.int .i64 1) e1)) := ⟨k1⟩
  clear K2 k1 hk
  obtain ⟨E1, hE1⟩ : ∃ E1, updA (.int .i64 m.id) (.int .i64 1) e1 = E1 := ⟨_, rfl⟩
  rw [hE1] at k1H
  refine EvR.walk rfl fn54 rfl nt54 rfl ?_
  simp only [List.length_cons, List.length_nil, List.cons_append, List.nil_append, Nat.reduceAdd, Nat.reduceSub, List.replicate]
  repeat' (first | refine go1 ?_ | refine blockK_else rfl ?_ | (refine go2 fun A B a b => ?_; simp only [go_sem, *, encO, ckS, qo, ql, lenK_nils, set_lenAdd, Nat.zero_le, getElem?_len, getElem?_lenAdd, set_len, List.append_assoc, List.length_append, List.length_map, lenK_str, snap_sl, rowsOf_sl, ints_len, ints_take, List.take_length, Bool.true_or]; (repeat' first | apply a.1 | apply b.1 | refine iteI (fun h => ?_) fun h => ?_) <;> clear a b A B))
  refine wpC_each [4, 9, 10, 12, 54, 55, 56, 57, 58, 59, 60, 61, 62, 63, 64, 65, 66, 67, 68, 69, 70, 71, 72, 73, 74, 75, 76, 77, 78, 79, 80, 81, 82, 83, 84, 85, 86, 87, 88, 89] 53 ([] : List Nat) (fun _ _ => True) ?_ ?_ ?_ ?_
  · trivial
  · ((try simp only [eraseA_cons, eraseA_nil, setL_cons, setL_nil, List.set_cons_zero, List.set_cons_succ]); all_goals (first | rfl | (simp only [len_snoc, ints_len, List.length_map, ]; done) | (simp only [len_snoc, len_mid, ints_len, List.length_map, List.length_append, List.length_cons, List.length_nil, Nat.zero_add, ]; first | done | rfl)))
  rotate_left
  · intro g G pre x post h1 _
    simp at h1
  intro g G _
  simp only [garbA_cons, garbA_nil, setL_cons, setL_nil, List.set_cons_zero, List.set_cons_succ]
  repeat' (first | refine go1 ?_ | refine blockK_else rfl ?_ | (refine go2 fun A B a b => ?_; simp only [go_sem, *, encO, ckS, f1, hE1, lookA, mupK, keyA, unCells, Option.isSome_some, keyIs, set_lenAdd, Nat.zero_le, getElem?_len, getElem?_lenAdd, set_len, List.append_assoc, List.length_append, List.length_map, lenK_str, snap_sl, rowsOf_sl, ints_len, ints_take, List.take_length, Bool.true_or]; (repeat' first | apply a.1 | apply b.1 | refine iteI (fun h => ?_) fun h => ?_) <;> clear a b A B))
  refine wpC_loopF [14, 109, 110, 111, 112, 113, 114, 115, 116, 117, 118, 119, 120, 121, 122, 123, 124, 125, 126, 127, 128] (fun a : Nat × List (AV × AV) => [(108, .int .i64 (a.1 : Int))]) (fun a G2 => B0 :: .map E1 :: .map a.2 :: .arr [[.mp 1, .mp 2, .int .i64 ((k + 1 : Nat) : Int), .int .i64 2]] 4 1 false :: (X ++ .arr [encO k m] 15 0 true :: G2)) (fun a => a.1 ≤ 3 ∧ KW a.2) (fun a => 3 - a.1) (0, e2) ⟨by omega, K2H.out⟩ ?_ ⟨G, by simp [encO]⟩ ?_
  · ((try simp only [eraseA_cons, eraseA_nil, setL_cons, setL_nil, List.set_cons_zero, List.set_cons_succ]); all_goals (first | rfl | (simp only [len_snoc, ints_len, List.length_map, ]; done) | (simp only [len_snoc, len_mid, ints_len, List.length_map, List.length_append, List.length_cons, List.length_nil, Nat.zero_add, ]; first | done | rfl)))
  rintro ⟨i, es⟩ g2 G2 ⟨hi, hW⟩
  replace hi : i ≤ 3 := hi
  replace hW : KW es := hW
  have h4 : i = 3 ∨ i = 0 ∨ i = 1 ∨ i = 2 := by omega
  rcases h4 with rfl | rfl | rfl | rfl
  · have lt1 : ¬ ((3 : Nat) : Int) < 3 := by decide
    have hWH : Hold (KW es) := ⟨hW⟩
    clear hW hi
    simp only [garbA_cons, garbA_nil, setL_cons, setL_nil, List.set_cons_zero, List.set_cons_succ]
    repeat' (first | refine go1 ?_ | refine blockK_else rfl ?_ | (refine go2 fun A B a b => ?_; simp only [go_sem, *, encO, lt1, set_lenAdd, Nat.zero_le, getElem?_len, getElem?_lenAdd, set_len, List.append_assoc, List.length_append, List.length_map, lenK_str, snap_sl, rowsOf_sl, ints_len, ints_take, List.take_length, Bool.true_or]; (repeat' first | apply a.1 | apply b.1 | refine iteI (fun h => ?_) fun h => ?_) <;> clear a b A B))
    simp only [go_sem]
    exact ⟨E1, es, _, k1H.out, hWH.out, by simp only [ckS]; rfl⟩
  · have f2 := hW.find ((k + 1 : Nat) : Int) 2 m.id 0
    have k2H : Hold (KW (updA (.agg [.int .i64 ((k + 1 : Nat) : Int), .int .i64 2, .int .i64 m.id, .int .i64 0]) (.bool true) es)) := ⟨hW.upd _ _ _ _ _⟩
    have lt1 : ((0 : Nat) : Int) < 3 := by decide
    have w1 : IntKind.wrap .i64 (((0 : Nat) : Int) + 1) = ((1 : Nat) : Int) := wrap_succ (n := 0) (by decide)
    clear hW hi
    simp only [garbA_cons, garbA_nil, setL_cons, setL_nil, List.set_cons_zero, List.set_cons_succ]
    repeat' (first | refine go1 ?_ | refine blockK_else rfl ?_ | (refine go2 fun A B a b => ?_; simp only [go_sem, *, encO, wpK_index, lt1, w1, q0, ix0, f2, lookA, mupK, keyA, unCells, Option.isSome_some, keyIs, set_lenAdd, Nat.zero_le, getElem?_len, getElem?_lenAdd, set_len, List.append_assoc, List.length_append, List.length_map, lenK_str, snap_sl, rowsOf_sl, ints_len, ints_take, List.take_length, Bool.true_or]; (repeat' first | apply a.1 | apply b.1 | refine iteI (fun h => ?_) fun h => ?_) <;> clear a b A B))
    refine loopF_next (1, updA (.agg [.int .i64 ((k + 1 : Nat) : Int), .int .i64 2, .int .i64 m.id, .int .i64 0]) (.bool true) es) (show 3 - 1 < 3 - 0 by decide) ⟨show 1 ≤ 3 by decide, k2H.out⟩ ?_ ?_
    · ((try simp only [eraseA_cons, eraseA_nil, setL_cons, setL_nil, List.set_cons_zero, List.set_cons_succ]); all_goals (first | rfl | (simp only [len_snoc, ints_len, List.length_map, ]; done) | (simp only [len_snoc, len_mid, ints_len, List.length_map, List.length_append, List.length_cons, List.length_nil, Nat.zero_add, ]; first | done | rfl)))
    · exact ⟨G2, by simp only [encO]⟩
  · have f2 := hW.find ((k + 1 : Nat) : Int) 2 m.id 1
    have k2H : Hold (KW (updA (.agg [.int .i64 ((k + 1 : Nat) : Int), .int .i64 2, .int .i64 m.id, .int .i64 1]) (.bool true) es)) := ⟨hW.upd _ _ _ _ _⟩
    have lt1 : ((1 : Nat) : Int) < 3 := by decide
    have w1 : IntKind.wrap .i64 (((1 : Nat) : Int) + 1) = ((2 : Nat) : Int) := wrap_succ (n := 1) (by decide)
    clear hW hi
    simp only [garbA_cons, garbA_nil, setL_cons, setL_nil, List.set_cons_zero, List.set_cons_succ]
    repeat' (first | refine go1 ?_ | refine blockK_else rfl ?_ | (refine go2 fun A B a b => ?_; simp only [go_sem, *, encO, wpK_index, lt1, w1, q1, ix1, f2, lookA, mupK, keyA, unCells, Option.isSome_some, keyIs, set_lenAdd, Nat.zero_le, getElem?_len, getElem?_lenAdd, set_len, List.append_assoc, List.length_append, List.length_map, lenK_str, snap_sl, rowsOf_sl, ints_len, ints_take, List.take_length, Bool.true_or]; (repeat' first | apply a.1 | apply b.1 | refine iteI (fun h => ?_) fun h => ?_) <;> clear a b A B))
    refine loopF_next (2, updA (.agg [.int .i64 ((k + 1 : Nat) : Int), .int .i64 2, .int .i64 m.id, .int .i64 1]) (.bool true) es) (show 3 - 2 < 3 - 1 by decide) ⟨show 2 ≤ 3 by decide, k2H.out⟩ ?_ ?_
    · ((try simp only [eraseA_cons, eraseA_nil, setL_cons, setL_nil, List.set_cons_zero, List.set_cons_succ]); all_goals (first | rfl | (simp only [len_snoc, ints_len, List.length_map, ]; done) | (simp only [len_snoc, len_mid, ints_len, List.length_map, List.length_append, List.length_cons, List.length_nil, Nat.zero_add, ]; first | done | rfl)))
    · exact ⟨G2, by simp only [encO]⟩
  · have f2 := hW.find ((k + 1 : Nat) : Int) 2 m.id 2
    have k2H : Hold (KW (updA (.agg [.int .i64 ((k + 1 : Nat) : Int), .int .i64 2, .int .i64 m.id, .int .i64 2]) (.bool true) es)) := ⟨hW.upd _ _ _ _ _⟩
    have lt1 : ((2 : Nat) : Int) < 3 := by decide
    have w1 : IntKind.wrap .i64 (((2 : Nat) : Int) + 1) = ((3 : Nat) : Int) := wrap_succ (n := 2) (by decide)
    clear hW hi
    simp only [garbA_cons, garbA_nil, setL_cons, setL_nil, List.set_cons_zero, List.set_cons_succ]
    repeat' (first | refine go1 ?_ | refine blockK_else rfl ?_ | (refine go2 fun A B a b => ?_; simp only [go_sem, *, encO, wpK_index, lt1, w1, q2, ix2, f2, lookA, mupK, keyA, unCells, Option.isSome_some, keyIs, set_lenAdd, Nat.zero_le, getElem?_len, getElem?_lenAdd, set_len, List.append_assoc, List.length_append, List.length_map, lenK_str, snap_sl, rowsOf_sl, ints_len, ints_take, List.take_length, Bool.true_or]; (repeat' first | apply a.1 | apply b.1 | refine iteI (fun h => ?_) fun h => ?_) <;> clear a b A B))
    refine loopF_next (3, updA (.agg [.int .i64 ((k + 1 : Nat) : Int), .int .i64 2, .int .i64 m.id, .int .i64 2]) (.bool true) es) (show 3 - 3 < 3 - 2 by decide) ⟨show 3 ≤ 3 by decide, k2H.out⟩ ?_ ?_
    · ((try simp only [eraseA_cons, eraseA_nil, setL_cons, setL_nil, List.set_cons_zero, List.set_cons_succ]); all_goals (first | rfl | (simp only [len_snoc, ints_len, List.length_map, ]; done) | (simp only [len_snoc, len_mid, ints_len, List.length_map, List.length_append, List.length_cons, List.length_nil, Nat.zero_add, ]; first | done | rfl)))
    · exact ⟨G2, by simp only [encO]⟩

/-- The operations of a replica. -/
def opsL (M : List Nt) : List (List AV) := M.mapIdx fun k m => encO k m
theorem opsL_len (M : List Nt) : (opsL M).length = M.length := by simp [opsL]
theorem opsL_get {M : List Nt} {k : Nat} {m : Nt} (h : M[k]? = some m) : (opsL M)[k]? = some (encO k m) := by simp [opsL, h]
theorem opsL_snoc (M : List Nt) (m : Nt) : opsL (M ++ [m]) = opsL M ++ [encO M.length m] := by simp [opsL, List.mapIdx_append]
def AllOK (M : List Nt) : Prop := ∀ k m, M[k]? = some m → AddOK k m
def lastD (k : Nat) : Int := if k = 0 then 0 else 2
theorem lessA (k : Nat) (hk : k < 15) : EvV CX 61 [.agg [.int .i64 (k : Int), .int .i64 (lastD k)], .agg (stK (k + 1))] (· = .bool true) := by
  cases k with
  | zero => exact less0
  | succ k => exact lessK k (by omega)

/- Rebuilds: the check of a replica, and a further operation. -/
open Go.Proofs
attribute [local go_sem] ty31 ty33 br35 br36 br37 appK fz129 fz130 lenK_esl lenK_nils lenK_sl lenK_tsl lt6 rowsOf_esl rowsOf_nils rowsOf_sl rowsOf_tsl br21 br23 fz132 fz133 fz134 lt4 br20 br54 br55 fz138 fz139 fz140 fz141
set_option maxHeartbeats 4000000
set_option maxRecDepth 20000

theorem KI_nil : KI [] := fun _ h => nomatch h
theorem KW_nil : KW [] := fun _ h => nomatch h

theorem checkRE {M : List Nt} (hM : AllOK M) (hl : M.length ≤ 14) : EvV CX 37 [.agg [.int .i64 2, .tsl false 1 (ints (seenL M.length)), .tsl false 15 (opsL M)]] (· = .int .i64 0) := by
  have k1 : ¬ (400 : Int) < (M.length : Int) := by omega
  have qj := joinK.rw
  have ol := opsL_len M
  have hMH : Hold (AllOK M ∧ M.length ≤ 14) := ⟨hM, hl⟩
  have s15 : (ints (seenL 0)).length = 15 := rfl
  clear hM hl
  refine EvV.walk rfl fn37 rfl nt37 rfl ?_
  simp only [List.length_cons, List.length_nil, List.cons_append, List.nil_append, Nat.reduceAdd, Nat.reduceSub, List.replicate]
  repeat' (first | refine go1 ?_ | refine blockK_else rfl ?_ | (refine go2 fun A B a b => ?_; simp only [go_sem, *, ol, k1, qj, s15, cells_mpB, set_lenAdd, Nat.zero_le, getElem?_len, getElem?_lenAdd, set_len, List.append_assoc, List.length_append, List.length_map, lenK_str, snap_sl, ints_len, ints_take, List.take_length, Bool.true_or]; (repeat' first | apply a.1 | apply b.1 | refine iteI (fun h => ?_) fun h => ?_) <;> clear a b A B))
  refine wpC_loopF [2, 6, 7, 28, 29, 30, 31, 32, 33, 34, 35, 36, 37, 38, 39, 40] (fun p : Nat × List (AV × AV) × List (AV × AV) × Store => [(4, .sl (p.2.2.2.length + 1 + 1 + 1 + 1) 15 0 15 1), (27, .int .i64 (p.1 : Int))]) (fun p G => ckS (.arr [[.int .i64 2, .tsl false 1 (ints (seenL M.length)), .tsl false 15 (opsL M)]] 3 0 false) p.2.1 p.2.2.1 (p.1 : Int) (lastD p.1) (p.2.2.2 ++ .arr (ints (seenL p.1)) 1 0 true :: G)) (fun p => p.1 ≤ M.length ∧ KI p.2.1 ∧ KW p.2.2.1) (fun p => M.length - p.1) (0, [], [], []) ⟨Nat.zero_le _, KI_nil, KW_nil⟩ ?_ ⟨[], rfl⟩ ?_
  · ((try simp only [eraseA_cons, eraseA_nil, setL_cons, setL_nil, List.set_cons_zero, List.set_cons_succ]); all_goals (first | rfl | (simp only [len_snoc, ints_len, List.length_map, ]; done) | (simp only [len_snoc, len_mid, ints_len, List.length_map, List.length_append, List.length_cons, List.length_nil, Nat.zero_add, ]; first | done | rfl)))
  rintro ⟨k, e1, e2, X⟩ g G ⟨hk, h1, h2⟩
  replace hk : k ≤ M.length := hk
  replace h1 : KI e1 := h1
  replace h2 : KW e2 := h2
  have s15 : (ints (seenL k)).length = 15 := rfl
  have t15 : (ints (seenL k)).take 15 = ints (seenL k) := rfl
  by_cases hlt : k < M.length
  · have lt1 : (k : Int) < (M.length : Int) := by omega
    have w1 := wrap_succ (n := k) (by have := hMH.out.2; omega)
    obtain ⟨m, hm⟩ : ∃ m, M[k]? = some m := ⟨_, List.getElem?_eq_getElem hlt⟩
    have hmk := hMH.out.1 k m hm
    have i0 := idx_sls (SLs.rows (sz := 15) (rows := opsL M) false) (X := CX) ty31 ty78 rfl (n := k) (row := encO k m) (k := .i64) (opsL_get hm)
    have hk14 : k < 15 := by have := hMH.out.2; omega
    have qs := (seeF k hk14).rw
    simp only [stK] at qs
    have hone := fun X0 => oneE (B0 := .arr [[.int .i64 2, .tsl false 1 (ints (seenL M.length)), .tsl false 15 (opsL M)]] 3 0 false) (c := (k : Int)) (d := lastD k) X0 hk14 hmk (lessA k hk14) h1 h2
    have hoH : Hold (∀ X0, EvR CX 54 [.ptr 3 1 4 0 0, .agg (encO k m)] (ckS (.arr [[.int .i64 2, .tsl false 1 (ints (seenL M.length)), .tsl false 15 (opsL M)]] 3 0 false) e1 e2 (k : Int) (lastD k) X0) (fun v S' => v = .int .i64 0 ∧ ∃ e1' e2' G, KI e1' ∧ KW e2' ∧ S' = ckS (.arr [[.int .i64 2, .tsl false 1 (ints (seenL M.length)), .tsl false 15 (opsL M)]] 3 0 false) e1' e2' ((k + 1 : Nat) : Int) 2 (X0 ++ G))) := ⟨hone⟩
    have hkH : Hold (k + 1 ≤ M.length) := ⟨hlt⟩
    clear hk h1 h2 hlt hm hmk hone hk14
    simp only [ckS]
    simp only [garbA_cons, garbA_nil, setL_cons, setL_nil, List.set_cons_zero, List.set_cons_succ]
    repeat' (first | refine go1 ?_ | refine blockK_else rfl ?_ | (refine go2 fun A B a b => ?_; simp only [go_sem, *, encO, lt1, i0, set_lenAdd, Nat.zero_le, getElem?_len, getElem?_lenAdd, set_len, List.append_assoc, List.length_append, List.length_map, lenK_str, snap_sl, ints_len, ints_take, List.take_length, Bool.true_or]; (repeat' first | apply a.1 | apply b.1 | refine iteI (fun h => ?_) fun h => ?_) <;> clear a b A B))
    have hC := hoH.out (X ++ .arr (ints (seenL k)) 1 0 true :: (G ++ [.arr [encO k m] 15 1 true]))
    simp only [ckS, encO] at hC
    refine wpO_cons fun K hK => ?_
    simp only [go_sem]
    refine EvR.mono (hC) ?_
    clear hC
    rintro _ _ ⟨rfl, e1', e2', G', hK1, hK2, rfl⟩
    refine hK.out _ _ ?_
    clear hK K
    have hKH : Hold (KI e1' ∧ KW e2') := ⟨hK1, hK2⟩
    clear hK1 hK2
    simp only [ckS, List.append_assoc, List.cons_append, List.nil_append]
    have s16 : (seenL (k + 1)).length = 15 := rfl
    have hls : lastD (k + 1) = 2 := rfl
    repeat' (first | refine go1 ?_ | refine blockK_else rfl ?_ | (refine go2 fun A B a b => ?_; simp only [go_sem, *, encO, qs, t15, w1, s16, set_lenAdd, Nat.zero_le, getElem?_len, getElem?_lenAdd, set_len, List.append_assoc, List.length_append, List.length_map, lenK_str, snap_sl, ints_len, ints_take, List.take_length, Bool.true_or]; (repeat' first | apply a.1 | apply b.1 | refine iteI (fun h => ?_) fun h => ?_) <;> clear a b A B))
    refine loopF_next (k + 1, e1', e2', X ++ .arr (ints (seenL k)) 1 0 true :: (G ++ .arr [encO k m] 15 1 true :: G')) (by show M.length - (k + 1) < M.length - k; have := hkH.out; omega) ⟨hkH.out, hKH.out.1, hKH.out.2⟩ ?_ ?_
    · ((try simp only [eraseA_cons, eraseA_nil, setL_cons, setL_nil, List.set_cons_zero, List.set_cons_succ]); all_goals (first | rfl | (simp only [len_snoc, ints_len, List.length_map, ]; done) | (simp only [len_snoc, len_mid, ints_len, List.length_map, List.length_append, List.length_cons, List.length_nil, Nat.zero_add, ]; first | done | rfl)))
    · simp only [ckS, encO, hls, List.append_assoc, List.cons_append]
      exact ⟨_, rfl⟩
  · have hkM : k = M.length := by omega
    subst hkM
    have qe := (equalK M.length (by have := hMH.out.2; omega)).rw
    clear hk h1 h2 hlt
    simp only [ckS]
    simp only [garbA_cons, garbA_nil, setL_cons, setL_nil, List.set_cons_zero, List.set_cons_succ]
    repeat' (first | refine go1 ?_ | refine blockK_else rfl ?_ | (refine go2 fun A B a b => ?_; simp only [go_sem, *, Int.lt_irrefl, qe, t15, set_lenAdd, Nat.zero_le, getElem?_len, getElem?_lenAdd, set_len, List.append_assoc, List.length_append, List.length_map, lenK_str, snap_sl, ints_len, ints_take, List.take_length, Bool.true_or]; (repeat' first | apply a.1 | apply b.1 | refine iteI (fun h => ?_) fun h => ?_) <;> clear a b A B))
    simp only [go_sem]

/-- A replica's values. -/
def encR (M : List Nt) (ov : AV) : List AV := [.int .i64 2, .tsl true 1 (ints (seenL M.length)), ov]
theorem cells_flat {v : Value} : (AV.flat v).cells = [.flat v] := rfl
theorem EvV.primD {f : FuncId} {p : List AV → Store → Option (AV × Store)} {args : List AV} {r v : AV} {S : Store} (hp : CX.prim f = some p) (h : p args [] = some (r, S)) (he : exportA S r = some v) : EvV CX f args (· = v) := EvV.prim hp h he
theorem cloneE {M : List Nt} {ov : AV} (hv : SLs 15 (opsL M) ov) (hl : M.length ≤ 14) : EvV CX 36 [ov] (· = .osl 15 (opsL M)) := by
  have hr := hv.rowsOf []
  refine EvV.prim (p := primClone (szOf tab 78)) (r := .sl 1 M.length 0 M.length 15) (S := [.arr [] 15 0 true, .arr (opsL M) 15 0 true]) rfl ?_ ?_
  · have : szOf tab 78 = 15 := rfl
    rw [this]
    simp only [primClone, hr, opsL_len]
    rw [if_pos (by omega)]
    rfl
  · simp [exportA, idsOK, ownIds, lentIds, expTop, opsL_len]
theorem withE {M : List Nt} {m : Nt} {ov : AV} (hv : SLs 15 (opsL M) ov) (hM : AllOK (M ++ [m])) (hl : M.length < 14) : EvV CX 23 [.agg (encR M ov), .agg (encO M.length m)] (· = .tup [.agg [.int .i64 2, .tsl true 1 (ints (seenL (M.length + 1))), .tsl true 15 (opsL (M ++ [m]))], .int .i64 0]) := by
  have c1 := hv.cell
  have n1 := hv.snap
  have qs := (seeT M.length (by omega)).rw
  simp only [stK] at qs
  have qc := (cloneE hv (by omega)).rw
  have qk := (checkRE hM (by simp; omega)).rw
  rw [List.length_append, show [m].length = 1 from rfl, opsL_snoc] at qk
  rw [opsL_snoc]
  have ol := opsL_len M
  have ol2 : (opsL M ++ [encO M.length m]).length = M.length + 1 := by simp [ol]
  have s16 : (seenL (M.length + 1)).length = 15 := rfl
  have s17 : (ints (seenL (M.length + 1))).length = 15 := rfl
  have t15 : (ints (seenL (M.length + 1))).take 15 = ints (seenL (M.length + 1)) := rfl
  have t16 : (opsL M ++ [encO M.length m]).take (M.length + 1) = opsL M ++ [encO M.length m] := by rw [List.take_of_length_le (by omega)]
  have b1 : (M.length + 1) * 152 ≤ 140737488355328 := by omega
  have b2 : M.length + 1 ≤ 140737488355328 := by omega
  simp only [encO] at qk ol2 t16
  clear hM hv
  refine EvV.walk rfl fn23 rfl nt23 rfl ?_
  simp only [List.length_cons, List.length_nil, List.cons_append, List.nil_append, Nat.reduceAdd, Nat.reduceSub, List.replicate]
  repeat' (first | refine go1 ?_ | refine blockK_else rfl ?_ | (refine go2 fun A B a b => ?_; simp only [go_sem, *, wpK_append ty31 rfl, wpK_buildSlice ty31 rfl, encR, encO, c1, n1, qs, qc, s16, ol, b1, b2, set_lenAdd, Nat.zero_le, getElem?_len, getElem?_lenAdd, set_len, List.append_assoc, List.length_append, List.length_map, lenK_str, snap_sl, ints_len, ints_take, List.take_length, Bool.true_or]; (repeat' first | apply a.1 | apply b.1 | refine iteI (fun h => ?_) fun h => ?_) <;> clear a b A B))
  simp only [go_sem, wpK_append ty31 rfl, wpK_buildSlice ty31 rfl, expK, exportA]
  rw [if_pos (show idsOK _ = true from rfl)]
  have u1 : ∀ (x : List AV) (k : Nat), (opsL M ++ [x]).take (M.length + 1) = opsL M ++ [x] := fun x k => by rw [List.take_of_length_le (by simp [ol])]
  simp only [expTops, expTop, expCells, expCell, rowsOf_sl, List.getElem?_cons_succ, List.getElem?_cons_zero, AV.stab, s17, t15, List.length_append, ol, List.length_cons, List.length_nil, Nat.zero_add, Nat.le_refl, Nat.zero_le, and_self, if_true, List.drop_zero, t16, Bool.true_or]
  simp [encO]
theorem addE {M : List Nt} {m : Nt} {ov : AV} (hv : SLs 15 (opsL M) ov) (hM : AllOK (M ++ [{ m with id := idOf M.length }])) (hl : M.length < 14) : EvV CX 8 [.agg (encR M ov), .int .i64 1, .agg (encN m)] (· = .tup [.agg [.int .i64 2, .tsl true 1 (ints (seenL (M.length + 1))), .tsl true 15 (opsL (M ++ [{ m with id := idOf M.length }]))], .int .i64 (idOf M.length), .int .i64 0]) := by
  have c1 := hv.cell
  have n1 := hv.snap
  have qn := (nextK M.length (by omega)).rw
  have qi := (idK M.length (by omega)).rw
  simp only [stK] at qn qi
  have qw := (withE hv hM hl).rw
  simp only [encR, encO] at qw
  obtain ⟨R2, hR2⟩ : ∃ R2, opsL (M ++ [{ m with id := idOf M.length }]) = R2 := ⟨_, rfl⟩
  rw [hR2] at qw ⊢
  have ad3 : ∀ {id : Nat} {a : List AV} {b : Int}, adoptA id (.tup [.agg a, .int .i64 b]) = (.tup [.agg a, .int .i64 b], []) := rfl
  have ad4 : ∀ {id : Nat} {a : List AV} {b : Bool}, adoptA id (.tup [.agg a, .bool b]) = (.tup [.agg a, .bool b], []) := rfl
  clear hM hv hR2
  refine EvV.walk rfl fn8 rfl nt8 rfl ?_
  simp only [List.length_cons, List.length_nil, List.cons_append, List.nil_append, Nat.reduceAdd, Nat.reduceSub, List.replicate]
  repeat' (first | refine go1 ?_ | refine blockK_else rfl ?_ | (refine go2 fun A B a b => ?_; simp only [go_sem, *, encR, encN, c1, n1, qn, qi, qw, ad3, ad4, apartA, cells_flat, set_lenAdd, Nat.zero_le, getElem?_len, getElem?_lenAdd, set_len, List.append_assoc, List.length_append, List.length_map, lenK_str, snap_sl, ints_len, ints_take, List.take_length, Bool.true_or]; (repeat' first | apply a.1 | apply b.1 | refine iteI (fun h => ?_) fun h => ?_) <;> clear a b A B))
  simp only [go_sem, expK, exportA]
  rw [if_pos (show idsOK _ = true from rfl)]
  simp only [expTops, expTop, expCells, expCell, AV.stab]
  simp
end Go.Eng

/- Rebuilds: the values of a field, and cells. -/
namespace Go.Eng
open Go.Proofs
theorem sort1 (b : Nat) (S : Store) : EvR CX 59 [.sl b 1 0 1 4, .fn 60 []] S (fun v s => v = .tup [] ∧ s = S) := ⟨60, _, S ++ [], by kernel_rfl, rfl, List.append_nil S⟩

set_option linter.unusedSimpArgs false
set_option linter.unusedVariables false
attribute [local irreducible] wpC wpO wp1 EvV EvR wpL
attribute [local go_sem] ty3 ty4 ty9 ty22 ty31 ty33 ty38 ty40 ty59 ty76 ty78 eq38 eq40 eq59 allocK ty54 ty56 ty61 ty116 ty118 br40 br41 List.all_cons List.all_nil List.replicate List.set_cons_zero Nat.one_mul Nat.reduceMul Nat.zero_mul bslA fz121 fz122 fz123 lt9 rowsFill ty137 ty142 br57 br58 br59 br60 appK fz117 fz118 fz119 fz142 lenK_esl lenK_nils lenK_sl lenK_tsl nilsK rowsOf_esl rowsOf_nils rowsOf_sl rowsOf_tsl ty46 br28 fz124 fz125 br38 fz126 fz127 fz128 reduceIte Nat.reduceAdd Nat.reduceEqDiff Nat.reduceLT Nat.reduceLeDiff beq_iff_eq beq_eq_false_iff_ne Int.natCast_inj Bool.not_eq_false' op1_go wpK_box wpK_alloc wpK_load wpK_store wpK_binOp wpK_unOp wpK_fieldAddr wpK_field wpK_build wpK_indexAddr wpK_slice wpK_len wpK_extract wpK_nilCheck wpK_pick wpK_makeFunc wpK_call wpK_callT wpK_max wpK_min wpK_assignT wpK_moveT wpK_assignB wpK_moveB wpK_assignI wpK_moveI wpK_assignA wpK_moveA callK_fn snapL_nil snapL_cons snap_int snap_bool snap_str snap_tsl snap_agg snap_fn snap_flat adopt_int adopt_bool adopt_str adopt_agg adopt_osl adopt_tsl adopt_tup op1_guard grdK_bool grdK_undef condK_bool someK_some pairK_some nilK_ptr nilK_tptr boxK storeK evalA_tmp evalA_int evalA_bool evalA_agg evalA_fn evalA_nil ofC_int ofC_bool getA_zero getA_succ cells_int cells_agg cells_bool cells_sl cells_tsl cell_int cell_bool cell_str cell_sl cell_esl cell_tsl cell_ptr cell_tptr cell_fn cell_nils cell_nilf List.all_cons List.all_nil Bool.and_true Bool.and_self Bool.true_and putA_some putA_none List.set_cons_zero List.set_cons_succ List.length_cons List.length_nil List.nil_append List.cons_append stabL AV.stab fieldAddrA fieldA List.getElem?_cons_zero List.getElem?_cons_succ Nat.zero_add loadA rowOf Nat.le_refl and_self true_and and_true partA binA unA intBin eqBin eqCells eqCell Option.bind_some decide_true decide_false decide_eq_true_eq ite_not Bool.not_eq_true' decide_eq_false_iff_not Bool.false_eq_true Option.map_some Option.map_none Bool.not_true Bool.not_false buildA fillA patch List.take List.drop List.map_cons List.map_nil extK List.getD_cons_zero List.getD_cons_succ minmaxA minmaxGo adoptZ_false adoptZ_true freeze_int freeze_bool freeze_str freeze_flat freeze_agg freeze_osl freeze_tsl freeze_tup frz1_bool frz1_int frz1_str frz1_agg frz1_osl frz1_tsl bne Bool.false_and Bool.and_false ne_eq not_true_eq_false not_false_eq_true List.append_nil resultsR resultsL resultA expK_int expK_bool expK_str expK_agg expK_own expK_tsl resK_some latK_false latK_true latP_store latP_move latP_assign latP_pick latP_nilCheck latP_makeInterface latP_binOp latP_unOp latP_convert latP_build latP_field latP_fieldAddr latP_indexAddr latP_index latP_slice latP_makeFunc latP_extract latP_call latP_load latP_alloc latP_box latP_buildSlice latP_makeSlice latP_makeMap latP_lookup latP_mapUpdate latP_range latP_next latP_entry nestNo wpK_lookup wpK_range wpK_next wpK_entry wpK_makeMap wpK_mapUpdate cell_mp
set_option maxHeartbeats 4000000
set_option maxRecDepth 20000

theorem okId {M : List Nt} (hM : AllOK M) {k j : Nat} {m : Nt} (h : M[k]? = some m) : (m.id == idOf j) = decide (k = j) := by
  rw [(hM k m h).id, Bool.eq_iff_iff]
  simp [idOf_inj]

theorem addedRE {M : List Nt} {ov : AV} {j : Nat} {m : Nt} (hv : SLs 15 (opsL M) ov) (hM : AllOK M) (hl : M.length ≤ 14) (hj : M[j]? = some m) : EvV CX 40 [.agg (encR M ov), .int .i64 (idOf j)] (· = .tup [.agg (encO j m), .bool true]) := by
  have c1 := hv.cell
  have ol := opsL_len M
  have hjl : Hold (j < M.length) := ⟨(List.getElem?_eq_some_iff.1 hj).1⟩
  refine EvV.walk rfl fn40 rfl nt40 rfl ?_
  simp only [List.length_cons, List.length_nil, List.cons_append, List.nil_append, Nat.reduceAdd, Nat.reduceSub, List.replicate]
  repeat' (first | refine go1 ?_ | refine blockK_else rfl ?_ | (refine go2 fun A B a b => ?_; simp only [go_sem, *, encR, c1, lenK_sls hv, ol, set_lenAdd, Nat.zero_le, getElem?_len, getElem?_lenAdd, set_len, List.append_assoc, List.length_append, List.length_map, lenK_str, snap_sl, ints_len, ints_take, List.take_length, Bool.true_or]; (repeat' first | apply a.1 | apply b.1 | refine iteI (fun h => ?_) fun h => ?_) <;> clear a b A B))
  refine wpC_loopF [5, 7, 12, 13, 14, 15, 16, 17, 18, 19, 20, 21, 22, 23, 24, 25, 26] (fun k : Nat => [(11, .int .i64 (k : Int))]) (fun _ G => .arr [encR M ov] 3 0 ov.stab :: .arr [[.int .i64 0, .int .i64 0, .int .i64 0, .int .i64 0, .int .i64 0, .int .i64 0, .int .i64 0, .int .i64 0, .int .i64 0, .int .i64 0, .str .empty, .int .i64 0, .int .i64 0, .str .empty, .flat (.slice none 0 0)]] 15 0 true :: G) (fun k => k ≤ j) (fun k => j - k) 0 (Nat.zero_le _) ?_ ⟨[], by simp [encR]⟩ ?_
  · ((try simp only [eraseA_cons, eraseA_nil, setL_cons, setL_nil, List.set_cons_zero, List.set_cons_succ]); all_goals (first | rfl | (simp only [len_snoc, ints_len, List.length_map, ]; done) | (simp only [len_snoc, len_mid, ints_len, List.length_map, List.length_append, List.length_cons, List.length_nil, Nat.zero_add, ]; first | done | rfl)))
  intro k g G hk
  replace hk : k ≤ j := hk
  have hkl : k < M.length := by have := hjl.out; omega
  obtain ⟨mk, hmk⟩ : ∃ x, M[k]? = some x := ⟨_, List.getElem?_eq_getElem hkl⟩
  have i0 := idx_sls hv (X := CX) ty31 ty78 rfl (n := k) (row := encO k mk) (k := .i64) (opsL_get hmk)
  have hid := okId hM hmk (j := j)
  have lt1 : (k : Int) < (M.length : Int) := by omega
  have w1 := wrap_succ (n := k) (by omega)
  by_cases hkj : k = j
  · subst hkj
    rw [hj] at hmk
    injection hmk with hmk
    subst hmk
    rw [decide_eq_true rfl] at hid
    clear hk hkl hj
    simp only [garbA_cons, garbA_nil, setL_cons, setL_nil, List.set_cons_zero, List.set_cons_succ]
    repeat' (first | refine go1 ?_ | refine blockK_else rfl ?_ | (refine go2 fun A B a b => ?_; simp only [go_sem, *, encO, lt1, i0, hid, set_lenAdd, Nat.zero_le, getElem?_len, getElem?_lenAdd, set_len, List.append_assoc, List.length_append, List.length_map, lenK_str, snap_sl, ints_len, ints_take, List.take_length, Bool.true_or]; (repeat' first | apply a.1 | apply b.1 | refine iteI (fun h => ?_) fun h => ?_) <;> clear a b A B))
    simp only [go_sem, expK, exportA]
    rw [if_pos (show idsOK _ = true from rfl)]
    simp only [expTops, expTop, expCells, expCell, AV.stab]
    simp [encO]
  · rw [decide_eq_false hkj] at hid
    have hm : Hold (j - (k + 1) < j - k ∧ k + 1 ≤ j) := ⟨by omega⟩
    clear hk hkl hkj hj hmk
    simp only [garbA_cons, garbA_nil, setL_cons, setL_nil, List.set_cons_zero, List.set_cons_succ]
    repeat' (first | refine go1 ?_ | refine blockK_else rfl ?_ | (refine go2 fun A B a b => ?_; simp only [go_sem, *, encO, lt1, w1, i0, hid, set_lenAdd, Nat.zero_le, getElem?_len, getElem?_lenAdd, set_len, List.append_assoc, List.length_append, List.length_map, lenK_str, snap_sl, ints_len, ints_take, List.take_length, Bool.true_or]; (repeat' first | apply a.1 | apply b.1 | refine iteI (fun h => ?_) fun h => ?_) <;> clear a b A B))
    refine loopF_next (k + 1) hm.out.1 hm.out.2 ?_ ?_
    · ((try simp only [eraseA_cons, eraseA_nil, setL_cons, setL_nil, List.set_cons_zero, List.set_cons_succ]); all_goals (first | rfl | (simp only [len_snoc, ints_len, List.length_map, ]; done) | (simp only [len_snoc, len_mid, ints_len, List.length_map, List.length_append, List.length_cons, List.length_nil, Nat.zero_add, ]; first | done | rfl)))
    · exact ⟨_, rfl⟩

/-- The map of values, after k operations. -/
def mapV (j : Nat) (m : Nt) (f : Int) (k : Nat) : List (AV × AV) := if k ≤ j then [] else [(.agg (stK (j + 1)), .agg (valO j m f))]

theorem valuesE {M : List Nt} {ov : AV} {j : Nat} {m : Nt} {f : Int} (hf : f = 0 ∨ f = 1 ∨ f = 2) (hv : SLs 15 (opsL M) ov) (hM : AllOK M) (hl : M.length ≤ 14) (hj : M[j]? = some m) : EvV CX 41 [.agg (encR M ov), .int .i64 (idOf j), .int .i64 f] (· = .osl 4 [valO j m f]) := by
  have c1 := hv.cell
  have ol := opsL_len M
  have hjl : Hold (j < M.length) := ⟨(List.getElem?_eq_some_iff.1 hj).1⟩
  obtain ⟨st, hst⟩ : ∃ st, ov.stab = st := ⟨_, rfl⟩
  refine EvV.walk rfl fn41 rfl nt41 rfl ?_
  simp only [List.length_cons, List.length_nil, List.cons_append, List.nil_append, Nat.reduceAdd, Nat.reduceSub, List.replicate]
  repeat' (first | refine go1 ?_ | refine blockK_else rfl ?_ | (refine go2 fun A B a b => ?_; simp only [go_sem, *, wpK_append ty54 rfl, wpK_assignN ty54 rfl, wpK_buildSlice ty54 rfl, encR, c1, lenK_sls hv, ol, hst, set_lenAdd, Nat.zero_le, getElem?_len, getElem?_lenAdd, set_len, List.append_assoc, List.length_append, List.length_map, lenK_str, snap_sl, ints_len, ints_take, List.take_length, Bool.true_or]; (repeat' first | apply a.1 | apply b.1 | refine iteI (fun h => ?_) fun h => ?_) <;> clear a b A B))
  refine wpC_loopF [9, 11, 20, 21, 22, 23, 24, 25, 26, 27, 28, 29, 30, 31, 32, 33, 34, 35, 36, 37, 38, 39, 40, 41, 42, 43, 44] (fun k : Nat => [(19, .int .i64 (k : Int))]) (fun k G => .arr [encR M ov] 3 0 st :: .arr [] 4 0 true :: .map (mapV j m f k) :: G) (fun k => k ≤ M.length) (fun k => M.length - k) 0 (Nat.zero_le _) ?_ ⟨[], by simp [encR, mapV]⟩ ?_
  · ((try simp only [eraseA_cons, eraseA_nil, setL_cons, setL_nil, List.set_cons_zero, List.set_cons_succ]); all_goals (first | rfl | (simp only [len_snoc, ints_len, List.length_map, ]; done) | (simp only [len_snoc, len_mid, ints_len, List.length_map, List.length_append, List.length_cons, List.length_nil, Nat.zero_add, ]; first | done | rfl)))
  intro k g G hk
  replace hk : k ≤ M.length := hk
  by_cases hkl : k < M.length
  · obtain ⟨mk, hmk⟩ : ∃ x, M[k]? = some x := ⟨_, List.getElem?_eq_getElem hkl⟩
    have i0 := idx_sls hv (X := CX) ty31 ty78 rfl (n := k) (row := encO k mk) (k := .i64) (opsL_get hmk)
    have hid := okId hM hmk (j := j)
    have lt1 : (k : Int) < (M.length : Int) := by omega
    have w1 := wrap_succ (n := k) (by omega)
    have qW := (WritesE k mk (idOf j) f hf).rw
    have hm : Hold (M.length - (k + 1) < M.length - k ∧ k + 1 ≤ M.length) := ⟨by omega⟩
    simp only [encO] at qW
    by_cases hkj : k = j
    · subst hkj
      rw [hj] at hmk
      injection hmk with hmk
      subst hmk
      rw [decide_eq_true rfl] at hid
      rw [hid] at qW
      have qV := (valueE k m f hf).rw
      simp only [encO, valO] at qV
      have e0 : mapV k m f k = [] := by simp [mapV]
      have e1 : Hold (mapV k m f (k + 1) = [(.agg (stK (k + 1)), .agg (valO k m f))]) := ⟨by simp [mapV]⟩
      clear hk hkl hj hid
      rw [e0]
      simp only [garbA_cons, garbA_nil, setL_cons, setL_nil, List.set_cons_zero, List.set_cons_succ]
      repeat' (first | refine go1 ?_ | refine blockK_else rfl ?_ | (refine go2 fun A B a b => ?_; simp only [go_sem, *, wpK_append ty54 rfl, wpK_assignN ty54 rfl, wpK_buildSlice ty54 rfl, encO, lt1, w1, i0, qW, qV, set_lenAdd, Nat.zero_le, getElem?_len, getElem?_lenAdd, set_len, List.append_assoc, List.length_append, List.length_map, lenK_str, snap_sl, ints_len, ints_take, List.take_length, Bool.true_or]; (repeat' first | apply a.1 | apply b.1 | refine iteI (fun h => ?_) fun h => ?_) <;> clear a b A B))
      refine wpC_each [11, 32, 33, 34, 35, 36, 37] 31 ([] : List Nat) (fun _ _ => True) ?_ ?_ ?_ ?_
      · trivial
      · ((try simp only [eraseA_cons, eraseA_nil, setL_cons, setL_nil, List.set_cons_zero, List.set_cons_succ]); all_goals (first | rfl | (simp only [len_snoc, ints_len, List.length_map, ]; done) | (simp only [len_snoc, len_mid, ints_len, List.length_map, List.length_append, List.length_cons, List.length_nil, Nat.zero_add, ]; first | done | rfl)))
      rotate_left
      · intro g2 G2 pre x post h1 _
        simp at h1
      intro g2 G2 _
      simp only [garbA_cons, garbA_nil, setL_cons, setL_nil, List.set_cons_zero, List.set_cons_succ]
      repeat' (first | refine go1 ?_ | refine blockK_else rfl ?_ | (refine go2 fun A B a b => ?_; simp only [go_sem, *, wpK_append ty54 rfl, wpK_assignN ty54 rfl, wpK_buildSlice ty54 rfl, encO, w1, qW, qV, findA, updA, lookA, mupK, keyA, unCells, Option.isSome_some, keyIs, set_lenAdd, Nat.zero_le, getElem?_len, getElem?_lenAdd, set_len, List.append_assoc, List.length_append, List.length_map, lenK_str, snap_sl, ints_len, ints_take, List.take_length, Bool.true_or]; (repeat' first | apply a.1 | apply b.1 | refine iteI (fun h => ?_) fun h => ?_) <;> clear a b A B))
      refine loopF_next (k + 1) hm.out.1 hm.out.2 ?_ ?_
      · ((try simp only [eraseA_cons, eraseA_nil, setL_cons, setL_nil, List.set_cons_zero, List.set_cons_succ]); all_goals (first | rfl | (simp only [len_snoc, ints_len, List.length_map, ]; done) | (simp only [len_snoc, len_mid, ints_len, List.length_map, List.length_append, List.length_cons, List.length_nil, Nat.zero_add, ]; first | done | rfl)))
      · rw [e1.out]; simp only [stK, valO]; exact ⟨_, rfl⟩
    · rw [decide_eq_false hkj] at hid
      rw [hid] at qW
      have e1 : Hold (mapV j m f (k + 1) = mapV j m f k) := ⟨by unfold mapV; by_cases h : k ≤ j; rw [if_pos h, if_pos (by omega)]; rw [if_neg h, if_neg (by omega)]⟩
      clear hk hkl hj hid hkj hmk
      simp only [garbA_cons, garbA_nil, setL_cons, setL_nil, List.set_cons_zero, List.set_cons_succ]
      repeat' (first | refine go1 ?_ | refine blockK_else rfl ?_ | (refine go2 fun A B a b => ?_; simp only [go_sem, *, wpK_append ty54 rfl, wpK_assignN ty54 rfl, wpK_buildSlice ty54 rfl, encO, lt1, w1, i0, qW, set_lenAdd, Nat.zero_le, getElem?_len, getElem?_lenAdd, set_len, List.append_assoc, List.length_append, List.length_map, lenK_str, snap_sl, ints_len, ints_take, List.take_length, Bool.true_or]; (repeat' first | apply a.1 | apply b.1 | refine iteI (fun h => ?_) fun h => ?_) <;> clear a b A B))
      refine loopF_next (k + 1) hm.out.1 hm.out.2 ?_ ?_
      · ((try simp only [eraseA_cons, eraseA_nil, setL_cons, setL_nil, List.set_cons_zero, List.set_cons_succ]); all_goals (first | rfl | (simp only [len_snoc, ints_len, List.length_map, ]; done) | (simp only [len_snoc, len_mid, ints_len, List.length_map, List.length_append, List.length_cons, List.length_nil, Nat.zero_add, ]; first | done | rfl)))
      · rw [e1.out]; exact ⟨_, rfl⟩
  · have hkM : k = M.length := by omega
    subst hkM
    have e1 : mapV j m f M.length = [(.agg (stK (j + 1)), .agg (valO j m f))] := by unfold mapV; rw [if_neg (by have := hjl.out; omega)]
    rw [e1]
    clear hk hkl hj e1
    obtain ⟨V, hV⟩ : ∃ V, valO j m f = V := ⟨_, rfl⟩
    obtain ⟨a1, a2, a3, a4, rfl⟩ : ∃ a1 a2 a3 a4, V = [.int .i64 a1, .int .i64 a2, .int .i64 a3, .str a4] := ⟨_, _, _, _, hV.symm⟩
    rw [hV]
    clear hV
    have q1 := fun b S => (sort1 b S).rw
    simp only [garbA_cons, garbA_nil, setL_cons, setL_nil, List.set_cons_zero, List.set_cons_succ]
    repeat' (first | refine go1 ?_ | refine blockK_else rfl ?_ | (refine go2 fun A B a b => ?_; simp only [go_sem, *, wpK_append ty54 rfl, wpK_assignN ty54 rfl, wpK_buildSlice ty54 rfl, Int.lt_irrefl, rngK, set_lenAdd, Nat.zero_le, getElem?_len, getElem?_lenAdd, set_len, List.append_assoc, List.length_append, List.length_map, lenK_str, snap_sl, ints_len, ints_take, List.take_length, Bool.true_or]; (repeat' first | apply a.1 | apply b.1 | refine iteI (fun h => ?_) fun h => ?_) <;> clear a b A B))
    refine wpC_loopF [14, 47, 48, 49, 50, 51, 52, 53, 54] (fun a : Bool => [(12, if a then .sl (G.length + 1 + 1 + 1) 1 0 1 4 else .sl (G.length + 1 + 1 + 1) 0 0 0 4)]) (fun a G2 => .arr [encR M ov] 3 0 st :: .arr [] 4 0 true :: .map [(.agg (stK (j + 1)), .agg [.int .i64 a1, .int .i64 a2, .int .i64 a3, .str a4])] :: (G ++ .arr (if a then [[.int .i64 a1, .int .i64 a2, .int .i64 a3, .str a4]] else []) 4 0 true :: .iter 2 1 a :: G2)) (fun _ => True) (fun a => if a then 0 else 1) false trivial ?_ ⟨[], by simp [encR, stK]⟩ ?_
    · ((try simp only [eraseA_cons, eraseA_nil, setL_cons, setL_nil, List.set_cons_zero, List.set_cons_succ]); all_goals (first | rfl | (simp only [len_snoc, ints_len, List.length_map, ]; done) | (simp only [len_snoc, len_mid, ints_len, List.length_map, List.length_append, List.length_cons, List.length_nil, Nat.zero_add, ]; first | done | rfl)))
    intro a g2 G2 _
    cases a with
    | false =>
      simp only [if_false, Bool.false_eq_true]
      simp only [garbA_cons, garbA_nil, setL_cons, setL_nil, List.set_cons_zero, List.set_cons_succ]
      repeat' (first | refine go1 ?_ | refine blockK_else rfl ?_ | (refine go2 fun A B a b => ?_; simp only [go_sem, *, wpK_append ty54 rfl, wpK_assignN ty54 rfl, wpK_buildSlice ty54 rfl, nxtK, entK, set_lenAdd, Nat.zero_le, getElem?_len, getElem?_lenAdd, set_len, List.append_assoc, List.length_append, List.length_map, lenK_str, snap_sl, ints_len, ints_take, List.take_length, Bool.true_or]; (repeat' first | apply a.1 | apply b.1 | refine iteI (fun h => ?_) fun h => ?_) <;> clear a b A B))
      refine loopF_next true (by decide) trivial ?_ ?_
      · ((try simp only [eraseA_cons, eraseA_nil, setL_cons, setL_nil, List.set_cons_zero, List.set_cons_succ]); all_goals (first | rfl | (simp only [len_snoc, ints_len, List.length_map, ]; done) | (simp only [len_snoc, len_mid, ints_len, List.length_map, List.length_append, List.length_cons, List.length_nil, Nat.zero_add, ]; first | done | rfl)))
      · simp only [encR, stK, if_true]; exact ⟨_, rfl⟩
    | true =>
      simp only [if_true]
      simp only [garbA_cons, garbA_nil, setL_cons, setL_nil, List.set_cons_zero, List.set_cons_succ]
      repeat' (first | refine go1 ?_ | refine blockK_else rfl ?_ | (refine go2 fun A B a b => ?_; simp only [go_sem, *, wpK_append ty54 rfl, wpK_assignN ty54 rfl, wpK_buildSlice ty54 rfl, nxtK, q1, set_lenAdd, Nat.zero_le, getElem?_len, getElem?_lenAdd, set_len, List.append_assoc, List.length_append, List.length_map, lenK_str, snap_sl, ints_len, ints_take, List.take_length, Bool.true_or]; (repeat' first | apply a.1 | apply b.1 | refine iteI (fun h => ?_) fun h => ?_) <;> clear a b A B))
      simp only [go_sem, wpK_append ty54 rfl, wpK_assignN ty54 rfl, wpK_buildSlice ty54 rfl, set_lenAdd, Nat.zero_le, getElem?_len, getElem?_lenAdd, set_len, List.append_assoc, List.length_append, List.length_map, lenK_str, snap_sl, ints_len, ints_take, List.take_length, Bool.true_or]

/-- The cell of a note. -/
def celO (j : Nat) (m : Nt) : List AV := .int .i64 1 :: (encN m ++ [.tsl true 4 [valO j m 0], .tsl true 4 [valO j m 1], .tsl true 4 [valO j m 2]])

theorem cellE {M : List Nt} {ov : AV} {j : Nat} {m : Nt} (hv : SLs 15 (opsL M) ov) (hM : AllOK M) (hl : M.length ≤ 14) (hj : M[j]? = some m) : EvV CX 28 [.agg (encR M ov), .int .i64 (idOf j)] (· = .tup [.agg (celO j m), .bool true]) := by
  have c1 := hv.cell
  have n1 := hv.snap
  have ol := opsL_len M
  obtain ⟨st, hst⟩ : ∃ st, ov.stab = st := ⟨_, rfl⟩
  have qa := (addedRE hv hM hl hj).rw
  have q0 := (valuesE (f := 0) (.inl rfl) hv hM hl hj).rw
  have q1 := (valuesE (f := 1) (.inr (.inl rfl)) hv hM hl hj).rw
  have q2 := (valuesE (f := 2) (.inr (.inr rfl)) hv hM hl hj).rw
  simp only [encR] at qa q0 q1 q2
  simp only [encO] at qa
  have hlH : Hold (M.length ≤ 14) := ⟨hl⟩
  obtain ⟨V0, hV0⟩ : ∃ V, valO j m 0 = V := ⟨_, rfl⟩
  obtain ⟨V1, hV1⟩ : ∃ V, valO j m 1 = V := ⟨_, rfl⟩
  obtain ⟨V2, hV2⟩ : ∃ V, valO j m 2 = V := ⟨_, rfl⟩
  simp only [celO, hV0, hV1, hV2]
  rw [hV0] at q0
  rw [hV1] at q1
  rw [hV2] at q2
  obtain ⟨a1, a2, a3, a4, rfl⟩ : ∃ a1 a2 a3 a4, V0 = [.int .i64 a1, .int .i64 a2, .int .i64 a3, .str a4] := ⟨_, _, _, _, hV0.symm⟩
  clear hV0 hV1 hV2 hj hM hl
  have ad4 : ∀ {id : Nat} {a : List AV} {b : Bool}, adoptA id (.tup [.agg a, .bool b]) = (.tup [.agg a, .bool b], []) := rfl
  refine EvV.walk rfl fn28 rfl nt28 rfl ?_
  simp only [List.length_cons, List.length_nil, List.cons_append, List.nil_append, Nat.reduceAdd, Nat.reduceSub, List.replicate]
  repeat' (first | refine go1 ?_ | refine blockK_else rfl ?_ | (refine go2 fun A B a b => ?_; simp only [go_sem, *, wpK_buildSlice ty118 rfl, encR, c1, n1, lenK_sls hv, ol, hst, qa, ad4, set_lenAdd, Nat.zero_le, getElem?_len, getElem?_lenAdd, set_len, List.append_assoc, List.length_append, List.length_map, lenK_str, snap_sl, ints_len, ints_take, List.take_length, Bool.true_or]; (repeat' first | apply a.1 | apply b.1 | refine iteI (fun h => ?_) fun h => ?_) <;> clear a b A B))
  refine wpC_loopF [10, 12, 32, 33, 34, 35, 36, 37, 38, 39, 40, 41, 42, 43, 44, 45, 46, 47, 48, 49, 50, 51, 52, 53, 54, 55] (fun k : Nat => [(31, .int .i64 (k : Int))]) (fun k G => .arr [encR M ov] 3 0 st :: .arr [.int .i64 0 :: (encN ⟨0, 0, 0, 0, 0, 0, .empty⟩ ++ [.flat (.slice none 0 0), .flat (.slice none 0 0), .flat (.slice none 0 0)])] 11 0 true :: .arr [encO j m] 15 1 true :: .map [] :: G) (fun k => k ≤ M.length) (fun k => M.length - k) 0 (Nat.zero_le _) ?_ ⟨[], by simp [encR, encO, encN]⟩ ?_
  · ((try simp only [eraseA_cons, eraseA_nil, setL_cons, setL_nil, List.set_cons_zero, List.set_cons_succ]); all_goals (first | rfl | (simp only [len_snoc, ints_len, List.length_map, ]; done) | (simp only [len_snoc, len_mid, ints_len, List.length_map, List.length_append, List.length_cons, List.length_nil, Nat.zero_add, ]; first | done | rfl)))
  intro k g G hk
  replace hk : k ≤ M.length := hk
  by_cases hkl : k < M.length
  · obtain ⟨mk, hmk⟩ : ∃ x, M[k]? = some x := ⟨_, List.getElem?_eq_getElem hkl⟩
    have i0 := idx_sls hv (X := CX) ty31 ty78 rfl (n := k) (row := encO k mk) (k := .i64) (opsL_get hmk)
    have lt1 : (k : Int) < (M.length : Int) := by omega
    have w1 := wrap_succ (n := k) (by have := hlH.out; omega)
    have hm : Hold (M.length - (k + 1) < M.length - k ∧ k + 1 ≤ M.length) := ⟨by omega⟩
    have z2 : ((0 : Int) == 2) = false := rfl
    clear hk hkl hmk
    simp only [garbA_cons, garbA_nil, setL_cons, setL_nil, List.set_cons_zero, List.set_cons_succ]
    repeat' (first | refine go1 ?_ | refine blockK_else rfl ?_ | (refine go2 fun A B a b => ?_; simp only [go_sem, *, wpK_buildSlice ty118 rfl, encO, lt1, w1, i0, z2, set_lenAdd, Nat.zero_le, getElem?_len, getElem?_lenAdd, set_len, List.append_assoc, List.length_append, List.length_map, lenK_str, snap_sl, ints_len, ints_take, List.take_length, Bool.true_or]; (repeat' first | apply a.1 | apply b.1 | refine iteI (fun h => ?_) fun h => ?_) <;> clear a b A B))
    refine loopF_next (k + 1) hm.out.1 hm.out.2 ?_ ?_
    · ((try simp only [eraseA_cons, eraseA_nil, setL_cons, setL_nil, List.set_cons_zero, List.set_cons_succ]); all_goals (first | rfl | (simp only [len_snoc, ints_len, List.length_map, ]; done) | (simp only [len_snoc, len_mid, ints_len, List.length_map, List.length_append, List.length_cons, List.length_nil, Nat.zero_add, ]; first | done | rfl)))
    · exact ⟨_, by simp only [encO]; rfl⟩
  · have hkM : k = M.length := by omega
    subst hkM
    clear hk hkl
    have n2 : ∀ (S : Store) (rows : List (List AV)), snap S (.tsl true 4 rows) = some (.tsl true 4 rows) := fun S rows => by simp only [snap]
    have ix : indexAddrA CX 54 (.tsl true 4 [[.int .i64 a1, .int .i64 a2, .int .i64 a3, .str a4]]) (.int .i64 ((0 : Nat) : Int)) = some (.tptr true [.int .i64 a1, .int .i64 a2, .int .i64 a3, .str a4] 0) := rfl
    simp only [garbA_cons, garbA_nil, setL_cons, setL_nil, List.set_cons_zero, List.set_cons_succ]
    repeat' (first | refine go1 ?_ | refine blockK_else rfl ?_ | (refine go2 fun A B a b => ?_; simp only [go_sem, *, wpK_buildSlice ty118 rfl, encR, encO, Int.lt_irrefl, q0, q1, q2, c1, n1, hst, set_lenAdd, Nat.zero_le, getElem?_len, getElem?_lenAdd, set_len, List.append_assoc, List.length_append, List.length_map, lenK_str, snap_sl, ints_len, ints_take, List.take_length, Bool.true_or]; (repeat' first | apply a.1 | apply b.1 | refine iteI (fun h => ?_) fun h => ?_) <;> clear a b A B))
    refine wpC_each [5, 15, 17, 79, 80, 81, 82, 83, 84, 85, 86, 87, 88, 89, 90, 91, 92, 93, 94, 95] 78 [0, 1, 2] (fun pre _ => pre = ([] : List Nat)) rfl ?_ ?_ ?_
    · ((try simp only [eraseA_cons, eraseA_nil, setL_cons, setL_nil, List.set_cons_zero, List.set_cons_succ]); all_goals (first | rfl | (simp only [len_snoc, ints_len, List.length_map, ]; done) | (simp only [len_snoc, len_mid, ints_len, List.length_map, List.length_append, List.length_cons, List.length_nil, Nat.zero_add, ]; first | done | rfl)))
    · intro g1 G1 h; simp at h
    intro g1 G1 pre x post h0 hpre
    subst hpre
    clear h0
    simp only [garbA_cons, garbA_nil, setL_cons, setL_nil, List.set_cons_zero, List.set_cons_succ]
    have z3 : ((0 : Nat) : Int) < ((3 : Nat) : Int) := by decide
    have z1 : ((0 : Nat) : Int) < ((1 : Nat) : Int) := by decide
    repeat' (first | refine go1 ?_ | refine blockK_else rfl ?_ | (refine go2 fun A B a b => ?_; simp only [go_sem, *, wpK_buildSlice ty118 rfl, encR, encO, z3, z1, indexAddrA, Int.natCast_nonneg, Int.toNat_natCast, set_lenAdd, Nat.zero_le, getElem?_len, getElem?_lenAdd, set_len, List.append_assoc, List.length_append, List.length_map, lenK_str, snap_sl, ints_len, ints_take, List.take_length, Bool.true_or]; (repeat' first | apply a.1 | apply b.1 | refine iteI (fun h => ?_) fun h => ?_) <;> clear a b A B))
    refine wpC_each [5, 17, 85, 86, 87, 88, 89, 90, 91, 92, 93, 94] 84 [0] (fun pre _ => pre = ([] : List Nat)) rfl ?_ ?_ ?_
    · ((try simp only [eraseA_cons, eraseA_nil, setL_cons, setL_nil, List.set_cons_zero, List.set_cons_succ]); all_goals (first | rfl | (simp only [len_snoc, ints_len, List.length_map, ]; done) | (simp only [len_snoc, len_mid, ints_len, List.length_map, List.length_append, List.length_cons, List.length_nil, Nat.zero_add, ]; first | done | rfl)))
    · intro g2 G2 h; simp at h
    intro g2 G2 pre x post h0 hpre
    subst hpre
    clear h0
    simp only [garbA_cons, garbA_nil, setL_cons, setL_nil, List.set_cons_zero, List.set_cons_succ]
    repeat' (first | refine go1 ?_ | refine blockK_else rfl ?_ | (refine go2 fun A B a b => ?_; simp only [go_sem, *, wpK_buildSlice ty118 rfl, encR, encO, z3, z1, ix, findA, lookA, mupK, keyA, unCells, Option.isSome_some, keyIs, List.append_assoc, set_lenAdd, Nat.zero_le, getElem?_len, getElem?_lenAdd, set_len, List.length_append, List.length_map, lenK_str, snap_sl, ints_len, ints_take, List.take_length, Bool.true_or]; (repeat' first | apply a.1 | apply b.1 | refine iteI (fun h => ?_) fun h => ?_) <;> clear a b A B))
    simp only [go_sem, wpK_buildSlice ty118 rfl, expK, exportA]
    rw [if_pos (show idsOK _ = true from rfl)]
    simp only [expTops, expTop, expCells, expCell, AV.stab]
    simp [encN]

/-- The cells of the notes. -/
def celsL (M : List Nt) : List (List AV) := M.mapIdx fun k m => celO k m
theorem celsL_len (M : List Nt) : (celsL M).length = M.length := by simp [celsL]
theorem celsL_take {M : List Nt} {k : Nat} {m : Nt} (h : M[k]? = some m) : celsL (M.take (k + 1)) = celsL (M.take k) ++ [celO k m] := by
  have hk := (List.getElem?_eq_some_iff.1 h).1
  rw [List.take_succ, h]
  simp [celsL, List.mapIdx_append, Nat.min_eq_left (Nat.le_of_lt hk)]
theorem cellsE {M : List Nt} {ov : AV} (hv : SLs 15 (opsL M) ov) (hM : AllOK M) (hl : M.length ≤ 14) : EvV CX 10 [.agg (encR M ov), .int .i64 1] (· = .osl 11 (celsL M)) := by
  have c1 := hv.cell
  have n1 := hv.snap
  have ol := opsL_len M
  obtain ⟨st, hst⟩ : ∃ st, ov.stab = st := ⟨_, rfl⟩
  have hC : Hold (∀ k m, M[k]? = some m → EvV CX 28 [.agg (encR M ov), .int .i64 (idOf k)] (· = .tup [.agg (celO k m), .bool true])) := ⟨fun k m h => cellE hv hM hl h⟩
  have hMH : Hold (AllOK M ∧ M.length ≤ 14) := ⟨hM, hl⟩
  have ad4 : ∀ {id : Nat} {a : List AV} {b : Bool}, adoptA id (.tup [.agg a, .bool b]) = (.tup [.agg a, .bool b], []) := rfl
  clear hM hl
  refine EvV.walk rfl fn10 rfl nt10 rfl ?_
  simp only [List.length_cons, List.length_nil, List.cons_append, List.nil_append, Nat.reduceAdd, Nat.reduceSub, List.replicate]
  repeat' (first | refine go1 ?_ | refine blockK_else rfl ?_ | (refine go2 fun A B a b => ?_; simp only [go_sem, *, wpK_append ty46 rfl, wpK_assignN ty46 rfl, wpK_buildSlice ty46 rfl, encR, c1, n1, lenK_sls hv, ol, hst, set_lenAdd, Nat.zero_le, getElem?_len, getElem?_lenAdd, set_len, List.append_assoc, List.length_append, List.length_map, lenK_str, snap_sl, ints_len, ints_take, List.take_length, Bool.true_or]; (repeat' first | apply a.1 | apply b.1 | refine iteI (fun h => ?_) fun h => ?_) <;> clear a b A B))
  refine wpC_loopF [7, 8, 9, 14, 15, 16, 17, 18, 19, 20, 21, 22, 23, 24, 25, 26, 27, 28, 29, 30, 31, 32, 33, 34, 35, 36, 37, 38, 39] (fun k : Nat => [(5, .sl 2 k 0 k 11), (13, .int .i64 (k : Int))]) (fun k G => .arr [encR M ov] 3 0 st :: .arr [] 11 0 true :: .arr (celsL (M.take k)) 11 0 true :: G) (fun k => k ≤ M.length) (fun k => M.length - k) 0 (Nat.zero_le _) ?_ ⟨[], by simp [encR, celsL]⟩ ?_
  · ((try simp only [eraseA_cons, eraseA_nil, setL_cons, setL_nil, List.set_cons_zero, List.set_cons_succ]); all_goals (first | rfl | (simp only [len_snoc, ints_len, List.length_map, ]; done) | (simp only [len_snoc, len_mid, ints_len, List.length_map, List.length_append, List.length_cons, List.length_nil, Nat.zero_add, ]; first | done | rfl)))
  intro k g G hk
  replace hk : k ≤ M.length := hk
  by_cases hkl : k < M.length
  · obtain ⟨mk, hmk⟩ : ∃ x, M[k]? = some x := ⟨_, List.getElem?_eq_getElem hkl⟩
    have i0 := idx_sls hv (X := CX) ty31 ty78 rfl (n := k) (row := encO k mk) (k := .i64) (opsL_get hmk)
    have lt1 : (k : Int) < (M.length : Int) := by omega
    have w1 := wrap_succ (n := k) (by have := hMH.out.2; omega)
    have hm : Hold (M.length - (k + 1) < M.length - k ∧ k + 1 ≤ M.length) := ⟨by omega⟩
    have hid := (hMH.out.1 k mk hmk).id
    have qc := (hC.out k mk hmk).rw
    rw [← hid] at qc
    simp only [encR, celO, encN, List.cons_append, List.nil_append] at qc
    have ht : Hold (celsL (M.take (k + 1)) = celsL (M.take k) ++ [celO k mk]) := ⟨celsL_take hmk⟩
    have hlen : (celsL (M.take k)).length = k := by rw [celsL_len, List.length_take, Nat.min_eq_left hk]
    have z0 : ((0 : Int) == 0) = true := rfl
    have z1 : ((1 : Int) == 1) = true := rfl
    have b1 : (k + 1) * 144 ≤ 140737488355328 := by have := hMH.out.2; omega
    have b2 : k + 1 ≤ 140737488355328 := by have := hMH.out.2; omega
    clear hk hkl hmk hid
    simp only [garbA_cons, garbA_nil, setL_cons, setL_nil, List.set_cons_zero, List.set_cons_succ]
    repeat' (first | refine go1 ?_ | refine blockK_else rfl ?_ | (refine go2 fun A B a b => ?_; simp only [go_sem, *, wpK_append ty46 rfl, wpK_assignN ty46 rfl, wpK_buildSlice ty46 rfl, encR, encO, encN, c1, n1, lt1, w1, i0, z0, z1, qc, ad4, hlen, b1, b2, List.append_assoc, set_lenAdd, Nat.zero_le, getElem?_len, getElem?_lenAdd, set_len, List.length_append, List.length_map, lenK_str, snap_sl, ints_len, ints_take, List.take_length, Bool.true_or]; (repeat' first | apply a.1 | apply b.1 | refine iteI (fun h => ?_) fun h => ?_) <;> clear a b A B))
    refine loopF_next (k + 1) hm.out.1 hm.out.2 ?_ ?_
    · ((try simp only [eraseA_cons, eraseA_nil, setL_cons, setL_nil, List.set_cons_zero, List.set_cons_succ]); all_goals (first | rfl | (simp only [len_snoc, ints_len, List.length_map, ]; done) | (simp only [len_snoc, len_mid, ints_len, List.length_map, List.length_append, List.length_cons, List.length_nil, Nat.zero_add, ]; first | done | rfl)))
    · rw [ht.out]; simp only [celO, encN, encR, List.cons_append, List.nil_append]; exact ⟨_, rfl⟩
  · have hkM : k = M.length := by omega
    subst hkM
    clear hk hkl
    have ct : celsL (M.take M.length) = celsL M := by rw [List.take_length]
    have cl := celsL_len M
    simp only [garbA_cons, garbA_nil, setL_cons, setL_nil, List.set_cons_zero, List.set_cons_succ]
    repeat' (first | refine go1 ?_ | refine blockK_else rfl ?_ | (refine go2 fun A B a b => ?_; simp only [go_sem, *, wpK_append ty46 rfl, wpK_assignN ty46 rfl, wpK_buildSlice ty46 rfl, Int.lt_irrefl, ct, cl, set_lenAdd, Nat.zero_le, getElem?_len, getElem?_lenAdd, set_len, List.append_assoc, List.length_append, List.length_map, lenK_str, snap_sl, ints_len, ints_take, List.take_length, Bool.true_or]; (repeat' first | apply a.1 | apply b.1 | refine iteI (fun h => ?_) fun h => ?_) <;> clear a b A B))
    simp only [go_sem, wpK_append ty46 rfl, wpK_assignN ty46 rfl, wpK_buildSlice ty46 rfl, ct, cl, set_lenAdd, Nat.zero_le, getElem?_len, getElem?_lenAdd, set_len, List.append_assoc, List.length_append, List.length_map, lenK_str, snap_sl, ints_len, ints_take, List.take_length, Bool.true_or]

theorem lastE (V : List AV) (hV : ∃ a b c d, V = [.int .i64 a, .int .i64 b, .int .i64 c, .str d]) : EvV CX 38 [.tsl true 4 [V]] (· = .tup [.agg V, .bool true]) := by
  obtain ⟨a, b, c, d, rfl⟩ := hV
  have ix : indexAddrA CX 54 (.tsl true 4 [[.int .i64 a, .int .i64 b, .int .i64 c, .str d]]) (.int .i64 (IntKind.wrap .i64 (((1 : Nat) : Int) - 1))) = some (.tptr true [.int .i64 a, .int .i64 b, .int .i64 c, .str d] 0) := by
    rw [show IntKind.wrap .i64 (((1 : Nat) : Int) - 1) = 0 from by decide]
    rfl
  have z1 : (((1 : Nat) : Int) == 0) = false := rfl
  refine EvV.walk rfl fn38 rfl nt38 rfl ?_
  simp only [List.length_cons, List.length_nil, List.cons_append, List.nil_append, Nat.reduceAdd, Nat.reduceSub, List.replicate]
  repeat' (first | refine go1 ?_ | refine blockK_else rfl ?_ | (refine go2 fun A B a b => ?_; simp only [go_sem, *, ix, z1]; (repeat' first | apply a.1 | apply b.1 | refine iteI (fun h => ?_) fun h => ?_) <;> clear a b A B))
  simp only [go_sem, expK, exportA]
  rw [if_pos (show idsOK _ = true from rfl)]
  simp only [expTops, expTop, expCells, expCell, AV.stab]
  simp

theorem currE (j : Nat) (m : Nt) : EvV CX 24 [.agg (celO j m)] (· = .agg (encN m)) := by
  have q0 := (lastE (valO j m 0) ⟨_, _, _, _, rfl⟩).rw
  have q1 := (lastE (valO j m 1) ⟨_, _, _, _, rfl⟩).rw
  have q2 := (lastE (valO j m 2) ⟨_, _, _, _, rfl⟩).rw
  have ad4 : ∀ {id : Nat} {a : List AV} {b : Bool}, adoptA id (.tup [.agg a, .bool b]) = (.tup [.agg a, .bool b], []) := rfl
  have n2 : ∀ (S : Store) (rows : List (List AV)), snap S (.tsl true 4 rows) = some (.tsl true 4 rows) := fun S rows => by simp only [snap]
  have e0 : valO j m 0 = [.int .i64 ((j + 1 : Nat) : Int), .int .i64 2, .int .i64 0, .str m.tx] := rfl
  have e1 : valO j m 1 = [.int .i64 ((j + 1 : Nat) : Int), .int .i64 2, .int .i64 m.fr, .str .empty] := rfl
  have e2 : valO j m 2 = [.int .i64 ((j + 1 : Nat) : Int), .int .i64 2, .int .i64 m.en, .str .empty] := rfl
  rw [e0] at q0
  rw [e1] at q1
  rw [e2] at q2
  refine EvV.walk rfl fn24 rfl nt24 rfl ?_
  simp only [List.length_cons, List.length_nil, List.cons_append, List.nil_append, Nat.reduceAdd, Nat.reduceSub, List.replicate]
  repeat' (first | refine go1 ?_ | refine blockK_else rfl ?_ | (refine go2 fun A B a b => ?_; simp only [go_sem, *, celO, encN, cells_str, e0, e1, e2, n2, ad4, q0, q1, q2, set_lenAdd, Nat.zero_le, getElem?_len, getElem?_lenAdd, set_len, List.append_assoc, List.length_append, List.length_map, lenK_str, snap_sl, ints_len, ints_take, List.take_length, Bool.true_or]; (repeat' first | apply a.1 | apply b.1 | refine iteI (fun h => ?_) fun h => ?_) <;> clear a b A B))
  all_goals simp only [go_sem, set_lenAdd, Nat.zero_le, getElem?_len, getElem?_lenAdd, set_len, List.append_assoc, List.length_append, List.length_map, lenK_str, snap_sl, ints_len, ints_take, List.take_length, Bool.true_or]
  all_goals (simp only [expCells, expCell, AV.stab]; simp [encN])
end Go.Eng

/- Rebuilds: the rules of a place. -/
namespace Go.Eng
open Go.Proofs
set_option linter.unusedSimpArgs false
set_option linter.unusedVariables false
attribute [local irreducible] wpC wpO wp1 EvV EvR wpL
attribute [local go_sem] ty3 ty4 ty9 ty25 ty53 br56 fz152 ty24 ty26 ty34 ty38 ty40 ty79 ty80 ty82 ty102 eq38 eq40 allocK lt48 ty103 ty105 br113 fz113 ty104 lt49 lt50 reduceIte Nat.reduceAdd Nat.reduceEqDiff Nat.reduceLT Nat.reduceLeDiff beq_iff_eq beq_eq_false_iff_ne Int.natCast_inj Bool.not_eq_false' op1_go wpK_box wpK_alloc wpK_load wpK_store wpK_binOp wpK_unOp wpK_fieldAddr wpK_field wpK_build wpK_indexAddr wpK_slice wpK_len wpK_extract wpK_nilCheck wpK_pick wpK_makeFunc wpK_call wpK_callT wpK_max wpK_min wpK_assignT wpK_moveT wpK_assignB wpK_moveB wpK_assignI wpK_moveI wpK_assignA wpK_moveA callK_fn snapL_nil snapL_cons snap_int snap_bool snap_str snap_tsl snap_agg snap_fn snap_flat adopt_int adopt_bool adopt_str adopt_agg adopt_osl adopt_tsl adopt_tup op1_guard grdK_bool grdK_undef condK_bool someK_some pairK_some nilK_ptr nilK_tptr boxK storeK evalA_tmp evalA_int evalA_bool evalA_agg evalA_fn evalA_nil ofC_int ofC_bool getA_zero getA_succ cells_int cells_agg cells_bool cells_sl cells_tsl cell_int cell_bool cell_str cell_sl cell_esl cell_tsl cell_ptr cell_tptr cell_fn cell_nils cell_nilf List.all_cons List.all_nil Bool.and_true Bool.and_self Bool.true_and putA_some putA_none List.set_cons_zero List.set_cons_succ List.length_cons List.length_nil List.nil_append List.cons_append stabL AV.stab fieldAddrA fieldA List.getElem?_cons_zero List.getElem?_cons_succ Nat.zero_add loadA rowOf Nat.le_refl and_self true_and and_true partA binA unA intBin eqBin eqCells eqCell Option.bind_some decide_true decide_false decide_eq_true_eq ite_not Bool.not_eq_true' decide_eq_false_iff_not Bool.false_eq_true Option.map_some Option.map_none Bool.not_true Bool.not_false buildA fillA patch List.take List.drop List.map_cons List.map_nil extK List.getD_cons_zero List.getD_cons_succ minmaxA minmaxGo adoptZ_false adoptZ_true freeze_int freeze_bool freeze_str freeze_flat freeze_agg freeze_osl freeze_tsl freeze_tup frz1_bool frz1_int frz1_str frz1_agg frz1_osl frz1_tsl bne Bool.false_and Bool.and_false ne_eq not_true_eq_false not_false_eq_true List.append_nil resultsR resultsL resultA expK_int expK_bool expK_str expK_agg expK_own expK_tsl resK_some latK_false latK_true latP_store latP_move latP_assign latP_pick latP_nilCheck latP_makeInterface latP_binOp latP_unOp latP_convert latP_build latP_field latP_fieldAddr latP_indexAddr latP_index latP_slice latP_makeFunc latP_extract latP_call latP_load latP_alloc latP_box latP_buildSlice latP_makeSlice latP_makeMap latP_lookup latP_mapUpdate latP_range latP_next latP_entry nestNo wpK_lookup wpK_range wpK_next wpK_entry wpK_makeMap wpK_mapUpdate cell_mp
set_option maxHeartbeats 4000000
set_option maxRecDepth 20000

theorem talE (k : Int) : EvV CX 56 [.int .i64 k] (· = .bool (alK k)) := by
  refine EvV.walk rfl fn56 rfl nt56 rfl ?_
  simp only [List.length_cons, List.length_nil, List.cons_append, List.nil_append, Nat.reduceAdd, Nat.reduceSub, List.replicate]
  repeat' (first | refine go1 ?_ | refine blockK_else rfl ?_ | (refine go2 fun A B a b => ?_; simp only [go_sem, *]; (repeat' first | apply a.1 | apply b.1 | refine iteI (fun h => ?_) fun h => ?_) <;> clear a b A B))
  all_goals simp only [go_sem]
  all_goals simp [alK, *]
theorem TalE {v : AV} {ts : List Ti} {i : Int} (hv : SLs 4 (ts.map encT) v) (h0 : 0 ≤ i) (h1 : i < ts.length) : EvV CX 39 [v, .int .i64 i] (· = .bool (alK (tierAt ts i).kd)) := by
  have ht : ts[i.toNat]? = some (tierAt ts i) := by
    unfold tierAt
    rw [List.getD_eq_getElem?_getD, List.getElem?_eq_getElem (by omega)]; rfl
  have i0 := idx_sls hv (X := CX) ty25 ty53 rfl (n := i.toNat) (row := encT (tierAt ts i)) (k := .i64) (by rw [List.getElem?_map, ht]; rfl)
  rw [show ((i.toNat : Nat) : Int) = i by omega] at i0
  have q := (talE (tierAt ts i).kd).rw
  generalize tierAt ts i = t at *
  clear ht
  refine EvV.walk rfl fn39 rfl nt39 rfl ?_
  simp only [List.length_cons, List.length_nil, List.cons_append, List.nil_append, Nat.reduceAdd, Nat.reduceSub, List.replicate]
  repeat' (first | refine go1 ?_ | refine blockK_else rfl ?_ | (refine go2 fun A B a b => ?_; simp only [go_sem, *, lenK_sls hv, List.length_map, h0, h1, i0, encT, q]; (repeat' first | apply a.1 | apply b.1 | refine iteI (fun h => ?_) fun h => ?_) <;> clear a b A B))
  all_goals simp only [go_sem]

/-- The notes that are placed, as a value. -/
def noV (done : List Nt) (nb : Nat) : AV := if done = [] then .flat (.slice none 0 0) else .sl nb done.length 0 done.length 7
/-- The map of the notes that are placed. -/
def mapN (done : List Nt) : List (AV × AV) := done.map fun n => (.int .i64 n.id, .agg (encN n))
/-- A place's row. -/
def prow (d : Dc) (v : AV) (mb : Nat) : List AV := [.int .i64 d.id, .str d.nm, .int .i64 d.len, .int .i64 d.day, d.sp, d.tv, v, .mp mb]
theorem find_mapN (done : List Nt) (n : Int) : findA (.int .i64 n) (mapN done) = some ((getN done n).map fun p => .agg (encN p)) := by
  induction done with
  | nil => rfl
  | cons x done ih =>
    rw [getN_cons]
    simp only [mapN, List.map_cons, findA, eqKey, if_true] at ih ⊢
    rw [show (n == x.id) = (x.id == n) by rw [Bool.eq_iff_iff]; simp; exact eq_comm]
    cases h : (x.id == n) with
    | true => simp
    | false => simpa using ih

/-- A place in the store. -/
structure PL (S : Store) (w B Mb nb : Nat) (d : Dc) (done : List Nt) : Prop where
  hB : S[B]? = some (.arr [prow d (noV done nb) Mb] 8 w false)
  hw : w ≤ 1
  hM : S[Mb]? = some (.map (mapN done))
  hN : done ≠ [] → S[nb]? = some (.arr (done.map encN) 7 0 true)
  n1 : B ≠ Mb
  n2 : done ≠ [] → B ≠ nb
  n3 : done ≠ [] → Mb ≠ nb

section
variable {S : Store} {w B Mb nb : Nat} {d : Dc} {done : List Nt} {ts : List Ti} {n : Nt}

/-- What a rule leaves. -/
def RuleOK (S : Store) (B : Nat) (n : Nt) (f : FuncId) : Prop := EvR CX f [.agg [], .ptr B 1 8 0 0, .agg (encN n)] S (fun v S' => v = .int .i64 0 ∧ ∃ G, S' = S ++ G)

theorem rule1 (hp : PL S w B Mb nb d done) (hv : SLs 4 (ts.map encT) d.tv) (h0 : 0 ≤ n.ti) (h1 : n.ti < ts.length) (k1 : (tierAt ts n.ti).kd ≠ 1) (k2 : (tierAt ts n.ti).ro ≠ 3) (k3 : (tierAt ts n.ti).ro ≠ 4) : RuleOK S B n 145 := by
  have ht : ts[n.ti.toNat]? = some (tierAt ts n.ti) := by
    unfold tierAt
    rw [List.getD_eq_getElem?_getD, List.getElem?_eq_getElem (by omega)]; rfl
  have i0 := idx_sls hv (X := CX) ty25 ty53 rfl (n := n.ti.toNat) (row := encT (tierAt ts n.ti)) (k := .i64) (by rw [List.getElem?_map, ht]; rfl)
  rw [show ((n.ti.toNat : Nat) : Int) = n.ti by omega] at i0
  have hB := at_app0 hp.hB
  have hw := hp.hw
  generalize tierAt ts n.ti = t at *
  have k1 : (t.kd == 1) = false := by simpa using k1
  have k2 : (t.ro == 3) = false := by simpa using k2
  have k3 : (t.ro == 4) = false := by simpa using k3
  unfold RuleOK
  clear hp hv h0 h1 ht
  refine EvR.walk rfl fn145 rfl nt145 rfl ?_
  simp only [List.length_cons, List.length_nil, List.cons_append, List.nil_append, Nat.reduceAdd, Nat.reduceSub, List.replicate]
  repeat' (first | refine go1 ?_ | refine blockK_else rfl ?_ | (refine go2 fun A B a b => ?_; simp only [go_sem, *, encN, encT, prow, hB, i0, k1, k2, k3, set_lenAdd, Nat.zero_le, getElem?_len, getElem?_lenAdd, set_len, List.append_assoc, List.length_append, List.length_map, lenK_str, snap_sl, rowsOf_sl, ints_len, ints_take, List.take_length, Bool.true_or]; (repeat' first | apply a.1 | apply b.1 | refine iteI (fun h => ?_) fun h => ?_) <;> clear a b A B))
  all_goals simp only [go_sem]
  all_goals exact ⟨_, rfl⟩

theorem rule2 (hp : PL S w B Mb nb d done) (hl : done.length < 300) : RuleOK S B n 146 := by
  have hB := at_app0 hp.hB
  have hw := hp.hw
  have hk : lenK (CX.ty 26) (noV done nb) = some (.int .i64 (done.length : Int)) := by
    unfold noV
    by_cases h : done = []
    · rw [if_pos h, h]; rfl
    · rw [if_neg h]; rfl
  have k1 : ¬ (300 : Int) ≤ (done.length : Int) := by omega
  simp only [ty26] at hk
  obtain ⟨v, hv⟩ : ∃ v, noV done nb = v := ⟨_, rfl⟩
  rw [hv] at hB hk
  unfold RuleOK
  clear hp hl hv
  refine EvR.walk rfl fn146 rfl nt146 rfl ?_
  simp only [List.length_cons, List.length_nil, List.cons_append, List.nil_append, Nat.reduceAdd, Nat.reduceSub, List.replicate]
  repeat' (first | refine go1 ?_ | refine blockK_else rfl ?_ | (refine go2 fun A B a b => ?_; simp only [go_sem, *, encN, prow, hB, hk, k1, set_lenAdd, Nat.zero_le, getElem?_len, getElem?_lenAdd, set_len, List.append_assoc, List.length_append, List.length_map, lenK_str, snap_sl, rowsOf_sl, ints_len, ints_take, List.take_length, Bool.true_or]; (repeat' first | apply a.1 | apply b.1 | refine iteI (fun h => ?_) fun h => ?_) <;> clear a b A B))
  all_goals simp only [go_sem]
  all_goals exact ⟨_, rfl⟩

theorem rule4 (hp : PL S w B Mb nb d done) (hx : TX n.tx) : RuleOK S B n 148 := by
  have q := (textP hx).rw
  unfold RuleOK
  clear hp hx
  refine EvR.walk rfl fn148 rfl nt148 rfl ?_
  simp only [List.length_cons, List.length_nil, List.cons_append, List.nil_append, Nat.reduceAdd, Nat.reduceSub, List.replicate]
  repeat' (first | refine go1 ?_ | refine blockK_else rfl ?_ | (refine go2 fun A B a b => ?_; simp only [go_sem, *, encN, q, set_lenAdd, Nat.zero_le, getElem?_len, getElem?_lenAdd, set_len, List.append_assoc, List.length_append, List.length_map, lenK_str, snap_sl, rowsOf_sl, ints_len, ints_take, List.take_length, Bool.true_or]; (repeat' first | apply a.1 | apply b.1 | refine iteI (fun h => ?_) fun h => ?_) <;> clear a b A B))
  all_goals simp only [go_sem]
  all_goals exact ⟨_, rfl⟩

theorem rule3 (hp : PL S w B Mb nb d done) (hv : SLs 4 (ts.map encT) d.tv) (h0 : 0 ≤ n.ti) (h1 : n.ti < ts.length) (k1 : (tierAt ts n.ti).kd = 0 → n.pa = 0) (k2 : (tierAt ts n.ti).kd ≠ 0 → ∃ p, getN done n.pa = some p ∧ p.ti = (tierAt ts n.ti).pa) : RuleOK S B n 147 := by
  have ht : ts[n.ti.toNat]? = some (tierAt ts n.ti) := by
    unfold tierAt
    rw [List.getD_eq_getElem?_getD, List.getElem?_eq_getElem (by omega)]; rfl
  have i0 := idx_sls hv (X := CX) ty25 ty53 rfl (n := n.ti.toNat) (row := encT (tierAt ts n.ti)) (k := .i64) (by rw [List.getElem?_map, ht]; rfl)
  rw [show ((n.ti.toNat : Nat) : Int) = n.ti by omega] at i0
  have hB := at_app0 hp.hB
  have hw := hp.hw
  have hM := at_app0 hp.hM
  have hf := find_mapN done n.pa
  generalize tierAt ts n.ti = t at *
  unfold RuleOK
  clear hp hv h0 h1 ht
  cases k0 : (t.kd == 0) with
  | true =>
    have e0 : (n.pa == 0) = true := by simpa using k1 (by simpa using k0)
    clear k1 k2 hf
    refine EvR.walk rfl fn147 rfl nt147 rfl ?_
    simp only [List.length_cons, List.length_nil, List.cons_append, List.nil_append, Nat.reduceAdd, Nat.reduceSub, List.replicate]
    repeat' (first | refine go1 ?_ | refine blockK_else rfl ?_ | (refine go2 fun A B a b => ?_; simp only [go_sem, *, encN, encT, prow, hB, i0, k0, e0, set_lenAdd, Nat.zero_le, getElem?_len, getElem?_lenAdd, set_len, List.append_assoc, List.length_append, List.length_map, lenK_str, snap_sl, rowsOf_sl, ints_len, ints_take, List.take_length, Bool.true_or]; (repeat' first | apply a.1 | apply b.1 | refine iteI (fun h => ?_) fun h => ?_) <;> clear a b A B))
    all_goals simp only [go_sem]
    all_goals exact ⟨_, rfl⟩
  | false =>
    obtain ⟨p, hp, he⟩ := k2 (by simpa using k0)
    rw [hp, Option.map_some] at hf
    have e0 : (p.ti == t.pa) = true := by simpa using he
    have hf2 : Hold (p.ti = t.pa) := ⟨he⟩
    clear k1 k2 hp he
    refine EvR.walk rfl fn147 rfl nt147 rfl ?_
    simp only [List.length_cons, List.length_nil, List.cons_append, List.nil_append, Nat.reduceAdd, Nat.reduceSub, List.replicate]
    repeat' (first | refine go1 ?_ | refine blockK_else rfl ?_ | (refine go2 fun A B a b => ?_; simp only [go_sem, *, encN, encT, prow, hB, hM, i0, k0, e0, hf, lookA, mupK, keyA, unCells, Option.isSome_some, keyIs, set_lenAdd, Nat.zero_le, getElem?_len, getElem?_lenAdd, set_len, List.append_assoc, List.length_append, List.length_map, lenK_str, snap_sl, rowsOf_sl, ints_len, ints_take, List.take_length, Bool.true_or]; (repeat' first | apply a.1 | apply b.1 | refine iteI (fun h => ?_) fun h => ?_) <;> clear a b A B))
    all_goals simp only [go_sem]
    all_goals exact ⟨_, rfl⟩
end

/- Rebuilds: the rules of a place about times. -/
open Go.Proofs
attribute [local go_sem] ty22 ty106 br39 br112 fz114 fz115 lt51 ty107 fz116 ty108
set_option maxHeartbeats 4000000
set_option maxRecDepth 20000
section
variable {S : Store} {w B Mb nb : Nat} {d : Dc} {done : List Nt} {ts : List Ti} {n : Nt}

theorem rule5 (hp : PL S w B Mb nb d done) (hv : SLs 4 (ts.map encT) d.tv) (h0 : 0 ≤ n.ti) (h1 : n.ti < ts.length) (ks : alK (tierAt ts n.ti).kd = true → rgt (n.fr, n.en) = true) (k1 : (tierAt ts n.ti).kd = 0 → n.en ≤ d.len) (k2 : (tierAt ts n.ti).kd ≠ 0 → ∃ p, getN done n.pa = some p ∧ (alK (tierAt ts n.ti).kd = true → p.fr ≤ n.fr ∧ n.en ≤ p.en)) : RuleOK S B n 149 := by
  have ht : ts[n.ti.toNat]? = some (tierAt ts n.ti) := by
    unfold tierAt
    rw [List.getD_eq_getElem?_getD, List.getElem?_eq_getElem (by omega)]; rfl
  have i0 := idx_sls hv (X := CX) ty25 ty53 rfl (n := n.ti.toNat) (row := encT (tierAt ts n.ti)) (k := .i64) (by rw [List.getElem?_map, ht]; rfl)
  rw [show ((n.ti.toNat : Nat) : Int) = n.ti by omega] at i0
  have hB := at_app0 hp.hB
  have hw := hp.hw
  have hM := at_app0 hp.hM
  have hf := find_mapN done n.pa
  have qT := (TalE hv h0 h1).rw
  have qr := (spanRE (n.fr, n.en)).rw
  have c1 := hv.cell
  have s1 := hv.snap
  generalize tierAt ts n.ti = t at *
  unfold RuleOK
  clear hp hv h0 h1 ht
  cases ka : alK t.kd with
  | false =>
    rw [ka] at qT
    clear k1 k2 ks hf
    refine EvR.walk rfl fn149 rfl nt149 rfl ?_
    simp only [List.length_cons, List.length_nil, List.cons_append, List.nil_append, Nat.reduceAdd, Nat.reduceSub, List.replicate]
    repeat' (first | refine go1 ?_ | refine blockK_else rfl ?_ | (refine go2 fun A B a b => ?_; simp only [go_sem, *, encN, encT, prow, hB, i0, s1, qT, set_lenAdd, Nat.zero_le, getElem?_len, getElem?_lenAdd, set_len, List.append_assoc, List.length_append, List.length_map, lenK_str, snap_sl, rowsOf_sl, ints_len, ints_take, List.take_length, Bool.true_or]; (repeat' first | apply a.1 | apply b.1 | refine iteI (fun h => ?_) fun h => ?_) <;> clear a b A B))
    all_goals simp only [go_sem]
    all_goals exact ⟨_, rfl⟩
  | true =>
    rw [ka] at qT
    rw [ks ka] at qr
    have hr := rgt_iff.1 (ks ka)
    simp only at hr
    have f1 : ¬ n.fr < 0 := by omega
    cases k0 : (t.kd == 0) with
    | true =>
      have e0 : ¬ d.len < n.en := by have := k1 (by simpa using k0); omega
      clear k1 k2 hf ks hr
      refine EvR.walk rfl fn149 rfl nt149 rfl ?_
      simp only [List.length_cons, List.length_nil, List.cons_append, List.nil_append, Nat.reduceAdd, Nat.reduceSub, List.replicate]
      repeat' (first | refine go1 ?_ | refine blockK_else rfl ?_ | (refine go2 fun A B a b => ?_; simp only [go_sem, *, encN, encT, prow, hB, i0, s1, qT, qr, k0, e0, f1, set_lenAdd, Nat.zero_le, getElem?_len, getElem?_lenAdd, set_len, List.append_assoc, List.length_append, List.length_map, lenK_str, snap_sl, rowsOf_sl, ints_len, ints_take, List.take_length, Bool.true_or]; (repeat' first | apply a.1 | apply b.1 | refine iteI (fun h => ?_) fun h => ?_) <;> clear a b A B))
      all_goals simp only [go_sem]
      all_goals exact ⟨_, rfl⟩
    | false =>
      obtain ⟨p, hp, he⟩ := k2 (by simpa using k0)
      rw [hp, Option.map_some] at hf
      have he := he ka
      have e1 : ¬ n.fr < p.fr := by omega
      have e2 : ¬ p.en < n.en := by omega
      clear k1 k2 hp he ks hr
      refine EvR.walk rfl fn149 rfl nt149 rfl ?_
      simp only [List.length_cons, List.length_nil, List.cons_append, List.nil_append, Nat.reduceAdd, Nat.reduceSub, List.replicate]
      repeat' (first | refine go1 ?_ | refine blockK_else rfl ?_ | (refine go2 fun A B a b => ?_; simp only [go_sem, *, encN, encT, prow, hB, hM, i0, s1, qT, qr, k0, e1, e2, hf, lookA, mupK, keyA, unCells, Option.isSome_some, keyIs, set_lenAdd, Nat.zero_le, getElem?_len, getElem?_lenAdd, set_len, List.append_assoc, List.length_append, List.length_map, lenK_str, snap_sl, rowsOf_sl, ints_len, ints_take, List.take_length, Bool.true_or]; (repeat' first | apply a.1 | apply b.1 | refine iteI (fun h => ?_) fun h => ?_) <;> clear a b A B))
      all_goals simp only [go_sem]
      all_goals exact ⟨_, rfl⟩

/-- What is read of the notes that are placed. -/
theorem noV_len {done : List Nt} {nb a c : Nat} {b : Bool} {l : List AV} {el : TypeId} : lenK (some ⟨a, b, c, l, .slice el⟩) (noV done nb) = some (.int .i64 (done.length : Int)) := by
  unfold noV
  by_cases h : done = []
  · rw [if_pos h, h]; rfl
  · rw [if_neg h]; rfl
theorem noV_idx {done pre post : List Nt} {x : Nt} {nb : Nat} {k : IntKind} (h : done = pre ++ x :: post) : indexAddrA CX 26 (noV done nb) (.int k (pre.length : Int)) = some (.ptr nb done.length 7 pre.length 0) := by
  have hl : pre.length < done.length := by rw [h]; simp
  have hl2 : (pre.length : Int) < (done.length : Int) := by omega
  unfold noV
  rw [if_neg (by rw [h]; simp)]
  simp [indexAddrA, ty26, ty40, hl2]
theorem noV_row {done pre post : List Nt} {x : Nt} (h : done = pre ++ x :: post) : (done.map encN)[pre.length]? = some (encN x) := by rw [h]; simp
theorem ne_mid {done pre post : List Nt} {x : Nt} (h : done = pre ++ x :: post) : done ≠ [] := by rw [h]; simp

theorem rule6 (hp : PL S w B Mb nb d done) (hv : SLs 4 (ts.map encT) d.tv) (h0 : 0 ≤ n.ti) (h1 : n.ti < ts.length) (hl : done.length < 300) (k1 : alK (tierAt ts n.ti).kd = true → ∀ y ∈ done, y.ti = n.ti → y.pa = n.pa → Apart y n) : RuleOK S B n 150 := by
  have hB := at_app0 hp.hB
  have hw := hp.hw
  have hN := hp.hN
  have qT := (TalE hv h0 h1).rw
  have s1 := hv.snap
  generalize tierAt ts n.ti = t at *
  unfold RuleOK
  clear hp hv h0 h1
  cases ka : alK t.kd with
  | false =>
    rw [ka] at qT
    clear k1 hN
    refine EvR.walk rfl fn150 rfl nt150 rfl ?_
    simp only [List.length_cons, List.length_nil, List.cons_append, List.nil_append, Nat.reduceAdd, Nat.reduceSub, List.replicate]
    repeat' (first | refine go1 ?_ | refine blockK_else rfl ?_ | (refine go2 fun A B a b => ?_; simp only [go_sem, *, encN, encT, prow, hB, s1, qT, set_lenAdd, Nat.zero_le, getElem?_len, getElem?_lenAdd, set_len, List.append_assoc, List.length_append, List.length_map, lenK_str, snap_sl, rowsOf_sl, ints_len, ints_take, List.take_length, Bool.true_or]; (repeat' first | apply a.1 | apply b.1 | refine iteI (fun h => ?_) fun h => ?_) <;> clear a b A B))
    all_goals simp only [go_sem]
    all_goals exact ⟨_, rfl⟩
  | true =>
    rw [ka] at qT
    have k1H : Hold (∀ y ∈ done, y.ti = n.ti → y.pa = n.pa → Apart y n) := ⟨k1 ka⟩
    have hNH : Hold (done ≠ [] → S[nb]? = some (.arr (done.map encN) 7 0 true)) := ⟨hN⟩
    have hlH : Hold (done.length < 300) := ⟨hl⟩
    clear k1 hN hl
    obtain ⟨V, hV⟩ : ∃ V, noV done nb = V := ⟨_, rfl⟩
    have vl : ∀ {a c : Nat} {b : Bool} {l : List AV} {el : TypeId}, lenK (some ⟨a, b, c, l, .slice el⟩) V = some (.int .i64 (done.length : Int)) := fun {a c b l el} => by rw [← hV]; exact noV_len
    have vx : Hold (∀ (pre : List Nt) (x : Nt) (post : List Nt), done = pre ++ x :: post → indexAddrA CX 26 V (.int .i64 (pre.length : Int)) = some (.ptr nb done.length 7 pre.length 0)) := ⟨fun pre x post h => by rw [← hV]; exact noV_idx h⟩
    rw [hV] at hB
    clear hV
    refine EvR.walk rfl fn150 rfl nt150 rfl ?_
    simp only [List.length_cons, List.length_nil, List.cons_append, List.nil_append, Nat.reduceAdd, Nat.reduceSub, List.replicate]
    repeat' (first | refine go1 ?_ | refine blockK_else rfl ?_ | (refine go2 fun A B a b => ?_; simp only [go_sem, *, encN, encT, prow, hB, s1, qT, vl, set_lenAdd, Nat.zero_le, getElem?_len, getElem?_lenAdd, set_len, List.append_assoc, List.length_append, List.length_map, lenK_str, snap_sl, rowsOf_sl, ints_len, ints_take, List.take_length, Bool.true_or]; (repeat' first | apply a.1 | apply b.1 | refine iteI (fun h => ?_) fun h => ?_) <;> clear a b A B))
    refine wpC_each [6, 8, 23, 24, 25, 26, 27, 28, 29, 30, 31, 32, 33, 34, 35, 36, 37, 38, 39, 40, 41, 42, 43, 44, 45, 46, 47, 48, 49, 50, 51, 52, 53, 54, 55, 56] 22 done (fun _ _ => True) ?_ ?_ ?_ ?_
    · trivial
    · ((try simp only [eraseA_cons, eraseA_nil, setL_cons, setL_nil, List.set_cons_zero, List.set_cons_succ]); all_goals (first | rfl | (simp only [len_snoc, ints_len, List.length_map, ]; done) | (simp only [len_snoc, len_mid, ints_len, List.length_map, List.length_append, List.length_cons, List.length_nil, Nat.zero_add, ]; first | done | rfl)))
    · intro g G _
      simp only [garbA_cons, garbA_nil, setL_cons, setL_nil, List.set_cons_zero, List.set_cons_succ]
      repeat' (first | refine go1 ?_ | refine blockK_else rfl ?_ | (refine go2 fun A B a b => ?_; simp only [go_sem, *, Int.lt_irrefl, set_lenAdd, Nat.zero_le, getElem?_len, getElem?_lenAdd, set_len, List.append_assoc, List.length_append, List.length_map, lenK_str, snap_sl, rowsOf_sl, ints_len, ints_take, List.take_length, Bool.true_or]; (repeat' first | apply a.1 | apply b.1 | refine iteI (fun h => ?_) fun h => ?_) <;> clear a b A B))
      simp only [go_sem]
      exact ⟨_, rfl⟩
    · intro g G pre x post hd _
      have hpl : pre.length < done.length := by rw [hd]; simp
      have lt1 : (pre.length : Int) < (done.length : Int) := by omega
      have w1 := wrap_succ (n := pre.length) (by have := hlH.out; omega)
      have i1 := vx.out pre x post hd
      have r1 := noV_row hd
      have q1 := at_app0 (hNH.out (ne_mid hd))
      have hx := k1H.out x (by rw [hd]; simp)
      have hdH : Hold (done = pre ++ x :: post) := ⟨hd⟩
      clear hd
      cases e1 : (x.ti == n.ti) with
      | false =>
        clear hx
        simp only [garbA_cons, garbA_nil, setL_cons, setL_nil, List.set_cons_zero, List.set_cons_succ]
        repeat' (first | refine go1 ?_ | refine blockK_else rfl ?_ | (refine go2 fun A B a b => ?_; simp only [go_sem, *, encN, lt1, w1, i1, r1, q1, hpl, e1, set_lenAdd, Nat.zero_le, getElem?_len, getElem?_lenAdd, set_len, List.append_assoc, List.length_append, List.length_map, lenK_str, snap_sl, rowsOf_sl, ints_len, ints_take, List.take_length, Bool.true_or]; (repeat' first | apply a.1 | apply b.1 | refine iteI (fun h => ?_) fun h => ?_) <;> clear a b A B))
        refine each_next hdH.out trivial ?_ ?_
        · ((try simp only [eraseA_cons, eraseA_nil, setL_cons, setL_nil, List.set_cons_zero, List.set_cons_succ]); all_goals (first | rfl | (simp only [len_snoc, ints_len, List.length_map, ]; done) | (simp only [len_snoc, len_mid, ints_len, List.length_map, List.length_append, List.length_cons, List.length_nil, Nat.zero_add, ]; first | done | rfl)))
        · first | exact ⟨[], (List.append_nil _).symm⟩ | exact ⟨_, rfl⟩ | (simp only [List.append_assoc, List.cons_append, List.nil_append]; exact ⟨_, rfl⟩)
      | true =>
      cases e2 : (x.pa == n.pa) with
      | false =>
        clear hx
        simp only [garbA_cons, garbA_nil, setL_cons, setL_nil, List.set_cons_zero, List.set_cons_succ]
        repeat' (first | refine go1 ?_ | refine blockK_else rfl ?_ | (refine go2 fun A B a b => ?_; simp only [go_sem, *, encN, lt1, w1, i1, r1, q1, hpl, e1, e2, set_lenAdd, Nat.zero_le, getElem?_len, getElem?_lenAdd, set_len, List.append_assoc, List.length_append, List.length_map, lenK_str, snap_sl, rowsOf_sl, ints_len, ints_take, List.take_length, Bool.true_or]; (repeat' first | apply a.1 | apply b.1 | refine iteI (fun h => ?_) fun h => ?_) <;> clear a b A B))
        refine each_next hdH.out trivial ?_ ?_
        · ((try simp only [eraseA_cons, eraseA_nil, setL_cons, setL_nil, List.set_cons_zero, List.set_cons_succ]); all_goals (first | rfl | (simp only [len_snoc, ints_len, List.length_map, ]; done) | (simp only [len_snoc, len_mid, ints_len, List.length_map, List.length_append, List.length_cons, List.length_nil, Nat.zero_add, ]; first | done | rfl)))
        · first | exact ⟨[], (List.append_nil _).symm⟩ | exact ⟨_, rfl⟩ | (simp only [List.append_assoc, List.cons_append, List.nil_append]; exact ⟨_, rfl⟩)
      | true =>
      have hx := hx (by simpa using e1) (by simpa using e2)
      by_cases e3 : x.fr < n.en
      · have e4 : ¬ n.fr < x.en := fun h => hx ⟨e3, h⟩
        clear hx
        simp only [garbA_cons, garbA_nil, setL_cons, setL_nil, List.set_cons_zero, List.set_cons_succ]
        repeat' (first | refine go1 ?_ | refine blockK_else rfl ?_ | (refine go2 fun A B a b => ?_; simp only [go_sem, *, encN, lt1, w1, i1, r1, q1, hpl, e1, e2, e3, e4, set_lenAdd, Nat.zero_le, getElem?_len, getElem?_lenAdd, set_len, List.append_assoc, List.length_append, List.length_map, lenK_str, snap_sl, rowsOf_sl, ints_len, ints_take, List.take_length, Bool.true_or]; (repeat' first | apply a.1 | apply b.1 | refine iteI (fun h => ?_) fun h => ?_) <;> clear a b A B))
        refine each_next hdH.out trivial ?_ ?_
        · ((try simp only [eraseA_cons, eraseA_nil, setL_cons, setL_nil, List.set_cons_zero, List.set_cons_succ]); all_goals (first | rfl | (simp only [len_snoc, ints_len, List.length_map, ]; done) | (simp only [len_snoc, len_mid, ints_len, List.length_map, List.length_append, List.length_cons, List.length_nil, Nat.zero_add, ]; first | done | rfl)))
        · first | exact ⟨[], (List.append_nil _).symm⟩ | exact ⟨_, rfl⟩ | (simp only [List.append_assoc, List.cons_append, List.nil_append]; exact ⟨_, rfl⟩)
      · clear hx
        simp only [garbA_cons, garbA_nil, setL_cons, setL_nil, List.set_cons_zero, List.set_cons_succ]
        repeat' (first | refine go1 ?_ | refine blockK_else rfl ?_ | (refine go2 fun A B a b => ?_; simp only [go_sem, *, encN, lt1, w1, i1, r1, q1, hpl, e1, e2, e3, set_lenAdd, Nat.zero_le, getElem?_len, getElem?_lenAdd, set_len, List.append_assoc, List.length_append, List.length_map, lenK_str, snap_sl, rowsOf_sl, ints_len, ints_take, List.take_length, Bool.true_or]; (repeat' first | apply a.1 | apply b.1 | refine iteI (fun h => ?_) fun h => ?_) <;> clear a b A B))
        refine each_next hdH.out trivial ?_ ?_
        · ((try simp only [eraseA_cons, eraseA_nil, setL_cons, setL_nil, List.set_cons_zero, List.set_cons_succ]); all_goals (first | rfl | (simp only [len_snoc, ints_len, List.length_map, ]; done) | (simp only [len_snoc, len_mid, ints_len, List.length_map, List.length_append, List.length_cons, List.length_nil, Nat.zero_add, ]; first | done | rfl)))
        · first | exact ⟨[], (List.append_nil _).symm⟩ | exact ⟨_, rfl⟩ | (simp only [List.append_assoc, List.cons_append, List.nil_append]; exact ⟨_, rfl⟩)

theorem rule7 (hp : PL S w B Mb nb d done) (hv : SLs 4 (ts.map encT) d.tv) (h0 : 0 ≤ n.ti) (h1 : n.ti < ts.length) (hl : done.length < 300) (k1 : (tierAt ts n.ti).kd = 4 → ∀ y ∈ done, ¬ (y.ti = n.ti ∧ y.pa = n.pa)) : RuleOK S B n 151 := by
  have ht : ts[n.ti.toNat]? = some (tierAt ts n.ti) := by
    unfold tierAt
    rw [List.getD_eq_getElem?_getD, List.getElem?_eq_getElem (by omega)]; rfl
  have i0 := idx_sls hv (X := CX) ty25 ty53 rfl (n := n.ti.toNat) (row := encT (tierAt ts n.ti)) (k := .i64) (by rw [List.getElem?_map, ht]; rfl)
  rw [show ((n.ti.toNat : Nat) : Int) = n.ti by omega] at i0
  have hB := at_app0 hp.hB
  have hw := hp.hw
  have hN := hp.hN
  generalize tierAt ts n.ti = t at *
  unfold RuleOK
  clear hp hv h0 h1 ht
  cases ka : (t.kd == 4) with
  | false =>
    clear k1 hN
    refine EvR.walk rfl fn151 rfl nt151 rfl ?_
    simp only [List.length_cons, List.length_nil, List.cons_append, List.nil_append, Nat.reduceAdd, Nat.reduceSub, List.replicate]
    repeat' (first | refine go1 ?_ | refine blockK_else rfl ?_ | (refine go2 fun A B a b => ?_; simp only [go_sem, *, encN, encT, prow, hB, i0, ka, set_lenAdd, Nat.zero_le, getElem?_len, getElem?_lenAdd, set_len, List.append_assoc, List.length_append, List.length_map, lenK_str, snap_sl, rowsOf_sl, ints_len, ints_take, List.take_length, Bool.true_or]; (repeat' first | apply a.1 | apply b.1 | refine iteI (fun h => ?_) fun h => ?_) <;> clear a b A B))
    all_goals simp only [go_sem]
    all_goals exact ⟨_, rfl⟩
  | true =>
    have k1H : Hold (∀ y ∈ done, ¬ (y.ti = n.ti ∧ y.pa = n.pa)) := ⟨k1 (by simpa using ka)⟩
    have hNH : Hold (done ≠ [] → S[nb]? = some (.arr (done.map encN) 7 0 true)) := ⟨hN⟩
    have hlH : Hold (done.length < 300) := ⟨hl⟩
    clear k1 hN hl
    obtain ⟨V, hV⟩ : ∃ V, noV done nb = V := ⟨_, rfl⟩
    have vl : ∀ {a c : Nat} {b : Bool} {l : List AV} {el : TypeId}, lenK (some ⟨a, b, c, l, .slice el⟩) V = some (.int .i64 (done.length : Int)) := fun {a c b l el} => by rw [← hV]; exact noV_len
    have vx : Hold (∀ (pre : List Nt) (x : Nt) (post : List Nt), done = pre ++ x :: post → indexAddrA CX 26 V (.int .i64 (pre.length : Int)) = some (.ptr nb done.length 7 pre.length 0)) := ⟨fun pre x post h => by rw [← hV]; exact noV_idx h⟩
    rw [hV] at hB
    clear hV
    refine EvR.walk rfl fn151 rfl nt151 rfl ?_
    simp only [List.length_cons, List.length_nil, List.cons_append, List.nil_append, Nat.reduceAdd, Nat.reduceSub, List.replicate]
    repeat' (first | refine go1 ?_ | refine blockK_else rfl ?_ | (refine go2 fun A B a b => ?_; simp only [go_sem, *, encN, encT, prow, hB, i0, ka, vl, set_lenAdd, Nat.zero_le, getElem?_len, getElem?_lenAdd, set_len, List.append_assoc, List.length_append, List.length_map, lenK_str, snap_sl, rowsOf_sl, ints_len, ints_take, List.take_length, Bool.true_or]; (repeat' first | apply a.1 | apply b.1 | refine iteI (fun h => ?_) fun h => ?_) <;> clear a b A B))
    refine wpC_each [6, 8, 25, 26, 27, 28, 29, 30, 31, 32, 33, 34, 35, 36, 37, 38, 39, 40] 24 done (fun _ _ => True) ?_ ?_ ?_ ?_
    · trivial
    · ((try simp only [eraseA_cons, eraseA_nil, setL_cons, setL_nil, List.set_cons_zero, List.set_cons_succ]); all_goals (first | rfl | (simp only [len_snoc, ints_len, List.length_map, ]; done) | (simp only [len_snoc, len_mid, ints_len, List.length_map, List.length_append, List.length_cons, List.length_nil, Nat.zero_add, ]; first | done | rfl)))
    · intro g G _
      simp only [garbA_cons, garbA_nil, setL_cons, setL_nil, List.set_cons_zero, List.set_cons_succ]
      repeat' (first | refine go1 ?_ | refine blockK_else rfl ?_ | (refine go2 fun A B a b => ?_; simp only [go_sem, *, Int.lt_irrefl, set_lenAdd, Nat.zero_le, getElem?_len, getElem?_lenAdd, set_len, List.append_assoc, List.length_append, List.length_map, lenK_str, snap_sl, rowsOf_sl, ints_len, ints_take, List.take_length, Bool.true_or]; (repeat' first | apply a.1 | apply b.1 | refine iteI (fun h => ?_) fun h => ?_) <;> clear a b A B))
      simp only [go_sem]
      exact ⟨_, rfl⟩
    · intro g G pre x post hd _
      have hpl : pre.length < done.length := by rw [hd]; simp
      have lt1 : (pre.length : Int) < (done.length : Int) := by omega
      have w1 := wrap_succ (n := pre.length) (by have := hlH.out; omega)
      have i1 := vx.out pre x post hd
      have r1 := noV_row hd
      have q1 := at_app0 (hNH.out (ne_mid hd))
      have hx := k1H.out x (by rw [hd]; simp)
      have hdH : Hold (done = pre ++ x :: post) := ⟨hd⟩
      clear hd
      cases e1 : (x.ti == n.ti) with
      | false =>
        clear hx
        simp only [garbA_cons, garbA_nil, setL_cons, setL_nil, List.set_cons_zero, List.set_cons_succ]
        repeat' (first | refine go1 ?_ | refine blockK_else rfl ?_ | (refine go2 fun A B a b => ?_; simp only [go_sem, *, encN, lt1, w1, i1, r1, q1, hpl, e1, set_lenAdd, Nat.zero_le, getElem?_len, getElem?_lenAdd, set_len, List.append_assoc, List.length_append, List.length_map, lenK_str, snap_sl, rowsOf_sl, ints_len, ints_take, List.take_length, Bool.true_or]; (repeat' first | apply a.1 | apply b.1 | refine iteI (fun h => ?_) fun h => ?_) <;> clear a b A B))
        refine each_next hdH.out trivial ?_ ?_
        · ((try simp only [eraseA_cons, eraseA_nil, setL_cons, setL_nil, List.set_cons_zero, List.set_cons_succ]); all_goals (first | rfl | (simp only [len_snoc, ints_len, List.length_map, ]; done) | (simp only [len_snoc, len_mid, ints_len, List.length_map, List.length_append, List.length_cons, List.length_nil, Nat.zero_add, ]; first | done | rfl)))
        · first | exact ⟨[], (List.append_nil _).symm⟩ | exact ⟨_, rfl⟩ | (simp only [List.append_assoc, List.cons_append, List.nil_append]; exact ⟨_, rfl⟩)
      | true =>
        have e2 : (x.pa == n.pa) = false := by
          cases h : (x.pa == n.pa) with
          | false => rfl
          | true => exact absurd ⟨by simpa using e1, by simpa using h⟩ hx
        clear hx
        simp only [garbA_cons, garbA_nil, setL_cons, setL_nil, List.set_cons_zero, List.set_cons_succ]
        repeat' (first | refine go1 ?_ | refine blockK_else rfl ?_ | (refine go2 fun A B a b => ?_; simp only [go_sem, *, encN, lt1, w1, i1, r1, q1, hpl, e1, e2, set_lenAdd, Nat.zero_le, getElem?_len, getElem?_lenAdd, set_len, List.append_assoc, List.length_append, List.length_map, lenK_str, snap_sl, rowsOf_sl, ints_len, ints_take, List.take_length, Bool.true_or]; (repeat' first | apply a.1 | apply b.1 | refine iteI (fun h => ?_) fun h => ?_) <;> clear a b A B))
        refine each_next hdH.out trivial ?_ ?_
        · ((try simp only [eraseA_cons, eraseA_nil, setL_cons, setL_nil, List.set_cons_zero, List.set_cons_succ]); all_goals (first | rfl | (simp only [len_snoc, ints_len, List.length_map, ]; done) | (simp only [len_snoc, len_mid, ints_len, List.length_map, List.length_append, List.length_cons, List.length_nil, Nat.zero_add, ]; first | done | rfl)))
        · first | exact ⟨[], (List.append_nil _).symm⟩ | exact ⟨_, rfl⟩ | (simp only [List.append_assoc, List.cons_append, List.nil_append]; exact ⟨_, rfl⟩)
end

/- Rebuilds: why a note has a place, and its place. -/
open Go.Proofs
attribute [local go_sem] ty109 ty111 List.replicate Nat.one_mul Nat.reduceMul Nat.zero_mul bslA fz96 fz97 rowsFill
set_option maxHeartbeats 4000000
set_option maxRecDepth 20000

theorem PL.ext {S : Store} {w B Mb nb : Nat} {d : Dc} {done : List Nt} (h : PL S w B Mb nb d done) (X : Store) : PL (S ++ X) w B Mb nb d done :=
  ⟨at_app0 h.hB X, h.hw, at_app0 h.hM X, fun hd => at_app0 (h.hN hd) X, h.n1, h.n2, h.n3⟩

theorem cells_if {t : TypeId} {x : AV} : (AV.iface t x).cells = [.iface t x] := rfl
theorem cell_if {t : TypeId} {x : AV} : (AV.iface t x).cell = true := rfl
/-- All rules hold. -/
structure Rules (S : Store) (B : Nat) (n : Nt) : Prop where
  r1 : ∀ X, RuleOK (S ++ X) B n 145
  r2 : ∀ X, RuleOK (S ++ X) B n 146
  r3 : ∀ X, RuleOK (S ++ X) B n 147
  r4 : ∀ X, RuleOK (S ++ X) B n 148
  r5 : ∀ X, RuleOK (S ++ X) B n 149
  r6 : ∀ X, RuleOK (S ++ X) B n 150
  r7 : ∀ X, RuleOK (S ++ X) B n 151

def rulesL : List (List AV) := [[.iface 102 (.agg [])], [.iface 103 (.agg [])], [.iface 104 (.agg [])], [.iface 105 (.agg [])], [.iface 106 (.agg [])], [.iface 107 (.agg [])], [.iface 108 (.agg [])]]

theorem whyE {S : Store} {B : Nat} {n : Nt} (h : Rules S B n) : EvR CX 25 [.ptr B 1 8 0 0, .agg (encN n)] S (fun v S' => v = .int .i64 0 ∧ ∃ G, S' = S ++ G) := by
  have hH : Hold (Rules S B n) := ⟨h⟩
  clear h
  refine EvR.walk rfl fn25 rfl nt25 rfl ?_
  simp only [List.length_cons, List.length_nil, List.cons_append, List.nil_append, Nat.reduceAdd, Nat.reduceSub, List.replicate]
  repeat' (first | refine go1 ?_ | refine blockK_else rfl ?_ | (refine go2 fun A B a b => ?_; simp only [go_sem, *, wpK_buildSlice ty109 rfl, encN, wpK_makeInterface, mkIfA, TD.solid, lenK_sl, cells_if, cell_if, set_lenAdd, Nat.zero_le, getElem?_len, getElem?_lenAdd, set_len, List.append_assoc, List.length_append, List.length_map, lenK_str, snap_sl, rowsOf_sl, ints_len, ints_take, List.take_length, Bool.true_or]; (repeat' first | apply a.1 | apply b.1 | refine iteI (fun h => ?_) fun h => ?_) <;> clear a b A B))
  refine wpC_loopF [4, 6, 7, 25, 26, 27, 28, 29, 30, 31, 32, 33, 34, 35] (fun a : Nat => [(24, .int .i64 (a : Int))]) (fun _ G => S ++ .arr [encN n] 7 0 true :: .arr rulesL 1 0 true :: G) (fun a => a ≤ 7) (fun a => 7 - a) 0 (by omega) ?_ ⟨[], rfl⟩ ?_
  · ((try simp only [eraseA_cons, eraseA_nil, setL_cons, setL_nil, List.set_cons_zero, List.set_cons_succ]); all_goals (first | rfl | (simp only [len_snoc, ints_len, List.length_map, ]; done) | (simp only [len_snoc, len_mid, ints_len, List.length_map, List.length_append, List.length_cons, List.length_nil, Nat.zero_add, ]; first | done | rfl)))
  intro i g G hi
  replace hi : i ≤ 7 := hi
  have h8 : i = 7 ∨ i = 0 ∨ i = 1 ∨ i = 2 ∨ i = 3 ∨ i = 4 ∨ i = 5 ∨ i = 6 := by omega
  rcases h8 with rfl | rfl | rfl | rfl | rfl | rfl | rfl | rfl
  · have lt1 : ¬ ((7 : Nat) : Int) < ((7 : Nat) : Int) := by decide
    clear hi
    simp only [garbA_cons, garbA_nil, setL_cons, setL_nil, List.set_cons_zero, List.set_cons_succ]
    repeat' (first | refine go1 ?_ | refine blockK_else rfl ?_ | (refine go2 fun A B a b => ?_; simp only [go_sem, *, wpK_buildSlice ty109 rfl, lt1]; (repeat' first | apply a.1 | apply b.1 | refine iteI (fun h => ?_) fun h => ?_) <;> clear a b A B))
    simp only [go_sem, wpK_buildSlice ty109 rfl]
    exact ⟨_, rfl⟩
  · have lt1 : ((0 : Nat) : Int) < ((7 : Nat) : Int) := by decide
    have w1 : IntKind.wrap .i64 (((0 : Nat) : Int) + 1) = ((1 : Nat) : Int) := wrap_succ (n := 0) (by decide)
    have ix : indexAddrA CX 109 (.sl (S.length + 1) 7 0 7 1) (.int .i64 ((0 : Nat) : Int)) = some (.ptr (S.length + 1) 7 1 0 0) := by simp [indexAddrA, ty109, ty111]
    clear hi
    simp only [garbA_cons, garbA_nil, setL_cons, setL_nil, List.set_cons_zero, List.set_cons_succ]
    repeat' (first | refine go1 ?_ | refine blockK_else rfl ?_ | (refine go2 fun A B a b => ?_; simp only [go_sem, *, wpK_buildSlice ty109 rfl, encN, rulesL, lt1, ix, set_lenAdd, Nat.zero_le, getElem?_len, getElem?_lenAdd, set_len, List.append_assoc, List.length_append, List.length_map, lenK_str, snap_sl, rowsOf_sl, ints_len, ints_take, List.take_length, Bool.true_or]; (repeat' first | apply a.1 | apply b.1 | refine iteI (fun h => ?_) fun h => ?_) <;> clear a b A B))
    refine wpO_cons fun K hK => ?_
    simp only [go_sem, wpK_buildSlice ty109 rfl, wpK_invoke, methF, recvA, mt145, rm0, br145, encN]
    have hC := hH.out.r1 (.arr [encN n] 7 0 true :: .arr rulesL 1 0 true :: G)
    unfold RuleOK at hC
    simp only [encN, rulesL] at hC
    refine EvR.mono hC ?_
    clear hC
    rintro _ _ ⟨rfl, G', rfl⟩
    refine hK.out _ _ ?_
    clear hK K
    repeat' (first | refine go1 ?_ | refine blockK_else rfl ?_ | (refine go2 fun A B a b => ?_; simp only [go_sem, *, wpK_buildSlice ty109 rfl, w1, set_lenAdd, Nat.zero_le, getElem?_len, getElem?_lenAdd, set_len, List.append_assoc, List.length_append, List.length_map, lenK_str, snap_sl, rowsOf_sl, ints_len, ints_take, List.take_length, Bool.true_or]; (repeat' first | apply a.1 | apply b.1 | refine iteI (fun h => ?_) fun h => ?_) <;> clear a b A B))
    refine loopF_next 1 (show 7 - 1 < 7 - 0 by decide) (show 1 ≤ 7 by decide) ?_ ?_
    · ((try simp only [eraseA_cons, eraseA_nil, setL_cons, setL_nil, List.set_cons_zero, List.set_cons_succ]); all_goals (first | rfl | (simp only [len_snoc, ints_len, List.length_map, ]; done) | (simp only [len_snoc, len_mid, ints_len, List.length_map, List.length_append, List.length_cons, List.length_nil, Nat.zero_add, ]; first | done | rfl)))
    · simp only [encN, rulesL, List.append_assoc, List.cons_append]
      exact ⟨_, rfl⟩
  · have lt1 : ((1 : Nat) : Int) < ((7 : Nat) : Int) := by decide
    have w1 : IntKind.wrap .i64 (((1 : Nat) : Int) + 1) = ((2 : Nat) : Int) := wrap_succ (n := 1) (by decide)
    have ix : indexAddrA CX 109 (.sl (S.length + 1) 7 0 7 1) (.int .i64 ((1 : Nat) : Int)) = some (.ptr (S.length + 1) 7 1 1 0) := by simp [indexAddrA, ty109, ty111]
    clear hi
    simp only [garbA_cons, garbA_nil, setL_cons, setL_nil, List.set_cons_zero, List.set_cons_succ]
    repeat' (first | refine go1 ?_ | refine blockK_else rfl ?_ | (refine go2 fun A B a b => ?_; simp only [go_sem, *, wpK_buildSlice ty109 rfl, encN, rulesL, lt1, ix, set_lenAdd, Nat.zero_le, getElem?_len, getElem?_lenAdd, set_len, List.append_assoc, List.length_append, List.length_map, lenK_str, snap_sl, rowsOf_sl, ints_len, ints_take, List.take_length, Bool.true_or]; (repeat' first | apply a.1 | apply b.1 | refine iteI (fun h => ?_) fun h => ?_) <;> clear a b A B))
    refine wpO_cons fun K hK => ?_
    simp only [go_sem, wpK_buildSlice ty109 rfl, wpK_invoke, methF, recvA, mt146, rm0, br146, encN]
    have hC := hH.out.r2 (.arr [encN n] 7 0 true :: .arr rulesL 1 0 true :: G)
    unfold RuleOK at hC
    simp only [encN, rulesL] at hC
    refine EvR.mono hC ?_
    clear hC
    rintro _ _ ⟨rfl, G', rfl⟩
    refine hK.out _ _ ?_
    clear hK K
    repeat' (first | refine go1 ?_ | refine blockK_else rfl ?_ | (refine go2 fun A B a b => ?_; simp only [go_sem, *, wpK_buildSlice ty109 rfl, w1, set_lenAdd, Nat.zero_le, getElem?_len, getElem?_lenAdd, set_len, List.append_assoc, List.length_append, List.length_map, lenK_str, snap_sl, rowsOf_sl, ints_len, ints_take, List.take_length, Bool.true_or]; (repeat' first | apply a.1 | apply b.1 | refine iteI (fun h => ?_) fun h => ?_) <;> clear a b A B))
    refine loopF_next 2 (show 7 - 2 < 7 - 1 by decide) (show 2 ≤ 7 by decide) ?_ ?_
    · ((try simp only [eraseA_cons, eraseA_nil, setL_cons, setL_nil, List.set_cons_zero, List.set_cons_succ]); all_goals (first | rfl | (simp only [len_snoc, ints_len, List.length_map, ]; done) | (simp only [len_snoc, len_mid, ints_len, List.length_map, List.length_append, List.length_cons, List.length_nil, Nat.zero_add, ]; first | done | rfl)))
    · simp only [encN, rulesL, List.append_assoc, List.cons_append]
      exact ⟨_, rfl⟩
  · have lt1 : ((2 : Nat) : Int) < ((7 : Nat) : Int) := by decide
    have w1 : IntKind.wrap .i64 (((2 : Nat) : Int) + 1) = ((3 : Nat) : Int) := wrap_succ (n := 2) (by decide)
    have ix : indexAddrA CX 109 (.sl (S.length + 1) 7 0 7 1) (.int .i64 ((2 : Nat) : Int)) = some (.ptr (S.length + 1) 7 1 2 0) := by simp [indexAddrA, ty109, ty111]
    clear hi
    simp only [garbA_cons, garbA_nil, setL_cons, setL_nil, List.set_cons_zero, List.set_cons_succ]
    repeat' (first | refine go1 ?_ | refine blockK_else rfl ?_ | (refine go2 fun A B a b => ?_; simp only [go_sem, *, wpK_buildSlice ty109 rfl, encN, rulesL, lt1, ix, set_lenAdd, Nat.zero_le, getElem?_len, getElem?_lenAdd, set_len, List.append_assoc, List.length_append, List.length_map, lenK_str, snap_sl, rowsOf_sl, ints_len, ints_take, List.take_length, Bool.true_or]; (repeat' first | apply a.1 | apply b.1 | refine iteI (fun h => ?_) fun h => ?_) <;> clear a b A B))
    refine wpO_cons fun K hK => ?_
    simp only [go_sem, wpK_buildSlice ty109 rfl, wpK_invoke, methF, recvA, mt147, rm0, br147, encN]
    have hC := hH.out.r3 (.arr [encN n] 7 0 true :: .arr rulesL 1 0 true :: G)
    unfold RuleOK at hC
    simp only [encN, rulesL] at hC
    refine EvR.mono hC ?_
    clear hC
    rintro _ _ ⟨rfl, G', rfl⟩
    refine hK.out _ _ ?_
    clear hK K
    repeat' (first | refine go1 ?_ | refine blockK_else rfl ?_ | (refine go2 fun A B a b => ?_; simp only [go_sem, *, wpK_buildSlice ty109 rfl, w1, set_lenAdd, Nat.zero_le, getElem?_len, getElem?_lenAdd, set_len, List.append_assoc, List.length_append, List.length_map, lenK_str, snap_sl, rowsOf_sl, ints_len, ints_take, List.take_length, Bool.true_or]; (repeat' first | apply a.1 | apply b.1 | refine iteI (fun h => ?_) fun h => ?_) <;> clear a b A B))
    refine loopF_next 3 (show 7 - 3 < 7 - 2 by decide) (show 3 ≤ 7 by decide) ?_ ?_
    · ((try simp only [eraseA_cons, eraseA_nil, setL_cons, setL_nil, List.set_cons_zero, List.set_cons_succ]); all_goals (first | rfl | (simp only [len_snoc, ints_len, List.length_map, ]; done) | (simp only [len_snoc, len_mid, ints_len, List.length_map, List.length_append, List.length_cons, List.length_nil, Nat.zero_add, ]; first | done | rfl)))
    · simp only [encN, rulesL, List.append_assoc, List.cons_append]
      exact ⟨_, rfl⟩
  · have lt1 : ((3 : Nat) : Int) < ((7 : Nat) : Int) := by decide
    have w1 : IntKind.wrap .i64 (((3 : Nat) : Int) + 1) = ((4 : Nat) : Int) := wrap_succ (n := 3) (by decide)
    have ix : indexAddrA CX 109 (.sl (S.length + 1) 7 0 7 1) (.int .i64 ((3 : Nat) : Int)) = some (.ptr (S.length + 1) 7 1 3 0) := by simp [indexAddrA, ty109, ty111]
    clear hi
    simp only [garbA_cons, garbA_nil, setL_cons, setL_nil, List.set_cons_zero, List.set_cons_succ]
    repeat' (first | refine go1 ?_ | refine blockK_else rfl ?_ | (refine go2 fun A B a b => ?_; simp only [go_sem, *, wpK_buildSlice ty109 rfl, encN, rulesL, lt1, ix, set_lenAdd, Nat.zero_le, getElem?_len, getElem?_lenAdd, set_len, List.append_assoc, List.length_append, List.length_map, lenK_str, snap_sl, rowsOf_sl, ints_len, ints_take, List.take_length, Bool.true_or]; (repeat' first | apply a.1 | apply b.1 | refine iteI (fun h => ?_) fun h => ?_) <;> clear a b A B))
    refine wpO_cons fun K hK => ?_
    simp only [go_sem, wpK_buildSlice ty109 rfl, wpK_invoke, methF, recvA, mt148, rm0, br148, encN]
    have hC := hH.out.r4 (.arr [encN n] 7 0 true :: .arr rulesL 1 0 true :: G)
    unfold RuleOK at hC
    simp only [encN, rulesL] at hC
    refine EvR.mono hC ?_
    clear hC
    rintro _ _ ⟨rfl, G', rfl⟩
    refine hK.out _ _ ?_
    clear hK K
    repeat' (first | refine go1 ?_ | refine blockK_else rfl ?_ | (refine go2 fun A B a b => ?_; simp only [go_sem, *, wpK_buildSlice ty109 rfl, w1, set_lenAdd, Nat.zero_le, getElem?_len, getElem?_lenAdd, set_len, List.append_assoc, List.length_append, List.length_map, lenK_str, snap_sl, rowsOf_sl, ints_len, ints_take, List.take_length, Bool.true_or]; (repeat' first | apply a.1 | apply b.1 | refine iteI (fun h => ?_) fun h => ?_) <;> clear a b A B))
    refine loopF_next 4 (show 7 - 4 < 7 - 3 by decide) (show 4 ≤ 7 by decide) ?_ ?_
    · ((try simp only [eraseA_cons, eraseA_nil, setL_cons, setL_nil, List.set_cons_zero, List.set_cons_succ]); all_goals (first | rfl | (simp only [len_snoc, ints_len, List.length_map, ]; done) | (simp only [len_snoc, len_mid, ints_len, List.length_map, List.length_append, List.length_cons, List.length_nil, Nat.zero_add, ]; first | done | rfl)))
    · simp only [encN, rulesL, List.append_assoc, List.cons_append]
      exact ⟨_, rfl⟩
  · have lt1 : ((4 : Nat) : Int) < ((7 : Nat) : Int) := by decide
    have w1 : IntKind.wrap .i64 (((4 : Nat) : Int) + 1) = ((5 : Nat) : Int) := wrap_succ (n := 4) (by decide)
    have ix : indexAddrA CX 109 (.sl (S.length + 1) 7 0 7 1) (.int .i64 ((4 : Nat) : Int)) = some (.ptr (S.length + 1) 7 1 4 0) := by simp [indexAddrA, ty109, ty111]
    clear hi
    simp only [garbA_cons, garbA_nil, setL_cons, setL_nil, List.set_cons_zero, List.set_cons_succ]
    repeat' (first | refine go1 ?_ | refine blockK_else rfl ?_ | (refine go2 fun A B a b => ?_; simp only [go_sem, *, wpK_buildSlice ty109 rfl, encN, rulesL, lt1, ix, set_lenAdd, Nat.zero_le, getElem?_len, getElem?_lenAdd, set_len, List.append_assoc, List.length_append, List.length_map, lenK_str, snap_sl, rowsOf_sl, ints_len, ints_take, List.take_length, Bool.true_or]; (repeat' first | apply a.1 | apply b.1 | refine iteI (fun h => ?_) fun h => ?_) <;> clear a b A B))
    refine wpO_cons fun K hK => ?_
    simp only [go_sem, wpK_buildSlice ty109 rfl, wpK_invoke, methF, recvA, mt149, rm0, br149, encN]
    have hC := hH.out.r5 (.arr [encN n] 7 0 true :: .arr rulesL 1 0 true :: G)
    unfold RuleOK at hC
    simp only [encN, rulesL] at hC
    refine EvR.mono hC ?_
    clear hC
    rintro _ _ ⟨rfl, G', rfl⟩
    refine hK.out _ _ ?_
    clear hK K
    repeat' (first | refine go1 ?_ | refine blockK_else rfl ?_ | (refine go2 fun A B a b => ?_; simp only [go_sem, *, wpK_buildSlice ty109 rfl, w1, set_lenAdd, Nat.zero_le, getElem?_len, getElem?_lenAdd, set_len, List.append_assoc, List.length_append, List.length_map, lenK_str, snap_sl, rowsOf_sl, ints_len, ints_take, List.take_length, Bool.true_or]; (repeat' first | apply a.1 | apply b.1 | refine iteI (fun h => ?_) fun h => ?_) <;> clear a b A B))
    refine loopF_next 5 (show 7 - 5 < 7 - 4 by decide) (show 5 ≤ 7 by decide) ?_ ?_
    · ((try simp only [eraseA_cons, eraseA_nil, setL_cons, setL_nil, List.set_cons_zero, List.set_cons_succ]); all_goals (first | rfl | (simp only [len_snoc, ints_len, List.length_map, ]; done) | (simp only [len_snoc, len_mid, ints_len, List.length_map, List.length_append, List.length_cons, List.length_nil, Nat.zero_add, ]; first | done | rfl)))
    · simp only [encN, rulesL, List.append_assoc, List.cons_append]
      exact ⟨_, rfl⟩
  · have lt1 : ((5 : Nat) : Int) < ((7 : Nat) : Int) := by decide
    have w1 : IntKind.wrap .i64 (((5 : Nat) : Int) + 1) = ((6 : Nat) : Int) := wrap_succ (n := 5) (by decide)
    have ix : indexAddrA CX 109 (.sl (S.length + 1) 7 0 7 1) (.int .i64 ((5 : Nat) : Int)) = some (.ptr (S.length + 1) 7 1 5 0) := by simp [indexAddrA, ty109, ty111]
    clear hi
    simp only [garbA_cons, garbA_nil, setL_cons, setL_nil, List.set_cons_zero, List.set_cons_succ]
    repeat' (first | refine go1 ?_ | refine blockK_else rfl ?_ | (refine go2 fun A B a b => ?_; simp only [go_sem, *, wpK_buildSlice ty109 rfl, encN, rulesL, lt1, ix, set_lenAdd, Nat.zero_le, getElem?_len, getElem?_lenAdd, set_len, List.append_assoc, List.length_append, List.length_map, lenK_str, snap_sl, rowsOf_sl, ints_len, ints_take, List.take_length, Bool.true_or]; (repeat' first | apply a.1 | apply b.1 | refine iteI (fun h => ?_) fun h => ?_) <;> clear a b A B))
    refine wpO_cons fun K hK => ?_
    simp only [go_sem, wpK_buildSlice ty109 rfl, wpK_invoke, methF, recvA, mt150, rm0, br150, encN]
    have hC := hH.out.r6 (.arr [encN n] 7 0 true :: .arr rulesL 1 0 true :: G)
    unfold RuleOK at hC
    simp only [encN, rulesL] at hC
    refine EvR.mono hC ?_
    clear hC
    rintro _ _ ⟨rfl, G', rfl⟩
    refine hK.out _ _ ?_
    clear hK K
    repeat' (first | refine go1 ?_ | refine blockK_else rfl ?_ | (refine go2 fun A B a b => ?_; simp only [go_sem, *, wpK_buildSlice ty109 rfl, w1, set_lenAdd, Nat.zero_le, getElem?_len, getElem?_lenAdd, set_len, List.append_assoc, List.length_append, List.length_map, lenK_str, snap_sl, rowsOf_sl, ints_len, ints_take, List.take_length, Bool.true_or]; (repeat' first | apply a.1 | apply b.1 | refine iteI (fun h => ?_) fun h => ?_) <;> clear a b A B))
    refine loopF_next 6 (show 7 - 6 < 7 - 5 by decide) (show 6 ≤ 7 by decide) ?_ ?_
    · ((try simp only [eraseA_cons, eraseA_nil, setL_cons, setL_nil, List.set_cons_zero, List.set_cons_succ]); all_goals (first | rfl | (simp only [len_snoc, ints_len, List.length_map, ]; done) | (simp only [len_snoc, len_mid, ints_len, List.length_map, List.length_append, List.length_cons, List.length_nil, Nat.zero_add, ]; first | done | rfl)))
    · simp only [encN, rulesL, List.append_assoc, List.cons_append]
      exact ⟨_, rfl⟩
  · have lt1 : ((6 : Nat) : Int) < ((7 : Nat) : Int) := by decide
    have w1 : IntKind.wrap .i64 (((6 : Nat) : Int) + 1) = ((7 : Nat) : Int) := wrap_succ (n := 6) (by decide)
    have ix : indexAddrA CX 109 (.sl (S.length + 1) 7 0 7 1) (.int .i64 ((6 : Nat) : Int)) = some (.ptr (S.length + 1) 7 1 6 0) := by simp [indexAddrA, ty109, ty111]
    clear hi
    simp only [garbA_cons, garbA_nil, setL_cons, setL_nil, List.set_cons_zero, List.set_cons_succ]
    repeat' (first | refine go1 ?_ | refine blockK_else rfl ?_ | (refine go2 fun A B a b => ?_; simp only [go_sem, *, wpK_buildSlice ty109 rfl, encN, rulesL, lt1, ix, set_lenAdd, Nat.zero_le, getElem?_len, getElem?_lenAdd, set_len, List.append_assoc, List.length_append, List.length_map, lenK_str, snap_sl, rowsOf_sl, ints_len, ints_take, List.take_length, Bool.true_or]; (repeat' first | apply a.1 | apply b.1 | refine iteI (fun h => ?_) fun h => ?_) <;> clear a b A B))
    refine wpO_cons fun K hK => ?_
    simp only [go_sem, wpK_buildSlice ty109 rfl, wpK_invoke, methF, recvA, mt151, rm0, br151, encN]
    have hC := hH.out.r7 (.arr [encN n] 7 0 true :: .arr rulesL 1 0 true :: G)
    unfold RuleOK at hC
    simp only [encN, rulesL] at hC
    refine EvR.mono hC ?_
    clear hC
    rintro _ _ ⟨rfl, G', rfl⟩
    refine hK.out _ _ ?_
    clear hK K
    repeat' (first | refine go1 ?_ | refine blockK_else rfl ?_ | (refine go2 fun A B a b => ?_; simp only [go_sem, *, wpK_buildSlice ty109 rfl, w1, set_lenAdd, Nat.zero_le, getElem?_len, getElem?_lenAdd, set_len, List.append_assoc, List.length_append, List.length_map, lenK_str, snap_sl, rowsOf_sl, ints_len, ints_take, List.take_length, Bool.true_or]; (repeat' first | apply a.1 | apply b.1 | refine iteI (fun h => ?_) fun h => ?_) <;> clear a b A B))
    refine loopF_next 7 (show 7 - 7 < 7 - 6 by decide) (show 7 ≤ 7 by decide) ?_ ?_
    · ((try simp only [eraseA_cons, eraseA_nil, setL_cons, setL_nil, List.set_cons_zero, List.set_cons_succ]); all_goals (first | rfl | (simp only [len_snoc, ints_len, List.length_map, ]; done) | (simp only [len_snoc, len_mid, ints_len, List.length_map, List.length_append, List.length_cons, List.length_nil, Nat.zero_add, ]; first | done | rfl)))
    · simp only [encN, rulesL, List.append_assoc, List.cons_append]
      exact ⟨_, rfl⟩

/- Rebuilds: a note is placed. -/
open Go.Proofs
attribute [local go_sem] appK fz98 fz99 lenK_esl lenK_nils lenK_sl lenK_tsl lt7 rowsOf_esl rowsOf_nils rowsOf_sl rowsOf_tsl
set_option maxHeartbeats 4000000
set_option maxRecDepth 20000

theorem set_appB {Y X : Store} {b : Nat} {x y : Blk} (h : Y[b]? = some x) : (Y ++ X).set b y = Y.set b y ++ X := by
  rw [List.set_append_left _ _ (List.getElem?_eq_some_iff.1 h).1]
/-- The store of a document under way. -/
def docS (b0 b1 b2 b5 b6 : Blk) (d : Dc) (w y : Nat) (done : List Nt) (Y : Store) : Store :=
  b0 :: b1 :: b2 :: .map (mapN done) :: .arr [prow d (noV done (y + 1 + 1 + 1 + 1 + 1 + 1 + 1)) 3] 8 w false :: b5 :: b6 :: Y
theorem noV_snoc (done : List Nt) (n : Nt) (nb : Nat) : noV (done ++ [n]) nb = .sl nb (done.length + 1) 0 (done.length + 1) 7 := by
  unfold noV; rw [if_neg (by simp)]; simp
theorem upd_mapN {done : List Nt} {n : Nt} (h : getN done n.id = none) : updA (.int .i64 n.id) (.agg (encN n)) (mapN done) = mapN (done ++ [n]) := by
  have hf := find_mapN done n.id
  rw [h, Option.map_none] at hf
  clear h
  induction done with
  | nil => rfl
  | cons x done ih =>
    simp only [mapN, List.map_cons, findA, List.cons_append] at hf ⊢
    simp only [updA]
    cases he : eqKey (.int .i64 n.id) (.int .i64 x.id) with
    | none => rw [he] at hf; cases hf
    | some b =>
      rw [he] at hf
      cases b with
      | true => simp at hf
      | false =>
        simp only [mapN] at ih
        simp only [List.cons.injEq, true_and]
        exact ih hf

/-- What 'put' leaves. -/
def PutOK (b0 b1 b2 b5 b6 : Blk) (d : Dc) (w y : Nat) (done : List Nt) (Y : Store) (n : Nt) : Prop :=
  EvR CX 26 [.ptr 4 1 8 0 0, .agg (encN n)] (docS b0 b1 b2 b5 b6 d w y done Y) (fun v S' => v = .tup [] ∧ ∃ y' Y', Y'[y']? = some (.arr ((done ++ [n]).map encN) 7 0 true) ∧ S' = docS b0 b1 b2 b5 b6 d 1 y' (done ++ [n]) Y')

theorem putE {b0 b1 b2 b5 b6 : Blk} {d : Dc} {w y : Nat} {done : List Nt} {Y : Store} {n : Nt} {ts : List Ti} (hw : w ≤ 1) (hv : SLs 4 (ts.map encT) d.tv) (hc : d.sp.cell = true) (h0 : 0 ≤ n.ti) (h1 : n.ti < ts.length) (hl : done.length < 300)
    (hY : done ≠ [] → Y[y]? = some (.arr (done.map encN) 7 0 true)) (hid : getN done n.id = none)
    (ka : alK (tierAt ts n.ti).kd = false → n.fr = 0 ∧ n.en = 0) (kr : (tierAt ts n.ti).kd ≠ 3 → n.rk = 0) : PutOK b0 b1 b2 b5 b6 d w y done Y n := by
  have ht : ts[n.ti.toNat]? = some (tierAt ts n.ti) := by
    unfold tierAt
    rw [List.getD_eq_getElem?_getD, List.getElem?_eq_getElem (by omega)]; rfl
  have i0 := idx_sls hv (X := CX) ty25 ty53 rfl (n := n.ti.toNat) (row := encT (tierAt ts n.ti)) (k := .i64) (by rw [List.getElem?_map, ht]; rfl)
  rw [show ((n.ti.toNat : Nat) : Int) = n.ti by omega] at i0
  have qT := (TalE hv h0 h1).rw
  have s1 := hv.snap
  have c1 := hv.cell
  have hu := upd_mapN hid
  have hf := find_mapN done n.id
  rw [hid, Option.map_none] at hf
  generalize tierAt ts n.ti = t at *
  have b1' : (done.length + 1) * 64 ≤ 140737488355328 := by omega
  have b2' : done.length + 1 ≤ 140737488355328 := by omega
  obtain ⟨id, ti, pa, fr, en, rk, tx⟩ := n
  simp only at ka kr hu hf i0 qT
  have hvs : ∀ nb, noV (done ++ [⟨id, ti, pa, fr, en, rk, tx⟩]) nb = .sl nb (done.length + 1) 0 (done.length + 1) 7 := fun nb => noV_snoc _ _ nb
  have hYH : Hold (done ≠ [] → Y[y]? = some (.arr (done.map encN) 7 0 true)) := ⟨hY⟩
  have huH : Hold (updA (.int .i64 id) (.agg (encN ⟨id, ti, pa, fr, en, rk, tx⟩)) (mapN done) = mapN (done ++ [⟨id, ti, pa, fr, en, rk, tx⟩])) := ⟨hu⟩
  have hvH : Hold (∀ nb, noV (done ++ [⟨id, ti, pa, fr, en, rk, tx⟩]) nb = .sl nb (done.length + 1) 0 (done.length + 1) 7) := ⟨hvs⟩
  unfold PutOK
  clear hv h0 h1 ht hid hY hu hvs hl
  cases kA : alK t.kd with
  | true =>
    rw [kA] at qT
    cases k3 : (t.kd == 3) with
    | true =>
      by_cases hd : done = []
      · skip
        clear ka
        clear kr
        have hu := huH.out
        simp only [encN] at hu
        obtain rfl : done = [] := hd
        have hnv : noV [] (y + 1 + 1 + 1 + 1 + 1 + 1 + 1) = .flat (.slice none 0 0) := rfl
        have hvs := hvH.out
        simp only [List.nil_append, List.length_nil, Nat.zero_add] at hu hvs b1' b2'
        clear hYH huH hvH
        simp only [docS]
        refine EvR.walk rfl fn26 rfl nt26 rfl ?_
        simp only [List.length_cons, List.length_nil, List.cons_append, List.nil_append, Nat.reduceAdd, Nat.reduceSub, List.replicate]
        repeat' (first | refine go1 ?_ | refine blockK_else rfl ?_ | (refine go2 fun A B a b => ?_; simp only [go_sem, *, wpK_append ty26 rfl, wpK_buildSlice ty26 rfl, encN, encT, prow, hnv, i0, qT, kA, k3, s1, c1, hc, hu, hf, hw, b1', b2', findA, updA, lookA, mupK, keyA, unCells, Option.isSome_some, keyIs, set_lenAdd, Nat.zero_le, getElem?_len, getElem?_lenAdd, set_len, List.append_assoc, List.length_append, List.length_map, lenK_str, snap_sl, ints_len, ints_take, List.take_length, Bool.true_or]; (repeat' first | apply a.1 | apply b.1 | refine iteI (fun h => ?_) fun h => ?_) <;> clear a b A B))
        simp only [go_sem, wpK_append ty26 rfl, wpK_buildSlice ty26 rfl]
        refine ⟨_, _, ?_, rfl⟩
        rw [getElem?_lenAdd]; rfl
      · skip
        clear ka
        clear kr
        have hu := huH.out
        simp only [encN] at hu
        have hY := hYH.out hd
        have hnv : noV done (y + 1 + 1 + 1 + 1 + 1 + 1 + 1) = .sl (y + 1 + 1 + 1 + 1 + 1 + 1 + 1) done.length 0 done.length 7 := if_neg hd
        have hq := at_app0 hY
        have hvs := hvH.out
        have hs := fun X y1 => set_appB (X := X) (y := y1) hY
        have hYk : Hold (∀ y1 X, (Y.set y y1 ++ X)[y]? = some y1) := ⟨Fo.at_set hY⟩
        have hv2 : Hold (∀ nb, noV (done ++ [⟨id, ti, pa, fr, en, rk, tx⟩]) nb = .sl nb (done.length + 1) 0 (done.length + 1) 7) := ⟨hvs⟩
        clear hYH huH hvH hY hd hvs
        simp only [docS]
        refine EvR.walk rfl fn26 rfl nt26 rfl ?_
        simp only [List.length_cons, List.length_nil, List.cons_append, List.nil_append, Nat.reduceAdd, Nat.reduceSub, List.replicate]
        repeat' (first | refine go1 ?_ | refine blockK_else rfl ?_ | (refine go2 fun A B a b => ?_; simp only [go_sem, *, wpK_append ty26 rfl, wpK_buildSlice ty26 rfl, encN, encT, prow, hnv, i0, qT, kA, k3, s1, c1, hc, hu, hf, hw, hq, hs, b1', b2', Fo.at_new, Fo.at_newK, lookA, mupK, keyA, unCells, Option.isSome_some, keyIs, set_lenAdd, Nat.zero_le, getElem?_len, getElem?_lenAdd, set_len, List.append_assoc, List.length_append, List.length_map, lenK_str, snap_sl, ints_len, ints_take, List.take_length, Bool.true_or]; (repeat' first | apply a.1 | apply b.1 | refine iteI (fun h => ?_) fun h => ?_) <;> clear a b A B))
        simp only [go_sem, wpK_append ty26 rfl, wpK_buildSlice ty26 rfl]
        refine ⟨y, Y.set y (.arr ((done ++ [(⟨id, ti, pa, fr, en, rk, tx⟩ : Nt)]).map encN) 7 0 true) ++ [.arr [encN ⟨id, ti, pa, fr, en, rk, tx⟩] 7 0 true, .arr [encN ⟨id, ti, pa, fr, en, rk, tx⟩] 7 0 true], hYk.out _ _, ?_⟩
        simp only [docS, prow, hv2.out, List.map_append]; rfl
    | false =>
      by_cases hd : done = []
      · skip
        clear ka
        obtain rfl := kr (by simpa using k3)
        have hu := huH.out
        simp only [encN] at hu
        obtain rfl : done = [] := hd
        have hnv : noV [] (y + 1 + 1 + 1 + 1 + 1 + 1 + 1) = .flat (.slice none 0 0) := rfl
        have hvs := hvH.out
        simp only [List.nil_append, List.length_nil, Nat.zero_add] at hu hvs b1' b2'
        clear hYH huH hvH
        simp only [docS]
        refine EvR.walk rfl fn26 rfl nt26 rfl ?_
        simp only [List.length_cons, List.length_nil, List.cons_append, List.nil_append, Nat.reduceAdd, Nat.reduceSub, List.replicate]
        repeat' (first | refine go1 ?_ | refine blockK_else rfl ?_ | (refine go2 fun A B a b => ?_; simp only [go_sem, *, wpK_append ty26 rfl, wpK_buildSlice ty26 rfl, encN, encT, prow, hnv, i0, qT, kA, k3, s1, c1, hc, hu, hf, hw, b1', b2', findA, updA, lookA, mupK, keyA, unCells, Option.isSome_some, keyIs, set_lenAdd, Nat.zero_le, getElem?_len, getElem?_lenAdd, set_len, List.append_assoc, List.length_append, List.length_map, lenK_str, snap_sl, ints_len, ints_take, List.take_length, Bool.true_or]; (repeat' first | apply a.1 | apply b.1 | refine iteI (fun h => ?_) fun h => ?_) <;> clear a b A B))
        simp only [go_sem, wpK_append ty26 rfl, wpK_buildSlice ty26 rfl]
        refine ⟨_, _, ?_, rfl⟩
        rw [getElem?_lenAdd]; rfl
      · skip
        clear ka
        obtain rfl := kr (by simpa using k3)
        have hu := huH.out
        simp only [encN] at hu
        have hY := hYH.out hd
        have hnv : noV done (y + 1 + 1 + 1 + 1 + 1 + 1 + 1) = .sl (y + 1 + 1 + 1 + 1 + 1 + 1 + 1) done.length 0 done.length 7 := if_neg hd
        have hq := at_app0 hY
        have hvs := hvH.out
        have hs := fun X y1 => set_appB (X := X) (y := y1) hY
        have hYk : Hold (∀ y1 X, (Y.set y y1 ++ X)[y]? = some y1) := ⟨Fo.at_set hY⟩
        have hv2 : Hold (∀ nb, noV (done ++ [⟨id, ti, pa, fr, en, 0, tx⟩]) nb = .sl nb (done.length + 1) 0 (done.length + 1) 7) := ⟨hvs⟩
        clear hYH huH hvH hY hd hvs
        simp only [docS]
        refine EvR.walk rfl fn26 rfl nt26 rfl ?_
        simp only [List.length_cons, List.length_nil, List.cons_append, List.nil_append, Nat.reduceAdd, Nat.reduceSub, List.replicate]
        repeat' (first | refine go1 ?_ | refine blockK_else rfl ?_ | (refine go2 fun A B a b => ?_; simp only [go_sem, *, wpK_append ty26 rfl, wpK_buildSlice ty26 rfl, encN, encT, prow, hnv, i0, qT, kA, k3, s1, c1, hc, hu, hf, hw, hq, hs, b1', b2', Fo.at_new, Fo.at_newK, lookA, mupK, keyA, unCells, Option.isSome_some, keyIs, set_lenAdd, Nat.zero_le, getElem?_len, getElem?_lenAdd, set_len, List.append_assoc, List.length_append, List.length_map, lenK_str, snap_sl, ints_len, ints_take, List.take_length, Bool.true_or]; (repeat' first | apply a.1 | apply b.1 | refine iteI (fun h => ?_) fun h => ?_) <;> clear a b A B))
        simp only [go_sem, wpK_append ty26 rfl, wpK_buildSlice ty26 rfl]
        refine ⟨y, Y.set y (.arr ((done ++ [(⟨id, ti, pa, fr, en, 0, tx⟩ : Nt)]).map encN) 7 0 true) ++ [.arr [encN ⟨id, ti, pa, fr, en, 0, tx⟩] 7 1 true, .arr [encN ⟨id, ti, pa, fr, en, 0, tx⟩] 7 0 true], hYk.out _ _, ?_⟩
        simp only [docS, prow, hv2.out, List.map_append]; rfl
  | false =>
    rw [kA] at qT
    cases k3 : (t.kd == 3) with
    | true =>
      by_cases hd : done = []
      · skip
        obtain ⟨rfl, rfl⟩ := ka kA
        clear kr
        have hu := huH.out
        simp only [encN] at hu
        obtain rfl : done = [] := hd
        have hnv : noV [] (y + 1 + 1 + 1 + 1 + 1 + 1 + 1) = .flat (.slice none 0 0) := rfl
        have hvs := hvH.out
        simp only [List.nil_append, List.length_nil, Nat.zero_add] at hu hvs b1' b2'
        clear hYH huH hvH
        simp only [docS]
        refine EvR.walk rfl fn26 rfl nt26 rfl ?_
        simp only [List.length_cons, List.length_nil, List.cons_append, List.nil_append, Nat.reduceAdd, Nat.reduceSub, List.replicate]
        repeat' (first | refine go1 ?_ | refine blockK_else rfl ?_ | (refine go2 fun A B a b => ?_; simp only [go_sem, *, wpK_append ty26 rfl, wpK_buildSlice ty26 rfl, encN, encT, prow, hnv, i0, qT, kA, k3, s1, c1, hc, hu, hf, hw, b1', b2', findA, updA, lookA, mupK, keyA, unCells, Option.isSome_some, keyIs, set_lenAdd, Nat.zero_le, getElem?_len, getElem?_lenAdd, set_len, List.append_assoc, List.length_append, List.length_map, lenK_str, snap_sl, ints_len, ints_take, List.take_length, Bool.true_or]; (repeat' first | apply a.1 | apply b.1 | refine iteI (fun h => ?_) fun h => ?_) <;> clear a b A B))
        simp only [go_sem, wpK_append ty26 rfl, wpK_buildSlice ty26 rfl]
        refine ⟨_, _, ?_, rfl⟩
        rw [getElem?_lenAdd]; rfl
      · skip
        obtain ⟨rfl, rfl⟩ := ka kA
        clear kr
        have hu := huH.out
        simp only [encN] at hu
        have hY := hYH.out hd
        have hnv : noV done (y + 1 + 1 + 1 + 1 + 1 + 1 + 1) = .sl (y + 1 + 1 + 1 + 1 + 1 + 1 + 1) done.length 0 done.length 7 := if_neg hd
        have hq := at_app0 hY
        have hvs := hvH.out
        have hs := fun X y1 => set_appB (X := X) (y := y1) hY
        have hYk : Hold (∀ y1 X, (Y.set y y1 ++ X)[y]? = some y1) := ⟨Fo.at_set hY⟩
        have hv2 : Hold (∀ nb, noV (done ++ [⟨id, ti, pa, 0, 0, rk, tx⟩]) nb = .sl nb (done.length + 1) 0 (done.length + 1) 7) := ⟨hvs⟩
        clear hYH huH hvH hY hd hvs
        simp only [docS]
        refine EvR.walk rfl fn26 rfl nt26 rfl ?_
        simp only [List.length_cons, List.length_nil, List.cons_append, List.nil_append, Nat.reduceAdd, Nat.reduceSub, List.replicate]
        repeat' (first | refine go1 ?_ | refine blockK_else rfl ?_ | (refine go2 fun A B a b => ?_; simp only [go_sem, *, wpK_append ty26 rfl, wpK_buildSlice ty26 rfl, encN, encT, prow, hnv, i0, qT, kA, k3, s1, c1, hc, hu, hf, hw, hq, hs, b1', b2', Fo.at_new, Fo.at_newK, lookA, mupK, keyA, unCells, Option.isSome_some, keyIs, set_lenAdd, Nat.zero_le, getElem?_len, getElem?_lenAdd, set_len, List.append_assoc, List.length_append, List.length_map, lenK_str, snap_sl, ints_len, ints_take, List.take_length, Bool.true_or]; (repeat' first | apply a.1 | apply b.1 | refine iteI (fun h => ?_) fun h => ?_) <;> clear a b A B))
        simp only [go_sem, wpK_append ty26 rfl, wpK_buildSlice ty26 rfl]
        refine ⟨y, Y.set y (.arr ((done ++ [(⟨id, ti, pa, 0, 0, rk, tx⟩ : Nt)]).map encN) 7 0 true) ++ [.arr [encN ⟨id, ti, pa, 0, 0, rk, tx⟩] 7 1 true, .arr [encN ⟨id, ti, pa, 0, 0, rk, tx⟩] 7 0 true], hYk.out _ _, ?_⟩
        simp only [docS, prow, hv2.out, List.map_append]; rfl
    | false =>
      by_cases hd : done = []
      · skip
        obtain ⟨rfl, rfl⟩ := ka kA
        obtain rfl := kr (by simpa using k3)
        have hu := huH.out
        simp only [encN] at hu
        obtain rfl : done = [] := hd
        have hnv : noV [] (y + 1 + 1 + 1 + 1 + 1 + 1 + 1) = .flat (.slice none 0 0) := rfl
        have hvs := hvH.out
        simp only [List.nil_append, List.length_nil, Nat.zero_add] at hu hvs b1' b2'
        clear hYH huH hvH
        simp only [docS]
        refine EvR.walk rfl fn26 rfl nt26 rfl ?_
        simp only [List.length_cons, List.length_nil, List.cons_append, List.nil_append, Nat.reduceAdd, Nat.reduceSub, List.replicate]
        repeat' (first | refine go1 ?_ | refine blockK_else rfl ?_ | (refine go2 fun A B a b => ?_; simp only [go_sem, *, wpK_append ty26 rfl, wpK_buildSlice ty26 rfl, encN, encT, prow, hnv, i0, qT, kA, k3, s1, c1, hc, hu, hf, hw, b1', b2', findA, updA, lookA, mupK, keyA, unCells, Option.isSome_some, keyIs, set_lenAdd, Nat.zero_le, getElem?_len, getElem?_lenAdd, set_len, List.append_assoc, List.length_append, List.length_map, lenK_str, snap_sl, ints_len, ints_take, List.take_length, Bool.true_or]; (repeat' first | apply a.1 | apply b.1 | refine iteI (fun h => ?_) fun h => ?_) <;> clear a b A B))
        simp only [go_sem, wpK_append ty26 rfl, wpK_buildSlice ty26 rfl]
        refine ⟨_, _, ?_, rfl⟩
        rw [getElem?_lenAdd]; rfl
      · skip
        obtain ⟨rfl, rfl⟩ := ka kA
        obtain rfl := kr (by simpa using k3)
        have hu := huH.out
        simp only [encN] at hu
        have hY := hYH.out hd
        have hnv : noV done (y + 1 + 1 + 1 + 1 + 1 + 1 + 1) = .sl (y + 1 + 1 + 1 + 1 + 1 + 1 + 1) done.length 0 done.length 7 := if_neg hd
        have hq := at_app0 hY
        have hvs := hvH.out
        have hs := fun X y1 => set_appB (X := X) (y := y1) hY
        have hYk : Hold (∀ y1 X, (Y.set y y1 ++ X)[y]? = some y1) := ⟨Fo.at_set hY⟩
        have hv2 : Hold (∀ nb, noV (done ++ [⟨id, ti, pa, 0, 0, 0, tx⟩]) nb = .sl nb (done.length + 1) 0 (done.length + 1) 7) := ⟨hvs⟩
        clear hYH huH hvH hY hd hvs
        simp only [docS]
        refine EvR.walk rfl fn26 rfl nt26 rfl ?_
        simp only [List.length_cons, List.length_nil, List.cons_append, List.nil_append, Nat.reduceAdd, Nat.reduceSub, List.replicate]
        repeat' (first | refine go1 ?_ | refine blockK_else rfl ?_ | (refine go2 fun A B a b => ?_; simp only [go_sem, *, wpK_append ty26 rfl, wpK_buildSlice ty26 rfl, encN, encT, prow, hnv, i0, qT, kA, k3, s1, c1, hc, hu, hf, hw, hq, hs, b1', b2', Fo.at_new, Fo.at_newK, lookA, mupK, keyA, unCells, Option.isSome_some, keyIs, set_lenAdd, Nat.zero_le, getElem?_len, getElem?_lenAdd, set_len, List.append_assoc, List.length_append, List.length_map, lenK_str, snap_sl, ints_len, ints_take, List.take_length, Bool.true_or]; (repeat' first | apply a.1 | apply b.1 | refine iteI (fun h => ?_) fun h => ?_) <;> clear a b A B))
        simp only [go_sem, wpK_append ty26 rfl, wpK_buildSlice ty26 rfl]
        refine ⟨y, Y.set y (.arr ((done ++ [(⟨id, ti, pa, 0, 0, 0, tx⟩ : Nt)]).map encN) 7 0 true) ++ [.arr [encN ⟨id, ti, pa, 0, 0, 0, tx⟩] 7 1 true, .arr [encN ⟨id, ti, pa, 0, 0, 0, tx⟩] 7 0 true], hYk.out _ _, ?_⟩
        simp only [docS, prow, hv2.out, List.map_append]; rfl

/- Rebuilds: the notes by their Ids, with their ranks. -/
open Go.Proofs
attribute [local go_sem] fz100 lt8 nilsK
set_option maxHeartbeats 4000000
set_option maxRecDepth 20000

/-- A place's row, as a callee sees it. -/
def rrow (d : Dc) (v : AV) : List AV := [.int .i64 d.id, .str d.nm, .int .i64 d.len, .int .i64 d.day, d.sp, d.tv, v, .junk]
theorem set_self {ms : List Nt} {i : Nat} {m : Nt} (h : ms[i]? = some m) : (ms.map encN).set i (encN m) = ms.map encN := by
  rw [← List.map_set]
  congr 1
  apply List.ext_getElem?
  intro j
  by_cases hj : i = j
  · subst hj
    rw [List.getElem?_set_self (List.getElem?_eq_some_iff.1 h).1, h]
  · rw [List.getElem?_set_ne hj]
theorem idxN {b e len j : Nat} {k : IntKind} (h : j < len) : indexAddrA CX 26 (.sl b e 0 len 7) (.int k j) = some (.ptr b e 7 j 0) := by
  have : (j : Int) < len := by omega
  simp [indexAddrA, ty26, ty40, this]
theorem befN_cnt (m : Nt) (pre : List Nt) (x : Nt) : (pre ++ [x]).countP (befN m) = pre.countP (befN m) + if befN m x = true then 1 else 0 := by
  rw [List.countP_append, List.countP_singleton]

theorem rankedRE {d : Dc} {V : AV} {ts : List Ti} {ms : List Nt} (hV : SLs 7 (ms.map encN) V) (hv : SLs 4 (ts.map encT) d.tv) (hc : d.sp.cell = true) (hl : ms.length ≤ 14)
    (hti : ∀ m ∈ ms, 0 ≤ m.ti ∧ m.ti < ts.length) (hrk : ∀ m ∈ ms, (tierAt ts m.ti).kd = 3 → ((ms.countP (befN m) : Nat) : Int) = m.rk) (hid : ∀ i m, ms[i]? = some m → m.id = idOf i) :
    EvV CX 27 [.tptr false (rrow d V) 0] (· = .osl 7 (ms.map encN)) := by
  have hr := fun S => hV.rowsOf S
  have c1 := hV.cell
  have c2 := hv.cell
  have b1 : ms.length * 64 ≤ 140737488355328 := by omega
  have b2 : ms.length ≤ 140737488355328 := by omega
  have hlH : Hold (ms.length ≤ 14) := ⟨hl⟩
  have htiH : Hold (∀ m ∈ ms, 0 ≤ m.ti ∧ m.ti < ts.length) := ⟨hti⟩
  have hrkH : Hold (∀ m ∈ ms, (tierAt ts m.ti).kd = 3 → ((ms.countP (befN m) : Nat) : Int) = m.rk) := ⟨hrk⟩
  have hidH : Hold (∀ i m, ms[i]? = some m → m.id = idOf i) := ⟨hid⟩
  have hvV : ∀ {a c : Nat} {b : Bool} {l : List AV} {el : TypeId}, lenK (some ⟨a, b, c, l, .slice el⟩) V = some (.int .i64 (ms.length : Int)) := fun {a c b l el} => by rw [lenK_sls hV, List.length_map]
  clear hl hti hrk hid
  by_cases hm0 : ms = []
  · subst hm0
    have l0 : (([] : List Nt).map encN) = [] := rfl
    rw [l0] at hr
    refine EvV.walk rfl fn27 rfl nt27 rfl ?_
    simp only [List.length_cons, List.length_nil, List.cons_append, List.nil_append, Nat.reduceAdd, Nat.reduceSub, List.replicate]
    repeat' (first | refine go1 ?_ | refine blockK_else rfl ?_ | (refine go2 fun A B a b => ?_; simp only [go_sem, *, wpK_append ty26 rfl, wpK_assignN ty26 rfl, wpK_buildSlice ty26 rfl, rrow, hr, set_lenAdd, Nat.zero_le, getElem?_len, getElem?_lenAdd, set_len, List.append_assoc, List.length_append, List.length_map, lenK_str, snap_sl, ints_len, ints_take, List.take_length, Bool.true_or]; (repeat' first | apply a.1 | apply b.1 | refine iteI (fun h => ?_) fun h => ?_) <;> clear a b A B))
    refine wpC_each [4, 5, 7, 19, 20, 21, 22, 23, 24, 25, 26, 27, 28, 29, 30, 31, 32, 33, 34, 35, 36, 37, 38, 39, 40, 41, 42, 43, 44, 45, 46, 47, 48, 49, 50, 51, 52, 53, 54, 55, 56, 57, 58, 59, 60, 61, 62, 63, 64, 65, 66, 67, 68, 69, 70, 71, 72, 73, 74, 75, 76, 77, 78, 79, 80, 81, 82, 83, 84, 85, 86, 87, 88, 89, 90, 91, 92, 93, 94, 95, 96, 97, 98, 99, 100, 101, 102, 103, 104, 105] 18 ([] : List Nat) (fun _ _ => True) ?_ ?_ ?_ ?_
    · trivial
    · ((try simp only [eraseA_cons, eraseA_nil, setL_cons, setL_nil, List.set_cons_zero, List.set_cons_succ]); all_goals (first | rfl | (simp only [len_snoc, ints_len, List.length_map, ]; done) | (simp only [len_snoc, len_mid, ints_len, List.length_map, List.length_append, List.length_cons, List.length_nil, Nat.zero_add, ]; first | done | rfl)))
    rotate_left
    · intro g G pre x post h1 _
      simp at h1
    intro g G _
    simp only [garbA_cons, garbA_nil, setL_cons, setL_nil, List.set_cons_zero, List.set_cons_succ]
    repeat' (first | refine go1 ?_ | refine blockK_else rfl ?_ | (refine go2 fun A B a b => ?_; simp only [go_sem, *, wpK_append ty26 rfl, wpK_assignN ty26 rfl, wpK_buildSlice ty26 rfl, Int.lt_irrefl, set_lenAdd, Nat.zero_le, getElem?_len, getElem?_lenAdd, set_len, List.append_assoc, List.length_append, List.length_map, lenK_str, snap_sl, ints_len, ints_take, List.take_length, Bool.true_or]; (repeat' first | apply a.1 | apply b.1 | refine iteI (fun h => ?_) fun h => ?_) <;> clear a b A B))
    refine wpC_each [8, 9, 109, 110, 111, 112, 113, 114, 115, 116, 117, 118, 119, 120, 121, 122, 123, 124, 125, 126, 127, 128, 129, 130, 131, 132, 133, 134, 135, 136, 137, 138, 139, 140, 141, 142, 143, 144, 145, 146] 108 ([] : List Nat) (fun _ _ => True) ?_ ?_ ?_ ?_
    · trivial
    · ((try simp only [eraseA_cons, eraseA_nil, setL_cons, setL_nil, List.set_cons_zero, List.set_cons_succ]); all_goals (first | rfl | (simp only [len_snoc, ints_len, List.length_map, ]; done) | (simp only [len_snoc, len_mid, ints_len, List.length_map, List.length_append, List.length_cons, List.length_nil, Nat.zero_add, ]; first | done | rfl)))
    rotate_left
    · intro g G pre x post h1 _
      simp at h1
    intro g2 G2 _
    simp only [garbA_cons, garbA_nil, setL_cons, setL_nil, List.set_cons_zero, List.set_cons_succ]
    repeat' (first | refine go1 ?_ | refine blockK_else rfl ?_ | (refine go2 fun A B a b => ?_; simp only [go_sem, *, wpK_append ty26 rfl, wpK_assignN ty26 rfl, wpK_buildSlice ty26 rfl, Int.lt_irrefl, set_lenAdd, Nat.zero_le, getElem?_len, getElem?_lenAdd, set_len, List.append_assoc, List.length_append, List.length_map, lenK_str, snap_sl, ints_len, ints_take, List.take_length, Bool.true_or]; (repeat' first | apply a.1 | apply b.1 | refine iteI (fun h => ?_) fun h => ?_) <;> clear a b A B))
    simp only [go_sem, wpK_append ty26 rfl, wpK_assignN ty26 rfl, wpK_buildSlice ty26 rfl, set_lenAdd, Nat.zero_le, getElem?_len, getElem?_lenAdd, set_len, List.append_assoc, List.length_append, List.length_map, lenK_str, snap_sl, ints_len, ints_take, List.take_length, Bool.true_or]
  have hne : ¬ ms.length = 0 := fun h => hm0 (List.eq_nil_of_length_eq_zero h)
  clear hm0
  refine EvV.walk rfl fn27 rfl nt27 rfl ?_
  simp only [List.length_cons, List.length_nil, List.cons_append, List.nil_append, Nat.reduceAdd, Nat.reduceSub, List.replicate]
  repeat' (first | refine go1 ?_ | refine blockK_else rfl ?_ | (refine go2 fun A B a b => ?_; simp only [go_sem, *, wpK_append ty26 rfl, wpK_assignN ty26 rfl, wpK_buildSlice ty26 rfl, rrow, hr, hne, b1, b2, set_lenAdd, Nat.zero_le, getElem?_len, getElem?_lenAdd, set_len, List.append_assoc, List.length_append, List.length_map, lenK_str, snap_sl, ints_len, ints_take, List.take_length, Bool.true_or]; (repeat' first | apply a.1 | apply b.1 | refine iteI (fun h => ?_) fun h => ?_) <;> clear a b A B))
  refine wpC_loopF [4, 5, 7, 19, 20, 21, 22, 23, 24, 25, 26, 27, 28, 29, 30, 31, 32, 33, 34, 35, 36, 37, 38, 39, 40, 41, 42, 43, 44, 45, 46, 47, 48, 49, 50, 51, 52, 53, 54, 55, 56, 57, 58, 59, 60, 61, 62, 63, 64, 65, 66, 67, 68, 69, 70, 71, 72, 73, 74, 75, 76, 77, 78, 79, 80, 81, 82, 83, 84, 85, 86, 87, 88, 89, 90, 91, 92, 93, 94, 95, 96, 97, 98, 99, 100, 101, 102, 103, 104, 105] (fun a : Nat × Nat => [(18, .int .i64 (a.1 : Int))]) (fun a G => .arr [] 7 0 true :: .arr (ms.map encN) 7 a.2 true :: G) (fun a => a.1 ≤ ms.length ∧ a.2 ≤ ms.length) (fun a => ms.length - a.1) (0, 0) ⟨Nat.zero_le _, Nat.zero_le _⟩ ?_ ⟨[], rfl⟩ ?_
  · ((try simp only [eraseA_cons, eraseA_nil, setL_cons, setL_nil, List.set_cons_zero, List.set_cons_succ]); all_goals (first | rfl | (simp only [len_snoc, ints_len, List.length_map, ]; done) | (simp only [len_snoc, len_mid, ints_len, List.length_map, List.length_append, List.length_cons, List.length_nil, Nat.zero_add, ]; first | done | rfl)))
  rintro ⟨i, w⟩ g G ⟨hi, hw⟩
  replace hi : i ≤ ms.length := hi
  replace hw : w ≤ ms.length := hw
  have lm : (ms.map encN).length = ms.length := List.length_map ..
  by_cases hlt : i < ms.length
  · obtain ⟨m, hm⟩ : ∃ m, ms[i]? = some m := ⟨_, List.getElem?_eq_getElem hlt⟩
    have hmm := List.mem_of_getElem? hm
    have lt1 : (i : Int) < (ms.length : Int) := by omega
    have w1 := wrap_succ (n := i) (by have := hlH.out; omega)
    have row : (ms.map encN)[i]? = some (encN m) := by rw [List.getElem?_map, hm]; rfl
    have hset := set_self hm
    have ht0 := htiH.out m hmm
    have ht : ts[m.ti.toNat]? = some (tierAt ts m.ti) := by
      unfold tierAt
      rw [List.getD_eq_getElem?_getD, List.getElem?_eq_getElem (by omega)]; rfl
    have i0 := idx_sls hv (X := CX) ty25 ty53 rfl (n := m.ti.toNat) (row := encT (tierAt ts m.ti)) (k := .i64) (by rw [List.getElem?_map, ht]; rfl)
    rw [show ((m.ti.toNat : Nat) : Int) = m.ti by omega] at i0
    have hcnt := hrkH.out m hmm
    have ixs := idxN (b := 1) (e := ms.length) (k := .i64) hlt
    have hmv := idx_sls hV (X := CX) ty26 ty40 rfl (n := i) (row := encN m) (k := .i64) row
    have hmH : Hold (ms.length - (i + 1) < ms.length - i ∧ i + 1 ≤ ms.length) := ⟨by omega⟩
    have hwH : Hold (w ≤ ms.length) := ⟨hw⟩
    obtain ⟨t, hT⟩ : ∃ t, tierAt ts m.ti = t := ⟨_, rfl⟩
    rw [hT] at i0 hcnt
    clear hi hm hmm ht0 ht hT
    cases k3 : (t.kd == 3) with
    | false =>
      clear hcnt hset
      simp only [garbA_cons, garbA_nil, setL_cons, setL_nil, List.set_cons_zero, List.set_cons_succ]
      repeat' (first | refine go1 ?_ | refine blockK_else rfl ?_ | (refine go2 fun A B a b => ?_; simp only [go_sem, *, wpK_append ty26 rfl, wpK_assignN ty26 rfl, wpK_buildSlice ty26 rfl, encN, encT, rrow, lt1, w1, i0, row, k3, hlt, hw, ixs, lm, set_lenAdd, Nat.zero_le, getElem?_len, getElem?_lenAdd, set_len, List.append_assoc, List.length_append, List.length_map, lenK_str, snap_sl, ints_len, ints_take, List.take_length, Bool.true_or]; (repeat' first | apply a.1 | apply b.1 | refine iteI (fun h => ?_) fun h => ?_) <;> clear a b A B))
      refine loopF_next (i + 1, w) hmH.out.1 ⟨hmH.out.2, hwH.out⟩ ?_ ?_
      · ((try simp only [eraseA_cons, eraseA_nil, setL_cons, setL_nil, List.set_cons_zero, List.set_cons_succ]); all_goals (first | rfl | (simp only [len_snoc, ints_len, List.length_map, ]; done) | (simp only [len_snoc, len_mid, ints_len, List.length_map, List.length_append, List.length_cons, List.length_nil, Nat.zero_add, ]; first | done | rfl)))
      · exact ⟨_, rfl⟩
    | true =>
      have hcnt := hcnt (by simpa using k3)
      have hcH : Hold (((ms.countP (befN m) : Nat) : Int) = m.rk) := ⟨hcnt⟩
      have hsH : Hold ((ms.map encN).set i (encN m) = ms.map encN) := ⟨hset⟩
      clear hcnt hset
      simp only [garbA_cons, garbA_nil, setL_cons, setL_nil, List.set_cons_zero, List.set_cons_succ]
      repeat' (first | refine go1 ?_ | refine blockK_else rfl ?_ | (refine go2 fun A B a b => ?_; simp only [go_sem, *, wpK_append ty26 rfl, wpK_assignN ty26 rfl, wpK_buildSlice ty26 rfl, encN, encT, rrow, lt1, i0, row, k3, hlt, hw, ixs, lm, hvV, set_lenAdd, Nat.zero_le, getElem?_len, getElem?_lenAdd, set_len, List.append_assoc, List.length_append, List.length_map, lenK_str, snap_sl, ints_len, ints_take, List.take_length, Bool.true_or]; (repeat' first | apply a.1 | apply b.1 | refine iteI (fun h => ?_) fun h => ?_) <;> clear a b A B))
      refine wpC_eachE [7, 40, 41, 42, 43, 44, 45, 46, 47, 48, 49, 50, 51, 52, 53, 54, 55, 56, 57, 58, 59, 60, 61, 62, 63, 64, 65, 66, 67, 68, 69, 70, 71, 72, 73, 74, 75, 76, 77, 78, 79, 80, 81, 82, 83, 84, 85, 86, 87, 88, 89, 90, 91, 92, 93, 94, 95, 96, 97, 98, 99] 39 (fun a => [(5, .int .i64 ((a.countP (befN m) : Nat) : Int))]) ms (fun _ _ => True) trivial ?_ ?_ ?_
      · ((try simp only [eraseA_cons, eraseA_nil, setL_cons, setL_nil, List.set_cons_zero, List.set_cons_succ]); all_goals (first | rfl | (simp only [len_snoc, ints_len, List.length_map, ]; done) | (simp only [len_snoc, len_mid, ints_len, List.length_map, List.length_append, List.length_cons, List.length_nil, Nat.zero_add, ]; first | done | rfl)))
      · intro g2 G2 _
        have hc := hcH.out
        have hs := hsH.out
        have hgd : (ms.map encN).getD i [] = encN m := by rw [List.getD_eq_getElem?_getD, row]; rfl
        simp only [encN] at hs hgd
        simp only [garbA_cons, garbA_nil, setL_cons, setL_nil, List.set_cons_zero, List.set_cons_succ]
        repeat' (first | refine go1 ?_ | refine blockK_else rfl ?_ | (refine go2 fun A B a b => ?_; simp only [go_sem, *, wpK_append ty26 rfl, wpK_assignN ty26 rfl, wpK_buildSlice ty26 rfl, encN, encT, rrow, lt1, w1, i0, row, k3, hlt, hw, ixs, lm, hc, hs, hgd, Int.lt_irrefl, set_lenAdd, Nat.zero_le, getElem?_len, getElem?_lenAdd, set_len, List.append_assoc, List.length_append, List.length_map, lenK_str, snap_sl, ints_len, ints_take, List.take_length, Bool.true_or]; (repeat' first | apply a.1 | apply b.1 | refine iteI (fun h => ?_) fun h => ?_) <;> clear a b A B))
        refine loopF_next (i + 1, ms.length) hmH.out.1 ⟨hmH.out.2, Nat.le_refl _⟩ ?_ ?_
        · ((try simp only [eraseA_cons, eraseA_nil, setL_cons, setL_nil, List.set_cons_zero, List.set_cons_succ]); all_goals (first | rfl | (simp only [len_snoc, ints_len, List.length_map, ]; done) | (simp only [len_snoc, len_mid, ints_len, List.length_map, List.length_append, List.length_cons, List.length_nil, Nat.zero_add, ]; first | done | rfl)))
        · exact ⟨_, rfl⟩
      · intro g2 G2 pre x post h1 _
        have hpl : pre.length < ms.length := by rw [h1]; simp
        have lt2 : (pre.length : Int) < (ms.length : Int) := by omega
        have w2 := wrap_succ (n := pre.length) (by have := hlH.out; omega)
        have w3 := wrap_succ (n := pre.countP (befN m)) (by have := hlH.out; have := List.countP_le_length (p := befN m) (l := pre); omega)
        have ix := idx_sls hV (X := CX) ty26 ty40 rfl (n := pre.length) (row := encN x) (k := .i64) (by rw [h1]; simp)
        have hh1 : Hold (ms = pre ++ x :: post) := ⟨h1⟩
        have hcs := befN_cnt m pre x
        have hb : befN m x = (x.ti == m.ti && x.pa == m.pa && (decide (x.rk < m.rk) || x.rk == m.rk && decide (x.id < m.id))) := rfl
        clear h1 hpl
        obtain ⟨N, hN⟩ : ∃ N, pre.countP (befN m) = N := ⟨_, rfl⟩
        rw [hN] at hcs w3
        rw [hN]
        clear hN
        have ks : Hold ((pre ++ [x]).countP (befN m) = N + if befN m x = true then 1 else 0) := ⟨hcs⟩
        clear hcs
        cases e1 : (x.ti == m.ti) with
        | false =>
          have kf : Hold ((pre ++ [x]).countP (befN m) = N) := ⟨by rw [ks.out, hb, e1]; rfl⟩
          clear hb
          simp only [garbA_cons, garbA_nil, setL_cons, setL_nil, List.set_cons_zero, List.set_cons_succ]
          repeat' (first | refine go1 ?_ | refine blockK_else rfl ?_ | (refine go2 fun A B a b => ?_; simp only [go_sem, *, wpK_append ty26 rfl, wpK_assignN ty26 rfl, wpK_buildSlice ty26 rfl, encN, encT, rrow, lt2, w2, ix, row, hlt, hw, ixs, lm, e1, set_lenAdd, Nat.zero_le, getElem?_len, getElem?_lenAdd, set_len, List.append_assoc, List.length_append, List.length_map, lenK_str, snap_sl, ints_len, ints_take, List.take_length, Bool.true_or]; (repeat' first | apply a.1 | apply b.1 | refine iteI (fun h => ?_) fun h => ?_) <;> clear a b A B))
          refine each_next hh1.out trivial ?_ ?_
          · ((try simp only [eraseA_cons, eraseA_nil, setL_cons, setL_nil, List.set_cons_zero, List.set_cons_succ]); all_goals (first | rfl | (simp only [len_snoc, ints_len, List.length_map, kf.out]; done) | (simp only [len_snoc, len_mid, ints_len, List.length_map, List.length_append, List.length_cons, List.length_nil, Nat.zero_add, kf.out]; first | done | rfl)))
          · first | exact ⟨[], (List.append_nil _).symm⟩ | exact ⟨_, rfl⟩ | (simp only [List.append_assoc, List.cons_append, List.nil_append]; exact ⟨_, rfl⟩)
        | true =>
        cases e2 : (x.pa == m.pa) with
        | false =>
          have kf : Hold ((pre ++ [x]).countP (befN m) = N) := ⟨by rw [ks.out, hb, e1, e2]; rfl⟩
          clear hb
          simp only [garbA_cons, garbA_nil, setL_cons, setL_nil, List.set_cons_zero, List.set_cons_succ]
          repeat' (first | refine go1 ?_ | refine blockK_else rfl ?_ | (refine go2 fun A B a b => ?_; simp only [go_sem, *, wpK_append ty26 rfl, wpK_assignN ty26 rfl, wpK_buildSlice ty26 rfl, encN, encT, rrow, lt2, w2, ix, row, hlt, hw, ixs, lm, e1, e2, set_lenAdd, Nat.zero_le, getElem?_len, getElem?_lenAdd, set_len, List.append_assoc, List.length_append, List.length_map, lenK_str, snap_sl, ints_len, ints_take, List.take_length, Bool.true_or]; (repeat' first | apply a.1 | apply b.1 | refine iteI (fun h => ?_) fun h => ?_) <;> clear a b A B))
          refine each_next hh1.out trivial ?_ ?_
          · ((try simp only [eraseA_cons, eraseA_nil, setL_cons, setL_nil, List.set_cons_zero, List.set_cons_succ]); all_goals (first | rfl | (simp only [len_snoc, ints_len, List.length_map, kf.out]; done) | (simp only [len_snoc, len_mid, ints_len, List.length_map, List.length_append, List.length_cons, List.length_nil, Nat.zero_add, kf.out]; first | done | rfl)))
          · first | exact ⟨[], (List.append_nil _).symm⟩ | exact ⟨_, rfl⟩ | (simp only [List.append_assoc, List.cons_append, List.nil_append]; exact ⟨_, rfl⟩)
        | true =>
        by_cases e3 : x.rk < m.rk
        · have kf : Hold ((pre ++ [x]).countP (befN m) = N + 1) := ⟨by rw [ks.out, hb, e1, e2]; simp [e3]⟩
          clear hb
          simp only [garbA_cons, garbA_nil, setL_cons, setL_nil, List.set_cons_zero, List.set_cons_succ]
          repeat' (first | refine go1 ?_ | refine blockK_else rfl ?_ | (refine go2 fun A B a b => ?_; simp only [go_sem, *, wpK_append ty26 rfl, wpK_assignN ty26 rfl, wpK_buildSlice ty26 rfl, encN, encT, rrow, lt2, w2, w3, ix, hmv, row, hlt, hw, ixs, lm, e1, e2, e3, set_lenAdd, Nat.zero_le, getElem?_len, getElem?_lenAdd, set_len, List.append_assoc, List.length_append, List.length_map, lenK_str, snap_sl, ints_len, ints_take, List.take_length, Bool.true_or]; (repeat' first | apply a.1 | apply b.1 | refine iteI (fun h => ?_) fun h => ?_) <;> clear a b A B))
          refine each_next hh1.out trivial ?_ ?_
          · ((try simp only [eraseA_cons, eraseA_nil, setL_cons, setL_nil, List.set_cons_zero, List.set_cons_succ]); all_goals (first | rfl | (simp only [len_snoc, ints_len, List.length_map, kf.out]; done) | (simp only [len_snoc, len_mid, ints_len, List.length_map, List.length_append, List.length_cons, List.length_nil, Nat.zero_add, kf.out]; first | done | rfl)))
          · first | exact ⟨[], (List.append_nil _).symm⟩ | exact ⟨_, rfl⟩ | (simp only [List.append_assoc, List.cons_append, List.nil_append]; exact ⟨_, rfl⟩)
        · cases e4 : (x.rk == m.rk) with
          | false =>
            have kf : Hold ((pre ++ [x]).countP (befN m) = N) := ⟨by rw [ks.out, hb, e1, e2, e4]; simp [e3]⟩
            clear hb
            simp only [garbA_cons, garbA_nil, setL_cons, setL_nil, List.set_cons_zero, List.set_cons_succ]
            repeat' (first | refine go1 ?_ | refine blockK_else rfl ?_ | (refine go2 fun A B a b => ?_; simp only [go_sem, *, wpK_append ty26 rfl, wpK_assignN ty26 rfl, wpK_buildSlice ty26 rfl, encN, encT, rrow, lt2, w2, ix, hmv, row, hlt, hw, ixs, lm, e1, e2, e3, e4, set_lenAdd, Nat.zero_le, getElem?_len, getElem?_lenAdd, set_len, List.append_assoc, List.length_append, List.length_map, lenK_str, snap_sl, ints_len, ints_take, List.take_length, Bool.true_or]; (repeat' first | apply a.1 | apply b.1 | refine iteI (fun h => ?_) fun h => ?_) <;> clear a b A B))
            refine each_next hh1.out trivial ?_ ?_
            · ((try simp only [eraseA_cons, eraseA_nil, setL_cons, setL_nil, List.set_cons_zero, List.set_cons_succ]); all_goals (first | rfl | (simp only [len_snoc, ints_len, List.length_map, kf.out]; done) | (simp only [len_snoc, len_mid, ints_len, List.length_map, List.length_append, List.length_cons, List.length_nil, Nat.zero_add, kf.out]; first | done | rfl)))
            · first | exact ⟨[], (List.append_nil _).symm⟩ | exact ⟨_, rfl⟩ | (simp only [List.append_assoc, List.cons_append, List.nil_append]; exact ⟨_, rfl⟩)
          | true =>
            by_cases e5 : x.id < m.id
            · have kf : Hold ((pre ++ [x]).countP (befN m) = N + 1) := ⟨by rw [ks.out, hb, e1, e2, e4]; simp [e3, e5]⟩
              clear hb
              simp only [garbA_cons, garbA_nil, setL_cons, setL_nil, List.set_cons_zero, List.set_cons_succ]
              repeat' (first | refine go1 ?_ | refine blockK_else rfl ?_ | (refine go2 fun A B a b => ?_; simp only [go_sem, *, wpK_append ty26 rfl, wpK_assignN ty26 rfl, wpK_buildSlice ty26 rfl, encN, encT, rrow, lt2, w2, w3, ix, hmv, row, hlt, hw, ixs, lm, e1, e2, e3, e4, e5, set_lenAdd, Nat.zero_le, getElem?_len, getElem?_lenAdd, set_len, List.append_assoc, List.length_append, List.length_map, lenK_str, snap_sl, ints_len, ints_take, List.take_length, Bool.true_or]; (repeat' first | apply a.1 | apply b.1 | refine iteI (fun h => ?_) fun h => ?_) <;> clear a b A B))
              refine each_next hh1.out trivial ?_ ?_
              · ((try simp only [eraseA_cons, eraseA_nil, setL_cons, setL_nil, List.set_cons_zero, List.set_cons_succ]); all_goals (first | rfl | (simp only [len_snoc, ints_len, List.length_map, kf.out]; done) | (simp only [len_snoc, len_mid, ints_len, List.length_map, List.length_append, List.length_cons, List.length_nil, Nat.zero_add, kf.out]; first | done | rfl)))
              · first | exact ⟨[], (List.append_nil _).symm⟩ | exact ⟨_, rfl⟩ | (simp only [List.append_assoc, List.cons_append, List.nil_append]; exact ⟨_, rfl⟩)
            · have kf : Hold ((pre ++ [x]).countP (befN m) = N) := ⟨by rw [ks.out, hb, e1, e2, e4]; simp [e3, e5]⟩
              clear hb
              simp only [garbA_cons, garbA_nil, setL_cons, setL_nil, List.set_cons_zero, List.set_cons_succ]
              repeat' (first | refine go1 ?_ | refine blockK_else rfl ?_ | (refine go2 fun A B a b => ?_; simp only [go_sem, *, wpK_append ty26 rfl, wpK_assignN ty26 rfl, wpK_buildSlice ty26 rfl, encN, encT, rrow, lt2, w2, ix, hmv, row, hlt, hw, ixs, lm, e1, e2, e3, e4, e5, set_lenAdd, Nat.zero_le, getElem?_len, getElem?_lenAdd, set_len, List.append_assoc, List.length_append, List.length_map, lenK_str, snap_sl, ints_len, ints_take, List.take_length, Bool.true_or]; (repeat' first | apply a.1 | apply b.1 | refine iteI (fun h => ?_) fun h => ?_) <;> clear a b A B))
              refine each_next hh1.out trivial ?_ ?_
              · ((try simp only [eraseA_cons, eraseA_nil, setL_cons, setL_nil, List.set_cons_zero, List.set_cons_succ]); all_goals (first | rfl | (simp only [len_snoc, ints_len, List.length_map, kf.out]; done) | (simp only [len_snoc, len_mid, ints_len, List.length_map, List.length_append, List.length_cons, List.length_nil, Nat.zero_add, kf.out]; first | done | rfl)))
              · first | exact ⟨[], (List.append_nil _).symm⟩ | exact ⟨_, rfl⟩ | (simp only [List.append_assoc, List.cons_append, List.nil_append]; exact ⟨_, rfl⟩)
  · have hil : i = ms.length := by omega
    subst hil
    clear hi hlt
    simp only [garbA_cons, garbA_nil, setL_cons, setL_nil, List.set_cons_zero, List.set_cons_succ]
    repeat' (first | refine go1 ?_ | refine blockK_else rfl ?_ | (refine go2 fun A B a b => ?_; simp only [go_sem, *, wpK_append ty26 rfl, wpK_assignN ty26 rfl, wpK_buildSlice ty26 rfl, rrow, Int.lt_irrefl, set_lenAdd, Nat.zero_le, getElem?_len, getElem?_lenAdd, set_len, List.append_assoc, List.length_append, List.length_map, lenK_str, snap_sl, ints_len, ints_take, List.take_length, Bool.true_or]; (repeat' first | apply a.1 | apply b.1 | refine iteI (fun h => ?_) fun h => ?_) <;> clear a b A B))
    have hwH : Hold (w ≤ ms.length) := ⟨hw⟩
    refine wpC_each [8, 9, 109, 110, 111, 112, 113, 114, 115, 116, 117, 118, 119, 120, 121, 122, 123, 124, 125, 126, 127, 128, 129, 130, 131, 132, 133, 134, 135, 136, 137, 138, 139, 140, 141, 142, 143, 144, 145, 146] 108 ms (fun _ _ => True) ?_ ?_ ?_ ?_
    · trivial
    · ((try simp only [eraseA_cons, eraseA_nil, setL_cons, setL_nil, List.set_cons_zero, List.set_cons_succ]); all_goals (first | rfl | (simp only [len_snoc, ints_len, List.length_map, ]; done) | (simp only [len_snoc, len_mid, ints_len, List.length_map, List.length_append, List.length_cons, List.length_nil, Nat.zero_add, ]; first | done | rfl)))
    · intro g2 G2 _
      have tk : (ms.map encN).take ms.length = ms.map encN := by rw [List.take_of_length_le (by simp)]
      simp only [garbA_cons, garbA_nil, setL_cons, setL_nil, List.set_cons_zero, List.set_cons_succ]
      repeat' (first | refine go1 ?_ | refine blockK_else rfl ?_ | (refine go2 fun A B a b => ?_; simp only [go_sem, *, wpK_append ty26 rfl, wpK_assignN ty26 rfl, wpK_buildSlice ty26 rfl, Int.lt_irrefl, set_lenAdd, Nat.zero_le, getElem?_len, getElem?_lenAdd, set_len, List.append_assoc, List.length_append, List.length_map, lenK_str, snap_sl, ints_len, ints_take, List.take_length, Bool.true_or]; (repeat' first | apply a.1 | apply b.1 | refine iteI (fun h => ?_) fun h => ?_) <;> clear a b A B))
      simp only [go_sem, wpK_append ty26 rfl, wpK_assignN ty26 rfl, wpK_buildSlice ty26 rfl, lm, hw, set_lenAdd, Nat.zero_le, getElem?_len, getElem?_lenAdd, set_len, List.append_assoc, List.length_append, List.length_map, lenK_str, snap_sl, ints_len, ints_take, List.take_length, Bool.true_or]
    · intro g2 G2 pre x post h1 _
      have hpl : pre.length < ms.length := by rw [h1]; simp
      have lt2 : (pre.length : Int) < (ms.length : Int) := by omega
      have w2 := wrap_succ (n := pre.length) (by have := hlH.out; omega)
      have hh1 : Hold (ms = pre ++ x :: post) := ⟨h1⟩
      have rowx : (ms.map encN)[pre.length]? = some (encN x) := by rw [h1]; simp
      have ixs := idxN (b := 1) (e := ms.length) (k := .i64) hpl
      have hxid := hidH.out pre.length x (by rw [h1]; simp)
      have hprev : pre = [] ∨ ∃ p y, pre = p ++ [y] ∧ y.id < x.id ∧ (ms.map encN)[p.length]? = some (encN y) ∧ p.length < ms.length := by
        rcases snoc_cases pre with h | ⟨p, y, h⟩
        · exact .inl h
        · refine .inr ⟨p, y, h, ?_, by rw [h1, h]; simp, by rw [h1, h]; simp <;> omega⟩
          have hy := hidH.out p.length y (by rw [h1, h]; simp)
          rw [hy, hxid, h]
          rw [idOf_lt]; simp
      clear h1 hxid
      simp only [garbA_cons, garbA_nil, setL_cons, setL_nil, List.set_cons_zero, List.set_cons_succ]
      repeat' (first | refine go1 ?_ | refine blockK_else rfl ?_ | (refine go2 fun A B a b => ?_; simp only [go_sem, *, wpK_append ty26 rfl, wpK_assignN ty26 rfl, wpK_buildSlice ty26 rfl, lt2, set_lenAdd, Nat.zero_le, getElem?_len, getElem?_lenAdd, set_len, List.append_assoc, List.length_append, List.length_map, lenK_str, snap_sl, ints_len, ints_take, List.take_length, Bool.true_or]; (repeat' first | apply a.1 | apply b.1 | refine iteI (fun h => ?_) fun h => ?_) <;> clear a b A B))
      refine wpC_loopF [112, 113, 114, 115, 116, 117, 118, 119, 120, 121, 122, 123, 124, 125, 126, 127, 128, 129, 130, 131, 132, 133, 134, 135, 136, 137, 138, 139, 140, 141, 142, 143, 144, 145] (fun _ : Unit => []) (fun _ G3 => .arr [] 7 0 true :: .arr (ms.map encN) 7 w true :: (G ++ G3)) (fun _ => True) (fun _ => 0) () trivial ?_ ⟨G2, rfl⟩ ?_
      · ((try simp only [eraseA_cons, eraseA_nil, setL_cons, setL_nil, List.set_cons_zero, List.set_cons_succ]); all_goals (first | rfl | (simp only [len_snoc, ints_len, List.length_map, ]; done) | (simp only [len_snoc, len_mid, ints_len, List.length_map, List.length_append, List.length_cons, List.length_nil, Nat.zero_add, ]; first | done | rfl)))
      rintro ⟨⟩ g3 G3 _
      rcases hprev with h0 | ⟨p, y, h0, hlt, hrow, hpl2⟩
      · subst h0
        have z0 : ¬ (0 : Int) < (([] : List Nt).length : Int) := by simp
        simp only [garbA_cons, garbA_nil, setL_cons, setL_nil, List.set_cons_zero, List.set_cons_succ]
        repeat' (first | refine go1 ?_ | refine blockK_else rfl ?_ | (refine go2 fun A B a b => ?_; simp only [go_sem, *, wpK_append ty26 rfl, wpK_assignN ty26 rfl, wpK_buildSlice ty26 rfl, z0, w2, set_lenAdd, Nat.zero_le, getElem?_len, getElem?_lenAdd, set_len, List.append_assoc, List.length_append, List.length_map, lenK_str, snap_sl, ints_len, ints_take, List.take_length, Bool.true_or]; (repeat' first | apply a.1 | apply b.1 | refine iteI (fun h => ?_) fun h => ?_) <;> clear a b A B))
        refine each_next hh1.out trivial ?_ ?_
        · ((try simp only [eraseA_cons, eraseA_nil, setL_cons, setL_nil, List.set_cons_zero, List.set_cons_succ]); all_goals (first | rfl | (simp only [len_snoc, ints_len, List.length_map, ]; done) | (simp only [len_snoc, len_mid, ints_len, List.length_map, List.length_append, List.length_cons, List.length_nil, Nat.zero_add, ]; first | done | rfl)))
        · first | exact ⟨[], (List.append_nil _).symm⟩ | exact ⟨_, rfl⟩ | (simp only [List.append_assoc, List.cons_append, List.nil_append]; exact ⟨_, rfl⟩)
      · have z0 : (0 : Int) < (pre.length : Int) := by rw [h0]; simp <;> omega
        have z1 : ¬ x.id < y.id := by omega
        have e : IntKind.wrap .i64 ((pre.length : Int) - 1) = (p.length : Int) := by
          rw [h0, wrap_small (by simp <;> omega) (by simp <;> (have := hlH.out; omega))]; simp
        have ixp := idxN (b := 1) (e := ms.length) (k := .i64) hpl2
        clear h0 hlt
        simp only [garbA_cons, garbA_nil, setL_cons, setL_nil, List.set_cons_zero, List.set_cons_succ]
        repeat' (first | refine go1 ?_ | refine blockK_else rfl ?_ | (refine go2 fun A B a b => ?_; simp only [go_sem, *, wpK_append ty26 rfl, wpK_assignN ty26 rfl, wpK_buildSlice ty26 rfl, encN, z0, z1, e, ixs, ixp, rowx, hrow, hw, hpl, hpl2, lm, w2, set_lenAdd, Nat.zero_le, getElem?_len, getElem?_lenAdd, set_len, List.append_assoc, List.length_append, List.length_map, lenK_str, snap_sl, ints_len, ints_take, List.take_length, Bool.true_or]; (repeat' first | apply a.1 | apply b.1 | refine iteI (fun h => ?_) fun h => ?_) <;> clear a b A B))
        refine each_next hh1.out trivial ?_ ?_
        · ((try simp only [eraseA_cons, eraseA_nil, setL_cons, setL_nil, List.set_cons_zero, List.set_cons_succ]); all_goals (first | rfl | (simp only [len_snoc, ints_len, List.length_map, ]; done) | (simp only [len_snoc, len_mid, ints_len, List.length_map, List.length_append, List.length_cons, List.length_nil, Nat.zero_add, ]; first | done | rfl)))
        · first | exact ⟨[], (List.append_nil _).symm⟩ | exact ⟨_, rfl⟩ | (simp only [List.append_assoc, List.cons_append, List.nil_append]; exact ⟨_, rfl⟩)

/- Rebuilds: the document of notes that all have a place. -/
open Go.Proofs
set_option maxHeartbeats 4000000
set_option maxRecDepth 20000

/-- The notes of a document that is to be rebuilt. -/
structure DocOK (d : Dc) (ts : List Ti) (ms : List Nt) : Prop where
  t : SLs 4 (ts.map encT) d.tv
  tcl : d.tv.clean = true
  tst : d.tv.stab = true
  sc : d.sp.cell = true
  ss : ∀ S, snap S d.sp = some d.sp
  scl : d.sp.clean = true
  sst : d.sp.stab = true
  few : ms.length ≤ 14
  fewT : ts.length ≤ 6
  fine : ∀ j x, ms[j]? = some x → FineAt TX d.len ts (ms.take j) x
  plain : ∀ x ∈ ms, (tierAt ts x.ti).kd ≠ 1 ∧ (tierAt ts x.ti).ro ≠ 3 ∧ (tierAt ts x.ti).ro ≠ 4
  rank : ∀ m ∈ ms, (tierAt ts m.ti).kd = 3 → ((ms.countP (befN m) : Nat) : Int) = m.rk
  id : ∀ i m, ms[i]? = some m → m.id = idOf i
  sorted : ms.Pairwise fun a b => a.ti ≤ b.ti

/-- What is placed when tier t is at its j-th note. -/
def doneAt (ms : List Nt) (t j : Nat) : List Nt := (ms.filter fun n => decide (n.ti < (t : Int))) ++ (ms.take j).filter fun n => n.ti == (t : Int)
theorem doneAt_zero (ms : List Nt) (t : Nat) : doneAt ms t 0 = ms.filter fun n => decide (n.ti < (t : Int)) := by simp [doneAt]
theorem take_snoc {ms : List Nt} {j : Nat} {x : Nt} (h : ms[j]? = some x) : ms.take (j + 1) = ms.take j ++ [x] := by rw [List.take_succ, h]; rfl
theorem doneAt_other {ms : List Nt} {t j : Nat} {x : Nt} (h : ms[j]? = some x) (hx : (x.ti == (t : Int)) = false) : doneAt ms t (j + 1) = doneAt ms t j := by
  unfold doneAt; rw [take_snoc h, List.filter_append]; simp [hx]
theorem doneAt_same {ms : List Nt} {t j : Nat} {x : Nt} (h : ms[j]? = some x) (hx : (x.ti == (t : Int)) = true) : doneAt ms t (j + 1) = doneAt ms t j ++ [x] := by
  unfold doneAt; rw [take_snoc h, List.filter_append]; simp [hx]
theorem doneAt_end (ms : List Nt) (hs : ms.Pairwise fun a b => a.ti ≤ b.ti) (t : Nat) : doneAt ms t ms.length = doneAt ms (t + 1) 0 := by
  rw [doneAt_zero]
  unfold doneAt
  rw [List.take_length]
  induction ms with
  | nil => rfl
  | cons x ms ih =>
    rw [List.pairwise_cons] at hs
    have ih := ih hs.2
    by_cases h1 : x.ti < (t : Int)
    · have h2 : x.ti < ((t + 1 : Nat) : Int) := by omega
      have h3 : (x.ti == (t : Int)) = false := by simp; omega
      simp only [List.filter_cons, decide_eq_true h1, decide_eq_true h2, h3, if_true, Bool.false_eq_true, if_false, List.cons_append]
      rw [ih]
    · have h0 : (ms.filter fun n => decide (n.ti < (t : Int))) = [] := by
        rw [List.filter_eq_nil_iff]
        intro a ha
        have := hs.1 a ha
        simp; omega
      rw [h0, List.nil_append] at ih
      by_cases h2 : x.ti < ((t + 1 : Nat) : Int)
      · have h3 : (x.ti == (t : Int)) = true := by simp; omega
        simp only [List.filter_cons, decide_eq_false h1, decide_eq_true h2, h3, if_true, Bool.false_eq_true, if_false, h0, List.nil_append, ih]
      · have h3 : (x.ti == (t : Int)) = false := by simp; omega
        simp only [List.filter_cons, decide_eq_false h1, decide_eq_false h2, h3, Bool.false_eq_true, if_false, h0, List.nil_append, ih]
theorem doneAt_take {ms : List Nt} (hs : ms.Pairwise fun a b => a.ti ≤ b.ti) {t j : Nat} {x : Nt} (h : ms[j]? = some x) (hx : x.ti = (t : Int)) : doneAt ms t j = ms.take j := by
  have hj := (List.getElem?_eq_some_iff.1 h).1
  have hd : ms = ms.take j ++ ms.drop j := (List.take_append_drop j ms).symm
  have hx2 : ms[j] = x := (List.getElem?_eq_some_iff.1 h).2
  have hle : ∀ y ∈ ms.take j, y.ti ≤ (t : Int) := by
    intro y hy
    obtain ⟨i, hi⟩ := List.getElem?_of_mem hy
    have hij : i < j := by have := (List.getElem?_eq_some_iff.1 hi).1; rw [List.length_take] at this; omega
    rw [List.getElem?_take_of_lt hij] at hi
    have e := List.getElem?_eq_some_iff.1 hi
    rw [List.pairwise_iff_getElem] at hs
    have := hs i j e.1 hj hij
    rw [e.2, hx2] at this
    omega
  have hge : ∀ y ∈ ms.drop j, (t : Int) ≤ y.ti := by
    intro y hy
    obtain ⟨i, hi⟩ := List.getElem?_of_mem hy
    rw [List.getElem?_drop] at hi
    have e := List.getElem?_eq_some_iff.1 hi
    rcases Nat.eq_or_lt_of_le (Nat.le_add_right j i) with h1 | h1
    · have : ms[j + i] = ms[j] := by congr 1; omega
      rw [e.2, hx2] at this
      rw [this]; omega
    · rw [List.pairwise_iff_getElem] at hs
      have := hs j (j + i) hj e.1 h1
      rw [e.2, hx2] at this
      omega
  have h0 : ((ms.drop j).filter fun n => decide (n.ti < (t : Int))) = [] := by
    rw [List.filter_eq_nil_iff]
    intro a ha
    have := hge a ha
    simp; omega
  unfold doneAt
  have hf : (ms.filter fun n => decide (n.ti < (t : Int))) = (ms.take j).filter fun n => decide (n.ti < (t : Int)) := by
    conv => lhs; rw [hd, List.filter_append, h0, List.append_nil]
  rw [hf]
  have hs' : (ms.take j).Pairwise fun a b => a.ti ≤ b.ti := hs.sublist (List.take_sublist _ _)
  clear hf h0 hge hd hx2 hj h hs
  generalize ms.take j = l at *
  induction l with
  | nil => rfl
  | cons a l ih =>
    rw [List.pairwise_cons] at hs'
    have ih := ih (fun y hy => hle y (by simp [hy])) hs'.2
    have ha := hle a (by simp)
    by_cases h1 : a.ti < (t : Int)
    · have h3 : (a.ti == (t : Int)) = false := by simp; omega
      simp only [List.filter_cons, decide_eq_true h1, h3, if_true, Bool.false_eq_true, if_false, List.cons_append, ih]
    · have h3 : (a.ti == (t : Int)) = true := by simp; omega
      have h4 : (l.filter fun n => decide (n.ti < (t : Int))) = [] := by
        rw [List.filter_eq_nil_iff]
        intro b hb
        have := hs'.1 b hb
        simp; omega
      rw [h4, List.nil_append] at ih
      simp only [List.filter_cons, decide_eq_false h1, h3, if_true, Bool.false_eq_true, if_false, h4, List.nil_append, ih]

section
variable {d : Dc} {ts : List Ti} {ms : List Nt} (hd : DocOK d ts ms) {b0 b1 b2 b5 b6 : Blk}

theorem DocOK.nodup (hd : DocOK d ts ms) : (ms.map (·.id)).Nodup := by
  rw [List.Nodup, List.pairwise_map, List.pairwise_iff_getElem]
  intro i j hi hj hij
  have h1 := hd.id i _ (List.getElem?_eq_getElem hi)
  have h2 := hd.id j _ (List.getElem?_eq_getElem hj)
  rw [h1, h2, Ne, idOf_inj]
  omega
theorem DocOK.get (hd : DocOK d ts ms) {j : Nat} {p : Nt} (h : p ∈ ms.take j) : getN (ms.take j) p.id = some p :=
  getN_of ((((List.take_sublist j ms).map (·.id)).nodup hd.nodup)) h
theorem DocOK.fresh (hd : DocOK d ts ms) {j : Nat} {x : Nt} (h : ms[j]? = some x) : getN (ms.take j) x.id = none := by
  cases hg : getN (ms.take j) x.id with
  | none => rfl
  | some p =>
    obtain ⟨h1, h2⟩ := getN_some hg
    obtain ⟨i, hi⟩ := List.getElem?_of_mem h1
    have hij : i < j := by have := (List.getElem?_eq_some_iff.1 hi).1; rw [List.length_take] at this; omega
    rw [List.getElem?_take_of_lt hij] at hi
    have e1 := hd.id i p hi
    have e2 := hd.id j x h
    rw [e1, e2, idOf_inj] at h2
    omega

/-- A place, as the store has it. -/
theorem docPL {w y : Nat} {done : List Nt} {Y : Store} (hw : w ≤ 1) (hY : done ≠ [] → Y[y]? = some (.arr (done.map encN) 7 0 true)) : PL (docS b0 b1 b2 b5 b6 d w y done Y) w 4 3 (y + 1 + 1 + 1 + 1 + 1 + 1 + 1) d done :=
  ⟨rfl, hw, rfl, fun h => by simp only [docS, List.getElem?_cons_succ]; exact hY h, by decide, fun _ => by omega, fun _ => by omega⟩

theorem docWhy (hd : DocOK d ts ms) {w y j : Nat} {x : Nt} {Y : Store} (hw : w ≤ 1) (hj : ms[j]? = some x) (hY : ms.take j ≠ [] → Y[y]? = some (.arr ((ms.take j).map encN) 7 0 true)) :
    EvR CX 25 [.ptr 4 1 8 0 0, .agg (encN x)] (docS b0 b1 b2 b5 b6 d w y (ms.take j) Y) (fun v S' => v = .int .i64 0 ∧ ∃ G, S' = docS b0 b1 b2 b5 b6 d w y (ms.take j) (Y ++ G)) := by
  have hp := docPL (b0 := b0) (b1 := b1) (b2 := b2) (b5 := b5) (b6 := b6) (d := d) hw hY
  have f := hd.fine j x hj
  have hpl := hd.plain x (List.mem_of_getElem? hj)
  have hjl : (ms.take j).length < 300 := by have := hd.few; rw [List.length_take]; omega
  have par : (tierAt ts x.ti).kd ≠ 0 → ∃ p, getN (ms.take j) x.pa = some p ∧ p.ti = (tierAt ts x.ti).pa ∧ (alK (tierAt ts x.ti).kd = true → p.fr ≤ x.fr ∧ x.en ≤ p.en) := fun hk => by
    obtain ⟨p, h1, h2, h3, h4⟩ := f.par hk
    refine ⟨p, ?_, h3, h4⟩
    rw [← h2]; exact hd.get h1
  have hr : Rules (docS b0 b1 b2 b5 b6 d w y (ms.take j) Y) 4 x := by
    refine ⟨fun X => ?_, fun X => ?_, fun X => ?_, fun X => ?_, fun X => ?_, fun X => ?_, fun X => ?_⟩
    · exact rule1 (hp.ext X) hd.t f.ti0 f.tiL hpl.1 hpl.2.1 hpl.2.2
    · exact rule2 (hp.ext X) hjl
    · exact rule3 (hp.ext X) hd.t f.ti0 f.tiL (fun h => (f.par0 h).1) (fun h => by obtain ⟨p, h1, h2, _⟩ := par h; exact ⟨p, h1, h2⟩)
    · exact rule4 (hp.ext X) f.tx
    · exact rule5 (hp.ext X) hd.t f.ti0 f.tiL (fun h => rgt_iff.2 (f.sp h)) (fun h => (f.par0 h).2) (fun h => by obtain ⟨p, h1, _, h3⟩ := par h; exact ⟨p, h1, h3⟩)
    · exact rule6 (hp.ext X) hd.t f.ti0 f.tiL hjl f.over
    · exact rule7 (hp.ext X) hd.t f.ti0 f.tiL hjl f.lab
  refine (whyE hr).mono ?_
  rintro v S' ⟨h1, G, rfl⟩
  exact ⟨h1, G, rfl⟩

theorem docPut (hd : DocOK d ts ms) {w y j : Nat} {x : Nt} {Y : Store} (hw : w ≤ 1) (hj : ms[j]? = some x) (hY : ms.take j ≠ [] → Y[y]? = some (.arr ((ms.take j).map encN) 7 0 true)) : PutOK b0 b1 b2 b5 b6 d w y (ms.take j) Y x := by
  have f := hd.fine j x hj
  exact putE hw hd.t hd.sc f.ti0 f.tiL (by have := hd.few; rw [List.length_take]; omega) hY (hd.fresh hj) f.sp0 f.rk1
end
end Go.Eng
