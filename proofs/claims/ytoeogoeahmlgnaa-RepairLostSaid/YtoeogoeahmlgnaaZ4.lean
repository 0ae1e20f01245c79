/- Part 4 of the texts behind this claim. -/
import Derived.Test.YtoeogoeahmlgnaaZ3
import Derived.Sort.LotD5
import Derived.Test.YtoeogoeahmlgnaaCtxS
import Derived.Test.YtoeogoeahmlgnaaEngV
import Derived.Test.YtoeogoeahmlgnaaEngR
set_option linter.all false

/- The library's sort of ints as a run: bits, the stirring of a row that sorts badly. -/
namespace Go.Eng
open Go.Proofs
set_option linter.unusedSimpArgs false
set_option linter.unusedVariables false
attribute [local irreducible] wpC wpO wp1 EvV EvR wpL
attribute [local go_sem] ty3 ty4 ty5 ty9 ty146 ty130 ty144 br92 br93 fz0 fz1 br78 fz58 reduceIte Nat.reduceAdd Nat.reduceEqDiff Nat.reduceLT Nat.reduceLeDiff beq_iff_eq beq_eq_false_iff_ne Int.natCast_inj Bool.not_eq_false' op1_go wpK_box wpK_alloc wpK_load wpK_store wpK_binOp wpK_unOp wpK_fieldAddr wpK_field wpK_build wpK_indexAddr wpK_slice wpK_len wpK_extract wpK_nilCheck wpK_pick wpK_makeFunc wpK_call wpK_callT wpK_max wpK_min wpK_assignT wpK_moveT wpK_assignB wpK_moveB wpK_assignI wpK_moveI wpK_assignA wpK_moveA callK_fn snapL_nil snapL_cons snap_int snap_bool snap_str snap_tsl snap_agg snap_fn snap_flat adopt_int adopt_bool adopt_str adopt_agg adopt_osl adopt_tsl adopt_tup op1_guard grdK_bool grdK_undef condK_bool someK_some pairK_some nilK_ptr nilK_tptr boxK storeK evalA_tmp evalA_int evalA_bool evalA_agg evalA_fn evalA_nil ofC_int ofC_bool getA_zero getA_succ cells_int cells_agg cells_bool cells_sl cells_tsl cell_int cell_bool cell_str cell_sl cell_esl cell_tsl cell_ptr cell_tptr cell_fn cell_nils cell_nilf List.all_cons List.all_nil Bool.and_true Bool.and_self Bool.true_and putA_some putA_none List.set_cons_zero List.set_cons_succ List.length_cons List.length_nil List.nil_append List.cons_append stabL AV.stab fieldAddrA fieldA List.getElem?_cons_zero List.getElem?_cons_succ Nat.zero_add loadA rowOf Nat.le_refl and_self true_and and_true partA binA unA intBin eqBin eqCells eqCell Option.bind_some decide_true decide_false decide_eq_true_eq ite_not Bool.not_eq_true' decide_eq_false_iff_not Bool.false_eq_true Option.map_some Option.map_none Bool.not_true Bool.not_false buildA fillA patch List.take List.drop List.map_cons List.map_nil extK List.getD_cons_zero List.getD_cons_succ minmaxA minmaxGo adoptZ_false adoptZ_true freeze_int freeze_bool freeze_str freeze_flat freeze_agg freeze_osl freeze_tsl freeze_tup frz1_bool frz1_int frz1_str frz1_agg frz1_osl frz1_tsl bne Bool.false_and Bool.and_false ne_eq not_true_eq_false not_false_eq_true List.append_nil resultsR resultsL resultA expK_int expK_bool expK_str expK_agg expK_own expK_tsl resK_some nestNo wpK_lookup wpK_makeMap wpK_mapUpdate cell_mp
set_option maxRecDepth 20000
set_option maxHeartbeats 4000000

theorem fdiv32 (n : Nat) : Int.fdiv (n : Int) 4294967296 = ((n / 4294967296 : Nat) : Int) := by rw [Int.fdiv_eq_ediv_of_nonneg _ (by omega)]; rfl
theorem fdiv16 (n : Nat) : Int.fdiv (n : Int) 65536 = ((n / 65536 : Nat) : Int) := by rw [Int.fdiv_eq_ediv_of_nonneg _ (by omega)]; rfl
theorem fdiv8 (n : Nat) : Int.fdiv (n : Int) 256 = ((n / 256 : Nat) : Int) := by rw [Int.fdiv_eq_ediv_of_nonneg _ (by omega)]; rfl
theorem fdiv7 (n : Nat) : Int.fdiv (n : Int) 128 = ((n / 128 : Nat) : Int) := by rw [Int.fdiv_eq_ediv_of_nonneg _ (by omega)]; rfl

theorem len_shift {n k : Nat} (h : 2 ^ k ≤ n) : Go.Sort.bitsLen n = k + Go.Sort.bitsLen (n / 2 ^ k) := by
  have h0 : 0 < n := Nat.lt_of_lt_of_le (Nat.two_pow_pos k) h
  have h1 : 0 < n / 2 ^ k := Nat.div_pos h (Nat.two_pow_pos k)
  apply Nat.le_antisymm
  · rw [Go.Sort.bitsLen_le_iff, Nat.pow_add]
    have := Go.Sort.lt_two_pow_bitsLen (n / 2 ^ k)
    rw [Nat.div_lt_iff_lt_mul (Nat.two_pow_pos k)] at this
    rw [Nat.mul_comm]; exact this
  · obtain ⟨m, hm⟩ : ∃ m, Go.Sort.bitsLen (n / 2 ^ k) = m + 1 := by
      cases hb : Go.Sort.bitsLen (n / 2 ^ k) with
      | zero => have := Go.Sort.lt_two_pow_bitsLen (n / 2 ^ k); rw [hb] at this; omega
      | succ m => exact ⟨m, rfl⟩
    rw [hm]
    apply Nat.lt_of_not_le
    intro hc
    rw [Go.Sort.bitsLen_le_iff] at hc
    have : Go.Sort.bitsLen (n / 2 ^ k) ≤ m := by
      rw [Go.Sort.bitsLen_le_iff, Nat.div_lt_iff_lt_mul (Nat.two_pow_pos k), ← Nat.pow_add, Nat.add_comm m k]; exact hc
    omega

theorem tab_step {s : ByteArray} {m : Nat} {b : UInt8} {dst : Option Tmp} {K : List AV → Store → Prop} {fr : List AV} {S : Store} {a c : Nat} {bb : Bool} {z : List AV} (hty : CX.ty 9 = some ⟨a, bb, c, z, .str⟩) (h : s[m]? = some b) (hk : K (putA fr dst (.int .u8 b.toNat)) S) :
    someK (indexA CX 9 (.str s) (.int .u8 (m : Int))) dst K fr S := by
  have e : indexA CX 9 (.str s) (.int .u8 (m : Int)) = some (.int .u8 b.toNat) := by simp [indexA, hty, h]
  rw [e, someK_some]; exact hk

theorem shr32 (n : Nat) : shiftBin .shr .u64 (n : Int) 32 = some (.int .u64 ((n / 4294967296 : Nat) : Int)) := by rw [← fdiv32]; rfl
theorem shr16 (n : Nat) : shiftBin .shr .u64 (n : Int) 16 = some (.int .u64 ((n / 65536 : Nat) : Int)) := by rw [← fdiv16]; rfl
theorem shr8 (n : Nat) : shiftBin .shr .u64 (n : Int) 8 = some (.int .u64 ((n / 256 : Nat) : Int)) := by rw [← fdiv8]; rfl
theorem shr7 (n : Nat) : shiftBin .shr .u64 (n : Int) 7 = some (.int .u64 ((n / 128 : Nat) : Int)) := by rw [← fdiv7]; rfl
theorem wrapU8 {n : Nat} (h : n < 256) : IntKind.wrap .u8 (n : Int) = (n : Int) := by
  simp [IntKind.wrap, IntKind.min, IntKind.max, IntKind.signed, IntKind.bits]
  omega
theorem wrapU64 {n : Nat} (h : n < 18446744073709551616) : IntKind.wrap .u64 (n : Int) = (n : Int) := by
  simp [IntKind.wrap, IntKind.min, IntKind.max, IntKind.signed, IntKind.bits]
  omega
theorem len_byte {n : Nat} (h : n < 256) : Go.Sort.bitsLen n ≤ 8 := (Go.Sort.bitsLen_le_iff n 8).2 (by omega)

theorem len64 (n : Nat) (hn : n < 4294967296) : EvV CX 93 [.int .u64 n] (· = .int .i64 (Go.Sort.bitsLen n : Nat)) := by
  have h32 : ¬ (4294967296 : Int) ≤ (n : Int) := by omega
  have tail : ∀ (m k : Nat), m < 256 → k ≤ 24 → Go.Sort.bitsLen n = k + Go.Sort.bitsLen m → IntKind.wrap .u8 (m : Int) = (m : Int) ∧ (UInt8.ofNat (Go.Sort.bitsLen m)).toNat = Go.Sort.bitsLen m ∧ IntKind.wrap .i64 ((Go.Sort.bitsLen m : Nat) : Int) = ((Go.Sort.bitsLen m : Nat) : Int) ∧ IntKind.wrap .i64 ((k : Int) + ((Go.Sort.bitsLen m : Nat) : Int)) = ((Go.Sort.bitsLen n : Nat) : Int) := fun m k hm hk e => by
    have := len_byte hm
    refine ⟨wrapU8 hm, ?_, wrap_small (by omega) (by omega), ?_⟩
    · simp; omega
    · rw [wrap_small (by omega) (by omega), e]; omega
  by_cases h16 : 65536 ≤ n
  · have h16' : (65536 : Int) ≤ (n : Int) := by omega
    by_cases h8 : 256 ≤ n / 65536
    · have h8' : (256 : Int) ≤ ((n / 65536 : Nat) : Int) := by omega
      obtain ⟨t1, t2, t3, t4⟩ := tail (n / 65536 / 256) 24 (by omega) (by omega) (by rw [len_shift (k := 16) h16, show 2 ^ 16 = 65536 from rfl, len_shift (k := 8) h8, show 2 ^ 8 = 256 from rfl]; omega)
      have t4 : IntKind.wrap .i64 (24 + ((Go.Sort.bitsLen (n / 65536 / 256) : Nat) : Int)) = ((Go.Sort.bitsLen n : Nat) : Int) := t4
      have k1 : IntKind.wrap .i64 (0 + 16) = 16 := rfl
      have k2 : IntKind.wrap .i64 (16 + 8) = 24 := rfl
      refine EvV.walk rfl fn93 rfl nt93 rfl ?_
      simp only [List.length_cons, List.length_nil, List.cons_append, List.nil_append, Nat.reduceAdd, Nat.reduceSub, List.replicate]
      repeat' (first | refine go1 ?_ | refine blockK_else rfl ?_ | (refine go2 fun A B a b => ?_; simp only [go_sem, *, cvtK_int, wpK_cvt ty146 ty5 rfl, wpK_cvt ty5 ty3 rfl, shr16, shr8]; (repeat' first | apply a.1 | apply b.1 | refine iteI (fun h => ?_) fun h => ?_) <;> clear a b A B))
      refine wpO_cons fun K hK => ?_
      simp only [go_sem, wpK_index, cvtK_int, wpK_cvt ty146 ty5 rfl, wpK_cvt ty5 ty3 rfl]
      refine tab_step (b := UInt8.ofNat (Go.Sort.bitsLen (n / 65536 / 256))) ty9 ?_ ?_
      · have hm : n / 65536 / 256 < 256 := by omega
        revert hm
        generalize n / 65536 / 256 = m
        revert m
        decide +kernel
      · refine hK.out _ _ ?_
        clear hK K
        rw [t2]
        repeat' (first | refine go1 ?_ | refine blockK_else rfl ?_ | (refine go2 fun A B a b => ?_; simp only [go_sem, *, cvtK_int, wpK_cvt ty146 ty5 rfl, wpK_cvt ty5 ty3 rfl, t3, t4]; (repeat' first | apply a.1 | apply b.1 | refine iteI (fun h => ?_) fun h => ?_) <;> clear a b A B))
        simp only [go_sem, cvtK_int, wpK_cvt ty146 ty5 rfl, wpK_cvt ty5 ty3 rfl, t4]
    · have h8' : ¬ (256 : Int) ≤ ((n / 65536 : Nat) : Int) := by omega
      obtain ⟨t1, t2, t3, t4⟩ := tail (n / 65536) 16 (by omega) (by omega) (by rw [len_shift (k := 16) h16])
      have t4 : IntKind.wrap .i64 (16 + ((Go.Sort.bitsLen (n / 65536) : Nat) : Int)) = ((Go.Sort.bitsLen n : Nat) : Int) := t4
      have k1 : IntKind.wrap .i64 (0 + 16) = 16 := rfl
      refine EvV.walk rfl fn93 rfl nt93 rfl ?_
      simp only [List.length_cons, List.length_nil, List.cons_append, List.nil_append, Nat.reduceAdd, Nat.reduceSub, List.replicate]
      repeat' (first | refine go1 ?_ | refine blockK_else rfl ?_ | (refine go2 fun A B a b => ?_; simp only [go_sem, *, cvtK_int, wpK_cvt ty146 ty5 rfl, wpK_cvt ty5 ty3 rfl, shr16, shr8]; (repeat' first | apply a.1 | apply b.1 | refine iteI (fun h => ?_) fun h => ?_) <;> clear a b A B))
      refine wpO_cons fun K hK => ?_
      simp only [go_sem, wpK_index, cvtK_int, wpK_cvt ty146 ty5 rfl, wpK_cvt ty5 ty3 rfl]
      refine tab_step (b := UInt8.ofNat (Go.Sort.bitsLen (n / 65536))) ty9 ?_ ?_
      · have hm : n / 65536 < 256 := by omega
        revert hm
        generalize n / 65536 = m
        revert m
        decide +kernel
      · refine hK.out _ _ ?_
        clear hK K
        rw [t2]
        repeat' (first | refine go1 ?_ | refine blockK_else rfl ?_ | (refine go2 fun A B a b => ?_; simp only [go_sem, *, cvtK_int, wpK_cvt ty146 ty5 rfl, wpK_cvt ty5 ty3 rfl, t3, t4]; (repeat' first | apply a.1 | apply b.1 | refine iteI (fun h => ?_) fun h => ?_) <;> clear a b A B))
        simp only [go_sem, cvtK_int, wpK_cvt ty146 ty5 rfl, wpK_cvt ty5 ty3 rfl, t4]
  · have h16' : ¬ (65536 : Int) ≤ (n : Int) := by omega
    by_cases h8 : 256 ≤ n
    · have h8' : (256 : Int) ≤ (n : Int) := by omega
      obtain ⟨t1, t2, t3, t4⟩ := tail (n / 256) 8 (by omega) (by omega) (by rw [len_shift (k := 8) h8])
      have t4 : IntKind.wrap .i64 (8 + ((Go.Sort.bitsLen (n / 256) : Nat) : Int)) = ((Go.Sort.bitsLen n : Nat) : Int) := t4
      have k1 : IntKind.wrap .i64 (0 + 8) = 8 := rfl
      refine EvV.walk rfl fn93 rfl nt93 rfl ?_
      simp only [List.length_cons, List.length_nil, List.cons_append, List.nil_append, Nat.reduceAdd, Nat.reduceSub, List.replicate]
      repeat' (first | refine go1 ?_ | refine blockK_else rfl ?_ | (refine go2 fun A B a b => ?_; simp only [go_sem, *, cvtK_int, wpK_cvt ty146 ty5 rfl, wpK_cvt ty5 ty3 rfl, shr16, shr8]; (repeat' first | apply a.1 | apply b.1 | refine iteI (fun h => ?_) fun h => ?_) <;> clear a b A B))
      refine wpO_cons fun K hK => ?_
      simp only [go_sem, wpK_index, cvtK_int, wpK_cvt ty146 ty5 rfl, wpK_cvt ty5 ty3 rfl]
      refine tab_step (b := UInt8.ofNat (Go.Sort.bitsLen (n / 256))) ty9 ?_ ?_
      · have hm : n / 256 < 256 := by omega
        revert hm
        generalize n / 256 = m
        revert m
        decide +kernel
      · refine hK.out _ _ ?_
        clear hK K
        rw [t2]
        repeat' (first | refine go1 ?_ | refine blockK_else rfl ?_ | (refine go2 fun A B a b => ?_; simp only [go_sem, *, cvtK_int, wpK_cvt ty146 ty5 rfl, wpK_cvt ty5 ty3 rfl, t3, t4]; (repeat' first | apply a.1 | apply b.1 | refine iteI (fun h => ?_) fun h => ?_) <;> clear a b A B))
        simp only [go_sem, cvtK_int, wpK_cvt ty146 ty5 rfl, wpK_cvt ty5 ty3 rfl, t4]
    · have h8' : ¬ (256 : Int) ≤ (n : Int) := by omega
      obtain ⟨t1, t2, t3, t4⟩ := tail n 0 (by omega) (by omega) (by omega)
      have t4 : IntKind.wrap .i64 (0 + ((Go.Sort.bitsLen n : Nat) : Int)) = ((Go.Sort.bitsLen n : Nat) : Int) := t4
      clear t4
      have t4 : IntKind.wrap .i64 (0 + ((Go.Sort.bitsLen n : Nat) : Int)) = ((Go.Sort.bitsLen n : Nat) : Int) := by rw [Int.zero_add]; exact t3
      refine EvV.walk rfl fn93 rfl nt93 rfl ?_
      simp only [List.length_cons, List.length_nil, List.cons_append, List.nil_append, Nat.reduceAdd, Nat.reduceSub, List.replicate]
      repeat' (first | refine go1 ?_ | refine blockK_else rfl ?_ | (refine go2 fun A B a b => ?_; simp only [go_sem, *, cvtK_int, wpK_cvt ty146 ty5 rfl, wpK_cvt ty5 ty3 rfl, shr16, shr8]; (repeat' first | apply a.1 | apply b.1 | refine iteI (fun h => ?_) fun h => ?_) <;> clear a b A B))
      refine wpO_cons fun K hK => ?_
      simp only [go_sem, wpK_index, cvtK_int, wpK_cvt ty146 ty5 rfl, wpK_cvt ty5 ty3 rfl]
      refine tab_step (b := UInt8.ofNat (Go.Sort.bitsLen (n))) ty9 ?_ ?_
      · have hm : n < 256 := by omega
        revert hm
        generalize n = m
        revert m
        decide +kernel
      · refine hK.out _ _ ?_
        clear hK K
        rw [t2]
        repeat' (first | refine go1 ?_ | refine blockK_else rfl ?_ | (refine go2 fun A B a b => ?_; simp only [go_sem, *, cvtK_int, wpK_cvt ty146 ty5 rfl, wpK_cvt ty5 ty3 rfl, t3, t4]; (repeat' first | apply a.1 | apply b.1 | refine iteI (fun h => ?_) fun h => ?_) <;> clear a b A B))
        simp only [go_sem, cvtK_int, wpK_cvt ty146 ty5 rfl, wpK_cvt ty5 ty3 rfl, t4]

theorem lenE (n : Nat) (hn : n < 4294967296) : EvV CX 78 [.int .u64 n] (· = .int .i64 (Go.Sort.bitsLen n : Nat)) := by
  have q := (len64 n hn).rw
  refine EvV.walk rfl fn78 rfl nt78 rfl ?_
  simp only [List.length_cons, List.length_nil, List.cons_append, List.nil_append, Nat.reduceAdd, Nat.reduceSub, List.replicate]
  repeat' (first | refine go1 ?_ | refine blockK_else rfl ?_ | (refine go2 fun A B a b => ?_; simp only [go_sem, *, cvtK_int, wpK_cvt ty130 ty144 rfl]; (repeat' first | apply a.1 | apply b.1 | refine iteI (fun h => ?_) fun h => ?_) <;> clear a b A B))
  simp only [go_sem, cvtK_int, wpK_cvt ty130 ty144 rfl]

theorem shl1 {k : Nat} (h : k ≤ 40) : shiftBin .shl .u64 1 (k : Int) = some (.int .u64 ((1 <<< k : Nat) : Int)) := by
  have e : IntKind.wrap .u64 ((1 <<< k : Nat) : Int) = ((1 <<< k : Nat) : Int) := wrapU64 (by
    rw [Nat.one_shiftLeft]; exact Nat.lt_of_le_of_lt (Nat.pow_le_pow_right (by omega) h) (by decide))
  have h1 : ¬ ((k : Int) < 0) := by omega
  have h2 : min (k : Nat) 64 = k := Nat.min_eq_left (by omega)
  simp only [shiftBin, h1, if_false, Int.toNat_natCast, IntKind.bits, h2, Int.one_mul]
  rw [← e]
  congr 3
  rw [Nat.one_shiftLeft]; simp

theorem nextE (n : Nat) (hn : n < 4294967296) : EvV CX 96 [.int .i64 n] (· = .int .u64 ((1 <<< Go.Sort.bitsLen n : Nat) : Int)) := by
  have q := (lenE n hn).rw
  have w1 := wrapU64 (n := n) (by omega)
  have hk := (Go.Sort.bitsLen_le_iff n 32).2 (by omega)
  have w2 := shl1 (k := Go.Sort.bitsLen n) (by omega)
  refine EvV.walk rfl fn96 rfl nt96 rfl ?_
  simp only [List.length_cons, List.length_nil, List.cons_append, List.nil_append, Nat.reduceAdd, Nat.reduceSub, List.replicate]
  repeat' (first | refine go1 ?_ | refine blockK_else rfl ?_ | (refine go2 fun A B a b => ?_; simp only [go_sem, *, cvtK_int, wpK_cvt ty3 ty130 rfl]; (repeat' first | apply a.1 | apply b.1 | refine iteI (fun h => ?_) fun h => ?_) <;> clear a b A B))
  simp only [go_sem, cvtK_int, wpK_cvt ty3 ty130 rfl]

/- The library's sort of ints as a run: bits, the stirring of a row that sorts badly. -/
open Go.Proofs
set_option maxRecDepth 20000
set_option maxHeartbeats 4000000


theorem wrapU64m (n : Nat) : IntKind.wrap .u64 (n : Int) = ((n % 18446744073709551616 : Nat) : Int) := by
  simp [IntKind.wrap, IntKind.min, IntKind.max, IntKind.signed, IntKind.bits]
theorem shl13 (n : Nat) : shiftBin .shl .u64 (n : Int) 13 = some (.int .u64 ((n * 8192 % 18446744073709551616 : Nat) : Int)) := by
  rw [← wrapU64m]; rfl
theorem shl17 (n : Nat) : shiftBin .shl .u64 (n : Int) 17 = some (.int .u64 ((n * 131072 % 18446744073709551616 : Nat) : Int)) := by
  rw [← wrapU64m]; rfl
theorem xorN {x y : Nat} (hx : x < 18446744073709551616) (hy : y < 18446744073709551616) : IntKind.wrap .u64 (((BitVec.ofInt 64 (x : Int) ^^^ BitVec.ofInt 64 (y : Int)).toNat : Nat) : Int) = ((x ^^^ y : Nat) : Int) := by
  have e1 : (BitVec.ofInt 64 (x : Int)).toNat = x := by simp; omega
  have e2 : (BitVec.ofInt 64 (y : Int)).toNat = y := by simp; omega
  rw [BitVec.toNat_xor, e1, e2]
  exact wrapU64 (Nat.xor_lt_two_pow (n := 64) hx hy)
theorem andN {x y : Nat} (hx : x < 18446744073709551616) (hy : y < 18446744073709551616) : IntKind.wrap .u64 (((BitVec.ofInt 64 (x : Int) &&& BitVec.ofInt 64 (y : Int)).toNat : Nat) : Int) = ((x &&& y : Nat) : Int) := by
  have e1 : (BitVec.ofInt 64 (x : Int)).toNat = x := by simp; omega
  have e2 : (BitVec.ofInt 64 (y : Int)).toNat = y := by simp; omega
  rw [BitVec.toNat_and, e1, e2]
  exact wrapU64 (Nat.lt_of_le_of_lt Nat.and_le_left hx)

theorem xorB {x y : Nat} (hx : x < 18446744073709551616) (hy : y < 18446744073709551616) : IntKind.wrap .u64 (((BitVec.ofInt IntKind.u64.bits (x : Int) ^^^ BitVec.ofInt IntKind.u64.bits (y : Int)).toNat : Nat) : Int) = ((x ^^^ y : Nat) : Int) := xorN hx hy
theorem andB {x y : Nat} (hx : x < 18446744073709551616) (hy : y < 18446744073709551616) : IntKind.wrap .u64 (((BitVec.ofInt IntKind.u64.bits (x : Int) &&& BitVec.ofInt IntKind.u64.bits (y : Int)).toNat : Nat) : Int) = ((x &&& y : Nat) : Int) := andN hx hy

def SX (A C1 C2 : Store) (d : Array El) (w x ws : Nat) : Store := A ++ .arr (rowsD d) 1 w true :: (C1 ++ .arr [[.int .u64 (x : Int)]] 1 ws true :: C2)

theorem nxE (A C1 C2 : Store) (d : Array El) (w x ws : Nat) (hx : x < 18446744073709551616) (hws : ws ≤ 1) :
    EvR CX 97 [.ptr (A.length + (C1.length + 1)) 1 1 0 0] (SX A C1 C2 d w x ws)
      (fun v S => v = .int .u64 (Go.Sort.xorNextN x : Nat) ∧ S = SX A C1 C2 d w (Go.Sort.xorNextN x) 1) := by
  unfold SX
  have z : (0 : Nat) < 1 := by omega
  obtain ⟨p, hp⟩ : ∃ p, x ^^^ (x * 8192 % 18446744073709551616) = p := ⟨_, rfl⟩
  have x1 := xorB (x := x) (y := x * 8192 % 18446744073709551616) hx (by omega)
  have hpl : p < 18446744073709551616 := by rw [← hp]; exact Nat.xor_lt_two_pow (n := 64) hx (by omega)
  obtain ⟨q, hq⟩ : ∃ q, p ^^^ (p / 128) = q := ⟨_, rfl⟩
  have x2 := xorB (x := p) (y := p / 128) hpl (by omega)
  have hql : q < 18446744073709551616 := by rw [← hq]; exact Nat.xor_lt_two_pow (n := 64) hpl (by omega)
  obtain ⟨r, hr⟩ : ∃ r, q ^^^ (q * 131072 % 18446744073709551616) = r := ⟨_, rfl⟩
  have x3 := xorB (x := q) (y := q * 131072 % 18446744073709551616) hql (by omega)
  have e : Go.Sort.xorNextN x = r := by unfold Go.Sort.xorNextN; simp only [hp, hq, hr]
  rw [e]
  rw [hp] at x1; rw [hq] at x2; rw [hr] at x3
  refine EvR.walk rfl fn97 rfl nt97 rfl ?_
  simp only [List.length_cons, List.length_nil, List.cons_append, List.nil_append, Nat.reduceAdd, Nat.reduceSub, List.replicate]
  repeat' (first | refine go1 ?_ | refine blockK_else rfl ?_ | (refine go2 fun A B a b => ?_; simp only [beq_iff_eq, beq_eq_false_iff_ne, Int.natCast_inj, Bool.not_eq_false', op1_go, wpK_box, wpK_alloc, wpK_load, wpK_store, wpK_binOp, wpK_unOp, wpK_fieldAddr, wpK_field, wpK_build, wpK_indexAddr, wpK_slice, wpK_len, wpK_extract, wpK_nilCheck, wpK_pick, wpK_makeFunc, wpK_call, wpK_callT, wpK_max, wpK_min, wpK_assignT, wpK_moveT, wpK_assignB, wpK_moveB, wpK_assignI, wpK_moveI, wpK_assignA, wpK_moveA, callK_fn, snapL_nil, snapL_cons, snap_int, snap_bool, snap_str, snap_tsl, snap_agg, snap_fn, snap_flat, adopt_int, adopt_bool, adopt_str, adopt_agg, adopt_osl, adopt_tsl, adopt_tup, op1_guard, grdK_bool, grdK_undef, condK_bool, someK_some, pairK_some, nilK_ptr, nilK_tptr, boxK, storeK, evalA_tmp, evalA_int, evalA_bool, evalA_agg, evalA_fn, evalA_nil, ofC_int, ofC_bool, getA_zero, getA_succ, cells_int, cells_agg, cells_bool, cells_sl, cells_tsl, cell_int, cell_bool, cell_str, cell_sl, cell_esl, cell_tsl, cell_ptr, cell_tptr, cell_fn, cell_nils, cell_nilf, List.all_cons, List.all_nil, Bool.and_true, Bool.and_self, Bool.true_and, putA_some, putA_none, List.set_cons_zero, List.set_cons_succ, List.length_cons, List.length_nil, List.nil_append, List.cons_append, stabL, AV.stab, fieldAddrA, fieldA, List.getElem?_cons_zero, List.getElem?_cons_succ, Nat.zero_add, loadA, rowOf, Nat.le_refl, and_self, true_and, and_true, partA, binA, unA, intBin, eqBin, eqCells, eqCell, Option.bind_some, decide_true, decide_false, decide_eq_true_eq, ite_not, Bool.not_eq_true', decide_eq_false_iff_not, Bool.false_eq_true, Option.map_some, Option.map_none, Bool.not_true, Bool.not_false, buildA, fillA, patch, List.take, List.drop, List.map_cons, List.map_nil, extK, List.getD_cons_zero, List.getD_cons_succ, minmaxA, minmaxGo, adoptZ_false, adoptZ_true, freeze_int, freeze_bool, freeze_str, freeze_flat, freeze_agg, freeze_osl, freeze_tsl, freeze_tup, frz1_bool, frz1_int, frz1_str, frz1_agg, frz1_osl, frz1_tsl, bne, Bool.false_and, Bool.and_false, ne_eq, not_true_eq_false, not_false_eq_true, List.append_nil, resultsR, resultsL, resultA, expK_int, expK_bool, expK_str, expK_agg, expK_own, expK_tsl, resK_some, nestNo, wpK_lookup, wpK_makeMap, wpK_mapUpdate, cell_mp, reduceIte, Nat.reduceAdd, Nat.reduceEqDiff, Nat.reduceLT, Nat.reduceLeDiff, *, ty146, ty148, ty154, getElem?_lenAdd, set_lenAdd, List.getElem?_cons_succ, List.set_cons_succ, getElem?_len, set_len, shl13, shl17, shr7]; (repeat' first | apply a.1 | apply b.1 | refine iteI (fun h => ?_) fun h => ?_) <;> clear a b A B))
  simp only [resultsR, resultsL, resultA, expK_int, expK_bool, expK_str, expK_agg, expK_own, expK_tsl, resK_some, beq_iff_eq, beq_eq_false_iff_ne, Int.natCast_inj, Bool.not_eq_false', op1_go, wpK_box, wpK_alloc, wpK_load, wpK_store, wpK_binOp, wpK_unOp, wpK_fieldAddr, wpK_field, wpK_build, wpK_indexAddr, wpK_slice, wpK_len, wpK_extract, wpK_nilCheck, wpK_pick, wpK_makeFunc, wpK_call, wpK_callT, wpK_max, wpK_min, wpK_assignT, wpK_moveT, wpK_assignB, wpK_moveB, wpK_assignI, wpK_moveI, wpK_assignA, wpK_moveA, callK_fn, snapL_nil, snapL_cons, snap_int, snap_bool, snap_str, snap_tsl, snap_agg, snap_fn, snap_flat, adopt_int, adopt_bool, adopt_str, adopt_agg, adopt_osl, adopt_tsl, adopt_tup, op1_guard, grdK_bool, grdK_undef, condK_bool, someK_some, pairK_some, nilK_ptr, nilK_tptr, boxK, storeK, evalA_tmp, evalA_int, evalA_bool, evalA_agg, evalA_fn, evalA_nil, ofC_int, ofC_bool, getA_zero, getA_succ, cells_int, cells_agg, cells_bool, cells_sl, cells_tsl, cell_int, cell_bool, cell_str, cell_sl, cell_esl, cell_tsl, cell_ptr, cell_tptr, cell_fn, cell_nils, cell_nilf, List.all_cons, List.all_nil, Bool.and_true, Bool.and_self, Bool.true_and, putA_some, putA_none, List.set_cons_zero, List.set_cons_succ, List.length_cons, List.length_nil, List.nil_append, List.cons_append, stabL, AV.stab, fieldAddrA, fieldA, List.getElem?_cons_zero, List.getElem?_cons_succ, Nat.zero_add, loadA, rowOf, Nat.le_refl, and_self, true_and, and_true, partA, binA, unA, intBin, eqBin, eqCells, eqCell, Option.bind_some, decide_true, decide_false, decide_eq_true_eq, ite_not, Bool.not_eq_true', decide_eq_false_iff_not, Bool.false_eq_true, Option.map_some, Option.map_none, Bool.not_true, Bool.not_false, buildA, fillA, patch, List.take, List.drop, List.map_cons, List.map_nil, extK, List.getD_cons_zero, List.getD_cons_succ, minmaxA, minmaxGo, adoptZ_false, adoptZ_true, freeze_int, freeze_bool, freeze_str, freeze_flat, freeze_agg, freeze_osl, freeze_tsl, freeze_tup, frz1_bool, frz1_int, frz1_str, frz1_agg, frz1_osl, frz1_tsl, bne, Bool.false_and, Bool.and_false, ne_eq, not_true_eq_false, not_false_eq_true, List.append_nil, resultsR, resultsL, resultA, expK_int, expK_bool, expK_str, expK_agg, expK_own, expK_tsl, resK_some, nestNo, wpK_lookup, wpK_makeMap, wpK_mapUpdate, cell_mp, reduceIte, Nat.reduceAdd, Nat.reduceEqDiff, Nat.reduceLT, Nat.reduceLeDiff, ty146, ty148, ty154, ]

def stir (a L M : Nat) : Nat → Nat → UInt64 × Array El → UInt64 × Array El
  | 0, _, st => st
  | k + 1, idx, st => stir a L M k (idx + 1) (Go.Sort.breakStep a L M st idx)

theorem breakE (A C : Store) (d : Array El) (n w a b : Nat) (hn : d.size = n) (hw : w ≤ n) (hab : a < b) (hb : b ≤ n) (hsm : n < 4294967296) :
    EvR CX 85 [.sl A.length n 0 n 1, .int .i64 a, .int .i64 b] (A ++ .arr (rowsD d) 1 w true :: C) (fun v S => v = .tup [] ∧ Left A C n (Go.Sort.breakPatterns d a b) S) := by
  have q1 : IntKind.wrap .i64 ((b : Int) - (a : Int)) = ((b - a : Nat) : Int) := by rw [wrap_small (by omega) (by omega)]; omega
  by_cases h8 : b - a ≥ 8
  · have h8' : (8 : Int) ≤ ((b - a : Nat) : Int) := by omega
    obtain ⟨L, hL⟩ : ∃ L, b - a = L := ⟨_, rfl⟩
    rw [hL] at h8 h8' q1
    have q2 : IntKind.wrap .i64 ((L : Int).tdiv 4) = ((L / 4 : Nat) : Int) := by rw [Int.tdiv_eq_ediv_of_nonneg (by omega), wrap_small (by omega) (by omega)]; omega
    have q4 : IntKind.wrap .i64 (((L / 4 : Nat) : Int) * 2) = ((L / 4 * 2 : Nat) : Int) := by rw [wrap_small (by omega) (by omega)]; omega
    have q5 : IntKind.wrap .i64 ((a : Int) + ((L / 4 * 2 : Nat) : Int)) = ((a + L / 4 * 2 : Nat) : Int) := by rw [wrap_small (by omega) (by omega)]; omega
    have q6 : IntKind.wrap .i64 (((a + L / 4 * 2 : Nat) : Int) - 1) = ((a + L / 4 * 2 - 1 : Nat) : Int) := by rw [wrap_small (by omega) (by omega)]; omega
    have q7 := wrap_succ (n := a + L / 4 * 2) (by omega)
    have q8 := wrapU64 (n := L) (by omega)
    have q9 : ¬ (4 : Int) = 0 := by omega
    have z : (0 : Nat) < 1 := by omega
    obtain ⟨M, hM⟩ : ∃ M, 1 <<< Go.Sort.bitsLen L = M := ⟨_, rfl⟩
    have qn := (nextE L (by omega)).rw
    rw [hM] at qn
    have hM1 : M ≤ 2 * L := by rw [← hM, Nat.one_shiftLeft]; exact Go.Sort.two_pow_bitsLen_le (by omega)
    have hM0 : 0 < M := by rw [← hM, Nat.one_shiftLeft]; exact Nat.two_pow_pos _
    have q10 : IntKind.wrap .u64 ((M : Int) - 1) = ((M - 1 : Nat) : Int) := by
      rw [← wrapU64 (n := M - 1) (by omega)]; congr 1; omega
    have hB : Go.Sort.breakPatterns d a b = (stir a L M 3 (a + L / 4 * 2 - 1) (UInt64.ofNat L, d)).2 := by
      unfold Go.Sort.breakPatterns
      simp only [hL]
      rw [if_pos h8, hM]
      rfl
    rw [hB]
    obtain ⟨R, hR⟩ : ∃ R, stir a L M 3 (a + L / 4 * 2 - 1) (UInt64.ofNat L, d) = R := ⟨_, rfl⟩
    rw [hR]
    refine EvR.walk rfl fn85 rfl nt85 rfl ?_
    simp only [List.length_cons, List.length_nil, List.cons_append, List.nil_append, Nat.reduceAdd, Nat.reduceSub, List.replicate]
    repeat' (first | refine go1 ?_ | refine blockK_else rfl ?_ | (refine go2 fun A B a b => ?_; simp only [beq_iff_eq, beq_eq_false_iff_ne, Int.natCast_inj, Bool.not_eq_false', op1_go, wpK_box, wpK_alloc, wpK_load, wpK_store, wpK_binOp, wpK_unOp, wpK_fieldAddr, wpK_field, wpK_build, wpK_indexAddr, wpK_slice, wpK_len, wpK_extract, wpK_nilCheck, wpK_pick, wpK_makeFunc, wpK_call, wpK_callT, wpK_max, wpK_min, wpK_assignT, wpK_moveT, wpK_assignB, wpK_moveB, wpK_assignI, wpK_moveI, wpK_assignA, wpK_moveA, callK_fn, snapL_nil, snapL_cons, snap_int, snap_bool, snap_str, snap_tsl, snap_agg, snap_fn, snap_flat, adopt_int, adopt_bool, adopt_str, adopt_agg, adopt_osl, adopt_tsl, adopt_tup, op1_guard, grdK_bool, grdK_undef, condK_bool, someK_some, pairK_some, nilK_ptr, nilK_tptr, boxK, storeK, evalA_tmp, evalA_int, evalA_bool, evalA_agg, evalA_fn, evalA_nil, ofC_int, ofC_bool, getA_zero, getA_succ, cells_int, cells_agg, cells_bool, cells_sl, cells_tsl, cell_int, cell_bool, cell_str, cell_sl, cell_esl, cell_tsl, cell_ptr, cell_tptr, cell_fn, cell_nils, cell_nilf, List.all_cons, List.all_nil, Bool.and_true, Bool.and_self, Bool.true_and, putA_some, putA_none, List.set_cons_zero, List.set_cons_succ, List.length_cons, List.length_nil, List.nil_append, List.cons_append, stabL, AV.stab, fieldAddrA, fieldA, List.getElem?_cons_zero, List.getElem?_cons_succ, Nat.zero_add, loadA, rowOf, Nat.le_refl, and_self, true_and, and_true, partA, binA, unA, intBin, eqBin, eqCells, eqCell, Option.bind_some, decide_true, decide_false, decide_eq_true_eq, ite_not, Bool.not_eq_true', decide_eq_false_iff_not, Bool.false_eq_true, Option.map_some, Option.map_none, Bool.not_true, Bool.not_false, buildA, fillA, patch, List.take, List.drop, List.map_cons, List.map_nil, extK, List.getD_cons_zero, List.getD_cons_succ, minmaxA, minmaxGo, adoptZ_false, adoptZ_true, freeze_int, freeze_bool, freeze_str, freeze_flat, freeze_agg, freeze_osl, freeze_tsl, freeze_tup, frz1_bool, frz1_int, frz1_str, frz1_agg, frz1_osl, frz1_tsl, bne, Bool.false_and, Bool.and_false, ne_eq, not_true_eq_false, not_false_eq_true, List.append_nil, resultsR, resultsL, resultA, expK_int, expK_bool, expK_str, expK_agg, expK_own, expK_tsl, resK_some, nestNo, wpK_lookup, wpK_makeMap, wpK_mapUpdate, cell_mp, reduceIte, Nat.reduceAdd, Nat.reduceEqDiff, Nat.reduceLT, Nat.reduceLeDiff, *, ty3, ty4, ty22, ty130, ty146, ty148, br96, br97, allocK, cvtK_int, fz80, fz81, wpK_cvt ty130 ty3 rfl, wpK_cvt ty3 ty148 rfl, List.length_append, List.append_assoc, getElem?_lenAdd, set_lenAdd, List.getElem?_cons_succ, List.set_cons_succ, getElem?_len, set_len]; (repeat' first | apply a.1 | apply b.1 | refine iteI (fun h => ?_) fun h => ?_) <;> clear a b A B))
    obtain ⟨I, hI⟩ : ∃ I, a + L / 4 * 2 - 1 = I := ⟨_, rfl⟩
    rw [hI] at hR ⊢
    refine wpC_loopF [10, 26, 27, 28, 29, 30, 31, 32, 33, 34, 35, 36, 37, 38, 39, 40, 41, 42, 43, 44, 45, 46, 47, 48, 49, 50, 51, 52, 53, 54, 55, 56, 57, 58, 59, 60, 61, 62, 63, 64] (fun p : Nat × Nat × UInt64 × Array El × Nat × Nat => [(9, .int .i64 p.2.1)]) (fun p H => SX A C H p.2.2.2.1 p.2.2.2.2.1 p.2.2.1.toNat p.2.2.2.2.2)
      (fun p => p.2.2.2.1.size = n ∧ p.2.2.2.2.1 ≤ n ∧ p.2.2.2.2.2 ≤ 1 ∧ p.2.1 + p.1 = a + L / 4 * 2 + 2 ∧ p.1 ≤ 3 ∧ stir a L M p.1 p.2.1 (p.2.2.1, p.2.2.2.1) = R) (fun p => p.1) (3, I, UInt64.ofNat L, d, w, 1) ⟨hn, hw, Nat.le_refl _, by simp only; omega, Nat.le_refl _, hR⟩ ?_ ?_ ?_
    · rfl
    · refine ⟨[], ?_⟩
      have e : (UInt64.ofNat L).toNat = L := by simp; omega
      simp only [SX, e]
    clear hR hI hn hw w hB q6
    rintro ⟨k, idx, r, d1, w, ws⟩ g G ⟨hn, hw, hws, hix, hk, hR⟩
    simp only at hn hw hws hix hk hR
    unfold SX
    simp only [garbA_cons, garbA_nil, setL_cons, setL_nil, List.set_cons_zero, List.set_cons_succ]
    cases k with
    | zero =>
      have h1 : ¬ (idx : Int) ≤ ((a + L / 4 * 2 + 1 : Nat) : Int) := by omega
      simp only [stir] at hR
      subst hR
      repeat' (first | refine go1 ?_ | refine blockK_else rfl ?_ | (refine go2 fun A B a b => ?_; simp only [beq_iff_eq, beq_eq_false_iff_ne, Int.natCast_inj, Bool.not_eq_false', op1_go, wpK_box, wpK_alloc, wpK_load, wpK_store, wpK_binOp, wpK_unOp, wpK_fieldAddr, wpK_field, wpK_build, wpK_indexAddr, wpK_slice, wpK_len, wpK_extract, wpK_nilCheck, wpK_pick, wpK_makeFunc, wpK_call, wpK_callT, wpK_max, wpK_min, wpK_assignT, wpK_moveT, wpK_assignB, wpK_moveB, wpK_assignI, wpK_moveI, wpK_assignA, wpK_moveA, callK_fn, snapL_nil, snapL_cons, snap_int, snap_bool, snap_str, snap_tsl, snap_agg, snap_fn, snap_flat, adopt_int, adopt_bool, adopt_str, adopt_agg, adopt_osl, adopt_tsl, adopt_tup, op1_guard, grdK_bool, grdK_undef, condK_bool, someK_some, pairK_some, nilK_ptr, nilK_tptr, boxK, storeK, evalA_tmp, evalA_int, evalA_bool, evalA_agg, evalA_fn, evalA_nil, ofC_int, ofC_bool, getA_zero, getA_succ, cells_int, cells_agg, cells_bool, cells_sl, cells_tsl, cell_int, cell_bool, cell_str, cell_sl, cell_esl, cell_tsl, cell_ptr, cell_tptr, cell_fn, cell_nils, cell_nilf, List.all_cons, List.all_nil, Bool.and_true, Bool.and_self, Bool.true_and, putA_some, putA_none, List.set_cons_zero, List.set_cons_succ, List.length_cons, List.length_nil, List.nil_append, List.cons_append, stabL, AV.stab, fieldAddrA, fieldA, List.getElem?_cons_zero, List.getElem?_cons_succ, Nat.zero_add, loadA, rowOf, Nat.le_refl, and_self, true_and, and_true, partA, binA, unA, intBin, eqBin, eqCells, eqCell, Option.bind_some, decide_true, decide_false, decide_eq_true_eq, ite_not, Bool.not_eq_true', decide_eq_false_iff_not, Bool.false_eq_true, Option.map_some, Option.map_none, Bool.not_true, Bool.not_false, buildA, fillA, patch, List.take, List.drop, List.map_cons, List.map_nil, extK, List.getD_cons_zero, List.getD_cons_succ, minmaxA, minmaxGo, adoptZ_false, adoptZ_true, freeze_int, freeze_bool, freeze_str, freeze_flat, freeze_agg, freeze_osl, freeze_tsl, freeze_tup, frz1_bool, frz1_int, frz1_str, frz1_agg, frz1_osl, frz1_tsl, bne, Bool.false_and, Bool.and_false, ne_eq, not_true_eq_false, not_false_eq_true, List.append_nil, resultsR, resultsL, resultA, expK_int, expK_bool, expK_str, expK_agg, expK_own, expK_tsl, resK_some, nestNo, wpK_lookup, wpK_makeMap, wpK_mapUpdate, cell_mp, reduceIte, Nat.reduceAdd, Nat.reduceEqDiff, Nat.reduceLT, Nat.reduceLeDiff, *, ty3, ty4, ty22, ty130, ty146, ty148, br96, br97, allocK, cvtK_int, fz80, fz81, wpK_cvt ty130 ty3 rfl, wpK_cvt ty3 ty148 rfl, ]; (repeat' first | apply a.1 | apply b.1 | refine iteI (fun h => ?_) fun h => ?_) <;> clear a b A B))
      simp only [resultsR, resultsL, resultA, expK_int, expK_bool, expK_str, expK_agg, expK_own, expK_tsl, resK_some, beq_iff_eq, beq_eq_false_iff_ne, Int.natCast_inj, Bool.not_eq_false', op1_go, wpK_box, wpK_alloc, wpK_load, wpK_store, wpK_binOp, wpK_unOp, wpK_fieldAddr, wpK_field, wpK_build, wpK_indexAddr, wpK_slice, wpK_len, wpK_extract, wpK_nilCheck, wpK_pick, wpK_makeFunc, wpK_call, wpK_callT, wpK_max, wpK_min, wpK_assignT, wpK_moveT, wpK_assignB, wpK_moveB, wpK_assignI, wpK_moveI, wpK_assignA, wpK_moveA, callK_fn, snapL_nil, snapL_cons, snap_int, snap_bool, snap_str, snap_tsl, snap_agg, snap_fn, snap_flat, adopt_int, adopt_bool, adopt_str, adopt_agg, adopt_osl, adopt_tsl, adopt_tup, op1_guard, grdK_bool, grdK_undef, condK_bool, someK_some, pairK_some, nilK_ptr, nilK_tptr, boxK, storeK, evalA_tmp, evalA_int, evalA_bool, evalA_agg, evalA_fn, evalA_nil, ofC_int, ofC_bool, getA_zero, getA_succ, cells_int, cells_agg, cells_bool, cells_sl, cells_tsl, cell_int, cell_bool, cell_str, cell_sl, cell_esl, cell_tsl, cell_ptr, cell_tptr, cell_fn, cell_nils, cell_nilf, List.all_cons, List.all_nil, Bool.and_true, Bool.and_self, Bool.true_and, putA_some, putA_none, List.set_cons_zero, List.set_cons_succ, List.length_cons, List.length_nil, List.nil_append, List.cons_append, stabL, AV.stab, fieldAddrA, fieldA, List.getElem?_cons_zero, List.getElem?_cons_succ, Nat.zero_add, loadA, rowOf, Nat.le_refl, and_self, true_and, and_true, partA, binA, unA, intBin, eqBin, eqCells, eqCell, Option.bind_some, decide_true, decide_false, decide_eq_true_eq, ite_not, Bool.not_eq_true', decide_eq_false_iff_not, Bool.false_eq_true, Option.map_some, Option.map_none, Bool.not_true, Bool.not_false, buildA, fillA, patch, List.take, List.drop, List.map_cons, List.map_nil, extK, List.getD_cons_zero, List.getD_cons_succ, minmaxA, minmaxGo, adoptZ_false, adoptZ_true, freeze_int, freeze_bool, freeze_str, freeze_flat, freeze_agg, freeze_osl, freeze_tsl, freeze_tup, frz1_bool, frz1_int, frz1_str, frz1_agg, frz1_osl, frz1_tsl, bne, Bool.false_and, Bool.and_false, ne_eq, not_true_eq_false, not_false_eq_true, List.append_nil, resultsR, resultsL, resultA, expK_int, expK_bool, expK_str, expK_agg, expK_own, expK_tsl, resK_some, nestNo, wpK_lookup, wpK_makeMap, wpK_mapUpdate, cell_mp, reduceIte, Nat.reduceAdd, Nat.reduceEqDiff, Nat.reduceLT, Nat.reduceLeDiff, ty3, ty4, ty22, ty130, ty146, ty148, br96, br97, allocK, cvtK_int, fz80, fz81, wpK_cvt ty130 ty3 rfl, wpK_cvt ty3 ty148 rfl, ]
      exact ⟨hn, w, _, hw, rfl⟩
    | succ k =>
      have h1 : (idx : Int) ≤ ((a + L / 4 * 2 + 1 : Nat) : Int) := by omega
      have hrl : r.toNat < 18446744073709551616 := r.toNat_lt
      obtain ⟨r', hr'⟩ : ∃ r', Go.Sort.xorNext r = r' := ⟨_, rfl⟩
      have hx : Go.Sort.xorNextN r.toNat = r'.toNat := by rw [← Go.Sort.xorNext_toNat, hr']
      have hrl' : r'.toNat < 18446744073709551616 := r'.toNat_lt
      obtain ⟨o, ho⟩ : ∃ o, r'.toNat &&& (M - 1) = o := ⟨_, rfl⟩
      have hol : o ≤ M - 1 := by rw [← ho]; exact Nat.and_le_right
      have a1 := andB (x := r'.toNat) (y := M - 1) hrl' (by omega)
      rw [ho] at a1
      have a2 := wrap_small (n := (o : Int)) (by omega) (by omega)
      have w2 := wrap_succ (n := idx) (by omega)
      simp only [stir, Go.Sort.breakStep, hr', ho] at hR
      obtain ⟨t, ht⟩ : ∃ t, (if o ≥ L then o - L else o) = t := ⟨_, rfl⟩
      rw [ht] at hR
      have htl : t < L := by rw [← ht]; split <;> omega
      have a3 : IntKind.wrap .i64 ((a : Int) + (t : Int)) = ((a + t : Nat) : Int) := by rw [wrap_small (by omega) (by omega)]; omega
      have i1 : a + t < n := by omega
      have i2 : idx < n := by omega
      repeat' (first | refine go1 ?_ | refine blockK_else rfl ?_ | (refine wpO_consD fun A B a b => ?_; simp only [beq_iff_eq, beq_eq_false_iff_ne, Int.natCast_inj, Bool.not_eq_false', op1_go, wpK_box, wpK_alloc, wpK_load, wpK_store, wpK_binOp, wpK_unOp, wpK_fieldAddr, wpK_field, wpK_build, wpK_indexAddr, wpK_slice, wpK_len, wpK_extract, wpK_nilCheck, wpK_pick, wpK_makeFunc, wpK_call, wpK_callT, wpK_max, wpK_min, wpK_assignT, wpK_moveT, wpK_assignB, wpK_moveB, wpK_assignI, wpK_moveI, wpK_assignA, wpK_moveA, callK_fn, snapL_nil, snapL_cons, snap_int, snap_bool, snap_str, snap_tsl, snap_agg, snap_fn, snap_flat, adopt_int, adopt_bool, adopt_str, adopt_agg, adopt_osl, adopt_tsl, adopt_tup, op1_guard, grdK_bool, grdK_undef, condK_bool, someK_some, pairK_some, nilK_ptr, nilK_tptr, boxK, storeK, evalA_tmp, evalA_int, evalA_bool, evalA_agg, evalA_fn, evalA_nil, ofC_int, ofC_bool, getA_zero, getA_succ, cells_int, cells_agg, cells_bool, cells_sl, cells_tsl, cell_int, cell_bool, cell_str, cell_sl, cell_esl, cell_tsl, cell_ptr, cell_tptr, cell_fn, cell_nils, cell_nilf, List.all_cons, List.all_nil, Bool.and_true, Bool.and_self, Bool.true_and, putA_some, putA_none, List.set_cons_zero, List.set_cons_succ, List.length_cons, List.length_nil, List.nil_append, List.cons_append, stabL, AV.stab, fieldAddrA, fieldA, List.getElem?_cons_zero, List.getElem?_cons_succ, Nat.zero_add, loadA, rowOf, Nat.le_refl, and_self, true_and, and_true, partA, binA, unA, intBin, eqBin, eqCells, eqCell, Option.bind_some, decide_true, decide_false, decide_eq_true_eq, ite_not, Bool.not_eq_true', decide_eq_false_iff_not, Bool.false_eq_true, Option.map_some, Option.map_none, Bool.not_true, Bool.not_false, buildA, fillA, patch, List.take, List.drop, List.map_cons, List.map_nil, extK, List.getD_cons_zero, List.getD_cons_succ, minmaxA, minmaxGo, adoptZ_false, adoptZ_true, freeze_int, freeze_bool, freeze_str, freeze_flat, freeze_agg, freeze_osl, freeze_tsl, freeze_tup, frz1_bool, frz1_int, frz1_str, frz1_agg, frz1_osl, frz1_tsl, bne, Bool.false_and, Bool.and_false, ne_eq, not_true_eq_false, not_false_eq_true, List.append_nil, resultsR, resultsL, resultA, expK_int, expK_bool, expK_str, expK_agg, expK_own, expK_tsl, resK_some, nestNo, wpK_lookup, wpK_makeMap, wpK_mapUpdate, cell_mp, reduceIte, Nat.reduceAdd, Nat.reduceEqDiff, Nat.reduceLT, Nat.reduceLeDiff, *, ty3, ty4, ty22, ty130, ty146, ty148, br96, br97, allocK, cvtK_int, fz80, fz81, wpK_cvt ty130 ty3 rfl, wpK_cvt ty3 ty148 rfl, ]; (repeat' first | apply a.1 | refine iteI (fun h => ?_) fun h => ?_) <;> clear a b A B))
      (refine wpC_cond fun A B hA hB => ?_; simp only [beq_iff_eq, beq_eq_false_iff_ne, Int.natCast_inj, Bool.not_eq_false', op1_go, wpK_box, wpK_alloc, wpK_load, wpK_store, wpK_binOp, wpK_unOp, wpK_fieldAddr, wpK_field, wpK_build, wpK_indexAddr, wpK_slice, wpK_len, wpK_extract, wpK_nilCheck, wpK_pick, wpK_makeFunc, wpK_call, wpK_callT, wpK_max, wpK_min, wpK_assignT, wpK_moveT, wpK_assignB, wpK_moveB, wpK_assignI, wpK_moveI, wpK_assignA, wpK_moveA, callK_fn, snapL_nil, snapL_cons, snap_int, snap_bool, snap_str, snap_tsl, snap_agg, snap_fn, snap_flat, adopt_int, adopt_bool, adopt_str, adopt_agg, adopt_osl, adopt_tsl, adopt_tup, op1_guard, grdK_bool, grdK_undef, condK_bool, someK_some, pairK_some, nilK_ptr, nilK_tptr, boxK, storeK, evalA_tmp, evalA_int, evalA_bool, evalA_agg, evalA_fn, evalA_nil, ofC_int, ofC_bool, getA_zero, getA_succ, cells_int, cells_agg, cells_bool, cells_sl, cells_tsl, cell_int, cell_bool, cell_str, cell_sl, cell_esl, cell_tsl, cell_ptr, cell_tptr, cell_fn, cell_nils, cell_nilf, List.all_cons, List.all_nil, Bool.and_true, Bool.and_self, Bool.true_and, putA_some, putA_none, List.set_cons_zero, List.set_cons_succ, List.length_cons, List.length_nil, List.nil_append, List.cons_append, stabL, AV.stab, fieldAddrA, fieldA, List.getElem?_cons_zero, List.getElem?_cons_succ, Nat.zero_add, loadA, rowOf, Nat.le_refl, and_self, true_and, and_true, partA, binA, unA, intBin, eqBin, eqCells, eqCell, Option.bind_some, decide_true, decide_false, decide_eq_true_eq, ite_not, Bool.not_eq_true', decide_eq_false_iff_not, Bool.false_eq_true, Option.map_some, Option.map_none, Bool.not_true, Bool.not_false, buildA, fillA, patch, List.take, List.drop, List.map_cons, List.map_nil, extK, List.getD_cons_zero, List.getD_cons_succ, minmaxA, minmaxGo, adoptZ_false, adoptZ_true, freeze_int, freeze_bool, freeze_str, freeze_flat, freeze_agg, freeze_osl, freeze_tsl, freeze_tup, frz1_bool, frz1_int, frz1_str, frz1_agg, frz1_osl, frz1_tsl, bne, Bool.false_and, Bool.and_false, ne_eq, not_true_eq_false, not_false_eq_true, List.append_nil, resultsR, resultsL, resultA, expK_int, expK_bool, expK_str, expK_agg, expK_own, expK_tsl, resK_some, nestNo, wpK_lookup, wpK_makeMap, wpK_mapUpdate, cell_mp, reduceIte, Nat.reduceAdd, Nat.reduceEqDiff, Nat.reduceLT, Nat.reduceLeDiff, *, ty3, ty4, ty22, ty130, ty146, ty148, br96, br97, allocK, cvtK_int, fz80, fz81, wpK_cvt ty130 ty3 rfl, wpK_cvt ty3 ty148 rfl, ]; first | (refine hA.out ?_; clear hA hB A B) | (refine hB.out ?_; clear hA hB A B))
      repeat' (first | refine go1 ?_ | refine blockK_else rfl ?_ | (refine wpO_consD fun A B a b => ?_; simp only [beq_iff_eq, beq_eq_false_iff_ne, Int.natCast_inj, Bool.not_eq_false', op1_go, wpK_box, wpK_alloc, wpK_load, wpK_store, wpK_binOp, wpK_unOp, wpK_fieldAddr, wpK_field, wpK_build, wpK_indexAddr, wpK_slice, wpK_len, wpK_extract, wpK_nilCheck, wpK_pick, wpK_makeFunc, wpK_call, wpK_callT, wpK_max, wpK_min, wpK_assignT, wpK_moveT, wpK_assignB, wpK_moveB, wpK_assignI, wpK_moveI, wpK_assignA, wpK_moveA, callK_fn, snapL_nil, snapL_cons, snap_int, snap_bool, snap_str, snap_tsl, snap_agg, snap_fn, snap_flat, adopt_int, adopt_bool, adopt_str, adopt_agg, adopt_osl, adopt_tsl, adopt_tup, op1_guard, grdK_bool, grdK_undef, condK_bool, someK_some, pairK_some, nilK_ptr, nilK_tptr, boxK, storeK, evalA_tmp, evalA_int, evalA_bool, evalA_agg, evalA_fn, evalA_nil, ofC_int, ofC_bool, getA_zero, getA_succ, cells_int, cells_agg, cells_bool, cells_sl, cells_tsl, cell_int, cell_bool, cell_str, cell_sl, cell_esl, cell_tsl, cell_ptr, cell_tptr, cell_fn, cell_nils, cell_nilf, List.all_cons, List.all_nil, Bool.and_true, Bool.and_self, Bool.true_and, putA_some, putA_none, List.set_cons_zero, List.set_cons_succ, List.length_cons, List.length_nil, List.nil_append, List.cons_append, stabL, AV.stab, fieldAddrA, fieldA, List.getElem?_cons_zero, List.getElem?_cons_succ, Nat.zero_add, loadA, rowOf, Nat.le_refl, and_self, true_and, and_true, partA, binA, unA, intBin, eqBin, eqCells, eqCell, Option.bind_some, decide_true, decide_false, decide_eq_true_eq, ite_not, Bool.not_eq_true', decide_eq_false_iff_not, Bool.false_eq_true, Option.map_some, Option.map_none, Bool.not_true, Bool.not_false, buildA, fillA, patch, List.take, List.drop, List.map_cons, List.map_nil, extK, List.getD_cons_zero, List.getD_cons_succ, minmaxA, minmaxGo, adoptZ_false, adoptZ_true, freeze_int, freeze_bool, freeze_str, freeze_flat, freeze_agg, freeze_osl, freeze_tsl, freeze_tup, frz1_bool, frz1_int, frz1_str, frz1_agg, frz1_osl, frz1_tsl, bne, Bool.false_and, Bool.and_false, ne_eq, not_true_eq_false, not_false_eq_true, List.append_nil, resultsR, resultsL, resultA, expK_int, expK_bool, expK_str, expK_agg, expK_own, expK_tsl, resK_some, nestNo, wpK_lookup, wpK_makeMap, wpK_mapUpdate, cell_mp, reduceIte, Nat.reduceAdd, Nat.reduceEqDiff, Nat.reduceLT, Nat.reduceLeDiff, *, ty3, ty4, ty22, ty130, ty146, ty148, br96, br97, allocK, cvtK_int, fz80, fz81, wpK_cvt ty130 ty3 rfl, wpK_cvt ty3 ty148 rfl, ]; (repeat' first | apply a.1 | refine iteI (fun h => ?_) fun h => ?_) <;> clear a b A B))
      refine wpO_cons fun K hK => ?_
      simp only [beq_iff_eq, beq_eq_false_iff_ne, Int.natCast_inj, Bool.not_eq_false', op1_go, wpK_box, wpK_alloc, wpK_load, wpK_store, wpK_binOp, wpK_unOp, wpK_fieldAddr, wpK_field, wpK_build, wpK_indexAddr, wpK_slice, wpK_len, wpK_extract, wpK_nilCheck, wpK_pick, wpK_makeFunc, wpK_call, wpK_callT, wpK_max, wpK_min, wpK_assignT, wpK_moveT, wpK_assignB, wpK_moveB, wpK_assignI, wpK_moveI, wpK_assignA, wpK_moveA, callK_fn, snapL_nil, snapL_cons, snap_int, snap_bool, snap_str, snap_tsl, snap_agg, snap_fn, snap_flat, adopt_int, adopt_bool, adopt_str, adopt_agg, adopt_osl, adopt_tsl, adopt_tup, op1_guard, grdK_bool, grdK_undef, condK_bool, someK_some, pairK_some, nilK_ptr, nilK_tptr, boxK, storeK, evalA_tmp, evalA_int, evalA_bool, evalA_agg, evalA_fn, evalA_nil, ofC_int, ofC_bool, getA_zero, getA_succ, cells_int, cells_agg, cells_bool, cells_sl, cells_tsl, cell_int, cell_bool, cell_str, cell_sl, cell_esl, cell_tsl, cell_ptr, cell_tptr, cell_fn, cell_nils, cell_nilf, List.all_cons, List.all_nil, Bool.and_true, Bool.and_self, Bool.true_and, putA_some, putA_none, List.set_cons_zero, List.set_cons_succ, List.length_cons, List.length_nil, List.nil_append, List.cons_append, stabL, AV.stab, fieldAddrA, fieldA, List.getElem?_cons_zero, List.getElem?_cons_succ, Nat.zero_add, loadA, rowOf, Nat.le_refl, and_self, true_and, and_true, partA, binA, unA, intBin, eqBin, eqCells, eqCell, Option.bind_some, decide_true, decide_false, decide_eq_true_eq, ite_not, Bool.not_eq_true', decide_eq_false_iff_not, Bool.false_eq_true, Option.map_some, Option.map_none, Bool.not_true, Bool.not_false, buildA, fillA, patch, List.take, List.drop, List.map_cons, List.map_nil, extK, List.getD_cons_zero, List.getD_cons_succ, minmaxA, minmaxGo, adoptZ_false, adoptZ_true, freeze_int, freeze_bool, freeze_str, freeze_flat, freeze_agg, freeze_osl, freeze_tsl, freeze_tup, frz1_bool, frz1_int, frz1_str, frz1_agg, frz1_osl, frz1_tsl, bne, Bool.false_and, Bool.and_false, ne_eq, not_true_eq_false, not_false_eq_true, List.append_nil, resultsR, resultsL, resultA, expK_int, expK_bool, expK_str, expK_agg, expK_own, expK_tsl, resK_some, nestNo, wpK_lookup, wpK_makeMap, wpK_mapUpdate, cell_mp, reduceIte, Nat.reduceAdd, Nat.reduceEqDiff, Nat.reduceLT, Nat.reduceLeDiff, ty3, ty4, ty22, ty130, ty146, ty148, br96, br97, allocK, cvtK_int, fz80, fz81, wpK_cvt ty130 ty3 rfl, wpK_cvt ty3 ty148 rfl, callK_fn]
      refine EvR.mono (nxE A C G d1 w r.toNat ws hrl hws) ?_
      rw [hx]
      rintro _ S ⟨rfl, rfl⟩
      refine hK.out _ _ ?_
      clear hK K
      unfold SX
      repeat' (first | refine go1 ?_ | refine blockK_else rfl ?_ | (refine wpO_consD fun A B a b => ?_; simp only [beq_iff_eq, beq_eq_false_iff_ne, Int.natCast_inj, Bool.not_eq_false', op1_go, wpK_box, wpK_alloc, wpK_load, wpK_store, wpK_binOp, wpK_unOp, wpK_fieldAddr, wpK_field, wpK_build, wpK_indexAddr, wpK_slice, wpK_len, wpK_extract, wpK_nilCheck, wpK_pick, wpK_makeFunc, wpK_call, wpK_callT, wpK_max, wpK_min, wpK_assignT, wpK_moveT, wpK_assignB, wpK_moveB, wpK_assignI, wpK_moveI, wpK_assignA, wpK_moveA, callK_fn, snapL_nil, snapL_cons, snap_int, snap_bool, snap_str, snap_tsl, snap_agg, snap_fn, snap_flat, adopt_int, adopt_bool, adopt_str, adopt_agg, adopt_osl, adopt_tsl, adopt_tup, op1_guard, grdK_bool, grdK_undef, condK_bool, someK_some, pairK_some, nilK_ptr, nilK_tptr, boxK, storeK, evalA_tmp, evalA_int, evalA_bool, evalA_agg, evalA_fn, evalA_nil, ofC_int, ofC_bool, getA_zero, getA_succ, cells_int, cells_agg, cells_bool, cells_sl, cells_tsl, cell_int, cell_bool, cell_str, cell_sl, cell_esl, cell_tsl, cell_ptr, cell_tptr, cell_fn, cell_nils, cell_nilf, List.all_cons, List.all_nil, Bool.and_true, Bool.and_self, Bool.true_and, putA_some, putA_none, List.set_cons_zero, List.set_cons_succ, List.length_cons, List.length_nil, List.nil_append, List.cons_append, stabL, AV.stab, fieldAddrA, fieldA, List.getElem?_cons_zero, List.getElem?_cons_succ, Nat.zero_add, loadA, rowOf, Nat.le_refl, and_self, true_and, and_true, partA, binA, unA, intBin, eqBin, eqCells, eqCell, Option.bind_some, decide_true, decide_false, decide_eq_true_eq, ite_not, Bool.not_eq_true', decide_eq_false_iff_not, Bool.false_eq_true, Option.map_some, Option.map_none, Bool.not_true, Bool.not_false, buildA, fillA, patch, List.take, List.drop, List.map_cons, List.map_nil, extK, List.getD_cons_zero, List.getD_cons_succ, minmaxA, minmaxGo, adoptZ_false, adoptZ_true, freeze_int, freeze_bool, freeze_str, freeze_flat, freeze_agg, freeze_osl, freeze_tsl, freeze_tup, frz1_bool, frz1_int, frz1_str, frz1_agg, frz1_osl, frz1_tsl, bne, Bool.false_and, Bool.and_false, ne_eq, not_true_eq_false, not_false_eq_true, List.append_nil, resultsR, resultsL, resultA, expK_int, expK_bool, expK_str, expK_agg, expK_own, expK_tsl, resK_some, nestNo, wpK_lookup, wpK_makeMap, wpK_mapUpdate, cell_mp, reduceIte, Nat.reduceAdd, Nat.reduceEqDiff, Nat.reduceLT, Nat.reduceLeDiff, *, ty3, ty4, ty22, ty130, ty146, ty148, br96, br97, allocK, cvtK_int, fz80, fz81, wpK_cvt ty130 ty3 rfl, wpK_cvt ty3 ty148 rfl, ]; (repeat' first | apply a.1 | refine iteI (fun h => ?_) fun h => ?_) <;> clear a b A B))
      refine wpC_cut [41, 42, 43, 44, 45, 46] (fun _ : Nat => [(10, .int .i64 t)]) (fun _ H => A ++ .arr (rowsD d1) 1 w true :: (C ++ .arr [[.int .u64 (r'.toNat : Int)]] 1 1 true :: H)) (fun _ => True) ?_ ?_
      · by_cases hoL : o ≥ L
        · have hoL' : (L : Int) ≤ (o : Int) := by omega
          rw [if_pos hoL] at ht
          have a4 : IntKind.wrap .i64 ((o : Int) - (L : Int)) = ((o - L : Nat) : Int) := by rw [wrap_small (by omega) (by omega)]; omega
          rw [ht] at a4
          clear ht
          repeat' (first | refine go1 ?_ | refine blockK_else rfl ?_ | (refine go2 fun A B a b => ?_; simp only [beq_iff_eq, beq_eq_false_iff_ne, Int.natCast_inj, Bool.not_eq_false', op1_go, wpK_box, wpK_alloc, wpK_load, wpK_store, wpK_binOp, wpK_unOp, wpK_fieldAddr, wpK_field, wpK_build, wpK_indexAddr, wpK_slice, wpK_len, wpK_extract, wpK_nilCheck, wpK_pick, wpK_makeFunc, wpK_call, wpK_callT, wpK_max, wpK_min, wpK_assignT, wpK_moveT, wpK_assignB, wpK_moveB, wpK_assignI, wpK_moveI, wpK_assignA, wpK_moveA, callK_fn, snapL_nil, snapL_cons, snap_int, snap_bool, snap_str, snap_tsl, snap_agg, snap_fn, snap_flat, adopt_int, adopt_bool, adopt_str, adopt_agg, adopt_osl, adopt_tsl, adopt_tup, op1_guard, grdK_bool, grdK_undef, condK_bool, someK_some, pairK_some, nilK_ptr, nilK_tptr, boxK, storeK, evalA_tmp, evalA_int, evalA_bool, evalA_agg, evalA_fn, evalA_nil, ofC_int, ofC_bool, getA_zero, getA_succ, cells_int, cells_agg, cells_bool, cells_sl, cells_tsl, cell_int, cell_bool, cell_str, cell_sl, cell_esl, cell_tsl, cell_ptr, cell_tptr, cell_fn, cell_nils, cell_nilf, List.all_cons, List.all_nil, Bool.and_true, Bool.and_self, Bool.true_and, putA_some, putA_none, List.set_cons_zero, List.set_cons_succ, List.length_cons, List.length_nil, List.nil_append, List.cons_append, stabL, AV.stab, fieldAddrA, fieldA, List.getElem?_cons_zero, List.getElem?_cons_succ, Nat.zero_add, loadA, rowOf, Nat.le_refl, and_self, true_and, and_true, partA, binA, unA, intBin, eqBin, eqCells, eqCell, Option.bind_some, decide_true, decide_false, decide_eq_true_eq, ite_not, Bool.not_eq_true', decide_eq_false_iff_not, Bool.false_eq_true, Option.map_some, Option.map_none, Bool.not_true, Bool.not_false, buildA, fillA, patch, List.take, List.drop, List.map_cons, List.map_nil, extK, List.getD_cons_zero, List.getD_cons_succ, minmaxA, minmaxGo, adoptZ_false, adoptZ_true, freeze_int, freeze_bool, freeze_str, freeze_flat, freeze_agg, freeze_osl, freeze_tsl, freeze_tup, frz1_bool, frz1_int, frz1_str, frz1_agg, frz1_osl, frz1_tsl, bne, Bool.false_and, Bool.and_false, ne_eq, not_true_eq_false, not_false_eq_true, List.append_nil, resultsR, resultsL, resultA, expK_int, expK_bool, expK_str, expK_agg, expK_own, expK_tsl, resK_some, nestNo, wpK_lookup, wpK_makeMap, wpK_mapUpdate, cell_mp, reduceIte, Nat.reduceAdd, Nat.reduceEqDiff, Nat.reduceLT, Nat.reduceLeDiff, *, ty3, ty4, ty22, ty130, ty146, ty148, br96, br97, allocK, cvtK_int, fz80, fz81, wpK_cvt ty130 ty3 rfl, wpK_cvt ty3 ty148 rfl, ]; (repeat' first | apply a.1 | apply b.1 | refine iteI (fun h => ?_) fun h => ?_) <;> clear a b A B))
          refine cut_next 0 trivial ?_ ⟨_, rfl⟩
          ((try simp only [eraseA_cons, eraseA_nil, setL_cons, setL_nil, List.set_cons_zero, List.set_cons_succ]); all_goals (first | rfl | (simp only [len_snoc, ints_len, List.length_map, ]; done) | (simp only [len_snoc, len_mid, ints_len, List.length_map, List.length_append, List.length_cons, List.length_nil, Nat.zero_add, ]; first | done | rfl)))
        · have hoL' : ¬ (L : Int) ≤ (o : Int) := by omega
          rw [if_neg hoL] at ht
          subst ht
          repeat' (first | refine go1 ?_ | refine blockK_else rfl ?_ | (refine go2 fun A B a b => ?_; simp only [beq_iff_eq, beq_eq_false_iff_ne, Int.natCast_inj, Bool.not_eq_false', op1_go, wpK_box, wpK_alloc, wpK_load, wpK_store, wpK_binOp, wpK_unOp, wpK_fieldAddr, wpK_field, wpK_build, wpK_indexAddr, wpK_slice, wpK_len, wpK_extract, wpK_nilCheck, wpK_pick, wpK_makeFunc, wpK_call, wpK_callT, wpK_max, wpK_min, wpK_assignT, wpK_moveT, wpK_assignB, wpK_moveB, wpK_assignI, wpK_moveI, wpK_assignA, wpK_moveA, callK_fn, snapL_nil, snapL_cons, snap_int, snap_bool, snap_str, snap_tsl, snap_agg, snap_fn, snap_flat, adopt_int, adopt_bool, adopt_str, adopt_agg, adopt_osl, adopt_tsl, adopt_tup, op1_guard, grdK_bool, grdK_undef, condK_bool, someK_some, pairK_some, nilK_ptr, nilK_tptr, boxK, storeK, evalA_tmp, evalA_int, evalA_bool, evalA_agg, evalA_fn, evalA_nil, ofC_int, ofC_bool, getA_zero, getA_succ, cells_int, cells_agg, cells_bool, cells_sl, cells_tsl, cell_int, cell_bool, cell_str, cell_sl, cell_esl, cell_tsl, cell_ptr, cell_tptr, cell_fn, cell_nils, cell_nilf, List.all_cons, List.all_nil, Bool.and_true, Bool.and_self, Bool.true_and, putA_some, putA_none, List.set_cons_zero, List.set_cons_succ, List.length_cons, List.length_nil, List.nil_append, List.cons_append, stabL, AV.stab, fieldAddrA, fieldA, List.getElem?_cons_zero, List.getElem?_cons_succ, Nat.zero_add, loadA, rowOf, Nat.le_refl, and_self, true_and, and_true, partA, binA, unA, intBin, eqBin, eqCells, eqCell, Option.bind_some, decide_true, decide_false, decide_eq_true_eq, ite_not, Bool.not_eq_true', decide_eq_false_iff_not, Bool.false_eq_true, Option.map_some, Option.map_none, Bool.not_true, Bool.not_false, buildA, fillA, patch, List.take, List.drop, List.map_cons, List.map_nil, extK, List.getD_cons_zero, List.getD_cons_succ, minmaxA, minmaxGo, adoptZ_false, adoptZ_true, freeze_int, freeze_bool, freeze_str, freeze_flat, freeze_agg, freeze_osl, freeze_tsl, freeze_tup, frz1_bool, frz1_int, frz1_str, frz1_agg, frz1_osl, frz1_tsl, bne, Bool.false_and, Bool.and_false, ne_eq, not_true_eq_false, not_false_eq_true, List.append_nil, resultsR, resultsL, resultA, expK_int, expK_bool, expK_str, expK_agg, expK_own, expK_tsl, resK_some, nestNo, wpK_lookup, wpK_makeMap, wpK_mapUpdate, cell_mp, reduceIte, Nat.reduceAdd, Nat.reduceEqDiff, Nat.reduceLT, Nat.reduceLeDiff, *, ty3, ty4, ty22, ty130, ty146, ty148, br96, br97, allocK, cvtK_int, fz80, fz81, wpK_cvt ty130 ty3 rfl, wpK_cvt ty3 ty148 rfl, ]; (repeat' first | apply a.1 | apply b.1 | refine iteI (fun h => ?_) fun h => ?_) <;> clear a b A B))
          refine cut_next 0 trivial ?_ ⟨_, rfl⟩
          ((try simp only [eraseA_cons, eraseA_nil, setL_cons, setL_nil, List.set_cons_zero, List.set_cons_succ]); all_goals (first | rfl | (simp only [len_snoc, ints_len, List.length_map, ]; done) | (simp only [len_snoc, len_mid, ints_len, List.length_map, List.length_append, List.length_cons, List.length_nil, Nat.zero_add, ]; first | done | rfl)))
      · intro _ g' H _
        simp only [garbA_cons, garbA_nil, setL_cons, setL_nil, List.set_cons_zero, List.set_cons_succ]
        repeat' (first | refine go1 ?_ | refine blockK_else rfl ?_ | (refine go2 fun A B a b => ?_; simp only [beq_iff_eq, beq_eq_false_iff_ne, Int.natCast_inj, Bool.not_eq_false', op1_go, wpK_box, wpK_alloc, wpK_load, wpK_store, wpK_binOp, wpK_unOp, wpK_fieldAddr, wpK_field, wpK_build, wpK_indexAddr, wpK_slice, wpK_len, wpK_extract, wpK_nilCheck, wpK_pick, wpK_makeFunc, wpK_call, wpK_callT, wpK_max, wpK_min, wpK_assignT, wpK_moveT, wpK_assignB, wpK_moveB, wpK_assignI, wpK_moveI, wpK_assignA, wpK_moveA, callK_fn, snapL_nil, snapL_cons, snap_int, snap_bool, snap_str, snap_tsl, snap_agg, snap_fn, snap_flat, adopt_int, adopt_bool, adopt_str, adopt_agg, adopt_osl, adopt_tsl, adopt_tup, op1_guard, grdK_bool, grdK_undef, condK_bool, someK_some, pairK_some, nilK_ptr, nilK_tptr, boxK, storeK, evalA_tmp, evalA_int, evalA_bool, evalA_agg, evalA_fn, evalA_nil, ofC_int, ofC_bool, getA_zero, getA_succ, cells_int, cells_agg, cells_bool, cells_sl, cells_tsl, cell_int, cell_bool, cell_str, cell_sl, cell_esl, cell_tsl, cell_ptr, cell_tptr, cell_fn, cell_nils, cell_nilf, List.all_cons, List.all_nil, Bool.and_true, Bool.and_self, Bool.true_and, putA_some, putA_none, List.set_cons_zero, List.set_cons_succ, List.length_cons, List.length_nil, List.nil_append, List.cons_append, stabL, AV.stab, fieldAddrA, fieldA, List.getElem?_cons_zero, List.getElem?_cons_succ, Nat.zero_add, loadA, rowOf, Nat.le_refl, and_self, true_and, and_true, partA, binA, unA, intBin, eqBin, eqCells, eqCell, Option.bind_some, decide_true, decide_false, decide_eq_true_eq, ite_not, Bool.not_eq_true', decide_eq_false_iff_not, Bool.false_eq_true, Option.map_some, Option.map_none, Bool.not_true, Bool.not_false, buildA, fillA, patch, List.take, List.drop, List.map_cons, List.map_nil, extK, List.getD_cons_zero, List.getD_cons_succ, minmaxA, minmaxGo, adoptZ_false, adoptZ_true, freeze_int, freeze_bool, freeze_str, freeze_flat, freeze_agg, freeze_osl, freeze_tsl, freeze_tup, frz1_bool, frz1_int, frz1_str, frz1_agg, frz1_osl, frz1_tsl, bne, Bool.false_and, Bool.and_false, ne_eq, not_true_eq_false, not_false_eq_true, List.append_nil, resultsR, resultsL, resultA, expK_int, expK_bool, expK_str, expK_agg, expK_own, expK_tsl, resK_some, nestNo, wpK_lookup, wpK_makeMap, wpK_mapUpdate, cell_mp, reduceIte, Nat.reduceAdd, Nat.reduceEqDiff, Nat.reduceLT, Nat.reduceLeDiff, *, ty3, ty4, ty22, ty130, ty146, ty148, br96, br97, allocK, cvtK_int, fz80, fz81, wpK_cvt ty130 ty3 rfl, wpK_cvt ty3 ty148 rfl, getElem?_len, set_len, idxD, rowsD_get, rowsD_len, rowsD_put, dropD, takeD, sizeD, (lessE _ _).rw, encE]; (repeat' first | apply a.1 | apply b.1 | refine iteI (fun h => ?_) fun h => ?_) <;> clear a b A B))
        refine loopF_next (k, idx + 1, r', Go.Sort.swp d1 idx (a + t), n, 1) (Nat.lt_succ_self _) ⟨by simp [Go.Sort.swp, hn], Nat.le_refl _, Nat.le_refl _, by simp only; omega, by simp only; omega, hR⟩ ?_ ⟨_, rfl⟩
        ((try simp only [eraseA_cons, eraseA_nil, setL_cons, setL_nil, List.set_cons_zero, List.set_cons_succ]); all_goals (first | rfl | (simp only [len_snoc, ints_len, List.length_map, ]; done) | (simp only [len_snoc, len_mid, ints_len, List.length_map, List.length_append, List.length_cons, List.length_nil, Nat.zero_add, ]; first | done | rfl)))
  · have h8' : ¬ (8 : Int) ≤ ((b - a : Nat) : Int) := by omega
    have e : Go.Sort.breakPatterns d a b = d := by unfold Go.Sort.breakPatterns; simp only [h8, if_false]
    refine EvR.walk rfl fn85 rfl nt85 rfl ?_
    simp only [List.length_cons, List.length_nil, List.cons_append, List.nil_append, Nat.reduceAdd, Nat.reduceSub, List.replicate]
    repeat' (first | refine go1 ?_ | refine blockK_else rfl ?_ | (refine go2 fun A B a b => ?_; simp only [beq_iff_eq, beq_eq_false_iff_ne, Int.natCast_inj, Bool.not_eq_false', op1_go, wpK_box, wpK_alloc, wpK_load, wpK_store, wpK_binOp, wpK_unOp, wpK_fieldAddr, wpK_field, wpK_build, wpK_indexAddr, wpK_slice, wpK_len, wpK_extract, wpK_nilCheck, wpK_pick, wpK_makeFunc, wpK_call, wpK_callT, wpK_max, wpK_min, wpK_assignT, wpK_moveT, wpK_assignB, wpK_moveB, wpK_assignI, wpK_moveI, wpK_assignA, wpK_moveA, callK_fn, snapL_nil, snapL_cons, snap_int, snap_bool, snap_str, snap_tsl, snap_agg, snap_fn, snap_flat, adopt_int, adopt_bool, adopt_str, adopt_agg, adopt_osl, adopt_tsl, adopt_tup, op1_guard, grdK_bool, grdK_undef, condK_bool, someK_some, pairK_some, nilK_ptr, nilK_tptr, boxK, storeK, evalA_tmp, evalA_int, evalA_bool, evalA_agg, evalA_fn, evalA_nil, ofC_int, ofC_bool, getA_zero, getA_succ, cells_int, cells_agg, cells_bool, cells_sl, cells_tsl, cell_int, cell_bool, cell_str, cell_sl, cell_esl, cell_tsl, cell_ptr, cell_tptr, cell_fn, cell_nils, cell_nilf, List.all_cons, List.all_nil, Bool.and_true, Bool.and_self, Bool.true_and, putA_some, putA_none, List.set_cons_zero, List.set_cons_succ, List.length_cons, List.length_nil, List.nil_append, List.cons_append, stabL, AV.stab, fieldAddrA, fieldA, List.getElem?_cons_zero, List.getElem?_cons_succ, Nat.zero_add, loadA, rowOf, Nat.le_refl, and_self, true_and, and_true, partA, binA, unA, intBin, eqBin, eqCells, eqCell, Option.bind_some, decide_true, decide_false, decide_eq_true_eq, ite_not, Bool.not_eq_true', decide_eq_false_iff_not, Bool.false_eq_true, Option.map_some, Option.map_none, Bool.not_true, Bool.not_false, buildA, fillA, patch, List.take, List.drop, List.map_cons, List.map_nil, extK, List.getD_cons_zero, List.getD_cons_succ, minmaxA, minmaxGo, adoptZ_false, adoptZ_true, freeze_int, freeze_bool, freeze_str, freeze_flat, freeze_agg, freeze_osl, freeze_tsl, freeze_tup, frz1_bool, frz1_int, frz1_str, frz1_agg, frz1_osl, frz1_tsl, bne, Bool.false_and, Bool.and_false, ne_eq, not_true_eq_false, not_false_eq_true, List.append_nil, resultsR, resultsL, resultA, expK_int, expK_bool, expK_str, expK_agg, expK_own, expK_tsl, resK_some, nestNo, wpK_lookup, wpK_makeMap, wpK_mapUpdate, cell_mp, reduceIte, Nat.reduceAdd, Nat.reduceEqDiff, Nat.reduceLT, Nat.reduceLeDiff, *, ty3, ty4, ty22, ty130, ty146, ty148, br96, br97, allocK, cvtK_int, fz80, fz81, wpK_cvt ty130 ty3 rfl, wpK_cvt ty3 ty148 rfl, ]; (repeat' first | apply a.1 | apply b.1 | refine iteI (fun h => ?_) fun h => ?_) <;> clear a b A B))
    simp only [resultsR, resultsL, resultA, expK_int, expK_bool, expK_str, expK_agg, expK_own, expK_tsl, resK_some, beq_iff_eq, beq_eq_false_iff_ne, Int.natCast_inj, Bool.not_eq_false', op1_go, wpK_box, wpK_alloc, wpK_load, wpK_store, wpK_binOp, wpK_unOp, wpK_fieldAddr, wpK_field, wpK_build, wpK_indexAddr, wpK_slice, wpK_len, wpK_extract, wpK_nilCheck, wpK_pick, wpK_makeFunc, wpK_call, wpK_callT, wpK_max, wpK_min, wpK_assignT, wpK_moveT, wpK_assignB, wpK_moveB, wpK_assignI, wpK_moveI, wpK_assignA, wpK_moveA, callK_fn, snapL_nil, snapL_cons, snap_int, snap_bool, snap_str, snap_tsl, snap_agg, snap_fn, snap_flat, adopt_int, adopt_bool, adopt_str, adopt_agg, adopt_osl, adopt_tsl, adopt_tup, op1_guard, grdK_bool, grdK_undef, condK_bool, someK_some, pairK_some, nilK_ptr, nilK_tptr, boxK, storeK, evalA_tmp, evalA_int, evalA_bool, evalA_agg, evalA_fn, evalA_nil, ofC_int, ofC_bool, getA_zero, getA_succ, cells_int, cells_agg, cells_bool, cells_sl, cells_tsl, cell_int, cell_bool, cell_str, cell_sl, cell_esl, cell_tsl, cell_ptr, cell_tptr, cell_fn, cell_nils, cell_nilf, List.all_cons, List.all_nil, Bool.and_true, Bool.and_self, Bool.true_and, putA_some, putA_none, List.set_cons_zero, List.set_cons_succ, List.length_cons, List.length_nil, List.nil_append, List.cons_append, stabL, AV.stab, fieldAddrA, fieldA, List.getElem?_cons_zero, List.getElem?_cons_succ, Nat.zero_add, loadA, rowOf, Nat.le_refl, and_self, true_and, and_true, partA, binA, unA, intBin, eqBin, eqCells, eqCell, Option.bind_some, decide_true, decide_false, decide_eq_true_eq, ite_not, Bool.not_eq_true', decide_eq_false_iff_not, Bool.false_eq_true, Option.map_some, Option.map_none, Bool.not_true, Bool.not_false, buildA, fillA, patch, List.take, List.drop, List.map_cons, List.map_nil, extK, List.getD_cons_zero, List.getD_cons_succ, minmaxA, minmaxGo, adoptZ_false, adoptZ_true, freeze_int, freeze_bool, freeze_str, freeze_flat, freeze_agg, freeze_osl, freeze_tsl, freeze_tup, frz1_bool, frz1_int, frz1_str, frz1_agg, frz1_osl, frz1_tsl, bne, Bool.false_and, Bool.and_false, ne_eq, not_true_eq_false, not_false_eq_true, List.append_nil, resultsR, resultsL, resultA, expK_int, expK_bool, expK_str, expK_agg, expK_own, expK_tsl, resK_some, nestNo, wpK_lookup, wpK_makeMap, wpK_mapUpdate, cell_mp, reduceIte, Nat.reduceAdd, Nat.reduceEqDiff, Nat.reduceLT, Nat.reduceLeDiff, ty3, ty4, ty22, ty130, ty146, ty148, br96, br97, allocK, cvtK_int, fz80, fz81, wpK_cvt ty130 ty3 rfl, wpK_cvt ty3 ty148 rfl, e]
    exact ⟨hn, w, [], hw, by rw [SB, List.append_nil]⟩

/- The library's sort of ints as a run: the sort. -/
open Go.Proofs
attribute [local go_sem] ty22 ty135 br77 br83 br84 br85 br86 br87 br88 br89 br90 br91 fz64 fz65 fz66 fz67 fz68 fz69 fz95 fz96 fz97 fz98 fz99
set_option maxRecDepth 20000
set_option maxHeartbeats 8000000

theorem peq_range (a b : Nat) : ∀ (m i j : Nat) (d : Array El), j + 1 - i ≤ m → i ≤ b → j + 1 ≤ b → i ≤ (Go.Sort.partEqLoop ltE a i j d).1 ∧ (Go.Sort.partEqLoop ltE a i j d).1 ≤ b
  | m, i, j, d, hm, hi, hj => by
    rw [Go.Sort.partEqLoop]
    have h1 := up_le (fun x => !ltE d[a]! x) d j i
    have h2 := up_ge (fun x => !ltE d[a]! x) d j i b hi hj
    generalize Go.Sort.scanUp (fun x => !ltE d[a]! x) d j i = i2 at h1 h2 ⊢
    have h3 := down_le (fun x => ltE d[a]! x) d i2 j
    generalize Go.Sort.scanDown (fun x => ltE d[a]! x) d i2 j = j2 at h3 ⊢
    split
    · exact ⟨h1, h2⟩
    · split
      · rename_i k1 k2
        match m, hm with
        | 0, hm => omega
        | m + 1, hm =>
          have := peq_range a b m (i2 + 1) (j2 - 1) (Go.Sort.swp d i2 j2) (by omega) (by omega) (by omega)
          omega
      · exact ⟨h1, h2⟩

theorem wpC_cut2 {X : Ctx} {α : Type} {r c b : Code} {Q : Ex → List AV → Store → Prop} {fr0 : List AV} {S0 : Store} (ix : List Nat) (F : α → List (Nat × AV)) (SS : α → Store → Store) (P : α → Prop)
    (h1 : wpC X r (seqK X c (cutK ix fr0 F SS P Q)) fr0 S0)
    (h2 : ∀ a (g : Nat → AV) (G : Store), P a → wpC X b Q (garbA ix g (setL fr0 (F a))) (SS a G)) : wpC X r (seqK X c (seqK X b Q)) fr0 S0 := by
  have key : ∀ fr S, wpC X c (cutK ix fr0 F SS P Q) fr S → wpC X c (seqK X b Q) fr S := fun fr S h => by
    refine wpC_mono (fun e fr S h => ?_) h
    cases e with
    | normal =>
      simp only [cutK] at h
      obtain ⟨a, k1, k2, G, rfl⟩ := h
      refine seqK_normal ?_
      rw [garb_of_erase k2]
      exact h2 a _ _ k1
    | exit id => simp only [cutK] at h; exact seqK_exit h
    | ret => simp only [cutK] at h; exact seqK_ret h
  refine wpC_mono (fun e fr S h => ?_) h1
  cases e with
  | normal => simp only [seqK] at h; exact seqK_normal (key fr S h)
  | exit id => simp only [seqK, cutK] at h; exact seqK_exit (seqK_exit h)
  | ret => simp only [seqK, cutK] at h; exact seqK_ret (seqK_ret h)

/-- What is left of the sort, at the head of its loop. -/
theorem pdqE : ∀ (m : Nat) (A C : Store) (d : Array El) (n w a b lim : Nat), b - a ≤ m → d.size = n → w ≤ n → a ≤ b → b ≤ n → n < 4294967296 → lim ≤ 100 →
    EvR CX 77 [.sl A.length n 0 n 1, .int .i64 a, .int .i64 b, .int .i64 lim] (A ++ .arr (rowsD d) 1 w true :: C) (fun v S => v = .tup [] ∧ Left A C n (Go.Sort.pdq ltE d a b lim true true) S) := by
  intro m
  induction m using Nat.strongRecOn with | ind m ih => ?_
  intro A C d n w a b lim hm hn hw hab hb hsm hlim
  obtain ⟨R, hR⟩ : ∃ R, Go.Sort.pdq ltE d a b lim true true = R := ⟨_, rfl⟩
  rw [hR]
  refine EvR.walk rfl fn77 rfl nt77 rfl ?_
  simp only [List.length_cons, List.length_nil, List.cons_append, List.nil_append, Nat.reduceAdd, Nat.reduceSub, List.replicate]
  repeat' (first | refine go1 ?_ | refine blockK_else rfl ?_ | (refine go2 fun A B a b => ?_; simp only [go_sem, *]; (repeat' first | apply a.1 | apply b.1 | refine iteI (fun h => ?_) fun h => ?_) <;> clear a b A B))
  refine wpC_loopF [10, 11, 12, 13, 14, 15, 16, 17, 18, 19, 20, 21, 22, 23, 24, 25, 26, 27, 28, 29, 30, 31, 32, 33, 34, 35, 36, 37, 38, 39, 40, 41, 42, 43, 44, 45, 46, 47, 48, 49, 50, 51, 52, 53, 54, 55, 56, 57, 58, 59, 60, 61, 62, 63, 64, 65, 66, 67, 68, 69, 70, 71, 72, 73, 74, 75, 76, 77, 78, 79, 80, 81, 82, 83, 84, 85, 86, 87, 88, 89, 90, 91, 92, 93, 94, 95, 96, 97, 98, 99, 100, 101, 102, 103, 104, 105, 106, 107, 108, 109, 110, 111, 112, 113, 114, 115, 116, 117, 118, 119, 120, 121, 122, 123, 124, 125, 126, 127, 128, 129, 130, 131, 132, 133] (fun p : Nat × Nat × Nat × Bool × Bool × Array El × Nat => [(1, .int .i64 p.1), (2, .int .i64 p.2.1), (3, .int .i64 p.2.2.1), (8, .bool p.2.2.2.1), (9, .bool p.2.2.2.2.1)])
    (fun p G => A ++ .arr (rowsD p.2.2.2.2.2.1) 1 p.2.2.2.2.2.2 true :: (C ++ G))
    (fun p => p.2.2.2.2.2.1.size = n ∧ p.2.2.2.2.2.2 ≤ n ∧ p.1 ≤ p.2.1 ∧ p.2.1 ≤ n ∧ p.2.1 - p.1 ≤ m ∧ p.2.2.1 ≤ 100 ∧ Go.Sort.pdq ltE p.2.2.2.2.2.1 p.1 p.2.1 p.2.2.1 p.2.2.2.1 p.2.2.2.2.1 = R) (fun p => p.2.1 - p.1) (a, b, lim, true, true, d, w) ⟨hn, hw, hab, hb, hm, hlim, hR⟩ ?_ ?_ ?_
  · rfl
  · exact ⟨[], by rw [List.append_nil]⟩
  clear hR hlim hm hb hab hw hn
  rintro ⟨a, b, lim, wb, wp, d, w⟩ g G ⟨hn, hw, hab, hb, hm, hlim, hR⟩
  simp only at hn hw hab hb hm hlim hR
  have q1 : IntKind.wrap .i64 ((b : Int) - (a : Int)) = ((b - a : Nat) : Int) := by rw [wrap_small (by omega) (by omega)]; omega
  rw [Go.Sort.pdq] at hR
  simp only [garbA_cons, garbA_nil, setL_cons, setL_nil, List.set_cons_zero, List.set_cons_succ]
  by_cases h12 : b - a ≤ 12
  · have h12' : ((b - a : Nat) : Int) ≤ 12 := by omega
    rw [if_pos h12] at hR
    repeat' (first | refine go1 ?_ | refine blockK_else rfl ?_ | (refine go2 fun A B a b => ?_; simp only [go_sem, *]; (repeat' first | apply a.1 | apply b.1 | refine iteI (fun h => ?_) fun h => ?_) <;> clear a b A B))
    refine wpO_cons fun K hK => ?_
    simp only [go_sem]
    refine EvR.mono (insE A (C ++ G) d n w a b hn hw hb hab (by omega)) ?_
    rw [hR]
    rintro _ S ⟨rfl, hL⟩
    obtain ⟨w', C', hn2, hw2, rfl⟩ := left_shift hL
    refine hK.out _ _ ?_
    clear hK K
    repeat' (first | refine go1 ?_ | refine blockK_else rfl ?_ | (refine go2 fun A B a b => ?_; simp only [go_sem, *]; (repeat' first | apply a.1 | apply b.1 | refine iteI (fun h => ?_) fun h => ?_) <;> clear a b A B))
    simp only [go_sem]
    exact ⟨hn2, w', _, hw2, rfl⟩
  have h12' : ¬ ((b - a : Nat) : Int) ≤ 12 := by omega
  rw [if_neg h12] at hR
  by_cases hl0 : lim = 0
  · subst hl0
    rw [if_pos rfl] at hR
    have z : ((0 : Nat) : Int) = 0 := rfl
    repeat' (first | refine go1 ?_ | refine blockK_else rfl ?_ | (refine go2 fun A B a b => ?_; simp only [go_sem, *, z]; (repeat' first | apply a.1 | apply b.1 | refine iteI (fun h => ?_) fun h => ?_) <;> clear a b A B))
    refine wpO_cons fun K hK => ?_
    simp only [go_sem]
    refine EvR.mono (heapE A (C ++ G) d n w a b hn hw hab hb (by omega)) ?_
    rw [hR]
    rintro _ S ⟨rfl, hL⟩
    obtain ⟨w', C', hn2, hw2, rfl⟩ := left_shift hL
    refine hK.out _ _ ?_
    clear hK K
    repeat' (first | refine go1 ?_ | refine blockK_else rfl ?_ | (refine go2 fun A B a b => ?_; simp only [go_sem, *]; (repeat' first | apply a.1 | apply b.1 | refine iteI (fun h => ?_) fun h => ?_) <;> clear a b A B))
    simp only [go_sem]
    exact ⟨hn2, w', _, hw2, rfl⟩
  have hl0' : ¬ (lim : Int) = 0 := by omega
  rw [if_neg hl0] at hR
  obtain ⟨d1, hd1⟩ : ∃ d1, (if !wb then Go.Sort.breakPatterns d a b else d) = d1 := ⟨_, rfl⟩
  obtain ⟨lim1, hlim1⟩ : ∃ l, (if !wb then lim - 1 else lim) = l := ⟨_, rfl⟩
  simp only [hd1, hlim1] at hR
  repeat' (first | refine go1 ?_ | refine blockK_else rfl ?_ | (refine wpO_consD fun A B a b => ?_; simp only [go_sem, *]; (repeat' first | apply a.1 | refine iteI (fun h => ?_) fun h => ?_) <;> clear a b A B))
  (refine wpC_cond fun A B hA hB => ?_; simp only [go_sem, *]; first | (refine hA.out ?_; clear hA hB A B) | (refine hB.out ?_; clear hA hB A B))
  repeat' (first | refine go1 ?_ | refine blockK_else rfl ?_ | (refine wpO_consD fun A B a b => ?_; simp only [go_sem, *]; (repeat' first | apply a.1 | refine iteI (fun h => ?_) fun h => ?_) <;> clear a b A B))
  (refine wpC_cond fun A B hA hB => ?_; simp only [go_sem, *]; first | (refine hA.out ?_; clear hA hB A B) | (refine hB.out ?_; clear hA hB A B))
  repeat' (first | refine go1 ?_ | refine blockK_else rfl ?_ | (refine wpO_consD fun A B a b => ?_; simp only [go_sem, *]; (repeat' first | apply a.1 | refine iteI (fun h => ?_) fun h => ?_) <;> clear a b A B))
  refine wpC_cut [34, 35, 36, 37, 38, 39, 40, 41] (fun _ : Nat => [(3, .int .i64 lim1)]) (fun w H => A ++ .arr (rowsD d1) 1 w true :: (C ++ H)) (fun w => d1.size = n ∧ w ≤ n) ?_ ?_
  · cases wb with
    | true =>
      simp only [Bool.not_true, Bool.false_eq_true, if_false] at hd1 hlim1
      subst hd1 hlim1
      repeat' (first | refine go1 ?_ | refine blockK_else rfl ?_ | (refine go2 fun A B a b => ?_; simp only [go_sem, *]; (repeat' first | apply a.1 | apply b.1 | refine iteI (fun h => ?_) fun h => ?_) <;> clear a b A B))
      refine cut_next w ⟨hn, hw⟩ ?_ ⟨_, rfl⟩
      ((try simp only [eraseA_cons, eraseA_nil, setL_cons, setL_nil, List.set_cons_zero, List.set_cons_succ]); all_goals (first | rfl | (simp only [len_snoc, ints_len, List.length_map, ]; done) | (simp only [len_snoc, len_mid, ints_len, List.length_map, List.length_append, List.length_cons, List.length_nil, Nat.zero_add, ]; first | done | rfl)))
    | false =>
      simp only [Bool.not_false, if_true] at hd1 hlim1
      have w1 : IntKind.wrap .i64 ((lim : Int) - 1) = (lim1 : Int) := by rw [wrap_small (by omega) (by omega)]; omega
      repeat' (first | refine go1 ?_ | refine blockK_else rfl ?_ | (refine go2 fun A B a b => ?_; simp only [go_sem, *]; (repeat' first | apply a.1 | apply b.1 | refine iteI (fun h => ?_) fun h => ?_) <;> clear a b A B))
      refine wpO_cons fun K hK => ?_
      simp only [go_sem]
      refine EvR.mono (breakE A (C ++ G) d n w a b hn hw (by omega) hb hsm) ?_
      rw [hd1]
      rintro _ S ⟨rfl, hL⟩
      obtain ⟨w', C', hn2, hw2, rfl⟩ := left_shift hL
      refine hK.out _ _ ?_
      clear hK K
      repeat' (first | refine go1 ?_ | refine blockK_else rfl ?_ | (refine go2 fun A B a b => ?_; simp only [go_sem, *]; (repeat' first | apply a.1 | apply b.1 | refine iteI (fun h => ?_) fun h => ?_) <;> clear a b A B))
      refine cut_next w' ⟨hn2, hw2⟩ ?_ ⟨_, rfl⟩
      ((try simp only [eraseA_cons, eraseA_nil, setL_cons, setL_nil, List.set_cons_zero, List.set_cons_succ]); all_goals (first | rfl | (simp only [len_snoc, ints_len, List.length_map, ]; done) | (simp only [len_snoc, len_mid, ints_len, List.length_map, List.length_append, List.length_cons, List.length_nil, Nat.zero_add, ]; first | done | rfl)))
  clear hd1 hw hn
  have hlim' : lim1 ≤ 100 := by rw [← hlim1]; split <;> omega
  clear hlim1 hlim hl0' hl0
  rintro w g G ⟨hn, hw⟩
  simp only [garbA_cons, garbA_nil, setL_cons, setL_nil, List.set_cons_zero, List.set_cons_succ]
  repeat' (first | refine go1 ?_ | refine blockK_else rfl ?_ | (refine wpO_consD fun A B a b => ?_; simp only [go_sem, *]; (repeat' first | apply a.1 | refine iteI (fun h => ?_) fun h => ?_) <;> clear a b A B))
  have hch := Go.Sort.choosePivot_holds ltE d1 a b (by omega)
  refine wpO_cons fun K hK => ?_
  simp only [go_sem]
  refine EvR.mono (chooseE A (C ++ G) d1 n w a b hn hw (by omega) hb (by omega)) ?_
  obtain ⟨cp, hcp⟩ : ∃ c, Go.Sort.choosePivot ltE d1 a b = c := ⟨_, rfl⟩
  rw [hcp] at hch ⊢
  simp only [hcp] at hR
  rintro _ S ⟨rfl, hL⟩
  obtain ⟨w', C', _, hw2, rfl⟩ := left_shift hL
  refine hK.out _ _ ?_
  clear hK K
  repeat' (first | refine go1 ?_ | refine blockK_else rfl ?_ | (refine wpO_consD fun A B a b => ?_; simp only [go_sem, *]; (repeat' first | apply a.1 | refine iteI (fun h => ?_) fun h => ?_) <;> clear a b A B))
  clear hL hw w
  obtain ⟨d2, hd2⟩ : ∃ x, (if cp.2 = .decreasing then Go.Sort.reverseRange d1 a b else d1) = x := ⟨_, rfl⟩
  obtain ⟨pv, hpv⟩ : ∃ x, (if cp.2 = .decreasing then (b - 1) - (cp.1 - a) else cp.1) = x := ⟨_, rfl⟩
  obtain ⟨hint, hhi⟩ : ∃ x, (if cp.2 = .decreasing then Go.Sort.Hint.increasing else cp.2) = x := ⟨_, rfl⟩
  simp only [hd2, hpv, hhi] at hR
  have hpr : a ≤ pv ∧ pv < b := by rw [← hpv]; split <;> omega
  refine wpC_cut [49, 50, 51, 52, 53, 54, 55, 56, 57, 58, 59, 60] (fun _ : Nat => [(11, .int .i64 pv), (12, .int .i64 (Go.Sort.hintCode hint))]) (fun w H => A ++ .arr (rowsD d2) 1 w true :: (C ++ H)) (fun w => d2.size = n ∧ w ≤ n) ?_ ?_
  · by_cases hdec : cp.2 = .decreasing
    · rw [if_pos hdec] at hd2 hpv hhi
      have e1 : Go.Sort.hintCode cp.2 = 2 := by rw [hdec]; rfl
      have e2 : Go.Sort.hintCode hint = 1 := by rw [← hhi]; rfl
      have w1 : IntKind.wrap .i64 ((b : Int) - 1) = ((b - 1 : Nat) : Int) := by rw [wrap_small (by omega) (by omega)]; omega
      have w2 : IntKind.wrap .i64 ((cp.1 : Int) - (a : Int)) = ((cp.1 - a : Nat) : Int) := by rw [wrap_small (by omega) (by omega)]; omega
      have w3 : IntKind.wrap .i64 (((b - 1 : Nat) : Int) - ((cp.1 - a : Nat) : Int)) = (pv : Int) := by rw [wrap_small (by omega) (by omega)]; omega
      clear hhi hdec
      repeat' (first | refine go1 ?_ | refine blockK_else rfl ?_ | (refine go2 fun A B a b => ?_; simp only [go_sem, *]; (repeat' first | apply a.1 | apply b.1 | refine iteI (fun h => ?_) fun h => ?_) <;> clear a b A B))
      refine wpO_cons fun K hK => ?_
      simp only [go_sem]
      refine EvR.mono (revE A (C ++ C') d1 n w' a b hn hw2 (by omega) hb (by omega)) ?_
      rw [hd2]
      rintro _ S ⟨rfl, hL⟩
      obtain ⟨w'', C'', hn3, hw3, rfl⟩ := left_shift hL
      refine hK.out _ _ ?_
      clear hK K
      repeat' (first | refine go1 ?_ | refine blockK_else rfl ?_ | (refine go2 fun A B a b => ?_; simp only [go_sem, *]; (repeat' first | apply a.1 | apply b.1 | refine iteI (fun h => ?_) fun h => ?_) <;> clear a b A B))
      refine cut_next w'' ⟨hn3, hw3⟩ ?_ ⟨_, rfl⟩
      ((try simp only [eraseA_cons, eraseA_nil, setL_cons, setL_nil, List.set_cons_zero, List.set_cons_succ]); all_goals (first | rfl | (simp only [len_snoc, ints_len, List.length_map, e1, e2]; done) | (simp only [len_snoc, len_mid, ints_len, List.length_map, List.length_append, List.length_cons, List.length_nil, Nat.zero_add, e1, e2]; first | done | rfl)))
    · rw [if_neg hdec] at hd2 hpv hhi
      subst hd2 hpv hhi
      have e1 : ¬ Go.Sort.hintCode cp.2 = 2 := by intro e; cases hh : cp.2 <;> rw [hh] at e hdec <;> simp [Go.Sort.hintCode] at e hdec
      clear hdec
      repeat' (first | refine go1 ?_ | refine blockK_else rfl ?_ | (refine go2 fun A B a b => ?_; simp only [go_sem, *]; (repeat' first | apply a.1 | apply b.1 | refine iteI (fun h => ?_) fun h => ?_) <;> clear a b A B))
      refine cut_next w' ⟨hn, hw2⟩ ?_ ⟨_, rfl⟩
      ((try simp only [eraseA_cons, eraseA_nil, setL_cons, setL_nil, List.set_cons_zero, List.set_cons_succ]); all_goals (first | rfl | (simp only [len_snoc, ints_len, List.length_map, ]; done) | (simp only [len_snoc, len_mid, ints_len, List.length_map, List.length_append, List.length_cons, List.length_nil, Nat.zero_add, ]; first | done | rfl)))
  clear hd2 hpv hhi hch hw2 hn
  rintro w g H ⟨hn, hw⟩
  simp only [garbA_cons, garbA_nil, setL_cons, setL_nil, List.set_cons_zero, List.set_cons_succ]
  obtain ⟨pi, hpi⟩ : ∃ x, (if (wb && wp && decide (hint = Go.Sort.Hint.increasing)) = true then Go.Sort.partialInsertionSort ltE d2 a b else (d2, false)) = x := ⟨_, rfl⟩
  simp only [hpi] at hR
  refine wpC_seq ?_
  refine wpC_seq ?_
  refine wpC_cut2 [61, 62, 63, 64, 65, 66, 67, 68, 69, 70, 71, 72] (fun _ : Nat => []) (fun w H => A ++ .arr (rowsD pi.1) 1 w true :: (C ++ H)) (fun w => pi.1.size = n ∧ w ≤ n ∧ pi.2 = false) ?_ ?_
  · by_cases hc : (wb && wp && decide (hint = Go.Sort.Hint.increasing)) = true
    · rw [if_pos hc] at hpi
      simp only [Bool.and_eq_true, decide_eq_true_eq] at hc
      obtain ⟨⟨rfl, rfl⟩, rfl⟩ := hc
      have e1 : Go.Sort.hintCode Go.Sort.Hint.increasing = 1 := rfl
      repeat' (first | refine go1 ?_ | refine blockK_else rfl ?_ | (refine go2 fun A B a b => ?_; simp only [go_sem, *, e1]; (repeat' first | apply a.1 | apply b.1 | refine iteI (fun h => ?_) fun h => ?_) <;> clear a b A B))
      refine wpO_cons fun K hK => ?_
      simp only [go_sem]
      refine EvR.mono (partE A (C ++ H) d2 n w a b hn hw (by omega) hb (by omega)) ?_
      rw [hpi]
      rintro _ S ⟨rfl, hL⟩
      obtain ⟨w'', C'', hn3, hw3, rfl⟩ := left_shift hL
      refine hK.out _ _ ?_
      clear hK K
      obtain ⟨d3, pb⟩ := pi
      cases pb with
      | true =>
        simp only [if_true] at hR
        subst hR
        repeat' (first | refine go1 ?_ | refine blockK_else rfl ?_ | (refine go2 fun A B a b => ?_; simp only [go_sem, *]; (repeat' first | apply a.1 | apply b.1 | refine iteI (fun h => ?_) fun h => ?_) <;> clear a b A B))
        simp only [go_sem]
        exact ⟨hn3, w'', _, hw3, rfl⟩
      | false =>
        repeat' (first | refine go1 ?_ | refine blockK_else rfl ?_ | (refine go2 fun A B a b => ?_; simp only [go_sem, *]; (repeat' first | apply a.1 | apply b.1 | refine iteI (fun h => ?_) fun h => ?_) <;> clear a b A B))
        refine cut_next w'' ⟨hn3, hw3, rfl⟩ ?_ ⟨_, rfl⟩
        ((try simp only [eraseA_cons, eraseA_nil, setL_cons, setL_nil, List.set_cons_zero, List.set_cons_succ]); all_goals (first | rfl | (simp only [len_snoc, ints_len, List.length_map, ]; done) | (simp only [len_snoc, len_mid, ints_len, List.length_map, List.length_append, List.length_cons, List.length_nil, Nat.zero_add, ]; first | done | rfl)))
    · rw [if_neg hc] at hpi
      subst hpi
      have e0 : wb = true → wp = true → ¬ Go.Sort.hintCode hint = 1 := by
        rintro rfl rfl e
        cases hint <;> simp [Go.Sort.hintCode] at hc e
      clear hc hR
      cases wb <;> cases wp
      all_goals
        try have e1 := e0 rfl rfl
        clear e0
        repeat' (first | refine go1 ?_ | refine blockK_else rfl ?_ | (refine go2 fun A B a b => ?_; simp only [go_sem, *]; (repeat' first | apply a.1 | apply b.1 | refine iteI (fun h => ?_) fun h => ?_) <;> clear a b A B))
        refine cut_next w ⟨hn, hw, rfl⟩ ?_ ⟨_, rfl⟩
        ((try simp only [eraseA_cons, eraseA_nil, setL_cons, setL_nil, List.set_cons_zero, List.set_cons_succ]); all_goals (first | rfl | (simp only [len_snoc, ints_len, List.length_map, ]; done) | (simp only [len_snoc, len_mid, ints_len, List.length_map, List.length_append, List.length_cons, List.length_nil, Nat.zero_add, ]; first | done | rfl)))
  clear hpi hn hw w
  rintro w g H ⟨hn, hw, hpf⟩
  rw [hpf] at hR
  simp only [Bool.false_eq_true, if_false] at hR
  obtain ⟨d3, hd3⟩ : ∃ x, pi.1 = x := ⟨_, rfl⟩
  rw [hd3] at hR hn ⊢
  simp only [garbA_cons, garbA_nil, setL_cons, setL_nil, List.set_cons_zero, List.set_cons_succ]
  clear hd3 hpf
  have p1 : a - 1 < n := by omega
  have p2 : pv < n := by omega
  by_cases heq : (decide (a > 0) && !ltE d3[a - 1]! d3[pv]!) = true
  · rw [if_pos heq] at hR
    simp only [Bool.and_eq_true, decide_eq_true_eq, Bool.not_eq_true'] at heq
    obtain ⟨ha0, hlt⟩ := heq
    have ha0' : (0 : Int) < (a : Int) := by omega
    have w1 : IntKind.wrap .i64 ((a : Int) - 1) = ((a - 1 : Nat) : Int) := by rw [wrap_small (by omega) (by omega)]; omega
    have hr := peq_range a b (b - 1 + 1 - (a + 1)) (a + 1) (b - 1) (Go.Sort.swp d3 a pv) (Nat.le_refl _) (by omega) (by omega)
    have hpe : Go.Sort.partitionEqual ltE d3 a b pv = Go.Sort.partEqLoop ltE a (a + 1) (b - 1) (Go.Sort.swp d3 a pv) := rfl
    rw [← hpe] at hr
    clear hpe
    repeat' (first | refine go1 ?_ | refine blockK_else rfl ?_ | (refine go2 fun A B a b => ?_; simp only [go_sem, *, getElem?_len, set_len, idxD, rowsD_get, rowsD_len, rowsD_put, dropD, takeD, sizeD, (lessE _ _).rw, encE, hlt]; (repeat' first | apply a.1 | apply b.1 | refine iteI (fun h => ?_) fun h => ?_) <;> clear a b A B))
    refine wpO_cons fun K hK => ?_
    simp only [go_sem]
    refine EvR.mono (partEqE A (C ++ H) d3 n w a b pv hn hw hpr.1 hpr.2 hb (by omega)) ?_
    obtain ⟨⟨mid, d4⟩, hP⟩ : ∃ x, Go.Sort.partitionEqual ltE d3 a b pv = x := ⟨_, rfl⟩
    rw [hP] at hr ⊢
    simp only [hP] at hR hr
    rw [dif_pos (by omega)] at hR
    rintro _ S ⟨rfl, hL⟩
    obtain ⟨w'', C'', hn3, hw3, rfl⟩ := left_shift hL
    refine hK.out _ _ ?_
    clear hK K
    repeat' (first | refine go1 ?_ | refine blockK_else rfl ?_ | (refine go2 fun A B a b => ?_; simp only [go_sem, *]; (repeat' first | apply a.1 | apply b.1 | refine iteI (fun h => ?_) fun h => ?_) <;> clear a b A B))
    refine loopF_next (mid, b, lim1, wb, wp, d4, w'') (by simp only; omega) ⟨hn3, hw3, by simp only; omega, hb, by simp only; omega, hlim', hR⟩ ?_ ⟨_, rfl⟩
    ((try simp only [eraseA_cons, eraseA_nil, setL_cons, setL_nil, List.set_cons_zero, List.set_cons_succ]); all_goals (first | rfl | (simp only [len_snoc, ints_len, List.length_map, ]; done) | (simp only [len_snoc, len_mid, ints_len, List.length_map, List.length_append, List.length_cons, List.length_nil, Nat.zero_add, ]; first | done | rfl)))
  · rw [if_neg heq] at hR
    have hpr2 := Go.Sort.partition_holds ltE Go.Sort.swo_ltInt d3 a b pv hpr.1 hpr.2 (by omega)
    have hr : a ≤ (Go.Sort.partition ltE d3 a b pv).1 ∧ (Go.Sort.partition ltE d3 a b pv).1 < b := ⟨hpr2.1, hpr2.2.1⟩
    clear hpr2
    have w1 : (0 : Int) < (a : Int) → IntKind.wrap .i64 ((a : Int) - 1) = ((a - 1 : Nat) : Int) := fun _ => by rw [wrap_small (by omega) (by omega)]; omega
    have hlt : (0 : Int) < (a : Int) → ltE d3[a - 1]! d3[pv]! = true := fun h => by
      simp only [Bool.and_eq_true, decide_eq_true_eq, Bool.not_eq_true', not_and] at heq
      simpa using heq (by omega)
    clear heq
    refine wpC_seq ?_
    refine wpC_seq ?_
    refine wpC_cut2 [13, 73, 74, 75, 76, 77, 78, 79, 80, 81, 82, 83, 84, 85, 86, 87, 88, 89, 90, 91, 92, 93] (fun _ : Nat => []) (fun _ H => A ++ .arr (rowsD d3) 1 w true :: (C ++ H)) (fun _ => True) ?_ ?_
    · by_cases h0 : (0 : Int) < (a : Int)
      · have w1 := w1 h0
        have hlt := hlt h0
        repeat' (first | refine go1 ?_ | refine blockK_else rfl ?_ | (refine go2 fun A B a b => ?_; simp only [go_sem, *, getElem?_len, set_len, idxD, rowsD_get, rowsD_len, rowsD_put, dropD, takeD, sizeD, (lessE _ _).rw, encE, hlt]; (repeat' first | apply a.1 | apply b.1 | refine iteI (fun h => ?_) fun h => ?_) <;> clear a b A B))
        refine cut_next 0 trivial ?_ ⟨_, rfl⟩
        ((try simp only [eraseA_cons, eraseA_nil, setL_cons, setL_nil, List.set_cons_zero, List.set_cons_succ]); all_goals (first | rfl | (simp only [len_snoc, ints_len, List.length_map, ]; done) | (simp only [len_snoc, len_mid, ints_len, List.length_map, List.length_append, List.length_cons, List.length_nil, Nat.zero_add, ]; first | done | rfl)))
      · clear w1 hlt
        repeat' (first | refine go1 ?_ | refine blockK_else rfl ?_ | (refine go2 fun A B a b => ?_; simp only [go_sem, *, getElem?_len, set_len, idxD, rowsD_get, rowsD_len, rowsD_put, dropD, takeD, sizeD, (lessE _ _).rw, encE]; (repeat' first | apply a.1 | apply b.1 | refine iteI (fun h => ?_) fun h => ?_) <;> clear a b A B))
        refine cut_next 0 trivial ?_ ⟨_, rfl⟩
        ((try simp only [eraseA_cons, eraseA_nil, setL_cons, setL_nil, List.set_cons_zero, List.set_cons_succ]); all_goals (first | rfl | (simp only [len_snoc, ints_len, List.length_map, ]; done) | (simp only [len_snoc, len_mid, ints_len, List.length_map, List.length_append, List.length_cons, List.length_nil, Nat.zero_add, ]; first | done | rfl)))
    clear w1 hlt
    rintro _ g H _
    simp only [garbA_cons, garbA_nil, setL_cons, setL_nil, List.set_cons_zero, List.set_cons_succ]
    repeat' (first | refine go1 ?_ | refine blockK_else rfl ?_ | (refine wpO_consD fun A B a b => ?_; simp only [go_sem, *]; (repeat' first | apply a.1 | refine iteI (fun h => ?_) fun h => ?_) <;> clear a b A B))
    refine wpO_cons fun K hK => ?_
    simp only [go_sem]
    refine EvR.mono (partitE A (C ++ H) d3 n w a b pv hn hw hpr.1 hpr.2 hb (by omega)) ?_
    obtain ⟨⟨mid, ap, d4⟩, hP⟩ : ∃ x, Go.Sort.partition ltE d3 a b pv = x := ⟨_, rfl⟩
    rw [hP] at hr ⊢
    simp only [hP] at hR hr
    rw [dif_pos hr] at hR
    rintro _ S ⟨rfl, hL⟩
    obtain ⟨w'', C'', hn3, hw3, rfl⟩ := left_shift hL
    refine hK.out _ _ ?_
    clear hK K
    have v1 : IntKind.wrap .i64 ((mid : Int) - (a : Int)) = ((mid - a : Nat) : Int) := by rw [wrap_small (by omega) (by omega)]; omega
    have v2 : IntKind.wrap .i64 ((b : Int) - (mid : Int)) = ((b - mid : Nat) : Int) := by rw [wrap_small (by omega) (by omega)]; omega
    have v3 : IntKind.wrap .i64 (((b - a : Nat) : Int).tdiv 8) = (((b - a) / 8 : Nat) : Int) := by rw [Int.tdiv_eq_ediv_of_nonneg (by omega), wrap_small (by omega) (by omega)]; omega
    have v4 : ¬ (8 : Int) = 0 := by omega
    have v5 := wrap_succ (n := mid) (by omega)
    by_cases hlr : mid - a < b - mid
    · have hlr' : ((mid - a : Nat) : Int) < ((b - mid : Nat) : Int) := by omega
      rw [if_pos hlr] at hR
      repeat' (first | refine go1 ?_ | refine blockK_else rfl ?_ | (refine go2 fun A B a b => ?_; simp only [go_sem, *]; (repeat' first | apply a.1 | apply b.1 | refine iteI (fun h => ?_) fun h => ?_) <;> clear a b A B))
      refine wpO_cons fun K hK => ?_
      simp only [go_sem]
      refine EvR.mono (ih (mid - a) (by omega) A (C ++ C'') d4 n w'' a mid lim1 (Nat.le_refl _) hn3 hw3 hr.1 (by omega) hsm hlim') ?_
      rintro _ S ⟨rfl, hL2⟩
      obtain ⟨w4, C4, hn4, hw4, rfl⟩ := left_shift hL2
      refine hK.out _ _ ?_
      clear hK K
      repeat' (first | refine go1 ?_ | refine blockK_else rfl ?_ | (refine go2 fun A B a b => ?_; simp only [go_sem, *]; (repeat' first | apply a.1 | apply b.1 | refine iteI (fun h => ?_) fun h => ?_) <;> clear a b A B))
      refine loopF_next (mid + 1, b, lim1, decide (mid - a ≥ (b - a) / 8), ap, _, w4) (by simp only; omega) ⟨hn4, hw4, by simp only; omega, hb, by simp only; omega, hlim', hR⟩ ?_ ⟨_, rfl⟩
      have ed : decide ((((b - a) / 8 : Nat) : Int) ≤ ((mid - a : Nat) : Int)) = decide (mid - a ≥ (b - a) / 8) := by simp only [ge_iff_le, Int.ofNat_le]
      ((try simp only [eraseA_cons, eraseA_nil, setL_cons, setL_nil, List.set_cons_zero, List.set_cons_succ]); all_goals (first | rfl | (simp only [len_snoc, ints_len, List.length_map, ed]; done) | (simp only [len_snoc, len_mid, ints_len, List.length_map, List.length_append, List.length_cons, List.length_nil, Nat.zero_add, ed]; first | done | rfl)))
    · have hlr' : ¬ ((mid - a : Nat) : Int) < ((b - mid : Nat) : Int) := by omega
      rw [if_neg hlr] at hR
      repeat' (first | refine go1 ?_ | refine blockK_else rfl ?_ | (refine go2 fun A B a b => ?_; simp only [go_sem, *]; (repeat' first | apply a.1 | apply b.1 | refine iteI (fun h => ?_) fun h => ?_) <;> clear a b A B))
      refine wpO_cons fun K hK => ?_
      simp only [go_sem]
      refine EvR.mono (ih (b - (mid + 1)) (by omega) A (C ++ C'') d4 n w'' (mid + 1) b lim1 (Nat.le_refl _) hn3 hw3 (by omega) hb hsm hlim') ?_
      rintro _ S ⟨rfl, hL2⟩
      obtain ⟨w4, C4, hn4, hw4, rfl⟩ := left_shift hL2
      refine hK.out _ _ ?_
      clear hK K
      repeat' (first | refine go1 ?_ | refine blockK_else rfl ?_ | (refine go2 fun A B a b => ?_; simp only [go_sem, *]; (repeat' first | apply a.1 | apply b.1 | refine iteI (fun h => ?_) fun h => ?_) <;> clear a b A B))
      refine loopF_next (a, mid, lim1, decide (b - mid ≥ (b - a) / 8), ap, _, w4) (by simp only; omega) ⟨hn4, hw4, hr.1, by simp only; omega, by simp only; omega, hlim', hR⟩ ?_ ⟨_, rfl⟩
      have ed : decide ((((b - a) / 8 : Nat) : Int) ≤ ((b - mid : Nat) : Int)) = decide (b - mid ≥ (b - a) / 8) := by simp only [ge_iff_le, Int.ofNat_le]
      ((try simp only [eraseA_cons, eraseA_nil, setL_cons, setL_nil, List.set_cons_zero, List.set_cons_succ]); all_goals (first | rfl | (simp only [len_snoc, ints_len, List.length_map, ed]; done) | (simp only [len_snoc, len_mid, ints_len, List.length_map, List.length_append, List.length_cons, List.length_nil, Nat.zero_add, ed]; first | done | rfl)))

/- slices.Sort, slices.Collect, slices.Sorted at ints. -/
open Go.Proofs
attribute [local go_sem] ty111 br71 br72 fz6 fz7 nilsK fz57 fz70 br76 fz5
set_option maxRecDepth 20000
set_option maxHeartbeats 4000000

theorem rowsD_ints (l : List Int) : rowsD l.toArray = ints l := rfl
theorem rowsD_toList (d : Array Int) : rowsD d = ints d.toList := rfl

theorem sortE (A C : Store) (d : Array El) (n w : Nat) (hn : d.size = n) (hw : w ≤ n) (hsm : n < 4294967296) :
    EvR CX 72 [.sl A.length n 0 n 1] (A ++ .arr (rowsD d) 1 w true :: C) (fun v S => v = .tup [] ∧ Left A C n (Go.Sort.sort ltE d) S) := by
  have w1 := wrapU64 (n := n) (by omega)
  have q := (lenE n hsm).rw
  have hk := (Go.Sort.bitsLen_le_iff n 32).2 (by omega)
  refine EvR.walk rfl fn72 rfl nt72 rfl ?_
  simp only [List.length_cons, List.length_nil, List.cons_append, List.nil_append, Nat.reduceAdd, Nat.reduceSub, List.replicate]
  repeat' (first | refine go1 ?_ | refine blockK_else rfl ?_ | (refine go2 fun A B a b => ?_; simp only [go_sem, *, cvtK_int, wpK_cvt ty3 ty130 rfl, lenK_sl]; (repeat' first | apply a.1 | apply b.1 | refine iteI (fun h => ?_) fun h => ?_) <;> clear a b A B))
  refine wpO_cons fun K hK => ?_
  simp only [go_sem, cvtK_int, wpK_cvt ty3 ty130 rfl]
  refine EvR.mono (pdqE n A C d n w 0 n (Go.Sort.bitsLen n) (by omega) hn hw (Nat.zero_le _) (Nat.le_refl _) hsm (by omega)) ?_
  have e : Go.Sort.sort ltE d = Go.Sort.pdq ltE d 0 n (Go.Sort.bitsLen n) true true := by rw [Go.Sort.sort, hn]
  rw [← e]
  rintro _ S ⟨rfl, hL⟩
  refine hK.out _ _ ?_
  clear hK K
  repeat' (first | refine go1 ?_ | refine blockK_else rfl ?_ | (refine go2 fun A B a b => ?_; simp only [go_sem, *, cvtK_int, wpK_cvt ty3 ty130 rfl]; (repeat' first | apply a.1 | apply b.1 | refine iteI (fun h => ?_) fun h => ?_) <;> clear a b A B))
  simp only [go_sem, cvtK_int, wpK_cvt ty3 ty130 rfl]
  exact hL

theorem insNil (S : Store) : EvR CX 83 [.flat (.slice none 0 0), .int .i64 0, .int .i64 (0 : Nat)] S (fun v S' => v = .tup [] ∧ S' = S) := by
  have w1 : IntKind.wrap .i64 (0 + 1) = 1 := rfl
  refine EvR.walk rfl fn83 rfl nt83 rfl ?_
  simp only [List.length_cons, List.length_nil, List.cons_append, List.nil_append, Nat.reduceAdd, Nat.reduceSub, List.replicate]
  repeat' (first | refine go1 ?_ | refine blockK_else rfl ?_ | (refine go2 fun A B a b => ?_; simp only [go_sem, *]; (repeat' first | apply a.1 | apply b.1 | refine iteI (fun h => ?_) fun h => ?_) <;> clear a b A B))
  refine wpC_loopF [7, 10, 11, 12, 13, 14, 15, 16, 17, 18, 19, 20, 21, 22, 23, 24, 25, 26, 27, 28, 29, 30, 31, 32, 33, 34, 35, 36, 37, 38, 39, 40, 41, 42, 43, 44, 45, 46, 47, 48] (fun _ : Nat => [(6, .int .i64 1)]) (fun _ _ => S) (fun _ => True) (fun p => p) 0 trivial ?_ ?_ ?_
  · rfl
  · exact ⟨[], rfl⟩
  rintro _ g G _
  have z : ¬ (1 : Int) < ((0 : Nat) : Int) := by omega
  simp only [garbA_cons, garbA_nil, setL_cons, setL_nil, List.set_cons_zero, List.set_cons_succ]
  repeat' (first | refine go1 ?_ | refine blockK_else rfl ?_ | (refine go2 fun A B a b => ?_; simp only [go_sem, *]; (repeat' first | apply a.1 | apply b.1 | refine iteI (fun h => ?_) fun h => ?_) <;> clear a b A B))
  simp only [go_sem]

theorem pdqNil (S : Store) : EvR CX 77 [.flat (.slice none 0 0), .int .i64 0, .int .i64 (0 : Nat), .int .i64 (0 : Nat)] S (fun v S' => v = .tup [] ∧ S' = S) := by
  have w1 : IntKind.wrap .i64 (((0 : Nat) : Int) - 0) = 0 := rfl
  refine EvR.walk rfl fn77 rfl nt77 rfl ?_
  simp only [List.length_cons, List.length_nil, List.cons_append, List.nil_append, Nat.reduceAdd, Nat.reduceSub, List.replicate]
  repeat' (first | refine go1 ?_ | refine blockK_else rfl ?_ | (refine go2 fun A B a b => ?_; simp only [go_sem, *]; (repeat' first | apply a.1 | apply b.1 | refine iteI (fun h => ?_) fun h => ?_) <;> clear a b A B))
  refine wpC_loopF [10, 11, 12, 13, 14, 15, 16, 17, 18, 19, 20, 21, 22, 23, 24, 25, 26, 27, 28, 29, 30, 31, 32, 33, 34, 35, 36, 37, 38, 39, 40, 41, 42, 43, 44, 45, 46, 47, 48, 49, 50, 51, 52, 53, 54, 55, 56, 57, 58, 59, 60, 61, 62, 63, 64, 65, 66, 67, 68, 69, 70, 71, 72, 73, 74, 75, 76, 77, 78, 79, 80, 81, 82, 83, 84, 85, 86, 87, 88, 89, 90, 91, 92, 93, 94, 95, 96, 97, 98, 99, 100, 101, 102, 103, 104, 105, 106, 107, 108, 109, 110, 111, 112, 113, 114, 115, 116, 117, 118, 119, 120, 121, 122, 123, 124, 125, 126, 127, 128, 129, 130, 131, 132, 133] (fun _ : Nat => []) (fun _ _ => S) (fun _ => True) (fun p => p) 0 trivial ?_ ?_ ?_
  · rfl
  · exact ⟨[], rfl⟩
  rintro _ g G _
  have z : (0 : Int) ≤ 12 := by omega
  simp only [garbA_cons, garbA_nil, setL_cons, setL_nil, List.set_cons_zero, List.set_cons_succ]
  repeat' (first | refine go1 ?_ | refine blockK_else rfl ?_ | (refine go2 fun A B a b => ?_; simp only [go_sem, *]; (repeat' first | apply a.1 | apply b.1 | refine iteI (fun h => ?_) fun h => ?_) <;> clear a b A B))
  refine wpO_cons fun K hK => ?_
  simp only [go_sem]
  refine EvR.mono (insNil S) ?_
  rintro _ _ ⟨rfl, rfl⟩
  refine hK.out _ _ ?_
  clear hK K
  repeat' (first | refine go1 ?_ | refine blockK_else rfl ?_ | (refine go2 fun A B a b => ?_; simp only [go_sem, *]; (repeat' first | apply a.1 | apply b.1 | refine iteI (fun h => ?_) fun h => ?_) <;> clear a b A B))
  simp only [go_sem]

theorem sortNil (S : Store) : EvR CX 72 [.flat (.slice none 0 0)] S (fun v S' => v = .tup [] ∧ S' = S) := by
  have w1 := wrapU64 (n := 0) (by omega)
  have q := (lenE 0 (by omega)).rw
  have e : Go.Sort.bitsLen 0 = 0 := rfl
  rw [e] at q
  refine EvR.walk rfl fn72 rfl nt72 rfl ?_
  simp only [List.length_cons, List.length_nil, List.cons_append, List.nil_append, Nat.reduceAdd, Nat.reduceSub, List.replicate]
  repeat' (first | refine go1 ?_ | refine blockK_else rfl ?_ | (refine go2 fun A B a b => ?_; simp only [go_sem, *, cvtK_int, wpK_cvt ty3 ty130 rfl, lenK_nils]; (repeat' first | apply a.1 | apply b.1 | refine iteI (fun h => ?_) fun h => ?_) <;> clear a b A B))
  refine wpO_cons fun K hK => ?_
  simp only [go_sem, cvtK_int, wpK_cvt ty3 ty130 rfl]
  refine EvR.mono (pdqNil S) ?_
  rintro _ _ ⟨rfl, rfl⟩
  refine hK.out _ _ ?_
  clear hK K
  repeat' (first | refine go1 ?_ | refine blockK_else rfl ?_ | (refine go2 fun A B a b => ?_; simp only [go_sem, *, cvtK_int, wpK_cvt ty3 ty130 rfl]; (repeat' first | apply a.1 | apply b.1 | refine iteI (fun h => ?_) fun h => ?_) <;> clear a b A B))
  simp only [go_sem, cvtK_int, wpK_cvt ty3 ty130 rfl]

/-- What Collect and Sorted hand back. -/
def outV (l : List Int) : AV := if l = [] then .flat (.slice none 0 0) else .osl 1 (ints l)

theorem intsOf_ints : ∀ l : List Int, intsOf (ints l) = some l
  | [] => rfl
  | x :: l => by
    have := intsOf_ints l
    simp only [ints, List.map_cons, intsOf] at this ⊢
    rw [this]

theorem seqInts_sls {v : AV} {l : List Int} (h : SLs 1 (ints l) v) : seqInts v = some l := by
  cases h with
  | rows st => exact intsOf_ints l
  | esl h =>
    have : l = [] := by simpa [ints] using h
    subst this; rfl
  | nil h =>
    have : l = [] := by simpa [ints] using h
    subst this; rfl

theorem seqE (v : AV) (l : List Int) (st : Bool) (hv : SLs 1 (ints l) v) (hl : l.length ≤ 1099511627776) : EvV CX 76 [.flat (.slice none 0 0), .fn 73 [.tptr st [v] 0]] (· = outV l) := by
  by_cases h : l = []
  · subst h
    refine EvV.prim (r := .flat (.slice none 0 0)) (S := []) rfl ?_ rfl
    simp only [primSeq, seqInts_sls hv]
    rfl
  · have h0 : ¬ l.length = 0 := by simpa using h
    refine EvV.prim (r := .sl 0 l.length 0 l.length 1) (S := [.arr (ints l) 1 0 true]) rfl ?_ ?_
    · simp only [primSeq, seqInts_sls hv, if_true, if_pos hl, if_neg h0]
      rfl
    · simp only [outV, if_neg h]
      simp [exportA, idsOK, ownIds, lentIds, expTop, ints_len]

theorem colE (v : AV) (l : List Int) (st : Bool) (hv : SLs 1 (ints l) v) (hl : l.length ≤ 1099511627776) : EvV CX 71 [.fn 73 [.tptr st [v] 0]] (· = outV l) := by
  have q := (seqE v l st hv hl).rw
  have hs : ∀ S, snap S (.tptr st [v] 0) = some (.tptr st [v] 0) := fun S => by simp only [snap]
  by_cases h : l = []
  · subst h
    have e : outV [] = .flat (.slice none 0 0) := rfl
    rw [e] at q ⊢
    have ha : ∀ id, adoptA id (.flat (.slice none 0 0)) = (.flat (.slice none 0 0), []) := fun _ => rfl
    refine EvV.walk rfl fn71 rfl nt71 rfl ?_
    simp only [List.length_cons, List.length_nil, List.cons_append, List.nil_append, Nat.reduceAdd, Nat.reduceSub, List.replicate]
    repeat' (first | refine go1 ?_ | refine blockK_else rfl ?_ | (refine go2 fun A B a b => ?_; simp only [go_sem, *, wpK_assignN ty22 rfl, hs, ha]; (repeat' first | apply a.1 | apply b.1 | refine iteI (fun h => ?_) fun h => ?_) <;> clear a b A B))
    simp only [go_sem, wpK_assignN ty22 rfl]
    simp [expK, exportA, idsOK, ownIds, expTop, AV.stab]
  · have e : outV l = .osl 1 (ints l) := by rw [outV, if_neg h]
    rw [e] at q ⊢
    refine EvV.walk rfl fn71 rfl nt71 rfl ?_
    simp only [List.length_cons, List.length_nil, List.cons_append, List.nil_append, Nat.reduceAdd, Nat.reduceSub, List.replicate]
    repeat' (first | refine go1 ?_ | refine blockK_else rfl ?_ | (refine go2 fun A B a b => ?_; simp only [go_sem, *, wpK_assignN ty22 rfl, hs]; (repeat' first | apply a.1 | apply b.1 | refine iteI (fun h => ?_) fun h => ?_) <;> clear a b A B))
    simp only [go_sem, wpK_assignN ty22 rfl, ints_len]
    simp

def srt (l : List Int) : List Int := l.mergeSort fun x y => decide (x ≤ y)
theorem srt_len (l : List Int) : (srt l).length = l.length := by simp [srt]
theorem srt_nil (l : List Int) : srt l = [] ↔ l = [] := by
  rw [← List.length_eq_zero_iff, srt_len, List.length_eq_zero_iff]

theorem srtE (v : AV) (l : List Int) (st : Bool) (hv : SLs 1 (ints l) v) (hl : l.length < 4294967296) : EvV CX 56 [.fn 73 [.tptr st [v] 0]] (· = outV (srt l)) := by
  have q := (colE v l st hv (by omega)).rw
  have hs : ∀ S, snap S (.tptr st [v] 0) = some (.tptr st [v] 0) := fun S => by simp only [snap]
  by_cases h : l = []
  · subst h
    have e : outV [] = .flat (.slice none 0 0) := rfl
    have e' : outV (srt []) = .flat (.slice none 0 0) := by simp [outV, srt]
    rw [e] at q
    rw [e']
    have ha : ∀ id, adoptA id (.flat (.slice none 0 0)) = (.flat (.slice none 0 0), []) := fun _ => rfl
    refine EvV.walk rfl fn56 rfl nt56 rfl ?_
    simp only [List.length_cons, List.length_nil, List.cons_append, List.nil_append, Nat.reduceAdd, Nat.reduceSub, List.replicate]
    repeat' (first | refine go1 ?_ | refine blockK_else rfl ?_ | (refine wpO_consD fun A B a b => ?_; simp only [go_sem, *, wpK_assignN ty22 rfl, hs, ha]; (repeat' first | apply a.1 | refine iteI (fun h => ?_) fun h => ?_) <;> clear a b A B))
    refine wpO_cons fun K hK => ?_
    simp only [go_sem, wpK_assignN ty22 rfl]
    refine EvR.mono (sortNil _) ?_
    rintro _ _ ⟨rfl, rfl⟩
    refine hK.out _ _ ?_
    clear hK K
    repeat' (first | refine go1 ?_ | refine blockK_else rfl ?_ | (refine go2 fun A B a b => ?_; simp only [go_sem, *, wpK_assignN ty22 rfl]; (repeat' first | apply a.1 | apply b.1 | refine iteI (fun h => ?_) fun h => ?_) <;> clear a b A B))
    simp only [go_sem, wpK_assignN ty22 rfl]
    simp [expK, exportA, idsOK, ownIds, expTop, AV.stab]
  · have e : outV l = .osl 1 (ints l) := by rw [outV, if_neg h]
    have e' : outV (srt l) = .osl 1 (ints (srt l)) := by rw [outV, if_neg (by rw [srt_nil]; exact h)]
    rw [e] at q
    rw [e']
    refine EvV.walk rfl fn56 rfl nt56 rfl ?_
    simp only [List.length_cons, List.length_nil, List.cons_append, List.nil_append, Nat.reduceAdd, Nat.reduceSub, List.replicate]
    repeat' (first | refine go1 ?_ | refine blockK_else rfl ?_ | (refine wpO_consD fun A B a b => ?_; simp only [go_sem, *, wpK_assignN ty22 rfl, hs]; (repeat' first | apply a.1 | refine iteI (fun h => ?_) fun h => ?_) <;> clear a b A B))
    have hsz : l.toArray.size = l.length := by simp
    have hso : (Go.Sort.sort ltE l.toArray).toList = srt l := Go.Sort.sortInt l
    refine wpO_cons fun K hK => ?_
    simp only [go_sem, wpK_assignN ty22 rfl]
    simp only [ints_len]
    refine EvR.mono (sortE [.arr [] 1 0 true] [] l.toArray l.length 0 hsz (Nat.zero_le _) hl) ?_
    rintro _ S ⟨rfl, hL⟩
    obtain ⟨h1, w', C', hw', rfl⟩ := hL
    have e2 : rowsD (Go.Sort.sort ltE l.toArray) = ints (srt l) := by rw [rowsD_toList, hso]
    rw [SB, e2]
    refine hK.out _ _ ?_
    clear hK K
    repeat' (first | refine go1 ?_ | refine blockK_else rfl ?_ | (refine go2 fun A B a b => ?_; simp only [go_sem, *, wpK_assignN ty22 rfl]; (repeat' first | apply a.1 | apply b.1 | refine iteI (fun h => ?_) fun h => ?_) <;> clear a b A B))
    simp only [go_sem, wpK_assignN ty22 rfl, ints_len, srt_len]
    simp [hw']

/- slices.Compact at ints, num.Sorted. -/
open Go.Proofs
attribute [local go_sem] br55 br56 br57 fz22 ty110 br73
set_option maxRecDepth 20000
set_option maxHeartbeats 4000000

/-- One of each run of equal numbers. -/
def dedup : List Int → List Int
  | [] => []
  | [x] => [x]
  | x :: y :: l => if x = y then dedup (y :: l) else x :: dedup (y :: l)

theorem wpK_clear {X : Ctx} {d : Bool} {dst : Option Tmp} {ty : TypeId} {pos : String} {after : Array Edge} {g : Option (Nat × Bool)} {K : List AV → Store → Prop} {fr : List AV} {S : Store} {s : Operand} {t el : TypeId} {i ei : TyI} {b e off len sz wep : Nat} {rows : List (List AV)} {pr : Bool}
    (ht : X.ty t = some i) (hd : i.desc = .slice el) (he : X.ty el = some ei) (hs : evalA fr s = .sl b e off len sz) (hb : S[b]? = some (.arr rows sz wep pr))
    (h1 : rows.length = e) (h2 : wep ≤ e) (h3 : sz = ei.size) (h4 : ei.zero.length = sz) (h5 : off + len ≤ e) (h6 : len ≠ 0)
    (hk : K (putA fr dst (.tup [])) (S.set b (.arr (rows.take off ++ List.replicate len ei.zero ++ rows.drop (off + len)) sz e pr))) :
    wpK X d ⟨dst, .call ⟨.builtin .clear, ⟨[s]⟩, ⟨[t]⟩⟩, ty, pos, after, g⟩ dst K fr S := by
  obtain ⟨a, bb, c, z, dd⟩ := i
  simp only at hd; subst hd
  rw [wpK_eop rfl rfl rfl rfl rfl]
  simp only [eopA, ht, hs, he, hb]
  rw [if_pos ⟨h1, h2, h3, trivial, h4, h5⟩, if_neg h6]
  exact hk

theorem idxS {b n off len j : Nat} {k : IntKind} (h : j < len) : indexAddrA CX 22 (.sl b n off len 1) (.int k j) = some (.ptr b n 1 (off + j) 0) := by
  have : (j : Int) < len := by omega
  simp [indexAddrA, ty22, ty3, this]
theorem slcFrom {b n i : Nat} {k : IntKind} (h0 : 0 < i) (h : i < n) : sliceA CX 22 (.sl b n 0 n 1) (some (.int k i)) none none = some (.sl b n i (n - i) 1) := by
  have h1 : ¬ i = 0 := by omega
  have h2 : ¬ i = n := by omega
  have h3 : i ≤ n := by omega
  simp [sliceA, ty22, ty3, boundA, h1, h2, h3]
theorem slcTo {b n i : Nat} {k : IntKind} (h : i ≤ n) : sliceA CX 22 (.sl b n 0 n 1) none (some (.int k i)) none = some (.sl b n 0 i 1) := by
  simp [sliceA, ty22, ty3, boundA, h]

/-- The numbers of a row from a place on. -/
def fromA (d : Array Int) (i : Nat) : List Int := d.toList.drop i
theorem fromA_cons {d : Array Int} {i : Nat} (h : i < d.size) : fromA d i = d[i]! :: fromA d (i + 1) := by
  unfold fromA
  rw [List.drop_eq_getElem_cons (by simpa using h)]
  simp [h]
theorem fromA_end {d : Array Int} {i : Nat} (h : d.size ≤ i) : fromA d i = [] := by simp [fromA, h]

theorem dedup_head (x : Int) (l : List Int) : dedup (x :: l) = x :: (dedup (x :: l)).tail := by
  induction l generalizing x with
  | nil => rfl
  | cons y l ih =>
    rw [dedup]
    split
    · rename_i h; subst h; exact ih x
    · rfl

theorem take_set {l : List Int} {i : Nat} {x : Int} (h : i < l.length) : (l.set i x).take (i + 1) = l.take i ++ [x] := by
  rw [List.take_add_one, List.take_set_of_le (Nat.le_refl _)]; simp [h]

theorem compE (A C : Store) (d : Array El) (n w : Nat) (hn : d.size = n) (hw : w ≤ n) (hsm : n < 4294967296) :
    EvR CX 55 [.sl A.length n 0 n 1] (A ++ .arr (rowsD d) 1 w true :: C)
      (fun v S => ∃ k d' w' C', v = .sl A.length n 0 k 1 ∧ k ≤ n ∧ d'.size = n ∧ w' ≤ n ∧ S = A ++ .arr (rowsD d') 1 w' true :: (C ++ C') ∧ d'.toList.take k = dedup d.toList ∧ (k = n → d' = d)) := by
  by_cases h2 : n < 2
  · have h2' : (n : Int) < 2 := by omega
    refine EvR.walk rfl fn55 rfl nt55 rfl ?_
    simp only [List.length_cons, List.length_nil, List.cons_append, List.nil_append, Nat.reduceAdd, Nat.reduceSub, List.replicate]
    repeat' (first | refine go1 ?_ | refine blockK_else rfl ?_ | (refine go2 fun A B a b => ?_; simp only [go_sem, *, wpK_assignN ty22 rfl, lenK_sl, List.append_assoc]; (repeat' first | apply a.1 | apply b.1 | refine iteI (fun h => ?_) fun h => ?_) <;> clear a b A B))
    simp only [go_sem, wpK_assignN ty22 rfl]
    refine ⟨n, d, w, [.arr [] 1 0 true], rfl, Nat.le_refl _, hn, hw, rfl, ?_, fun _ => rfl⟩
    rw [List.take_of_length_le (by simp [hn])]
    obtain ⟨l⟩ := d
    match l, hn with
    | [], _ => rfl
    | [x], _ => rfl
    | x :: y :: l, hn => simp at hn; omega
  have h2' : ¬ (n : Int) < 2 := by omega
  refine EvR.walk rfl fn55 rfl nt55 rfl ?_
  simp only [List.length_cons, List.length_nil, List.cons_append, List.nil_append, Nat.reduceAdd, Nat.reduceSub, List.replicate]
  repeat' (first | refine go1 ?_ | refine blockK_else rfl ?_ | (refine go2 fun A B a b => ?_; simp only [go_sem, *, wpK_assignN ty22 rfl, lenK_sl, List.append_assoc]; (repeat' first | apply a.1 | apply b.1 | refine iteI (fun h => ?_) fun h => ?_) <;> clear a b A B))
  refine wpC_loopF [2, 4, 5, 10, 11, 12, 13, 14, 15, 16, 17, 18, 19, 20, 21, 22, 23, 24, 25, 26, 27, 28, 29, 30, 31, 32, 33, 34, 35, 36, 37, 38, 39, 40, 41, 42, 43, 44, 45, 46, 47, 48, 49, 50, 51, 52, 53, 54, 55, 56, 57, 58, 59] (fun i : Nat => [(3, .int .i64 i)]) (fun _ G => A ++ .arr (rowsD d) 1 w true :: (C ++ G))
    (fun i => 0 < i ∧ i ≤ n ∧ dedup d.toList = d.toList.take (i - 1) ++ dedup (fromA d (i - 1))) (fun i => n - i) 1 ⟨by omega, by omega, by simp [fromA]⟩ ?_ ?_ ?_
  · rfl
  · exact ⟨[.arr [] 1 0 true], rfl⟩
  rintro i g G ⟨hi0, hin, hE⟩
  simp only [garbA_cons, garbA_nil, setL_cons, setL_nil, List.set_cons_zero, List.set_cons_succ]
  by_cases hlt : i < n
  · have hlt' : (i : Int) < (n : Int) := by omega
    have w1 : IntKind.wrap .i64 ((i : Int) - 1) = ((i - 1 : Nat) : Int) := by rw [wrap_small (by omega) (by omega)]; omega
    have w2 := wrap_succ (n := i) (by omega)
    have j1 : i - 1 < n := by omega
    have e0 : fromA d (i - 1) = d[i - 1]! :: d[i]! :: fromA d (i + 1) := by
      rw [fromA_cons (by omega), show i - 1 + 1 = i by omega, fromA_cons (by omega)]
    by_cases heq : d[i]! = d[i - 1]!
    · have s1 := slcFrom (b := A.length) (n := n) (i := i) (k := .i64) hi0 hlt
      have hh : Hold (d[i]! = d[i - 1]!) := ⟨heq⟩
      have heq' : (d[i]! == d[i - 1]!) = true := by simpa using heq
      clear heq
      repeat' (first | refine go1 ?_ | refine blockK_else rfl ?_ | (refine wpO_consD fun A B a b => ?_; simp only [go_sem, *, wpK_assignN ty22 rfl, lenK_sl, getElem?_len, set_len, idxD, rowsD_get, rowsD_len, rowsD_put, dropD, takeD, sizeD, encE]; (repeat' first | apply a.1 | refine iteI (fun h => ?_) fun h => ?_) <;> clear a b A B))
      (refine wpC_cond fun A B hA hB => ?_; simp only [go_sem, *, wpK_assignN ty22 rfl, lenK_sl, getElem?_len, set_len, idxD, rowsD_get, rowsD_len, rowsD_put, dropD, takeD, sizeD, encE]; first | (refine hA.out ?_; clear hA hB A B) | (refine hB.out ?_; clear hA hB A B))
      repeat' (first | refine go1 ?_ | refine blockK_else rfl ?_ | (refine wpO_consD fun A B a b => ?_; simp only [go_sem, *, wpK_assignN ty22 rfl, lenK_sl, getElem?_len, set_len, idxD, rowsD_get, rowsD_len, rowsD_put, dropD, takeD, sizeD, encE, heq']; (repeat' first | apply a.1 | refine iteI (fun h => ?_) fun h => ?_) <;> clear a b A B))
      (refine wpC_cond fun A B hA hB => ?_; simp only [go_sem, *, wpK_assignN ty22 rfl, lenK_sl, getElem?_len, set_len, idxD, rowsD_get, rowsD_len, rowsD_put, dropD, takeD, sizeD, encE]; first | (refine hA.out ?_; clear hA hB A B) | (refine hB.out ?_; clear hA hB A B))
      repeat' (first | refine go1 ?_ | refine blockK_else rfl ?_ | (refine wpO_consD fun A B a b => ?_; simp only [go_sem, *, wpK_assignN ty22 rfl, lenK_sl, getElem?_len, set_len, idxD, rowsD_get, rowsD_len, rowsD_put, dropD, takeD, sizeD, encE, heq']; (repeat' first | apply a.1 | refine iteI (fun h => ?_) fun h => ?_) <;> clear a b A B))
      have heq := hh.out
      have hE1 : dedup d.toList = d.toList.take i ++ (dedup (fromA d i)).tail := by
        have e1 : dedup (fromA d (i - 1)) = dedup (fromA d i) := by
          rw [e0, heq, dedup, if_pos rfl, fromA_cons (d := d) (i := i) (by omega), heq]
        rw [hE, e1]
        have : d.toList.take i = d.toList.take (i - 1) ++ [d[i - 1]!] := by
          conv => lhs; rw [show i = i - 1 + 1 by omega]
          rw [List.take_add_one]; simp [show i - 1 < d.size by omega]
        rw [this, List.append_assoc, fromA_cons (d := d) (i := i) (by omega), heq]
        conv => lhs; rw [dedup_head]
        rfl
      refine wpC_loopF [29, 30, 31, 32, 33, 34, 35, 36, 37, 38, 39, 40, 41, 42, 43, 44, 45, 46, 47, 48, 49, 50, 51, 52, 53] (fun p : Nat × Nat × Array Int × Nat => [(3, .int .i64 p.1), (5, .int .i64 p.2.1)]) (fun p H => A ++ .arr (rowsD p.2.2.1) 1 p.2.2.2 true :: (C ++ H))
        (fun p => i ≤ p.1 ∧ 1 ≤ p.2.1 ∧ p.1 + 1 ≤ i + p.2.1 ∧ p.2.1 ≤ n - i ∧ p.2.2.1.size = n ∧ p.2.2.2 ≤ n ∧ (∀ j, i + p.2.1 ≤ j + 1 → j < n → p.2.2.1[j]! = d[j]!) ∧ dedup d.toList = p.2.2.1.toList.take p.1 ++ (dedup (fromA d (i + p.2.1 - 1))).tail)
        (fun p => n - p.2.1) (i, 1, d, w) ⟨Nat.le_refl _, Nat.le_refl _, by simp only; omega, by simp only; omega, hn, hw, fun _ _ _ => rfl, hE1⟩ ?_ ?_ ?_
      · rfl
      · exact ⟨_, rfl⟩
      clear hE hE1
      rintro ⟨i', k, d', w'⟩ g H ⟨hi1, hk1, hik, hkn, hn', hw', hag, hE⟩
      simp only at hi1 hk1 hik hkn hn' hw' hag hE
      simp only [garbA_cons, garbA_nil, setL_cons, setL_nil, List.set_cons_zero, List.set_cons_succ]
      have i1 : i' < n := by omega
      by_cases hk : k < n - i
      · have hk' : (k : Int) < ((n - i : Nat) : Int) := by omega
        have y1 : IntKind.wrap .i64 ((k : Int) - 1) = ((k - 1 : Nat) : Int) := by rw [wrap_small (by omega) (by omega)]; omega
        have y2 := wrap_succ (n := k) (by omega)
        have y3 := wrap_succ (n := i') (by omega)
        have y4 : k - 1 < n - i := by omega
        have y5 : i + k < n := by omega
        have y6 : i + (k - 1) < n := by omega
        have g1 := hag (i + k) (by omega) y5
        have g2 := hag (i + (k - 1)) (by omega) y6
        have f1 : fromA d (i + k - 1) = d[i + (k - 1)]! :: d[i + k]! :: fromA d (i + k + 1) := by
          rw [fromA_cons (by omega), show i + k - 1 + 1 = i + k by omega, fromA_cons (by omega), show i + k - 1 = i + (k - 1) by omega]
        have f2 : fromA d (i + (k + 1) - 1) = d[i + k]! :: fromA d (i + k + 1) := by
          rw [show i + (k + 1) - 1 = i + k by omega, fromA_cons (by omega)]
        obtain ⟨x, hx⟩ : ∃ x, d[i + (k - 1)]! = x := ⟨_, rfl⟩
        obtain ⟨y, hy⟩ : ∃ y, d[i + k]! = y := ⟨_, rfl⟩
        rw [hx] at f1 g2
        rw [hy] at f1 f2 g1
        clear hx hy heq heq' hh
        rw [f1] at hE
        by_cases hxy : y = x
        · subst hxy
          repeat' (first | refine go1 ?_ | refine blockK_else rfl ?_ | (refine go2 fun A B a b => ?_; simp only [go_sem, *, wpK_assignN ty22 rfl, lenK_sl, idxS, getElem?_len, set_len, idxD, rowsD_get, rowsD_len, rowsD_put, dropD, takeD, sizeD, encE, beq_self_eq_true]; (repeat' first | apply a.1 | apply b.1 | refine iteI (fun h => ?_) fun h => ?_) <;> clear a b A B))
          refine loopF_next (i', k + 1, d', w') (by simp only; omega) ⟨hi1, by simp only; omega, by simp only; omega, by simp only; omega, hn', hw', fun j h1 h2 => hag j (by simp only at h1; omega) h2, ?_⟩ ?_ ⟨_, rfl⟩
          · simp only [f2]
            rw [hE, dedup, if_pos rfl]
          · ((try simp only [eraseA_cons, eraseA_nil, setL_cons, setL_nil, List.set_cons_zero, List.set_cons_succ]); all_goals (first | rfl | (simp only [len_snoc, ints_len, List.length_map, ]; done) | (simp only [len_snoc, len_mid, ints_len, List.length_map, List.length_append, List.length_cons, List.length_nil, Nat.zero_add, ]; first | done | rfl)))
        · have hxy' : (y == x) = false := by simpa using hxy
          have hxy2 : ¬ x = y := fun e => hxy e.symm
          have hh2 : Hold (¬ y = x) := ⟨hxy⟩
          clear hxy
          repeat' (first | refine go1 ?_ | refine blockK_else rfl ?_ | (refine go2 fun A B a b => ?_; simp only [go_sem, *, wpK_assignN ty22 rfl, lenK_sl, idxS, getElem?_len, set_len, idxD, rowsD_get, rowsD_len, rowsD_put, dropD, takeD, sizeD, encE, hxy']; (repeat' first | apply a.1 | apply b.1 | refine iteI (fun h => ?_) fun h => ?_) <;> clear a b A B))
          refine loopF_next (i' + 1, k + 1, d'.setIfInBounds i' y, n) (by simp only; omega) ⟨by simp only; omega, by simp only; omega, by simp only; omega, by simp only; omega, by simp [hn'], Nat.le_refl _, fun j h1 h2 => ?_, ?_⟩ ?_ ⟨_, rfl⟩
          · simp only at h1
            have : (d'.setIfInBounds i' y)[j]! = d'[j]! := by
              have hne : i' ≠ j := by omega
              simp [Array.getElem!_eq_getD, Array.getD, hn', h2, Array.getElem_setIfInBounds_ne, hne]
            rw [this]; exact hag j (by omega) h2
          · simp only [f2]
            rw [hE, dedup, if_neg hxy2, List.tail_cons, Array.toList_setIfInBounds, take_set (by simp; omega), List.append_assoc]
            conv => lhs; rw [dedup_head]
            rfl
          · ((try simp only [eraseA_cons, eraseA_nil, setL_cons, setL_nil, List.set_cons_zero, List.set_cons_succ]); all_goals (first | rfl | (simp only [len_snoc, ints_len, List.length_map, ]; done) | (simp only [len_snoc, len_mid, ints_len, List.length_map, List.length_append, List.length_cons, List.length_nil, Nat.zero_add, ]; first | done | rfl)))
      · have hk' : ¬ (k : Int) < ((n - i : Nat) : Int) := by omega
        have hkk : i + k - 1 = n - 1 := by omega
        have s2 := slcFrom (b := A.length) (n := n) (i := i') (k := .i64) (by omega) i1
        have s3 := slcTo (b := A.length) (n := n) (i := i') (k := .i64) (by omega)
        have hE2 : dedup d.toList = d'.toList.take i' := by
          rw [hE, hkk, fromA_cons (d := d) (i := n - 1) (by omega), fromA_end (d := d) (by omega)]
          simp [dedup]
        clear heq heq' hh
        repeat' (first | refine go1 ?_ | refine blockK_else rfl ?_ | (refine wpO_consD fun A B a b => ?_; simp only [go_sem, *, wpK_assignN ty22 rfl, lenK_sl]; (repeat' first | apply a.1 | refine iteI (fun h => ?_) fun h => ?_) <;> clear a b A B))
        (refine wpC_cond fun A B hA hB => ?_; simp only [go_sem, *, wpK_assignN ty22 rfl]; first | (refine hA.out ?_; clear hA hB A B) | (refine hB.out ?_; clear hA hB A B))
        repeat' (first | refine go1 ?_ | refine blockK_else rfl ?_ | (refine wpO_consD fun A B a b => ?_; simp only [go_sem, *, wpK_assignN ty22 rfl, lenK_sl]; (repeat' first | apply a.1 | refine iteI (fun h => ?_) fun h => ?_) <;> clear a b A B))
        refine wpO_cons fun K hK => ?_
        simp only [op1_go]
        refine wpK_clear ty22 rfl ty3 rfl (getElem?_len.trans rfl) (by rw [rowsD_len]; exact hn') hw' rfl rfl (by omega) (by omega) ?_
        refine hK.out _ _ ?_
        clear hK K
        have ed : (rowsD d').take i' ++ List.replicate (n - i') [AV.int .i64 0] ++ (rowsD d').drop (i' + (n - i')) = rowsD (d'.toList.take i' ++ List.replicate (n - i') 0).toArray := by
          rw [List.drop_of_length_le (by rw [rowsD_len]; omega)]
          simp [rowsD, encE, List.map_take]
        simp only [set_len, List.set_cons_zero, ed]
        repeat' (first | refine go1 ?_ | refine blockK_else rfl ?_ | (refine go2 fun A B a b => ?_; simp only [go_sem, *, wpK_assignN ty22 rfl, lenK_sl]; (repeat' first | apply a.1 | apply b.1 | refine iteI (fun h => ?_) fun h => ?_) <;> clear a b A B))
        simp only [go_sem, wpK_assignN ty22 rfl]
        refine ⟨i', (d'.toList.take i' ++ List.replicate (n - i') 0).toArray, n, H, rfl, by omega, by simp [hn']; omega, Nat.le_refl _, rfl, ?_, fun e => by omega⟩
        rw [hE2]
        show (d'.toList.take i' ++ List.replicate (n - i') 0).take i' = _
        rw [List.take_append_of_le_length (by simp [hn']; omega), List.take_take, Nat.min_self]
    · repeat' (first | refine go1 ?_ | refine blockK_else rfl ?_ | (refine go2 fun A B a b => ?_; simp only [go_sem, *, wpK_assignN ty22 rfl, lenK_sl, getElem?_len, set_len, idxD, rowsD_get, rowsD_len, rowsD_put, dropD, takeD, sizeD, encE]; (repeat' first | apply a.1 | apply b.1 | refine iteI (fun h => ?_) fun h => ?_) <;> clear a b A B))
      refine loopF_next (i + 1) (by first | omega | (simp only; omega)) ⟨by omega, by omega, ?_⟩ ?_ ⟨_, rfl⟩
      · rw [hE, e0, dedup, if_neg (fun e => heq e.symm), show i + 1 - 1 = i by omega, fromA_cons (d := d) (i := i) (by omega)]
        have : d.toList.take i = d.toList.take (i - 1) ++ [d[i - 1]!] := by
          conv => lhs; rw [show i = i - 1 + 1 by omega]
          rw [List.take_add_one]; simp [show i - 1 < d.size by omega]
        rw [this, List.append_assoc]; rfl
      · ((try simp only [eraseA_cons, eraseA_nil, setL_cons, setL_nil, List.set_cons_zero, List.set_cons_succ]); all_goals (first | rfl | (simp only [len_snoc, ints_len, List.length_map, ]; done) | (simp only [len_snoc, len_mid, ints_len, List.length_map, List.length_append, List.length_cons, List.length_nil, Nat.zero_add, ]; first | done | rfl)))
  · have hlt' : ¬ (i : Int) < (n : Int) := by omega
    repeat' (first | refine go1 ?_ | refine blockK_else rfl ?_ | (refine go2 fun A B a b => ?_; simp only [go_sem, *, wpK_assignN ty22 rfl, lenK_sl]; (repeat' first | apply a.1 | apply b.1 | refine iteI (fun h => ?_) fun h => ?_) <;> clear a b A B))
    have hin' : i = n := by omega
    simp only [go_sem, wpK_assignN ty22 rfl]
    refine ⟨n, d, w, G, rfl, Nat.le_refl _, hn, hw, rfl, ?_, fun _ => rfl⟩
    rw [List.take_of_length_le (by simp [hn]), hE, fromA_cons (by omega), fromA_end (by omega)]
    conv => lhs; rw [← List.take_append_drop (i - 1) d.toList]
    congr 1
    have := fromA_cons (d := d) (i := i - 1) (by omega)
    rw [fromA_end (d := d) (i := i - 1 + 1) (by omega)] at this
    exact this

theorem compNil (S : Store) : EvR CX 55 [.flat (.slice none 0 0)] S (fun v S' => v = .flat (.slice none 0 0) ∧ ∃ G, S' = S ++ G) := by
  have z : ((0 : Nat) : Int) < 2 := by omega
  refine EvR.walk rfl fn55 rfl nt55 rfl ?_
  simp only [List.length_cons, List.length_nil, List.cons_append, List.nil_append, Nat.reduceAdd, Nat.reduceSub, List.replicate]
  repeat' (first | refine go1 ?_ | refine blockK_else rfl ?_ | (refine go2 fun A B a b => ?_; simp only [go_sem, *, wpK_assignN ty22 rfl, lenK_nils]; (repeat' first | apply a.1 | apply b.1 | refine iteI (fun h => ?_) fun h => ?_) <;> clear a b A B))
  simp only [go_sem, wpK_assignN ty22 rfl]
  exact ⟨_, rfl⟩

/-- A list of numbers, as a callee hands it back. -/
inductive OutI (l : List Int) : AV → Prop
  | own : OutI l (.osl 1 (ints l))
  | part : OutI l (.tsl true 1 (ints l))
  | nil (h : l = []) : OutI l (.flat (.slice none 0 0))

def sorted (l : List Int) : List Int := dedup (srt l)

theorem wpK_assignNF {X : Ctx} {d : Bool} {dst : Option Tmp} {ty : TypeId} {pos : String} {after : Array Edge} {g : Option (Nat × Bool)} {K : List AV → Store → Prop} {fr : List AV} {S : Store} :
    wpK X d ⟨dst, .assign (.const .nilFunc), ty, pos, after, g⟩ dst K fr S = K (putA fr dst (.flat .nilFunc)) S := (wpK_pop (some (.flat .nilFunc)) rfl rfl rfl rfl rfl).trans someK_some
theorem SLs.clean {sz : Nat} {rows : List (List AV)} {v : AV} (h : SLs sz rows v) : v.clean = true := by cases h <;> simp [AV.clean]

theorem valuesE (v : AV) (S : Store) (hc : v.cell = true) : EvR CX 57 [v] S (fun r S' => r = .fn 73 [.ptr S.length 1 1 0 0] ∧ ∃ pr, S' = S ++ [.arr [[v]] 1 0 pr]) := by
  have hcl : (v.cells) = [v] := by cases v <;> first | rfl | (simp [AV.cell] at hc)
  refine EvR.walk rfl fn57 rfl nt57 rfl ?_
  simp only [List.length_cons, List.length_nil, List.cons_append, List.nil_append, Nat.reduceAdd, Nat.reduceSub, List.replicate]
  repeat' (first | refine go1 ?_ | refine blockK_else rfl ?_ | (refine go2 fun A B a b => ?_; simp only [go_sem, *, hcl, hc, wpK_assignNF]; (repeat' first | apply a.1 | apply b.1 | refine iteI (fun h => ?_) fun h => ?_) <;> clear a b A B))
  simp only [go_sem]
  exact ⟨_, rfl⟩

theorem snap_box {S : Store} {v : AV} {b : Nat} {pr : Bool} (h : S[b]? = some (.arr [[v]] 1 0 pr)) (hc : v.clean = true) : snap S (.ptr b 1 1 0 0) = some (.tptr false [v] 0) := by
  simp [snap, rowOf, h, cleanL, hc]

theorem sortedE (v : AV) (l : List Int) (hv : SLs 1 (ints l) v) (hl : l.length < 4294967296) : ∃ r, OutI (sorted l) r ∧ EvV CX 40 [v] (· = r) := by
  have q := (srtE v l false hv hl).rw
  have c1 := hv.cell
  have c2 := hv.clean
  by_cases h : l = []
  · subst h
    have e : outV (srt []) = .flat (.slice none 0 0) := by simp [outV, srt]
    rw [e] at q
    refine ⟨.flat (.slice none 0 0), .nil (by simp [sorted, srt, dedup]), ?_⟩
    refine EvV.walk rfl fn40 rfl nt40 rfl ?_
    simp only [List.length_cons, List.length_nil, List.cons_append, List.nil_append, Nat.reduceAdd, Nat.reduceSub, List.replicate]
    repeat' (first | refine go1 ?_ | refine blockK_else rfl ?_ | (refine wpO_consD fun A B a b => ?_; simp only [go_sem, *, wpK_assignN ty22 rfl]; (repeat' first | apply a.1 | refine iteI (fun h => ?_) fun h => ?_) <;> clear a b A B))
    refine wpO_cons fun K hK => ?_
    simp only [go_sem, wpK_assignN ty22 rfl]
    refine EvR.mono (valuesE v _ c1) ?_
    rintro _ _ ⟨rfl, pr, rfl⟩
    refine hK.out _ _ ?_
    clear hK K
    refine wpO_cons fun K hK => ?_
    simp only [go_sem, wpK_assignN ty22 rfl]
    have hs : snap [Blk.arr [] 1 0 true, Blk.arr [[v]] 1 0 pr] (.ptr 1 1 1 0 0) = some (.tptr false [v] 0) := snap_box rfl c2
    have ha : ∀ id, adoptA id (.flat (.slice none 0 0)) = (.flat (.slice none 0 0), []) := fun _ => rfl
    simp only [hs, q, ha]
    refine hK.out _ _ ?_
    clear hK K
    refine wpO_cons fun K hK => ?_
    simp only [go_sem, wpK_assignN ty22 rfl]
    refine EvR.mono (compNil _) ?_
    rintro _ _ ⟨rfl, G, rfl⟩
    refine hK.out _ _ ?_
    clear hK K
    repeat' (first | refine go1 ?_ | refine blockK_else rfl ?_ | (refine go2 fun A B a b => ?_; simp only [go_sem, *, wpK_assignN ty22 rfl]; (repeat' first | apply a.1 | apply b.1 | refine iteI (fun h => ?_) fun h => ?_) <;> clear a b A B))
    simp only [go_sem, wpK_assignN ty22 rfl]
    simp [expK, exportA, idsOK, ownIds, expTop, AV.stab]
  · have e : outV (srt l) = .osl 1 (ints (srt l)) := by rw [outV, if_neg (by rw [srt_nil]; exact h)]
    rw [e] at q
    obtain ⟨n, hn⟩ : ∃ n, (srt l).length = n := ⟨_, rfl⟩
    have hnb : n < 4294967296 := by rw [← hn, srt_len]; exact hl
    -- the run, for whatever it hands back
    have run : ∀ r, (∀ k (d' : Array Int) w' S, k ≤ n → d'.size = n → w' ≤ n → S[2]? = some (.arr (rowsD d') 1 w' true) → d'.toList.take k = sorted l → (k = n → d' = (srt l).toArray) → expK (· = r) (.sl 2 n 0 k 1) S) → EvV CX 40 [v] (· = r) := by
      intro r hfin
      refine EvV.walk rfl fn40 rfl nt40 rfl ?_
      simp only [List.length_cons, List.length_nil, List.cons_append, List.nil_append, Nat.reduceAdd, Nat.reduceSub, List.replicate]
      repeat' (first | refine go1 ?_ | refine blockK_else rfl ?_ | (refine wpO_consD fun A B a b => ?_; simp only [go_sem, *, wpK_assignN ty22 rfl]; (repeat' first | apply a.1 | refine iteI (fun h => ?_) fun h => ?_) <;> clear a b A B))
      refine wpO_cons fun K hK => ?_
      simp only [go_sem, wpK_assignN ty22 rfl]
      refine EvR.mono (valuesE v _ c1) ?_
      rintro _ _ ⟨rfl, pr, rfl⟩
      refine hK.out _ _ ?_
      clear hK K
      refine wpO_cons fun K hK => ?_
      simp only [go_sem, wpK_assignN ty22 rfl]
      have hs : snap [Blk.arr [] 1 0 true, Blk.arr [[v]] 1 0 pr] (.ptr 1 1 1 0 0) = some (.tptr false [v] 0) := snap_box rfl c2
      simp only [hs, q, adopt_osl, ints_len, hn]
      refine hK.out _ _ ?_
      clear hK K
      refine wpO_cons fun K hK => ?_
      simp only [go_sem, wpK_assignN ty22 rfl]
      refine EvR.mono (compE [.arr [] 1 0 true, .arr [[v]] 1 0 pr] [] (srt l).toArray n 0 (by simp [hn]) (Nat.zero_le _) (by omega)) ?_
      rintro _ _ ⟨k, d', w', C', rfl, hk, hd, hw, rfl, hE, hEq⟩
      refine hK.out _ _ ?_
      clear hK K
      repeat' (first | refine go1 ?_ | refine blockK_else rfl ?_ | (refine go2 fun A B a b => ?_; simp only [go_sem, *, wpK_assignN ty22 rfl]; (repeat' first | apply a.1 | apply b.1 | refine iteI (fun h => ?_) fun h => ?_) <;> clear a b A B))
      simp only [resultsR, resultsL, resultA, resK_some, getA_zero, getA_succ]
      refine hfin k d' w' _ hk hd hw ?_ hE hEq
      rfl
    have hkl : ∀ (k : Nat) (d' : Array Int), k ≤ n → d'.size = n → d'.toList.take k = sorted l → k = (sorted l).length := fun k d' hk hd hE => by
      rw [← hE, List.length_take, Array.length_toList, hd]; omega
    by_cases hk0 : (sorted l).length = n
    · refine ⟨.osl 1 (ints (sorted l)), .own, run _ fun k d' w' S hk hd hw hS hE hEq => ?_⟩
      have hkn : k = n := by rw [hkl k d' hk hd hE, hk0]
      subst hkn
      have hds : rowsD d' = ints (sorted l) := by rw [rowsD_toList, ← hE, List.take_of_length_le (by simp [hd])]
      rw [expK_own, hS]
      simp only
      rw [if_pos ⟨trivial, by rw [rowsD_len, hd], hw, rfl⟩, hds]
    · refine ⟨.tsl true 1 (ints (sorted l)), .part, run _ fun k d' w' S hk hd hw hS hE hEq => ?_⟩
      have hkn : ¬ k = n := fun e => hk0 (by rw [← hkl k d' hk hd hE, e])
      have hds : (rowsD d').take k = ints (sorted l) := by rw [rowsD_toList, ints_take, hE]
      have hro : rowsOf S 1 (.sl 2 n 0 k 1) = some (ints (sorted l), true) := by
        rw [rowsOf_sl, hS]
        simp only
        rw [if_pos ⟨trivial, trivial, hw, by omega, by rw [rowsD_len, hd]; exact Nat.le_refl _⟩, List.drop_zero, hds]
      unfold expK
      simp [exportA, idsOK, ownIds, lentIds, expTop, hkn, expCell, hro]
end Go.Eng

/- Increasing lists (plain). -/
namespace Go.Eng

/-- The outcome, named. -/
theorem EvV.ex {X : Ctx} {f : FuncId} {args : List AV} {R : AV → Prop} (h : EvV X f args R) : ∃ r, R r ∧ EvV X f args (· = r) := by
  obtain ⟨n, r, h1, h2⟩ := h
  exact ⟨r, h2, n, r, h1, rfl⟩
theorem cells_fn {f : FuncId} {l : List AV} : (AV.fn f l).cells = [.fn f l] := rfl
theorem adopt_nils {id : Nat} : adoptA id (.flat (.slice none 0 0)) = (.flat (.slice none 0 0), []) := rfl
theorem expK_nils {R : AV → Prop} {S : Store} : expK R (.flat (.slice none 0 0)) S = R (.flat (.slice none 0 0)) := by simp [expK, exportA, idsOK, ownIds, expTop, AV.stab]

def UpL (l : List Int) : Prop := l.Pairwise (· < ·)

theorem up_unique : ∀ {a b : List Int}, UpL a → UpL b → (∀ x, x ∈ a ↔ x ∈ b) → a = b
  | [], [], _, _, _ => rfl
  | [], y :: b, _, _, h => absurd ((h y).mpr (by simp)) (by simp)
  | x :: a, [], _, _, h => absurd ((h x).mp (by simp)) (by simp)
  | x :: a, y :: b, ha, hb, h => by
    have ha' := List.pairwise_cons.mp ha
    have hb' := List.pairwise_cons.mp hb
    have hxy : x = y := by
      have h1 := (h x).mp (by simp)
      have h2 := (h y).mpr (by simp)
      rcases List.mem_cons.mp h1 with h1 | h1
      · exact h1
      · rcases List.mem_cons.mp h2 with h2 | h2
        · exact h2.symm
        · have := ha'.1 _ h2; have := hb'.1 _ h1; omega
    subst hxy
    rw [up_unique ha'.2 hb'.2 fun z => ?_]
    constructor
    · intro hz
      have := (h z).mp (by simp [hz])
      rcases List.mem_cons.mp this with e | e
      · subst e; have := ha'.1 _ hz; omega
      · exact e
    · intro hz
      have := (h z).mpr (by simp [hz])
      rcases List.mem_cons.mp this with e | e
      · subst e; have := hb'.1 _ hz; omega
      · exact e

theorem mem_dedup (n : Int) : ∀ l : List Int, n ∈ dedup l ↔ n ∈ l
  | [] => by simp [dedup]
  | [x] => by simp [dedup]
  | x :: y :: l => by
    rw [dedup]
    have ih := mem_dedup n (y :: l)
    split
    · rename_i h; subst h; rw [ih]; simp
    · rw [List.mem_cons, ih]; simp
theorem dedup_up : ∀ {l : List Int}, l.Pairwise (· ≤ ·) → UpL (dedup l)
  | [], _ => by simp [dedup, UpL]
  | [x], _ => by simp [dedup, UpL]
  | x :: y :: l, h => by
    rw [dedup]
    have h' := List.pairwise_cons.mp h
    have ih := dedup_up h'.2
    split
    · exact ih
    · rename_i hne
      refine List.pairwise_cons.mpr ⟨fun z hz => ?_, ih⟩
      rw [mem_dedup] at hz
      have h2 := List.pairwise_cons.mp h'.2
      have := h'.1 y (by simp)
      rcases List.mem_cons.mp hz with e | e
      · subst e; omega
      · have := h2.1 z e; omega
theorem srt_le (l : List Int) : (srt l).Pairwise (· ≤ ·) := by
  have := List.pairwise_mergeSort (le := fun x y : Int => decide (x ≤ y)) (by intro a b c; simp; omega) (by intro a b; simp; omega) l
  exact this.imp (by simp)
theorem mem_srt (n : Int) (l : List Int) : n ∈ srt l ↔ n ∈ l := (List.mergeSort_perm l _).mem_iff
theorem sorted_up (l : List Int) : UpL (sorted l) := dedup_up (srt_le l)
theorem mem_sorted (n : Int) (l : List Int) : n ∈ sorted l ↔ n ∈ l := by rw [sorted, mem_dedup, mem_srt]
theorem dedup_len : ∀ l : List Int, (dedup l).length ≤ l.length
  | [] => by simp [dedup]
  | [x] => by simp [dedup]
  | x :: y :: l => by
    rw [dedup]
    have ih := dedup_len (y :: l)
    split
    · simp only [List.length_cons] at *; omega
    · simp only [List.length_cons] at *; omega
theorem sorted_len (l : List Int) : (sorted l).length ≤ l.length := by
  have := dedup_len (srt l); rw [srt_len] at this; exact this
theorem sorted_eq {l m : List Int} (h : ∀ x, x ∈ l ↔ x ∈ m) : sorted l = sorted m := up_unique (sorted_up l) (sorted_up m) fun x => by rw [mem_sorted, mem_sorted, h]
theorem sorted_of_up {l : List Int} (h : UpL l) : sorted l = l := up_unique (sorted_up l) h fun x => mem_sorted x l
end Go.Eng

/- The reference's small functions over lists of numbers: Has, Same. -/
namespace Go.Eng
open Go.Proofs
set_option linter.unusedSimpArgs false
set_option linter.unusedVariables false
attribute [local irreducible] wpC wpO wp1 EvV EvR wpL
attribute [local go_sem] ty3 ty4 ty22 reduceIte Nat.reduceAdd Nat.reduceEqDiff Nat.reduceLT Nat.reduceLeDiff beq_iff_eq beq_eq_false_iff_ne Int.natCast_inj Bool.not_eq_false' op1_go wpK_box wpK_alloc wpK_load wpK_store wpK_binOp wpK_unOp wpK_fieldAddr wpK_field wpK_build wpK_indexAddr wpK_slice wpK_len wpK_extract wpK_nilCheck wpK_pick wpK_makeFunc wpK_call wpK_callT wpK_max wpK_min wpK_assignT wpK_moveT wpK_assignB wpK_moveB wpK_assignI wpK_moveI wpK_assignA wpK_moveA callK_fn snapL_nil snapL_cons snap_int snap_bool snap_str snap_tsl snap_agg snap_fn snap_flat adopt_int adopt_bool adopt_str adopt_agg adopt_osl adopt_tsl adopt_tup op1_guard grdK_bool grdK_undef condK_bool someK_some pairK_some nilK_ptr nilK_tptr boxK storeK evalA_tmp evalA_int evalA_bool evalA_agg evalA_fn evalA_nil ofC_int ofC_bool getA_zero getA_succ cells_int cells_agg cells_bool cells_sl cells_tsl cell_int cell_bool cell_str cell_sl cell_esl cell_tsl cell_ptr cell_tptr cell_fn cell_nils cell_nilf List.all_cons List.all_nil Bool.and_true Bool.and_self Bool.true_and putA_some putA_none List.set_cons_zero List.set_cons_succ List.length_cons List.length_nil List.nil_append List.cons_append stabL AV.stab fieldAddrA fieldA List.getElem?_cons_zero List.getElem?_cons_succ Nat.zero_add loadA rowOf Nat.le_refl and_self true_and and_true partA binA unA intBin eqBin eqCells eqCell Option.bind_some decide_true decide_false decide_eq_true_eq ite_not Bool.not_eq_true' decide_eq_false_iff_not Bool.false_eq_true Option.map_some Option.map_none Bool.not_true Bool.not_false buildA fillA patch List.take List.drop List.map_cons List.map_nil extK List.getD_cons_zero List.getD_cons_succ minmaxA minmaxGo adoptZ_false adoptZ_true freeze_int freeze_bool freeze_str freeze_flat freeze_agg freeze_osl freeze_tsl freeze_tup frz1_bool frz1_int frz1_str frz1_agg frz1_osl frz1_tsl bne Bool.false_and Bool.and_false ne_eq not_true_eq_false not_false_eq_true List.append_nil resultsR resultsL resultA expK_int expK_bool expK_str expK_agg expK_own expK_tsl resK_some nestNo wpK_lookup wpK_makeMap wpK_mapUpdate cell_mp


theorem same1 (v w : AV) (l m : List Int) (hv : SLs 1 (ints l) v) (hw : SLs 1 (ints m) w) (hl : l.length < 9223372036854775807) : EvV CX 19 [v, w] (· = .bool (decide (l = m))) := by
  refine EvV.walk rfl fn19 rfl nt19 rfl ?_
  simp only [List.length_cons, List.length_nil, List.cons_append, List.nil_append, Nat.reduceAdd, Nat.reduceSub, List.replicate]
  repeat' (first | refine go1 ?_ | refine blockK_else rfl ?_ | (refine go2 fun A B a b => ?_; simp only [go_sem, *, lenK_sls hv, lenK_sls hw, ints_len]; (repeat' first | apply a.1 | apply b.1 | refine iteI (fun h => ?_) fun h => ?_) <;> clear a b A B))
  · have hlen := h; clear h
    refine wpC_each [4, 5, 14, 15, 16, 17, 18, 19, 20, 21, 22, 23, 24, 25] 13 l (fun pre post => ∃ post', m = pre ++ post') ?_ ?_ ?_ ?_
    · exact ⟨m, rfl⟩
    · rfl
    · intro g G h2
      obtain ⟨post', h2⟩ := h2
      have : post' = [] := by have := congrArg List.length h2; simp at this; exact List.eq_nil_of_length_eq_zero (by omega)
      subst this; simp only [List.append_nil] at h2; subst h2; simp only [garbA_cons, garbA_nil, setL_cons, setL_nil, List.set_cons_zero, List.set_cons_succ]
      repeat' (first | refine go1 ?_ | refine blockK_else rfl ?_ | (refine go2 fun A B a b => ?_; simp only [go_sem, *, ints_len, List.length_map, Int.lt_irrefl]; (repeat' first | apply a.1 | apply b.1 | refine iteI (fun h => ?_) fun h => ?_) <;> clear a b A B))
      simp only [go_sem]
    · intro g G pre x post h1 h2
      obtain ⟨post', h2⟩ := h2
      cases post' with
      | nil => subst h1 h2; simp at hlen
      | cons y post' =>
        subst h1 h2; simp only [garbA_cons, garbA_nil, setL_cons, setL_nil, List.set_cons_zero, List.set_cons_succ]
        have i1 := idx_sls hv (X := CX) ty22 ty3 rfl (ints_mid pre x post) (k := .i64)
        have i2 := idx_sls hw (X := CX) ty22 ty3 rfl (ints_mid pre y post') (k := .i64)
        have w1 := wrap_succ (n := pre.length) (by simp at hl; omega)
        repeat' (first | refine go1 ?_ | refine blockK_else rfl ?_ | (refine go2 fun A B a b => ?_; simp only [go_sem, *, getElem?_len, getElem?_lenAdd, set_len, set_lenAdd, len_mid, ints_len, List.length_map, lt_mid, i1, i2, w1]; (repeat' first | apply a.1 | apply b.1 | refine iteI (fun h => ?_) fun h => ?_) <;> clear a b A B))
        · subst h
          refine each_next rfl ?_ ?_ ?_
          · exact ⟨post', by simp⟩
          · ((try simp only [eraseA_cons, eraseA_nil, setL_cons, setL_nil, List.set_cons_zero, List.set_cons_succ]); all_goals (first | rfl | (simp only [len_snoc, ints_len, List.length_map, ]; done) | (simp only [len_snoc, len_mid, ints_len, List.length_map, List.length_append, List.length_cons, List.length_nil, Nat.zero_add, ]; first | done | rfl)))
          · first | exact ⟨[], (List.append_nil _).symm⟩ | exact ⟨_, rfl⟩ | (simp only [List.append_assoc, List.cons_append, List.nil_append]; exact ⟨_, rfl⟩)
        · simp only [go_sem]
          simp [h]
  · simp only [go_sem]
    have : l ≠ m := by rintro rfl; simp at h
    simp [this]

/- Sets of numbers: Put, Minus. -/
open Go.Proofs
attribute [local go_sem] List.replicate Nat.one_mul Nat.reduceMul Nat.zero_mul appK bslA fz27 fz28 lenK_esl lenK_nils lenK_sl lenK_tsl nilsK rowsFill rowsOf_esl rowsOf_nils rowsOf_sl rowsOf_tsl

def put : List Int → Int → List Int
  | [], n => [n]
  | x :: l, n => if x < n then x :: put l n else if x = n then n :: l else n :: x :: l

theorem put_len : ∀ (l : List Int) (n : Int), (put l n).length ≤ l.length + 1
  | [], n => by simp [put]
  | x :: l, n => by
    unfold put
    split
    · simp only [List.length_cons]; have := put_len l n; omega
    · split <;> simp

theorem put1 (st : Bool) (l : List Int) (n : Int) (hl : l.length ≤ 1099511627776) : EvV CX 41 [.tsl st 1 (ints l), .int .i64 n] (· = .osl 1 (ints (put l n))) := by
  have hv : SLs 1 (ints l) (.tsl st 1 (ints l)) := .rows st
  refine EvV.walk rfl fn41 rfl nt41 rfl ?_
  simp only [List.length_cons, List.length_nil, List.cons_append, List.nil_append, Nat.reduceAdd, Nat.reduceSub, List.replicate]
  repeat' (first | refine go1 ?_ | refine blockK_else rfl ?_ | (refine go2 fun A B a b => ?_; simp only [go_sem, *, wpK_append ty22 rfl, wpK_assignN ty22 rfl, wpK_buildSlice ty22 rfl]; (repeat' first | apply a.1 | apply b.1 | refine iteI (fun h => ?_) fun h => ?_) <;> clear a b A B))
  refine wpC_loopF [7, 8, 9, 10, 11, 12, 13, 14, 15, 16, 17, 18, 19, 20, 21, 22, 23, 24, 25, 26, 27] (fun a : List Int × List Int => [(5, .sl 1 a.1.length 0 a.1.length 1), (6, .int .i64 a.1.length)]) (fun a G => .arr [] 1 0 true :: .arr (ints a.1) 1 0 true :: G)
    (fun a => l = a.1 ++ a.2 ∧ put l n = a.1 ++ put a.2 n) (fun a => a.2.length) ([], l) ⟨rfl, rfl⟩ ?_ ?_ ?_
  · rfl
  · exact ⟨[], rfl⟩
  rintro ⟨pre, post⟩ g G ⟨h1, h2⟩
  simp only at h1 h2
  rw [h2]; subst h1; simp only [garbA_cons, garbA_nil, setL_cons, setL_nil, List.set_cons_zero, List.set_cons_succ]
  simp only [List.length_append] at hl
  cases post with
  | nil =>
    simp only [List.append_nil] at *
    obtain ⟨b1, b2⟩ := app1 (n := pre.length) (by omega)
    have i3 := slice_from (X := CX) (st := st) (n := pre.length) (k := .i64) ty22 ty3 rfl (rows := ints pre) (rows' := []) (by rw [ints_len]; exact Nat.le_refl _) (by simp [ints])
    simp only [List.length_nil, Nat.add_zero] at hl
    repeat' (first | refine go1 ?_ | refine blockK_else rfl ?_ | (refine go2 fun A B a b => ?_; simp only [go_sem, *, wpK_append ty22 rfl, wpK_assignN ty22 rfl, wpK_buildSlice ty22 rfl, getElem?_len, getElem?_lenAdd, set_len, set_lenAdd, len_mid, ints_len, List.length_map, lt_mid, Int.lt_irrefl, i3, b1, b2]; (repeat' first | apply a.1 | apply b.1 | refine iteI (fun h => ?_) fun h => ?_) <;> clear a b A B))
    · simp only [go_sem, wpK_append ty22 rfl, wpK_assignN ty22 rfl, wpK_buildSlice ty22 rfl, ints_len, List.length_append]
      simp [put, ints]
  | cons x post =>
    obtain ⟨b1, b2⟩ := app1 (n := pre.length) (by omega)
    have b3 : (pre.length + 1 + post.length) * 8 ≤ 140737488355328 := by simp only [List.length_cons] at hl; omega
    have b4 : pre.length + 1 + post.length ≤ 140737488355328 := by omega
    have b5 : (pre.length + 1 + (post.length + 1)) * 8 ≤ 140737488355328 := by simp only [List.length_cons] at hl; omega
    have b6 : pre.length + 1 + (post.length + 1) ≤ 140737488355328 := by omega
    have i1 := idx_sls hv (X := CX) ty22 ty3 rfl (ints_mid pre x post) (k := .i64)
    have w1 := wrap_succ (n := pre.length) (by omega)
    have i3 := slice_from (X := CX) (st := st) (n := pre.length) (k := .i64) ty22 ty3 rfl (rows := ints (pre ++ x :: post)) (rows' := ints (x :: post)) (by rw [ints_len]; simp) (by rw [ints_drop]; simp)
    have i4 := slice_from (X := CX) (st := st) (n := pre.length + 1) (k := .i64) ty22 ty3 rfl (rows := ints (pre ++ x :: post)) (rows' := ints post) (by rw [ints_len]; simp) (by rw [ints_drop, ← List.drop_drop]; simp)
    by_cases hx : x = n
    · subst hx
      repeat' (first | refine go1 ?_ | refine blockK_else rfl ?_ | (refine go2 fun A B a b => ?_; simp only [go_sem, *, wpK_append ty22 rfl, wpK_assignN ty22 rfl, wpK_buildSlice ty22 rfl, getElem?_len, getElem?_lenAdd, set_len, set_lenAdd, len_mid, ints_len, List.length_map, lt_mid, i1, i3, i4, w1, b1, b2, b3, b4, Int.lt_irrefl, beq_self_eq_true]; (repeat' first | apply a.1 | apply b.1 | refine iteI (fun h => ?_) fun h => ?_) <;> clear a b A B))
      all_goals
        simp only [go_sem, wpK_append ty22 rfl, wpK_assignN ty22 rfl, wpK_buildSlice ty22 rfl, ints_len, List.length_append, *]
        simp [put, ints, List.eq_nil_of_length_eq_zero, *]
    · repeat' (first | refine go1 ?_ | refine blockK_else rfl ?_ | (refine go2 fun A B a b => ?_; simp only [go_sem, *, wpK_append ty22 rfl, wpK_assignN ty22 rfl, wpK_buildSlice ty22 rfl, getElem?_len, getElem?_lenAdd, set_len, set_lenAdd, len_mid, ints_len, List.length_map, lt_mid, i1, i3, i4, w1, b1, b2, b5, b6]; (repeat' first | apply a.1 | apply b.1 | refine iteI (fun h => ?_) fun h => ?_) <;> clear a b A B))
      · refine loopF_next (pre ++ [x], post) (Nat.lt_succ_self _) ⟨by simp, by simp [put, h]⟩ ?_ ?_
        · ((try simp only [eraseA_cons, eraseA_nil, setL_cons, setL_nil, List.set_cons_zero, List.set_cons_succ]); all_goals (first | rfl | (simp only [len_snoc, ints_len, List.length_map, ]; done) | (simp only [len_snoc, len_mid, ints_len, List.length_map, List.length_append, List.length_cons, List.length_nil, Nat.zero_add, ]; first | done | rfl)))
        · exact ⟨_, by simp only [ints_append]; rfl⟩
      all_goals
        simp only [go_sem, wpK_append ty22 rfl, wpK_assignN ty22 rfl, wpK_buildSlice ty22 rfl, ints_len, List.length_append]
        simp [put, ints, *]

def minus (a b : List Int) : List Int := a.foldl (fun out x => if b.contains x then out else put out x) []

theorem minus_snoc (a b : List Int) (x : Int) : minus (a ++ [x]) b = if b.contains x then minus a b else put (minus a b) x := by simp [minus, List.foldl_append]

theorem minus_len (a b : List Int) : (minus a b).length ≤ a.length := by
  have : ∀ (l : List Int) (out : List Int), (l.foldl (fun out x => if b.contains x then out else put out x) out).length ≤ out.length + l.length := by
    intro l
    induction l with
    | nil => intro out; simp
    | cons x l ih =>
      intro out
      simp only [List.foldl_cons, List.length_cons]
      refine Nat.le_trans (ih _) ?_
      split
      · omega
      · have := put_len out x; omega
  simpa [minus] using this a []

end Go.Eng

/- Increasing lists and putting into them (plain). -/
namespace Go.Eng

theorem mem_put (x n : Int) : ∀ l : List Int, x ∈ put l n ↔ x = n ∨ x ∈ l
  | [] => by simp [put]
  | y :: l => by
    unfold put
    have ih := mem_put x n l
    split
    · rw [List.mem_cons, ih, List.mem_cons]
      constructor
      · rintro (h | h | h)
        · exact .inr (.inl h)
        · exact .inl h
        · exact .inr (.inr h)
      · rintro (h | h | h)
        · exact .inr (.inl h)
        · exact .inl h
        · exact .inr (.inr h)
    · split
      · rename_i h; subst h; simp
      · simp
theorem put_up {n : Int} : ∀ {l : List Int}, UpL l → UpL (put l n)
  | [], _ => by simp [put, UpL]
  | y :: l, h => by
    have h' := List.pairwise_cons.mp h
    unfold put
    split
    · rename_i hy
      refine List.pairwise_cons.mpr ⟨fun z hz => ?_, put_up h'.2⟩
      rcases (mem_put z n l).mp hz with e | e
      · omega
      · exact h'.1 z e
    · split
      · rename_i h1 h2; subst h2; exact h
      · rename_i h1 h2
        refine List.pairwise_cons.mpr ⟨fun z hz => ?_, h⟩
        rcases List.mem_cons.mp hz with e | e
        · omega
        · have := h'.1 z e; omega
theorem mem_puts (x : Int) : ∀ (b out : List Int), x ∈ b.foldl put out ↔ x ∈ out ∨ x ∈ b
  | [], out => by simp
  | y :: b, out => by
    rw [List.foldl_cons, mem_puts x b, mem_put, List.mem_cons]
    constructor
    · rintro ((h | h) | h)
      · exact .inr (.inl h)
      · exact .inl h
      · exact .inr (.inr h)
    · rintro (h | h | h)
      · exact .inl (.inr h)
      · exact .inl (.inl h)
      · exact .inr h
theorem puts_up : ∀ (b out : List Int), UpL out → UpL (b.foldl put out)
  | [], _, h => h
  | x :: b, out, h => puts_up b (put out x) (put_up h)
theorem puts_eq {b out : List Int} (h : UpL out) : b.foldl put out = sorted (out ++ b) :=
  up_unique (puts_up b out h) (sorted_up _) fun x => by rw [mem_puts, mem_sorted, List.mem_append]
theorem up_nil : UpL [] := List.Pairwise.nil
theorem sortR_eq (l : List Int) : l.foldl put [] = sorted l := puts_eq up_nil
theorem unionR_eq (a b : List Int) : b.foldl put (sorted a) = sorted (a ++ b) := by
  rw [puts_eq (sorted_up a)]
  exact sorted_eq fun x => by rw [List.mem_append, List.mem_append, mem_sorted]
theorem sorted_sorted (l : List Int) : sorted (sorted l) = sorted l := sorted_of_up (sorted_up l)
theorem put_eq {l : List Int} (h : UpL l) (n : Int) : put l n = sorted (n :: l) := up_unique (put_up h) (sorted_up _) fun x => by rw [mem_put, mem_sorted, List.mem_cons]
theorem mem_minus (x : Int) (a b : List Int) : x ∈ minus a b ↔ x ∈ a ∧ x ∉ b := by
  have : ∀ (l out : List Int), x ∈ l.foldl (fun out x => if b.contains x then out else put out x) out ↔ x ∈ out ∨ (x ∈ l ∧ x ∉ b) := by
    intro l
    induction l with
    | nil => intro out; simp
    | cons y l ih =>
      intro out
      rw [List.foldl_cons, ih]
      by_cases hy : b.contains y = true
      · rw [if_pos hy]
        have hy' : y ∈ b := by simpa using hy
        constructor
        · rintro (h | h)
          · exact .inl h
          · exact .inr ⟨by simp [h.1], h.2⟩
        · rintro (h | ⟨h, h2⟩)
          · exact .inl h
          · rcases List.mem_cons.mp h with e | e
            · subst e; exact absurd hy' h2
            · exact .inr ⟨e, h2⟩
      · rw [if_neg hy, mem_put]
        have hy' : y ∉ b := by simpa using hy
        constructor
        · rintro ((h | h) | h)
          · subst h; exact .inr ⟨by simp, hy'⟩
          · exact .inl h
          · exact .inr ⟨by simp [h.1], h.2⟩
        · rintro (h | ⟨h, h2⟩)
          · exact .inl (.inr h)
          · rcases List.mem_cons.mp h with e | e
            · exact .inl (.inl e)
            · exact .inr ⟨e, h2⟩
  simpa [minus] using this a []
theorem up_nodup {l : List Int} (h : UpL l) : l.Nodup := h.imp (by intro a b h e; omega)
end Go.Eng

/- Repair: cells and notes as values; few. -/
namespace Go.Eng
open Go.Proofs
set_option linter.unusedSimpArgs false
set_option linter.unusedVariables false
attribute [local irreducible] wpC wpO wp1 EvV EvR wpL
attribute [local go_sem] ty3 ty4 ty9 ty47 ty69 ty71 ty26 ty44 ty46 ty49 eq44 eq46 br39 allocK fz17 reduceIte Nat.reduceAdd Nat.reduceEqDiff Nat.reduceLT Nat.reduceLeDiff beq_iff_eq beq_eq_false_iff_ne Int.natCast_inj Bool.not_eq_false' op1_go wpK_box wpK_alloc wpK_load wpK_store wpK_binOp wpK_unOp wpK_fieldAddr wpK_field wpK_build wpK_indexAddr wpK_slice wpK_len wpK_extract wpK_nilCheck wpK_pick wpK_makeFunc wpK_call wpK_callT wpK_max wpK_min wpK_assignT wpK_moveT wpK_assignB wpK_moveB wpK_assignI wpK_moveI wpK_assignA wpK_moveA callK_fn snapL_nil snapL_cons snap_int snap_bool snap_str snap_tsl snap_agg snap_fn snap_flat adopt_int adopt_bool adopt_str adopt_agg adopt_osl adopt_tsl adopt_tup op1_guard grdK_bool grdK_undef condK_bool someK_some pairK_some nilK_ptr nilK_tptr boxK storeK evalA_tmp evalA_int evalA_bool evalA_agg evalA_fn evalA_nil ofC_int ofC_bool getA_zero getA_succ cells_int cells_agg cells_bool cells_sl cells_tsl cell_int cell_bool cell_str cell_sl cell_esl cell_tsl cell_ptr cell_tptr cell_fn cell_nils cell_nilf List.all_cons List.all_nil Bool.and_true Bool.and_self Bool.true_and putA_some putA_none List.set_cons_zero List.set_cons_succ List.length_cons List.length_nil List.nil_append List.cons_append stabL AV.stab fieldAddrA fieldA List.getElem?_cons_zero List.getElem?_cons_succ Nat.zero_add loadA rowOf Nat.le_refl and_self true_and and_true partA binA unA intBin eqBin eqCells eqCell Option.bind_some decide_true decide_false decide_eq_true_eq ite_not Bool.not_eq_true' decide_eq_false_iff_not Bool.false_eq_true Option.map_some Option.map_none Bool.not_true Bool.not_false buildA fillA patch List.take List.drop List.map_cons List.map_nil extK List.getD_cons_zero List.getD_cons_succ minmaxA minmaxGo adoptZ_false adoptZ_true freeze_int freeze_bool freeze_str freeze_flat freeze_agg freeze_osl freeze_tsl freeze_tup frz1_bool frz1_int frz1_str frz1_agg frz1_osl frz1_tsl bne Bool.false_and Bool.and_false ne_eq not_true_eq_false not_false_eq_true List.append_nil resultsR resultsL resultA expK_int expK_bool expK_str expK_agg expK_own expK_tsl resK_some nestNo wpK_lookup wpK_makeMap wpK_mapUpdate cell_mp
set_option maxHeartbeats 4000000

theorem map_midV {β : Type} (f : β → List AV) (pre : List β) (x : β) (post : List β) : ((pre ++ x :: post).map f)[pre.length]? = some (f x) := by simp

/-- A value of a field. -/
structure Val where
  c : Int
  d : Int
  n : Int
  t : ByteArray
def encV (v : Val) : List AV := [.int .i64 v.c, .int .i64 v.d, .int .i64 v.n, .str v.t]
/-- A note. -/
structure Nt where
  id : Int
  ti : Int
  pa : Int
  fr : Int
  en : Int
  rk : Int
  tx : ByteArray
def encN (n : Nt) : List AV := [.int .i64 n.id, .int .i64 n.ti, .int .i64 n.pa, .int .i64 n.fr, .int .i64 n.en, .int .i64 n.rk, .str n.tx]
/-- A cell. -/
structure Cel where
  rc : Int
  nt : Nt
  tv : AV
  fv : AV
  ov : AV
  tl : List Val
  fl : List Val
  ol : List Val
def encC (c : Cel) : List AV := [.int .i64 c.rc, .int .i64 c.nt.id, .int .i64 c.nt.ti, .int .i64 c.nt.pa, .int .i64 c.nt.fr, .int .i64 c.nt.en, .int .i64 c.nt.rk, .str c.nt.tx, c.tv, c.fv, c.ov]
structure Cel.ok (c : Cel) : Prop where
  t : SLs 4 (c.tl.map encV) c.tv
  f : SLs 4 (c.fl.map encV) c.fv
  o : SLs 4 (c.ol.map encV) c.ov
structure Cel.few (c : Cel) : Prop where
  t : c.tl.length ≤ 8
  f : c.fl.length ≤ 8
  o : c.ol.length ≤ 8

theorem valsE {v : AV} {l : List Val} (hv : SLs 4 (l.map encV) v) (hl : l.length ≤ 9223372036854775807) : ∃ b, (b = true → l.length ≤ 8) ∧ EvV CX 39 [v] (· = .bool b) := by
  suffices h : EvV CX 39 [v] (fun r => ∃ b, r = .bool b ∧ (b = true → l.length ≤ 8)) by
    obtain ⟨r, ⟨b, rfl, hb⟩, h⟩ := h.ex
    exact ⟨b, hb, h⟩
  refine EvV.walk rfl fn39 rfl nt39 rfl ?_
  simp only [List.length_cons, List.length_nil, List.cons_append, List.nil_append, Nat.reduceAdd, Nat.reduceSub, List.replicate]
  repeat' (first | refine go1 ?_ | refine blockK_else rfl ?_ | (refine go2 fun A B a b => ?_; simp only [go_sem, *, lenK_sls hv, List.length_map]; (repeat' first | apply a.1 | apply b.1 | refine iteI (fun h => ?_) fun h => ?_) <;> clear a b A B))
  refine wpC_each [2, 4, 5, 6, 7, 8, 9, 10, 11, 12, 13, 14, 15, 16, 17, 18, 19, 20] 3 l (fun _ _ => True) ?_ ?_ ?_ ?_
  · trivial
  · ((try simp only [eraseA_cons, eraseA_nil, setL_cons, setL_nil, List.set_cons_zero, List.set_cons_succ]); all_goals (first | rfl | (simp only [len_snoc, ints_len, List.length_map, ]; done) | (simp only [len_snoc, len_mid, ints_len, List.length_map, List.length_append, List.length_cons, List.length_nil, Nat.zero_add, ]; first | done | rfl)))
  · intro g G _
    by_cases k : l.length ≤ 8
    · have k1 : (l.length : Int) ≤ 8 := by omega
      have hk : Hold (l.length ≤ 8) := ⟨k⟩
      clear k
      simp only [garbA_cons, garbA_nil, setL_cons, setL_nil, List.set_cons_zero, List.set_cons_succ]
      repeat' (first | refine go1 ?_ | refine blockK_else rfl ?_ | (refine go2 fun A B a b => ?_; simp only [go_sem, *, Int.lt_irrefl, k1, lenK_sls hv, List.length_map]; (repeat' first | apply a.1 | apply b.1 | refine iteI (fun h => ?_) fun h => ?_) <;> clear a b A B))
      simp only [go_sem]
      exact ⟨_, rfl, fun _ => hk.out⟩
    · have k1 : ¬ (l.length : Int) ≤ 8 := by omega
      clear k
      simp only [garbA_cons, garbA_nil, setL_cons, setL_nil, List.set_cons_zero, List.set_cons_succ]
      repeat' (first | refine go1 ?_ | refine blockK_else rfl ?_ | (refine go2 fun A B a b => ?_; simp only [go_sem, *, Int.lt_irrefl, k1, lenK_sls hv, List.length_map]; (repeat' first | apply a.1 | apply b.1 | refine iteI (fun h => ?_) fun h => ?_) <;> clear a b A B))
      simp only [go_sem]
      exact ⟨_, rfl, fun h => by cases h⟩
  · intro g G pre x post h1 _
    have hpl : pre.length < l.length := by rw [h1]; simp
    have lt1 : (pre.length : Int) < (l.length : Int) := by omega
    have i1 := idx_sls hv (X := CX) ty47 ty71 rfl (n := pre.length) (row := encV x) (k := .i64) (by rw [h1]; exact map_midV encV pre x post)
    have w1 := wrap_succ (n := pre.length) (by omega)
    have hh1 : Hold (l = pre ++ x :: post) := ⟨h1⟩
    by_cases k9 : pre.length < 9
    · have k9' : (pre.length : Int) < 9 := by omega
      by_cases kt : 400 < x.t.size
      · have kt' : (400 : Int) < (x.t.size : Int) := by omega
        clear h1 hpl k9 kt
        simp only [garbA_cons, garbA_nil, setL_cons, setL_nil, List.set_cons_zero, List.set_cons_succ]
        repeat' (first | refine go1 ?_ | refine blockK_else rfl ?_ | (refine go2 fun A B a b => ?_; simp only [go_sem, *, lt1, k9', kt', i1, encV, lenK_sls hv, List.length_map, set_lenAdd, Nat.zero_le, getElem?_len, getElem?_lenAdd, set_len, List.append_assoc, List.length_append, lenK_str, snap_sl, rowsOf_sl, ints_len, ints_take, List.take_length, Bool.true_or]; (repeat' first | apply a.1 | apply b.1 | refine iteI (fun h => ?_) fun h => ?_) <;> clear a b A B))
        simp only [go_sem]
        exact ⟨_, rfl, fun h => by cases h⟩
      · have kt' : ¬ (400 : Int) < (x.t.size : Int) := by omega
        clear h1 hpl k9 kt
        simp only [garbA_cons, garbA_nil, setL_cons, setL_nil, List.set_cons_zero, List.set_cons_succ]
        repeat' (first | refine go1 ?_ | refine blockK_else rfl ?_ | (refine go2 fun A B a b => ?_; simp only [go_sem, *, lt1, k9', kt', i1, w1, encV, lenK_sls hv, List.length_map, set_lenAdd, Nat.zero_le, getElem?_len, getElem?_lenAdd, set_len, List.append_assoc, List.length_append, lenK_str, snap_sl, rowsOf_sl, ints_len, ints_take, List.take_length, Bool.true_or]; (repeat' first | apply a.1 | apply b.1 | refine iteI (fun h => ?_) fun h => ?_) <;> clear a b A B))
        refine each_next hh1.out trivial ?_ ?_
        · ((try simp only [eraseA_cons, eraseA_nil, setL_cons, setL_nil, List.set_cons_zero, List.set_cons_succ]); all_goals (first | rfl | (simp only [len_snoc, ints_len, List.length_map, ]; done) | (simp only [len_snoc, len_mid, ints_len, List.length_map, List.length_append, List.length_cons, List.length_nil, Nat.zero_add, ]; first | done | rfl)))
        · first | exact ⟨[], (List.append_nil _).symm⟩ | exact ⟨_, rfl⟩ | (simp only [List.append_assoc, List.cons_append, List.nil_append]; exact ⟨_, rfl⟩)
    · have k9' : ¬ (pre.length : Int) < 9 := by omega
      have k1 : ¬ (l.length : Int) ≤ 8 := by omega
      clear h1 hpl k9
      simp only [garbA_cons, garbA_nil, setL_cons, setL_nil, List.set_cons_zero, List.set_cons_succ]
      repeat' (first | refine go1 ?_ | refine blockK_else rfl ?_ | (refine go2 fun A B a b => ?_; simp only [go_sem, *, lt1, k9', k1, lenK_sls hv, List.length_map, set_lenAdd, Nat.zero_le, getElem?_len, getElem?_lenAdd, set_len, List.append_assoc, List.length_append, lenK_str, snap_sl, rowsOf_sl, ints_len, ints_take, List.take_length, Bool.true_or]; (repeat' first | apply a.1 | apply b.1 | refine iteI (fun h => ?_) fun h => ?_) <;> clear a b A B))
      simp only [go_sem]
      exact ⟨_, rfl, fun h => by cases h⟩

theorem prev_slsV {sz : Nat} {v : AV} {β : Type} {f : β → List AV} {pre post : List β} {x : β} (h : SLs sz ((pre ++ x :: post).map f) v) (hl : (pre ++ x :: post).length ≤ 9223372036854775807) {X : Ctx} {t el : TypeId} {a c : Nat} {b : Bool} {d : List AV} {ei : TyI} (ht : X.ty t = some ⟨a, b, c, d, .slice el⟩) (he : X.ty el = some ei) (hz : sz = ei.size) (y : β) (h0 : (0 : Int) < (pre.length : Int)) {k : IntKind} :
    indexAddrA X t v (.int k (IntKind.wrap .i64 ((pre.length : Int) - 1))) = some (.tptr (stOf v) (f (pre.getLastD y)) 0) := by
  rcases snoc_cases pre with rfl | ⟨pre, z, rfl⟩
  · simp at h0
  · simp only [List.length_append, List.length_cons, List.length_nil] at hl
    have e : IntKind.wrap .i64 (((pre ++ [z]).length : Int) - 1) = (pre.length : Int) := by
      rw [wrap_small (by simp <;> omega) (by simp <;> omega)]; simp
    rw [e]
    exact idx_sls h ht he hz (by simp)

def noC : Cel := ⟨0, ⟨0, 0, 0, 0, 0, 0, .empty⟩, .esl, .esl, .esl, [], [], []⟩
theorem encC_prev (pre : List Cel) : encC (pre.getLastD noC) = [.int .i64 (pre.getLastD noC).rc, .int .i64 (pre.getLastD noC).nt.id, .int .i64 (pre.getLastD noC).nt.ti, .int .i64 (pre.getLastD noC).nt.pa, .int .i64 (pre.getLastD noC).nt.fr, .int .i64 (pre.getLastD noC).nt.en, .int .i64 (pre.getLastD noC).nt.rk, .str (pre.getLastD noC).nt.tx, (pre.getLastD noC).tv, (pre.getLastD noC).fv, (pre.getLastD noC).ov] := rfl

/-- At most 320 cells, with few values. -/
structure FewC (l : List Cel) : Prop where
  len : l.length ≤ 320
  each : ∀ c ∈ l, c.few

theorem fewC {v : AV} {l : List Cel} (hv : SLs 11 (l.map encC) v) (hok : ∀ c ∈ l, c.ok) (hl : l.length ≤ 9223372036854775807) (hll : ∀ c ∈ l, c.tl.length ≤ 9223372036854775807 ∧ c.fl.length ≤ 9223372036854775807 ∧ c.ol.length ≤ 9223372036854775807) :
    ∃ b, (b = true → FewC l) ∧ EvV CX 15 [v] (· = .bool b) := by
  suffices h : EvV CX 15 [v] (fun r => ∃ b, r = .bool b ∧ (b = true → FewC l)) by
    obtain ⟨r, ⟨b, rfl, hb⟩, h⟩ := h.ex
    exact ⟨b, hb, h⟩
  refine EvV.walk rfl fn15 rfl nt15 rfl ?_
  simp only [List.length_cons, List.length_nil, List.cons_append, List.nil_append, Nat.reduceAdd, Nat.reduceSub, List.replicate]
  repeat' (first | refine go1 ?_ | refine blockK_else rfl ?_ | (refine go2 fun A B a b => ?_; simp only [go_sem, *, lenK_sls hv, List.length_map]; (repeat' first | apply a.1 | apply b.1 | refine iteI (fun h => ?_) fun h => ?_) <;> clear a b A B))
  refine wpC_each [2, 4, 5, 6, 7, 8, 9, 10, 11, 12, 13, 14, 15, 16, 17, 18, 19, 20, 21, 22, 23, 24, 25, 26, 27, 28, 29, 30, 31, 32, 33, 34, 35, 36, 37, 38, 39, 40, 41, 42, 43, 44, 45, 46, 47, 48, 49, 50, 51, 52, 53, 54, 55, 56, 57, 58, 59, 60, 61, 62, 63, 64, 65, 66, 67, 68, 69, 70] 3 l (fun pre _ => ∀ c ∈ pre, c.few) ?_ ?_ ?_ ?_
  · intro c hc; cases hc
  · ((try simp only [eraseA_cons, eraseA_nil, setL_cons, setL_nil, List.set_cons_zero, List.set_cons_succ]); all_goals (first | rfl | (simp only [len_snoc, ints_len, List.length_map, ]; done) | (simp only [len_snoc, len_mid, ints_len, List.length_map, List.length_append, List.length_cons, List.length_nil, Nat.zero_add, ]; first | done | rfl)))
  · intro g G hP
    have hp : Hold (∀ c ∈ l, c.few) := ⟨hP⟩
    clear hP
    by_cases k : l.length ≤ 320
    · have k1 : (l.length : Int) ≤ 320 := by omega
      have hk : Hold (l.length ≤ 320) := ⟨k⟩
      clear k
      simp only [garbA_cons, garbA_nil, setL_cons, setL_nil, List.set_cons_zero, List.set_cons_succ]
      repeat' (first | refine go1 ?_ | refine blockK_else rfl ?_ | (refine go2 fun A B a b => ?_; simp only [go_sem, *, Int.lt_irrefl, k1, lenK_sls hv, List.length_map]; (repeat' first | apply a.1 | apply b.1 | refine iteI (fun h => ?_) fun h => ?_) <;> clear a b A B))
      simp only [go_sem]
      exact ⟨_, rfl, fun _ => ⟨hk.out, hp.out⟩⟩
    · have k1 : ¬ (l.length : Int) ≤ 320 := by omega
      clear k
      simp only [garbA_cons, garbA_nil, setL_cons, setL_nil, List.set_cons_zero, List.set_cons_succ]
      repeat' (first | refine go1 ?_ | refine blockK_else rfl ?_ | (refine go2 fun A B a b => ?_; simp only [go_sem, *, Int.lt_irrefl, k1, lenK_sls hv, List.length_map]; (repeat' first | apply a.1 | apply b.1 | refine iteI (fun h => ?_) fun h => ?_) <;> clear a b A B))
      simp only [go_sem]
      exact ⟨_, rfl, fun h => by cases h⟩
  · intro g G pre x post h1 hP
    have hp : Hold (∀ c ∈ pre, c.few) := ⟨hP⟩
    have hpl : pre.length < l.length := by rw [h1]; simp
    have lt1 : (pre.length : Int) < (l.length : Int) := by omega
    have hxm : x ∈ l := by rw [h1]; simp
    have hx := hok x hxm
    obtain ⟨b1, hb1, q1⟩ := valsE hx.t (hll x hxm).1
    obtain ⟨b2, hb2, q2⟩ := valsE hx.f (hll x hxm).2.1
    obtain ⟨b3, hb3, q3⟩ := valsE hx.o (hll x hxm).2.2
    have hB : Hold (b1 = true → b2 = true → b3 = true → x.few) := ⟨fun e1 e2 e3 => ⟨hb1 e1, hb2 e2, hb3 e3⟩⟩
    have c1 := hx.t.cell
    have c2 := hx.f.cell
    have c3 := hx.o.cell
    have s1 := hx.t.snap
    have s2 := hx.f.snap
    have s3 := hx.o.snap
    have q1 := q1.rw
    have q2 := q2.rw
    have q3 := q3.rw
    have i1 := idx_sls hv (X := CX) ty26 ty49 rfl (n := pre.length) (row := encC x) (k := .i64) (by rw [h1]; exact map_midV encC pre x post)
    have i2 := prev_slsV (f := encC) (v := v) (pre := pre) (x := x) (post := post) (by rw [← h1]; exact hv) (by rw [← h1]; exact hl) (X := CX) ty26 ty49 rfl noC (k := .i64)
    rw [encC_prev] at i2
    generalize pre.getLastD noC = y at i2
    have w1 := wrap_succ (n := pre.length) (by omega)
    have hh1 : Hold (l = pre ++ x :: post) := ⟨h1⟩
    by_cases k9 : pre.length < 321
    · have k9' : (pre.length : Int) < 321 := by omega
      have k2 : Hold ((0 : Int) < (pre.length : Int) ∨ ¬ (0 : Int) < (pre.length : Int)) := ⟨by omega⟩
      clear h1 hpl k9 hP hxm hx hb1 hb2 hb3
      cases b1 with
      | false =>
        simp only [garbA_cons, garbA_nil, setL_cons, setL_nil, List.set_cons_zero, List.set_cons_succ]
        repeat' (first | refine go1 ?_ | refine blockK_else rfl ?_ | (refine go2 fun A B a b => ?_; simp only [go_sem, *, lt1, k9', i1, encC, c1, c2, c3, s1, s2, s3, q1, lenK_sls hv, List.length_map, set_lenAdd, Nat.zero_le, getElem?_len, getElem?_lenAdd, set_len, List.append_assoc, List.length_append, lenK_str, snap_sl, rowsOf_sl, ints_len, ints_take, List.take_length, Bool.true_or]; (repeat' first | apply a.1 | apply b.1 | refine iteI (fun h => ?_) fun h => ?_) <;> clear a b A B))
        simp only [go_sem]
        exact ⟨_, rfl, fun h => by cases h⟩
      | true =>
      cases b2 with
      | false =>
        simp only [garbA_cons, garbA_nil, setL_cons, setL_nil, List.set_cons_zero, List.set_cons_succ]
        repeat' (first | refine go1 ?_ | refine blockK_else rfl ?_ | (refine go2 fun A B a b => ?_; simp only [go_sem, *, lt1, k9', i1, encC, c1, c2, c3, s1, s2, s3, q1, q2, lenK_sls hv, List.length_map, set_lenAdd, Nat.zero_le, getElem?_len, getElem?_lenAdd, set_len, List.append_assoc, List.length_append, lenK_str, snap_sl, rowsOf_sl, ints_len, ints_take, List.take_length, Bool.true_or]; (repeat' first | apply a.1 | apply b.1 | refine iteI (fun h => ?_) fun h => ?_) <;> clear a b A B))
        simp only [go_sem]
        exact ⟨_, rfl, fun h => by cases h⟩
      | true =>
      cases b3 with
      | false =>
        simp only [garbA_cons, garbA_nil, setL_cons, setL_nil, List.set_cons_zero, List.set_cons_succ]
        repeat' (first | refine go1 ?_ | refine blockK_else rfl ?_ | (refine go2 fun A B a b => ?_; simp only [go_sem, *, lt1, k9', i1, encC, c1, c2, c3, s1, s2, s3, q1, q2, q3, lenK_sls hv, List.length_map, set_lenAdd, Nat.zero_le, getElem?_len, getElem?_lenAdd, set_len, List.append_assoc, List.length_append, lenK_str, snap_sl, rowsOf_sl, ints_len, ints_take, List.take_length, Bool.true_or]; (repeat' first | apply a.1 | apply b.1 | refine iteI (fun h => ?_) fun h => ?_) <;> clear a b A B))
        simp only [go_sem]
        exact ⟨_, rfl, fun h => by cases h⟩
      | true =>
      have hB := hB.out rfl rfl rfl
      have hhB : Hold x.few := ⟨hB⟩
      clear hB
      by_cases k3 : (400 : Int) < (x.nt.tx.size : Int)
      · simp only [garbA_cons, garbA_nil, setL_cons, setL_nil, List.set_cons_zero, List.set_cons_succ]
        repeat' (first | refine go1 ?_ | refine blockK_else rfl ?_ | (refine go2 fun A B a b => ?_; simp only [go_sem, *, lt1, k9', i1, encC, c1, c2, c3, s1, s2, s3, q1, q2, q3, k3, lenK_sls hv, List.length_map, set_lenAdd, Nat.zero_le, getElem?_len, getElem?_lenAdd, set_len, List.append_assoc, List.length_append, lenK_str, snap_sl, rowsOf_sl, ints_len, ints_take, List.take_length, Bool.true_or]; (repeat' first | apply a.1 | apply b.1 | refine iteI (fun h => ?_) fun h => ?_) <;> clear a b A B))
        simp only [go_sem]
        exact ⟨_, rfl, fun h => by cases h⟩
      by_cases k4 : x.nt.id < 1
      · simp only [garbA_cons, garbA_nil, setL_cons, setL_nil, List.set_cons_zero, List.set_cons_succ]
        repeat' (first | refine go1 ?_ | refine blockK_else rfl ?_ | (refine go2 fun A B a b => ?_; simp only [go_sem, *, lt1, k9', i1, encC, c1, c2, c3, s1, s2, s3, q1, q2, q3, k3, k4, lenK_sls hv, List.length_map, set_lenAdd, Nat.zero_le, getElem?_len, getElem?_lenAdd, set_len, List.append_assoc, List.length_append, lenK_str, snap_sl, rowsOf_sl, ints_len, ints_take, List.take_length, Bool.true_or]; (repeat' first | apply a.1 | apply b.1 | refine iteI (fun h => ?_) fun h => ?_) <;> clear a b A B))
        simp only [go_sem]
        exact ⟨_, rfl, fun h => by cases h⟩
      by_cases k5 : 1099511627776 < x.nt.id
      · simp only [garbA_cons, garbA_nil, setL_cons, setL_nil, List.set_cons_zero, List.set_cons_succ]
        repeat' (first | refine go1 ?_ | refine blockK_else rfl ?_ | (refine go2 fun A B a b => ?_; simp only [go_sem, *, lt1, k9', i1, encC, c1, c2, c3, s1, s2, s3, q1, q2, q3, k3, k4, k5, lenK_sls hv, List.length_map, set_lenAdd, Nat.zero_le, getElem?_len, getElem?_lenAdd, set_len, List.append_assoc, List.length_append, lenK_str, snap_sl, rowsOf_sl, ints_len, ints_take, List.take_length, Bool.true_or]; (repeat' first | apply a.1 | apply b.1 | refine iteI (fun h => ?_) fun h => ?_) <;> clear a b A B))
        simp only [go_sem]
        exact ⟨_, rfl, fun h => by cases h⟩
      have fin : Hold (∀ c ∈ pre ++ [x], c.few) := ⟨fun c hc => by
        rcases List.mem_append.1 hc with hc | hc
        · exact hp.out c hc
        · simp at hc; subst hc; exact hhB.out⟩
      rcases k2.out with k2 | k2
      · have i2 := i2 k2
        by_cases k6 : x.nt.id ≤ y.nt.id
        · simp only [garbA_cons, garbA_nil, setL_cons, setL_nil, List.set_cons_zero, List.set_cons_succ]
          repeat' (first | refine go1 ?_ | refine blockK_else rfl ?_ | (refine go2 fun A B a b => ?_; simp only [go_sem, *, lt1, k9', i1, i2, encC, c1, c2, c3, s1, s2, s3, q1, q2, q3, k2, k3, k4, k5, k6, lenK_sls hv, List.length_map, set_lenAdd, Nat.zero_le, getElem?_len, getElem?_lenAdd, set_len, List.append_assoc, List.length_append, lenK_str, snap_sl, rowsOf_sl, ints_len, ints_take, List.take_length, Bool.true_or]; (repeat' first | apply a.1 | apply b.1 | refine iteI (fun h => ?_) fun h => ?_) <;> clear a b A B))
          simp only [go_sem]
          exact ⟨_, rfl, fun h => by cases h⟩
        · simp only [garbA_cons, garbA_nil, setL_cons, setL_nil, List.set_cons_zero, List.set_cons_succ]
          repeat' (first | refine go1 ?_ | refine blockK_else rfl ?_ | (refine go2 fun A B a b => ?_; simp only [go_sem, *, lt1, k9', i1, i2, w1, encC, c1, c2, c3, s1, s2, s3, q1, q2, q3, k2, k3, k4, k5, k6, lenK_sls hv, List.length_map, set_lenAdd, Nat.zero_le, getElem?_len, getElem?_lenAdd, set_len, List.append_assoc, List.length_append, lenK_str, snap_sl, rowsOf_sl, ints_len, ints_take, List.take_length, Bool.true_or]; (repeat' first | apply a.1 | apply b.1 | refine iteI (fun h => ?_) fun h => ?_) <;> clear a b A B))
          refine each_next hh1.out fin.out ?_ ?_
          · ((try simp only [eraseA_cons, eraseA_nil, setL_cons, setL_nil, List.set_cons_zero, List.set_cons_succ]); all_goals (first | rfl | (simp only [len_snoc, ints_len, List.length_map, ]; done) | (simp only [len_snoc, len_mid, ints_len, List.length_map, List.length_append, List.length_cons, List.length_nil, Nat.zero_add, ]; first | done | rfl)))
          · first | exact ⟨[], (List.append_nil _).symm⟩ | exact ⟨_, rfl⟩ | (simp only [List.append_assoc, List.cons_append, List.nil_append]; exact ⟨_, rfl⟩)
      · clear i2
        simp only [garbA_cons, garbA_nil, setL_cons, setL_nil, List.set_cons_zero, List.set_cons_succ]
        repeat' (first | refine go1 ?_ | refine blockK_else rfl ?_ | (refine go2 fun A B a b => ?_; simp only [go_sem, *, lt1, k9', i1, w1, encC, c1, c2, c3, s1, s2, s3, q1, q2, q3, k2, k3, k4, k5, lenK_sls hv, List.length_map, set_lenAdd, Nat.zero_le, getElem?_len, getElem?_lenAdd, set_len, List.append_assoc, List.length_append, lenK_str, snap_sl, rowsOf_sl, ints_len, ints_take, List.take_length, Bool.true_or]; (repeat' first | apply a.1 | apply b.1 | refine iteI (fun h => ?_) fun h => ?_) <;> clear a b A B))
        refine each_next hh1.out fin.out ?_ ?_
        · ((try simp only [eraseA_cons, eraseA_nil, setL_cons, setL_nil, List.set_cons_zero, List.set_cons_succ]); all_goals (first | rfl | (simp only [len_snoc, ints_len, List.length_map, ]; done) | (simp only [len_snoc, len_mid, ints_len, List.length_map, List.length_append, List.length_cons, List.length_nil, Nat.zero_add, ]; first | done | rfl)))
        · first | exact ⟨[], (List.append_nil _).symm⟩ | exact ⟨_, rfl⟩ | (simp only [List.append_assoc, List.cons_append, List.nil_append]; exact ⟨_, rfl⟩)
    · have k9' : ¬ (pre.length : Int) < 321 := by omega
      have k1 : ¬ (l.length : Int) ≤ 320 := by omega
      clear h1 hpl k9 hP hxm hx hb1 hb2 hb3 i2
      simp only [garbA_cons, garbA_nil, setL_cons, setL_nil, List.set_cons_zero, List.set_cons_succ]
      repeat' (first | refine go1 ?_ | refine blockK_else rfl ?_ | (refine go2 fun A B a b => ?_; simp only [go_sem, *, lt1, k9', k1, lenK_sls hv, List.length_map, set_lenAdd, Nat.zero_le, getElem?_len, getElem?_lenAdd, set_len, List.append_assoc, List.length_append, lenK_str, snap_sl, rowsOf_sl, ints_len, ints_take, List.take_length, Bool.true_or]; (repeat' first | apply a.1 | apply b.1 | refine iteI (fun h => ?_) fun h => ?_) <;> clear a b A B))
      simp only [go_sem]
      exact ⟨_, rfl, fun h => by cases h⟩

/- Repair: Conflicts. -/
open Go.Proofs
attribute [local go_sem] ty22 br40 List.replicate Nat.one_mul Nat.reduceMul Nat.zero_mul appK bslA fz41 fz42 lenK_esl lenK_nils lenK_sl lenK_tsl nilsK rowsFill rowsOf_esl rowsOf_nils rowsOf_sl rowsOf_tsl br41 fz23
set_option maxHeartbeats 4000000

def cfB (c : Cel) : Bool := decide (1 < c.tl.length) || decide (1 < c.fl.length) || decide (1 < c.ol.length)
def conf (l : List Cel) : List Int := (l.filter cfB).map fun c => c.nt.id
theorem conf_snoc (l : List Cel) (c : Cel) : conf (l ++ [c]) = conf l ++ if cfB c = true then [c.nt.id] else [] := by
  unfold conf
  rw [List.filter_append, List.map_append]
  by_cases h : cfB c = true <;> simp [h]
theorem conf_len (l : List Cel) : (conf l).length ≤ l.length := by unfold conf; rw [List.length_map]; exact List.length_filter_le _ _
theorem puts_snocV (a : List Int) (n : Int) : (a ++ [n]).foldl put [] = put (a.foldl put []) n := by simp [List.foldl_append]
theorem puts_lenV : ∀ (b out : List Int), (b.foldl put out).length ≤ out.length + b.length
  | [], out => by simp
  | x :: b, out => by
    rw [List.foldl_cons]
    have h1 := puts_lenV b (put out x)
    have h2 := put_len out x
    simp only [List.length_cons]; omega
theorem cf_ways (c : Cel) : (cfB c = true ∧ ((1 : Int) < (c.tl.length : Int) ∨ (¬ (1 : Int) < (c.tl.length : Int) ∧ (1 : Int) < (c.fl.length : Int)) ∨ (¬ (1 : Int) < (c.tl.length : Int) ∧ ¬ (1 : Int) < (c.fl.length : Int) ∧ (1 : Int) < (c.ol.length : Int)))) ∨
    (cfB c = false ∧ ¬ (1 : Int) < (c.tl.length : Int) ∧ ¬ (1 : Int) < (c.fl.length : Int) ∧ ¬ (1 : Int) < (c.ol.length : Int)) := by
  have e : ∀ n : Nat, ((1 : Int) < (n : Int)) ↔ 1 < n := fun n => by omega
  simp only [e, cfB, Bool.or_eq_true, decide_eq_true_eq, Bool.or_eq_false_iff, decide_eq_false_iff_not]
  omega

theorem confP {v : AV} {l : List Cel} (hv : SLs 11 (l.map encC) v) (hok : ∀ c ∈ l, c.ok) (hl : l.length ≤ 1000) : ∃ o, OutI (sorted (conf l)) o ∧ EvV CX 20 [v] (· = o) := by
  suffices hs : EvV CX 20 [v] (OutI (sorted (conf l))) by exact hs.ex
  refine EvV.walk rfl fn20 rfl nt20 rfl ?_
  simp only [List.length_cons, List.length_nil, List.cons_append, List.nil_append, Nat.reduceAdd, Nat.reduceSub, List.replicate]
  repeat' (first | refine go1 ?_ | refine blockK_else rfl ?_ | (refine go2 fun A B a b => ?_; simp only [go_sem, *, wpK_append ty22 rfl, wpK_assignN ty22 rfl, wpK_buildSlice ty22 rfl, lenK_sls hv, List.length_map]; (repeat' first | apply a.1 | apply b.1 | refine iteI (fun h => ?_) fun h => ?_) <;> clear a b A B))
  refine wpC_loopF [5, 9, 10, 11, 12, 13, 14, 15, 16, 17, 18, 19, 20, 21, 22, 23, 24, 25, 26, 27, 28, 29, 30, 31, 32, 33, 34] (fun p : List Cel × List Cel => [(3, .sl 1 (conf p.1).length 0 (conf p.1).length 1), (8, .int .i64 p.1.length)]) (fun p G => .arr [] 1 0 true :: .arr (ints (conf p.1)) 1 0 true :: G)
    (fun p => l = p.1 ++ p.2) (fun p => p.2.length) ([], l) rfl ?_ ⟨[], rfl⟩ ?_
  · ((try simp only [eraseA_cons, eraseA_nil, setL_cons, setL_nil, List.set_cons_zero, List.set_cons_succ]); all_goals (first | rfl | (simp only [len_snoc, ints_len, List.length_map, ]; done) | (simp only [len_snoc, len_mid, ints_len, List.length_map, List.length_append, List.length_cons, List.length_nil, Nat.zero_add, ]; first | done | rfl)))
  rintro ⟨pre, post⟩ g G h1
  simp only at h1
  cases post with
  | cons x post =>
    have hpl : pre.length < l.length := by rw [h1]; simp
    have hdl := conf_len pre
    have lt1 : (pre.length : Int) < (l.length : Int) := by omega
    have w1 := wrap_succ (n := pre.length) (by omega)
    have i0 := idx_sls hv (X := CX) ty26 ty49 rfl (n := pre.length) (row := encC x) (k := .i64) (by rw [h1]; exact map_midV encC pre x post)
    have hx := hok x (by rw [h1]; simp)
    have c1 := hx.t.cell
    have c2 := hx.f.cell
    have c3 := hx.o.cell
    have hh1 : Hold (l = (pre ++ [x]) ++ post) := ⟨by rw [h1]; simp⟩
    have hs := conf_snoc pre x
    obtain ⟨b5, b6⟩ := app1 (n := (conf pre).length) (by omega)
    clear h1 hpl hdl
    rcases cf_ways x with ⟨k, hw⟩ | ⟨k, k1, k2, k3⟩
    · rw [k, if_pos rfl] at hs
      have hh2 : Hold (conf (pre ++ [x]) = conf pre ++ [x.nt.id]) := ⟨hs⟩
      clear hs k
      generalize conf pre = L at *
      have hi : ints L ++ [[.int .i64 x.nt.id]] = ints (L ++ [x.nt.id]) := by rw [ints_append]; rfl
      rcases hw with k1 | ⟨k1, k2⟩ | ⟨k1, k2, k3⟩
      all_goals
        simp only [garbA_cons, garbA_nil, setL_cons, setL_nil, List.set_cons_zero, List.set_cons_succ]
        repeat' (first | refine go1 ?_ | refine blockK_else rfl ?_ | (refine go2 fun A B a b => ?_; simp only [go_sem, *, wpK_append ty22 rfl, wpK_assignN ty22 rfl, wpK_buildSlice ty22 rfl, lt1, w1, i0, encC, c1, c2, c3, b5, b6, hi, k1, lenK_sls hx.t, lenK_sls hx.f, lenK_sls hx.o, set_lenAdd, Nat.zero_le, getElem?_len, getElem?_lenAdd, set_len, List.append_assoc, List.length_append, List.length_map, lenK_str, snap_sl, ints_len, ints_take, List.take_length, Bool.true_or]; (repeat' first | apply a.1 | apply b.1 | refine iteI (fun h => ?_) fun h => ?_) <;> clear a b A B))
        refine loopF_next (pre ++ [x], post) (Nat.lt_succ_self _) hh1.out ?_ ?_
        · ((try simp only [eraseA_cons, eraseA_nil, setL_cons, setL_nil, List.set_cons_zero, List.set_cons_succ]); all_goals (first | rfl | (simp only [len_snoc, ints_len, List.length_map, hh2.out]; done) | (simp only [len_snoc, len_mid, ints_len, List.length_map, List.length_append, List.length_cons, List.length_nil, Nat.zero_add, hh2.out]; first | done | rfl)))
        · simp only [hh2.out]; exact ⟨_, rfl⟩
    · rw [k, if_neg (by simp), List.append_nil] at hs
      have hh2 : Hold (conf (pre ++ [x]) = conf pre) := ⟨hs⟩
      clear hs k
      generalize conf pre = L at *
      simp only [garbA_cons, garbA_nil, setL_cons, setL_nil, List.set_cons_zero, List.set_cons_succ]
      repeat' (first | refine go1 ?_ | refine blockK_else rfl ?_ | (refine go2 fun A B a b => ?_; simp only [go_sem, *, wpK_append ty22 rfl, wpK_assignN ty22 rfl, wpK_buildSlice ty22 rfl, lt1, w1, i0, encC, c1, c2, c3, k1, k2, k3, lenK_sls hx.t, lenK_sls hx.f, lenK_sls hx.o, set_lenAdd, Nat.zero_le, getElem?_len, getElem?_lenAdd, set_len, List.append_assoc, List.length_append, List.length_map, lenK_str, snap_sl, ints_len, ints_take, List.take_length, Bool.true_or]; (repeat' first | apply a.1 | apply b.1 | refine iteI (fun h => ?_) fun h => ?_) <;> clear a b A B))
      refine loopF_next (pre ++ [x], post) (Nat.lt_succ_self _) hh1.out ?_ ?_
      · ((try simp only [eraseA_cons, eraseA_nil, setL_cons, setL_nil, List.set_cons_zero, List.set_cons_succ]); all_goals (first | rfl | (simp only [len_snoc, ints_len, List.length_map, hh2.out]; done) | (simp only [len_snoc, len_mid, ints_len, List.length_map, List.length_append, List.length_cons, List.length_nil, Nat.zero_add, hh2.out]; first | done | rfl)))
      · simp only [hh2.out]; exact ⟨_, rfl⟩
  | nil =>
    rw [List.append_nil] at h1
    subst h1
    have hll : (conf l).length ≤ 2000 := by have := conf_len l; omega
    generalize conf l = L at *
    have tL : (ints L).take L.length = ints L := by rw [← ints_len L]; exact List.take_length
    obtain ⟨o, ho, hq⟩ := sortedE (.tsl false 1 (ints L)) L (.rows false) (by omega)
    have q := hq.rw
    clear hq hll
    cases ho with
    | own =>
      simp only [garbA_cons, garbA_nil, setL_cons, setL_nil, List.set_cons_zero, List.set_cons_succ]
      repeat' (first | refine go1 ?_ | refine blockK_else rfl ?_ | (refine go2 fun A B a b => ?_; simp only [go_sem, *, wpK_append ty22 rfl, wpK_assignN ty22 rfl, wpK_buildSlice ty22 rfl, Int.lt_irrefl, q, tL, set_lenAdd, Nat.zero_le, getElem?_len, getElem?_lenAdd, set_len, List.append_assoc, List.length_append, List.length_map, lenK_str, snap_sl, ints_len, ints_take, List.take_length, Bool.true_or]; (repeat' first | apply a.1 | apply b.1 | refine iteI (fun h => ?_) fun h => ?_) <;> clear a b A B))
      simp only [go_sem, wpK_append ty22 rfl, wpK_assignN ty22 rfl, wpK_buildSlice ty22 rfl, set_lenAdd, Nat.zero_le, getElem?_len, getElem?_lenAdd, set_len, List.append_assoc, List.length_append, List.length_map, lenK_str, snap_sl, ints_len, ints_take, List.take_length, Bool.true_or]
      exact .own
    | part =>
      simp only [garbA_cons, garbA_nil, setL_cons, setL_nil, List.set_cons_zero, List.set_cons_succ]
      repeat' (first | refine go1 ?_ | refine blockK_else rfl ?_ | (refine go2 fun A B a b => ?_; simp only [go_sem, *, wpK_append ty22 rfl, wpK_assignN ty22 rfl, wpK_buildSlice ty22 rfl, Int.lt_irrefl, q, tL, set_lenAdd, Nat.zero_le, getElem?_len, getElem?_lenAdd, set_len, List.append_assoc, List.length_append, List.length_map, lenK_str, snap_sl, ints_len, ints_take, List.take_length, Bool.true_or]; (repeat' first | apply a.1 | apply b.1 | refine iteI (fun h => ?_) fun h => ?_) <;> clear a b A B))
      simp only [go_sem, wpK_append ty22 rfl, wpK_assignN ty22 rfl, wpK_buildSlice ty22 rfl, set_lenAdd, Nat.zero_le, getElem?_len, getElem?_lenAdd, set_len, List.append_assoc, List.length_append, List.length_map, lenK_str, snap_sl, ints_len, ints_take, List.take_length, Bool.true_or]
      exact .part
    | nil hl =>
      simp only [garbA_cons, garbA_nil, setL_cons, setL_nil, List.set_cons_zero, List.set_cons_succ]
      repeat' (first | refine go1 ?_ | refine blockK_else rfl ?_ | (refine go2 fun A B a b => ?_; simp only [go_sem, *, wpK_append ty22 rfl, wpK_assignN ty22 rfl, wpK_buildSlice ty22 rfl, Int.lt_irrefl, q, tL, adopt_nils, set_lenAdd, Nat.zero_le, getElem?_len, getElem?_lenAdd, set_len, List.append_assoc, List.length_append, List.length_map, lenK_str, snap_sl, ints_len, ints_take, List.take_length, Bool.true_or]; (repeat' first | apply a.1 | apply b.1 | refine iteI (fun h => ?_) fun h => ?_) <;> clear a b A B))
      simp only [go_sem, wpK_append ty22 rfl, wpK_assignN ty22 rfl, wpK_buildSlice ty22 rfl, adopt_nils, expK_nils, set_lenAdd, Nat.zero_le, getElem?_len, getElem?_lenAdd, set_len, List.append_assoc, List.length_append, List.length_map, lenK_str, snap_sl, ints_len, ints_take, List.take_length, Bool.true_or]
      exact .nil hl

theorem confR {v : AV} {l : List Cel} (hv : SLs 11 (l.map encC) v) (hok : ∀ c ∈ l, c.ok) (hl : l.length ≤ 1000) : EvV CX 21 [v] (· = .osl 1 (ints (sorted (conf l)))) := by
  rw [← sortR_eq]
  refine EvV.walk rfl fn21 rfl nt21 rfl ?_
  simp only [List.length_cons, List.length_nil, List.cons_append, List.nil_append, Nat.reduceAdd, Nat.reduceSub, List.replicate]
  repeat' (first | refine go1 ?_ | refine blockK_else rfl ?_ | (refine go2 fun A B a b => ?_; simp only [go_sem, *, wpK_assignN ty22 rfl, lenK_sls hv, List.length_map]; (repeat' first | apply a.1 | apply b.1 | refine iteI (fun h => ?_) fun h => ?_) <;> clear a b A B))
  refine wpC_loopF [4, 8, 9, 10, 11, 12, 13, 14, 15, 16, 17, 18, 19, 20, 21, 22, 23, 24, 25, 26, 27, 28, 29, 30, 31, 32, 33, 34, 35, 36, 37, 38, 39, 40, 41, 42, 43] (fun p : List Cel × List Cel × List Blk => [(3, .sl (p.2.2.length + 1) ((conf p.1).foldl put []).length 0 ((conf p.1).foldl put []).length 1), (7, .int .i64 p.1.length)]) (fun p G => .arr [] 1 0 true :: (p.2.2 ++ .arr (ints ((conf p.1).foldl put [])) 1 0 true :: G))
    (fun p => l = p.1 ++ p.2.1) (fun p => p.2.1.length) ([], l, []) rfl ?_ ⟨[], rfl⟩ ?_
  · ((try simp only [eraseA_cons, eraseA_nil, setL_cons, setL_nil, List.set_cons_zero, List.set_cons_succ]); all_goals (first | rfl | (simp only [len_snoc, ints_len, List.length_map, ]; done) | (simp only [len_snoc, len_mid, ints_len, List.length_map, List.length_append, List.length_cons, List.length_nil, Nat.zero_add, ]; first | done | rfl)))
  rintro ⟨pre, post, X⟩ g G h1
  simp only at h1
  cases post with
  | cons x post =>
    have hpl : pre.length < l.length := by rw [h1]; simp
    have hdl := conf_len pre
    have hpu := puts_lenV (conf pre) []
    simp only [List.length_nil, Nat.zero_add] at hpu
    have lt1 : (pre.length : Int) < (l.length : Int) := by omega
    have w1 := wrap_succ (n := pre.length) (by omega)
    have i0 := idx_sls hv (X := CX) ty26 ty49 rfl (n := pre.length) (row := encC x) (k := .i64) (by rw [h1]; exact map_midV encC pre x post)
    have hx := hok x (by rw [h1]; simp)
    have c1 := hx.t.cell
    have c2 := hx.f.cell
    have c3 := hx.o.cell
    have hh1 : Hold (l = (pre ++ [x]) ++ post) := ⟨by rw [h1]; simp⟩
    have hs := conf_snoc pre x
    clear h1 hpl
    rcases cf_ways x with ⟨k, hw⟩ | ⟨k, k1, k2, k3⟩
    · rw [k, if_pos rfl] at hs
      have hh2 : Hold ((conf (pre ++ [x])).foldl put [] = put ((conf pre).foldl put []) x.nt.id) := ⟨by rw [hs, puts_snocV]⟩
      clear hs k
      obtain ⟨L, hL⟩ : ∃ L, (conf pre).foldl put [] = L := ⟨_, rfl⟩
      rw [hL] at hh2 hpu
      simp only [hL]
      have qp := (put1 false L x.nt.id (by omega)).rw
      have tL : (ints L).take L.length = ints L := by rw [← ints_len L]; exact List.take_length
      clear hL hdl hpu
      rcases hw with k1 | ⟨k1, k2⟩ | ⟨k1, k2, k3⟩
      all_goals
        simp only [garbA_cons, garbA_nil, setL_cons, setL_nil, List.set_cons_zero, List.set_cons_succ]
        repeat' (first | refine go1 ?_ | refine blockK_else rfl ?_ | (refine go2 fun A B a b => ?_; simp only [go_sem, *, wpK_assignN ty22 rfl, lt1, w1, i0, encC, c1, c2, c3, qp, tL, k1, lenK_sls hx.t, lenK_sls hx.f, lenK_sls hx.o, set_lenAdd, Nat.zero_le, getElem?_len, getElem?_lenAdd, set_len, List.append_assoc, List.length_append, List.length_map, lenK_str, snap_sl, ints_len, ints_take, List.take_length, Bool.true_or]; (repeat' first | apply a.1 | apply b.1 | refine iteI (fun h => ?_) fun h => ?_) <;> clear a b A B))
        refine loopF_next (pre ++ [x], post, X ++ .arr (ints L) 1 0 true :: G) (Nat.lt_succ_self _) hh1.out ?_ ?_
        · ((try simp only [eraseA_cons, eraseA_nil, setL_cons, setL_nil, List.set_cons_zero, List.set_cons_succ]); all_goals (first | rfl | (simp only [len_snoc, ints_len, List.length_map, hh2.out]; done) | (simp only [len_snoc, len_mid, ints_len, List.length_map, List.length_append, List.length_cons, List.length_nil, Nat.zero_add, hh2.out]; first | done | rfl)))
        · exact ⟨[], by simp [hh2.out]⟩
    · rw [k, if_neg (by simp), List.append_nil] at hs
      have hh2 : Hold ((conf (pre ++ [x])).foldl put [] = (conf pre).foldl put []) := ⟨by rw [hs]⟩
      clear hs k hdl hpu
      generalize (conf pre).foldl put [] = L at *
      simp only [garbA_cons, garbA_nil, setL_cons, setL_nil, List.set_cons_zero, List.set_cons_succ]
      repeat' (first | refine go1 ?_ | refine blockK_else rfl ?_ | (refine go2 fun A B a b => ?_; simp only [go_sem, *, wpK_assignN ty22 rfl, lt1, w1, i0, encC, c1, c2, c3, k1, k2, k3, lenK_sls hx.t, lenK_sls hx.f, lenK_sls hx.o, set_lenAdd, Nat.zero_le, getElem?_len, getElem?_lenAdd, set_len, List.append_assoc, List.length_append, List.length_map, lenK_str, snap_sl, ints_len, ints_take, List.take_length, Bool.true_or]; (repeat' first | apply a.1 | apply b.1 | refine iteI (fun h => ?_) fun h => ?_) <;> clear a b A B))
      refine loopF_next (pre ++ [x], post, X) (Nat.lt_succ_self _) hh1.out ?_ ?_
      · ((try simp only [eraseA_cons, eraseA_nil, setL_cons, setL_nil, List.set_cons_zero, List.set_cons_succ]); all_goals (first | rfl | (simp only [len_snoc, ints_len, List.length_map, hh2.out]; done) | (simp only [len_snoc, len_mid, ints_len, List.length_map, List.length_append, List.length_cons, List.length_nil, Nat.zero_add, hh2.out]; first | done | rfl)))
      · simp only [hh2.out]; exact ⟨_, rfl⟩
  | nil =>
    rw [List.append_nil] at h1
    subst h1
    generalize (conf l).foldl put [] = L at *
    simp only [garbA_cons, garbA_nil, setL_cons, setL_nil, List.set_cons_zero, List.set_cons_succ]
    repeat' (first | refine go1 ?_ | refine blockK_else rfl ?_ | (refine go2 fun A B a b => ?_; simp only [go_sem, *, wpK_assignN ty22 rfl, Int.lt_irrefl, set_lenAdd, Nat.zero_le, getElem?_len, getElem?_lenAdd, set_len, List.append_assoc, List.length_append, List.length_map, lenK_str, snap_sl, ints_len, ints_take, List.take_length, Bool.true_or]; (repeat' first | apply a.1 | apply b.1 | refine iteI (fun h => ?_) fun h => ?_) <;> clear a b A B))
    simp only [go_sem, wpK_assignN ty22 rfl, set_lenAdd, Nat.zero_le, getElem?_len, getElem?_lenAdd, set_len, List.append_assoc, List.length_append, List.length_map, lenK_str, snap_sl, ints_len, ints_take, List.take_length, Bool.true_or]

/- Repair: Lost, as the program and the reference tell it. -/
open Go.Proofs
attribute [local go_sem] ty24 ty25 ty31 ty33 ty65 eq65 ty34 ty54 ty59 ty86 eq59 fz44 fz45
set_option maxHeartbeats 4000000

/-- A document without recording and tiers. -/
def docA (dv : AV) : List AV := [.int .i64 0, .str .empty, .int .i64 0, .int .i64 0, .flat (.slice none 0 0), .flat (.slice none 0 0), dv]
/-- A loose note. -/
def encL (x : Nt × Int) : List AV := [.int .i64 x.1.id, .int .i64 x.1.ti, .int .i64 x.1.pa, .int .i64 x.1.fr, .int .i64 x.1.en, .int .i64 x.1.rk, .str x.1.tx, .int .i64 x.2]
def hasN (ds : List Nt) (n : Int) : Bool := ds.any fun y => y.id == n

theorem getE {dv : AV} {ds : List Nt} (n : Int) (hd : SLs 7 (ds.map encN) dv) (hl : ds.length ≤ 1000) : ∃ nt : Nt, EvV CX 25 [.agg (docA dv), .int .i64 n] (· = .tup [.agg (encN nt), .bool (hasN ds n)]) := by
  suffices h : EvV CX 25 [.agg (docA dv), .int .i64 n] (fun r => ∃ nt : Nt, r = .tup [.agg (encN nt), .bool (hasN ds n)]) by
    obtain ⟨r, ⟨nt, rfl⟩, h⟩ := h.ex
    exact ⟨nt, h⟩
  have c1 := hd.cell
  have k3 : ∀ (S : Store) (m : Int), expCell S (.int .i64 m) = some (.int .i64 m) := fun _ _ => rfl
  have k4 : ∀ (S : Store) (m : ByteArray), expCell S (.str m) = some (.str m) := fun _ _ => rfl
  have k5 : ∀ (S : Store) (m : Bool), expTop S (.bool m) = some (.bool m) := fun _ _ => rfl
  refine EvV.walk rfl fn25 rfl nt25 rfl ?_
  simp only [List.length_cons, List.length_nil, List.cons_append, List.nil_append, Nat.reduceAdd, Nat.reduceSub, List.replicate]
  repeat' (first | refine go1 ?_ | refine blockK_else rfl ?_ | (refine go2 fun A B a b => ?_; simp only [go_sem, *, docA, c1, lenK_sls hd]; (repeat' first | apply a.1 | apply b.1 | refine iteI (fun h => ?_) fun h => ?_) <;> clear a b A B))
  refine wpC_each [5, 7, 8, 9, 10, 11, 12, 13, 14, 15, 16, 17, 18, 19, 20, 21, 22, 23, 24, 25, 26] 6 ds (fun _ post => hasN ds n = hasN post n) ?_ ?_ ?_ ?_
  · rfl
  · rfl
  · intro g G h2
    have e : hasN ds n = false := h2
    rw [e]
    clear h2 e
    simp only [garbA_cons, garbA_nil, setL_cons, setL_nil, List.set_cons_zero, List.set_cons_succ]
    repeat' (first | refine go1 ?_ | refine blockK_else rfl ?_ | (refine go2 fun A B a b => ?_; simp only [go_sem, *, docA, c1, lenK_sls hd, List.length_map, Int.lt_irrefl, set_lenAdd, Nat.zero_le, getElem?_len, getElem?_lenAdd, set_len, List.append_assoc, List.length_append, lenK_str, snap_sl, ints_len, ints_take, List.take_length, Bool.true_or]; (repeat' first | apply a.1 | apply b.1 | refine iteI (fun h => ?_) fun h => ?_) <;> clear a b A B))
    simp only [go_sem, expK_tup]
    rw [if_pos (show idsOK _ = true from rfl)]
    simp only [expTops, expTop, expCells, k3, k4, k5]
    exact ⟨⟨0, 0, 0, 0, 0, 0, .empty⟩, rfl⟩
  · intro g G pre x post h1 h2
    have hpl : pre.length < ds.length := by rw [h1]; simp
    have lt1 : (pre.length : Int) < (ds.length : Int) := by omega
    have w1 := wrap_succ (n := pre.length) (by omega)
    have i1 := idx_sls hd (X := CX) ty31 ty46 rfl (n := pre.length) (row := encN x) (k := .i64) (by rw [h1]; exact map_midV encN pre x post)
    have hh1 : Hold (ds = pre ++ x :: post) := ⟨h1⟩
    clear h1 hpl
    cases hx : (x.id == n) with
    | true =>
      have e : hasN ds n = true := by rw [h2]; simp [hasN, hx]
      rw [e]
      clear h2 e
      simp only [garbA_cons, garbA_nil, setL_cons, setL_nil, List.set_cons_zero, List.set_cons_succ]
      repeat' (first | refine go1 ?_ | refine blockK_else rfl ?_ | (refine go2 fun A B a b => ?_; simp only [go_sem, *, docA, c1, lt1, i1, hx, encN, lenK_sls hd, List.length_map, set_lenAdd, Nat.zero_le, getElem?_len, getElem?_lenAdd, set_len, List.append_assoc, List.length_append, lenK_str, snap_sl, ints_len, ints_take, List.take_length, Bool.true_or]; (repeat' first | apply a.1 | apply b.1 | refine iteI (fun h => ?_) fun h => ?_) <;> clear a b A B))
      simp only [go_sem, expK_tup]
      rw [if_pos (show idsOK _ = true from rfl)]
      simp only [expTops, expTop, expCells, k3, k4, k5]
      exact ⟨x, rfl⟩
    | false =>
      have hh : Hold (hasN ds n = hasN post n) := ⟨by rw [h2]; simp [hasN, hx]⟩
      clear h2
      simp only [garbA_cons, garbA_nil, setL_cons, setL_nil, List.set_cons_zero, List.set_cons_succ]
      repeat' (first | refine go1 ?_ | refine blockK_else rfl ?_ | (refine go2 fun A B a b => ?_; simp only [go_sem, *, docA, c1, lt1, w1, i1, hx, encN, lenK_sls hd, List.length_map, set_lenAdd, Nat.zero_le, getElem?_len, getElem?_lenAdd, set_len, List.append_assoc, List.length_append, lenK_str, snap_sl, ints_len, ints_take, List.take_length, Bool.true_or]; (repeat' first | apply a.1 | apply b.1 | refine iteI (fun h => ?_) fun h => ?_) <;> clear a b A B))
      refine each_next hh1.out hh.out ?_ ?_
      · ((try simp only [eraseA_cons, eraseA_nil, setL_cons, setL_nil, List.set_cons_zero, List.set_cons_succ]); all_goals (first | rfl | (simp only [len_snoc, ints_len, List.length_map, ]; done) | (simp only [len_snoc, len_mid, ints_len, List.length_map, List.length_append, List.length_cons, List.length_nil, Nat.zero_add, ]; first | done | rfl)))
      · first | exact ⟨[], (List.append_nil _).symm⟩ | exact ⟨_, rfl⟩ | (simp only [List.append_assoc, List.cons_append, List.nil_append]; exact ⟨_, rfl⟩)

/-! ### The map of the Ids that are there -/
def insN (out : List Int) (n : Int) : List Int := if out.contains n then out else out ++ [n]
def idsF (l : List Int) : List Int := l.foldl insN []
def mint (out : List Int) : List (AV × AV) := out.map fun n => (.int .i64 n, .bool true)
theorem idsF_snoc (l : List Int) (n : Int) : idsF (l ++ [n]) = insN (idsF l) n := by unfold idsF; rw [List.foldl_append]; rfl
theorem find_mint (n : Int) : ∀ out : List Int, findA (.int .i64 n) (mint out) = some (if out.contains n = true then some (.bool true) else none)
  | [] => rfl
  | o :: out => by
    have ih := find_mint n out
    simp only [mint, List.map_cons, findA, eqKey, if_true] at ih ⊢
    rw [List.contains_cons]
    cases h : (n == o) with
    | true => simp
    | false => simpa using ih
theorem find_some (n : Int) (out : List Int) : (findA (.int .i64 n) (mint out)).isSome = true := by rw [find_mint]; rfl
theorem upd_mint (n : Int) : ∀ out : List Int, updA (.int .i64 n) (.bool true) (mint out) = mint (insN out n)
  | [] => rfl
  | o :: out => by
    have ih := upd_mint n out
    simp only [mint, List.map_cons, updA, eqKey, if_true] at ih ⊢
    cases h : (n == o) with
    | true =>
      have e : n = o := by simpa using h
      subst e
      simp [insN]
    | false =>
      simp only [insN, List.contains_cons, h, Bool.false_or] at ih ⊢
      rw [ih]
      by_cases k : out.contains n = true
      · rw [if_pos k, if_pos k]; rfl
      · rw [if_neg k, if_neg k]; rfl
theorem mem_insN {n m : Int} {out : List Int} : m ∈ insN out n ↔ m ∈ out ∨ m = n := by
  unfold insN
  split
  · rename_i h
    have := List.contains_iff_mem.1 h
    constructor
    · exact .inl
    · rintro (h | rfl)
      · exact h
      · exact this
  · simp
theorem idsF_has (n : Int) : ∀ l : List Int, (idsF l).contains n = l.contains n := by
  have key : ∀ (l out : List Int), n ∈ l.foldl insN out ↔ n ∈ out ∨ n ∈ l := by
    intro l
    induction l with
    | nil => intro out; simp
    | cons x l ih => intro out; rw [List.foldl_cons, ih, mem_insN, List.mem_cons]; simp only [or_assoc]
  intro l
  rw [Bool.eq_iff_iff, List.contains_iff_mem, List.contains_iff_mem]
  have := key l []
  simpa [idsF] using this

/-- The Ids of the cells that are nowhere. -/
def lostF (ids : List Int) (l : List Cel) : List Int := (l.filter fun c => !ids.contains c.nt.id).map fun c => c.nt.id
theorem lostF_snoc (ids : List Int) (l : List Cel) (c : Cel) : lostF ids (l ++ [c]) = lostF ids l ++ if ids.contains c.nt.id = true then [] else [c.nt.id] := by
  unfold lostF
  rw [List.filter_append, List.map_append]
  cases h : ids.contains c.nt.id with
  | true => rw [if_pos rfl, List.filter_cons_of_neg (by rw [h]; decide)]; rfl
  | false => rw [if_neg (by decide), List.filter_cons_of_pos (by rw [h]; rfl)]; rfl
theorem lostF_len (ids : List Int) (l : List Cel) : (lostF ids l).length ≤ l.length := by unfold lostF; rw [List.length_map]; exact List.length_filter_le _ _

theorem lostP {v dv lv : AV} {l : List Cel} {ds : List Nt} {lo : List (Nt × Int)} (hv : SLs 11 (l.map encC) v) (hok : ∀ c ∈ l, c.ok) (hd : SLs 7 (ds.map encN) dv) (hlo : SLs 8 (lo.map encL) lv) (h1 : l.length ≤ 1000) (h2 : ds.length ≤ 1000) (h3 : lo.length ≤ 1000) :
    ∃ o, OutI (sorted (lostF (ds.map (·.id) ++ lo.map (·.1.id)) l)) o ∧ EvV CX 22 [v, .agg (docA dv), lv] (· = o) := by
  suffices hs : EvV CX 22 [v, .agg (docA dv), lv] (OutI (sorted (lostF (ds.map (·.id) ++ lo.map (·.1.id)) l))) by exact hs.ex
  have c1 := hd.cell
  refine EvV.walk rfl fn22 rfl nt22 rfl ?_
  simp only [List.length_cons, List.length_nil, List.cons_append, List.nil_append, Nat.reduceAdd, Nat.reduceSub, List.replicate]
  repeat' (first | refine go1 ?_ | refine blockK_else rfl ?_ | (refine go2 fun A B a b => ?_; simp only [go_sem, *, wpK_append ty22 rfl, wpK_assignN ty22 rfl, wpK_buildSlice ty22 rfl, docA, c1, lenK_sls hd, List.length_map]; (repeat' first | apply a.1 | apply b.1 | refine iteI (fun h => ?_) fun h => ?_) <;> clear a b A B))
  obtain ⟨st, hst⟩ : ∃ st, dv.stab = st := ⟨_, rfl⟩
  rw [hst]
  clear hst
  refine wpC_loopF [9, 20, 21, 22, 23, 24, 25, 26] (fun p : List Nt × List Nt => [(19, .int .i64 p.1.length)]) (fun p G => .arr [docA dv] 7 0 st :: .arr [] 1 0 true :: .map (mint (idsF (p.1.map (·.id)))) :: G)
    (fun p => ds = p.1 ++ p.2) (fun p => p.2.length) ([], ds) rfl ?_ ⟨[], rfl⟩ ?_
  · ((try simp only [eraseA_cons, eraseA_nil, setL_cons, setL_nil, List.set_cons_zero, List.set_cons_succ]); all_goals (first | rfl | (simp only [len_snoc, ints_len, List.length_map, ]; done) | (simp only [len_snoc, len_mid, ints_len, List.length_map, List.length_append, List.length_cons, List.length_nil, Nat.zero_add, ]; first | done | rfl)))
  rintro ⟨pre, post⟩ g G h4
  simp only at h4
  cases post with
  | cons x post =>
    have hpl : pre.length < ds.length := by rw [h4]; simp
    have lt1 : (pre.length : Int) < (ds.length : Int) := by omega
    have w1 := wrap_succ (n := pre.length) (by omega)
    have i1 := idx_sls hd (X := CX) ty31 ty46 rfl (n := pre.length) (row := encN x) (k := .i64) (by rw [h4]; exact map_midV encN pre x post)
    have hh1 : Hold (ds = (pre ++ [x]) ++ post) := ⟨by rw [h4]; simp⟩
    have hh2 : Hold (idsF ((pre ++ [x]).map (·.id)) = insN (idsF (pre.map (·.id))) x.id) := ⟨by rw [List.map_append]; exact idsF_snoc _ _⟩
    have hf := find_some x.id (idsF (pre.map (·.id)))
    have hu := upd_mint x.id (idsF (pre.map (·.id)))
    clear h4 hpl
    generalize idsF (pre.map (·.id)) = L at *
    simp only [garbA_cons, garbA_nil, setL_cons, setL_nil, List.set_cons_zero, List.set_cons_succ]
    repeat' (first | refine go1 ?_ | refine blockK_else rfl ?_ | (refine go2 fun A B a b => ?_; simp only [go_sem, *, wpK_append ty22 rfl, wpK_assignN ty22 rfl, wpK_buildSlice ty22 rfl, docA, c1, lt1, w1, i1, encN, hf, hu, lookA, mupK, keyA, unCells, Option.isSome_some, set_lenAdd, Nat.zero_le, getElem?_len, getElem?_lenAdd, set_len, List.append_assoc, List.length_append, List.length_map, lenK_str, snap_sl, ints_len, ints_take, List.take_length, Bool.true_or]; (repeat' first | apply a.1 | apply b.1 | refine iteI (fun h => ?_) fun h => ?_) <;> clear a b A B))
    refine loopF_next (pre ++ [x], post) (Nat.lt_succ_self _) hh1.out ?_ ?_
    · ((try simp only [eraseA_cons, eraseA_nil, setL_cons, setL_nil, List.set_cons_zero, List.set_cons_succ]); all_goals (first | rfl | (simp only [len_snoc, ints_len, List.length_map, ]; done) | (simp only [len_snoc, len_mid, ints_len, List.length_map, List.length_append, List.length_cons, List.length_nil, Nat.zero_add, ]; first | done | rfl)))
    · simp only [hh2.out]; exact ⟨_, rfl⟩
  | nil =>
  rw [List.append_nil] at h4
  subst h4
  simp only [garbA_cons, garbA_nil, setL_cons, setL_nil, List.set_cons_zero, List.set_cons_succ]
  repeat' (first | refine go1 ?_ | refine blockK_else rfl ?_ | (refine go2 fun A B a b => ?_; simp only [go_sem, *, wpK_append ty22 rfl, wpK_assignN ty22 rfl, wpK_buildSlice ty22 rfl, docA, c1, Int.lt_irrefl, lenK_sls hlo, List.length_map, set_lenAdd, Nat.zero_le, getElem?_len, getElem?_lenAdd, set_len, List.append_assoc, List.length_append, lenK_str, snap_sl, ints_len, ints_take, List.take_length, Bool.true_or]; (repeat' first | apply a.1 | apply b.1 | refine iteI (fun h => ?_) fun h => ?_) <;> clear a b A B))
  refine wpC_loopF [11, 30, 31, 32, 33, 34, 35, 36, 37] (fun p : List (Nt × Int) × List (Nt × Int) => [(29, .int .i64 p.1.length)]) (fun p G => .arr [docA dv] 7 0 st :: .arr [] 1 0 true :: .map (mint (idsF (ds.map (·.id) ++ p.1.map (·.1.id)))) :: G)
    (fun p => lo = p.1 ++ p.2) (fun p => p.2.length) ([], lo) rfl ?_ ⟨G, by simp only [List.map_nil, List.append_nil]; rfl⟩ ?_
  · ((try simp only [eraseA_cons, eraseA_nil, setL_cons, setL_nil, List.set_cons_zero, List.set_cons_succ]); all_goals (first | rfl | (simp only [len_snoc, ints_len, List.length_map, ]; done) | (simp only [len_snoc, len_mid, ints_len, List.length_map, List.length_append, List.length_cons, List.length_nil, Nat.zero_add, ]; first | done | rfl)))
  rintro ⟨pre, post⟩ g2 G2 h4
  simp only at h4
  cases post with
  | cons x post =>
    have hpl : pre.length < lo.length := by rw [h4]; simp
    have lt1 : (pre.length : Int) < (lo.length : Int) := by omega
    have w1 := wrap_succ (n := pre.length) (by omega)
    have i1 := idx_sls hlo (X := CX) ty34 ty59 rfl (n := pre.length) (row := encL x) (k := .i64) (by rw [h4]; exact map_midV encL pre x post)
    have hh1 : Hold (lo = (pre ++ [x]) ++ post) := ⟨by rw [h4]; simp⟩
    have hh2 : Hold (idsF (ds.map (·.id) ++ (pre ++ [x]).map (·.1.id)) = insN (idsF (ds.map (·.id) ++ pre.map (·.1.id))) x.1.id) := ⟨by rw [List.map_append, ← List.append_assoc]; exact idsF_snoc _ _⟩
    have hf := find_some x.1.id (idsF (ds.map (·.id) ++ pre.map (·.1.id)))
    have hu := upd_mint x.1.id (idsF (ds.map (·.id) ++ pre.map (·.1.id)))
    clear h4 hpl
    generalize idsF (ds.map (·.id) ++ pre.map (·.1.id)) = L at *
    simp only [garbA_cons, garbA_nil, setL_cons, setL_nil, List.set_cons_zero, List.set_cons_succ]
    repeat' (first | refine go1 ?_ | refine blockK_else rfl ?_ | (refine go2 fun A B a b => ?_; simp only [go_sem, *, wpK_append ty22 rfl, wpK_assignN ty22 rfl, wpK_buildSlice ty22 rfl, docA, c1, lt1, w1, i1, encL, hf, hu, lookA, mupK, keyA, unCells, Option.isSome_some, set_lenAdd, Nat.zero_le, getElem?_len, getElem?_lenAdd, set_len, List.append_assoc, List.length_append, List.length_map, lenK_str, snap_sl, ints_len, ints_take, List.take_length, Bool.true_or]; (repeat' first | apply a.1 | apply b.1 | refine iteI (fun h => ?_) fun h => ?_) <;> clear a b A B))
    refine loopF_next (pre ++ [x], post) (Nat.lt_succ_self _) hh1.out ?_ ?_
    · ((try simp only [eraseA_cons, eraseA_nil, setL_cons, setL_nil, List.set_cons_zero, List.set_cons_succ]); all_goals (first | rfl | (simp only [len_snoc, ints_len, List.length_map, ]; done) | (simp only [len_snoc, len_mid, ints_len, List.length_map, List.length_append, List.length_cons, List.length_nil, Nat.zero_add, ]; first | done | rfl)))
    · simp only [hh2.out]; exact ⟨_, rfl⟩
  | nil =>
  rw [List.append_nil] at h4
  subst h4
  have hfI := fun n => find_mint n (idsF (ds.map (·.id) ++ lo.map (·.1.id)))
  simp only [idsF_has] at hfI
  generalize ds.map (·.id) ++ lo.map (·.1.id) = I at *
  obtain ⟨M, hM⟩ : ∃ M, mint (idsF I) = M := ⟨_, rfl⟩
  rw [hM] at hfI
  simp only [hM]
  clear hM
  simp only [garbA_cons, garbA_nil, setL_cons, setL_nil, List.set_cons_zero, List.set_cons_succ]
  repeat' (first | refine go1 ?_ | refine blockK_else rfl ?_ | (refine go2 fun A B a b => ?_; simp only [go_sem, *, wpK_append ty22 rfl, wpK_assignN ty22 rfl, wpK_buildSlice ty22 rfl, docA, c1, Int.lt_irrefl, lenK_sls hv, List.length_map, set_lenAdd, Nat.zero_le, getElem?_len, getElem?_lenAdd, set_len, List.append_assoc, List.length_append, lenK_str, snap_sl, ints_len, ints_take, List.take_length, Bool.true_or]; (repeat' first | apply a.1 | apply b.1 | refine iteI (fun h => ?_) fun h => ?_) <;> clear a b A B))
  refine wpC_loopF [14, 41, 42, 43, 44, 45, 46, 47, 48, 49, 50, 51, 52, 53, 54, 55, 56] (fun p : List Cel × List Cel × Nat => [(12, .sl (p.2.2 + 1 + 1 + 1) (lostF I p.1).length 0 (lostF I p.1).length 1), (40, .int .i64 p.1.length)]) (fun p G => .arr [docA dv] 7 0 st :: .arr [] 1 0 true :: .map M :: (G2 ++ .arr (ints (lostF I p.1)) 1 0 true :: G))
    (fun p => l = p.1 ++ p.2.1 ∧ p.2.2 = G2.length) (fun p => p.2.1.length) ([], l, G2.length) ⟨rfl, rfl⟩ ?_ ⟨[], rfl⟩ ?_
  · ((try simp only [eraseA_cons, eraseA_nil, setL_cons, setL_nil, List.set_cons_zero, List.set_cons_succ]); all_goals (first | rfl | (simp only [len_snoc, ints_len, List.length_map, ]; done) | (simp only [len_snoc, len_mid, ints_len, List.length_map, List.length_append, List.length_cons, List.length_nil, Nat.zero_add, ]; first | done | rfl)))
  rintro ⟨pre, post, gn⟩ g3 G3 ⟨h4, h5⟩
  simp only at h4 h5
  subst h5
  cases post with
  | cons x post =>
    have hpl : pre.length < l.length := by rw [h4]; simp
    have hdl := lostF_len I pre
    have lt1 : (pre.length : Int) < (l.length : Int) := by omega
    have w1 := wrap_succ (n := pre.length) (by omega)
    have i1 := idx_sls hv (X := CX) ty26 ty49 rfl (n := pre.length) (row := encC x) (k := .i64) (by rw [h4]; exact map_midV encC pre x post)
    have hx := hok x (by rw [h4]; simp)
    have d1 := hx.t.cell
    have d2 := hx.f.cell
    have d3 := hx.o.cell
    have hh1 : Hold (l = (pre ++ [x]) ++ post ∧ G2.length = G2.length) := ⟨⟨by rw [h4]; simp, rfl⟩⟩
    have hs := lostF_snoc I pre x
    have hf := hfI x.nt.id
    obtain ⟨b5, b6⟩ := app1 (n := (lostF I pre).length) (by omega)
    clear h4 hpl hdl hfI
    cases k : I.contains x.nt.id with
    | true =>
      rw [k, if_pos rfl, List.append_nil] at hs
      rw [k, if_pos rfl] at hf
      have hh2 : Hold (lostF I (pre ++ [x]) = lostF I pre) := ⟨hs⟩
      clear hs k b5 b6
      generalize lostF I pre = L at *
      simp only [garbA_cons, garbA_nil, setL_cons, setL_nil, List.set_cons_zero, List.set_cons_succ]
      repeat' (first | refine go1 ?_ | refine blockK_else rfl ?_ | (refine go2 fun A B a b => ?_; simp only [go_sem, *, wpK_append ty22 rfl, wpK_assignN ty22 rfl, wpK_buildSlice ty22 rfl, docA, c1, d1, d2, d3, lt1, w1, i1, encC, hf, lookA, mupK, keyA, unCells, Option.isSome_some, set_lenAdd, Nat.zero_le, getElem?_len, getElem?_lenAdd, set_len, List.append_assoc, List.length_append, List.length_map, lenK_str, snap_sl, ints_len, ints_take, List.take_length, Bool.true_or]; (repeat' first | apply a.1 | apply b.1 | refine iteI (fun h => ?_) fun h => ?_) <;> clear a b A B))
      refine loopF_next (pre ++ [x], post, G2.length) (Nat.lt_succ_self _) hh1.out ?_ ?_
      · ((try simp only [eraseA_cons, eraseA_nil, setL_cons, setL_nil, List.set_cons_zero, List.set_cons_succ]); all_goals (first | rfl | (simp only [len_snoc, ints_len, List.length_map, hh2.out]; done) | (simp only [len_snoc, len_mid, ints_len, List.length_map, List.length_append, List.length_cons, List.length_nil, Nat.zero_add, hh2.out]; first | done | rfl)))
      · simp only [hh2.out]; exact ⟨_, rfl⟩
    | false =>
      rw [k, if_neg (by simp)] at hs hf
      have hh2 : Hold (lostF I (pre ++ [x]) = lostF I pre ++ [x.nt.id]) := ⟨hs⟩
      clear hs k
      generalize lostF I pre = L at *
      have hi : ints L ++ [[.int .i64 x.nt.id]] = ints (L ++ [x.nt.id]) := by rw [ints_append]; rfl
      simp only [garbA_cons, garbA_nil, setL_cons, setL_nil, List.set_cons_zero, List.set_cons_succ]
      repeat' (first | refine go1 ?_ | refine blockK_else rfl ?_ | (refine go2 fun A B a b => ?_; simp only [go_sem, *, wpK_append ty22 rfl, wpK_assignN ty22 rfl, wpK_buildSlice ty22 rfl, docA, c1, d1, d2, d3, lt1, w1, i1, encC, hf, hi, b5, b6, lookA, mupK, keyA, unCells, Option.isSome_some, set_lenAdd, Nat.zero_le, getElem?_len, getElem?_lenAdd, set_len, List.append_assoc, List.length_append, List.length_map, lenK_str, snap_sl, ints_len, ints_take, List.take_length, Bool.true_or]; (repeat' first | apply a.1 | apply b.1 | refine iteI (fun h => ?_) fun h => ?_) <;> clear a b A B))
      refine loopF_next (pre ++ [x], post, G2.length) (Nat.lt_succ_self _) hh1.out ?_ ?_
      · ((try simp only [eraseA_cons, eraseA_nil, setL_cons, setL_nil, List.set_cons_zero, List.set_cons_succ]); all_goals (first | rfl | (simp only [len_snoc, ints_len, List.length_map, hh2.out]; done) | (simp only [len_snoc, len_mid, ints_len, List.length_map, List.length_append, List.length_cons, List.length_nil, Nat.zero_add, hh2.out]; first | done | rfl)))
      · simp only [hh2.out]; exact ⟨_, rfl⟩
  | nil =>
    rw [List.append_nil] at h4
    subst h4
    have hll : (lostF I l).length ≤ 2000 := by have := lostF_len I l; omega
    generalize lostF I l = L at *
    have tL : (ints L).take L.length = ints L := by rw [← ints_len L]; exact List.take_length
    obtain ⟨o, ho, hq⟩ := sortedE (.tsl false 1 (ints L)) L (.rows false) (by omega)
    have q := hq.rw
    clear hq hll hfI
    cases ho with
    | own =>
      simp only [garbA_cons, garbA_nil, setL_cons, setL_nil, List.set_cons_zero, List.set_cons_succ]
      repeat' (first | refine go1 ?_ | refine blockK_else rfl ?_ | (refine go2 fun A B a b => ?_; simp only [go_sem, *, wpK_append ty22 rfl, wpK_assignN ty22 rfl, wpK_buildSlice ty22 rfl, Int.lt_irrefl, q, tL, set_lenAdd, Nat.zero_le, getElem?_len, getElem?_lenAdd, set_len, List.append_assoc, List.length_append, List.length_map, lenK_str, snap_sl, ints_len, ints_take, List.take_length, Bool.true_or]; (repeat' first | apply a.1 | apply b.1 | refine iteI (fun h => ?_) fun h => ?_) <;> clear a b A B))
      simp only [go_sem, wpK_append ty22 rfl, wpK_assignN ty22 rfl, wpK_buildSlice ty22 rfl, set_lenAdd, Nat.zero_le, getElem?_len, getElem?_lenAdd, set_len, List.append_assoc, List.length_append, List.length_map, lenK_str, snap_sl, ints_len, ints_take, List.take_length, Bool.true_or]
      exact .own
    | part =>
      simp only [garbA_cons, garbA_nil, setL_cons, setL_nil, List.set_cons_zero, List.set_cons_succ]
      repeat' (first | refine go1 ?_ | refine blockK_else rfl ?_ | (refine go2 fun A B a b => ?_; simp only [go_sem, *, wpK_append ty22 rfl, wpK_assignN ty22 rfl, wpK_buildSlice ty22 rfl, Int.lt_irrefl, q, tL, set_lenAdd, Nat.zero_le, getElem?_len, getElem?_lenAdd, set_len, List.append_assoc, List.length_append, List.length_map, lenK_str, snap_sl, ints_len, ints_take, List.take_length, Bool.true_or]; (repeat' first | apply a.1 | apply b.1 | refine iteI (fun h => ?_) fun h => ?_) <;> clear a b A B))
      simp only [go_sem, wpK_append ty22 rfl, wpK_assignN ty22 rfl, wpK_buildSlice ty22 rfl, set_lenAdd, Nat.zero_le, getElem?_len, getElem?_lenAdd, set_len, List.append_assoc, List.length_append, List.length_map, lenK_str, snap_sl, ints_len, ints_take, List.take_length, Bool.true_or]
      exact .part
    | nil hl =>
      simp only [garbA_cons, garbA_nil, setL_cons, setL_nil, List.set_cons_zero, List.set_cons_succ]
      repeat' (first | refine go1 ?_ | refine blockK_else rfl ?_ | (refine go2 fun A B a b => ?_; simp only [go_sem, *, wpK_append ty22 rfl, wpK_assignN ty22 rfl, wpK_buildSlice ty22 rfl, Int.lt_irrefl, q, tL, adopt_nils, set_lenAdd, Nat.zero_le, getElem?_len, getElem?_lenAdd, set_len, List.append_assoc, List.length_append, List.length_map, lenK_str, snap_sl, ints_len, ints_take, List.take_length, Bool.true_or]; (repeat' first | apply a.1 | apply b.1 | refine iteI (fun h => ?_) fun h => ?_) <;> clear a b A B))
      simp only [go_sem, wpK_append ty22 rfl, wpK_assignN ty22 rfl, wpK_buildSlice ty22 rfl, adopt_nils, expK_nils, set_lenAdd, Nat.zero_le, getElem?_len, getElem?_lenAdd, set_len, List.append_assoc, List.length_append, List.length_map, lenK_str, snap_sl, ints_len, ints_take, List.take_length, Bool.true_or]
      exact .nil hl
end Go.Eng

/- Repair: the arguments are cells, notes and loose notes. -/
namespace Go.Eng
open Go.Proofs Go.WideShapes

abbrev valS : List Shp := [.int .i64, .int .i64, .int .i64, .str]
abbrev noteS : List Shp := [.int .i64, .int .i64, .int .i64, .int .i64, .int .i64, .int .i64, .str]
abbrev celS : List Shp := [.int .i64, .int .i64, .int .i64, .int .i64, .int .i64, .int .i64, .int .i64, .str, .sl valS, .sl valS, .sl valS]
abbrev looS : List Shp := [.int .i64, .int .i64, .int .i64, .int .i64, .int .i64, .int .i64, .str, .int .i64]
theorem vals52 : ∀ {rows : List (List AV)}, (∀ r ∈ rows, okR valS r) → ∃ l : List Val, rows = l.map encV
  | [], _ => ⟨[], rfl⟩
  | r :: rows, h => by
    have hr := h r (by simp)
    simp only [okR, okC] at hr
    obtain ⟨_, _, rfl, ⟨a, rfl, _⟩, _, _, rfl, ⟨b, rfl, _⟩, _, _, rfl, ⟨c, rfl, _⟩, _, _, rfl, ⟨d, rfl, _⟩, rfl⟩ := hr
    obtain ⟨l, rfl⟩ := vals52 (rows := rows) fun r hr => h r (by simp [hr])
    exact ⟨⟨a, b, c, d⟩ :: l, rfl⟩
theorem notes52 : ∀ {rows : List (List AV)}, (∀ r ∈ rows, okR noteS r) → ∃ l : List Nt, rows = l.map encN
  | [], _ => ⟨[], rfl⟩
  | r :: rows, h => by
    have hr := h r (by simp)
    simp only [okR, okC] at hr
    obtain ⟨_, _, rfl, ⟨a, rfl, _⟩, _, _, rfl, ⟨b, rfl, _⟩, _, _, rfl, ⟨c, rfl, _⟩, _, _, rfl, ⟨d, rfl, _⟩, _, _, rfl, ⟨e, rfl, _⟩, _, _, rfl, ⟨f, rfl, _⟩, _, _, rfl, ⟨t, rfl, _⟩, rfl⟩ := hr
    obtain ⟨l, rfl⟩ := notes52 (rows := rows) fun r hr => h r (by simp [hr])
    exact ⟨⟨a, b, c, d, e, f, t⟩ :: l, rfl⟩
theorem loose52 : ∀ {rows : List (List AV)}, (∀ r ∈ rows, okR looS r) → ∃ l : List (Nt × Int), rows = l.map encL
  | [], _ => ⟨[], rfl⟩
  | r :: rows, h => by
    have hr := h r (by simp)
    simp only [okR, okC] at hr
    obtain ⟨_, _, rfl, ⟨a, rfl, _⟩, _, _, rfl, ⟨b, rfl, _⟩, _, _, rfl, ⟨c, rfl, _⟩, _, _, rfl, ⟨d, rfl, _⟩, _, _, rfl, ⟨e, rfl, _⟩, _, _, rfl, ⟨f, rfl, _⟩, _, _, rfl, ⟨t, rfl, _⟩, _, _, rfl, ⟨g, rfl, _⟩, rfl⟩ := hr
    obtain ⟨l, rfl⟩ := loose52 (rows := rows) fun r hr => h r (by simp [hr])
    exact ⟨(⟨a, b, c, d, e, f, t⟩, g) :: l, rfl⟩
theorem cels52 : ∀ {rows : List (List AV)}, (∀ r ∈ rows, okR celS r) → ∃ l : List Cel, rows = l.map encC ∧ (∀ c ∈ l, c.ok) ∧ ∀ c ∈ l, c.tl.length ≤ 9223372036854775807 ∧ c.fl.length ≤ 9223372036854775807 ∧ c.ol.length ≤ 9223372036854775807
  | [], _ => ⟨[], rfl, (fun _ h => nomatch h), fun _ h => nomatch h⟩
  | r :: rows, h => by
    have hr := h r (by simp)
    simp only [okR, okC] at hr
    obtain ⟨_, _, rfl, ⟨a, rfl, _⟩, _, _, rfl, ⟨b, rfl, _⟩, _, _, rfl, ⟨c, rfl, _⟩, _, _, rfl, ⟨d, rfl, _⟩, _, _, rfl, ⟨e, rfl, _⟩, _, _, rfl, ⟨f, rfl, _⟩, _, _, rfl, ⟨g, rfl, _⟩, _, _, rfl, ⟨t, rfl, _⟩, _, _, rfl, ⟨r1, rfl, l1, k1⟩, _, _, rfl, ⟨r2, rfl, l2, k2⟩, _, _, rfl, ⟨r3, rfl, l3, k3⟩, rfl⟩ := hr
    obtain ⟨l, rfl, h1, h2⟩ := cels52 (rows := rows) fun r hr => h r (by simp [hr])
    obtain ⟨v1, rfl⟩ := vals52 (rows := r1) (fun x hx => by simp only [okR, okC]; exact k1 x hx)
    obtain ⟨v2, rfl⟩ := vals52 (rows := r2) (fun x hx => by simp only [okR, okC]; exact k2 x hx)
    obtain ⟨v3, rfl⟩ := vals52 (rows := r3) (fun x hx => by simp only [okR, okC]; exact k3 x hx)
    rw [List.length_map] at l1 l2 l3
    refine ⟨⟨a, ⟨b, c, d, e, f, g, t⟩, .tsl true 4 (v1.map encV), .tsl true 4 (v2.map encV), .tsl true 4 (v3.map encV), v1, v2, v3⟩ :: l, rfl, fun x hx => ?_, fun x hx => ?_⟩
    · rcases List.mem_cons.1 hx with rfl | hx
      · exact ⟨.rows true, .rows true, .rows true⟩
      · exact h1 x hx
    · rcases List.mem_cons.1 hx with rfl | hx
      · exact ⟨l1, l2, l3⟩
      · exact h2 x hx
end Go.Eng
