/- Part 4 of the texts behind this claim. -/
import Derived.Test.YtobjcopfdoiaiaaZ3
import Derived.Sort.LotD5
import Derived.Test.YtobjcopfdoiaiaaEngV

/- The library's sort of spans by a function as a run: bits, the stirring of a row that sorts badly. -/
namespace Go.Eng.Fo
open Go.Proofs
set_option linter.unusedSimpArgs false
set_option linter.unusedVariables false
attribute [local irreducible] wpC wpO wp1 EvV EvR wpL
attribute [local go_sem] ty3 ty4 ty5 ty9 ty60 ty48 ty58 br57 br58 fz0 fz1 br48 fz63 beq_iff_eq beq_eq_false_iff_ne Int.natCast_inj Bool.not_eq_false' op1_go wpK_box wpK_alloc wpK_load wpK_store wpK_binOp wpK_unOp wpK_fieldAddr wpK_field wpK_build wpK_indexAddr wpK_slice wpK_len wpK_extract wpK_nilCheck wpK_pick wpK_makeFunc wpK_call wpK_callT wpK_max wpK_min wpK_assignT wpK_moveT wpK_assignB wpK_moveB wpK_assignI wpK_moveI wpK_assignA wpK_moveA callK_fn snapL_nil snapL_cons snap_int snap_bool snap_str snap_tsl snap_agg snap_fn snap_flat adopt_int adopt_bool adopt_str adopt_agg adopt_osl adopt_tsl adopt_tup op1_guard grdK_bool grdK_undef condK_bool someK_some pairK_some nilK_ptr nilK_tptr boxK storeK evalA_tmp evalA_int evalA_bool evalA_agg evalA_fn evalA_nil ofC_int ofC_bool getA_zero getA_succ cells_int cells_agg cells_bool cells_sl cells_tsl cell_int cell_bool cell_str cell_sl cell_esl cell_tsl cell_ptr cell_tptr cell_fn cell_nils cell_nilf List.all_cons List.all_nil Bool.and_true Bool.and_self Bool.true_and putA_some putA_none List.set_cons_zero List.set_cons_succ List.length_cons List.length_nil List.nil_append List.cons_append stabL AV.stab fieldAddrA fieldA List.getElem?_cons_zero List.getElem?_cons_succ Nat.zero_add loadA rowOf Nat.le_refl and_self true_and and_true partA binA unA intBin eqBin eqCells eqCell Option.bind_some decide_true decide_false decide_eq_true_eq ite_not Bool.not_eq_true' decide_eq_false_iff_not Bool.false_eq_true Option.map_some Option.map_none Bool.not_true Bool.not_false buildA fillA patch List.take List.drop List.map_cons List.map_nil extK List.getD_cons_zero List.getD_cons_succ minmaxA minmaxGo adoptZ_false adoptZ_true freeze_int freeze_bool freeze_str freeze_flat freeze_agg freeze_osl freeze_tsl freeze_tup frz1_bool frz1_int frz1_str frz1_agg frz1_osl frz1_tsl bne Bool.false_and Bool.and_false ne_eq not_true_eq_false not_false_eq_true List.append_nil
set_option maxRecDepth 20000
set_option maxHeartbeats 4000000
variable {T : List (List AV)}

theorem fdiv32 (n : Nat) : Int.fdiv (n : Int) 4294967296 = ((n / 4294967296 : Nat) : Int) := by rw [Int.fdiv_eq_ediv_of_nonneg _ (by omega)]; rfl
theorem fdiv16 (n : Nat) : Int.fdiv (n : Int) 65536 = ((n / 65536 : Nat) : Int) := by rw [Int.fdiv_eq_ediv_of_nonneg _ (by omega)]; rfl
theorem fdiv8 (n : Nat) : Int.fdiv (n : Int) 256 = ((n / 256 : Nat) : Int) := by rw [Int.fdiv_eq_ediv_of_nonneg _ (by omega)]; rfl
theorem fdiv7 (n : Nat) : Int.fdiv (n : Int) 128 = ((n / 128 : Nat) : Int) := by rw [Int.fdiv_eq_ediv_of_nonneg _ (by omega)]; rfl

theorem len_shift {n k : Nat} (h : 2 ^ k ≤ n) : Go.Sort.bitsLen n = k + Go.Sort.bitsLen (n / 2 ^ k) := by
  have h0 : 0 < n := Nat.lt_of_lt_of_le (Nat.two_pow_pos k) h
  have h1 : 0 < n / 2 ^ k := Nat.div_pos h (Nat.two_pow_pos k)
  apply Nat.le_antisymm
  · rw [Go.Sort.bitsLen_le_iff, Nat.pow_add]
    have := Go.Sort.lt_two_pow_bitsLen (n / 2 ^ k)
    rw [Nat.div_lt_iff_lt_mul (Nat.two_pow_pos k)] at this
    rw [Nat.mul_comm]; exact this
  · obtain ⟨m, hm⟩ : ∃ m, Go.Sort.bitsLen (n / 2 ^ k) = m + 1 := by
      cases hb : Go.Sort.bitsLen (n / 2 ^ k) with
      | zero => have := Go.Sort.lt_two_pow_bitsLen (n / 2 ^ k); rw [hb] at this; omega
      | succ m => exact ⟨m, rfl⟩
    rw [hm]
    apply Nat.lt_of_not_le
    intro hc
    rw [Go.Sort.bitsLen_le_iff] at hc
    have : Go.Sort.bitsLen (n / 2 ^ k) ≤ m := by
      rw [Go.Sort.bitsLen_le_iff, Nat.div_lt_iff_lt_mul (Nat.two_pow_pos k), ← Nat.pow_add, Nat.add_comm m k]; exact hc
    omega

theorem tab_step {s : ByteArray} {m : Nat} {b : UInt8} {dst : Option Tmp} {K : List AV → Store → Prop} {fr : List AV} {S : Store} {a c : Nat} {bb : Bool} {z : List AV} (hty : CX.ty 9 = some ⟨a, bb, c, z, .str⟩) (h : s[m]? = some b) (hk : K (putA fr dst (.int .u8 b.toNat)) S) :
    someK (indexA CX 9 (.str s) (.int .u8 (m : Int))) dst K fr S := by
  have e : indexA CX 9 (.str s) (.int .u8 (m : Int)) = some (.int .u8 b.toNat) := by simp [indexA, hty, h]
  rw [e, someK_some]; exact hk

theorem shr32 (n : Nat) : shiftBin .shr .u64 (n : Int) 32 = some (.int .u64 ((n / 4294967296 : Nat) : Int)) := by rw [← fdiv32]; rfl
theorem shr16 (n : Nat) : shiftBin .shr .u64 (n : Int) 16 = some (.int .u64 ((n / 65536 : Nat) : Int)) := by rw [← fdiv16]; rfl
theorem shr8 (n : Nat) : shiftBin .shr .u64 (n : Int) 8 = some (.int .u64 ((n / 256 : Nat) : Int)) := by rw [← fdiv8]; rfl
theorem shr7 (n : Nat) : shiftBin .shr .u64 (n : Int) 7 = some (.int .u64 ((n / 128 : Nat) : Int)) := by rw [← fdiv7]; rfl
theorem wrapU8 {n : Nat} (h : n < 256) : IntKind.wrap .u8 (n : Int) = (n : Int) := by
  simp [IntKind.wrap, IntKind.min, IntKind.max, IntKind.signed, IntKind.bits]
  omega
theorem wrapU64 {n : Nat} (h : n < 18446744073709551616) : IntKind.wrap .u64 (n : Int) = (n : Int) := by
  simp [IntKind.wrap, IntKind.min, IntKind.max, IntKind.signed, IntKind.bits]
  omega
theorem len_byte {n : Nat} (h : n < 256) : Go.Sort.bitsLen n ≤ 8 := (Go.Sort.bitsLen_le_iff n 8).2 (by omega)

theorem len64 (n : Nat) (hn : n < 4294967296) : EvV CX 58 [.int .u64 n] (· = .int .i64 (Go.Sort.bitsLen n : Nat)) := by
  have h32 : ¬ (4294967296 : Int) ≤ (n : Int) := by omega
  have tail : ∀ (m k : Nat), m < 256 → k ≤ 24 → Go.Sort.bitsLen n = k + Go.Sort.bitsLen m → IntKind.wrap .u8 (m : Int) = (m : Int) ∧ (UInt8.ofNat (Go.Sort.bitsLen m)).toNat = Go.Sort.bitsLen m ∧ IntKind.wrap .i64 ((Go.Sort.bitsLen m : Nat) : Int) = ((Go.Sort.bitsLen m : Nat) : Int) ∧ IntKind.wrap .i64 ((k : Int) + ((Go.Sort.bitsLen m : Nat) : Int)) = ((Go.Sort.bitsLen n : Nat) : Int) := fun m k hm hk e => by
    have := len_byte hm
    refine ⟨wrapU8 hm, ?_, wrap_small (by omega) (by omega), ?_⟩
    · simp; omega
    · rw [wrap_small (by omega) (by omega), e]; omega
  by_cases h16 : 65536 ≤ n
  · have h16' : (65536 : Int) ≤ (n : Int) := by omega
    by_cases h8 : 256 ≤ n / 65536
    · have h8' : (256 : Int) ≤ ((n / 65536 : Nat) : Int) := by omega
      obtain ⟨t1, t2, t3, t4⟩ := tail (n / 65536 / 256) 24 (by omega) (by omega) (by rw [len_shift (k := 16) h16, show 2 ^ 16 = 65536 from rfl, len_shift (k := 8) h8, show 2 ^ 8 = 256 from rfl]; omega)
      have t4 : IntKind.wrap .i64 (24 + ((Go.Sort.bitsLen (n / 65536 / 256) : Nat) : Int)) = ((Go.Sort.bitsLen n : Nat) : Int) := t4
      have k1 : IntKind.wrap .i64 (0 + 16) = 16 := rfl
      have k2 : IntKind.wrap .i64 (16 + 8) = 24 := rfl
      refine EvV.walk rfl fn58 rfl nt58 rfl ?_
      simp only [List.length_cons, List.length_nil, List.cons_append, List.nil_append, Nat.reduceAdd, Nat.reduceSub, List.replicate]
      repeat' (first | refine go1 ?_ | refine blockK_else rfl ?_ | (refine wpC_cond fun A B hA hB => ?_; simp only [go_sem, reduceIte, Nat.reduceAdd, Nat.reduceEqDiff, Nat.reduceLT, Nat.reduceLeDiff, *, cvtK_int, wpK_cvt ty5 ty3 rfl, wpK_cvt ty60 ty5 rfl, shr16, shr8]; first | (refine hA.out ?_; clear hA hB A B) | (refine hB.out ?_; clear hA hB A B) | (refine iteI (fun h => hA.out ?_) (fun h => hB.out ?_) <;> clear hA hB A B) | (refine iteI (fun h => hB.out ?_) (fun h => hA.out ?_) <;> clear hA hB A B)) | (refine wpO_cons fun K hK => ?_; simp only [go_sem, reduceIte, Nat.reduceAdd, Nat.reduceEqDiff, Nat.reduceLT, Nat.reduceLeDiff, *, cvtK_int, wpK_cvt ty5 ty3 rfl, wpK_cvt ty60 ty5 rfl, shr16, shr8]; first | (refine hK.out _ _ ?_; clear hK K) | (refine iteI (fun h => hK.out _ _ ?_) (fun h => hK.out _ _ ?_) <;> clear hK K)))
      refine wpO_cons fun K hK => ?_
      simp only [go_sem, reduceIte, Nat.reduceAdd, Nat.reduceEqDiff, Nat.reduceLT, Nat.reduceLeDiff, wpK_index, cvtK_int, wpK_cvt ty5 ty3 rfl, wpK_cvt ty60 ty5 rfl]
      refine tab_step (b := UInt8.ofNat (Go.Sort.bitsLen (n / 65536 / 256))) ty9 ?_ ?_
      · have hm : n / 65536 / 256 < 256 := by omega
        revert hm
        generalize n / 65536 / 256 = m
        revert m
        decide +kernel
      · refine hK.out _ _ ?_
        clear hK K
        rw [t2]
        repeat' (first | refine go1 ?_ | refine blockK_else rfl ?_ | (refine wpC_cond fun A B hA hB => ?_; simp only [go_sem, reduceIte, Nat.reduceAdd, Nat.reduceEqDiff, Nat.reduceLT, Nat.reduceLeDiff, *, cvtK_int, wpK_cvt ty5 ty3 rfl, wpK_cvt ty60 ty5 rfl, t3, t4]; first | (refine hA.out ?_; clear hA hB A B) | (refine hB.out ?_; clear hA hB A B) | (refine iteI (fun h => hA.out ?_) (fun h => hB.out ?_) <;> clear hA hB A B) | (refine iteI (fun h => hB.out ?_) (fun h => hA.out ?_) <;> clear hA hB A B)) | (refine wpO_cons fun K hK => ?_; simp only [go_sem, reduceIte, Nat.reduceAdd, Nat.reduceEqDiff, Nat.reduceLT, Nat.reduceLeDiff, *, cvtK_int, wpK_cvt ty5 ty3 rfl, wpK_cvt ty60 ty5 rfl, t3, t4]; first | (refine hK.out _ _ ?_; clear hK K) | (refine iteI (fun h => hK.out _ _ ?_) (fun h => hK.out _ _ ?_) <;> clear hK K)))
        simp only [resultsR, resultsL, resultA, expK_int, expK_bool, expK_str, expK_agg, expK_own, expK_tsl, resK_some, go_sem, reduceIte, Nat.reduceAdd, Nat.reduceEqDiff, Nat.reduceLT, Nat.reduceLeDiff, cvtK_int, wpK_cvt ty5 ty3 rfl, wpK_cvt ty60 ty5 rfl, t4]
    · have h8' : ¬ (256 : Int) ≤ ((n / 65536 : Nat) : Int) := by omega
      obtain ⟨t1, t2, t3, t4⟩ := tail (n / 65536) 16 (by omega) (by omega) (by rw [len_shift (k := 16) h16])
      have t4 : IntKind.wrap .i64 (16 + ((Go.Sort.bitsLen (n / 65536) : Nat) : Int)) = ((Go.Sort.bitsLen n : Nat) : Int) := t4
      have k1 : IntKind.wrap .i64 (0 + 16) = 16 := rfl
      refine EvV.walk rfl fn58 rfl nt58 rfl ?_
      simp only [List.length_cons, List.length_nil, List.cons_append, List.nil_append, Nat.reduceAdd, Nat.reduceSub, List.replicate]
      repeat' (first | refine go1 ?_ | refine blockK_else rfl ?_ | (refine wpC_cond fun A B hA hB => ?_; simp only [go_sem, reduceIte, Nat.reduceAdd, Nat.reduceEqDiff, Nat.reduceLT, Nat.reduceLeDiff, *, cvtK_int, wpK_cvt ty5 ty3 rfl, wpK_cvt ty60 ty5 rfl, shr16, shr8]; first | (refine hA.out ?_; clear hA hB A B) | (refine hB.out ?_; clear hA hB A B) | (refine iteI (fun h => hA.out ?_) (fun h => hB.out ?_) <;> clear hA hB A B) | (refine iteI (fun h => hB.out ?_) (fun h => hA.out ?_) <;> clear hA hB A B)) | (refine wpO_cons fun K hK => ?_; simp only [go_sem, reduceIte, Nat.reduceAdd, Nat.reduceEqDiff, Nat.reduceLT, Nat.reduceLeDiff, *, cvtK_int, wpK_cvt ty5 ty3 rfl, wpK_cvt ty60 ty5 rfl, shr16, shr8]; first | (refine hK.out _ _ ?_; clear hK K) | (refine iteI (fun h => hK.out _ _ ?_) (fun h => hK.out _ _ ?_) <;> clear hK K)))
      refine wpO_cons fun K hK => ?_
      simp only [go_sem, reduceIte, Nat.reduceAdd, Nat.reduceEqDiff, Nat.reduceLT, Nat.reduceLeDiff, wpK_index, cvtK_int, wpK_cvt ty5 ty3 rfl, wpK_cvt ty60 ty5 rfl]
      refine tab_step (b := UInt8.ofNat (Go.Sort.bitsLen (n / 65536))) ty9 ?_ ?_
      · have hm : n / 65536 < 256 := by omega
        revert hm
        generalize n / 65536 = m
        revert m
        decide +kernel
      · refine hK.out _ _ ?_
        clear hK K
        rw [t2]
        repeat' (first | refine go1 ?_ | refine blockK_else rfl ?_ | (refine wpC_cond fun A B hA hB => ?_; simp only [go_sem, reduceIte, Nat.reduceAdd, Nat.reduceEqDiff, Nat.reduceLT, Nat.reduceLeDiff, *, cvtK_int, wpK_cvt ty5 ty3 rfl, wpK_cvt ty60 ty5 rfl, t3, t4]; first | (refine hA.out ?_; clear hA hB A B) | (refine hB.out ?_; clear hA hB A B) | (refine iteI (fun h => hA.out ?_) (fun h => hB.out ?_) <;> clear hA hB A B) | (refine iteI (fun h => hB.out ?_) (fun h => hA.out ?_) <;> clear hA hB A B)) | (refine wpO_cons fun K hK => ?_; simp only [go_sem, reduceIte, Nat.reduceAdd, Nat.reduceEqDiff, Nat.reduceLT, Nat.reduceLeDiff, *, cvtK_int, wpK_cvt ty5 ty3 rfl, wpK_cvt ty60 ty5 rfl, t3, t4]; first | (refine hK.out _ _ ?_; clear hK K) | (refine iteI (fun h => hK.out _ _ ?_) (fun h => hK.out _ _ ?_) <;> clear hK K)))
        simp only [resultsR, resultsL, resultA, expK_int, expK_bool, expK_str, expK_agg, expK_own, expK_tsl, resK_some, go_sem, reduceIte, Nat.reduceAdd, Nat.reduceEqDiff, Nat.reduceLT, Nat.reduceLeDiff, cvtK_int, wpK_cvt ty5 ty3 rfl, wpK_cvt ty60 ty5 rfl, t4]
  · have h16' : ¬ (65536 : Int) ≤ (n : Int) := by omega
    by_cases h8 : 256 ≤ n
    · have h8' : (256 : Int) ≤ (n : Int) := by omega
      obtain ⟨t1, t2, t3, t4⟩ := tail (n / 256) 8 (by omega) (by omega) (by rw [len_shift (k := 8) h8])
      have t4 : IntKind.wrap .i64 (8 + ((Go.Sort.bitsLen (n / 256) : Nat) : Int)) = ((Go.Sort.bitsLen n : Nat) : Int) := t4
      have k1 : IntKind.wrap .i64 (0 + 8) = 8 := rfl
      refine EvV.walk rfl fn58 rfl nt58 rfl ?_
      simp only [List.length_cons, List.length_nil, List.cons_append, List.nil_append, Nat.reduceAdd, Nat.reduceSub, List.replicate]
      repeat' (first | refine go1 ?_ | refine blockK_else rfl ?_ | (refine wpC_cond fun A B hA hB => ?_; simp only [go_sem, reduceIte, Nat.reduceAdd, Nat.reduceEqDiff, Nat.reduceLT, Nat.reduceLeDiff, *, cvtK_int, wpK_cvt ty5 ty3 rfl, wpK_cvt ty60 ty5 rfl, shr16, shr8]; first | (refine hA.out ?_; clear hA hB A B) | (refine hB.out ?_; clear hA hB A B) | (refine iteI (fun h => hA.out ?_) (fun h => hB.out ?_) <;> clear hA hB A B) | (refine iteI (fun h => hB.out ?_) (fun h => hA.out ?_) <;> clear hA hB A B)) | (refine wpO_cons fun K hK => ?_; simp only [go_sem, reduceIte, Nat.reduceAdd, Nat.reduceEqDiff, Nat.reduceLT, Nat.reduceLeDiff, *, cvtK_int, wpK_cvt ty5 ty3 rfl, wpK_cvt ty60 ty5 rfl, shr16, shr8]; first | (refine hK.out _ _ ?_; clear hK K) | (refine iteI (fun h => hK.out _ _ ?_) (fun h => hK.out _ _ ?_) <;> clear hK K)))
      refine wpO_cons fun K hK => ?_
      simp only [go_sem, reduceIte, Nat.reduceAdd, Nat.reduceEqDiff, Nat.reduceLT, Nat.reduceLeDiff, wpK_index, cvtK_int, wpK_cvt ty5 ty3 rfl, wpK_cvt ty60 ty5 rfl]
      refine tab_step (b := UInt8.ofNat (Go.Sort.bitsLen (n / 256))) ty9 ?_ ?_
      · have hm : n / 256 < 256 := by omega
        revert hm
        generalize n / 256 = m
        revert m
        decide +kernel
      · refine hK.out _ _ ?_
        clear hK K
        rw [t2]
        repeat' (first | refine go1 ?_ | refine blockK_else rfl ?_ | (refine wpC_cond fun A B hA hB => ?_; simp only [go_sem, reduceIte, Nat.reduceAdd, Nat.reduceEqDiff, Nat.reduceLT, Nat.reduceLeDiff, *, cvtK_int, wpK_cvt ty5 ty3 rfl, wpK_cvt ty60 ty5 rfl, t3, t4]; first | (refine hA.out ?_; clear hA hB A B) | (refine hB.out ?_; clear hA hB A B) | (refine iteI (fun h => hA.out ?_) (fun h => hB.out ?_) <;> clear hA hB A B) | (refine iteI (fun h => hB.out ?_) (fun h => hA.out ?_) <;> clear hA hB A B)) | (refine wpO_cons fun K hK => ?_; simp only [go_sem, reduceIte, Nat.reduceAdd, Nat.reduceEqDiff, Nat.reduceLT, Nat.reduceLeDiff, *, cvtK_int, wpK_cvt ty5 ty3 rfl, wpK_cvt ty60 ty5 rfl, t3, t4]; first | (refine hK.out _ _ ?_; clear hK K) | (refine iteI (fun h => hK.out _ _ ?_) (fun h => hK.out _ _ ?_) <;> clear hK K)))
        simp only [resultsR, resultsL, resultA, expK_int, expK_bool, expK_str, expK_agg, expK_own, expK_tsl, resK_some, go_sem, reduceIte, Nat.reduceAdd, Nat.reduceEqDiff, Nat.reduceLT, Nat.reduceLeDiff, cvtK_int, wpK_cvt ty5 ty3 rfl, wpK_cvt ty60 ty5 rfl, t4]
    · have h8' : ¬ (256 : Int) ≤ (n : Int) := by omega
      obtain ⟨t1, t2, t3, t4⟩ := tail n 0 (by omega) (by omega) (by omega)
      have t4 : IntKind.wrap .i64 (0 + ((Go.Sort.bitsLen n : Nat) : Int)) = ((Go.Sort.bitsLen n : Nat) : Int) := t4
      clear t4
      have t4 : IntKind.wrap .i64 (0 + ((Go.Sort.bitsLen n : Nat) : Int)) = ((Go.Sort.bitsLen n : Nat) : Int) := by rw [Int.zero_add]; exact t3
      refine EvV.walk rfl fn58 rfl nt58 rfl ?_
      simp only [List.length_cons, List.length_nil, List.cons_append, List.nil_append, Nat.reduceAdd, Nat.reduceSub, List.replicate]
      repeat' (first | refine go1 ?_ | refine blockK_else rfl ?_ | (refine wpC_cond fun A B hA hB => ?_; simp only [go_sem, reduceIte, Nat.reduceAdd, Nat.reduceEqDiff, Nat.reduceLT, Nat.reduceLeDiff, *, cvtK_int, wpK_cvt ty5 ty3 rfl, wpK_cvt ty60 ty5 rfl, shr16, shr8]; first | (refine hA.out ?_; clear hA hB A B) | (refine hB.out ?_; clear hA hB A B) | (refine iteI (fun h => hA.out ?_) (fun h => hB.out ?_) <;> clear hA hB A B) | (refine iteI (fun h => hB.out ?_) (fun h => hA.out ?_) <;> clear hA hB A B)) | (refine wpO_cons fun K hK => ?_; simp only [go_sem, reduceIte, Nat.reduceAdd, Nat.reduceEqDiff, Nat.reduceLT, Nat.reduceLeDiff, *, cvtK_int, wpK_cvt ty5 ty3 rfl, wpK_cvt ty60 ty5 rfl, shr16, shr8]; first | (refine hK.out _ _ ?_; clear hK K) | (refine iteI (fun h => hK.out _ _ ?_) (fun h => hK.out _ _ ?_) <;> clear hK K)))
      refine wpO_cons fun K hK => ?_
      simp only [go_sem, reduceIte, Nat.reduceAdd, Nat.reduceEqDiff, Nat.reduceLT, Nat.reduceLeDiff, wpK_index, cvtK_int, wpK_cvt ty5 ty3 rfl, wpK_cvt ty60 ty5 rfl]
      refine tab_step (b := UInt8.ofNat (Go.Sort.bitsLen (n))) ty9 ?_ ?_
      · have hm : n < 256 := by omega
        revert hm
        generalize n = m
        revert m
        decide +kernel
      · refine hK.out _ _ ?_
        clear hK K
        rw [t2]
        repeat' (first | refine go1 ?_ | refine blockK_else rfl ?_ | (refine wpC_cond fun A B hA hB => ?_; simp only [go_sem, reduceIte, Nat.reduceAdd, Nat.reduceEqDiff, Nat.reduceLT, Nat.reduceLeDiff, *, cvtK_int, wpK_cvt ty5 ty3 rfl, wpK_cvt ty60 ty5 rfl, t3, t4]; first | (refine hA.out ?_; clear hA hB A B) | (refine hB.out ?_; clear hA hB A B) | (refine iteI (fun h => hA.out ?_) (fun h => hB.out ?_) <;> clear hA hB A B) | (refine iteI (fun h => hB.out ?_) (fun h => hA.out ?_) <;> clear hA hB A B)) | (refine wpO_cons fun K hK => ?_; simp only [go_sem, reduceIte, Nat.reduceAdd, Nat.reduceEqDiff, Nat.reduceLT, Nat.reduceLeDiff, *, cvtK_int, wpK_cvt ty5 ty3 rfl, wpK_cvt ty60 ty5 rfl, t3, t4]; first | (refine hK.out _ _ ?_; clear hK K) | (refine iteI (fun h => hK.out _ _ ?_) (fun h => hK.out _ _ ?_) <;> clear hK K)))
        simp only [resultsR, resultsL, resultA, expK_int, expK_bool, expK_str, expK_agg, expK_own, expK_tsl, resK_some, go_sem, reduceIte, Nat.reduceAdd, Nat.reduceEqDiff, Nat.reduceLT, Nat.reduceLeDiff, cvtK_int, wpK_cvt ty5 ty3 rfl, wpK_cvt ty60 ty5 rfl, t4]

theorem lenE (n : Nat) (hn : n < 4294967296) : EvV CX 48 [.int .u64 n] (· = .int .i64 (Go.Sort.bitsLen n : Nat)) := by
  have q := (len64 n hn).rw
  refine EvV.walk rfl fn48 rfl nt48 rfl ?_
  simp only [List.length_cons, List.length_nil, List.cons_append, List.nil_append, Nat.reduceAdd, Nat.reduceSub, List.replicate]
  repeat' (first | refine go1 ?_ | refine blockK_else rfl ?_ | (refine wpC_cond fun A B hA hB => ?_; simp only [go_sem, reduceIte, Nat.reduceAdd, Nat.reduceEqDiff, Nat.reduceLT, Nat.reduceLeDiff, *, cvtK_int, wpK_cvt ty48 ty58 rfl, ]; first | (refine hA.out ?_; clear hA hB A B) | (refine hB.out ?_; clear hA hB A B) | (refine iteI (fun h => hA.out ?_) (fun h => hB.out ?_) <;> clear hA hB A B) | (refine iteI (fun h => hB.out ?_) (fun h => hA.out ?_) <;> clear hA hB A B)) | (refine wpO_cons fun K hK => ?_; simp only [go_sem, reduceIte, Nat.reduceAdd, Nat.reduceEqDiff, Nat.reduceLT, Nat.reduceLeDiff, *, cvtK_int, wpK_cvt ty48 ty58 rfl, ]; first | (refine hK.out _ _ ?_; clear hK K) | (refine iteI (fun h => hK.out _ _ ?_) (fun h => hK.out _ _ ?_) <;> clear hK K)))
  simp only [resultsR, resultsL, resultA, expK_int, expK_bool, expK_str, expK_agg, expK_own, expK_tsl, resK_some, go_sem, reduceIte, Nat.reduceAdd, Nat.reduceEqDiff, Nat.reduceLT, Nat.reduceLeDiff, cvtK_int, wpK_cvt ty48 ty58 rfl, ]

theorem shl1 {k : Nat} (h : k ≤ 40) : shiftBin .shl .u64 1 (k : Int) = some (.int .u64 ((1 <<< k : Nat) : Int)) := by
  have e : IntKind.wrap .u64 ((1 <<< k : Nat) : Int) = ((1 <<< k : Nat) : Int) := wrapU64 (by
    rw [Nat.one_shiftLeft]; exact Nat.lt_of_le_of_lt (Nat.pow_le_pow_right (by omega) h) (by decide))
  have h1 : ¬ ((k : Int) < 0) := by omega
  have h2 : min (k : Nat) 64 = k := Nat.min_eq_left (by omega)
  simp only [shiftBin, h1, if_false, Int.toNat_natCast, IntKind.bits, h2, Int.one_mul]
  rw [← e]
  congr 3
  rw [Nat.one_shiftLeft]; simp

theorem nextE (n : Nat) (hn : n < 4294967296) : EvV CX 60 [.int .i64 n] (· = .int .u64 ((1 <<< Go.Sort.bitsLen n : Nat) : Int)) := by
  have q := (lenE n hn).rw
  have w1 := wrapU64 (n := n) (by omega)
  have hk := (Go.Sort.bitsLen_le_iff n 32).2 (by omega)
  have w2 := shl1 (k := Go.Sort.bitsLen n) (by omega)
  refine EvV.walk rfl fn60 rfl nt60 rfl ?_
  simp only [List.length_cons, List.length_nil, List.cons_append, List.nil_append, Nat.reduceAdd, Nat.reduceSub, List.replicate]
  repeat' (first | refine go1 ?_ | refine blockK_else rfl ?_ | (refine wpC_cond fun A B hA hB => ?_; simp only [go_sem, reduceIte, Nat.reduceAdd, Nat.reduceEqDiff, Nat.reduceLT, Nat.reduceLeDiff, *, cvtK_int, wpK_cvt ty3 ty48 rfl, ]; first | (refine hA.out ?_; clear hA hB A B) | (refine hB.out ?_; clear hA hB A B) | (refine iteI (fun h => hA.out ?_) (fun h => hB.out ?_) <;> clear hA hB A B) | (refine iteI (fun h => hB.out ?_) (fun h => hA.out ?_) <;> clear hA hB A B)) | (refine wpO_cons fun K hK => ?_; simp only [go_sem, reduceIte, Nat.reduceAdd, Nat.reduceEqDiff, Nat.reduceLT, Nat.reduceLeDiff, *, cvtK_int, wpK_cvt ty3 ty48 rfl, ]; first | (refine hK.out _ _ ?_; clear hK K) | (refine iteI (fun h => hK.out _ _ ?_) (fun h => hK.out _ _ ?_) <;> clear hK K)))
  simp only [resultsR, resultsL, resultA, expK_int, expK_bool, expK_str, expK_agg, expK_own, expK_tsl, resK_some, go_sem, reduceIte, Nat.reduceAdd, Nat.reduceEqDiff, Nat.reduceLT, Nat.reduceLeDiff, cvtK_int, wpK_cvt ty3 ty48 rfl, ]

/- The library's sort of spans by a function as a run: bits, the stirring of a row that sorts badly. -/
open Go.Proofs
set_option maxRecDepth 20000
set_option maxHeartbeats 4000000
variable {T : List (List AV)}


theorem wrapU64m (n : Nat) : IntKind.wrap .u64 (n : Int) = ((n % 18446744073709551616 : Nat) : Int) := by
  simp [IntKind.wrap, IntKind.min, IntKind.max, IntKind.signed, IntKind.bits]
theorem shl13 (n : Nat) : shiftBin .shl .u64 (n : Int) 13 = some (.int .u64 ((n * 8192 % 18446744073709551616 : Nat) : Int)) := by
  rw [← wrapU64m]; rfl
theorem shl17 (n : Nat) : shiftBin .shl .u64 (n : Int) 17 = some (.int .u64 ((n * 131072 % 18446744073709551616 : Nat) : Int)) := by
  rw [← wrapU64m]; rfl
theorem xorN {x y : Nat} (hx : x < 18446744073709551616) (hy : y < 18446744073709551616) : IntKind.wrap .u64 (((BitVec.ofInt 64 (x : Int) ^^^ BitVec.ofInt 64 (y : Int)).toNat : Nat) : Int) = ((x ^^^ y : Nat) : Int) := by
  have e1 : (BitVec.ofInt 64 (x : Int)).toNat = x := by simp; omega
  have e2 : (BitVec.ofInt 64 (y : Int)).toNat = y := by simp; omega
  rw [BitVec.toNat_xor, e1, e2]
  exact wrapU64 (Nat.xor_lt_two_pow (n := 64) hx hy)
theorem andN {x y : Nat} (hx : x < 18446744073709551616) (hy : y < 18446744073709551616) : IntKind.wrap .u64 (((BitVec.ofInt 64 (x : Int) &&& BitVec.ofInt 64 (y : Int)).toNat : Nat) : Int) = ((x &&& y : Nat) : Int) := by
  have e1 : (BitVec.ofInt 64 (x : Int)).toNat = x := by simp; omega
  have e2 : (BitVec.ofInt 64 (y : Int)).toNat = y := by simp; omega
  rw [BitVec.toNat_and, e1, e2]
  exact wrapU64 (Nat.lt_of_le_of_lt Nat.and_le_left hx)

theorem xorB {x y : Nat} (hx : x < 18446744073709551616) (hy : y < 18446744073709551616) : IntKind.wrap .u64 (((BitVec.ofInt IntKind.u64.bits (x : Int) ^^^ BitVec.ofInt IntKind.u64.bits (y : Int)).toNat : Nat) : Int) = ((x ^^^ y : Nat) : Int) := xorN hx hy
theorem andB {x y : Nat} (hx : x < 18446744073709551616) (hy : y < 18446744073709551616) : IntKind.wrap .u64 (((BitVec.ofInt IntKind.u64.bits (x : Int) &&& BitVec.ofInt IntKind.u64.bits (y : Int)).toNat : Nat) : Int) = ((x &&& y : Nat) : Int) := andN hx hy

def SX (T : List (List AV)) (A C1 C2 : Store) (d : Array El) (w x ws : Nat) : Store := A ++ .arr (rowsD T d) 2 w true :: (C1 ++ .arr [[.int .u64 (x : Int)]] 1 ws true :: C2)

theorem nxE (A C1 C2 : Store) (d : Array El) (w x ws : Nat) (hx : x < 18446744073709551616) (hws : ws ≤ 1) :
    EvR CX 61 [.ptr (A.length + (C1.length + 1)) 1 1 0 0] (SX T A C1 C2 d w x ws)
      (fun v S => v = .int .u64 (Go.Sort.xorNextN x : Nat) ∧ S = SX T A C1 C2 d w (Go.Sort.xorNextN x) 1) := by
  unfold SX
  have z : (0 : Nat) < 1 := by omega
  obtain ⟨p, hp⟩ : ∃ p, x ^^^ (x * 8192 % 18446744073709551616) = p := ⟨_, rfl⟩
  have x1 := xorB (x := x) (y := x * 8192 % 18446744073709551616) hx (by omega)
  have hpl : p < 18446744073709551616 := by rw [← hp]; exact Nat.xor_lt_two_pow (n := 64) hx (by omega)
  obtain ⟨q, hq⟩ : ∃ q, p ^^^ (p / 128) = q := ⟨_, rfl⟩
  have x2 := xorB (x := p) (y := p / 128) hpl (by omega)
  have hql : q < 18446744073709551616 := by rw [← hq]; exact Nat.xor_lt_two_pow (n := 64) hpl (by omega)
  obtain ⟨r, hr⟩ : ∃ r, q ^^^ (q * 131072 % 18446744073709551616) = r := ⟨_, rfl⟩
  have x3 := xorB (x := q) (y := q * 131072 % 18446744073709551616) hql (by omega)
  have e : Go.Sort.xorNextN x = r := by unfold Go.Sort.xorNextN; simp only [hp, hq, hr]
  rw [e]
  rw [hp] at x1; rw [hq] at x2; rw [hr] at x3
  refine EvR.walk rfl fn61 rfl nt61 rfl ?_
  simp only [List.length_cons, List.length_nil, List.cons_append, List.nil_append, Nat.reduceAdd, Nat.reduceSub, List.replicate]
  repeat' (first | refine go1 ?_ | refine blockK_else rfl ?_ | (refine wpC_cond fun A B hA hB => ?_; simp only [beq_iff_eq, beq_eq_false_iff_ne, Int.natCast_inj, Bool.not_eq_false', op1_go, wpK_box, wpK_alloc, wpK_load, wpK_store, wpK_binOp, wpK_unOp, wpK_fieldAddr, wpK_field, wpK_build, wpK_indexAddr, wpK_slice, wpK_len, wpK_extract, wpK_nilCheck, wpK_pick, wpK_makeFunc, wpK_call, wpK_callT, wpK_max, wpK_min, wpK_assignT, wpK_moveT, wpK_assignB, wpK_moveB, wpK_assignI, wpK_moveI, wpK_assignA, wpK_moveA, callK_fn, snapL_nil, snapL_cons, snap_int, snap_bool, snap_str, snap_tsl, snap_agg, snap_fn, snap_flat, adopt_int, adopt_bool, adopt_str, adopt_agg, adopt_osl, adopt_tsl, adopt_tup, op1_guard, grdK_bool, grdK_undef, condK_bool, someK_some, pairK_some, nilK_ptr, nilK_tptr, boxK, storeK, evalA_tmp, evalA_int, evalA_bool, evalA_agg, evalA_fn, evalA_nil, ofC_int, ofC_bool, getA_zero, getA_succ, cells_int, cells_agg, cells_bool, cells_sl, cells_tsl, cell_int, cell_bool, cell_str, cell_sl, cell_esl, cell_tsl, cell_ptr, cell_tptr, cell_fn, cell_nils, cell_nilf, List.all_cons, List.all_nil, Bool.and_true, Bool.and_self, Bool.true_and, putA_some, putA_none, List.set_cons_zero, List.set_cons_succ, List.length_cons, List.length_nil, List.nil_append, List.cons_append, stabL, AV.stab, fieldAddrA, fieldA, List.getElem?_cons_zero, List.getElem?_cons_succ, Nat.zero_add, loadA, rowOf, Nat.le_refl, and_self, true_and, and_true, partA, binA, unA, intBin, eqBin, eqCells, eqCell, Option.bind_some, decide_true, decide_false, decide_eq_true_eq, ite_not, Bool.not_eq_true', decide_eq_false_iff_not, Bool.false_eq_true, Option.map_some, Option.map_none, Bool.not_true, Bool.not_false, buildA, fillA, patch, List.take, List.drop, List.map_cons, List.map_nil, extK, List.getD_cons_zero, List.getD_cons_succ, minmaxA, minmaxGo, adoptZ_false, adoptZ_true, freeze_int, freeze_bool, freeze_str, freeze_flat, freeze_agg, freeze_osl, freeze_tsl, freeze_tup, frz1_bool, frz1_int, frz1_str, frz1_agg, frz1_osl, frz1_tsl, bne, Bool.false_and, Bool.and_false, ne_eq, not_true_eq_false, not_false_eq_true, List.append_nil, reduceIte, Nat.reduceAdd, Nat.reduceEqDiff, Nat.reduceLT, Nat.reduceLeDiff, *, ty60, ty61, ty67, getElem?_lenAdd, set_lenAdd, List.getElem?_cons_succ, List.set_cons_succ, getElem?_len, set_len, shl13, shl17, shr7]; first | (refine hA.out ?_; clear hA hB A B) | (refine hB.out ?_; clear hA hB A B) | (refine iteI (fun h => hA.out ?_) (fun h => hB.out ?_) <;> clear hA hB A B) | (refine iteI (fun h => hB.out ?_) (fun h => hA.out ?_) <;> clear hA hB A B)) | (refine wpO_cons fun K hK => ?_; simp only [beq_iff_eq, beq_eq_false_iff_ne, Int.natCast_inj, Bool.not_eq_false', op1_go, wpK_box, wpK_alloc, wpK_load, wpK_store, wpK_binOp, wpK_unOp, wpK_fieldAddr, wpK_field, wpK_build, wpK_indexAddr, wpK_slice, wpK_len, wpK_extract, wpK_nilCheck, wpK_pick, wpK_makeFunc, wpK_call, wpK_callT, wpK_max, wpK_min, wpK_assignT, wpK_moveT, wpK_assignB, wpK_moveB, wpK_assignI, wpK_moveI, wpK_assignA, wpK_moveA, callK_fn, snapL_nil, snapL_cons, snap_int, snap_bool, snap_str, snap_tsl, snap_agg, snap_fn, snap_flat, adopt_int, adopt_bool, adopt_str, adopt_agg, adopt_osl, adopt_tsl, adopt_tup, op1_guard, grdK_bool, grdK_undef, condK_bool, someK_some, pairK_some, nilK_ptr, nilK_tptr, boxK, storeK, evalA_tmp, evalA_int, evalA_bool, evalA_agg, evalA_fn, evalA_nil, ofC_int, ofC_bool, getA_zero, getA_succ, cells_int, cells_agg, cells_bool, cells_sl, cells_tsl, cell_int, cell_bool, cell_str, cell_sl, cell_esl, cell_tsl, cell_ptr, cell_tptr, cell_fn, cell_nils, cell_nilf, List.all_cons, List.all_nil, Bool.and_true, Bool.and_self, Bool.true_and, putA_some, putA_none, List.set_cons_zero, List.set_cons_succ, List.length_cons, List.length_nil, List.nil_append, List.cons_append, stabL, AV.stab, fieldAddrA, fieldA, List.getElem?_cons_zero, List.getElem?_cons_succ, Nat.zero_add, loadA, rowOf, Nat.le_refl, and_self, true_and, and_true, partA, binA, unA, intBin, eqBin, eqCells, eqCell, Option.bind_some, decide_true, decide_false, decide_eq_true_eq, ite_not, Bool.not_eq_true', decide_eq_false_iff_not, Bool.false_eq_true, Option.map_some, Option.map_none, Bool.not_true, Bool.not_false, buildA, fillA, patch, List.take, List.drop, List.map_cons, List.map_nil, extK, List.getD_cons_zero, List.getD_cons_succ, minmaxA, minmaxGo, adoptZ_false, adoptZ_true, freeze_int, freeze_bool, freeze_str, freeze_flat, freeze_agg, freeze_osl, freeze_tsl, freeze_tup, frz1_bool, frz1_int, frz1_str, frz1_agg, frz1_osl, frz1_tsl, bne, Bool.false_and, Bool.and_false, ne_eq, not_true_eq_false, not_false_eq_true, List.append_nil, reduceIte, Nat.reduceAdd, Nat.reduceEqDiff, Nat.reduceLT, Nat.reduceLeDiff, *, ty60, ty61, ty67, getElem?_lenAdd, set_lenAdd, List.getElem?_cons_succ, List.set_cons_succ, getElem?_len, set_len, shl13, shl17, shr7]; first | (refine hK.out _ _ ?_; clear hK K) | (refine iteI (fun h => hK.out _ _ ?_) (fun h => hK.out _ _ ?_) <;> clear hK K)))
  simp only [resultsR, resultsL, resultA, expK_int, expK_bool, expK_str, expK_agg, expK_own, expK_tsl, resK_some, beq_iff_eq, beq_eq_false_iff_ne, Int.natCast_inj, Bool.not_eq_false', op1_go, wpK_box, wpK_alloc, wpK_load, wpK_store, wpK_binOp, wpK_unOp, wpK_fieldAddr, wpK_field, wpK_build, wpK_indexAddr, wpK_slice, wpK_len, wpK_extract, wpK_nilCheck, wpK_pick, wpK_makeFunc, wpK_call, wpK_callT, wpK_max, wpK_min, wpK_assignT, wpK_moveT, wpK_assignB, wpK_moveB, wpK_assignI, wpK_moveI, wpK_assignA, wpK_moveA, callK_fn, snapL_nil, snapL_cons, snap_int, snap_bool, snap_str, snap_tsl, snap_agg, snap_fn, snap_flat, adopt_int, adopt_bool, adopt_str, adopt_agg, adopt_osl, adopt_tsl, adopt_tup, op1_guard, grdK_bool, grdK_undef, condK_bool, someK_some, pairK_some, nilK_ptr, nilK_tptr, boxK, storeK, evalA_tmp, evalA_int, evalA_bool, evalA_agg, evalA_fn, evalA_nil, ofC_int, ofC_bool, getA_zero, getA_succ, cells_int, cells_agg, cells_bool, cells_sl, cells_tsl, cell_int, cell_bool, cell_str, cell_sl, cell_esl, cell_tsl, cell_ptr, cell_tptr, cell_fn, cell_nils, cell_nilf, List.all_cons, List.all_nil, Bool.and_true, Bool.and_self, Bool.true_and, putA_some, putA_none, List.set_cons_zero, List.set_cons_succ, List.length_cons, List.length_nil, List.nil_append, List.cons_append, stabL, AV.stab, fieldAddrA, fieldA, List.getElem?_cons_zero, List.getElem?_cons_succ, Nat.zero_add, loadA, rowOf, Nat.le_refl, and_self, true_and, and_true, partA, binA, unA, intBin, eqBin, eqCells, eqCell, Option.bind_some, decide_true, decide_false, decide_eq_true_eq, ite_not, Bool.not_eq_true', decide_eq_false_iff_not, Bool.false_eq_true, Option.map_some, Option.map_none, Bool.not_true, Bool.not_false, buildA, fillA, patch, List.take, List.drop, List.map_cons, List.map_nil, extK, List.getD_cons_zero, List.getD_cons_succ, minmaxA, minmaxGo, adoptZ_false, adoptZ_true, freeze_int, freeze_bool, freeze_str, freeze_flat, freeze_agg, freeze_osl, freeze_tsl, freeze_tup, frz1_bool, frz1_int, frz1_str, frz1_agg, frz1_osl, frz1_tsl, bne, Bool.false_and, Bool.and_false, ne_eq, not_true_eq_false, not_false_eq_true, List.append_nil, reduceIte, Nat.reduceAdd, Nat.reduceEqDiff, Nat.reduceLT, Nat.reduceLeDiff, ty60, ty61, ty67, ]

def stir (a L M : Nat) : Nat → Nat → UInt64 × Array El → UInt64 × Array El
  | 0, _, st => st
  | k + 1, idx, st => stir a L M k (idx + 1) (Go.Sort.breakStep a L M st idx)

theorem breakE (A C : Store) (d : Array El) (n w a b : Nat) (hn : d.size = n) (hw : w ≤ n + T.length) (hab : a < b) (hb : b ≤ n) (hsm : n < 4294967296) :
    EvR CX 51 [.sl A.length (n + T.length) 0 n 2, .int .i64 a, .int .i64 b, cmpV] (A ++ .arr (rowsD T d) 2 w true :: C) (fun v S => v = .tup [] ∧ Left T A C n (Go.Sort.breakPatterns d a b) S) := by
  have q1 : IntKind.wrap .i64 ((b : Int) - (a : Int)) = ((b - a : Nat) : Int) := by rw [wrap_small (by omega) (by omega)]; omega
  by_cases h8 : b - a ≥ 8
  · have h8' : (8 : Int) ≤ ((b - a : Nat) : Int) := by omega
    obtain ⟨L, hL⟩ : ∃ L, b - a = L := ⟨_, rfl⟩
    rw [hL] at h8 h8' q1
    have q2 : IntKind.wrap .i64 ((L : Int).tdiv 4) = ((L / 4 : Nat) : Int) := by rw [Int.tdiv_eq_ediv_of_nonneg (by omega), wrap_small (by omega) (by omega)]; omega
    have q4 : IntKind.wrap .i64 (((L / 4 : Nat) : Int) * 2) = ((L / 4 * 2 : Nat) : Int) := by rw [wrap_small (by omega) (by omega)]; omega
    have q5 : IntKind.wrap .i64 ((a : Int) + ((L / 4 * 2 : Nat) : Int)) = ((a + L / 4 * 2 : Nat) : Int) := by rw [wrap_small (by omega) (by omega)]; omega
    have q6 : IntKind.wrap .i64 (((a + L / 4 * 2 : Nat) : Int) - 1) = ((a + L / 4 * 2 - 1 : Nat) : Int) := by rw [wrap_small (by omega) (by omega)]; omega
    have q7 := wrap_succ (n := a + L / 4 * 2) (by omega)
    have q8 := wrapU64 (n := L) (by omega)
    have q9 : ¬ (4 : Int) = 0 := by omega
    have z : (0 : Nat) < 1 := by omega
    obtain ⟨M, hM⟩ : ∃ M, 1 <<< Go.Sort.bitsLen L = M := ⟨_, rfl⟩
    have qn := (nextE L (by omega)).rw
    rw [hM] at qn
    have hM1 : M ≤ 2 * L := by rw [← hM, Nat.one_shiftLeft]; exact Go.Sort.two_pow_bitsLen_le (by omega)
    have hM0 : 0 < M := by rw [← hM, Nat.one_shiftLeft]; exact Nat.two_pow_pos _
    have q10 : IntKind.wrap .u64 ((M : Int) - 1) = ((M - 1 : Nat) : Int) := by
      rw [← wrapU64 (n := M - 1) (by omega)]; congr 1; omega
    have hB : Go.Sort.breakPatterns d a b = (stir a L M 3 (a + L / 4 * 2 - 1) (UInt64.ofNat L, d)).2 := by
      unfold Go.Sort.breakPatterns
      simp only [hL]
      rw [if_pos h8, hM]
      rfl
    rw [hB]
    obtain ⟨R, hR⟩ : ∃ R, stir a L M 3 (a + L / 4 * 2 - 1) (UInt64.ofNat L, d) = R := ⟨_, rfl⟩
    rw [hR]
    refine EvR.walk rfl fn51 rfl nt51 rfl ?_
    simp only [List.length_cons, List.length_nil, List.cons_append, List.nil_append, Nat.reduceAdd, Nat.reduceSub, List.replicate]
    repeat' (first | refine go1 ?_ | refine blockK_else rfl ?_ | (refine wpC_cond fun A B hA hB => ?_; simp only [beq_iff_eq, beq_eq_false_iff_ne, Int.natCast_inj, Bool.not_eq_false', op1_go, wpK_box, wpK_alloc, wpK_load, wpK_store, wpK_binOp, wpK_unOp, wpK_fieldAddr, wpK_field, wpK_build, wpK_indexAddr, wpK_slice, wpK_len, wpK_extract, wpK_nilCheck, wpK_pick, wpK_makeFunc, wpK_call, wpK_callT, wpK_max, wpK_min, wpK_assignT, wpK_moveT, wpK_assignB, wpK_moveB, wpK_assignI, wpK_moveI, wpK_assignA, wpK_moveA, callK_fn, snapL_nil, snapL_cons, snap_int, snap_bool, snap_str, snap_tsl, snap_agg, snap_fn, snap_flat, adopt_int, adopt_bool, adopt_str, adopt_agg, adopt_osl, adopt_tsl, adopt_tup, op1_guard, grdK_bool, grdK_undef, condK_bool, someK_some, pairK_some, nilK_ptr, nilK_tptr, boxK, storeK, evalA_tmp, evalA_int, evalA_bool, evalA_agg, evalA_fn, evalA_nil, ofC_int, ofC_bool, getA_zero, getA_succ, cells_int, cells_agg, cells_bool, cells_sl, cells_tsl, cell_int, cell_bool, cell_str, cell_sl, cell_esl, cell_tsl, cell_ptr, cell_tptr, cell_fn, cell_nils, cell_nilf, List.all_cons, List.all_nil, Bool.and_true, Bool.and_self, Bool.true_and, putA_some, putA_none, List.set_cons_zero, List.set_cons_succ, List.length_cons, List.length_nil, List.nil_append, List.cons_append, stabL, AV.stab, fieldAddrA, fieldA, List.getElem?_cons_zero, List.getElem?_cons_succ, Nat.zero_add, loadA, rowOf, Nat.le_refl, and_self, true_and, and_true, partA, binA, unA, intBin, eqBin, eqCells, eqCell, Option.bind_some, decide_true, decide_false, decide_eq_true_eq, ite_not, Bool.not_eq_true', decide_eq_false_iff_not, Bool.false_eq_true, Option.map_some, Option.map_none, Bool.not_true, Bool.not_false, buildA, fillA, patch, List.take, List.drop, List.map_cons, List.map_nil, extK, List.getD_cons_zero, List.getD_cons_succ, minmaxA, minmaxGo, adoptZ_false, adoptZ_true, freeze_int, freeze_bool, freeze_str, freeze_flat, freeze_agg, freeze_osl, freeze_tsl, freeze_tup, frz1_bool, frz1_int, frz1_str, frz1_agg, frz1_osl, frz1_tsl, bne, Bool.false_and, Bool.and_false, ne_eq, not_true_eq_false, not_false_eq_true, List.append_nil, reduceIte, Nat.reduceAdd, Nat.reduceEqDiff, Nat.reduceLT, Nat.reduceLeDiff, *, ty3, ty4, ty23, ty30, ty48, ty60, ty61, eq23, br60, br61, allocK, cvtK_int, fz93, fz94, wpK_cvt ty3 ty61 rfl, wpK_cvt ty48 ty3 rfl, List.length_append, List.append_assoc, getElem?_lenAdd, set_lenAdd, List.getElem?_cons_succ, List.set_cons_succ, getElem?_len, set_len]; first | (refine hA.out ?_; clear hA hB A B) | (refine hB.out ?_; clear hA hB A B) | (refine iteI (fun h => hA.out ?_) (fun h => hB.out ?_) <;> clear hA hB A B) | (refine iteI (fun h => hB.out ?_) (fun h => hA.out ?_) <;> clear hA hB A B)) | (refine wpO_cons fun K hK => ?_; simp only [beq_iff_eq, beq_eq_false_iff_ne, Int.natCast_inj, Bool.not_eq_false', op1_go, wpK_box, wpK_alloc, wpK_load, wpK_store, wpK_binOp, wpK_unOp, wpK_fieldAddr, wpK_field, wpK_build, wpK_indexAddr, wpK_slice, wpK_len, wpK_extract, wpK_nilCheck, wpK_pick, wpK_makeFunc, wpK_call, wpK_callT, wpK_max, wpK_min, wpK_assignT, wpK_moveT, wpK_assignB, wpK_moveB, wpK_assignI, wpK_moveI, wpK_assignA, wpK_moveA, callK_fn, snapL_nil, snapL_cons, snap_int, snap_bool, snap_str, snap_tsl, snap_agg, snap_fn, snap_flat, adopt_int, adopt_bool, adopt_str, adopt_agg, adopt_osl, adopt_tsl, adopt_tup, op1_guard, grdK_bool, grdK_undef, condK_bool, someK_some, pairK_some, nilK_ptr, nilK_tptr, boxK, storeK, evalA_tmp, evalA_int, evalA_bool, evalA_agg, evalA_fn, evalA_nil, ofC_int, ofC_bool, getA_zero, getA_succ, cells_int, cells_agg, cells_bool, cells_sl, cells_tsl, cell_int, cell_bool, cell_str, cell_sl, cell_esl, cell_tsl, cell_ptr, cell_tptr, cell_fn, cell_nils, cell_nilf, List.all_cons, List.all_nil, Bool.and_true, Bool.and_self, Bool.true_and, putA_some, putA_none, List.set_cons_zero, List.set_cons_succ, List.length_cons, List.length_nil, List.nil_append, List.cons_append, stabL, AV.stab, fieldAddrA, fieldA, List.getElem?_cons_zero, List.getElem?_cons_succ, Nat.zero_add, loadA, rowOf, Nat.le_refl, and_self, true_and, and_true, partA, binA, unA, intBin, eqBin, eqCells, eqCell, Option.bind_some, decide_true, decide_false, decide_eq_true_eq, ite_not, Bool.not_eq_true', decide_eq_false_iff_not, Bool.false_eq_true, Option.map_some, Option.map_none, Bool.not_true, Bool.not_false, buildA, fillA, patch, List.take, List.drop, List.map_cons, List.map_nil, extK, List.getD_cons_zero, List.getD_cons_succ, minmaxA, minmaxGo, adoptZ_false, adoptZ_true, freeze_int, freeze_bool, freeze_str, freeze_flat, freeze_agg, freeze_osl, freeze_tsl, freeze_tup, frz1_bool, frz1_int, frz1_str, frz1_agg, frz1_osl, frz1_tsl, bne, Bool.false_and, Bool.and_false, ne_eq, not_true_eq_false, not_false_eq_true, List.append_nil, reduceIte, Nat.reduceAdd, Nat.reduceEqDiff, Nat.reduceLT, Nat.reduceLeDiff, *, ty3, ty4, ty23, ty30, ty48, ty60, ty61, eq23, br60, br61, allocK, cvtK_int, fz93, fz94, wpK_cvt ty3 ty61 rfl, wpK_cvt ty48 ty3 rfl, List.length_append, List.append_assoc, getElem?_lenAdd, set_lenAdd, List.getElem?_cons_succ, List.set_cons_succ, getElem?_len, set_len]; first | (refine hK.out _ _ ?_; clear hK K) | (refine iteI (fun h => hK.out _ _ ?_) (fun h => hK.out _ _ ?_) <;> clear hK K)))
    obtain ⟨I, hI⟩ : ∃ I, a + L / 4 * 2 - 1 = I := ⟨_, rfl⟩
    rw [hI] at hR ⊢
    refine wpC_loopF [12, 28, 29, 30, 31, 32, 33, 34, 35, 36, 37, 38, 39, 40, 41, 42, 43, 44, 45, 46, 47, 48, 49, 50, 51, 52, 53, 54, 55, 56, 57, 58, 59, 60, 61, 62, 63, 64, 65, 66] (fun p : Nat × Nat × UInt64 × Array El × Nat × Nat => [(11, .int .i64 p.2.1)]) (fun p H => SX T A C H p.2.2.2.1 p.2.2.2.2.1 p.2.2.1.toNat p.2.2.2.2.2)
      (fun p => p.2.2.2.1.size = n ∧ p.2.2.2.2.1 ≤ n + T.length ∧ p.2.2.2.2.2 ≤ 1 ∧ p.2.1 + p.1 = a + L / 4 * 2 + 2 ∧ p.1 ≤ 3 ∧ stir a L M p.1 p.2.1 (p.2.2.1, p.2.2.2.1) = R) (fun p => p.1) (3, I, UInt64.ofNat L, d, w, 1) ⟨hn, hw, Nat.le_refl _, by simp only; omega, Nat.le_refl _, hR⟩ ?_ ?_ ?_
    · rfl
    · refine ⟨[], ?_⟩
      have e : (UInt64.ofNat L).toNat = L := by simp; omega
      simp only [SX, e]
    clear hR hI hn hw w hB q6
    rintro ⟨k, idx, r, d1, w, ws⟩ g G ⟨hn, hw, hws, hix, hk, hR⟩
    simp only at hn hw hws hix hk hR
    unfold SX
    simp only [garbA_cons, garbA_nil, setL_cons, setL_nil, List.set_cons_zero, List.set_cons_succ]
    cases k with
    | zero =>
      have h1 : ¬ (idx : Int) ≤ ((a + L / 4 * 2 + 1 : Nat) : Int) := by omega
      simp only [stir] at hR
      subst hR
      repeat' (first | refine go1 ?_ | refine blockK_else rfl ?_ | (refine wpC_cond fun A B hA hB => ?_; simp only [beq_iff_eq, beq_eq_false_iff_ne, Int.natCast_inj, Bool.not_eq_false', op1_go, wpK_box, wpK_alloc, wpK_load, wpK_store, wpK_binOp, wpK_unOp, wpK_fieldAddr, wpK_field, wpK_build, wpK_indexAddr, wpK_slice, wpK_len, wpK_extract, wpK_nilCheck, wpK_pick, wpK_makeFunc, wpK_call, wpK_callT, wpK_max, wpK_min, wpK_assignT, wpK_moveT, wpK_assignB, wpK_moveB, wpK_assignI, wpK_moveI, wpK_assignA, wpK_moveA, callK_fn, snapL_nil, snapL_cons, snap_int, snap_bool, snap_str, snap_tsl, snap_agg, snap_fn, snap_flat, adopt_int, adopt_bool, adopt_str, adopt_agg, adopt_osl, adopt_tsl, adopt_tup, op1_guard, grdK_bool, grdK_undef, condK_bool, someK_some, pairK_some, nilK_ptr, nilK_tptr, boxK, storeK, evalA_tmp, evalA_int, evalA_bool, evalA_agg, evalA_fn, evalA_nil, ofC_int, ofC_bool, getA_zero, getA_succ, cells_int, cells_agg, cells_bool, cells_sl, cells_tsl, cell_int, cell_bool, cell_str, cell_sl, cell_esl, cell_tsl, cell_ptr, cell_tptr, cell_fn, cell_nils, cell_nilf, List.all_cons, List.all_nil, Bool.and_true, Bool.and_self, Bool.true_and, putA_some, putA_none, List.set_cons_zero, List.set_cons_succ, List.length_cons, List.length_nil, List.nil_append, List.cons_append, stabL, AV.stab, fieldAddrA, fieldA, List.getElem?_cons_zero, List.getElem?_cons_succ, Nat.zero_add, loadA, rowOf, Nat.le_refl, and_self, true_and, and_true, partA, binA, unA, intBin, eqBin, eqCells, eqCell, Option.bind_some, decide_true, decide_false, decide_eq_true_eq, ite_not, Bool.not_eq_true', decide_eq_false_iff_not, Bool.false_eq_true, Option.map_some, Option.map_none, Bool.not_true, Bool.not_false, buildA, fillA, patch, List.take, List.drop, List.map_cons, List.map_nil, extK, List.getD_cons_zero, List.getD_cons_succ, minmaxA, minmaxGo, adoptZ_false, adoptZ_true, freeze_int, freeze_bool, freeze_str, freeze_flat, freeze_agg, freeze_osl, freeze_tsl, freeze_tup, frz1_bool, frz1_int, frz1_str, frz1_agg, frz1_osl, frz1_tsl, bne, Bool.false_and, Bool.and_false, ne_eq, not_true_eq_false, not_false_eq_true, List.append_nil, reduceIte, Nat.reduceAdd, Nat.reduceEqDiff, Nat.reduceLT, Nat.reduceLeDiff, *, ty3, ty4, ty23, ty30, ty48, ty60, ty61, eq23, br60, br61, allocK, cvtK_int, fz93, fz94, wpK_cvt ty3 ty61 rfl, wpK_cvt ty48 ty3 rfl, ]; first | (refine hA.out ?_; clear hA hB A B) | (refine hB.out ?_; clear hA hB A B) | (refine iteI (fun h => hA.out ?_) (fun h => hB.out ?_) <;> clear hA hB A B) | (refine iteI (fun h => hB.out ?_) (fun h => hA.out ?_) <;> clear hA hB A B)) | (refine wpO_cons fun K hK => ?_; simp only [beq_iff_eq, beq_eq_false_iff_ne, Int.natCast_inj, Bool.not_eq_false', op1_go, wpK_box, wpK_alloc, wpK_load, wpK_store, wpK_binOp, wpK_unOp, wpK_fieldAddr, wpK_field, wpK_build, wpK_indexAddr, wpK_slice, wpK_len, wpK_extract, wpK_nilCheck, wpK_pick, wpK_makeFunc, wpK_call, wpK_callT, wpK_max, wpK_min, wpK_assignT, wpK_moveT, wpK_assignB, wpK_moveB, wpK_assignI, wpK_moveI, wpK_assignA, wpK_moveA, callK_fn, snapL_nil, snapL_cons, snap_int, snap_bool, snap_str, snap_tsl, snap_agg, snap_fn, snap_flat, adopt_int, adopt_bool, adopt_str, adopt_agg, adopt_osl, adopt_tsl, adopt_tup, op1_guard, grdK_bool, grdK_undef, condK_bool, someK_some, pairK_some, nilK_ptr, nilK_tptr, boxK, storeK, evalA_tmp, evalA_int, evalA_bool, evalA_agg, evalA_fn, evalA_nil, ofC_int, ofC_bool, getA_zero, getA_succ, cells_int, cells_agg, cells_bool, cells_sl, cells_tsl, cell_int, cell_bool, cell_str, cell_sl, cell_esl, cell_tsl, cell_ptr, cell_tptr, cell_fn, cell_nils, cell_nilf, List.all_cons, List.all_nil, Bool.and_true, Bool.and_self, Bool.true_and, putA_some, putA_none, List.set_cons_zero, List.set_cons_succ, List.length_cons, List.length_nil, List.nil_append, List.cons_append, stabL, AV.stab, fieldAddrA, fieldA, List.getElem?_cons_zero, List.getElem?_cons_succ, Nat.zero_add, loadA, rowOf, Nat.le_refl, and_self, true_and, and_true, partA, binA, unA, intBin, eqBin, eqCells, eqCell, Option.bind_some, decide_true, decide_false, decide_eq_true_eq, ite_not, Bool.not_eq_true', decide_eq_false_iff_not, Bool.false_eq_true, Option.map_some, Option.map_none, Bool.not_true, Bool.not_false, buildA, fillA, patch, List.take, List.drop, List.map_cons, List.map_nil, extK, List.getD_cons_zero, List.getD_cons_succ, minmaxA, minmaxGo, adoptZ_false, adoptZ_true, freeze_int, freeze_bool, freeze_str, freeze_flat, freeze_agg, freeze_osl, freeze_tsl, freeze_tup, frz1_bool, frz1_int, frz1_str, frz1_agg, frz1_osl, frz1_tsl, bne, Bool.false_and, Bool.and_false, ne_eq, not_true_eq_false, not_false_eq_true, List.append_nil, reduceIte, Nat.reduceAdd, Nat.reduceEqDiff, Nat.reduceLT, Nat.reduceLeDiff, *, ty3, ty4, ty23, ty30, ty48, ty60, ty61, eq23, br60, br61, allocK, cvtK_int, fz93, fz94, wpK_cvt ty3 ty61 rfl, wpK_cvt ty48 ty3 rfl, ]; first | (refine hK.out _ _ ?_; clear hK K) | (refine iteI (fun h => hK.out _ _ ?_) (fun h => hK.out _ _ ?_) <;> clear hK K)))
      simp only [resultsR, resultsL, resultA, expK_int, expK_bool, expK_str, expK_agg, expK_own, expK_tsl, resK_some, beq_iff_eq, beq_eq_false_iff_ne, Int.natCast_inj, Bool.not_eq_false', op1_go, wpK_box, wpK_alloc, wpK_load, wpK_store, wpK_binOp, wpK_unOp, wpK_fieldAddr, wpK_field, wpK_build, wpK_indexAddr, wpK_slice, wpK_len, wpK_extract, wpK_nilCheck, wpK_pick, wpK_makeFunc, wpK_call, wpK_callT, wpK_max, wpK_min, wpK_assignT, wpK_moveT, wpK_assignB, wpK_moveB, wpK_assignI, wpK_moveI, wpK_assignA, wpK_moveA, callK_fn, snapL_nil, snapL_cons, snap_int, snap_bool, snap_str, snap_tsl, snap_agg, snap_fn, snap_flat, adopt_int, adopt_bool, adopt_str, adopt_agg, adopt_osl, adopt_tsl, adopt_tup, op1_guard, grdK_bool, grdK_undef, condK_bool, someK_some, pairK_some, nilK_ptr, nilK_tptr, boxK, storeK, evalA_tmp, evalA_int, evalA_bool, evalA_agg, evalA_fn, evalA_nil, ofC_int, ofC_bool, getA_zero, getA_succ, cells_int, cells_agg, cells_bool, cells_sl, cells_tsl, cell_int, cell_bool, cell_str, cell_sl, cell_esl, cell_tsl, cell_ptr, cell_tptr, cell_fn, cell_nils, cell_nilf, List.all_cons, List.all_nil, Bool.and_true, Bool.and_self, Bool.true_and, putA_some, putA_none, List.set_cons_zero, List.set_cons_succ, List.length_cons, List.length_nil, List.nil_append, List.cons_append, stabL, AV.stab, fieldAddrA, fieldA, List.getElem?_cons_zero, List.getElem?_cons_succ, Nat.zero_add, loadA, rowOf, Nat.le_refl, and_self, true_and, and_true, partA, binA, unA, intBin, eqBin, eqCells, eqCell, Option.bind_some, decide_true, decide_false, decide_eq_true_eq, ite_not, Bool.not_eq_true', decide_eq_false_iff_not, Bool.false_eq_true, Option.map_some, Option.map_none, Bool.not_true, Bool.not_false, buildA, fillA, patch, List.take, List.drop, List.map_cons, List.map_nil, extK, List.getD_cons_zero, List.getD_cons_succ, minmaxA, minmaxGo, adoptZ_false, adoptZ_true, freeze_int, freeze_bool, freeze_str, freeze_flat, freeze_agg, freeze_osl, freeze_tsl, freeze_tup, frz1_bool, frz1_int, frz1_str, frz1_agg, frz1_osl, frz1_tsl, bne, Bool.false_and, Bool.and_false, ne_eq, not_true_eq_false, not_false_eq_true, List.append_nil, reduceIte, Nat.reduceAdd, Nat.reduceEqDiff, Nat.reduceLT, Nat.reduceLeDiff, ty3, ty4, ty23, ty30, ty48, ty60, ty61, eq23, br60, br61, allocK, cvtK_int, fz93, fz94, wpK_cvt ty3 ty61 rfl, wpK_cvt ty48 ty3 rfl, ]
      exact ⟨hn, w, _, hw, rfl⟩
    | succ k =>
      have h1 : (idx : Int) ≤ ((a + L / 4 * 2 + 1 : Nat) : Int) := by omega
      have hrl : r.toNat < 18446744073709551616 := r.toNat_lt
      obtain ⟨r', hr'⟩ : ∃ r', Go.Sort.xorNext r = r' := ⟨_, rfl⟩
      have hx : Go.Sort.xorNextN r.toNat = r'.toNat := by rw [← Go.Sort.xorNext_toNat, hr']
      have hrl' : r'.toNat < 18446744073709551616 := r'.toNat_lt
      obtain ⟨o, ho⟩ : ∃ o, r'.toNat &&& (M - 1) = o := ⟨_, rfl⟩
      have hol : o ≤ M - 1 := by rw [← ho]; exact Nat.and_le_right
      have a1 := andB (x := r'.toNat) (y := M - 1) hrl' (by omega)
      rw [ho] at a1
      have a2 := wrap_small (n := (o : Int)) (by omega) (by omega)
      have w2 := wrap_succ (n := idx) (by omega)
      simp only [stir, Go.Sort.breakStep, hr', ho] at hR
      obtain ⟨t, ht⟩ : ∃ t, (if o ≥ L then o - L else o) = t := ⟨_, rfl⟩
      rw [ht] at hR
      have htl : t < L := by rw [← ht]; split <;> omega
      have a3 : IntKind.wrap .i64 ((a : Int) + (t : Int)) = ((a + t : Nat) : Int) := by rw [wrap_small (by omega) (by omega)]; omega
      have i1 : a + t < n := by omega
      have i2 : idx < n := by omega
      repeat' (first | refine go1 ?_ | refine blockK_else rfl ?_ | (refine wpO_cons fun K hK => ?_; simp only [beq_iff_eq, beq_eq_false_iff_ne, Int.natCast_inj, Bool.not_eq_false', op1_go, wpK_box, wpK_alloc, wpK_load, wpK_store, wpK_binOp, wpK_unOp, wpK_fieldAddr, wpK_field, wpK_build, wpK_indexAddr, wpK_slice, wpK_len, wpK_extract, wpK_nilCheck, wpK_pick, wpK_makeFunc, wpK_call, wpK_callT, wpK_max, wpK_min, wpK_assignT, wpK_moveT, wpK_assignB, wpK_moveB, wpK_assignI, wpK_moveI, wpK_assignA, wpK_moveA, callK_fn, snapL_nil, snapL_cons, snap_int, snap_bool, snap_str, snap_tsl, snap_agg, snap_fn, snap_flat, adopt_int, adopt_bool, adopt_str, adopt_agg, adopt_osl, adopt_tsl, adopt_tup, op1_guard, grdK_bool, grdK_undef, condK_bool, someK_some, pairK_some, nilK_ptr, nilK_tptr, boxK, storeK, evalA_tmp, evalA_int, evalA_bool, evalA_agg, evalA_fn, evalA_nil, ofC_int, ofC_bool, getA_zero, getA_succ, cells_int, cells_agg, cells_bool, cells_sl, cells_tsl, cell_int, cell_bool, cell_str, cell_sl, cell_esl, cell_tsl, cell_ptr, cell_tptr, cell_fn, cell_nils, cell_nilf, List.all_cons, List.all_nil, Bool.and_true, Bool.and_self, Bool.true_and, putA_some, putA_none, List.set_cons_zero, List.set_cons_succ, List.length_cons, List.length_nil, List.nil_append, List.cons_append, stabL, AV.stab, fieldAddrA, fieldA, List.getElem?_cons_zero, List.getElem?_cons_succ, Nat.zero_add, loadA, rowOf, Nat.le_refl, and_self, true_and, and_true, partA, binA, unA, intBin, eqBin, eqCells, eqCell, Option.bind_some, decide_true, decide_false, decide_eq_true_eq, ite_not, Bool.not_eq_true', decide_eq_false_iff_not, Bool.false_eq_true, Option.map_some, Option.map_none, Bool.not_true, Bool.not_false, buildA, fillA, patch, List.take, List.drop, List.map_cons, List.map_nil, extK, List.getD_cons_zero, List.getD_cons_succ, minmaxA, minmaxGo, adoptZ_false, adoptZ_true, freeze_int, freeze_bool, freeze_str, freeze_flat, freeze_agg, freeze_osl, freeze_tsl, freeze_tup, frz1_bool, frz1_int, frz1_str, frz1_agg, frz1_osl, frz1_tsl, bne, Bool.false_and, Bool.and_false, ne_eq, not_true_eq_false, not_false_eq_true, List.append_nil, reduceIte, Nat.reduceAdd, Nat.reduceEqDiff, Nat.reduceLT, Nat.reduceLeDiff, *, ty3, ty4, ty23, ty30, ty48, ty60, ty61, eq23, br60, br61, allocK, cvtK_int, fz93, fz94, wpK_cvt ty3 ty61 rfl, wpK_cvt ty48 ty3 rfl, ]; first | (refine hK.out _ _ ?_; clear hK K) | (refine iteI (fun h => hK.out _ _ ?_) (fun h => hK.out _ _ ?_) <;> clear hK K)))
      (refine wpC_cond fun A B hA hB => ?_; simp only [beq_iff_eq, beq_eq_false_iff_ne, Int.natCast_inj, Bool.not_eq_false', op1_go, wpK_box, wpK_alloc, wpK_load, wpK_store, wpK_binOp, wpK_unOp, wpK_fieldAddr, wpK_field, wpK_build, wpK_indexAddr, wpK_slice, wpK_len, wpK_extract, wpK_nilCheck, wpK_pick, wpK_makeFunc, wpK_call, wpK_callT, wpK_max, wpK_min, wpK_assignT, wpK_moveT, wpK_assignB, wpK_moveB, wpK_assignI, wpK_moveI, wpK_assignA, wpK_moveA, callK_fn, snapL_nil, snapL_cons, snap_int, snap_bool, snap_str, snap_tsl, snap_agg, snap_fn, snap_flat, adopt_int, adopt_bool, adopt_str, adopt_agg, adopt_osl, adopt_tsl, adopt_tup, op1_guard, grdK_bool, grdK_undef, condK_bool, someK_some, pairK_some, nilK_ptr, nilK_tptr, boxK, storeK, evalA_tmp, evalA_int, evalA_bool, evalA_agg, evalA_fn, evalA_nil, ofC_int, ofC_bool, getA_zero, getA_succ, cells_int, cells_agg, cells_bool, cells_sl, cells_tsl, cell_int, cell_bool, cell_str, cell_sl, cell_esl, cell_tsl, cell_ptr, cell_tptr, cell_fn, cell_nils, cell_nilf, List.all_cons, List.all_nil, Bool.and_true, Bool.and_self, Bool.true_and, putA_some, putA_none, List.set_cons_zero, List.set_cons_succ, List.length_cons, List.length_nil, List.nil_append, List.cons_append, stabL, AV.stab, fieldAddrA, fieldA, List.getElem?_cons_zero, List.getElem?_cons_succ, Nat.zero_add, loadA, rowOf, Nat.le_refl, and_self, true_and, and_true, partA, binA, unA, intBin, eqBin, eqCells, eqCell, Option.bind_some, decide_true, decide_false, decide_eq_true_eq, ite_not, Bool.not_eq_true', decide_eq_false_iff_not, Bool.false_eq_true, Option.map_some, Option.map_none, Bool.not_true, Bool.not_false, buildA, fillA, patch, List.take, List.drop, List.map_cons, List.map_nil, extK, List.getD_cons_zero, List.getD_cons_succ, minmaxA, minmaxGo, adoptZ_false, adoptZ_true, freeze_int, freeze_bool, freeze_str, freeze_flat, freeze_agg, freeze_osl, freeze_tsl, freeze_tup, frz1_bool, frz1_int, frz1_str, frz1_agg, frz1_osl, frz1_tsl, bne, Bool.false_and, Bool.and_false, ne_eq, not_true_eq_false, not_false_eq_true, List.append_nil, reduceIte, Nat.reduceAdd, Nat.reduceEqDiff, Nat.reduceLT, Nat.reduceLeDiff, *, ty3, ty4, ty23, ty30, ty48, ty60, ty61, eq23, br60, br61, allocK, cvtK_int, fz93, fz94, wpK_cvt ty3 ty61 rfl, wpK_cvt ty48 ty3 rfl, ]; first | (refine hA.out ?_; clear hA hB A B) | (refine hB.out ?_; clear hA hB A B))
      repeat' (first | refine go1 ?_ | refine blockK_else rfl ?_ | (refine wpO_cons fun K hK => ?_; simp only [beq_iff_eq, beq_eq_false_iff_ne, Int.natCast_inj, Bool.not_eq_false', op1_go, wpK_box, wpK_alloc, wpK_load, wpK_store, wpK_binOp, wpK_unOp, wpK_fieldAddr, wpK_field, wpK_build, wpK_indexAddr, wpK_slice, wpK_len, wpK_extract, wpK_nilCheck, wpK_pick, wpK_makeFunc, wpK_call, wpK_callT, wpK_max, wpK_min, wpK_assignT, wpK_moveT, wpK_assignB, wpK_moveB, wpK_assignI, wpK_moveI, wpK_assignA, wpK_moveA, callK_fn, snapL_nil, snapL_cons, snap_int, snap_bool, snap_str, snap_tsl, snap_agg, snap_fn, snap_flat, adopt_int, adopt_bool, adopt_str, adopt_agg, adopt_osl, adopt_tsl, adopt_tup, op1_guard, grdK_bool, grdK_undef, condK_bool, someK_some, pairK_some, nilK_ptr, nilK_tptr, boxK, storeK, evalA_tmp, evalA_int, evalA_bool, evalA_agg, evalA_fn, evalA_nil, ofC_int, ofC_bool, getA_zero, getA_succ, cells_int, cells_agg, cells_bool, cells_sl, cells_tsl, cell_int, cell_bool, cell_str, cell_sl, cell_esl, cell_tsl, cell_ptr, cell_tptr, cell_fn, cell_nils, cell_nilf, List.all_cons, List.all_nil, Bool.and_true, Bool.and_self, Bool.true_and, putA_some, putA_none, List.set_cons_zero, List.set_cons_succ, List.length_cons, List.length_nil, List.nil_append, List.cons_append, stabL, AV.stab, fieldAddrA, fieldA, List.getElem?_cons_zero, List.getElem?_cons_succ, Nat.zero_add, loadA, rowOf, Nat.le_refl, and_self, true_and, and_true, partA, binA, unA, intBin, eqBin, eqCells, eqCell, Option.bind_some, decide_true, decide_false, decide_eq_true_eq, ite_not, Bool.not_eq_true', decide_eq_false_iff_not, Bool.false_eq_true, Option.map_some, Option.map_none, Bool.not_true, Bool.not_false, buildA, fillA, patch, List.take, List.drop, List.map_cons, List.map_nil, extK, List.getD_cons_zero, List.getD_cons_succ, minmaxA, minmaxGo, adoptZ_false, adoptZ_true, freeze_int, freeze_bool, freeze_str, freeze_flat, freeze_agg, freeze_osl, freeze_tsl, freeze_tup, frz1_bool, frz1_int, frz1_str, frz1_agg, frz1_osl, frz1_tsl, bne, Bool.false_and, Bool.and_false, ne_eq, not_true_eq_false, not_false_eq_true, List.append_nil, reduceIte, Nat.reduceAdd, Nat.reduceEqDiff, Nat.reduceLT, Nat.reduceLeDiff, *, ty3, ty4, ty23, ty30, ty48, ty60, ty61, eq23, br60, br61, allocK, cvtK_int, fz93, fz94, wpK_cvt ty3 ty61 rfl, wpK_cvt ty48 ty3 rfl, ]; first | (refine hK.out _ _ ?_; clear hK K) | (refine iteI (fun h => hK.out _ _ ?_) (fun h => hK.out _ _ ?_) <;> clear hK K)))
      refine wpO_cons fun K hK => ?_
      simp only [beq_iff_eq, beq_eq_false_iff_ne, Int.natCast_inj, Bool.not_eq_false', op1_go, wpK_box, wpK_alloc, wpK_load, wpK_store, wpK_binOp, wpK_unOp, wpK_fieldAddr, wpK_field, wpK_build, wpK_indexAddr, wpK_slice, wpK_len, wpK_extract, wpK_nilCheck, wpK_pick, wpK_makeFunc, wpK_call, wpK_callT, wpK_max, wpK_min, wpK_assignT, wpK_moveT, wpK_assignB, wpK_moveB, wpK_assignI, wpK_moveI, wpK_assignA, wpK_moveA, callK_fn, snapL_nil, snapL_cons, snap_int, snap_bool, snap_str, snap_tsl, snap_agg, snap_fn, snap_flat, adopt_int, adopt_bool, adopt_str, adopt_agg, adopt_osl, adopt_tsl, adopt_tup, op1_guard, grdK_bool, grdK_undef, condK_bool, someK_some, pairK_some, nilK_ptr, nilK_tptr, boxK, storeK, evalA_tmp, evalA_int, evalA_bool, evalA_agg, evalA_fn, evalA_nil, ofC_int, ofC_bool, getA_zero, getA_succ, cells_int, cells_agg, cells_bool, cells_sl, cells_tsl, cell_int, cell_bool, cell_str, cell_sl, cell_esl, cell_tsl, cell_ptr, cell_tptr, cell_fn, cell_nils, cell_nilf, List.all_cons, List.all_nil, Bool.and_true, Bool.and_self, Bool.true_and, putA_some, putA_none, List.set_cons_zero, List.set_cons_succ, List.length_cons, List.length_nil, List.nil_append, List.cons_append, stabL, AV.stab, fieldAddrA, fieldA, List.getElem?_cons_zero, List.getElem?_cons_succ, Nat.zero_add, loadA, rowOf, Nat.le_refl, and_self, true_and, and_true, partA, binA, unA, intBin, eqBin, eqCells, eqCell, Option.bind_some, decide_true, decide_false, decide_eq_true_eq, ite_not, Bool.not_eq_true', decide_eq_false_iff_not, Bool.false_eq_true, Option.map_some, Option.map_none, Bool.not_true, Bool.not_false, buildA, fillA, patch, List.take, List.drop, List.map_cons, List.map_nil, extK, List.getD_cons_zero, List.getD_cons_succ, minmaxA, minmaxGo, adoptZ_false, adoptZ_true, freeze_int, freeze_bool, freeze_str, freeze_flat, freeze_agg, freeze_osl, freeze_tsl, freeze_tup, frz1_bool, frz1_int, frz1_str, frz1_agg, frz1_osl, frz1_tsl, bne, Bool.false_and, Bool.and_false, ne_eq, not_true_eq_false, not_false_eq_true, List.append_nil, reduceIte, Nat.reduceAdd, Nat.reduceEqDiff, Nat.reduceLT, Nat.reduceLeDiff, ty3, ty4, ty23, ty30, ty48, ty60, ty61, eq23, br60, br61, allocK, cvtK_int, fz93, fz94, wpK_cvt ty3 ty61 rfl, wpK_cvt ty48 ty3 rfl, callK_fn]
      refine EvR.mono (nxE A C G d1 w r.toNat ws hrl hws) ?_
      rw [hx]
      rintro _ S ⟨rfl, rfl⟩
      refine hK.out _ _ ?_
      clear hK K
      unfold SX
      repeat' (first | refine go1 ?_ | refine blockK_else rfl ?_ | (refine wpO_cons fun K hK => ?_; simp only [beq_iff_eq, beq_eq_false_iff_ne, Int.natCast_inj, Bool.not_eq_false', op1_go, wpK_box, wpK_alloc, wpK_load, wpK_store, wpK_binOp, wpK_unOp, wpK_fieldAddr, wpK_field, wpK_build, wpK_indexAddr, wpK_slice, wpK_len, wpK_extract, wpK_nilCheck, wpK_pick, wpK_makeFunc, wpK_call, wpK_callT, wpK_max, wpK_min, wpK_assignT, wpK_moveT, wpK_assignB, wpK_moveB, wpK_assignI, wpK_moveI, wpK_assignA, wpK_moveA, callK_fn, snapL_nil, snapL_cons, snap_int, snap_bool, snap_str, snap_tsl, snap_agg, snap_fn, snap_flat, adopt_int, adopt_bool, adopt_str, adopt_agg, adopt_osl, adopt_tsl, adopt_tup, op1_guard, grdK_bool, grdK_undef, condK_bool, someK_some, pairK_some, nilK_ptr, nilK_tptr, boxK, storeK, evalA_tmp, evalA_int, evalA_bool, evalA_agg, evalA_fn, evalA_nil, ofC_int, ofC_bool, getA_zero, getA_succ, cells_int, cells_agg, cells_bool, cells_sl, cells_tsl, cell_int, cell_bool, cell_str, cell_sl, cell_esl, cell_tsl, cell_ptr, cell_tptr, cell_fn, cell_nils, cell_nilf, List.all_cons, List.all_nil, Bool.and_true, Bool.and_self, Bool.true_and, putA_some, putA_none, List.set_cons_zero, List.set_cons_succ, List.length_cons, List.length_nil, List.nil_append, List.cons_append, stabL, AV.stab, fieldAddrA, fieldA, List.getElem?_cons_zero, List.getElem?_cons_succ, Nat.zero_add, loadA, rowOf, Nat.le_refl, and_self, true_and, and_true, partA, binA, unA, intBin, eqBin, eqCells, eqCell, Option.bind_some, decide_true, decide_false, decide_eq_true_eq, ite_not, Bool.not_eq_true', decide_eq_false_iff_not, Bool.false_eq_true, Option.map_some, Option.map_none, Bool.not_true, Bool.not_false, buildA, fillA, patch, List.take, List.drop, List.map_cons, List.map_nil, extK, List.getD_cons_zero, List.getD_cons_succ, minmaxA, minmaxGo, adoptZ_false, adoptZ_true, freeze_int, freeze_bool, freeze_str, freeze_flat, freeze_agg, freeze_osl, freeze_tsl, freeze_tup, frz1_bool, frz1_int, frz1_str, frz1_agg, frz1_osl, frz1_tsl, bne, Bool.false_and, Bool.and_false, ne_eq, not_true_eq_false, not_false_eq_true, List.append_nil, reduceIte, Nat.reduceAdd, Nat.reduceEqDiff, Nat.reduceLT, Nat.reduceLeDiff, *, ty3, ty4, ty23, ty30, ty48, ty60, ty61, eq23, br60, br61, allocK, cvtK_int, fz93, fz94, wpK_cvt ty3 ty61 rfl, wpK_cvt ty48 ty3 rfl, ]; first | (refine hK.out _ _ ?_; clear hK K) | (refine iteI (fun h => hK.out _ _ ?_) (fun h => hK.out _ _ ?_) <;> clear hK K)))
      refine wpC_cut [43, 44, 45, 46, 47, 48] (fun _ : Nat => [(12, .int .i64 t)]) (fun _ H => A ++ .arr (rowsD T d1) 2 w true :: (C ++ .arr [[.int .u64 (r'.toNat : Int)]] 1 1 true :: H)) (fun _ => True) ?_ ?_
      · by_cases hoL : o ≥ L
        · have hoL' : (L : Int) ≤ (o : Int) := by omega
          rw [if_pos hoL] at ht
          have a4 : IntKind.wrap .i64 ((o : Int) - (L : Int)) = ((o - L : Nat) : Int) := by rw [wrap_small (by omega) (by omega)]; omega
          rw [ht] at a4
          clear ht
          repeat' (first | refine go1 ?_ | refine blockK_else rfl ?_ | (refine wpC_cond fun A B hA hB => ?_; simp only [beq_iff_eq, beq_eq_false_iff_ne, Int.natCast_inj, Bool.not_eq_false', op1_go, wpK_box, wpK_alloc, wpK_load, wpK_store, wpK_binOp, wpK_unOp, wpK_fieldAddr, wpK_field, wpK_build, wpK_indexAddr, wpK_slice, wpK_len, wpK_extract, wpK_nilCheck, wpK_pick, wpK_makeFunc, wpK_call, wpK_callT, wpK_max, wpK_min, wpK_assignT, wpK_moveT, wpK_assignB, wpK_moveB, wpK_assignI, wpK_moveI, wpK_assignA, wpK_moveA, callK_fn, snapL_nil, snapL_cons, snap_int, snap_bool, snap_str, snap_tsl, snap_agg, snap_fn, snap_flat, adopt_int, adopt_bool, adopt_str, adopt_agg, adopt_osl, adopt_tsl, adopt_tup, op1_guard, grdK_bool, grdK_undef, condK_bool, someK_some, pairK_some, nilK_ptr, nilK_tptr, boxK, storeK, evalA_tmp, evalA_int, evalA_bool, evalA_agg, evalA_fn, evalA_nil, ofC_int, ofC_bool, getA_zero, getA_succ, cells_int, cells_agg, cells_bool, cells_sl, cells_tsl, cell_int, cell_bool, cell_str, cell_sl, cell_esl, cell_tsl, cell_ptr, cell_tptr, cell_fn, cell_nils, cell_nilf, List.all_cons, List.all_nil, Bool.and_true, Bool.and_self, Bool.true_and, putA_some, putA_none, List.set_cons_zero, List.set_cons_succ, List.length_cons, List.length_nil, List.nil_append, List.cons_append, stabL, AV.stab, fieldAddrA, fieldA, List.getElem?_cons_zero, List.getElem?_cons_succ, Nat.zero_add, loadA, rowOf, Nat.le_refl, and_self, true_and, and_true, partA, binA, unA, intBin, eqBin, eqCells, eqCell, Option.bind_some, decide_true, decide_false, decide_eq_true_eq, ite_not, Bool.not_eq_true', decide_eq_false_iff_not, Bool.false_eq_true, Option.map_some, Option.map_none, Bool.not_true, Bool.not_false, buildA, fillA, patch, List.take, List.drop, List.map_cons, List.map_nil, extK, List.getD_cons_zero, List.getD_cons_succ, minmaxA, minmaxGo, adoptZ_false, adoptZ_true, freeze_int, freeze_bool, freeze_str, freeze_flat, freeze_agg, freeze_osl, freeze_tsl, freeze_tup, frz1_bool, frz1_int, frz1_str, frz1_agg, frz1_osl, frz1_tsl, bne, Bool.false_and, Bool.and_false, ne_eq, not_true_eq_false, not_false_eq_true, List.append_nil, reduceIte, Nat.reduceAdd, Nat.reduceEqDiff, Nat.reduceLT, Nat.reduceLeDiff, *, ty3, ty4, ty23, ty30, ty48, ty60, ty61, eq23, br60, br61, allocK, cvtK_int, fz93, fz94, wpK_cvt ty3 ty61 rfl, wpK_cvt ty48 ty3 rfl, ]; first | (refine hA.out ?_; clear hA hB A B) | (refine hB.out ?_; clear hA hB A B) | (refine iteI (fun h => hA.out ?_) (fun h => hB.out ?_) <;> clear hA hB A B) | (refine iteI (fun h => hB.out ?_) (fun h => hA.out ?_) <;> clear hA hB A B)) | (refine wpO_cons fun K hK => ?_; simp only [beq_iff_eq, beq_eq_false_iff_ne, Int.natCast_inj, Bool.not_eq_false', op1_go, wpK_box, wpK_alloc, wpK_load, wpK_store, wpK_binOp, wpK_unOp, wpK_fieldAddr, wpK_field, wpK_build, wpK_indexAddr, wpK_slice, wpK_len, wpK_extract, wpK_nilCheck, wpK_pick, wpK_makeFunc, wpK_call, wpK_callT, wpK_max, wpK_min, wpK_assignT, wpK_moveT, wpK_assignB, wpK_moveB, wpK_assignI, wpK_moveI, wpK_assignA, wpK_moveA, callK_fn, snapL_nil, snapL_cons, snap_int, snap_bool, snap_str, snap_tsl, snap_agg, snap_fn, snap_flat, adopt_int, adopt_bool, adopt_str, adopt_agg, adopt_osl, adopt_tsl, adopt_tup, op1_guard, grdK_bool, grdK_undef, condK_bool, someK_some, pairK_some, nilK_ptr, nilK_tptr, boxK, storeK, evalA_tmp, evalA_int, evalA_bool, evalA_agg, evalA_fn, evalA_nil, ofC_int, ofC_bool, getA_zero, getA_succ, cells_int, cells_agg, cells_bool, cells_sl, cells_tsl, cell_int, cell_bool, cell_str, cell_sl, cell_esl, cell_tsl, cell_ptr, cell_tptr, cell_fn, cell_nils, cell_nilf, List.all_cons, List.all_nil, Bool.and_true, Bool.and_self, Bool.true_and, putA_some, putA_none, List.set_cons_zero, List.set_cons_succ, List.length_cons, List.length_nil, List.nil_append, List.cons_append, stabL, AV.stab, fieldAddrA, fieldA, List.getElem?_cons_zero, List.getElem?_cons_succ, Nat.zero_add, loadA, rowOf, Nat.le_refl, and_self, true_and, and_true, partA, binA, unA, intBin, eqBin, eqCells, eqCell, Option.bind_some, decide_true, decide_false, decide_eq_true_eq, ite_not, Bool.not_eq_true', decide_eq_false_iff_not, Bool.false_eq_true, Option.map_some, Option.map_none, Bool.not_true, Bool.not_false, buildA, fillA, patch, List.take, List.drop, List.map_cons, List.map_nil, extK, List.getD_cons_zero, List.getD_cons_succ, minmaxA, minmaxGo, adoptZ_false, adoptZ_true, freeze_int, freeze_bool, freeze_str, freeze_flat, freeze_agg, freeze_osl, freeze_tsl, freeze_tup, frz1_bool, frz1_int, frz1_str, frz1_agg, frz1_osl, frz1_tsl, bne, Bool.false_and, Bool.and_false, ne_eq, not_true_eq_false, not_false_eq_true, List.append_nil, reduceIte, Nat.reduceAdd, Nat.reduceEqDiff, Nat.reduceLT, Nat.reduceLeDiff, *, ty3, ty4, ty23, ty30, ty48, ty60, ty61, eq23, br60, br61, allocK, cvtK_int, fz93, fz94, wpK_cvt ty3 ty61 rfl, wpK_cvt ty48 ty3 rfl, ]; first | (refine hK.out _ _ ?_; clear hK K) | (refine iteI (fun h => hK.out _ _ ?_) (fun h => hK.out _ _ ?_) <;> clear hK K)))
          refine cut_next 0 trivial ?_ ⟨_, rfl⟩
          ((try simp only [eraseA_cons, eraseA_nil, setL_cons, setL_nil, List.set_cons_zero, List.set_cons_succ]); all_goals (first | rfl | (simp only [len_snoc, ints_len, List.length_map, ]; done) | (simp only [len_snoc, len_mid, ints_len, List.length_map, List.length_append, List.length_cons, List.length_nil, Nat.zero_add, ]; done) | (simp only [len_mid, len_snoc, ints_len, List.length_map, List.length_append, List.length_cons, List.length_nil, Nat.zero_add, ]; rfl)))
        · have hoL' : ¬ (L : Int) ≤ (o : Int) := by omega
          rw [if_neg hoL] at ht
          subst ht
          repeat' (first | refine go1 ?_ | refine blockK_else rfl ?_ | (refine wpC_cond fun A B hA hB => ?_; simp only [beq_iff_eq, beq_eq_false_iff_ne, Int.natCast_inj, Bool.not_eq_false', op1_go, wpK_box, wpK_alloc, wpK_load, wpK_store, wpK_binOp, wpK_unOp, wpK_fieldAddr, wpK_field, wpK_build, wpK_indexAddr, wpK_slice, wpK_len, wpK_extract, wpK_nilCheck, wpK_pick, wpK_makeFunc, wpK_call, wpK_callT, wpK_max, wpK_min, wpK_assignT, wpK_moveT, wpK_assignB, wpK_moveB, wpK_assignI, wpK_moveI, wpK_assignA, wpK_moveA, callK_fn, snapL_nil, snapL_cons, snap_int, snap_bool, snap_str, snap_tsl, snap_agg, snap_fn, snap_flat, adopt_int, adopt_bool, adopt_str, adopt_agg, adopt_osl, adopt_tsl, adopt_tup, op1_guard, grdK_bool, grdK_undef, condK_bool, someK_some, pairK_some, nilK_ptr, nilK_tptr, boxK, storeK, evalA_tmp, evalA_int, evalA_bool, evalA_agg, evalA_fn, evalA_nil, ofC_int, ofC_bool, getA_zero, getA_succ, cells_int, cells_agg, cells_bool, cells_sl, cells_tsl, cell_int, cell_bool, cell_str, cell_sl, cell_esl, cell_tsl, cell_ptr, cell_tptr, cell_fn, cell_nils, cell_nilf, List.all_cons, List.all_nil, Bool.and_true, Bool.and_self, Bool.true_and, putA_some, putA_none, List.set_cons_zero, List.set_cons_succ, List.length_cons, List.length_nil, List.nil_append, List.cons_append, stabL, AV.stab, fieldAddrA, fieldA, List.getElem?_cons_zero, List.getElem?_cons_succ, Nat.zero_add, loadA, rowOf, Nat.le_refl, and_self, true_and, and_true, partA, binA, unA, intBin, eqBin, eqCells, eqCell, Option.bind_some, decide_true, decide_false, decide_eq_true_eq, ite_not, Bool.not_eq_true', decide_eq_false_iff_not, Bool.false_eq_true, Option.map_some, Option.map_none, Bool.not_true, Bool.not_false, buildA, fillA, patch, List.take, List.drop, List.map_cons, List.map_nil, extK, List.getD_cons_zero, List.getD_cons_succ, minmaxA, minmaxGo, adoptZ_false, adoptZ_true, freeze_int, freeze_bool, freeze_str, freeze_flat, freeze_agg, freeze_osl, freeze_tsl, freeze_tup, frz1_bool, frz1_int, frz1_str, frz1_agg, frz1_osl, frz1_tsl, bne, Bool.false_and, Bool.and_false, ne_eq, not_true_eq_false, not_false_eq_true, List.append_nil, reduceIte, Nat.reduceAdd, Nat.reduceEqDiff, Nat.reduceLT, Nat.reduceLeDiff, *, ty3, ty4, ty23, ty30, ty48, ty60, ty61, eq23, br60, br61, allocK, cvtK_int, fz93, fz94, wpK_cvt ty3 ty61 rfl, wpK_cvt ty48 ty3 rfl, ]; first | (refine hA.out ?_; clear hA hB A B) | (refine hB.out ?_; clear hA hB A B) | (refine iteI (fun h => hA.out ?_) (fun h => hB.out ?_) <;> clear hA hB A B) | (refine iteI (fun h => hB.out ?_) (fun h => hA.out ?_) <;> clear hA hB A B)) | (refine wpO_cons fun K hK => ?_; simp only [beq_iff_eq, beq_eq_false_iff_ne, Int.natCast_inj, Bool.not_eq_false', op1_go, wpK_box, wpK_alloc, wpK_load, wpK_store, wpK_binOp, wpK_unOp, wpK_fieldAddr, wpK_field, wpK_build, wpK_indexAddr, wpK_slice, wpK_len, wpK_extract, wpK_nilCheck, wpK_pick, wpK_makeFunc, wpK_call, wpK_callT, wpK_max, wpK_min, wpK_assignT, wpK_moveT, wpK_assignB, wpK_moveB, wpK_assignI, wpK_moveI, wpK_assignA, wpK_moveA, callK_fn, snapL_nil, snapL_cons, snap_int, snap_bool, snap_str, snap_tsl, snap_agg, snap_fn, snap_flat, adopt_int, adopt_bool, adopt_str, adopt_agg, adopt_osl, adopt_tsl, adopt_tup, op1_guard, grdK_bool, grdK_undef, condK_bool, someK_some, pairK_some, nilK_ptr, nilK_tptr, boxK, storeK, evalA_tmp, evalA_int, evalA_bool, evalA_agg, evalA_fn, evalA_nil, ofC_int, ofC_bool, getA_zero, getA_succ, cells_int, cells_agg, cells_bool, cells_sl, cells_tsl, cell_int, cell_bool, cell_str, cell_sl, cell_esl, cell_tsl, cell_ptr, cell_tptr, cell_fn, cell_nils, cell_nilf, List.all_cons, List.all_nil, Bool.and_true, Bool.and_self, Bool.true_and, putA_some, putA_none, List.set_cons_zero, List.set_cons_succ, List.length_cons, List.length_nil, List.nil_append, List.cons_append, stabL, AV.stab, fieldAddrA, fieldA, List.getElem?_cons_zero, List.getElem?_cons_succ, Nat.zero_add, loadA, rowOf, Nat.le_refl, and_self, true_and, and_true, partA, binA, unA, intBin, eqBin, eqCells, eqCell, Option.bind_some, decide_true, decide_false, decide_eq_true_eq, ite_not, Bool.not_eq_true', decide_eq_false_iff_not, Bool.false_eq_true, Option.map_some, Option.map_none, Bool.not_true, Bool.not_false, buildA, fillA, patch, List.take, List.drop, List.map_cons, List.map_nil, extK, List.getD_cons_zero, List.getD_cons_succ, minmaxA, minmaxGo, adoptZ_false, adoptZ_true, freeze_int, freeze_bool, freeze_str, freeze_flat, freeze_agg, freeze_osl, freeze_tsl, freeze_tup, frz1_bool, frz1_int, frz1_str, frz1_agg, frz1_osl, frz1_tsl, bne, Bool.false_and, Bool.and_false, ne_eq, not_true_eq_false, not_false_eq_true, List.append_nil, reduceIte, Nat.reduceAdd, Nat.reduceEqDiff, Nat.reduceLT, Nat.reduceLeDiff, *, ty3, ty4, ty23, ty30, ty48, ty60, ty61, eq23, br60, br61, allocK, cvtK_int, fz93, fz94, wpK_cvt ty3 ty61 rfl, wpK_cvt ty48 ty3 rfl, ]; first | (refine hK.out _ _ ?_; clear hK K) | (refine iteI (fun h => hK.out _ _ ?_) (fun h => hK.out _ _ ?_) <;> clear hK K)))
          refine cut_next 0 trivial ?_ ⟨_, rfl⟩
          ((try simp only [eraseA_cons, eraseA_nil, setL_cons, setL_nil, List.set_cons_zero, List.set_cons_succ]); all_goals (first | rfl | (simp only [len_snoc, ints_len, List.length_map, ]; done) | (simp only [len_snoc, len_mid, ints_len, List.length_map, List.length_append, List.length_cons, List.length_nil, Nat.zero_add, ]; done) | (simp only [len_mid, len_snoc, ints_len, List.length_map, List.length_append, List.length_cons, List.length_nil, Nat.zero_add, ]; rfl)))
      · intro _ g' H _
        simp only [garbA_cons, garbA_nil, setL_cons, setL_nil, List.set_cons_zero, List.set_cons_succ]
        repeat' (first | refine go1 ?_ | refine blockK_else rfl ?_ | (refine wpC_cond fun A B hA hB => ?_; simp only [beq_iff_eq, beq_eq_false_iff_ne, Int.natCast_inj, Bool.not_eq_false', op1_go, wpK_box, wpK_alloc, wpK_load, wpK_store, wpK_binOp, wpK_unOp, wpK_fieldAddr, wpK_field, wpK_build, wpK_indexAddr, wpK_slice, wpK_len, wpK_extract, wpK_nilCheck, wpK_pick, wpK_makeFunc, wpK_call, wpK_callT, wpK_max, wpK_min, wpK_assignT, wpK_moveT, wpK_assignB, wpK_moveB, wpK_assignI, wpK_moveI, wpK_assignA, wpK_moveA, callK_fn, snapL_nil, snapL_cons, snap_int, snap_bool, snap_str, snap_tsl, snap_agg, snap_fn, snap_flat, adopt_int, adopt_bool, adopt_str, adopt_agg, adopt_osl, adopt_tsl, adopt_tup, op1_guard, grdK_bool, grdK_undef, condK_bool, someK_some, pairK_some, nilK_ptr, nilK_tptr, boxK, storeK, evalA_tmp, evalA_int, evalA_bool, evalA_agg, evalA_fn, evalA_nil, ofC_int, ofC_bool, getA_zero, getA_succ, cells_int, cells_agg, cells_bool, cells_sl, cells_tsl, cell_int, cell_bool, cell_str, cell_sl, cell_esl, cell_tsl, cell_ptr, cell_tptr, cell_fn, cell_nils, cell_nilf, List.all_cons, List.all_nil, Bool.and_true, Bool.and_self, Bool.true_and, putA_some, putA_none, List.set_cons_zero, List.set_cons_succ, List.length_cons, List.length_nil, List.nil_append, List.cons_append, stabL, AV.stab, fieldAddrA, fieldA, List.getElem?_cons_zero, List.getElem?_cons_succ, Nat.zero_add, loadA, rowOf, Nat.le_refl, and_self, true_and, and_true, partA, binA, unA, intBin, eqBin, eqCells, eqCell, Option.bind_some, decide_true, decide_false, decide_eq_true_eq, ite_not, Bool.not_eq_true', decide_eq_false_iff_not, Bool.false_eq_true, Option.map_some, Option.map_none, Bool.not_true, Bool.not_false, buildA, fillA, patch, List.take, List.drop, List.map_cons, List.map_nil, extK, List.getD_cons_zero, List.getD_cons_succ, minmaxA, minmaxGo, adoptZ_false, adoptZ_true, freeze_int, freeze_bool, freeze_str, freeze_flat, freeze_agg, freeze_osl, freeze_tsl, freeze_tup, frz1_bool, frz1_int, frz1_str, frz1_agg, frz1_osl, frz1_tsl, bne, Bool.false_and, Bool.and_false, ne_eq, not_true_eq_false, not_false_eq_true, List.append_nil, reduceIte, Nat.reduceAdd, Nat.reduceEqDiff, Nat.reduceLT, Nat.reduceLeDiff, *, ty3, ty4, ty23, ty30, ty48, ty60, ty61, eq23, br60, br61, allocK, cvtK_int, fz93, fz94, wpK_cvt ty3 ty61 rfl, wpK_cvt ty48 ty3 rfl, getElem?_len, set_len, idxD, ltT, rowsD_get, rowsD_len, rowsD_put, dropD, takeD, sizeD, (lessE _ _ _ _).rw, cmpI_lt, Bool.decide_eq_true, encE, ty23, ty3]; first | (refine hA.out ?_; clear hA hB A B) | (refine hB.out ?_; clear hA hB A B) | (refine iteI (fun h => hA.out ?_) (fun h => hB.out ?_) <;> clear hA hB A B) | (refine iteI (fun h => hB.out ?_) (fun h => hA.out ?_) <;> clear hA hB A B)) | (refine wpO_cons fun K hK => ?_; simp only [beq_iff_eq, beq_eq_false_iff_ne, Int.natCast_inj, Bool.not_eq_false', op1_go, wpK_box, wpK_alloc, wpK_load, wpK_store, wpK_binOp, wpK_unOp, wpK_fieldAddr, wpK_field, wpK_build, wpK_indexAddr, wpK_slice, wpK_len, wpK_extract, wpK_nilCheck, wpK_pick, wpK_makeFunc, wpK_call, wpK_callT, wpK_max, wpK_min, wpK_assignT, wpK_moveT, wpK_assignB, wpK_moveB, wpK_assignI, wpK_moveI, wpK_assignA, wpK_moveA, callK_fn, snapL_nil, snapL_cons, snap_int, snap_bool, snap_str, snap_tsl, snap_agg, snap_fn, snap_flat, adopt_int, adopt_bool, adopt_str, adopt_agg, adopt_osl, adopt_tsl, adopt_tup, op1_guard, grdK_bool, grdK_undef, condK_bool, someK_some, pairK_some, nilK_ptr, nilK_tptr, boxK, storeK, evalA_tmp, evalA_int, evalA_bool, evalA_agg, evalA_fn, evalA_nil, ofC_int, ofC_bool, getA_zero, getA_succ, cells_int, cells_agg, cells_bool, cells_sl, cells_tsl, cell_int, cell_bool, cell_str, cell_sl, cell_esl, cell_tsl, cell_ptr, cell_tptr, cell_fn, cell_nils, cell_nilf, List.all_cons, List.all_nil, Bool.and_true, Bool.and_self, Bool.true_and, putA_some, putA_none, List.set_cons_zero, List.set_cons_succ, List.length_cons, List.length_nil, List.nil_append, List.cons_append, stabL, AV.stab, fieldAddrA, fieldA, List.getElem?_cons_zero, List.getElem?_cons_succ, Nat.zero_add, loadA, rowOf, Nat.le_refl, and_self, true_and, and_true, partA, binA, unA, intBin, eqBin, eqCells, eqCell, Option.bind_some, decide_true, decide_false, decide_eq_true_eq, ite_not, Bool.not_eq_true', decide_eq_false_iff_not, Bool.false_eq_true, Option.map_some, Option.map_none, Bool.not_true, Bool.not_false, buildA, fillA, patch, List.take, List.drop, List.map_cons, List.map_nil, extK, List.getD_cons_zero, List.getD_cons_succ, minmaxA, minmaxGo, adoptZ_false, adoptZ_true, freeze_int, freeze_bool, freeze_str, freeze_flat, freeze_agg, freeze_osl, freeze_tsl, freeze_tup, frz1_bool, frz1_int, frz1_str, frz1_agg, frz1_osl, frz1_tsl, bne, Bool.false_and, Bool.and_false, ne_eq, not_true_eq_false, not_false_eq_true, List.append_nil, reduceIte, Nat.reduceAdd, Nat.reduceEqDiff, Nat.reduceLT, Nat.reduceLeDiff, *, ty3, ty4, ty23, ty30, ty48, ty60, ty61, eq23, br60, br61, allocK, cvtK_int, fz93, fz94, wpK_cvt ty3 ty61 rfl, wpK_cvt ty48 ty3 rfl, getElem?_len, set_len, idxD, ltT, rowsD_get, rowsD_len, rowsD_put, dropD, takeD, sizeD, (lessE _ _ _ _).rw, cmpI_lt, Bool.decide_eq_true, encE, ty23, ty3]; first | (refine hK.out _ _ ?_; clear hK K) | (refine iteI (fun h => hK.out _ _ ?_) (fun h => hK.out _ _ ?_) <;> clear hK K)))
        refine loopF_next (k, idx + 1, r', Go.Sort.swp d1 idx (a + t), n + T.length, 1) (Nat.lt_succ_self _) ⟨by simp [Go.Sort.swp, hn], Nat.le_refl _, Nat.le_refl _, by simp only; omega, by simp only; omega, hR⟩ ?_ ⟨_, rfl⟩
        ((try simp only [eraseA_cons, eraseA_nil, setL_cons, setL_nil, List.set_cons_zero, List.set_cons_succ]); all_goals (first | rfl | (simp only [len_snoc, ints_len, List.length_map, ]; done) | (simp only [len_snoc, len_mid, ints_len, List.length_map, List.length_append, List.length_cons, List.length_nil, Nat.zero_add, ]; done) | (simp only [len_mid, len_snoc, ints_len, List.length_map, List.length_append, List.length_cons, List.length_nil, Nat.zero_add, ]; rfl)))
  · have h8' : ¬ (8 : Int) ≤ ((b - a : Nat) : Int) := by omega
    have e : Go.Sort.breakPatterns d a b = d := by unfold Go.Sort.breakPatterns; simp only [h8, if_false]
    refine EvR.walk rfl fn51 rfl nt51 rfl ?_
    simp only [List.length_cons, List.length_nil, List.cons_append, List.nil_append, Nat.reduceAdd, Nat.reduceSub, List.replicate]
    repeat' (first | refine go1 ?_ | refine blockK_else rfl ?_ | (refine wpC_cond fun A B hA hB => ?_; simp only [beq_iff_eq, beq_eq_false_iff_ne, Int.natCast_inj, Bool.not_eq_false', op1_go, wpK_box, wpK_alloc, wpK_load, wpK_store, wpK_binOp, wpK_unOp, wpK_fieldAddr, wpK_field, wpK_build, wpK_indexAddr, wpK_slice, wpK_len, wpK_extract, wpK_nilCheck, wpK_pick, wpK_makeFunc, wpK_call, wpK_callT, wpK_max, wpK_min, wpK_assignT, wpK_moveT, wpK_assignB, wpK_moveB, wpK_assignI, wpK_moveI, wpK_assignA, wpK_moveA, callK_fn, snapL_nil, snapL_cons, snap_int, snap_bool, snap_str, snap_tsl, snap_agg, snap_fn, snap_flat, adopt_int, adopt_bool, adopt_str, adopt_agg, adopt_osl, adopt_tsl, adopt_tup, op1_guard, grdK_bool, grdK_undef, condK_bool, someK_some, pairK_some, nilK_ptr, nilK_tptr, boxK, storeK, evalA_tmp, evalA_int, evalA_bool, evalA_agg, evalA_fn, evalA_nil, ofC_int, ofC_bool, getA_zero, getA_succ, cells_int, cells_agg, cells_bool, cells_sl, cells_tsl, cell_int, cell_bool, cell_str, cell_sl, cell_esl, cell_tsl, cell_ptr, cell_tptr, cell_fn, cell_nils, cell_nilf, List.all_cons, List.all_nil, Bool.and_true, Bool.and_self, Bool.true_and, putA_some, putA_none, List.set_cons_zero, List.set_cons_succ, List.length_cons, List.length_nil, List.nil_append, List.cons_append, stabL, AV.stab, fieldAddrA, fieldA, List.getElem?_cons_zero, List.getElem?_cons_succ, Nat.zero_add, loadA, rowOf, Nat.le_refl, and_self, true_and, and_true, partA, binA, unA, intBin, eqBin, eqCells, eqCell, Option.bind_some, decide_true, decide_false, decide_eq_true_eq, ite_not, Bool.not_eq_true', decide_eq_false_iff_not, Bool.false_eq_true, Option.map_some, Option.map_none, Bool.not_true, Bool.not_false, buildA, fillA, patch, List.take, List.drop, List.map_cons, List.map_nil, extK, List.getD_cons_zero, List.getD_cons_succ, minmaxA, minmaxGo, adoptZ_false, adoptZ_true, freeze_int, freeze_bool, freeze_str, freeze_flat, freeze_agg, freeze_osl, freeze_tsl, freeze_tup, frz1_bool, frz1_int, frz1_str, frz1_agg, frz1_osl, frz1_tsl, bne, Bool.false_and, Bool.and_false, ne_eq, not_true_eq_false, not_false_eq_true, List.append_nil, reduceIte, Nat.reduceAdd, Nat.reduceEqDiff, Nat.reduceLT, Nat.reduceLeDiff, *, ty3, ty4, ty23, ty30, ty48, ty60, ty61, eq23, br60, br61, allocK, cvtK_int, fz93, fz94, wpK_cvt ty3 ty61 rfl, wpK_cvt ty48 ty3 rfl, ]; first | (refine hA.out ?_; clear hA hB A B) | (refine hB.out ?_; clear hA hB A B) | (refine iteI (fun h => hA.out ?_) (fun h => hB.out ?_) <;> clear hA hB A B) | (refine iteI (fun h => hB.out ?_) (fun h => hA.out ?_) <;> clear hA hB A B)) | (refine wpO_cons fun K hK => ?_; simp only [beq_iff_eq, beq_eq_false_iff_ne, Int.natCast_inj, Bool.not_eq_false', op1_go, wpK_box, wpK_alloc, wpK_load, wpK_store, wpK_binOp, wpK_unOp, wpK_fieldAddr, wpK_field, wpK_build, wpK_indexAddr, wpK_slice, wpK_len, wpK_extract, wpK_nilCheck, wpK_pick, wpK_makeFunc, wpK_call, wpK_callT, wpK_max, wpK_min, wpK_assignT, wpK_moveT, wpK_assignB, wpK_moveB, wpK_assignI, wpK_moveI, wpK_assignA, wpK_moveA, callK_fn, snapL_nil, snapL_cons, snap_int, snap_bool, snap_str, snap_tsl, snap_agg, snap_fn, snap_flat, adopt_int, adopt_bool, adopt_str, adopt_agg, adopt_osl, adopt_tsl, adopt_tup, op1_guard, grdK_bool, grdK_undef, condK_bool, someK_some, pairK_some, nilK_ptr, nilK_tptr, boxK, storeK, evalA_tmp, evalA_int, evalA_bool, evalA_agg, evalA_fn, evalA_nil, ofC_int, ofC_bool, getA_zero, getA_succ, cells_int, cells_agg, cells_bool, cells_sl, cells_tsl, cell_int, cell_bool, cell_str, cell_sl, cell_esl, cell_tsl, cell_ptr, cell_tptr, cell_fn, cell_nils, cell_nilf, List.all_cons, List.all_nil, Bool.and_true, Bool.and_self, Bool.true_and, putA_some, putA_none, List.set_cons_zero, List.set_cons_succ, List.length_cons, List.length_nil, List.nil_append, List.cons_append, stabL, AV.stab, fieldAddrA, fieldA, List.getElem?_cons_zero, List.getElem?_cons_succ, Nat.zero_add, loadA, rowOf, Nat.le_refl, and_self, true_and, and_true, partA, binA, unA, intBin, eqBin, eqCells, eqCell, Option.bind_some, decide_true, decide_false, decide_eq_true_eq, ite_not, Bool.not_eq_true', decide_eq_false_iff_not, Bool.false_eq_true, Option.map_some, Option.map_none, Bool.not_true, Bool.not_false, buildA, fillA, patch, List.take, List.drop, List.map_cons, List.map_nil, extK, List.getD_cons_zero, List.getD_cons_succ, minmaxA, minmaxGo, adoptZ_false, adoptZ_true, freeze_int, freeze_bool, freeze_str, freeze_flat, freeze_agg, freeze_osl, freeze_tsl, freeze_tup, frz1_bool, frz1_int, frz1_str, frz1_agg, frz1_osl, frz1_tsl, bne, Bool.false_and, Bool.and_false, ne_eq, not_true_eq_false, not_false_eq_true, List.append_nil, reduceIte, Nat.reduceAdd, Nat.reduceEqDiff, Nat.reduceLT, Nat.reduceLeDiff, *, ty3, ty4, ty23, ty30, ty48, ty60, ty61, eq23, br60, br61, allocK, cvtK_int, fz93, fz94, wpK_cvt ty3 ty61 rfl, wpK_cvt ty48 ty3 rfl, ]; first | (refine hK.out _ _ ?_; clear hK K) | (refine iteI (fun h => hK.out _ _ ?_) (fun h => hK.out _ _ ?_) <;> clear hK K)))
    simp only [resultsR, resultsL, resultA, expK_int, expK_bool, expK_str, expK_agg, expK_own, expK_tsl, resK_some, beq_iff_eq, beq_eq_false_iff_ne, Int.natCast_inj, Bool.not_eq_false', op1_go, wpK_box, wpK_alloc, wpK_load, wpK_store, wpK_binOp, wpK_unOp, wpK_fieldAddr, wpK_field, wpK_build, wpK_indexAddr, wpK_slice, wpK_len, wpK_extract, wpK_nilCheck, wpK_pick, wpK_makeFunc, wpK_call, wpK_callT, wpK_max, wpK_min, wpK_assignT, wpK_moveT, wpK_assignB, wpK_moveB, wpK_assignI, wpK_moveI, wpK_assignA, wpK_moveA, callK_fn, snapL_nil, snapL_cons, snap_int, snap_bool, snap_str, snap_tsl, snap_agg, snap_fn, snap_flat, adopt_int, adopt_bool, adopt_str, adopt_agg, adopt_osl, adopt_tsl, adopt_tup, op1_guard, grdK_bool, grdK_undef, condK_bool, someK_some, pairK_some, nilK_ptr, nilK_tptr, boxK, storeK, evalA_tmp, evalA_int, evalA_bool, evalA_agg, evalA_fn, evalA_nil, ofC_int, ofC_bool, getA_zero, getA_succ, cells_int, cells_agg, cells_bool, cells_sl, cells_tsl, cell_int, cell_bool, cell_str, cell_sl, cell_esl, cell_tsl, cell_ptr, cell_tptr, cell_fn, cell_nils, cell_nilf, List.all_cons, List.all_nil, Bool.and_true, Bool.and_self, Bool.true_and, putA_some, putA_none, List.set_cons_zero, List.set_cons_succ, List.length_cons, List.length_nil, List.nil_append, List.cons_append, stabL, AV.stab, fieldAddrA, fieldA, List.getElem?_cons_zero, List.getElem?_cons_succ, Nat.zero_add, loadA, rowOf, Nat.le_refl, and_self, true_and, and_true, partA, binA, unA, intBin, eqBin, eqCells, eqCell, Option.bind_some, decide_true, decide_false, decide_eq_true_eq, ite_not, Bool.not_eq_true', decide_eq_false_iff_not, Bool.false_eq_true, Option.map_some, Option.map_none, Bool.not_true, Bool.not_false, buildA, fillA, patch, List.take, List.drop, List.map_cons, List.map_nil, extK, List.getD_cons_zero, List.getD_cons_succ, minmaxA, minmaxGo, adoptZ_false, adoptZ_true, freeze_int, freeze_bool, freeze_str, freeze_flat, freeze_agg, freeze_osl, freeze_tsl, freeze_tup, frz1_bool, frz1_int, frz1_str, frz1_agg, frz1_osl, frz1_tsl, bne, Bool.false_and, Bool.and_false, ne_eq, not_true_eq_false, not_false_eq_true, List.append_nil, reduceIte, Nat.reduceAdd, Nat.reduceEqDiff, Nat.reduceLT, Nat.reduceLeDiff, ty3, ty4, ty23, ty30, ty48, ty60, ty61, eq23, br60, br61, allocK, cvtK_int, fz93, fz94, wpK_cvt ty3 ty61 rfl, wpK_cvt ty48 ty3 rfl, e]
    exact ⟨hn, w, [], hw, by rw [SB, List.append_nil]⟩

/- The library's sort of spans by a function as a run: the sort. -/
open Go.Proofs
attribute [local go_sem] ty23 ty25 ty30 ty50 eq23 br47 br49 br50 br51 br52 br53 br54 br55 br56 fz108 fz109 fz110 fz111 fz112 fz77 fz78 fz79 fz80 fz82 fz83
set_option maxRecDepth 20000
set_option maxHeartbeats 8000000
variable {T : List (List AV)}

theorem peq_range (a b : Nat) : ∀ (m i j : Nat) (d : Array El), j + 1 - i ≤ m → i ≤ b → j + 1 ≤ b → i ≤ (Go.Sort.partEqLoop ltE a i j d).1 ∧ (Go.Sort.partEqLoop ltE a i j d).1 ≤ b
  | m, i, j, d, hm, hi, hj => by
    rw [Go.Sort.partEqLoop]
    have h1 := up_le (fun x => !ltE d[a]! x) d j i
    have h2 := up_ge (fun x => !ltE d[a]! x) d j i b hi hj
    generalize Go.Sort.scanUp (fun x => !ltE d[a]! x) d j i = i2 at h1 h2 ⊢
    have h3 := down_le (fun x => ltE d[a]! x) d i2 j
    generalize Go.Sort.scanDown (fun x => ltE d[a]! x) d i2 j = j2 at h3 ⊢
    split
    · exact ⟨h1, h2⟩
    · split
      · rename_i k1 k2
        match m, hm with
        | 0, hm => omega
        | m + 1, hm =>
          have := peq_range a b m (i2 + 1) (j2 - 1) (Go.Sort.swp d i2 j2) (by omega) (by omega) (by omega)
          omega
      · exact ⟨h1, h2⟩

theorem wpC_cut2 {X : Ctx} {α : Type} {r c b : Code} {Q : Ex → List AV → Store → Prop} {fr0 : List AV} {S0 : Store} (ix : List Nat) (F : α → List (Nat × AV)) (SS : α → Store → Store) (P : α → Prop)
    (h1 : wpC X r (seqK X c (cutK ix fr0 F SS P Q)) fr0 S0)
    (h2 : ∀ a (g : Nat → AV) (G : Store), P a → wpC X b Q (garbA ix g (setL fr0 (F a))) (SS a G)) : wpC X r (seqK X c (seqK X b Q)) fr0 S0 := by
  have key : ∀ fr S, wpC X c (cutK ix fr0 F SS P Q) fr S → wpC X c (seqK X b Q) fr S := fun fr S h => by
    refine wpC_mono (fun e fr S h => ?_) h
    cases e with
    | normal =>
      simp only [cutK] at h
      obtain ⟨a, k1, k2, G, rfl⟩ := h
      refine seqK_normal ?_
      rw [garb_of_erase k2]
      exact h2 a _ _ k1
    | exit id => simp only [cutK] at h; exact seqK_exit h
    | ret => simp only [cutK] at h; exact seqK_ret h
  refine wpC_mono (fun e fr S h => ?_) h1
  cases e with
  | normal => simp only [seqK] at h; exact seqK_normal (key fr S h)
  | exit id => simp only [seqK, cutK] at h; exact seqK_exit (seqK_exit h)
  | ret => simp only [seqK, cutK] at h; exact seqK_ret (seqK_ret h)

/-- What is left of the sort, at the head of its loop. -/
theorem pdqE : ∀ (m : Nat) (A C : Store) (d : Array El) (n w a b lim : Nat), b - a ≤ m → d.size = n → w ≤ n + T.length → a ≤ b → b ≤ n → n < 4294967296 → lim ≤ 100 →
    EvR CX 47 [.sl A.length (n + T.length) 0 n 2, .int .i64 a, .int .i64 b, .int .i64 lim, cmpV] (A ++ .arr (rowsD T d) 2 w true :: C) (fun v S => v = .tup [] ∧ Left T A C n (Go.Sort.pdq ltE d a b lim true true) S) := by
  intro m
  induction m using Nat.strongRecOn with | ind m ih => ?_
  intro A C d n w a b lim hm hn hw hab hb hsm hlim
  obtain ⟨R, hR⟩ : ∃ R, Go.Sort.pdq ltE d a b lim true true = R := ⟨_, rfl⟩
  rw [hR]
  refine EvR.walk rfl fn47 rfl nt47 rfl ?_
  simp only [List.length_cons, List.length_nil, List.cons_append, List.nil_append, Nat.reduceAdd, Nat.reduceSub, List.replicate]
  repeat' (first | refine go1 ?_ | refine blockK_else rfl ?_ | (refine wpC_cond fun A B hA hB => ?_; simp only [go_sem, reduceIte, Nat.reduceAdd, Nat.reduceEqDiff, Nat.reduceLT, Nat.reduceLeDiff, *, and_self, ]; first | (refine hA.out ?_; clear hA hB A B) | (refine hB.out ?_; clear hA hB A B) | (refine iteI (fun h => hA.out ?_) (fun h => hB.out ?_) <;> clear hA hB A B) | (refine iteI (fun h => hB.out ?_) (fun h => hA.out ?_) <;> clear hA hB A B)) | (refine wpO_cons fun K hK => ?_; simp only [go_sem, reduceIte, Nat.reduceAdd, Nat.reduceEqDiff, Nat.reduceLT, Nat.reduceLeDiff, *, and_self, ]; first | (refine hK.out _ _ ?_; clear hK K) | (refine iteI (fun h => hK.out _ _ ?_) (fun h => hK.out _ _ ?_) <;> clear hK K)))
  refine wpC_loopF [12, 13, 14, 15, 16, 17, 18, 19, 20, 21, 22, 23, 24, 25, 26, 27, 28, 29, 30, 31, 32, 33, 34, 35, 36, 37, 38, 39, 40, 41, 42, 43, 44, 45, 46, 47, 48, 49, 50, 51, 52, 53, 54, 55, 56, 57, 58, 59, 60, 61, 62, 63, 64, 65, 66, 67, 68, 69, 70, 71, 72, 73, 74, 75, 76, 77, 78, 79, 80, 81, 82, 83, 84, 85, 86, 87, 88, 89, 90, 91, 92, 93, 94, 95, 96, 97, 98, 99, 100, 101, 102, 103, 104, 105, 106, 107, 108, 109, 110, 111, 112, 113, 114, 115, 116, 117, 118, 119, 120, 121, 122, 123, 124, 125, 126, 127, 128, 129, 130, 131, 132, 133, 134, 135, 136, 137, 138, 139, 140, 141, 142, 143, 144, 145, 146, 147] (fun p : Nat × Nat × Nat × Bool × Bool × Array El × Nat => [(1, .int .i64 p.1), (2, .int .i64 p.2.1), (3, .int .i64 p.2.2.1), (10, .bool p.2.2.2.1), (11, .bool p.2.2.2.2.1)])
    (fun p G => A ++ .arr (rowsD T p.2.2.2.2.2.1) 2 p.2.2.2.2.2.2 true :: (C ++ G))
    (fun p => p.2.2.2.2.2.1.size = n ∧ p.2.2.2.2.2.2 ≤ n + T.length ∧ p.1 ≤ p.2.1 ∧ p.2.1 ≤ n ∧ p.2.1 - p.1 ≤ m ∧ p.2.2.1 ≤ 100 ∧ Go.Sort.pdq ltE p.2.2.2.2.2.1 p.1 p.2.1 p.2.2.1 p.2.2.2.1 p.2.2.2.2.1 = R) (fun p => p.2.1 - p.1) (a, b, lim, true, true, d, w) ⟨hn, hw, hab, hb, hm, hlim, hR⟩ ?_ ?_ ?_
  · rfl
  · exact ⟨[], by rw [List.append_nil]⟩
  clear hR hlim hm hb hab hw hn
  rintro ⟨a, b, lim, wb, wp, d, w⟩ g G ⟨hn, hw, hab, hb, hm, hlim, hR⟩
  simp only at hn hw hab hb hm hlim hR
  have q1 : IntKind.wrap .i64 ((b : Int) - (a : Int)) = ((b - a : Nat) : Int) := by rw [wrap_small (by omega) (by omega)]; omega
  rw [Go.Sort.pdq] at hR
  simp only [garbA_cons, garbA_nil, setL_cons, setL_nil, List.set_cons_zero, List.set_cons_succ]
  by_cases h12 : b - a ≤ 12
  · have h12' : ((b - a : Nat) : Int) ≤ 12 := by omega
    rw [if_pos h12] at hR
    repeat' (first | refine go1 ?_ | refine blockK_else rfl ?_ | (refine wpC_cond fun A B hA hB => ?_; simp only [go_sem, reduceIte, Nat.reduceAdd, Nat.reduceEqDiff, Nat.reduceLT, Nat.reduceLeDiff, *, and_self, ]; first | (refine hA.out ?_; clear hA hB A B) | (refine hB.out ?_; clear hA hB A B) | (refine iteI (fun h => hA.out ?_) (fun h => hB.out ?_) <;> clear hA hB A B) | (refine iteI (fun h => hB.out ?_) (fun h => hA.out ?_) <;> clear hA hB A B)) | (refine wpO_cons fun K hK => ?_; simp only [go_sem, reduceIte, Nat.reduceAdd, Nat.reduceEqDiff, Nat.reduceLT, Nat.reduceLeDiff, *, and_self, ]; first | (refine hK.out _ _ ?_; clear hK K) | (refine iteI (fun h => hK.out _ _ ?_) (fun h => hK.out _ _ ?_) <;> clear hK K)))
    refine wpO_cons fun K hK => ?_
    simp only [go_sem, reduceIte, Nat.reduceAdd, Nat.reduceEqDiff, Nat.reduceLT, Nat.reduceLeDiff, and_self, callK_fn]
    refine EvR.mono (insE A (C ++ G) d n w a b hn hw hb hab (by omega)) ?_
    rw [hR]
    rintro _ S ⟨rfl, hL⟩
    obtain ⟨w', C', hn2, hw2, rfl⟩ := left_shift hL
    refine hK.out _ _ ?_
    clear hK K
    repeat' (first | refine go1 ?_ | refine blockK_else rfl ?_ | (refine wpC_cond fun A B hA hB => ?_; simp only [go_sem, reduceIte, Nat.reduceAdd, Nat.reduceEqDiff, Nat.reduceLT, Nat.reduceLeDiff, *, and_self, ]; first | (refine hA.out ?_; clear hA hB A B) | (refine hB.out ?_; clear hA hB A B) | (refine iteI (fun h => hA.out ?_) (fun h => hB.out ?_) <;> clear hA hB A B) | (refine iteI (fun h => hB.out ?_) (fun h => hA.out ?_) <;> clear hA hB A B)) | (refine wpO_cons fun K hK => ?_; simp only [go_sem, reduceIte, Nat.reduceAdd, Nat.reduceEqDiff, Nat.reduceLT, Nat.reduceLeDiff, *, and_self, ]; first | (refine hK.out _ _ ?_; clear hK K) | (refine iteI (fun h => hK.out _ _ ?_) (fun h => hK.out _ _ ?_) <;> clear hK K)))
    simp only [resultsR, resultsL, resultA, expK_int, expK_bool, expK_str, expK_agg, expK_own, expK_tsl, resK_some, go_sem, reduceIte, Nat.reduceAdd, Nat.reduceEqDiff, Nat.reduceLT, Nat.reduceLeDiff, and_self, ]
    exact ⟨hn2, w', _, hw2, rfl⟩
  have h12' : ¬ ((b - a : Nat) : Int) ≤ 12 := by omega
  rw [if_neg h12] at hR
  by_cases hl0 : lim = 0
  · subst hl0
    rw [if_pos rfl] at hR
    have z : ((0 : Nat) : Int) = 0 := rfl
    repeat' (first | refine go1 ?_ | refine blockK_else rfl ?_ | (refine wpC_cond fun A B hA hB => ?_; simp only [go_sem, reduceIte, Nat.reduceAdd, Nat.reduceEqDiff, Nat.reduceLT, Nat.reduceLeDiff, *, and_self, z]; first | (refine hA.out ?_; clear hA hB A B) | (refine hB.out ?_; clear hA hB A B) | (refine iteI (fun h => hA.out ?_) (fun h => hB.out ?_) <;> clear hA hB A B) | (refine iteI (fun h => hB.out ?_) (fun h => hA.out ?_) <;> clear hA hB A B)) | (refine wpO_cons fun K hK => ?_; simp only [go_sem, reduceIte, Nat.reduceAdd, Nat.reduceEqDiff, Nat.reduceLT, Nat.reduceLeDiff, *, and_self, z]; first | (refine hK.out _ _ ?_; clear hK K) | (refine iteI (fun h => hK.out _ _ ?_) (fun h => hK.out _ _ ?_) <;> clear hK K)))
    refine wpO_cons fun K hK => ?_
    simp only [go_sem, reduceIte, Nat.reduceAdd, Nat.reduceEqDiff, Nat.reduceLT, Nat.reduceLeDiff, and_self, callK_fn]
    refine EvR.mono (heapE A (C ++ G) d n w a b hn hw hab hb (by omega)) ?_
    rw [hR]
    rintro _ S ⟨rfl, hL⟩
    obtain ⟨w', C', hn2, hw2, rfl⟩ := left_shift hL
    refine hK.out _ _ ?_
    clear hK K
    repeat' (first | refine go1 ?_ | refine blockK_else rfl ?_ | (refine wpC_cond fun A B hA hB => ?_; simp only [go_sem, reduceIte, Nat.reduceAdd, Nat.reduceEqDiff, Nat.reduceLT, Nat.reduceLeDiff, *, and_self, ]; first | (refine hA.out ?_; clear hA hB A B) | (refine hB.out ?_; clear hA hB A B) | (refine iteI (fun h => hA.out ?_) (fun h => hB.out ?_) <;> clear hA hB A B) | (refine iteI (fun h => hB.out ?_) (fun h => hA.out ?_) <;> clear hA hB A B)) | (refine wpO_cons fun K hK => ?_; simp only [go_sem, reduceIte, Nat.reduceAdd, Nat.reduceEqDiff, Nat.reduceLT, Nat.reduceLeDiff, *, and_self, ]; first | (refine hK.out _ _ ?_; clear hK K) | (refine iteI (fun h => hK.out _ _ ?_) (fun h => hK.out _ _ ?_) <;> clear hK K)))
    simp only [resultsR, resultsL, resultA, expK_int, expK_bool, expK_str, expK_agg, expK_own, expK_tsl, resK_some, go_sem, reduceIte, Nat.reduceAdd, Nat.reduceEqDiff, Nat.reduceLT, Nat.reduceLeDiff, and_self, ]
    exact ⟨hn2, w', _, hw2, rfl⟩
  have hl0' : ¬ (lim : Int) = 0 := by omega
  rw [if_neg hl0] at hR
  obtain ⟨d1, hd1⟩ : ∃ d1, (if !wb then Go.Sort.breakPatterns d a b else d) = d1 := ⟨_, rfl⟩
  obtain ⟨lim1, hlim1⟩ : ∃ l, (if !wb then lim - 1 else lim) = l := ⟨_, rfl⟩
  simp only [hd1, hlim1] at hR
  repeat' (first | refine go1 ?_ | refine blockK_else rfl ?_ | (refine wpO_cons fun K hK => ?_; simp only [go_sem, reduceIte, Nat.reduceAdd, Nat.reduceEqDiff, Nat.reduceLT, Nat.reduceLeDiff, *, and_self, ]; first | (refine hK.out _ _ ?_; clear hK K) | (refine iteI (fun h => hK.out _ _ ?_) (fun h => hK.out _ _ ?_) <;> clear hK K)))
  (refine wpC_cond fun A B hA hB => ?_; simp only [go_sem, reduceIte, Nat.reduceAdd, Nat.reduceEqDiff, Nat.reduceLT, Nat.reduceLeDiff, *, and_self, ]; first | (refine hA.out ?_; clear hA hB A B) | (refine hB.out ?_; clear hA hB A B))
  repeat' (first | refine go1 ?_ | refine blockK_else rfl ?_ | (refine wpO_cons fun K hK => ?_; simp only [go_sem, reduceIte, Nat.reduceAdd, Nat.reduceEqDiff, Nat.reduceLT, Nat.reduceLeDiff, *, and_self, ]; first | (refine hK.out _ _ ?_; clear hK K) | (refine iteI (fun h => hK.out _ _ ?_) (fun h => hK.out _ _ ?_) <;> clear hK K)))
  (refine wpC_cond fun A B hA hB => ?_; simp only [go_sem, reduceIte, Nat.reduceAdd, Nat.reduceEqDiff, Nat.reduceLT, Nat.reduceLeDiff, *, and_self, ]; first | (refine hA.out ?_; clear hA hB A B) | (refine hB.out ?_; clear hA hB A B))
  repeat' (first | refine go1 ?_ | refine blockK_else rfl ?_ | (refine wpO_cons fun K hK => ?_; simp only [go_sem, reduceIte, Nat.reduceAdd, Nat.reduceEqDiff, Nat.reduceLT, Nat.reduceLeDiff, *, and_self, ]; first | (refine hK.out _ _ ?_; clear hK K) | (refine iteI (fun h => hK.out _ _ ?_) (fun h => hK.out _ _ ?_) <;> clear hK K)))
  refine wpC_cut [38, 39, 40, 41, 42, 43, 44, 45, 46] (fun _ : Nat => [(3, .int .i64 lim1)]) (fun w H => A ++ .arr (rowsD T d1) 2 w true :: (C ++ H)) (fun w => d1.size = n ∧ w ≤ n + T.length) ?_ ?_
  · cases wb with
    | true =>
      simp only [Bool.not_true, Bool.false_eq_true, if_false] at hd1 hlim1
      subst hd1 hlim1
      repeat' (first | refine go1 ?_ | refine blockK_else rfl ?_ | (refine wpC_cond fun A B hA hB => ?_; simp only [go_sem, reduceIte, Nat.reduceAdd, Nat.reduceEqDiff, Nat.reduceLT, Nat.reduceLeDiff, *, and_self, ]; first | (refine hA.out ?_; clear hA hB A B) | (refine hB.out ?_; clear hA hB A B) | (refine iteI (fun h => hA.out ?_) (fun h => hB.out ?_) <;> clear hA hB A B) | (refine iteI (fun h => hB.out ?_) (fun h => hA.out ?_) <;> clear hA hB A B)) | (refine wpO_cons fun K hK => ?_; simp only [go_sem, reduceIte, Nat.reduceAdd, Nat.reduceEqDiff, Nat.reduceLT, Nat.reduceLeDiff, *, and_self, ]; first | (refine hK.out _ _ ?_; clear hK K) | (refine iteI (fun h => hK.out _ _ ?_) (fun h => hK.out _ _ ?_) <;> clear hK K)))
      refine cut_next w ⟨hn, hw⟩ ?_ ⟨_, rfl⟩
      ((try simp only [eraseA_cons, eraseA_nil, setL_cons, setL_nil, List.set_cons_zero, List.set_cons_succ]); all_goals (first | rfl | (simp only [len_snoc, ints_len, List.length_map, ]; done) | (simp only [len_snoc, len_mid, ints_len, List.length_map, List.length_append, List.length_cons, List.length_nil, Nat.zero_add, ]; done) | (simp only [len_mid, len_snoc, ints_len, List.length_map, List.length_append, List.length_cons, List.length_nil, Nat.zero_add, ]; rfl)))
    | false =>
      simp only [Bool.not_false, if_true] at hd1 hlim1
      have w1 : IntKind.wrap .i64 ((lim : Int) - 1) = (lim1 : Int) := by rw [wrap_small (by omega) (by omega)]; omega
      repeat' (first | refine go1 ?_ | refine blockK_else rfl ?_ | (refine wpC_cond fun A B hA hB => ?_; simp only [go_sem, reduceIte, Nat.reduceAdd, Nat.reduceEqDiff, Nat.reduceLT, Nat.reduceLeDiff, *, and_self, ]; first | (refine hA.out ?_; clear hA hB A B) | (refine hB.out ?_; clear hA hB A B) | (refine iteI (fun h => hA.out ?_) (fun h => hB.out ?_) <;> clear hA hB A B) | (refine iteI (fun h => hB.out ?_) (fun h => hA.out ?_) <;> clear hA hB A B)) | (refine wpO_cons fun K hK => ?_; simp only [go_sem, reduceIte, Nat.reduceAdd, Nat.reduceEqDiff, Nat.reduceLT, Nat.reduceLeDiff, *, and_self, ]; first | (refine hK.out _ _ ?_; clear hK K) | (refine iteI (fun h => hK.out _ _ ?_) (fun h => hK.out _ _ ?_) <;> clear hK K)))
      refine wpO_cons fun K hK => ?_
      simp only [go_sem, reduceIte, Nat.reduceAdd, Nat.reduceEqDiff, Nat.reduceLT, Nat.reduceLeDiff, and_self, callK_fn]
      refine EvR.mono (breakE A (C ++ G) d n w a b hn hw (by omega) hb hsm) ?_
      rw [hd1]
      rintro _ S ⟨rfl, hL⟩
      obtain ⟨w', C', hn2, hw2, rfl⟩ := left_shift hL
      refine hK.out _ _ ?_
      clear hK K
      repeat' (first | refine go1 ?_ | refine blockK_else rfl ?_ | (refine wpC_cond fun A B hA hB => ?_; simp only [go_sem, reduceIte, Nat.reduceAdd, Nat.reduceEqDiff, Nat.reduceLT, Nat.reduceLeDiff, *, and_self, ]; first | (refine hA.out ?_; clear hA hB A B) | (refine hB.out ?_; clear hA hB A B) | (refine iteI (fun h => hA.out ?_) (fun h => hB.out ?_) <;> clear hA hB A B) | (refine iteI (fun h => hB.out ?_) (fun h => hA.out ?_) <;> clear hA hB A B)) | (refine wpO_cons fun K hK => ?_; simp only [go_sem, reduceIte, Nat.reduceAdd, Nat.reduceEqDiff, Nat.reduceLT, Nat.reduceLeDiff, *, and_self, ]; first | (refine hK.out _ _ ?_; clear hK K) | (refine iteI (fun h => hK.out _ _ ?_) (fun h => hK.out _ _ ?_) <;> clear hK K)))
      refine cut_next w' ⟨hn2, hw2⟩ ?_ ⟨_, rfl⟩
      ((try simp only [eraseA_cons, eraseA_nil, setL_cons, setL_nil, List.set_cons_zero, List.set_cons_succ]); all_goals (first | rfl | (simp only [len_snoc, ints_len, List.length_map, ]; done) | (simp only [len_snoc, len_mid, ints_len, List.length_map, List.length_append, List.length_cons, List.length_nil, Nat.zero_add, ]; done) | (simp only [len_mid, len_snoc, ints_len, List.length_map, List.length_append, List.length_cons, List.length_nil, Nat.zero_add, ]; rfl)))
  clear hd1 hw hn
  have hlim' : lim1 ≤ 100 := by rw [← hlim1]; split <;> omega
  clear hlim1 hlim hl0' hl0
  rintro w g G ⟨hn, hw⟩
  simp only [garbA_cons, garbA_nil, setL_cons, setL_nil, List.set_cons_zero, List.set_cons_succ]
  repeat' (first | refine go1 ?_ | refine blockK_else rfl ?_ | (refine wpO_cons fun K hK => ?_; simp only [go_sem, reduceIte, Nat.reduceAdd, Nat.reduceEqDiff, Nat.reduceLT, Nat.reduceLeDiff, *, and_self, ]; first | (refine hK.out _ _ ?_; clear hK K) | (refine iteI (fun h => hK.out _ _ ?_) (fun h => hK.out _ _ ?_) <;> clear hK K)))
  have hch := Go.Sort.choosePivot_holds ltE d1 a b (by omega)
  refine wpO_cons fun K hK => ?_
  simp only [go_sem, reduceIte, Nat.reduceAdd, Nat.reduceEqDiff, Nat.reduceLT, Nat.reduceLeDiff, and_self, callK_fn]
  refine EvR.mono (chooseE A (C ++ G) d1 n w a b hn hw (by omega) hb (by omega)) ?_
  obtain ⟨cp, hcp⟩ : ∃ c, Go.Sort.choosePivot ltE d1 a b = c := ⟨_, rfl⟩
  rw [hcp] at hch ⊢
  simp only [hcp] at hR
  rintro _ S ⟨rfl, hL⟩
  obtain ⟨w', C', _, hw2, rfl⟩ := left_shift hL
  refine hK.out _ _ ?_
  clear hK K
  repeat' (first | refine go1 ?_ | refine blockK_else rfl ?_ | (refine wpO_cons fun K hK => ?_; simp only [go_sem, reduceIte, Nat.reduceAdd, Nat.reduceEqDiff, Nat.reduceLT, Nat.reduceLeDiff, *, and_self, ]; first | (refine hK.out _ _ ?_; clear hK K) | (refine iteI (fun h => hK.out _ _ ?_) (fun h => hK.out _ _ ?_) <;> clear hK K)))
  clear hL hw w
  obtain ⟨d2, hd2⟩ : ∃ x, (if cp.2 = .decreasing then Go.Sort.reverseRange d1 a b else d1) = x := ⟨_, rfl⟩
  obtain ⟨pv, hpv⟩ : ∃ x, (if cp.2 = .decreasing then (b - 1) - (cp.1 - a) else cp.1) = x := ⟨_, rfl⟩
  obtain ⟨hint, hhi⟩ : ∃ x, (if cp.2 = .decreasing then Go.Sort.Hint.increasing else cp.2) = x := ⟨_, rfl⟩
  simp only [hd2, hpv, hhi] at hR
  have hpr : a ≤ pv ∧ pv < b := by rw [← hpv]; split <;> omega
  refine wpC_cut [55, 56, 57, 58, 59, 60, 61, 62, 63, 64, 65, 66, 67] (fun _ : Nat => [(13, .int .i64 pv), (14, .int .i64 (Go.Sort.hintCode hint))]) (fun w H => A ++ .arr (rowsD T d2) 2 w true :: (C ++ H)) (fun w => d2.size = n ∧ w ≤ n + T.length) ?_ ?_
  · by_cases hdec : cp.2 = .decreasing
    · rw [if_pos hdec] at hd2 hpv hhi
      have e1 : Go.Sort.hintCode cp.2 = 2 := by rw [hdec]; rfl
      have e2 : Go.Sort.hintCode hint = 1 := by rw [← hhi]; rfl
      have w1 : IntKind.wrap .i64 ((b : Int) - 1) = ((b - 1 : Nat) : Int) := by rw [wrap_small (by omega) (by omega)]; omega
      have w2 : IntKind.wrap .i64 ((cp.1 : Int) - (a : Int)) = ((cp.1 - a : Nat) : Int) := by rw [wrap_small (by omega) (by omega)]; omega
      have w3 : IntKind.wrap .i64 (((b - 1 : Nat) : Int) - ((cp.1 - a : Nat) : Int)) = (pv : Int) := by rw [wrap_small (by omega) (by omega)]; omega
      clear hhi hdec
      repeat' (first | refine go1 ?_ | refine blockK_else rfl ?_ | (refine wpC_cond fun A B hA hB => ?_; simp only [go_sem, reduceIte, Nat.reduceAdd, Nat.reduceEqDiff, Nat.reduceLT, Nat.reduceLeDiff, *, and_self, ]; first | (refine hA.out ?_; clear hA hB A B) | (refine hB.out ?_; clear hA hB A B) | (refine iteI (fun h => hA.out ?_) (fun h => hB.out ?_) <;> clear hA hB A B) | (refine iteI (fun h => hB.out ?_) (fun h => hA.out ?_) <;> clear hA hB A B)) | (refine wpO_cons fun K hK => ?_; simp only [go_sem, reduceIte, Nat.reduceAdd, Nat.reduceEqDiff, Nat.reduceLT, Nat.reduceLeDiff, *, and_self, ]; first | (refine hK.out _ _ ?_; clear hK K) | (refine iteI (fun h => hK.out _ _ ?_) (fun h => hK.out _ _ ?_) <;> clear hK K)))
      refine wpO_cons fun K hK => ?_
      simp only [go_sem, reduceIte, Nat.reduceAdd, Nat.reduceEqDiff, Nat.reduceLT, Nat.reduceLeDiff, and_self, callK_fn]
      refine EvR.mono (revE A (C ++ C') d1 n w' a b hn hw2 (by omega) hb (by omega)) ?_
      rw [hd2]
      rintro _ S ⟨rfl, hL⟩
      obtain ⟨w'', C'', hn3, hw3, rfl⟩ := left_shift hL
      refine hK.out _ _ ?_
      clear hK K
      repeat' (first | refine go1 ?_ | refine blockK_else rfl ?_ | (refine wpC_cond fun A B hA hB => ?_; simp only [go_sem, reduceIte, Nat.reduceAdd, Nat.reduceEqDiff, Nat.reduceLT, Nat.reduceLeDiff, *, and_self, ]; first | (refine hA.out ?_; clear hA hB A B) | (refine hB.out ?_; clear hA hB A B) | (refine iteI (fun h => hA.out ?_) (fun h => hB.out ?_) <;> clear hA hB A B) | (refine iteI (fun h => hB.out ?_) (fun h => hA.out ?_) <;> clear hA hB A B)) | (refine wpO_cons fun K hK => ?_; simp only [go_sem, reduceIte, Nat.reduceAdd, Nat.reduceEqDiff, Nat.reduceLT, Nat.reduceLeDiff, *, and_self, ]; first | (refine hK.out _ _ ?_; clear hK K) | (refine iteI (fun h => hK.out _ _ ?_) (fun h => hK.out _ _ ?_) <;> clear hK K)))
      refine cut_next w'' ⟨hn3, hw3⟩ ?_ ⟨_, rfl⟩
      ((try simp only [eraseA_cons, eraseA_nil, setL_cons, setL_nil, List.set_cons_zero, List.set_cons_succ]); all_goals (first | rfl | (simp only [len_snoc, ints_len, List.length_map, e1, e2]; done) | (simp only [len_snoc, len_mid, ints_len, List.length_map, List.length_append, List.length_cons, List.length_nil, Nat.zero_add, e1, e2]; done) | (simp only [len_mid, len_snoc, ints_len, List.length_map, List.length_append, List.length_cons, List.length_nil, Nat.zero_add, e1, e2]; rfl)))
    · rw [if_neg hdec] at hd2 hpv hhi
      subst hd2 hpv hhi
      have e1 : ¬ Go.Sort.hintCode cp.2 = 2 := by intro e; cases hh : cp.2 <;> rw [hh] at e hdec <;> simp [Go.Sort.hintCode] at e hdec
      clear hdec
      repeat' (first | refine go1 ?_ | refine blockK_else rfl ?_ | (refine wpC_cond fun A B hA hB => ?_; simp only [go_sem, reduceIte, Nat.reduceAdd, Nat.reduceEqDiff, Nat.reduceLT, Nat.reduceLeDiff, *, and_self, ]; first | (refine hA.out ?_; clear hA hB A B) | (refine hB.out ?_; clear hA hB A B) | (refine iteI (fun h => hA.out ?_) (fun h => hB.out ?_) <;> clear hA hB A B) | (refine iteI (fun h => hB.out ?_) (fun h => hA.out ?_) <;> clear hA hB A B)) | (refine wpO_cons fun K hK => ?_; simp only [go_sem, reduceIte, Nat.reduceAdd, Nat.reduceEqDiff, Nat.reduceLT, Nat.reduceLeDiff, *, and_self, ]; first | (refine hK.out _ _ ?_; clear hK K) | (refine iteI (fun h => hK.out _ _ ?_) (fun h => hK.out _ _ ?_) <;> clear hK K)))
      refine cut_next w' ⟨hn, hw2⟩ ?_ ⟨_, rfl⟩
      ((try simp only [eraseA_cons, eraseA_nil, setL_cons, setL_nil, List.set_cons_zero, List.set_cons_succ]); all_goals (first | rfl | (simp only [len_snoc, ints_len, List.length_map, ]; done) | (simp only [len_snoc, len_mid, ints_len, List.length_map, List.length_append, List.length_cons, List.length_nil, Nat.zero_add, ]; done) | (simp only [len_mid, len_snoc, ints_len, List.length_map, List.length_append, List.length_cons, List.length_nil, Nat.zero_add, ]; rfl)))
  clear hd2 hpv hhi hch hw2 hn
  rintro w g H ⟨hn, hw⟩
  simp only [garbA_cons, garbA_nil, setL_cons, setL_nil, List.set_cons_zero, List.set_cons_succ]
  obtain ⟨pi, hpi⟩ : ∃ x, (if (wb && wp && decide (hint = Go.Sort.Hint.increasing)) = true then Go.Sort.partialInsertionSort ltE d2 a b else (d2, false)) = x := ⟨_, rfl⟩
  simp only [hpi] at hR
  refine wpC_seq ?_
  refine wpC_seq ?_
  refine wpC_cut2 [68, 69, 70, 71, 72, 73, 74, 75, 76, 77, 78, 79, 80] (fun _ : Nat => []) (fun w H => A ++ .arr (rowsD T pi.1) 2 w true :: (C ++ H)) (fun w => pi.1.size = n ∧ w ≤ n + T.length ∧ pi.2 = false) ?_ ?_
  · by_cases hc : (wb && wp && decide (hint = Go.Sort.Hint.increasing)) = true
    · rw [if_pos hc] at hpi
      simp only [Bool.and_eq_true, decide_eq_true_eq] at hc
      obtain ⟨⟨rfl, rfl⟩, rfl⟩ := hc
      have e1 : Go.Sort.hintCode Go.Sort.Hint.increasing = 1 := rfl
      repeat' (first | refine go1 ?_ | refine blockK_else rfl ?_ | (refine wpC_cond fun A B hA hB => ?_; simp only [go_sem, reduceIte, Nat.reduceAdd, Nat.reduceEqDiff, Nat.reduceLT, Nat.reduceLeDiff, *, and_self, e1]; first | (refine hA.out ?_; clear hA hB A B) | (refine hB.out ?_; clear hA hB A B) | (refine iteI (fun h => hA.out ?_) (fun h => hB.out ?_) <;> clear hA hB A B) | (refine iteI (fun h => hB.out ?_) (fun h => hA.out ?_) <;> clear hA hB A B)) | (refine wpO_cons fun K hK => ?_; simp only [go_sem, reduceIte, Nat.reduceAdd, Nat.reduceEqDiff, Nat.reduceLT, Nat.reduceLeDiff, *, and_self, e1]; first | (refine hK.out _ _ ?_; clear hK K) | (refine iteI (fun h => hK.out _ _ ?_) (fun h => hK.out _ _ ?_) <;> clear hK K)))
      refine wpO_cons fun K hK => ?_
      simp only [go_sem, reduceIte, Nat.reduceAdd, Nat.reduceEqDiff, Nat.reduceLT, Nat.reduceLeDiff, and_self, callK_fn]
      refine EvR.mono (partE A (C ++ H) d2 n w a b hn hw (by omega) hb (by omega)) ?_
      rw [hpi]
      rintro _ S ⟨rfl, hL⟩
      obtain ⟨w'', C'', hn3, hw3, rfl⟩ := left_shift hL
      refine hK.out _ _ ?_
      clear hK K
      obtain ⟨d3, pb⟩ := pi
      cases pb with
      | true =>
        simp only [if_true] at hR
        subst hR
        repeat' (first | refine go1 ?_ | refine blockK_else rfl ?_ | (refine wpC_cond fun A B hA hB => ?_; simp only [go_sem, reduceIte, Nat.reduceAdd, Nat.reduceEqDiff, Nat.reduceLT, Nat.reduceLeDiff, *, and_self, ]; first | (refine hA.out ?_; clear hA hB A B) | (refine hB.out ?_; clear hA hB A B) | (refine iteI (fun h => hA.out ?_) (fun h => hB.out ?_) <;> clear hA hB A B) | (refine iteI (fun h => hB.out ?_) (fun h => hA.out ?_) <;> clear hA hB A B)) | (refine wpO_cons fun K hK => ?_; simp only [go_sem, reduceIte, Nat.reduceAdd, Nat.reduceEqDiff, Nat.reduceLT, Nat.reduceLeDiff, *, and_self, ]; first | (refine hK.out _ _ ?_; clear hK K) | (refine iteI (fun h => hK.out _ _ ?_) (fun h => hK.out _ _ ?_) <;> clear hK K)))
        simp only [resultsR, resultsL, resultA, expK_int, expK_bool, expK_str, expK_agg, expK_own, expK_tsl, resK_some, go_sem, reduceIte, Nat.reduceAdd, Nat.reduceEqDiff, Nat.reduceLT, Nat.reduceLeDiff, and_self, ]
        exact ⟨hn3, w'', _, hw3, rfl⟩
      | false =>
        repeat' (first | refine go1 ?_ | refine blockK_else rfl ?_ | (refine wpC_cond fun A B hA hB => ?_; simp only [go_sem, reduceIte, Nat.reduceAdd, Nat.reduceEqDiff, Nat.reduceLT, Nat.reduceLeDiff, *, and_self, ]; first | (refine hA.out ?_; clear hA hB A B) | (refine hB.out ?_; clear hA hB A B) | (refine iteI (fun h => hA.out ?_) (fun h => hB.out ?_) <;> clear hA hB A B) | (refine iteI (fun h => hB.out ?_) (fun h => hA.out ?_) <;> clear hA hB A B)) | (refine wpO_cons fun K hK => ?_; simp only [go_sem, reduceIte, Nat.reduceAdd, Nat.reduceEqDiff, Nat.reduceLT, Nat.reduceLeDiff, *, and_self, ]; first | (refine hK.out _ _ ?_; clear hK K) | (refine iteI (fun h => hK.out _ _ ?_) (fun h => hK.out _ _ ?_) <;> clear hK K)))
        refine cut_next w'' ⟨hn3, hw3, rfl⟩ ?_ ⟨_, rfl⟩
        ((try simp only [eraseA_cons, eraseA_nil, setL_cons, setL_nil, List.set_cons_zero, List.set_cons_succ]); all_goals (first | rfl | (simp only [len_snoc, ints_len, List.length_map, ]; done) | (simp only [len_snoc, len_mid, ints_len, List.length_map, List.length_append, List.length_cons, List.length_nil, Nat.zero_add, ]; done) | (simp only [len_mid, len_snoc, ints_len, List.length_map, List.length_append, List.length_cons, List.length_nil, Nat.zero_add, ]; rfl)))
    · rw [if_neg hc] at hpi
      subst hpi
      have e0 : wb = true → wp = true → ¬ Go.Sort.hintCode hint = 1 := by
        rintro rfl rfl e
        cases hint <;> simp [Go.Sort.hintCode] at hc e
      clear hc hR
      cases wb <;> cases wp
      all_goals
        try have e1 := e0 rfl rfl
        clear e0
        repeat' (first | refine go1 ?_ | refine blockK_else rfl ?_ | (refine wpC_cond fun A B hA hB => ?_; simp only [go_sem, reduceIte, Nat.reduceAdd, Nat.reduceEqDiff, Nat.reduceLT, Nat.reduceLeDiff, *, and_self, ]; first | (refine hA.out ?_; clear hA hB A B) | (refine hB.out ?_; clear hA hB A B) | (refine iteI (fun h => hA.out ?_) (fun h => hB.out ?_) <;> clear hA hB A B) | (refine iteI (fun h => hB.out ?_) (fun h => hA.out ?_) <;> clear hA hB A B)) | (refine wpO_cons fun K hK => ?_; simp only [go_sem, reduceIte, Nat.reduceAdd, Nat.reduceEqDiff, Nat.reduceLT, Nat.reduceLeDiff, *, and_self, ]; first | (refine hK.out _ _ ?_; clear hK K) | (refine iteI (fun h => hK.out _ _ ?_) (fun h => hK.out _ _ ?_) <;> clear hK K)))
        refine cut_next w ⟨hn, hw, rfl⟩ ?_ ⟨_, rfl⟩
        ((try simp only [eraseA_cons, eraseA_nil, setL_cons, setL_nil, List.set_cons_zero, List.set_cons_succ]); all_goals (first | rfl | (simp only [len_snoc, ints_len, List.length_map, ]; done) | (simp only [len_snoc, len_mid, ints_len, List.length_map, List.length_append, List.length_cons, List.length_nil, Nat.zero_add, ]; done) | (simp only [len_mid, len_snoc, ints_len, List.length_map, List.length_append, List.length_cons, List.length_nil, Nat.zero_add, ]; rfl)))
  clear hpi hn hw w
  rintro w g H ⟨hn, hw, hpf⟩
  rw [hpf] at hR
  simp only [Bool.false_eq_true, if_false] at hR
  obtain ⟨d3, hd3⟩ : ∃ x, pi.1 = x := ⟨_, rfl⟩
  rw [hd3] at hR hn ⊢
  simp only [garbA_cons, garbA_nil, setL_cons, setL_nil, List.set_cons_zero, List.set_cons_succ]
  clear hd3 hpf
  have p1 : a - 1 < n := by omega
  have p2 : pv < n := by omega
  by_cases heq : (decide (a > 0) && !ltE d3[a - 1]! d3[pv]!) = true
  · rw [if_pos heq] at hR
    simp only [Bool.and_eq_true, decide_eq_true_eq, Bool.not_eq_true'] at heq
    obtain ⟨ha0, hlt⟩ := heq
    have ha0' : (0 : Int) < (a : Int) := by omega
    have w1 : IntKind.wrap .i64 ((a : Int) - 1) = ((a - 1 : Nat) : Int) := by rw [wrap_small (by omega) (by omega)]; omega
    have hr := peq_range a b (b - 1 + 1 - (a + 1)) (a + 1) (b - 1) (Go.Sort.swp d3 a pv) (Nat.le_refl _) (by omega) (by omega)
    have hpe : Go.Sort.partitionEqual ltE d3 a b pv = Go.Sort.partEqLoop ltE a (a + 1) (b - 1) (Go.Sort.swp d3 a pv) := rfl
    rw [← hpe] at hr
    clear hpe
    repeat' (first | refine go1 ?_ | refine blockK_else rfl ?_ | (refine wpC_cond fun A B hA hB => ?_; simp only [go_sem, reduceIte, Nat.reduceAdd, Nat.reduceEqDiff, Nat.reduceLT, Nat.reduceLeDiff, *, and_self, getElem?_len, set_len, idxD, ltT, rowsD_get, rowsD_len, rowsD_put, dropD, takeD, sizeD, (lessE _ _ _ _).rw, cmpI_lt, Bool.decide_eq_true, encE, ty23, ty3, hlt]; first | (refine hA.out ?_; clear hA hB A B) | (refine hB.out ?_; clear hA hB A B) | (refine iteI (fun h => hA.out ?_) (fun h => hB.out ?_) <;> clear hA hB A B) | (refine iteI (fun h => hB.out ?_) (fun h => hA.out ?_) <;> clear hA hB A B)) | (refine wpO_cons fun K hK => ?_; simp only [go_sem, reduceIte, Nat.reduceAdd, Nat.reduceEqDiff, Nat.reduceLT, Nat.reduceLeDiff, *, and_self, getElem?_len, set_len, idxD, ltT, rowsD_get, rowsD_len, rowsD_put, dropD, takeD, sizeD, (lessE _ _ _ _).rw, cmpI_lt, Bool.decide_eq_true, encE, ty23, ty3, hlt]; first | (refine hK.out _ _ ?_; clear hK K) | (refine iteI (fun h => hK.out _ _ ?_) (fun h => hK.out _ _ ?_) <;> clear hK K)))
    refine wpO_cons fun K hK => ?_
    simp only [go_sem, reduceIte, Nat.reduceAdd, Nat.reduceEqDiff, Nat.reduceLT, Nat.reduceLeDiff, and_self, callK_fn]
    refine EvR.mono (partEqE A (C ++ H) d3 n w a b pv hn hw hpr.1 hpr.2 hb (by omega)) ?_
    obtain ⟨⟨mid, d4⟩, hP⟩ : ∃ x, Go.Sort.partitionEqual ltE d3 a b pv = x := ⟨_, rfl⟩
    rw [hP] at hr ⊢
    simp only [hP] at hR hr
    rw [dif_pos (by omega)] at hR
    rintro _ S ⟨rfl, hL⟩
    obtain ⟨w'', C'', hn3, hw3, rfl⟩ := left_shift hL
    refine hK.out _ _ ?_
    clear hK K
    repeat' (first | refine go1 ?_ | refine blockK_else rfl ?_ | (refine wpC_cond fun A B hA hB => ?_; simp only [go_sem, reduceIte, Nat.reduceAdd, Nat.reduceEqDiff, Nat.reduceLT, Nat.reduceLeDiff, *, and_self, ]; first | (refine hA.out ?_; clear hA hB A B) | (refine hB.out ?_; clear hA hB A B) | (refine iteI (fun h => hA.out ?_) (fun h => hB.out ?_) <;> clear hA hB A B) | (refine iteI (fun h => hB.out ?_) (fun h => hA.out ?_) <;> clear hA hB A B)) | (refine wpO_cons fun K hK => ?_; simp only [go_sem, reduceIte, Nat.reduceAdd, Nat.reduceEqDiff, Nat.reduceLT, Nat.reduceLeDiff, *, and_self, ]; first | (refine hK.out _ _ ?_; clear hK K) | (refine iteI (fun h => hK.out _ _ ?_) (fun h => hK.out _ _ ?_) <;> clear hK K)))
    refine loopF_next (mid, b, lim1, wb, wp, d4, w'') (by simp only; omega) ⟨hn3, hw3, by simp only; omega, hb, by simp only; omega, hlim', hR⟩ ?_ ⟨_, rfl⟩
    ((try simp only [eraseA_cons, eraseA_nil, setL_cons, setL_nil, List.set_cons_zero, List.set_cons_succ]); all_goals (first | rfl | (simp only [len_snoc, ints_len, List.length_map, ]; done) | (simp only [len_snoc, len_mid, ints_len, List.length_map, List.length_append, List.length_cons, List.length_nil, Nat.zero_add, ]; done) | (simp only [len_mid, len_snoc, ints_len, List.length_map, List.length_append, List.length_cons, List.length_nil, Nat.zero_add, ]; rfl)))
  · rw [if_neg heq] at hR
    have hpr2 := Go.Sort.partition_holds ltE swo_ltE d3 a b pv hpr.1 hpr.2 (by omega)
    have hr : a ≤ (Go.Sort.partition ltE d3 a b pv).1 ∧ (Go.Sort.partition ltE d3 a b pv).1 < b := ⟨hpr2.1, hpr2.2.1⟩
    clear hpr2
    have w1 : (0 : Int) < (a : Int) → IntKind.wrap .i64 ((a : Int) - 1) = ((a - 1 : Nat) : Int) := fun _ => by rw [wrap_small (by omega) (by omega)]; omega
    have hlt : (0 : Int) < (a : Int) → ltE d3[a - 1]! d3[pv]! = true := fun h => by
      simp only [Bool.and_eq_true, decide_eq_true_eq, Bool.not_eq_true', not_and] at heq
      simpa using heq (by omega)
    clear heq
    refine wpC_seq ?_
    refine wpC_seq ?_
    refine wpC_cut2 [15, 81, 82, 83, 84, 85, 86, 87, 88, 89, 90, 91, 92, 93, 94, 95, 96, 97, 98, 99, 100, 101, 102, 103, 104] (fun _ : Nat => []) (fun _ H => A ++ .arr (rowsD T d3) 2 w true :: (C ++ H)) (fun _ => True) ?_ ?_
    · by_cases h0 : (0 : Int) < (a : Int)
      · have w1 := w1 h0
        have hlt := hlt h0
        repeat' (first | refine go1 ?_ | refine blockK_else rfl ?_ | (refine wpC_cond fun A B hA hB => ?_; simp only [go_sem, reduceIte, Nat.reduceAdd, Nat.reduceEqDiff, Nat.reduceLT, Nat.reduceLeDiff, *, and_self, getElem?_len, set_len, idxD, ltT, rowsD_get, rowsD_len, rowsD_put, dropD, takeD, sizeD, (lessE _ _ _ _).rw, cmpI_lt, Bool.decide_eq_true, encE, ty23, ty3, hlt]; first | (refine hA.out ?_; clear hA hB A B) | (refine hB.out ?_; clear hA hB A B) | (refine iteI (fun h => hA.out ?_) (fun h => hB.out ?_) <;> clear hA hB A B) | (refine iteI (fun h => hB.out ?_) (fun h => hA.out ?_) <;> clear hA hB A B)) | (refine wpO_cons fun K hK => ?_; simp only [go_sem, reduceIte, Nat.reduceAdd, Nat.reduceEqDiff, Nat.reduceLT, Nat.reduceLeDiff, *, and_self, getElem?_len, set_len, idxD, ltT, rowsD_get, rowsD_len, rowsD_put, dropD, takeD, sizeD, (lessE _ _ _ _).rw, cmpI_lt, Bool.decide_eq_true, encE, ty23, ty3, hlt]; first | (refine hK.out _ _ ?_; clear hK K) | (refine iteI (fun h => hK.out _ _ ?_) (fun h => hK.out _ _ ?_) <;> clear hK K)))
        refine cut_next 0 trivial ?_ ⟨_, rfl⟩
        ((try simp only [eraseA_cons, eraseA_nil, setL_cons, setL_nil, List.set_cons_zero, List.set_cons_succ]); all_goals (first | rfl | (simp only [len_snoc, ints_len, List.length_map, ]; done) | (simp only [len_snoc, len_mid, ints_len, List.length_map, List.length_append, List.length_cons, List.length_nil, Nat.zero_add, ]; done) | (simp only [len_mid, len_snoc, ints_len, List.length_map, List.length_append, List.length_cons, List.length_nil, Nat.zero_add, ]; rfl)))
      · clear w1 hlt
        repeat' (first | refine go1 ?_ | refine blockK_else rfl ?_ | (refine wpC_cond fun A B hA hB => ?_; simp only [go_sem, reduceIte, Nat.reduceAdd, Nat.reduceEqDiff, Nat.reduceLT, Nat.reduceLeDiff, *, and_self, getElem?_len, set_len, idxD, ltT, rowsD_get, rowsD_len, rowsD_put, dropD, takeD, sizeD, (lessE _ _ _ _).rw, cmpI_lt, Bool.decide_eq_true, encE, ty23, ty3]; first | (refine hA.out ?_; clear hA hB A B) | (refine hB.out ?_; clear hA hB A B) | (refine iteI (fun h => hA.out ?_) (fun h => hB.out ?_) <;> clear hA hB A B) | (refine iteI (fun h => hB.out ?_) (fun h => hA.out ?_) <;> clear hA hB A B)) | (refine wpO_cons fun K hK => ?_; simp only [go_sem, reduceIte, Nat.reduceAdd, Nat.reduceEqDiff, Nat.reduceLT, Nat.reduceLeDiff, *, and_self, getElem?_len, set_len, idxD, ltT, rowsD_get, rowsD_len, rowsD_put, dropD, takeD, sizeD, (lessE _ _ _ _).rw, cmpI_lt, Bool.decide_eq_true, encE, ty23, ty3]; first | (refine hK.out _ _ ?_; clear hK K) | (refine iteI (fun h => hK.out _ _ ?_) (fun h => hK.out _ _ ?_) <;> clear hK K)))
        refine cut_next 0 trivial ?_ ⟨_, rfl⟩
        ((try simp only [eraseA_cons, eraseA_nil, setL_cons, setL_nil, List.set_cons_zero, List.set_cons_succ]); all_goals (first | rfl | (simp only [len_snoc, ints_len, List.length_map, ]; done) | (simp only [len_snoc, len_mid, ints_len, List.length_map, List.length_append, List.length_cons, List.length_nil, Nat.zero_add, ]; done) | (simp only [len_mid, len_snoc, ints_len, List.length_map, List.length_append, List.length_cons, List.length_nil, Nat.zero_add, ]; rfl)))
    clear w1 hlt
    rintro _ g H _
    simp only [garbA_cons, garbA_nil, setL_cons, setL_nil, List.set_cons_zero, List.set_cons_succ]
    repeat' (first | refine go1 ?_ | refine blockK_else rfl ?_ | (refine wpO_cons fun K hK => ?_; simp only [go_sem, reduceIte, Nat.reduceAdd, Nat.reduceEqDiff, Nat.reduceLT, Nat.reduceLeDiff, *, and_self, ]; first | (refine hK.out _ _ ?_; clear hK K) | (refine iteI (fun h => hK.out _ _ ?_) (fun h => hK.out _ _ ?_) <;> clear hK K)))
    refine wpO_cons fun K hK => ?_
    simp only [go_sem, reduceIte, Nat.reduceAdd, Nat.reduceEqDiff, Nat.reduceLT, Nat.reduceLeDiff, and_self, callK_fn]
    refine EvR.mono (partitE A (C ++ H) d3 n w a b pv hn hw hpr.1 hpr.2 hb (by omega)) ?_
    obtain ⟨⟨mid, ap, d4⟩, hP⟩ : ∃ x, Go.Sort.partition ltE d3 a b pv = x := ⟨_, rfl⟩
    rw [hP] at hr ⊢
    simp only [hP] at hR hr
    rw [dif_pos hr] at hR
    rintro _ S ⟨rfl, hL⟩
    obtain ⟨w'', C'', hn3, hw3, rfl⟩ := left_shift hL
    refine hK.out _ _ ?_
    clear hK K
    have v1 : IntKind.wrap .i64 ((mid : Int) - (a : Int)) = ((mid - a : Nat) : Int) := by rw [wrap_small (by omega) (by omega)]; omega
    have v2 : IntKind.wrap .i64 ((b : Int) - (mid : Int)) = ((b - mid : Nat) : Int) := by rw [wrap_small (by omega) (by omega)]; omega
    have v3 : IntKind.wrap .i64 (((b - a : Nat) : Int).tdiv 8) = (((b - a) / 8 : Nat) : Int) := by rw [Int.tdiv_eq_ediv_of_nonneg (by omega), wrap_small (by omega) (by omega)]; omega
    have v4 : ¬ (8 : Int) = 0 := by omega
    have v5 := wrap_succ (n := mid) (by omega)
    by_cases hlr : mid - a < b - mid
    · have hlr' : ((mid - a : Nat) : Int) < ((b - mid : Nat) : Int) := by omega
      rw [if_pos hlr] at hR
      repeat' (first | refine go1 ?_ | refine blockK_else rfl ?_ | (refine wpC_cond fun A B hA hB => ?_; simp only [go_sem, reduceIte, Nat.reduceAdd, Nat.reduceEqDiff, Nat.reduceLT, Nat.reduceLeDiff, *, and_self, ]; first | (refine hA.out ?_; clear hA hB A B) | (refine hB.out ?_; clear hA hB A B) | (refine iteI (fun h => hA.out ?_) (fun h => hB.out ?_) <;> clear hA hB A B) | (refine iteI (fun h => hB.out ?_) (fun h => hA.out ?_) <;> clear hA hB A B)) | (refine wpO_cons fun K hK => ?_; simp only [go_sem, reduceIte, Nat.reduceAdd, Nat.reduceEqDiff, Nat.reduceLT, Nat.reduceLeDiff, *, and_self, ]; first | (refine hK.out _ _ ?_; clear hK K) | (refine iteI (fun h => hK.out _ _ ?_) (fun h => hK.out _ _ ?_) <;> clear hK K)))
      refine wpO_cons fun K hK => ?_
      simp only [go_sem, reduceIte, Nat.reduceAdd, Nat.reduceEqDiff, Nat.reduceLT, Nat.reduceLeDiff, and_self, callK_fn]
      refine EvR.mono (ih (mid - a) (by omega) A (C ++ C'') d4 n w'' a mid lim1 (Nat.le_refl _) hn3 hw3 hr.1 (by omega) hsm hlim') ?_
      rintro _ S ⟨rfl, hL2⟩
      obtain ⟨w4, C4, hn4, hw4, rfl⟩ := left_shift hL2
      refine hK.out _ _ ?_
      clear hK K
      repeat' (first | refine go1 ?_ | refine blockK_else rfl ?_ | (refine wpC_cond fun A B hA hB => ?_; simp only [go_sem, reduceIte, Nat.reduceAdd, Nat.reduceEqDiff, Nat.reduceLT, Nat.reduceLeDiff, *, and_self, ]; first | (refine hA.out ?_; clear hA hB A B) | (refine hB.out ?_; clear hA hB A B) | (refine iteI (fun h => hA.out ?_) (fun h => hB.out ?_) <;> clear hA hB A B) | (refine iteI (fun h => hB.out ?_) (fun h => hA.out ?_) <;> clear hA hB A B)) | (refine wpO_cons fun K hK => ?_; simp only [go_sem, reduceIte, Nat.reduceAdd, Nat.reduceEqDiff, Nat.reduceLT, Nat.reduceLeDiff, *, and_self, ]; first | (refine hK.out _ _ ?_; clear hK K) | (refine iteI (fun h => hK.out _ _ ?_) (fun h => hK.out _ _ ?_) <;> clear hK K)))
      refine loopF_next (mid + 1, b, lim1, decide (mid - a ≥ (b - a) / 8), ap, _, w4) (by simp only; omega) ⟨hn4, hw4, by simp only; omega, hb, by simp only; omega, hlim', hR⟩ ?_ ⟨_, rfl⟩
      have ed : decide ((((b - a) / 8 : Nat) : Int) ≤ ((mid - a : Nat) : Int)) = decide (mid - a ≥ (b - a) / 8) := by simp only [ge_iff_le, Int.ofNat_le]
      ((try simp only [eraseA_cons, eraseA_nil, setL_cons, setL_nil, List.set_cons_zero, List.set_cons_succ]); all_goals (first | rfl | (simp only [len_snoc, ints_len, List.length_map, ed]; done) | (simp only [len_snoc, len_mid, ints_len, List.length_map, List.length_append, List.length_cons, List.length_nil, Nat.zero_add, ed]; done) | (simp only [len_mid, len_snoc, ints_len, List.length_map, List.length_append, List.length_cons, List.length_nil, Nat.zero_add, ed]; rfl)))
    · have hlr' : ¬ ((mid - a : Nat) : Int) < ((b - mid : Nat) : Int) := by omega
      rw [if_neg hlr] at hR
      repeat' (first | refine go1 ?_ | refine blockK_else rfl ?_ | (refine wpC_cond fun A B hA hB => ?_; simp only [go_sem, reduceIte, Nat.reduceAdd, Nat.reduceEqDiff, Nat.reduceLT, Nat.reduceLeDiff, *, and_self, ]; first | (refine hA.out ?_; clear hA hB A B) | (refine hB.out ?_; clear hA hB A B) | (refine iteI (fun h => hA.out ?_) (fun h => hB.out ?_) <;> clear hA hB A B) | (refine iteI (fun h => hB.out ?_) (fun h => hA.out ?_) <;> clear hA hB A B)) | (refine wpO_cons fun K hK => ?_; simp only [go_sem, reduceIte, Nat.reduceAdd, Nat.reduceEqDiff, Nat.reduceLT, Nat.reduceLeDiff, *, and_self, ]; first | (refine hK.out _ _ ?_; clear hK K) | (refine iteI (fun h => hK.out _ _ ?_) (fun h => hK.out _ _ ?_) <;> clear hK K)))
      refine wpO_cons fun K hK => ?_
      simp only [go_sem, reduceIte, Nat.reduceAdd, Nat.reduceEqDiff, Nat.reduceLT, Nat.reduceLeDiff, and_self, callK_fn]
      refine EvR.mono (ih (b - (mid + 1)) (by omega) A (C ++ C'') d4 n w'' (mid + 1) b lim1 (Nat.le_refl _) hn3 hw3 (by omega) hb hsm hlim') ?_
      rintro _ S ⟨rfl, hL2⟩
      obtain ⟨w4, C4, hn4, hw4, rfl⟩ := left_shift hL2
      refine hK.out _ _ ?_
      clear hK K
      repeat' (first | refine go1 ?_ | refine blockK_else rfl ?_ | (refine wpC_cond fun A B hA hB => ?_; simp only [go_sem, reduceIte, Nat.reduceAdd, Nat.reduceEqDiff, Nat.reduceLT, Nat.reduceLeDiff, *, and_self, ]; first | (refine hA.out ?_; clear hA hB A B) | (refine hB.out ?_; clear hA hB A B) | (refine iteI (fun h => hA.out ?_) (fun h => hB.out ?_) <;> clear hA hB A B) | (refine iteI (fun h => hB.out ?_) (fun h => hA.out ?_) <;> clear hA hB A B)) | (refine wpO_cons fun K hK => ?_; simp only [go_sem, reduceIte, Nat.reduceAdd, Nat.reduceEqDiff, Nat.reduceLT, Nat.reduceLeDiff, *, and_self, ]; first | (refine hK.out _ _ ?_; clear hK K) | (refine iteI (fun h => hK.out _ _ ?_) (fun h => hK.out _ _ ?_) <;> clear hK K)))
      refine loopF_next (a, mid, lim1, decide (b - mid ≥ (b - a) / 8), ap, _, w4) (by simp only; omega) ⟨hn4, hw4, hr.1, by simp only; omega, by simp only; omega, hlim', hR⟩ ?_ ⟨_, rfl⟩
      have ed : decide ((((b - a) / 8 : Nat) : Int) ≤ ((b - mid : Nat) : Int)) = decide (b - mid ≥ (b - a) / 8) := by simp only [ge_iff_le, Int.ofNat_le]
      ((try simp only [eraseA_cons, eraseA_nil, setL_cons, setL_nil, List.set_cons_zero, List.set_cons_succ]); all_goals (first | rfl | (simp only [len_snoc, ints_len, List.length_map, ed]; done) | (simp only [len_snoc, len_mid, ints_len, List.length_map, List.length_append, List.length_cons, List.length_nil, Nat.zero_add, ed]; done) | (simp only [len_mid, len_snoc, ints_len, List.length_map, List.length_append, List.length_cons, List.length_nil, Nat.zero_add, ed]; rfl)))
end Go.Eng.Fo

/- Time spans and their lists (plain): two normal lists with the same times are one. -/
namespace Go.Eng

abbrev Spn := Int × Int
def rgt (s : Spn) : Bool := decide (0 ≤ s.1) && (decide (s.1 < s.2) && decide (s.2 ≤ 86400000))
theorem rgt_iff {s : Spn} : rgt s = true ↔ 0 ≤ s.1 ∧ s.1 < s.2 ∧ s.2 ≤ 86400000 := by simp [rgt]
/-- The times of a list. -/
def Tm (l : List Spn) (t : Int) : Prop := ∃ s ∈ l, s.1 ≤ t ∧ t < s.2
theorem Tm_nil {t : Int} : ¬ Tm [] t := fun ⟨_, h, _⟩ => by cases h
theorem Tm_cons {x : Spn} {l : List Spn} {t : Int} : Tm (x :: l) t ↔ (x.1 ≤ t ∧ t < x.2) ∨ Tm l t := by simp [Tm]
theorem Tm_app {a b : List Spn} {t : Int} : Tm (a ++ b) t ↔ Tm a t ∨ Tm b t := by
  unfold Tm
  constructor
  · rintro ⟨s, h, h2⟩
    rcases List.mem_append.mp h with h | h
    · exact .inl ⟨s, h, h2⟩
    · exact .inr ⟨s, h, h2⟩
  · rintro (⟨s, h, h2⟩ | ⟨s, h, h2⟩)
    · exact ⟨s, by simp [h], h2⟩
    · exact ⟨s, by simp [h], h2⟩
structure Norm (l : List Spn) : Prop where
  rg : ∀ s ∈ l, rgt s = true
  sep : l.Pairwise fun a b => a.2 < b.1
theorem norm_nil : Norm [] := ⟨by simp, .nil⟩
theorem norm_cons {x : Spn} {l : List Spn} : Norm (x :: l) ↔ rgt x = true ∧ (∀ y ∈ l, x.2 < y.1) ∧ Norm l := by
  constructor
  · rintro ⟨h1, h2⟩
    have h3 := List.pairwise_cons.mp h2
    exact ⟨h1 x (by simp), h3.1, fun s hs => h1 s (by simp [hs]), h3.2⟩
  · rintro ⟨h1, h2, h3, h4⟩
    refine ⟨fun s hs => ?_, List.pairwise_cons.mpr ⟨h2, h4⟩⟩
    rcases List.mem_cons.mp hs with e | e
    · subst e; exact h1
    · exact h3 s e
theorem norm_app {a b : List Spn} : Norm (a ++ b) ↔ Norm a ∧ Norm b ∧ ∀ x ∈ a, ∀ y ∈ b, x.2 < y.1 := by
  constructor
  · rintro ⟨h1, h2⟩
    have h3 := List.pairwise_append.mp h2
    exact ⟨⟨fun s hs => h1 s (by simp [hs]), h3.1⟩, ⟨fun s hs => h1 s (by simp [hs]), h3.2.1⟩, h3.2.2⟩
  · rintro ⟨⟨h1, h2⟩, ⟨h3, h4⟩, h5⟩
    refine ⟨fun s hs => ?_, List.pairwise_append.mpr ⟨h2, h4, h5⟩⟩
    rcases List.mem_append.mp hs with e | e
    · exact h1 s e
    · exact h3 s e
theorem norm_one {x : Spn} : Norm [x] ↔ rgt x = true := by rw [norm_cons]; simp [norm_nil]

theorem norm_unique : ∀ {a b : List Spn}, Norm a → Norm b → (∀ t, Tm a t ↔ Tm b t) → a = b
  | [], [], _, _, _ => rfl
  | [], y :: b, _, hb, h => by
    obtain ⟨h1, _, _⟩ := norm_cons.mp hb
    have := rgt_iff.mp h1
    exact absurd ((h y.1).mpr (Tm_cons.mpr (.inl ⟨by omega, by omega⟩))) Tm_nil
  | x :: a, [], ha, _, h => by
    obtain ⟨h1, _, _⟩ := norm_cons.mp ha
    have := rgt_iff.mp h1
    exact absurd ((h x.1).mp (Tm_cons.mpr (.inl ⟨by omega, by omega⟩))) Tm_nil
  | x :: a, y :: b, ha, hb, h => by
    obtain ⟨r1, s1, n1⟩ := norm_cons.mp ha
    obtain ⟨r2, s2, n2⟩ := norm_cons.mp hb
    have e1 := rgt_iff.mp r1
    have e2 := rgt_iff.mp r2
    have la : ∀ t, Tm a t → x.2 < t := fun t ⟨s, hs, h1, _⟩ => by have := s1 s hs; omega
    have lb : ∀ t, Tm b t → y.2 < t := fun t ⟨s, hs, h1, _⟩ => by have := s2 s hs; omega
    have f1 : y.1 ≤ x.1 := by
      rcases Tm_cons.mp ((h x.1).mp (Tm_cons.mpr (.inl ⟨by omega, by omega⟩))) with k | k
      · omega
      · have := lb _ k; omega
    have f2 : x.1 ≤ y.1 := by
      rcases Tm_cons.mp ((h y.1).mpr (Tm_cons.mpr (.inl ⟨by omega, by omega⟩))) with k | k
      · omega
      · have := la _ k; omega
    have g1 : ¬ x.2 < y.2 := fun hlt => by
      rcases Tm_cons.mp ((h x.2).mpr (Tm_cons.mpr (.inl ⟨by omega, by omega⟩))) with k | k
      · omega
      · have := la _ k; omega
    have g2 : ¬ y.2 < x.2 := fun hlt => by
      rcases Tm_cons.mp ((h y.2).mp (Tm_cons.mpr (.inl ⟨by omega, by omega⟩))) with k | k
      · omega
      · have := lb _ k; omega
    have hxy : x = y := Prod.ext (by omega) (by omega)
    subst hxy
    rw [norm_unique n1 n2 fun t => ?_]
    constructor
    · intro k
      rcases Tm_cons.mp ((h t).mp (Tm_cons.mpr (.inr k))) with k2 | k2
      · have := la t k; omega
      · exact k2
    · intro k
      rcases Tm_cons.mp ((h t).mpr (Tm_cons.mpr (.inr k))) with k2 | k2
      · have := lb t k; omega
      · exact k2

/-! ### insert -/
def insGo (b a : List Spn) (s : Spn) : List Spn → List Spn
  | [] => b ++ s :: a
  | x :: l => if x.2 < s.1 then insGo (b ++ [x]) a s l else if s.2 < x.1 then insGo b (a ++ [x]) s l else insGo b a (min s.1 x.1, max s.2 x.2) l
def insS (l : List Spn) (s : Spn) : List Spn := insGo [] [] s l
theorem insGo_spec : ∀ (l b a : List Spn) (s : Spn), rgt s = true → Norm b → Norm a → Norm l → (∀ x ∈ b, x.2 < s.1) → (∀ x ∈ a, s.2 < x.1) → (∀ x ∈ b, ∀ y ∈ l, x.2 < y.1) → (∀ x ∈ a, ∀ y ∈ l, x.2 < y.1) →
    Norm (insGo b a s l) ∧ ∀ t, Tm (insGo b a s l) t ↔ Tm b t ∨ Tm a t ∨ Tm l t ∨ (s.1 ≤ t ∧ t < s.2)
  | [], b, a, s, hs, hb, ha, _, h1, h2, _, _ => by
    have e := rgt_iff.mp hs
    refine ⟨norm_app.mpr ⟨hb, norm_cons.mpr ⟨hs, h2, ha⟩, fun x hx y hy => ?_⟩, fun t => ?_⟩
    · rcases List.mem_cons.mp hy with k | k
      · subst k; exact h1 x hx
      · have := h1 x hx; have := h2 y k; omega
    · unfold insGo
      rw [Tm_app, Tm_cons]
      constructor
      · rintro (k | k | k)
        · exact .inl k
        · exact .inr (.inr (.inr k))
        · exact .inr (.inl k)
      · rintro (k | k | k | k)
        · exact .inl k
        · exact .inr (.inr k)
        · exact absurd k Tm_nil
        · exact .inr (.inl k)
  | x :: l, b, a, s, hs, hb, ha, hl, h1, h2, h3, h4 => by
    have e := rgt_iff.mp hs
    obtain ⟨rx, sx, nl⟩ := norm_cons.mp hl
    have ex := rgt_iff.mp rx
    unfold insGo
    split
    · rename_i hc
      obtain ⟨i1, i2⟩ := insGo_spec l (b ++ [x]) a s hs (norm_app.mpr ⟨hb, norm_one.mpr rx, fun y hy z hz => by
        have := List.mem_singleton.mp hz; subst this; exact h3 y hy _ (by simp)⟩) ha nl (fun y hy => by
        rcases List.mem_append.mp hy with k | k
        · exact h1 y k
        · have := List.mem_singleton.mp k; subst this; exact hc) h2 (fun y hy z hz => by
        rcases List.mem_append.mp hy with k | k
        · exact h3 y k z (by simp [hz])
        · have := List.mem_singleton.mp k; subst this; exact sx z hz) (fun y hy z hz => h4 y hy z (by simp [hz]))
      refine ⟨i1, fun t => ?_⟩
      rw [i2, Tm_app, Tm_cons, Tm_cons]
      constructor
      · rintro ((k | k | k) | k | k | k)
        · exact .inl k
        · exact .inr (.inr (.inl (.inl k)))
        · exact absurd k Tm_nil
        · exact .inr (.inl k)
        · exact .inr (.inr (.inl (.inr k)))
        · exact .inr (.inr (.inr k))
      · rintro (k | k | (k | k) | k)
        · exact .inl (.inl k)
        · exact .inr (.inl k)
        · exact .inl (.inr (.inl k))
        · exact .inr (.inr (.inl k))
        · exact .inr (.inr (.inr k))
    · rename_i hc
      split
      · rename_i hd
        obtain ⟨i1, i2⟩ := insGo_spec l b (a ++ [x]) s hs hb (norm_app.mpr ⟨ha, norm_one.mpr rx, fun y hy z hz => by
          have := List.mem_singleton.mp hz; subst this; exact h4 y hy _ (by simp)⟩) nl h1 (fun y hy => by
          rcases List.mem_append.mp hy with k | k
          · exact h2 y k
          · have := List.mem_singleton.mp k; subst this; exact hd) (fun y hy z hz => h3 y hy z (by simp [hz])) (fun y hy z hz => by
          rcases List.mem_append.mp hy with k | k
          · exact h4 y k z (by simp [hz])
          · have := List.mem_singleton.mp k; subst this; exact sx z hz)
        refine ⟨i1, fun t => ?_⟩
        rw [i2, Tm_app, Tm_cons, Tm_cons]
        constructor
        · rintro (k | (k | k | k) | k | k)
          · exact .inl k
          · exact .inr (.inl k)
          · exact .inr (.inr (.inl (.inl k)))
          · exact absurd k Tm_nil
          · exact .inr (.inr (.inl (.inr k)))
          · exact .inr (.inr (.inr k))
        · rintro (k | k | (k | k) | k)
          · exact .inl k
          · exact .inr (.inl (.inl k))
          · exact .inr (.inl (.inr (.inl k)))
          · exact .inr (.inr (.inl k))
          · exact .inr (.inr (.inr k))
      · rename_i hd
        obtain ⟨i1, i2⟩ := insGo_spec l b a (min s.1 x.1, max s.2 x.2) (rgt_iff.mpr ⟨by simp only; omega, by simp only; omega, by simp only; omega⟩) hb ha nl (fun y hy => by
          have := h1 y hy; have := h3 y hy x (by simp); simp only; omega) (fun y hy => by
          have := h2 y hy; have := h4 y hy x (by simp); have := rgt_iff.mp (ha.rg y hy); simp only; omega) (fun y hy z hz => h3 y hy z (by simp [hz])) (fun y hy z hz => h4 y hy z (by simp [hz]))
        refine ⟨i1, fun t => ?_⟩
        rw [i2, Tm_cons]
        simp only
        constructor
        · rintro (k | k | k | k)
          · exact .inl k
          · exact .inr (.inl k)
          · exact .inr (.inr (.inl (.inr k)))
          · by_cases h : s.1 ≤ t ∧ t < s.2
            · exact .inr (.inr (.inr h))
            · exact .inr (.inr (.inl (.inl (by omega))))
        · rintro (k | k | (k | k) | k)
          · exact .inl k
          · exact .inr (.inl k)
          · exact .inr (.inr (.inr (by omega)))
          · exact .inr (.inr (.inl k))
          · exact .inr (.inr (.inr (by omega)))
theorem insS_spec {l : List Spn} {s : Spn} (hl : Norm l) (hs : rgt s = true) : Norm (insS l s) ∧ ∀ t, Tm (insS l s) t ↔ Tm l t ∨ (s.1 ≤ t ∧ t < s.2) := by
  obtain ⟨h1, h2⟩ := insGo_spec l [] [] s hs norm_nil norm_nil hl (by simp) (by simp) (by simp) (by simp)
  refine ⟨h1, fun t => ?_⟩
  unfold insS
  rw [h2]
  constructor
  · rintro (k | k | k | k)
    · exact absurd k Tm_nil
    · exact absurd k Tm_nil
    · exact .inl k
    · exact .inr k
  · rintro (k | k)
    · exact .inr (.inr (.inl k))
    · exact .inr (.inr (.inr k))

/-- The reference's Union. -/
def uniR (l : List Spn) : List Spn := l.foldl (fun out x => if rgt x = true then insS out x else out) []
theorem uniGo_spec : ∀ (l out : List Spn), Norm out → Norm (l.foldl (fun out x => if rgt x = true then insS out x else out) out) ∧ ∀ t, Tm (l.foldl (fun out x => if rgt x = true then insS out x else out) out) t ↔ Tm out t ∨ Tm (l.filter fun x => rgt x) t
  | [], out, h => ⟨h, fun t => ⟨.inl, fun k => k.resolve_right (by simpa using Tm_nil)⟩⟩
  | x :: l, out, h => by
    rw [List.foldl_cons]
    by_cases hx : rgt x = true
    · rw [if_pos hx, List.filter_cons, if_pos hx]
      obtain ⟨i1, i2⟩ := insS_spec h hx
      obtain ⟨j1, j2⟩ := uniGo_spec l _ i1
      refine ⟨j1, fun t => ?_⟩
      rw [j2, i2, Tm_cons]
      constructor
      · rintro ((k | k) | k)
        · exact .inl k
        · exact .inr (.inl k)
        · exact .inr (.inr k)
      · rintro (k | k | k)
        · exact .inl (.inl k)
        · exact .inl (.inr k)
        · exact .inr k
    · rw [if_neg hx, List.filter_cons, if_neg hx]
      exact uniGo_spec l out h
/-- The times of the right spans of a list. -/
def Tr (l : List Spn) (t : Int) : Prop := Tm (l.filter fun x => rgt x) t
theorem uniR_spec (l : List Spn) : Norm (uniR l) ∧ ∀ t, Tm (uniR l) t ↔ Tr l t := by
  obtain ⟨h1, h2⟩ := uniGo_spec l [] norm_nil
  exact ⟨h1, fun t => by unfold uniR; rw [h2]; exact ⟨fun k => k.resolve_left Tm_nil, .inr⟩⟩
theorem filter_norm {l : List Spn} (h : Norm l) : (l.filter fun x => rgt x) = l := by
  rw [List.filter_eq_self]; exact h.rg
theorem Tr_norm {l : List Spn} (h : Norm l) (t : Int) : Tr l t ↔ Tm l t := by unfold Tr; rw [filter_norm h]

/-! ### The program's Union: sorted by From, then joined -/
def mrgGo (pre : List Spn) (y : Spn) : List Spn → List Spn
  | [] => pre ++ [y]
  | s :: l => if s.1 ≤ y.2 then mrgGo pre (y.1, max y.2 s.2) l else mrgGo (pre ++ [y]) s l
def mrg : List Spn → List Spn
  | [] => []
  | s :: l => mrgGo [] s l
theorem mrgGo_spec : ∀ (l pre : List Spn) (y : Spn), Norm (pre ++ [y]) → (∀ s ∈ l, rgt s = true) → (∀ s ∈ l, y.1 ≤ s.1) → (l.Pairwise fun a b => a.1 ≤ b.1) →
    Norm (mrgGo pre y l) ∧ ∀ t, Tm (mrgGo pre y l) t ↔ Tm (pre ++ [y]) t ∨ Tm l t
  | [], pre, y, h, _, _, _ => ⟨h, fun t => ⟨.inl, fun k => k.resolve_right Tm_nil⟩⟩
  | s :: l, pre, y, h, hr, hy, hp => by
    obtain ⟨n1, n2, n3⟩ := norm_app.mp h
    have ry := rgt_iff.mp (norm_one.mp n2)
    have rs := rgt_iff.mp (hr s (by simp))
    have hp' := List.pairwise_cons.mp hp
    have hys := hy s (by simp)
    unfold mrgGo
    split
    · rename_i hc
      obtain ⟨i1, i2⟩ := mrgGo_spec l pre (y.1, max y.2 s.2) (norm_app.mpr ⟨n1, norm_one.mpr (rgt_iff.mpr ⟨by simp only; omega, by simp only; omega, by simp only; omega⟩), fun x hx z hz => by
        have := List.mem_singleton.mp hz; subst this
        exact n3 x hx y (by simp)⟩) (fun z hz => hr z (by simp [hz])) (fun z hz => hy z (by simp [hz])) hp'.2
      refine ⟨i1, fun t => ?_⟩
      rw [i2, Tm_app, Tm_app, Tm_cons, Tm_cons, Tm_cons]
      simp only
      constructor
      · rintro ((k | k | k) | k)
        · exact .inl (.inl k)
        · by_cases h2 : t < y.2
          · exact .inl (.inr (.inl ⟨k.1, h2⟩))
          · exact .inr (.inl (by omega))
        · exact absurd k Tm_nil
        · exact .inr (.inr k)
      · rintro ((k | k | k) | k | k)
        · exact .inl (.inl k)
        · exact .inl (.inr (.inl (by omega)))
        · exact absurd k Tm_nil
        · exact .inl (.inr (.inl (by omega)))
        · exact .inr k
    · rename_i hc
      obtain ⟨i1, i2⟩ := mrgGo_spec l (pre ++ [y]) s (norm_app.mpr ⟨h, norm_one.mpr (hr s (by simp)), fun x hx z hz => by
        have := List.mem_singleton.mp hz; subst this
        rcases List.mem_append.mp hx with k | k
        · have := n3 x k y (by simp); omega
        · have := List.mem_singleton.mp k; subst this; omega⟩) (fun z hz => hr z (by simp [hz])) hp'.1 hp'.2
      refine ⟨i1, fun t => ?_⟩
      rw [i2, Tm_app (a := pre ++ [y]), Tm_cons (l := l), Tm_cons (l := [])]
      constructor
      · rintro ((k | k | k) | k)
        · exact .inl k
        · exact .inr (.inl k)
        · exact absurd k Tm_nil
        · exact .inr (.inr k)
      · rintro (k | k | k)
        · exact .inl (.inl k)
        · exact .inl (.inr (.inl k))
        · exact .inr k
theorem mrg_spec {l : List Spn} (hr : ∀ s ∈ l, rgt s = true) (hp : l.Pairwise fun a b => a.1 ≤ b.1) : Norm (mrg l) ∧ ∀ t, Tm (mrg l) t ↔ Tm l t := by
  cases l with
  | nil => exact ⟨norm_nil, fun t => Iff.rfl⟩
  | cons s l =>
    have hp' := List.pairwise_cons.mp hp
    obtain ⟨h1, h2⟩ := mrgGo_spec l [] s (norm_one.mpr (hr s (by simp))) (fun z hz => hr z (by simp [hz])) hp'.1 hp'.2
    refine ⟨h1, fun t => ?_⟩
    show Tm (mrgGo [] s l) t ↔ _
    rw [h2, List.nil_append, Tm_cons (l := l), Tm_cons (l := [])]
    constructor
    · rintro ((k | k) | k)
      · exact .inl k
      · exact absurd k Tm_nil
      · exact .inr k
    · rintro (k | k)
      · exact .inl (.inl k)
      · exact .inr k
/-- Whatever order equal spans take: joined, they are the reference's Union. -/
theorem mrg_uni {l m : List Spn} (h : m.Perm (l.filter fun x => rgt x)) (hp : m.Pairwise fun a b => a.1 ≤ b.1) : mrg m = uniR l := by
  have hr : ∀ s ∈ m, rgt s = true := fun s hs => by
    have := (h.mem_iff).mp hs
    simpa using (List.mem_filter.mp this).2
  obtain ⟨h1, h2⟩ := mrg_spec hr hp
  obtain ⟨h3, h4⟩ := uniR_spec l
  refine norm_unique h1 h3 fun t => ?_
  rw [h2, h4]
  unfold Tr Tm
  constructor
  · rintro ⟨s, hs, k⟩; exact ⟨s, h.mem_iff.mp hs, k⟩
  · rintro ⟨s, hs, k⟩; exact ⟨s, h.mem_iff.mpr hs, k⟩
end Go.Eng

/- Time spans and their lists (plain): Both, Minus, Covers, Total. -/
namespace Go.Eng

def cap (a b : Spn) : Spn := (max a.1 b.1, min a.2 b.2)
/-- The program's Both of two normal lists. -/
def bothGo : List Spn → List Spn → List Spn
  | [], _ => []
  | _ :: _, [] => []
  | a :: ar, b :: bs => (if (cap a b).1 < (cap a b).2 then [cap a b] else []) ++ (if a.2 < b.2 then bothGo ar (b :: bs) else bothGo (a :: ar) bs)
  termination_by a b => a.length + b.length
theorem Tm_lo {x : Spn} {l : List Spn} (h : ∀ y ∈ l, x.2 < y.1) {t : Int} (ht : Tm l t) : x.2 < t := by
  obtain ⟨s, hs, h1, _⟩ := ht
  have := h s hs; omega
theorem mem_Tm {l : List Spn} (h : Norm l) {s : Spn} (hs : s ∈ l) : Tm l s.1 := by
  have := rgt_iff.mp (h.rg s hs)
  exact ⟨s, hs, by omega, by omega⟩
theorem bothGo_spec : ∀ (n : Nat) (a b : List Spn), a.length + b.length ≤ n → Norm a → Norm b → Norm (bothGo a b) ∧ ∀ t, Tm (bothGo a b) t ↔ Tm a t ∧ Tm b t := by
  intro n
  induction n with
  | zero =>
    intro a b h _ _
    have : a = [] := List.eq_nil_of_length_eq_zero (by omega)
    subst this
    rw [bothGo]
    exact ⟨norm_nil, fun t => ⟨fun k => absurd k Tm_nil, fun k => absurd k.1 Tm_nil⟩⟩
  | succ n ih =>
    intro a b h ha hb
    cases a with
    | nil => rw [bothGo]; exact ⟨norm_nil, fun t => ⟨fun k => absurd k Tm_nil, fun k => absurd k.1 Tm_nil⟩⟩
    | cons x ar =>
      cases b with
      | nil => rw [bothGo]; exact ⟨norm_nil, fun t => ⟨fun k => absurd k Tm_nil, fun k => absurd k.2 Tm_nil⟩⟩
      | cons y bs =>
        obtain ⟨rx, sx, nx⟩ := norm_cons.mp ha
        obtain ⟨ry, sy, ny⟩ := norm_cons.mp hb
        have ex := rgt_iff.mp rx
        have ey := rgt_iff.mp ry
        have hc1 : (cap x y).1 = max x.1 y.1 := rfl
        have hc2 : (cap x y).2 = min x.2 y.2 := rfl
        have hcap : ∀ t, Tm (if (cap x y).1 < (cap x y).2 then [cap x y] else []) t ↔ (x.1 ≤ t ∧ t < x.2) ∧ (y.1 ≤ t ∧ t < y.2) := by
          intro t
          split
          · rw [Tm_cons, hc1, hc2]
            constructor
            · rintro (k | k)
              · omega
              · exact absurd k Tm_nil
            · intro k; left; omega
          · rename_i hn
            rw [hc1, hc2] at hn
            constructor
            · intro k; exact absurd k Tm_nil
            · intro k; omega
        have hnc : Norm (if (cap x y).1 < (cap x y).2 then [cap x y] else []) := by
          split
          · rename_i hn
            rw [hc1, hc2] at hn
            exact norm_one.mpr (rgt_iff.mpr ⟨by rw [hc1]; omega, by rw [hc1, hc2]; omega, by rw [hc2]; omega⟩)
          · exact norm_nil
        rw [bothGo]
        by_cases hlt : x.2 < y.2
        · rw [if_pos hlt]
          obtain ⟨i1, i2⟩ := ih ar (y :: bs) (by simp at h ⊢; omega) nx hb
          refine ⟨norm_app.mpr ⟨hnc, i1, fun s hs z hz => ?_⟩, fun t => ?_⟩
          · have h1 := (i2 z.1).mp (mem_Tm i1 hz)
            have h2 := Tm_lo sx h1.1
            split at hs
            · have := List.mem_singleton.mp hs; subst this; rw [hc2]; omega
            · cases hs
          · rw [Tm_app, hcap, i2, Tm_cons (l := ar)]
            constructor
            · rintro (k | k)
              · exact ⟨.inl k.1, Tm_cons.mpr (.inl k.2)⟩
              · exact ⟨.inr k.1, k.2⟩
            · rintro ⟨k | k, k2⟩
              · rcases Tm_cons.mp k2 with k3 | k3
                · exact .inl ⟨k, k3⟩
                · have := Tm_lo sy k3; omega
              · exact .inr ⟨k, k2⟩
        · rw [if_neg hlt]
          obtain ⟨i1, i2⟩ := ih (x :: ar) bs (by simp at h ⊢; omega) ha ny
          refine ⟨norm_app.mpr ⟨hnc, i1, fun s hs z hz => ?_⟩, fun t => ?_⟩
          · have h1 := (i2 z.1).mp (mem_Tm i1 hz)
            have h2 := Tm_lo sy h1.2
            split at hs
            · have := List.mem_singleton.mp hs; subst this; rw [hc2]; omega
            · cases hs
          · rw [Tm_app, hcap, i2, Tm_cons (l := bs)]
            constructor
            · rintro (k | k)
              · exact ⟨Tm_cons.mpr (.inl k.1), .inl k.2⟩
              · exact ⟨k.1, .inr k.2⟩
            · rintro ⟨k2, k | k⟩
              · rcases Tm_cons.mp k2 with k3 | k3
                · exact .inl ⟨k3, k⟩
                · have := Tm_lo sx k3; omega
              · exact .inr ⟨k2, k⟩
def bothP (a b : List Spn) : List Spn := bothGo (uniR a) (uniR b)
theorem bothP_spec (a b : List Spn) : Norm (bothP a b) ∧ ∀ t, Tm (bothP a b) t ↔ Tr a t ∧ Tr b t := by
  obtain ⟨h1, h2⟩ := uniR_spec a
  obtain ⟨h3, h4⟩ := uniR_spec b
  obtain ⟨h5, h6⟩ := bothGo_spec _ _ _ (Nat.le_refl _) h1 h3
  exact ⟨h5, fun t => by unfold bothP; rw [h6, h2, h4]⟩

/-- The reference's Both. -/
def bothIn (x : Spn) (b out : List Spn) : List Spn := b.foldl (fun out y => if rgt x = true ∧ rgt y = true ∧ rgt (cap x y) = true then insS out (cap x y) else out) out
def bothR (a b : List Spn) : List Spn := a.foldl (fun out x => bothIn x b out) []
theorem bothIn_spec (x : Spn) : ∀ (b out : List Spn), Norm out → Norm (bothIn x b out) ∧ ∀ t, Tm (bothIn x b out) t ↔ Tm out t ∨ ((rgt x = true ∧ x.1 ≤ t ∧ t < x.2) ∧ Tr b t)
  | [], out, h => ⟨h, fun t => ⟨.inl, fun k => k.resolve_right fun k => by
      have := k.2; unfold Tr at this; simp at this; exact Tm_nil this⟩⟩
  | y :: b, out, h => by
    unfold bothIn
    rw [List.foldl_cons]
    have hy : ∀ t, Tr (y :: b) t ↔ (rgt y = true ∧ y.1 ≤ t ∧ t < y.2) ∨ Tr b t := by
      intro t
      unfold Tr
      rw [List.filter_cons]
      split
      · rename_i hr; rw [Tm_cons]
        constructor
        · rintro (k | k)
          · exact .inl ⟨hr, k⟩
          · exact .inr k
        · rintro (k | k)
          · exact .inl k.2
          · exact .inr k
      · rename_i hr
        constructor
        · exact .inr
        · rintro (k | k)
          · exact absurd k.1 hr
          · exact k
    by_cases hc : rgt x = true ∧ rgt y = true ∧ rgt (cap x y) = true
    · rw [if_pos hc]
      obtain ⟨j1, j2⟩ := insS_spec h hc.2.2
      obtain ⟨i1, i2⟩ := bothIn_spec x b _ j1
      refine ⟨i1, fun t => ?_⟩
      show Tm (bothIn x b (insS out (cap x y))) t ↔ _
      rw [i2, j2, hy]
      simp only [cap]
      constructor
      · rintro ((k | k) | k)
        · exact .inl k
        · exact .inr ⟨⟨hc.1, by omega⟩, .inl ⟨hc.2.1, by omega⟩⟩
        · exact .inr ⟨k.1, .inr k.2⟩
      · rintro (k | ⟨k, k2 | k2⟩)
        · exact .inl (.inl k)
        · exact .inl (.inr (by omega))
        · exact .inr ⟨k, k2⟩
    · rw [if_neg hc]
      obtain ⟨i1, i2⟩ := bothIn_spec x b out h
      refine ⟨i1, fun t => ?_⟩
      show Tm (bothIn x b out) t ↔ _
      rw [i2, hy]
      constructor
      · rintro (k | k)
        · exact .inl k
        · exact .inr ⟨k.1, .inr k.2⟩
      · rintro (k | ⟨k, k2 | k2⟩)
        · exact .inl k
        · exfalso
          apply hc
          have e1 := rgt_iff.mp k.1
          have e2 := rgt_iff.mp k2.1
          refine ⟨k.1, k2.1, rgt_iff.mpr ?_⟩
          simp only [cap]; omega
        · exact .inr ⟨k, k2⟩
theorem bothR_go (b : List Spn) : ∀ (a out : List Spn), Norm out → Norm (a.foldl (fun out x => bothIn x b out) out) ∧ ∀ t, Tm (a.foldl (fun out x => bothIn x b out) out) t ↔ Tm out t ∨ (Tr a t ∧ Tr b t)
  | [], out, h => ⟨h, fun t => ⟨.inl, fun k => k.resolve_right fun k => by
      have := k.1; unfold Tr at this; simp at this; exact Tm_nil this⟩⟩
  | x :: a, out, h => by
    rw [List.foldl_cons]
    obtain ⟨j1, j2⟩ := bothIn_spec x b out h
    obtain ⟨i1, i2⟩ := bothR_go b a _ j1
    refine ⟨i1, fun t => ?_⟩
    rw [i2, j2]
    unfold Tr
    rw [List.filter_cons]
    split
    · rename_i hr
      rw [Tm_cons]
      constructor
      · rintro ((k | k) | k)
        · exact .inl k
        · exact .inr ⟨.inl k.1.2, k.2⟩
        · exact .inr ⟨.inr k.1, k.2⟩
      · rintro (k | ⟨k | k, k2⟩)
        · exact .inl (.inl k)
        · exact .inl (.inr ⟨⟨hr, k⟩, k2⟩)
        · exact .inr ⟨k, k2⟩
    · rename_i hr
      constructor
      · rintro ((k | k) | k)
        · exact .inl k
        · exact absurd k.1.1 hr
        · exact .inr k
      · rintro (k | k)
        · exact .inl (.inl k)
        · exact .inr k
theorem bothR_spec (a b : List Spn) : Norm (bothR a b) ∧ ∀ t, Tm (bothR a b) t ↔ Tr a t ∧ Tr b t := by
  obtain ⟨h1, h2⟩ := bothR_go b a [] norm_nil
  exact ⟨h1, fun t => by unfold bothR; rw [h2]; exact ⟨fun k => k.resolve_left Tm_nil, .inr⟩⟩
theorem bothP_eq (a b : List Spn) : bothP a b = bothR a b := by
  obtain ⟨h1, h2⟩ := bothP_spec a b
  obtain ⟨h3, h4⟩ := bothR_spec a b
  exact norm_unique h1 h3 fun t => by rw [h2, h4]

/-! ### Minus -/
def gapsGo (at_ : Int) : List Spn → List Spn
  | [] => [(at_, 86400000)]
  | s :: l => (at_, s.1) :: gapsGo s.2 l
def minusP (a b : List Spn) : List Spn := bothP a (gapsGo 0 (uniR b))
theorem gaps_spec : ∀ (l : List Spn) (at_ : Int), Norm l → 0 ≤ at_ → (∀ s ∈ l, at_ ≤ s.1) → ∀ t, Tr (gapsGo at_ l) t ↔ (at_ ≤ t ∧ t < 86400000) ∧ ¬ Tm l t
  | [], at_, _, h0, _, t => by
    unfold Tr gapsGo
    rw [List.filter_cons]
    split
    · rw [List.filter_nil, Tm_cons]
      constructor
      · rintro (k | k)
        · exact ⟨k, Tm_nil⟩
        · exact absurd k Tm_nil
      · intro k; exact .inl k.1
    · rename_i hr
      have hr' : ¬ (0 ≤ at_ ∧ at_ < 86400000 ∧ (86400000 : Int) ≤ 86400000) := fun k => hr (rgt_iff.mpr k)
      rw [List.filter_nil]
      constructor
      · intro k; exact absurd k Tm_nil
      · intro k; exfalso; apply hr'; omega
  | s :: l, at_, hn, h0, hl, t => by
    obtain ⟨rs, ss, nl⟩ := norm_cons.mp hn
    have es := rgt_iff.mp rs
    have h1 := hl s (by simp)
    have ih := gaps_spec l s.2 nl (by omega) (fun z hz => by have := ss z hz; omega) t
    unfold Tr at ih ⊢
    unfold gapsGo
    rw [List.filter_cons]
    have hlo : Tm l t → s.2 < t := Tm_lo ss
    split
    · rw [Tm_cons, ih, Tm_cons]
      simp only
      constructor
      · rintro (k | k)
        · refine ⟨by omega, ?_⟩
          rintro (k2 | k2)
          · omega
          · have := hlo k2; omega
        · refine ⟨by omega, ?_⟩
          rintro (k2 | k2)
          · omega
          · exact k.2 k2
      · rintro ⟨k, k2⟩
        by_cases h2 : t < s.1
        · left; omega
        · right
          refine ⟨⟨?_, by omega⟩, fun k3 => k2 (.inr k3)⟩
          apply Classical.byContradiction
          intro h3
          exact k2 (.inl ⟨by omega, by omega⟩)
    · rename_i hr
      have hr' : ¬ (0 ≤ at_ ∧ at_ < s.1 ∧ s.1 ≤ 86400000) := fun k => hr (rgt_iff.mpr k)
      rw [ih, Tm_cons]
      constructor
      · rintro ⟨k, k2⟩
        refine ⟨by omega, ?_⟩
        rintro (k3 | k3)
        · omega
        · exact k2 k3
      · rintro ⟨k, k2⟩
        refine ⟨⟨?_, by omega⟩, fun k3 => k2 (.inr k3)⟩
        apply Classical.byContradiction
        intro h3
        exact k2 (.inl ⟨by omega, by omega⟩)
theorem Tr_range {l : List Spn} {t : Int} (h : Tr l t) : 0 ≤ t ∧ t < 86400000 := by
  obtain ⟨s, hs, h1, h2⟩ := h
  have := rgt_iff.mp (by simpa using (List.mem_filter.mp hs).2)
  omega
theorem minusP_spec (a b : List Spn) : Norm (minusP a b) ∧ ∀ t, Tm (minusP a b) t ↔ Tr a t ∧ ¬ Tr b t := by
  obtain ⟨h1, h2⟩ := bothP_spec a (gapsGo 0 (uniR b))
  obtain ⟨h3, h4⟩ := uniR_spec b
  refine ⟨h1, fun t => ?_⟩
  unfold minusP
  rw [h2, gaps_spec _ 0 h3 (by omega) (fun s hs => by have := rgt_iff.mp (h3.rg s hs); omega), h4]
  constructor
  · exact fun k => ⟨k.1, k.2.2⟩
  · exact fun k => ⟨k.1, Tr_range k.1, k.2⟩

/-- The reference's Minus. -/
def wo1 (s x : Spn) : List Spn := (if rgt (x.1, min x.2 s.1) = true then [(x.1, min x.2 s.1)] else []) ++ (if rgt (max x.1 s.2, x.2) = true then [(max x.1 s.2, x.2)] else [])
def wo (l : List Spn) (s : Spn) : List Spn := l.flatMap (wo1 s)
def minusR (a b : List Spn) : List Spn := b.foldl (fun out s => if rgt s = true then wo out s else out) (uniR a)
theorem wo1_spec {s x : Spn} (hs : rgt s = true) (hx : rgt x = true) : Norm (wo1 s x) ∧ (∀ t, Tm (wo1 s x) t ↔ (x.1 ≤ t ∧ t < x.2) ∧ ¬ (s.1 ≤ t ∧ t < s.2)) := by
  have es := rgt_iff.mp hs
  have ex := rgt_iff.mp hx
  have h1 : ∀ t, Tm (if rgt (x.1, min x.2 s.1) = true then [(x.1, min x.2 s.1)] else []) t ↔ x.1 ≤ t ∧ t < min x.2 s.1 := by
    intro t
    split
    · rw [Tm_cons]; exact ⟨fun k => k.resolve_right Tm_nil, .inl⟩
    · rename_i hr
      have hr' : ¬ (0 ≤ x.1 ∧ x.1 < min x.2 s.1 ∧ min x.2 s.1 ≤ 86400000) := fun k => hr (rgt_iff.mpr k)
      exact ⟨fun k => absurd k Tm_nil, fun k => by exfalso; apply hr'; omega⟩
  have h2 : ∀ t, Tm (if rgt (max x.1 s.2, x.2) = true then [(max x.1 s.2, x.2)] else []) t ↔ max x.1 s.2 ≤ t ∧ t < x.2 := by
    intro t
    split
    · rw [Tm_cons]; exact ⟨fun k => k.resolve_right Tm_nil, .inl⟩
    · rename_i hr
      have hr' : ¬ (0 ≤ max x.1 s.2 ∧ max x.1 s.2 < x.2 ∧ x.2 ≤ 86400000) := fun k => hr (rgt_iff.mpr k)
      exact ⟨fun k => absurd k Tm_nil, fun k => by exfalso; apply hr'; omega⟩
  refine ⟨norm_app.mpr ⟨?_, ?_, ?_⟩, fun t => ?_⟩
  · split
    · rename_i hr; exact norm_one.mpr hr
    · exact norm_nil
  · split
    · rename_i hr; exact norm_one.mpr hr
    · exact norm_nil
  · intro u hu z hz
    split at hu
    · have := List.mem_singleton.mp hu; subst this
      split at hz
      · have := List.mem_singleton.mp hz; subst this
        simp only; omega
      · cases hz
    · cases hu
  · unfold wo1
    rw [Tm_app, h1, h2]
    omega
theorem wo_spec {s : Spn} (hs : rgt s = true) : ∀ {l : List Spn}, Norm l → Norm (wo l s) ∧ ∀ t, Tm (wo l s) t ↔ Tm l t ∧ ¬ (s.1 ≤ t ∧ t < s.2)
  | [], _ => ⟨norm_nil, fun t => ⟨fun k => absurd k Tm_nil, fun k => absurd k.1 Tm_nil⟩⟩
  | x :: l, h => by
    obtain ⟨rx, sx, nl⟩ := norm_cons.mp h
    obtain ⟨i1, i2⟩ := wo_spec hs nl
    obtain ⟨j1, j2⟩ := wo1_spec hs rx
    have e : wo (x :: l) s = wo1 s x ++ wo l s := rfl
    rw [e]
    refine ⟨norm_app.mpr ⟨j1, i1, fun u hu z hz => ?_⟩, fun t => ?_⟩
    · have hz1 := Tm_lo sx ((i2 z.1).mp (mem_Tm i1 hz)).1
      have hu1 := rgt_iff.mp (j1.rg u hu)
      have hu2 := (j2 (u.2 - 1)).mp ⟨u, hu, by omega, by omega⟩
      omega
    · rw [Tm_app, i2, j2, Tm_cons]
      constructor
      · rintro (k | k)
        · exact ⟨.inl k.1, k.2⟩
        · exact ⟨.inr k.1, k.2⟩
      · rintro ⟨k | k, k2⟩
        · exact .inl ⟨k, k2⟩
        · exact .inr ⟨k, k2⟩
theorem minusR_go : ∀ (b out : List Spn), Norm out → Norm (b.foldl (fun out s => if rgt s = true then wo out s else out) out) ∧ ∀ t, Tm (b.foldl (fun out s => if rgt s = true then wo out s else out) out) t ↔ Tm out t ∧ ¬ Tr b t
  | [], out, h => ⟨h, fun t => ⟨fun k => ⟨k, by unfold Tr; simpa using Tm_nil⟩, fun k => k.1⟩⟩
  | s :: b, out, h => by
    rw [List.foldl_cons]
    unfold Tr
    rw [List.filter_cons]
    by_cases hs : rgt s = true
    · rw [if_pos hs, if_pos hs]
      obtain ⟨j1, j2⟩ := wo_spec hs h
      obtain ⟨i1, i2⟩ := minusR_go b _ j1
      refine ⟨i1, fun t => ?_⟩
      rw [i2, j2, Tm_cons]
      unfold Tr
      constructor
      · rintro ⟨⟨k1, k2⟩, k3⟩
        exact ⟨k1, fun k => by rcases k with k | k; exact k2 k; exact k3 k⟩
      · rintro ⟨k1, k2⟩
        exact ⟨⟨k1, fun k => k2 (.inl k)⟩, fun k => k2 (.inr k)⟩
    · rw [if_neg hs, if_neg hs]
      exact minusR_go b out h
theorem minusR_spec (a b : List Spn) : Norm (minusR a b) ∧ ∀ t, Tm (minusR a b) t ↔ Tr a t ∧ ¬ Tr b t := by
  obtain ⟨h3, h4⟩ := uniR_spec a
  obtain ⟨h1, h2⟩ := minusR_go b (uniR a) h3
  exact ⟨h1, fun t => by unfold minusR; rw [h2, h4]⟩
theorem minusP_eq (a b : List Spn) : minusP a b = minusR a b := by
  obtain ⟨h1, h2⟩ := minusP_spec a b
  obtain ⟨h3, h4⟩ := minusR_spec a b
  exact norm_unique h1 h3 fun t => by rw [h2, h4]

/-! ### Covers -/
def covP (l : List Spn) (s : Spn) : Bool := rgt s && (uniR l).any fun x => decide (x.1 ≤ s.1) && decide (s.2 ≤ x.2)
theorem norm_cover {l : List Spn} (h : Norm l) {s : Spn} (hs : s.1 < s.2) : (∀ t, s.1 ≤ t → t < s.2 → Tm l t) ↔ ∃ x ∈ l, x.1 ≤ s.1 ∧ s.2 ≤ x.2 := by
  constructor
  · intro hc
    obtain ⟨x, hx, h1, h2⟩ := hc s.1 (by omega) hs
    refine ⟨x, hx, h1, ?_⟩
    apply Classical.byContradiction
    intro hn
    obtain ⟨y, hy, h3, h4⟩ := hc x.2 (by omega) (by omega)
    have ex := rgt_iff.mp (h.rg x hx)
    have ey := rgt_iff.mp (h.rg y hy)
    obtain ⟨A, B, e⟩ := List.append_of_mem hx
    subst e
    obtain ⟨n1, n2, n3⟩ := norm_app.mp h
    obtain ⟨_, n4, _⟩ := norm_cons.mp n2
    rcases List.mem_append.mp hy with k | k
    · have := n3 y k x (by simp); omega
    · rcases List.mem_cons.mp k with k | k
      · subst k; omega
      · have := n4 y k; omega
  · rintro ⟨x, hx, h1, h2⟩ t h3 h4
    exact ⟨x, hx, by omega, by omega⟩
theorem covP_iff (l : List Spn) (s : Spn) : covP l s = true ↔ rgt s = true ∧ ∀ t, s.1 ≤ t → t < s.2 → Tr l t := by
  obtain ⟨h1, h2⟩ := uniR_spec l
  unfold covP
  rw [Bool.and_eq_true]
  constructor
  · rintro ⟨k1, k2⟩
    have e := rgt_iff.mp k1
    refine ⟨k1, fun t a b => (h2 t).mp ((norm_cover h1 e.2.1).mpr ?_ t a b)⟩
    rw [List.any_eq_true] at k2
    obtain ⟨x, hx, h⟩ := k2
    exact ⟨x, hx, by simpa using h⟩
  · rintro ⟨k1, k2⟩
    have e := rgt_iff.mp k1
    refine ⟨k1, ?_⟩
    rw [List.any_eq_true]
    obtain ⟨x, hx, h⟩ := (norm_cover h1 e.2.1).mp fun t a b => (h2 t).mpr (k2 t a b)
    exact ⟨x, hx, by simpa using h⟩
theorem norm_empty {l : List Spn} (h : Norm l) : l = [] ↔ ∀ t, ¬ Tm l t := by
  constructor
  · rintro rfl t; exact Tm_nil
  · intro k
    cases l with
    | nil => rfl
    | cons x l => exact absurd (mem_Tm h (s := x) (by simp)) (k x.1)
theorem Tr_single {s : Spn} (hs : rgt s = true) (t : Int) : Tr [s] t ↔ s.1 ≤ t ∧ t < s.2 := by
  unfold Tr
  rw [List.filter_cons, if_pos hs, List.filter_nil, Tm_cons]
  exact ⟨fun k => k.resolve_right Tm_nil, .inl⟩
/-- The reference's Covers. -/
def covR (l : List Spn) (s : Spn) : Bool := rgt s && decide ((minusR [s] l).length = 0)
theorem cov_eq (l : List Spn) (s : Spn) : covP l s = covR l s := by
  rw [Bool.eq_iff_iff, covP_iff]
  unfold covR
  rw [Bool.and_eq_true, decide_eq_true_eq, List.length_eq_zero_iff]
  obtain ⟨h1, h2⟩ := minusR_spec [s] l
  rw [norm_empty h1]
  constructor
  · rintro ⟨k1, k2⟩
    refine ⟨k1, fun t ht => ?_⟩
    rw [h2, Tr_single k1] at ht
    exact ht.2 (k2 t ht.1.1 ht.1.2)
  · rintro ⟨k1, k2⟩
    refine ⟨k1, fun t a b => ?_⟩
    apply Classical.byContradiction
    intro hn
    exact k2 t ((h2 t).mpr ⟨(Tr_single k1 t).mpr ⟨a, b⟩, hn⟩)

/-! ### Total -/
def tot (l : List Spn) : Int := (l.map fun s => s.2 - s.1).sum
theorem cnt_ival (a b : Nat) : ∀ n : Nat, (List.range n).countP (fun t => decide (a ≤ t) && decide (t < b)) = min b n - min a n
  | 0 => by simp
  | n + 1 => by
    rw [List.range_succ, List.countP_append, cnt_ival a b n, List.countP_cons, List.countP_nil]
    by_cases h : a ≤ n ∧ n < b
    · have e : (decide (a ≤ n) && decide (n < b)) = true := by simp [h]
      rw [if_pos e]; omega
    · have e : ¬ (decide (a ≤ n) && decide (n < b)) = true := by simpa using h
      rw [if_neg e]; omega
theorem cnt_or {p q r : Nat → Bool} (l : List Nat) (h : ∀ t, r t = (p t || q t)) (hd : ∀ t, ¬ (p t = true ∧ q t = true)) : l.countP r = l.countP p + l.countP q := by
  induction l with
  | nil => rfl
  | cons x l ih =>
    rw [List.countP_cons, List.countP_cons, List.countP_cons, ih, h x]
    have := hd x
    cases hp : p x <;> cases hq : q x <;> simp [hp, hq] at this ⊢ <;> omega
def tmB (l : List Spn) (t : Nat) : Bool := l.any fun s => decide (s.1 ≤ (t : Int)) && decide ((t : Int) < s.2)
theorem tmB_iff (l : List Spn) (t : Nat) : tmB l t = true ↔ Tm l (t : Int) := by
  unfold tmB Tm
  rw [List.any_eq_true]
  constructor
  · rintro ⟨s, hs, h⟩; exact ⟨s, hs, by simpa using h⟩
  · rintro ⟨s, hs, h⟩; exact ⟨s, hs, by simpa using h⟩
theorem tot_cnt : ∀ {l : List Spn}, Norm l → tot l = (((List.range 86400000).countP (tmB l) : Nat) : Int)
  | [], _ => by
    have : (List.range 86400000).countP (tmB []) = 0 := by
      rw [List.countP_eq_zero]; intro t _; simp [tmB]
    rw [this]; rfl
  | x :: l, h => by
    obtain ⟨rx, sx, nl⟩ := norm_cons.mp h
    have ex := rgt_iff.mp rx
    have ih := tot_cnt nl
    have e : tot (x :: l) = (x.2 - x.1) + tot l := by simp [tot]
    have hc : (List.range 86400000).countP (tmB (x :: l)) = (List.range 86400000).countP (fun t => decide (x.1.toNat ≤ t) && decide (t < x.2.toNat)) + (List.range 86400000).countP (tmB l) := by
      refine cnt_or _ (fun t => ?_) fun t => ?_
      · rw [Bool.eq_iff_iff, tmB_iff, Tm_cons, Bool.or_eq_true, tmB_iff, Bool.and_eq_true, decide_eq_true_eq, decide_eq_true_eq]
        constructor
        · rintro (k | k)
          · left; omega
          · exact .inr k
        · rintro (k | k)
          · left; omega
          · exact .inr k
      · rintro ⟨k1, k2⟩
        rw [Bool.and_eq_true, decide_eq_true_eq, decide_eq_true_eq] at k1
        have := Tm_lo sx ((tmB_iff l t).mp k2)
        omega
    rw [e, ih, hc, cnt_ival]
    omega
theorem tot_split {a x y : List Spn} (ha : Norm a) (hx : Norm x) (hy : Norm y) (h : ∀ t, Tm a t ↔ Tm x t ∨ Tm y t) (hd : ∀ t, ¬ (Tm x t ∧ Tm y t)) : tot a = tot x + tot y := by
  have := cnt_or (p := tmB x) (q := tmB y) (r := tmB a) (List.range 86400000) (fun t => by
    rw [Bool.eq_iff_iff, Bool.or_eq_true, tmB_iff, tmB_iff, tmB_iff]; exact h t) (fun t => by
    rw [tmB_iff, tmB_iff]; exact hd t)
  rw [tot_cnt ha, tot_cnt hx, tot_cnt hy, this]
  omega
theorem tot_le {l : List Spn} (h : Norm l) : 0 ≤ tot l ∧ tot l ≤ 86400000 := by
  rw [tot_cnt h]
  have := List.countP_le_length (p := tmB l) (l := List.range 86400000)
  rw [List.length_range] at this
  omega
/-! ### What the laws say -/
theorem uni_norm {l : List Spn} (h : Norm l) : uniR l = l := by
  obtain ⟨h1, h2⟩ := uniR_spec l
  exact norm_unique h1 h fun t => by rw [h2, Tr_norm h]
theorem law_total (a b : List Spn) : tot (uniR a) = tot (uniR (bothP a b)) + tot (uniR (minusP a b)) ∧ tot (uniR (uniR a)) = tot (uniR a) := by
  obtain ⟨h1, h2⟩ := uniR_spec a
  obtain ⟨h3, h4⟩ := bothP_spec a b
  obtain ⟨h5, h6⟩ := minusP_spec a b
  rw [uni_norm h1, uni_norm h3, uni_norm h5]
  refine ⟨tot_split h1 h3 h5 (fun t => ?_) fun t => ?_, rfl⟩
  · rw [h2, h4, h6]
    constructor
    · intro k
      by_cases hb : Tr b t
      · exact .inl ⟨k, hb⟩
      · exact .inr ⟨k, hb⟩
    · rintro (k | k)
      · exact k.1
      · exact k.1
  · rw [h4, h6]
    rintro ⟨k1, k2⟩
    exact k2.2 k1.2
theorem law_again (a b : List Spn) : uniR (uniR a) = uniR a ∧ uniR (bothP a b ++ minusP a b) = uniR a := by
  obtain ⟨h1, h2⟩ := uniR_spec a
  obtain ⟨h3, h4⟩ := bothP_spec a b
  obtain ⟨h5, h6⟩ := minusP_spec a b
  refine ⟨uni_norm h1, ?_⟩
  obtain ⟨h7, h8⟩ := uniR_spec (bothP a b ++ minusP a b)
  refine norm_unique h7 h1 fun t => ?_
  rw [h8, h2]
  have e : Tr (bothP a b ++ minusP a b) t ↔ Tm (bothP a b) t ∨ Tm (minusP a b) t := by
    unfold Tr
    rw [List.filter_append, filter_norm h3, filter_norm h5, Tm_app]
  rw [e, h4, h6]
  constructor
  · rintro (k | k)
    · exact k.1
    · exact k.1
  · intro k
    by_cases hb : Tr b t
    · exact .inl ⟨k, hb⟩
    · exact .inr ⟨k, hb⟩
theorem law_cov (l : List Spn) (s : Spn) : covP l s = (rgt s && decide ((minusP [s] l).length = 0)) := by rw [cov_eq, covR, minusP_eq]
theorem law_part {l : List Spn} {s p : Spn} (h : covP l s = true) (hp : rgt p = true) (h1 : s.1 ≤ p.1) (h2 : p.2 ≤ s.2) : covP l p = true := by
  rw [covP_iff] at h ⊢
  exact ⟨hp, fun t a b => h.2 t (by omega) (by omega)⟩
end Go.Eng

/- Lists of spans: Right, the search by a function, slices.DeleteFunc, slices.SortFunc as runs. -/
namespace Go.Eng.Fo
open Go.Proofs
set_option linter.unusedSimpArgs false
set_option linter.unusedVariables false
attribute [local irreducible] wpC wpO wp1 EvV EvR wpL
attribute [local go_sem] ty3 ty4 ty23 eq23 br12 fz72 ty24 ty30 fz58 beq_iff_eq beq_eq_false_iff_ne Int.natCast_inj Bool.not_eq_false' op1_go wpK_box wpK_alloc wpK_load wpK_store wpK_binOp wpK_unOp wpK_fieldAddr wpK_field wpK_build wpK_indexAddr wpK_slice wpK_len wpK_extract wpK_nilCheck wpK_pick wpK_makeFunc wpK_call wpK_callT wpK_max wpK_min wpK_assignT wpK_moveT wpK_assignB wpK_moveB wpK_assignI wpK_moveI wpK_assignA wpK_moveA callK_fn snapL_nil snapL_cons snap_int snap_bool snap_str snap_tsl snap_agg snap_fn snap_flat adopt_int adopt_bool adopt_str adopt_agg adopt_osl adopt_tsl adopt_tup op1_guard grdK_bool grdK_undef condK_bool someK_some pairK_some nilK_ptr nilK_tptr boxK storeK evalA_tmp evalA_int evalA_bool evalA_agg evalA_fn evalA_nil ofC_int ofC_bool getA_zero getA_succ cells_int cells_agg cells_bool cells_sl cells_tsl cell_int cell_bool cell_str cell_sl cell_esl cell_tsl cell_ptr cell_tptr cell_fn cell_nils cell_nilf List.all_cons List.all_nil Bool.and_true Bool.and_self Bool.true_and putA_some putA_none List.set_cons_zero List.set_cons_succ List.length_cons List.length_nil List.nil_append List.cons_append stabL AV.stab fieldAddrA fieldA List.getElem?_cons_zero List.getElem?_cons_succ Nat.zero_add loadA rowOf Nat.le_refl and_self true_and and_true partA binA unA intBin eqBin eqCells eqCell Option.bind_some decide_true decide_false decide_eq_true_eq ite_not Bool.not_eq_true' decide_eq_false_iff_not Bool.false_eq_true Option.map_some Option.map_none Bool.not_true Bool.not_false buildA fillA patch List.take List.drop List.map_cons List.map_nil extK List.getD_cons_zero List.getD_cons_succ minmaxA minmaxGo adoptZ_false adoptZ_true freeze_int freeze_bool freeze_str freeze_flat freeze_agg freeze_osl freeze_tsl freeze_tup frz1_bool frz1_int frz1_str frz1_agg frz1_osl frz1_tsl bne Bool.false_and Bool.and_false ne_eq not_true_eq_false not_false_eq_true List.append_nil
set_option maxRecDepth 20000
set_option maxHeartbeats 4000000

theorem rightE (x : El) : EvV CX 12 [.agg (encE x)] (· = .bool (rgt x)) := by
  obtain ⟨a, b⟩ := x
  refine EvV.walk rfl fn12 rfl nt12 rfl ?_
  simp only [List.length_cons, List.length_nil, List.cons_append, List.nil_append, Nat.reduceAdd, Nat.reduceSub, List.replicate]
  repeat' (first | refine go1 ?_ | refine blockK_else rfl ?_ | (refine wpC_cond fun A B hA hB => ?_; simp only [go_sem, reduceIte, Nat.reduceAdd, Nat.reduceEqDiff, Nat.reduceLT, Nat.reduceLeDiff, *, and_self, encE]; first | (refine hA.out ?_; clear hA hB A B) | (refine hB.out ?_; clear hA hB A B) | (refine iteI (fun h => hA.out ?_) (fun h => hB.out ?_) <;> clear hA hB A B) | (refine iteI (fun h => hB.out ?_) (fun h => hA.out ?_) <;> clear hA hB A B)) | (refine wpO_cons fun K hK => ?_; simp only [go_sem, reduceIte, Nat.reduceAdd, Nat.reduceEqDiff, Nat.reduceLT, Nat.reduceLeDiff, *, and_self, encE]; first | (refine hK.out _ _ ?_; clear hK K) | (refine iteI (fun h => hK.out _ _ ?_) (fun h => hK.out _ _ ?_) <;> clear hK K)))
  all_goals simp only [resultsR, resultsL, resultA, expK_int, expK_bool, expK_str, expK_agg, expK_own, expK_tsl, resK_some, go_sem, reduceIte, Nat.reduceAdd, Nat.reduceEqDiff, Nat.reduceLT, Nat.reduceLeDiff, and_self, ]
  all_goals simp [rgt, *]

theorem del1E (x : El) : EvV CX 38 [.agg (encE x)] (· = .bool (!rgt x)) := by
  have q := (rightE x).rw
  obtain ⟨a, b⟩ := x
  simp only [encE] at q ⊢
  refine EvV.walk rfl fn38 rfl nt38 rfl ?_
  simp only [List.length_cons, List.length_nil, List.cons_append, List.nil_append, Nat.reduceAdd, Nat.reduceSub, List.replicate]
  repeat' (first | refine go1 ?_ | refine blockK_else rfl ?_ | (refine wpC_cond fun A B hA hB => ?_; simp only [go_sem, reduceIte, Nat.reduceAdd, Nat.reduceEqDiff, Nat.reduceLT, Nat.reduceLeDiff, *, and_self, q]; first | (refine hA.out ?_; clear hA hB A B) | (refine hB.out ?_; clear hA hB A B) | (refine iteI (fun h => hA.out ?_) (fun h => hB.out ?_) <;> clear hA hB A B) | (refine iteI (fun h => hB.out ?_) (fun h => hA.out ?_) <;> clear hA hB A B)) | (refine wpO_cons fun K hK => ?_; simp only [go_sem, reduceIte, Nat.reduceAdd, Nat.reduceEqDiff, Nat.reduceLT, Nat.reduceLeDiff, *, and_self, q]; first | (refine hK.out _ _ ?_; clear hK K) | (refine iteI (fun h => hK.out _ _ ?_) (fun h => hK.out _ _ ?_) <;> clear hK K)))
  simp only [resultsR, resultsL, resultA, expK_int, expK_bool, expK_str, expK_agg, expK_own, expK_tsl, resK_some, go_sem, reduceIte, Nat.reduceAdd, Nat.reduceEqDiff, Nat.reduceLT, Nat.reduceLeDiff, and_self, ]

/-- The first place of which p holds, from k on; -1 if there is none. -/
def posF (p : El → Bool) : List El → Nat → Int
  | [], _ => -1
  | x :: l, k => if p x = true then (k : Int) else posF p l (k + 1)
theorem posF_spec (p : El → Bool) : ∀ (l : List El) (k : Nat), (posF p l k = -1 ∧ ∀ x ∈ l, p x = false) ∨ ∃ a x b, l = a ++ x :: b ∧ p x = true ∧ (∀ y ∈ a, p y = false) ∧ posF p l k = ((k + a.length : Nat) : Int)
  | [], k => .inl ⟨rfl, by simp⟩
  | x :: l, k => by
    by_cases h : p x = true
    · exact .inr ⟨[], x, l, rfl, h, by simp, by simp [posF, h]⟩
    · have h' : p x = false := by simpa using h
      rw [posF, if_neg h]
      rcases posF_spec p l (k + 1) with ⟨h1, h2⟩ | ⟨a, y, b, h1, h2, h3, h4⟩
      · exact .inl ⟨h1, fun z hz => by rcases List.mem_cons.mp hz with e | e; exact e ▸ h'; exact h2 z e⟩
      · refine .inr ⟨x :: a, y, b, by simp [h1], h2, fun z hz => by rcases List.mem_cons.mp hz with e | e; exact e ▸ h'; exact h3 z e, ?_⟩
        rw [h4, List.length_cons]; congr 1; omega

theorem indexFE (v : AV) (l : List El) (clo : FuncId) (caps : List AV) (p : El → Bool) (hb : CX.byRef clo = false) (hs : ∀ S, snapL S caps = some caps) (hp : ∀ x, EvV CX clo (.agg (encE x) :: caps) (· = .bool (p x))) (hv : SLs 2 (l.map encE) v) (hl : l.length < 9223372036854775807) :
    EvV CX 46 [v, .fn clo caps] (· = .int .i64 (posF p l 0)) := by
  refine EvV.walk rfl fn46 rfl nt46 rfl ?_
  simp only [List.length_cons, List.length_nil, List.cons_append, List.nil_append, Nat.reduceAdd, Nat.reduceSub, List.replicate]
  repeat' (first | refine go1 ?_ | refine blockK_else rfl ?_ | (refine wpC_cond fun A B hA hB => ?_; simp only [go_sem, reduceIte, Nat.reduceAdd, Nat.reduceEqDiff, Nat.reduceLT, Nat.reduceLeDiff, *, and_self, lenK_sls hv]; first | (refine hA.out ?_; clear hA hB A B) | (refine hB.out ?_; clear hA hB A B) | (refine iteI (fun h => hA.out ?_) (fun h => hB.out ?_) <;> clear hA hB A B) | (refine iteI (fun h => hB.out ?_) (fun h => hA.out ?_) <;> clear hA hB A B)) | (refine wpO_cons fun K hK => ?_; simp only [go_sem, reduceIte, Nat.reduceAdd, Nat.reduceEqDiff, Nat.reduceLT, Nat.reduceLeDiff, *, and_self, lenK_sls hv]; first | (refine hK.out _ _ ?_; clear hK K) | (refine iteI (fun h => hK.out _ _ ?_) (fun h => hK.out _ _ ?_) <;> clear hK K)))
  refine wpC_each [4, 5, 9, 10, 11, 12, 13, 14, 15, 16, 17, 18] 8 l (fun pre post => posF p l 0 = posF p post pre.length) ?_ ?_ ?_ ?_
  · rfl
  · rfl
  · intro g G h2
    rw [h2]; simp only [garbA_cons, garbA_nil, setL_cons, setL_nil, List.set_cons_zero, List.set_cons_succ]
    repeat' (first | refine go1 ?_ | refine blockK_else rfl ?_ | (refine wpC_cond fun A B hA hB => ?_; simp only [go_sem, reduceIte, Nat.reduceAdd, Nat.reduceEqDiff, Nat.reduceLT, Nat.reduceLeDiff, *, and_self, ints_len, List.length_map, Int.lt_irrefl, List.nil_append]; first | (refine hA.out ?_; clear hA hB A B) | (refine hB.out ?_; clear hA hB A B) | (refine iteI (fun h => hA.out ?_) (fun h => hB.out ?_) <;> clear hA hB A B) | (refine iteI (fun h => hB.out ?_) (fun h => hA.out ?_) <;> clear hA hB A B)) | (refine wpO_cons fun K hK => ?_; simp only [go_sem, reduceIte, Nat.reduceAdd, Nat.reduceEqDiff, Nat.reduceLT, Nat.reduceLeDiff, *, and_self, ints_len, List.length_map, Int.lt_irrefl, List.nil_append]; first | (refine hK.out _ _ ?_; clear hK K) | (refine iteI (fun h => hK.out _ _ ?_) (fun h => hK.out _ _ ?_) <;> clear hK K)))
    simp only [resultsR, resultsL, resultA, expK_int, expK_bool, expK_str, expK_agg, expK_own, expK_tsl, resK_some, go_sem, reduceIte, Nat.reduceAdd, Nat.reduceEqDiff, Nat.reduceLT, Nat.reduceLeDiff, and_self, ]
    rfl
  · intro g G pre x post h1 h2
    rw [h2]; subst h1; simp only [garbA_cons, garbA_nil, setL_cons, setL_nil, List.set_cons_zero, List.set_cons_succ]
    have i1 := idx_sls hv (X := CX) ty30 ty23 rfl (map_mid encE pre x post) (k := .i64)
    have w1 := wrap_succ (n := pre.length) (by simp at hl; omega)
    have q := (hp x).rw
    simp only [encE] at q
    by_cases hx : p x = true
    · rw [hx] at q
      have hh : Hold (p x = true) := ⟨hx⟩
      clear hx hp h2
      repeat' (first | refine go1 ?_ | refine blockK_else rfl ?_ | (refine wpC_cond fun A B hA hB => ?_; simp only [go_sem, reduceIte, Nat.reduceAdd, Nat.reduceEqDiff, Nat.reduceLT, Nat.reduceLeDiff, *, and_self, getElem?_len, getElem?_lenAdd, set_len, set_lenAdd, len_mid, ints_len, List.length_map, lt_mid, List.nil_append, i1, w1, encE, hs, q, hb]; first | (refine hA.out ?_; clear hA hB A B) | (refine hB.out ?_; clear hA hB A B) | (refine iteI (fun h => hA.out ?_) (fun h => hB.out ?_) <;> clear hA hB A B) | (refine iteI (fun h => hB.out ?_) (fun h => hA.out ?_) <;> clear hA hB A B)) | (refine wpO_cons fun K hK => ?_; simp only [go_sem, reduceIte, Nat.reduceAdd, Nat.reduceEqDiff, Nat.reduceLT, Nat.reduceLeDiff, *, and_self, getElem?_len, getElem?_lenAdd, set_len, set_lenAdd, len_mid, ints_len, List.length_map, lt_mid, List.nil_append, i1, w1, encE, hs, q, hb]; first | (refine hK.out _ _ ?_; clear hK K) | (refine iteI (fun h => hK.out _ _ ?_) (fun h => hK.out _ _ ?_) <;> clear hK K)))
      simp only [resultsR, resultsL, resultA, expK_int, expK_bool, expK_str, expK_agg, expK_own, expK_tsl, resK_some, go_sem, reduceIte, Nat.reduceAdd, Nat.reduceEqDiff, Nat.reduceLT, Nat.reduceLeDiff, and_self, ]
      simp [posF, hh.out]
    · have hx' : p x = false := by simpa using hx
      rw [hx'] at q
      have hh : Hold (¬ p x = true) := ⟨hx⟩
      clear hx hx' hp h2
      repeat' (first | refine go1 ?_ | refine blockK_else rfl ?_ | (refine wpC_cond fun A B hA hB => ?_; simp only [go_sem, reduceIte, Nat.reduceAdd, Nat.reduceEqDiff, Nat.reduceLT, Nat.reduceLeDiff, *, and_self, getElem?_len, getElem?_lenAdd, set_len, set_lenAdd, len_mid, ints_len, List.length_map, lt_mid, List.nil_append, i1, w1, encE, hs, q, hb]; first | (refine hA.out ?_; clear hA hB A B) | (refine hB.out ?_; clear hA hB A B) | (refine iteI (fun h => hA.out ?_) (fun h => hB.out ?_) <;> clear hA hB A B) | (refine iteI (fun h => hB.out ?_) (fun h => hA.out ?_) <;> clear hA hB A B)) | (refine wpO_cons fun K hK => ?_; simp only [go_sem, reduceIte, Nat.reduceAdd, Nat.reduceEqDiff, Nat.reduceLT, Nat.reduceLeDiff, *, and_self, getElem?_len, getElem?_lenAdd, set_len, set_lenAdd, len_mid, ints_len, List.length_map, lt_mid, List.nil_append, i1, w1, encE, hs, q, hb]; first | (refine hK.out _ _ ?_; clear hK K) | (refine iteI (fun h => hK.out _ _ ?_) (fun h => hK.out _ _ ?_) <;> clear hK K)))
      refine each_next rfl ?_ ?_ ?_
      · rw [posF, if_neg hh.out, len_snoc]
      · ((try simp only [eraseA_cons, eraseA_nil, setL_cons, setL_nil, List.set_cons_zero, List.set_cons_succ]); all_goals (first | rfl | (simp only [len_snoc, ints_len, List.length_map, ]; done) | (simp only [len_snoc, len_mid, ints_len, List.length_map, List.length_append, List.length_cons, List.length_nil, Nat.zero_add, ]; done) | (simp only [len_mid, len_snoc, ints_len, List.length_map, List.length_append, List.length_cons, List.length_nil, Nat.zero_add, ]; rfl)))
      · first | exact ⟨[], (List.append_nil _).symm⟩ | exact ⟨_, rfl⟩ | (simp only [List.append_assoc, List.cons_append, List.nil_append]; exact ⟨_, rfl⟩)

/- Lists of spans: slices.DeleteFunc and slices.SortFunc as runs. -/
open Go.Proofs
attribute [local go_sem] br46 allocK fz60 fz61 nilsK
set_option maxRecDepth 20000
set_option maxHeartbeats 4000000

theorem wpK_clear {X : Ctx} {d : Bool} {dst : Option Tmp} {ty : TypeId} {pos : String} {after : Array Edge} {g : Option (Nat × Bool)} {K : List AV → Store → Prop} {fr : List AV} {S : Store} {s : Operand} {t el : TypeId} {i ei : TyI} {b e off len sz wep : Nat} {rows : List (List AV)} {pr : Bool}
    (ht : X.ty t = some i) (hd : i.desc = .slice el) (he : X.ty el = some ei) (hs : evalA fr s = .sl b e off len sz) (hb : S[b]? = some (.arr rows sz wep pr))
    (h1 : rows.length = e) (h2 : wep ≤ e) (h3 : sz = ei.size) (h4 : ei.zero.length = sz) (h5 : off + len ≤ e) (h6 : len ≠ 0)
    (hk : K (putA fr dst (.tup [])) (S.set b (.arr (rows.take off ++ List.replicate len ei.zero ++ rows.drop (off + len)) sz e pr))) :
    wpK X d ⟨dst, .call ⟨.builtin .clear, ⟨[s]⟩, ⟨[t]⟩⟩, ty, pos, after, g⟩ dst K fr S := by
  obtain ⟨a, bb, c, z, dd⟩ := i
  simp only at hd; subst hd
  rw [wpK_eop rfl rfl rfl rfl rfl]
  simp only [eopA, ht, hs, he, hb]
  rw [if_pos ⟨h1, h2, h3, trivial, h4, h5⟩, if_neg h6]
  exact hk

theorem get_len2 {A X Y : Store} {x : Blk} : (A ++ x :: X ++ Y)[A.length]? = some x := by
  rw [List.append_assoc, List.cons_append, getElem?_len]; rfl
theorem set_len2 {A X Y : Store} {x y : Blk} : (A ++ x :: X ++ Y).set A.length y = A ++ y :: X ++ Y := by
  rw [List.append_assoc, List.cons_append, set_len]; simp
theorem idxZ {b e len j : Nat} {k : IntKind} (h : j < len) : indexAddrA CX 30 (.sl b e 0 len 2) (.int k j) = some (.ptr b e 2 j 0) := by
  have : (j : Int) < len := by omega
  simp [indexAddrA, ty30, ty23, this]
theorem slcFrom {b n i : Nat} {k : IntKind} (h0 : 0 < i) (h : i < n) : sliceA CX 30 (.sl b n 0 n 2) (some (.int k i)) none none = some (.sl b n i (n - i) 2) := by
  have h1 : ¬ i = 0 := by omega
  have h2 : ¬ i = n := by omega
  have h3 : i ≤ n := by omega
  simp [sliceA, ty30, ty23, boundA, h1, h2, h3]
theorem slcFrom0 {b n : Nat} {k : IntKind} : sliceA CX 30 (.sl b n 0 n 2) (some (.int k (0 : Nat))) none none = some (.sl b n 0 n 2) := by
  simp [sliceA, ty30, ty23, boundA]
theorem slcAt {b n i : Nat} {k : IntKind} (h : i < n) : sliceA CX 30 (.sl b n 0 n 2) (some (.int k i)) none none = some (.sl b n i (n - i) 2) := by
  cases i with
  | zero => exact slcFrom0
  | succ i => exact slcFrom (by omega) h
theorem slcTo {b n i : Nat} {k : IntKind} (h : i ≤ n) : sliceA CX 30 (.sl b n 0 n 2) none (some (.int k i)) none = some (.sl b n 0 i 2) := by
  simp [sliceA, ty30, ty23, boundA, h]

def spans (l : List El) : List (List AV) := l.map encE
theorem spans_len (l : List El) : (spans l).length = l.length := by simp [spans]
theorem spans_get {l : List El} {j : Nat} {x : El} (h : l[j]? = some x) : (spans l)[j]? = some (encE x) := by simp [spans, h]
theorem spans_set {l : List El} {j : Nat} {x : El} : (spans l).set j (encE x) = spans (l.set j x) := by simp [spans, List.map_set]
theorem spans_drop {l : List El} {j : Nat} {x : El} (h : l[j]? = some x) : List.drop 2 ((spans l).getD j []) = [] := by
  rw [List.getD_eq_getElem?_getD, spans_get h]; rfl
theorem spans_all (l : List El) : (spans l).all stabL = true := by
  rw [List.all_eq_true]
  intro r hr
  obtain ⟨x, _, rfl⟩ := List.mem_map.1 hr
  rfl
theorem spans_rowsD (l : List El) : spans l = rowsD [] l.toArray := by simp [spans, rowsD]

/-- What DeleteFunc leaves: the spans that stay, in the same block. -/
def Cut (A C : Store) (n : Nat) (m : List El) (v : AV) (S : Store) : Prop := ∃ T w C', v = .sl A.length (m.length + T.length) 0 m.length 2 ∧ n = m.length + T.length ∧ w ≤ m.length + T.length ∧ S = A ++ .arr (rowsD T m.toArray) 2 w true :: (C ++ C')

theorem take_set {l : List El} {i : Nat} {x : El} (h : i < l.length) : (l.set i x).take (i + 1) = l.take i ++ [x] := by
  rw [List.take_add_one, List.take_set_of_le (Nat.le_refl _)]; simp [h]

theorem delE (A C : Store) (l : List El) (w : Nat) (hw : w ≤ l.length) (hl : l.length < 1152921504606846976) :
    EvR CX 36 [.sl A.length l.length 0 l.length 2, .fn 38 []] (A ++ .arr (spans l) 2 w true :: C) (Cut A C l.length (l.filter rgt)) := by
  have hs : ∀ S, snapL S [] = some [] := fun S => snapL_nil
  have q := (indexFE (.tsl false 2 (spans l)) l 38 [] (fun x => !rgt x) rfl hs del1E (.rows false) (by omega)).rw
  have e1 : (spans l).take l.length = spans l := by rw [← spans_len l]; exact List.take_length
  rcases posF_spec (fun x => !rgt x) l 0 with ⟨p1, p2⟩ | ⟨a, x0, b0, p1, p2, p3, p4⟩
  · rw [p1] at q
    refine EvR.walk rfl fn36 rfl nt36 rfl ?_
    simp only [List.length_cons, List.length_nil, List.cons_append, List.nil_append, Nat.reduceAdd, Nat.reduceSub, List.replicate]
    repeat' (first | refine go1 ?_ | refine blockK_else rfl ?_ | (refine wpC_cond fun A B hA hB => ?_; simp only [go_sem, reduceIte, Nat.reduceAdd, Nat.reduceEqDiff, Nat.reduceLT, Nat.reduceLeDiff, *, wpK_assignN ty30 rfl, snap_sl, rowsOf_sl, ints_len, ints_take, List.take_length, Nat.zero_le, Nat.zero_add, Bool.true_or, spans_len, e1, q, getElem?_len, lenK_sl, List.append_assoc, hw]; first | (refine hA.out ?_; clear hA hB A B) | (refine hB.out ?_; clear hA hB A B) | (refine iteI (fun h => hA.out ?_) (fun h => hB.out ?_) <;> clear hA hB A B) | (refine iteI (fun h => hB.out ?_) (fun h => hA.out ?_) <;> clear hA hB A B)) | (refine wpO_cons fun K hK => ?_; simp only [go_sem, reduceIte, Nat.reduceAdd, Nat.reduceEqDiff, Nat.reduceLT, Nat.reduceLeDiff, *, wpK_assignN ty30 rfl, snap_sl, rowsOf_sl, ints_len, ints_take, List.take_length, Nat.zero_le, Nat.zero_add, Bool.true_or, spans_len, e1, q, getElem?_len, lenK_sl, List.append_assoc, hw]; first | (refine hK.out _ _ ?_; clear hK K) | (refine iteI (fun h => hK.out _ _ ?_) (fun h => hK.out _ _ ?_) <;> clear hK K)))
    simp only [resultsR, resultsL, resultA, expK_int, expK_bool, expK_str, expK_agg, expK_own, expK_tsl, resK_some, go_sem, reduceIte, Nat.reduceAdd, Nat.reduceEqDiff, Nat.reduceLT, Nat.reduceLeDiff, wpK_assignN ty30 rfl, ]
    have hf : l.filter rgt = l := by rw [List.filter_eq_self]; intro x hx; simpa using p2 x hx
    rw [hf]
    exact ⟨[], w, [.arr [] 2 0 true], by simp, by simp, by simpa using hw, by simp [spans_rowsD]⟩
  · rw [p4, Nat.zero_add] at q
    have z : ¬ ((a.length : Int) = -1) := by omega
    have w1 := wrap_succ (n := a.length) (by rw [p1] at hl; simp at hl; omega)
    have hal : a.length < l.length := by rw [p1]; simp
    have hp : Hold (l = a ++ x0 :: b0 ∧ (!rgt x0) = true ∧ ∀ y ∈ a, (!rgt y) = false) := ⟨p1, p2, p3⟩
    clear p1 p2 p3 p4
    refine EvR.walk rfl fn36 rfl nt36 rfl ?_
    simp only [List.length_cons, List.length_nil, List.cons_append, List.nil_append, Nat.reduceAdd, Nat.reduceSub, List.replicate]
    repeat' (first | refine go1 ?_ | refine blockK_else rfl ?_ | (refine wpC_cond fun A B hA hB => ?_; simp only [go_sem, reduceIte, Nat.reduceAdd, Nat.reduceEqDiff, Nat.reduceLT, Nat.reduceLeDiff, *, wpK_assignN ty30 rfl, snap_sl, rowsOf_sl, ints_len, ints_take, List.take_length, Nat.zero_le, Nat.zero_add, Bool.true_or, spans_len, e1, q, getElem?_len, lenK_sl, List.append_assoc, hw, z, w1]; first | (refine hA.out ?_; clear hA hB A B) | (refine hB.out ?_; clear hA hB A B) | (refine iteI (fun h => hA.out ?_) (fun h => hB.out ?_) <;> clear hA hB A B) | (refine iteI (fun h => hB.out ?_) (fun h => hA.out ?_) <;> clear hA hB A B)) | (refine wpO_cons fun K hK => ?_; simp only [go_sem, reduceIte, Nat.reduceAdd, Nat.reduceEqDiff, Nat.reduceLT, Nat.reduceLeDiff, *, wpK_assignN ty30 rfl, snap_sl, rowsOf_sl, ints_len, ints_take, List.take_length, Nat.zero_le, Nat.zero_add, Bool.true_or, spans_len, e1, q, getElem?_len, lenK_sl, List.append_assoc, hw, z, w1]; first | (refine hK.out _ _ ?_; clear hK K) | (refine iteI (fun h => hK.out _ _ ?_) (fun h => hK.out _ _ ?_) <;> clear hK K)))
    refine wpC_loopF [7, 16, 17, 18, 19, 20, 21, 22, 23, 24, 25, 26, 27, 28, 29, 30, 31, 32, 33, 34, 35] (fun p : Nat × Nat × List El × Nat => [(5, .int .i64 p.1), (6, .int .i64 p.2.1)]) (fun p G => A ++ .arr (spans p.2.2.1) 2 p.2.2.2 true :: (C ++ G))
      (fun p => p.2.2.1.length = l.length ∧ p.2.2.2 ≤ l.length ∧ p.1 < p.2.1 ∧ p.2.1 ≤ l.length ∧ p.2.2.1.take p.1 = (l.take p.2.1).filter rgt ∧ (∀ m, p.2.1 ≤ m → p.2.2.1[m]? = l[m]?)) (fun p => l.length - p.2.1) (a.length, a.length + 1, l, w) ⟨rfl, hw, by simp only; omega, by simp only; omega, ?_, fun _ _ => rfl⟩ ?_ ?_ ?_
    · obtain ⟨p1, p2, p3⟩ := hp.out
      have e2 : l.take (a.length + 1) = a ++ [x0] := by rw [p1]; simp [List.take_append, List.take_of_length_le]
      have e3 : l.take a.length = a := by rw [p1]; simp
      have hx0 : ¬ rgt x0 = true := by simpa using p2
      simp only
      rw [e2, e3, List.filter_append, List.filter_cons, if_neg hx0, List.filter_nil, List.append_nil]
      rw [List.filter_eq_self.2]; intro x hx; simpa using p3 x hx
    · rfl
    · exact ⟨_, rfl⟩
    clear q hp hal w1 z e1 hw
    rintro ⟨i, j, d, w'⟩ g G ⟨hd, hw, hij, hj, hE, hr⟩
    simp only at hd hw hij hj hE hr
    simp only [garbA_cons, garbA_nil, setL_cons, setL_nil, List.set_cons_zero, List.set_cons_succ]
    by_cases hjl : j < l.length
    · have hjl' : (j : Int) < (l.length : Int) := by omega
      obtain ⟨x, hx⟩ : ∃ x, l[j]? = some x := ⟨_, List.getElem?_eq_getElem hjl⟩
      have hdx : d[j]? = some x := by rw [hr j (Nat.le_refl _), hx]
      have g1 := spans_get hdx
      have g2 := spans_drop hdx
      have il : i < l.length := by omega
      have w2 := wrap_succ (n := i) (by omega)
      have w3 := wrap_succ (n := j) (by omega)
      have hdi : i < d.length := by omega
      obtain ⟨y, hy⟩ : ∃ y, d[i]? = some y := ⟨_, List.getElem?_eq_getElem hdi⟩
      have g3 := spans_drop hy
      have s1 : (spans d).set i [.int .i64 x.1, .int .i64 x.2] = spans (d.set i x) := spans_set
      have q := (del1E x).rw
      have e3 : (l.take (j + 1)).filter rgt = (l.take j).filter rgt ++ if rgt x = true then [x] else [] := by
        rw [List.take_add_one, hx, List.filter_append]; simp [List.filter_cons]
      have hh : Hold (∀ m, j ≤ m → d[m]? = l[m]?) := ⟨hr⟩
      have hh2 : Hold (d.take i = (l.take j).filter rgt) := ⟨hE⟩
      simp only [encE] at q g1
      clear hr hE hx hdx hy
      by_cases hrg : rgt x = true
      · rw [if_pos hrg] at e3
        rw [hrg] at q
        have hh3 : Hold ((l.take (j + 1)).filter rgt = (l.take j).filter rgt ++ [x]) := ⟨e3⟩
        clear hrg e3
        repeat' (first | refine go1 ?_ | refine blockK_else rfl ?_ | (refine wpC_cond fun A B hA hB => ?_; simp only [go_sem, reduceIte, Nat.reduceAdd, Nat.reduceEqDiff, Nat.reduceLT, Nat.reduceLeDiff, *, wpK_assignN ty30 rfl, get_len2, set_len2, spans_len, getElem?_len, set_len, idxZ, g1, g2, g3, s1, q, lenK_sl, takeD]; first | (refine hA.out ?_; clear hA hB A B) | (refine hB.out ?_; clear hA hB A B) | (refine iteI (fun h => hA.out ?_) (fun h => hB.out ?_) <;> clear hA hB A B) | (refine iteI (fun h => hB.out ?_) (fun h => hA.out ?_) <;> clear hA hB A B)) | (refine wpO_cons fun K hK => ?_; simp only [go_sem, reduceIte, Nat.reduceAdd, Nat.reduceEqDiff, Nat.reduceLT, Nat.reduceLeDiff, *, wpK_assignN ty30 rfl, get_len2, set_len2, spans_len, getElem?_len, set_len, idxZ, g1, g2, g3, s1, q, lenK_sl, takeD]; first | (refine hK.out _ _ ?_; clear hK K) | (refine iteI (fun h => hK.out _ _ ?_) (fun h => hK.out _ _ ?_) <;> clear hK K)))
        refine loopF_next (i + 1, j + 1, d.set i x, l.length) (by simp only; omega) ⟨by simpa using hd, Nat.le_refl _, by simp only; omega, by simp only; omega, ?_, ?_⟩ ?_ (by first | exact ⟨[], (List.append_nil _).symm⟩ | exact ⟨_, rfl⟩ | (simp only [List.append_assoc, List.cons_append, List.nil_append]; exact ⟨_, rfl⟩))
        · simp only
          rw [take_set (by omega), hh3.out, hh2.out]
        · intro m hm
          simp only at hm ⊢
          rw [List.getElem?_set_ne (by omega)]
          exact hh.out m (by omega)
        · ((try simp only [eraseA_cons, eraseA_nil, setL_cons, setL_nil, List.set_cons_zero, List.set_cons_succ]); all_goals (first | rfl | (simp only [len_snoc, ints_len, List.length_map, ]; done) | (simp only [len_snoc, len_mid, ints_len, List.length_map, List.length_append, List.length_cons, List.length_nil, Nat.zero_add, ]; done) | (simp only [len_mid, len_snoc, ints_len, List.length_map, List.length_append, List.length_cons, List.length_nil, Nat.zero_add, ]; rfl)))
      · have hrg' : rgt x = false := by simpa using hrg
        rw [if_neg hrg] at e3
        rw [hrg'] at q
        have hh3 : Hold ((l.take (j + 1)).filter rgt = (l.take j).filter rgt ++ []) := ⟨e3⟩
        clear hrg hrg' e3
        repeat' (first | refine go1 ?_ | refine blockK_else rfl ?_ | (refine wpC_cond fun A B hA hB => ?_; simp only [go_sem, reduceIte, Nat.reduceAdd, Nat.reduceEqDiff, Nat.reduceLT, Nat.reduceLeDiff, *, wpK_assignN ty30 rfl, get_len2, set_len2, spans_len, getElem?_len, set_len, idxZ, g1, g2, g3, s1, q, lenK_sl, takeD]; first | (refine hA.out ?_; clear hA hB A B) | (refine hB.out ?_; clear hA hB A B) | (refine iteI (fun h => hA.out ?_) (fun h => hB.out ?_) <;> clear hA hB A B) | (refine iteI (fun h => hB.out ?_) (fun h => hA.out ?_) <;> clear hA hB A B)) | (refine wpO_cons fun K hK => ?_; simp only [go_sem, reduceIte, Nat.reduceAdd, Nat.reduceEqDiff, Nat.reduceLT, Nat.reduceLeDiff, *, wpK_assignN ty30 rfl, get_len2, set_len2, spans_len, getElem?_len, set_len, idxZ, g1, g2, g3, s1, q, lenK_sl, takeD]; first | (refine hK.out _ _ ?_; clear hK K) | (refine iteI (fun h => hK.out _ _ ?_) (fun h => hK.out _ _ ?_) <;> clear hK K)))
        refine loopF_next (i, j + 1, d, w') (by simp only; omega) ⟨hd, hw, by simp only; omega, by simp only; omega, ?_, ?_⟩ ?_ (by first | exact ⟨[], (List.append_nil _).symm⟩ | exact ⟨_, rfl⟩ | (simp only [List.append_assoc, List.cons_append, List.nil_append]; exact ⟨_, rfl⟩))
        · simp only
          rw [hh3.out, hh2.out, List.append_nil]
        · intro m hm
          exact hh.out m (by simp only at hm; omega)
        · ((try simp only [eraseA_cons, eraseA_nil, setL_cons, setL_nil, List.set_cons_zero, List.set_cons_succ]); all_goals (first | rfl | (simp only [len_snoc, ints_len, List.length_map, ]; done) | (simp only [len_snoc, len_mid, ints_len, List.length_map, List.length_append, List.length_cons, List.length_nil, Nat.zero_add, ]; done) | (simp only [len_mid, len_snoc, ints_len, List.length_map, List.length_append, List.length_cons, List.length_nil, Nat.zero_add, ]; rfl)))
    · have hjl' : ¬ (j : Int) < (l.length : Int) := by omega
      have il : i < l.length := by omega
      have s1 := slcAt (b := A.length) (n := l.length) (i := i) (k := .i64) il
      have s2 := slcTo (b := A.length) (n := l.length) (i := i) (k := .i64) (by omega)
      have hE2 : l.filter rgt = d.take i := by rw [hE, List.take_of_length_le (by omega)]
      clear hE hr
      repeat' (first | refine go1 ?_ | refine blockK_else rfl ?_ | (refine wpO_cons fun K hK => ?_; simp only [go_sem, reduceIte, Nat.reduceAdd, Nat.reduceEqDiff, Nat.reduceLT, Nat.reduceLeDiff, *, wpK_assignN ty30 rfl, lenK_sl]; first | (refine hK.out _ _ ?_; clear hK K) | (refine iteI (fun h => hK.out _ _ ?_) (fun h => hK.out _ _ ?_) <;> clear hK K)))
      (refine wpC_cond fun A B hA hB => ?_; simp only [go_sem, reduceIte, Nat.reduceAdd, Nat.reduceEqDiff, Nat.reduceLT, Nat.reduceLeDiff, *, wpK_assignN ty30 rfl, ]; first | (refine hA.out ?_; clear hA hB A B) | (refine hB.out ?_; clear hA hB A B))
      repeat' (first | refine go1 ?_ | refine blockK_else rfl ?_ | (refine wpO_cons fun K hK => ?_; simp only [go_sem, reduceIte, Nat.reduceAdd, Nat.reduceEqDiff, Nat.reduceLT, Nat.reduceLeDiff, *, wpK_assignN ty30 rfl, lenK_sl, s1]; first | (refine hK.out _ _ ?_; clear hK K) | (refine iteI (fun h => hK.out _ _ ?_) (fun h => hK.out _ _ ?_) <;> clear hK K)))
      refine wpO_cons fun K hK => ?_
      simp only [op1_go]
      refine wpK_clear ty30 rfl ty23 rfl (getElem?_len.trans rfl) (by rw [spans_len]; exact hd) hw rfl rfl (by omega) (by omega) ?_
      refine hK.out _ _ ?_
      clear hK K
      repeat' (first | refine go1 ?_ | refine blockK_else rfl ?_ | (refine wpC_cond fun A B hA hB => ?_; simp only [go_sem, reduceIte, Nat.reduceAdd, Nat.reduceEqDiff, Nat.reduceLT, Nat.reduceLeDiff, *, wpK_assignN ty30 rfl, lenK_sl, s2, set_len]; first | (refine hA.out ?_; clear hA hB A B) | (refine hB.out ?_; clear hA hB A B) | (refine iteI (fun h => hA.out ?_) (fun h => hB.out ?_) <;> clear hA hB A B) | (refine iteI (fun h => hB.out ?_) (fun h => hA.out ?_) <;> clear hA hB A B)) | (refine wpO_cons fun K hK => ?_; simp only [go_sem, reduceIte, Nat.reduceAdd, Nat.reduceEqDiff, Nat.reduceLT, Nat.reduceLeDiff, *, wpK_assignN ty30 rfl, lenK_sl, s2, set_len]; first | (refine hK.out _ _ ?_; clear hK K) | (refine iteI (fun h => hK.out _ _ ?_) (fun h => hK.out _ _ ?_) <;> clear hK K)))
      simp only [resultsR, resultsL, resultA, expK_int, expK_bool, expK_str, expK_agg, expK_own, expK_tsl, resK_some, go_sem, reduceIte, Nat.reduceAdd, Nat.reduceEqDiff, Nat.reduceLT, Nat.reduceLeDiff, wpK_assignN ty30 rfl, ]
      have hlen : (l.filter rgt).length = i := by rw [hE2, List.length_take]; omega
      refine ⟨List.replicate (l.length - i) [.int .i64 0, .int .i64 0], l.length, G, ?_, ?_, ?_, ?_⟩
      · rw [hlen, List.length_replicate]; congr 1; omega
      · rw [hlen, List.length_replicate]; omega
      · rw [hlen, List.length_replicate]; omega
      · rw [hE2]
        have e4 : (spans d).drop (i + (l.length - i)) = [] := List.drop_of_length_le (by rw [spans_len]; omega)
        rw [e4]
        simp [rowsD, spans, List.map_take]

/- Lists of spans: slices.SortFunc, slices.Clone, Union. -/
open Go.Proofs
attribute [local go_sem] ty25 ty48 br47 br48 fz64
set_option maxRecDepth 20000
set_option maxHeartbeats 4000000
variable {T : List (List AV)}

theorem sortE (A C : Store) (d : Array El) (n w : Nat) (hn : d.size = n) (hw : w ≤ n + T.length) (hsm : n < 4294967296) :
    EvR CX 39 [.sl A.length (n + T.length) 0 n 2, cmpV] (A ++ .arr (rowsD T d) 2 w true :: C) (fun v S => v = .tup [] ∧ Left T A C n (Go.Sort.sort ltE d) S) := by
  have w1 := wrapU64 (n := n) (by omega)
  have q := (lenE n hsm).rw
  have hk := (Go.Sort.bitsLen_le_iff n 32).2 (by omega)
  refine EvR.walk rfl fn39 rfl nt39 rfl ?_
  simp only [List.length_cons, List.length_nil, List.cons_append, List.nil_append, Nat.reduceAdd, Nat.reduceSub, List.replicate]
  repeat' (first | refine go1 ?_ | refine blockK_else rfl ?_ | (refine wpC_cond fun A B hA hB => ?_; simp only [go_sem, reduceIte, Nat.reduceAdd, Nat.reduceEqDiff, Nat.reduceLT, Nat.reduceLeDiff, *, cvtK_int, wpK_cvt ty3 ty48 rfl, lenK_sl]; first | (refine hA.out ?_; clear hA hB A B) | (refine hB.out ?_; clear hA hB A B) | (refine iteI (fun h => hA.out ?_) (fun h => hB.out ?_) <;> clear hA hB A B) | (refine iteI (fun h => hB.out ?_) (fun h => hA.out ?_) <;> clear hA hB A B)) | (refine wpO_cons fun K hK => ?_; simp only [go_sem, reduceIte, Nat.reduceAdd, Nat.reduceEqDiff, Nat.reduceLT, Nat.reduceLeDiff, *, cvtK_int, wpK_cvt ty3 ty48 rfl, lenK_sl]; first | (refine hK.out _ _ ?_; clear hK K) | (refine iteI (fun h => hK.out _ _ ?_) (fun h => hK.out _ _ ?_) <;> clear hK K)))
  refine wpO_cons fun K hK => ?_
  simp only [go_sem, reduceIte, Nat.reduceAdd, Nat.reduceEqDiff, Nat.reduceLT, Nat.reduceLeDiff, cvtK_int, wpK_cvt ty3 ty48 rfl, callK_fn]
  refine EvR.mono (pdqE n A C d n w 0 n (Go.Sort.bitsLen n) (by omega) hn hw (Nat.zero_le _) (Nat.le_refl _) hsm (by omega)) ?_
  have e : Go.Sort.sort ltE d = Go.Sort.pdq ltE d 0 n (Go.Sort.bitsLen n) true true := by rw [Go.Sort.sort, hn]
  rw [← e]
  rintro _ S ⟨rfl, hL⟩
  refine hK.out _ _ ?_
  clear hK K
  repeat' (first | refine go1 ?_ | refine blockK_else rfl ?_ | (refine wpC_cond fun A B hA hB => ?_; simp only [go_sem, reduceIte, Nat.reduceAdd, Nat.reduceEqDiff, Nat.reduceLT, Nat.reduceLeDiff, *, cvtK_int, wpK_cvt ty3 ty48 rfl, ]; first | (refine hA.out ?_; clear hA hB A B) | (refine hB.out ?_; clear hA hB A B) | (refine iteI (fun h => hA.out ?_) (fun h => hB.out ?_) <;> clear hA hB A B) | (refine iteI (fun h => hB.out ?_) (fun h => hA.out ?_) <;> clear hA hB A B)) | (refine wpO_cons fun K hK => ?_; simp only [go_sem, reduceIte, Nat.reduceAdd, Nat.reduceEqDiff, Nat.reduceLT, Nat.reduceLeDiff, *, cvtK_int, wpK_cvt ty3 ty48 rfl, ]; first | (refine hK.out _ _ ?_; clear hK K) | (refine iteI (fun h => hK.out _ _ ?_) (fun h => hK.out _ _ ?_) <;> clear hK K)))
  simp only [resultsR, resultsL, resultA, expK_int, expK_bool, expK_str, expK_agg, expK_own, expK_tsl, resK_some, go_sem, reduceIte, Nat.reduceAdd, Nat.reduceEqDiff, Nat.reduceLT, Nat.reduceLeDiff, cvtK_int, wpK_cvt ty3 ty48 rfl, ]
  exact hL

/-- The sorted spans. -/
def srtS (l : List El) : List El := (Go.Sort.sort ltE l.toArray).toList
theorem srtS_perm (l : List El) : (srtS l).Perm l := by
  obtain ⟨⟨h1, _, h3⟩, _⟩ := Go.Sort.sort_sorts ltE swo_ltE l.toArray
  have e1 : (Go.Sort.sort ltE l.toArray).extract 0 l.toArray.size = Go.Sort.sort ltE l.toArray := by rw [← h1, Array.extract_size]
  rw [e1, Array.extract_size] at h3
  exact h3
theorem srtS_len (l : List El) : (srtS l).length = l.length := (srtS_perm l).length_eq
theorem srtS_le (l : List El) : (srtS l).Pairwise fun a b => a.1 ≤ b.1 := by
  obtain ⟨⟨h1, _, _⟩, h2⟩ := Go.Sort.sort_sorts ltE swo_ltE l.toArray
  rw [List.pairwise_iff_getElem]
  intro i j hi hj hij
  have hj' : j < (Go.Sort.sort ltE l.toArray).size := hj
  have := h2 i j (Nat.zero_le _) hij (by rw [← h1]; exact hj')
  have k1 : (Go.Sort.sort ltE l.toArray)[j]! = (srtS l)[j] := by simp [srtS, getElem!_pos, hj']
  have k2 : (Go.Sort.sort ltE l.toArray)[i]! = (srtS l)[i] := by
    have hi' : i < (Go.Sort.sort ltE l.toArray).size := hi
    simp [srtS, getElem!_pos, hi']
  rw [k1, k2] at this
  simp only [ltE, decide_eq_false_iff_not] at this
  omega
theorem srtS_uni (l : List El) : mrg (srtS (l.filter rgt)) = uniR l := mrg_uni (srtS_perm _) (srtS_le _)

theorem cloneE (v : AV) (l : List El) (hv : SLs 2 (spans l) v) (hl : l.length ≤ 1073741824) : EvV CX 37 [v] (· = .osl 2 (spans l)) := by
  refine EvV.prim (r := .sl 1 l.length 0 l.length 2) (S := [.arr [] 2 0 true, .arr (spans l) 2 0 true]) rfl ?_ ?_
  · have e : szOf tab 23 = 2 := rfl
    simp only [primClone, e, hv.rowsOf, spans_len, if_pos hl]
    rfl
  · simp [exportA, idsOK, ownIds, lentIds, expTop, spans_len]

/- Lists of spans: Union. -/
open Go.Proofs
attribute [local go_sem] br36 br37 br38 br39 br40 List.replicate Nat.one_mul Nat.reduceMul Nat.zero_mul appK bslA fz73 fz74 lenK_esl lenK_nils lenK_sl lenK_tsl rowsFill rowsOf_esl rowsOf_nils rowsOf_sl rowsOf_tsl
set_option maxRecDepth 20000
set_option maxHeartbeats 4000000

/-- What is left to join. -/
inductive Jn (R : List El) : List El → List El → Prop
  | nil {po : List El} (h : mrg po = R) : Jn R [] po
  | snoc {pre po : List El} {y : El} (h : mrgGo pre y po = R) : Jn R (pre ++ [y]) po
theorem Jn.done {R acc : List El} (h : Jn R acc []) : acc = R := by
  cases h with
  | nil h => exact h
  | snoc h => exact h
theorem Jn.ways {R acc po : List El} (h : Jn R acc po) : (acc = [] ∧ mrg po = R) ∨ ∃ pre y, acc = pre ++ [y] ∧ mrgGo pre y po = R := by
  cases h with
  | nil h => exact .inl ⟨rfl, h⟩
  | snoc h => exact .inr ⟨_, _, rfl, h⟩
theorem spans_app (l m : List El) : spans (l ++ m) = spans l ++ spans m := by simp [spans]

theorem unionE (v : AV) (l : List El) (hv : SLs 2 (spans l) v) (hl : l.length ≤ 1000000) : EvV CX 20 [v] (· = .osl 2 (spans (uniR l))) := by
  have q := (cloneE v l hv (by omega)).rw
  have hvs := hv.snap
  obtain ⟨m, hm⟩ : ∃ m, l.filter rgt = m := ⟨_, rfl⟩
  obtain ⟨srt, hsrt⟩ : ∃ s, srtS m = s := ⟨_, rfl⟩
  have hR : mrg srt = uniR l := by rw [← hsrt, ← hm]; exact srtS_uni l
  have hml : m.length ≤ l.length := by rw [← hm]; exact List.length_filter_le _ _
  have hsl : srt.length = m.length := by rw [← hsrt]; exact srtS_len m
  rw [← hR]
  refine EvV.walk rfl fn20 rfl nt20 rfl ?_
  simp only [List.length_cons, List.length_nil, List.cons_append, List.nil_append, Nat.reduceAdd, Nat.reduceSub, List.replicate]
  repeat' (first | refine go1 ?_ | refine blockK_else rfl ?_ | (refine wpO_cons fun K hK => ?_; simp only [go_sem, reduceIte, Nat.reduceAdd, Nat.reduceEqDiff, Nat.reduceLT, Nat.reduceLeDiff, *, wpK_append ty30 rfl, wpK_assignN ty30 rfl, wpK_buildSlice ty30 rfl, hvs, q, spans_len]; first | (refine hK.out _ _ ?_; clear hK K) | (refine iteI (fun h => hK.out _ _ ?_) (fun h => hK.out _ _ ?_) <;> clear hK K)))
  refine wpO_cons fun K hK => ?_
  simp only [go_sem, reduceIte, Nat.reduceAdd, Nat.reduceEqDiff, Nat.reduceLT, Nat.reduceLeDiff, wpK_append ty30 rfl, wpK_assignN ty30 rfl, wpK_buildSlice ty30 rfl, callK_fn]
  refine EvR.mono (delE [.arr [] 2 0 true] [] l 0 (Nat.zero_le _) (by omega)) ?_
  rw [hm]
  rintro _ _ ⟨T, w, C', rfl, hn, hw, rfl⟩
  refine hK.out _ _ ?_
  clear hK K
  repeat' (first | refine go1 ?_ | refine blockK_else rfl ?_ | (refine wpO_cons fun K hK => ?_; simp only [go_sem, reduceIte, Nat.reduceAdd, Nat.reduceEqDiff, Nat.reduceLT, Nat.reduceLeDiff, *, wpK_append ty30 rfl, wpK_assignN ty30 rfl, wpK_buildSlice ty30 rfl, ]; first | (refine hK.out _ _ ?_; clear hK K) | (refine iteI (fun h => hK.out _ _ ?_) (fun h => hK.out _ _ ?_) <;> clear hK K)))
  refine wpO_cons fun K hK => ?_
  simp only [go_sem, reduceIte, Nat.reduceAdd, Nat.reduceEqDiff, Nat.reduceLT, Nat.reduceLeDiff, wpK_append ty30 rfl, wpK_assignN ty30 rfl, wpK_buildSlice ty30 rfl, callK_fn]
  refine EvR.mono (sortE (T := T) [.arr [] 2 0 true] C' m.toArray m.length w (by simp) hw (by omega)) ?_
  rintro _ _ ⟨rfl, hL⟩
  obtain ⟨w', C'', _, hw', rfl⟩ := left_shift (G := []) (by simpa using hL)
  have e1 : rowsD T (Go.Sort.sort ltE m.toArray) = spans srt ++ T := by rw [← hsrt]; rfl
  rw [e1]
  refine hK.out _ _ ?_
  clear hK K
  clear hL hn hw e1 q hvs
  obtain ⟨S0, hS0⟩ : ∃ S0, [Blk.arr [] 2 0 true] ++ Blk.arr (spans srt ++ T) 2 w' true :: (C' ++ C'') = S0 := ⟨_, rfl⟩
  have hb0 : S0[1]? = some (.arr (spans srt ++ T) 2 w' true) := by rw [← hS0]; rfl
  rw [hS0]
  clear hS0
  repeat' (first | refine go1 ?_ | refine blockK_else rfl ?_ | (refine wpO_cons fun K hK => ?_; simp only [go_sem, reduceIte, Nat.reduceAdd, Nat.reduceEqDiff, Nat.reduceLT, Nat.reduceLeDiff, *, wpK_append ty30 rfl, wpK_assignN ty30 rfl, wpK_buildSlice ty30 rfl, lenK_sl]; first | (refine hK.out _ _ ?_; clear hK K) | (refine iteI (fun h => hK.out _ _ ?_) (fun h => hK.out _ _ ?_) <;> clear hK K)))
  have hlt0 : 1 < S0.length := (List.getElem?_eq_some_iff.1 hb0).1
  refine wpC_loopF [5, 6, 15, 16, 17, 18, 19, 20, 21, 22, 23, 24, 25, 26, 27, 28, 29, 30, 31, 32, 33, 34, 35, 36, 37, 38, 39, 40, 41, 42, 43, 44, 45, 46, 47, 48, 49, 50, 51] (fun p : List El × List El × List El × Nat × Nat × Store => [(3, .sl p.2.2.2.1 p.2.2.1.length 0 p.2.2.1.length 2), (14, .int .i64 p.1.length)]) (fun p _ => p.2.2.2.2.2)
    (fun p => srt = p.1 ++ p.2.1 ∧ p.2.2.2.2.2[1]? = some (.arr (spans srt ++ T) 2 w' true) ∧ p.2.2.2.2.2[p.2.2.2.1]? = some (.arr (spans p.2.2.1) 2 p.2.2.2.2.1 true) ∧ p.2.2.2.2.1 ≤ p.2.2.1.length ∧ 1 < p.2.2.2.1 ∧ Jn (mrg srt) p.2.2.1 p.2.1 ∧ p.2.2.1.length ≤ p.1.length)
    (fun p => p.2.1.length) ([], srt, [], S0.length, 0, S0 ++ [.arr [] 2 0 true]) ⟨rfl, ?_, ?_, Nat.le_refl _, hlt0, .nil rfl, Nat.le_refl _⟩ ?_ ⟨[], rfl⟩ ?_
  · simp only; rw [List.getElem?_append_left hlt0]; exact hb0
  · simp only; rw [List.getElem?_append_right (Nat.le_refl _), Nat.sub_self]; rfl
  · rfl
  clear hb0 hlt0
  rintro ⟨pr, po, acc, bo, w, S⟩ g G ⟨h1, h2, h3, h4, h5, h6, h7⟩
  simp only at h1 h2 h3 h4 h5 h6 h7
  have hbl : bo < S.length := (List.getElem?_eq_some_iff.1 h3).1
  have h1l : 1 < S.length := (List.getElem?_eq_some_iff.1 h2).1
  have a2 : ∀ X, (S ++ X)[1]? = some (.arr (spans srt ++ T) 2 w' true) := fun X => by rw [List.getElem?_append_left h1l, h2]
  have a3 : ∀ X, (S ++ X)[bo]? = some (.arr (spans acc) 2 w true) := fun X => by rw [List.getElem?_append_left hbl, h3]
  have a4 : ∀ X y, (S ++ X).set bo y = S.set bo y ++ X := fun X y => by rw [List.set_append_left _ _ hbl]
  simp only [garbA_cons, garbA_nil, setL_cons, setL_nil, List.set_cons_zero, List.set_cons_succ]
  cases po with
  | nil =>
    have hj := h6.done
    rw [List.append_nil] at h1
    have e : (pr.length : Int) = (m.length : Int) := by rw [← hsl, h1]
    have hh : Hold (acc = mrg srt) := ⟨hj⟩
    clear h1 h6 hj
    repeat' (first | refine go1 ?_ | refine blockK_else rfl ?_ | (refine wpC_cond fun A B hA hB => ?_; simp only [go_sem, reduceIte, Nat.reduceAdd, Nat.reduceEqDiff, Nat.reduceLT, Nat.reduceLeDiff, *, wpK_append ty30 rfl, wpK_assignN ty30 rfl, wpK_buildSlice ty30 rfl, e, Int.lt_irrefl]; first | (refine hA.out ?_; clear hA hB A B) | (refine hB.out ?_; clear hA hB A B) | (refine iteI (fun h => hA.out ?_) (fun h => hB.out ?_) <;> clear hA hB A B) | (refine iteI (fun h => hB.out ?_) (fun h => hA.out ?_) <;> clear hA hB A B)) | (refine wpO_cons fun K hK => ?_; simp only [go_sem, reduceIte, Nat.reduceAdd, Nat.reduceEqDiff, Nat.reduceLT, Nat.reduceLeDiff, *, wpK_append ty30 rfl, wpK_assignN ty30 rfl, wpK_buildSlice ty30 rfl, e, Int.lt_irrefl]; first | (refine hK.out _ _ ?_; clear hK K) | (refine iteI (fun h => hK.out _ _ ?_) (fun h => hK.out _ _ ?_) <;> clear hK K)))
    simp only [resultsR, resultsL, resultA, expK_int, expK_bool, expK_str, expK_agg, expK_own, expK_tsl, resK_some, go_sem, reduceIte, Nat.reduceAdd, Nat.reduceEqDiff, Nat.reduceLT, Nat.reduceLeDiff, wpK_append ty30 rfl, wpK_assignN ty30 rfl, wpK_buildSlice ty30 rfl, spans_len, h3, h4]
    rw [hh.out]; rfl
  | cons x po =>
    have hx : srt[pr.length]? = some x := by rw [h1]; simp
    have hpl : pr.length < m.length := by rw [← hsl, h1]; simp
    have hpl2 : pr.length < m.length + T.length := by omega
    have lt1 : (pr.length : Int) < (m.length : Int) := by omega
    have g1 : (spans srt ++ T)[pr.length]? = some [.int .i64 x.1, .int .i64 x.2] := by
      rw [List.getElem?_append_left (by rw [spans_len]; omega), spans_get hx]; rfl
    have w1 := wrap_succ (n := pr.length) (by omega)
    have hh1 : Hold (srt = (pr ++ [x]) ++ po) := ⟨by rw [h1]; simp⟩
    have hx1 := idxZ (b := 1) (e := m.length + T.length) (len := m.length) (j := pr.length) (k := .i64) hpl
    clear h1 hx
    have b1 : ∀ b X, (S.set bo b ++ X)[1]? = some (.arr (spans srt ++ T) 2 w' true) := fun b X => by
      rw [List.getElem?_append_left (by simpa using h1l), List.getElem?_set_ne (by omega), h2]
    have b2 : ∀ b X, (S.set bo b ++ X)[bo]? = some b := fun b X => by
      rw [List.getElem?_append_left (by simpa using hbl), List.getElem?_set_self hbl]
    have k6 := h6.ways
    clear h6
    rcases k6 with ⟨rfl, h6⟩ | ⟨pre, y, hacc, h6⟩
    · have hJ : Jn (mrg srt) ([] ++ [x]) po := .snoc h6
      have hh2 : Hold (Jn (mrg srt) ([] ++ [x]) po) := ⟨hJ⟩
      have h4' : w ≤ 0 := h4
      clear h6 hJ
      repeat' (first | refine go1 ?_ | refine blockK_else rfl ?_ | (refine wpC_cond fun A B hA hB => ?_; simp only [go_sem, reduceIte, Nat.reduceAdd, Nat.reduceEqDiff, Nat.reduceLT, Nat.reduceLeDiff, *, wpK_append ty30 rfl, wpK_assignN ty30 rfl, wpK_buildSlice ty30 rfl, lenK_sl, hx1, a2, a3, a4, g1, w1, getElem?_len, getElem?_lenAdd, set_len, List.append_assoc, List.length_append, spans_len, Nat.reduceMul]; first | (refine hA.out ?_; clear hA hB A B) | (refine hB.out ?_; clear hA hB A B) | (refine iteI (fun h => hA.out ?_) (fun h => hB.out ?_) <;> clear hA hB A B) | (refine iteI (fun h => hB.out ?_) (fun h => hA.out ?_) <;> clear hA hB A B)) | (refine wpO_cons fun K hK => ?_; simp only [go_sem, reduceIte, Nat.reduceAdd, Nat.reduceEqDiff, Nat.reduceLT, Nat.reduceLeDiff, *, wpK_append ty30 rfl, wpK_assignN ty30 rfl, wpK_buildSlice ty30 rfl, lenK_sl, hx1, a2, a3, a4, g1, w1, getElem?_len, getElem?_lenAdd, set_len, List.append_assoc, List.length_append, spans_len, Nat.reduceMul]; first | (refine hK.out _ _ ?_; clear hK K) | (refine iteI (fun h => hK.out _ _ ?_) (fun h => hK.out _ _ ?_) <;> clear hK K)))
      refine loopF_next (pr ++ [x], po, [] ++ [x], bo, w, _) (Nat.lt_succ_self _) ⟨hh1.out, b1 _ _, b2 _ _, by simp only [List.nil_append, List.length_cons, List.length_nil]; omega, h5, hh2.out, by simp⟩ ?_ ⟨[], rfl⟩
      · ((try simp only [eraseA_cons, eraseA_nil, setL_cons, setL_nil, List.set_cons_zero, List.set_cons_succ]); all_goals (first | rfl | (simp only [len_snoc, ints_len, List.length_map, ]; done) | (simp only [len_snoc, len_mid, ints_len, List.length_map, List.length_append, List.length_cons, List.length_nil, Nat.zero_add, ]; done) | (simp only [len_mid, len_snoc, ints_len, List.length_map, List.length_append, List.length_cons, List.length_nil, Nat.zero_add, ]; rfl)))
    · have nz : 0 < acc.length := by rw [hacc]; simp
      have hal : acc.length = pre.length + 1 := by rw [hacc]; simp
      have nz' : (0 : Int) < (acc.length : Int) := by omega
      have w2 : IntKind.wrap .i64 ((acc.length : Int) - 1) = (pre.length : Int) := by rw [wrap_small (by omega) (by omega)]; omega
      have lt2 : pre.length < acc.length := by omega
      have i2 := idxZ (b := bo) (e := acc.length) (len := acc.length) (j := pre.length) (k := .i64) lt2
      have gy : acc[pre.length]? = some y := by rw [hacc]; simp
      have g2 : (spans acc)[pre.length]? = some [.int .i64 y.1, .int .i64 y.2] := spans_get gy
      have g3 : (spans acc).getD pre.length [] = [.int .i64 y.1, .int .i64 y.2] := by rw [List.getD_eq_getElem?_getD, g2]; rfl
      have hb : acc.length ≤ 1000000 := by omega
      by_cases hc : x.1 ≤ y.2
      · rw [mrgGo, if_pos hc] at h6
        have hJ : Jn (mrg srt) (pre ++ [(y.1, max y.2 x.2)]) po := .snoc h6
        have hs : (spans acc).set pre.length [.int .i64 y.1, .int .i64 (max y.2 x.2)] = spans (pre ++ [(y.1, max y.2 x.2)]) := by
          have : [AV.int .i64 y.1, .int .i64 (max y.2 x.2)] = encE (y.1, max y.2 x.2) := rfl
          rw [this, spans_set, hacc]; simp
        have hh2 : Hold (Jn (mrg srt) (pre ++ [(y.1, max y.2 x.2)]) po) := ⟨hJ⟩
        have hmx : (if x.2 > y.2 then x.2 else y.2) = max y.2 x.2 := by split <;> omega
        have hh3 : Hold (acc.length = pre.length + 1) := ⟨hal⟩
        clear h6 hJ hal hacc gy
        repeat' (first | refine go1 ?_ | refine blockK_else rfl ?_ | (refine wpC_cond fun A B hA hB => ?_; simp only [go_sem, reduceIte, Nat.reduceAdd, Nat.reduceEqDiff, Nat.reduceLT, Nat.reduceLeDiff, *, wpK_append ty30 rfl, wpK_assignN ty30 rfl, wpK_buildSlice ty30 rfl, lenK_sl, hx1, a2, a3, a4, g1, g2, g3, i2, w1, w2, getElem?_len, getElem?_lenAdd, set_len, List.append_assoc, List.length_append, spans_len, hs, hmx]; first | (refine hA.out ?_; clear hA hB A B) | (refine hB.out ?_; clear hA hB A B) | (refine iteI (fun h => hA.out ?_) (fun h => hB.out ?_) <;> clear hA hB A B) | (refine iteI (fun h => hB.out ?_) (fun h => hA.out ?_) <;> clear hA hB A B)) | (refine wpO_cons fun K hK => ?_; simp only [go_sem, reduceIte, Nat.reduceAdd, Nat.reduceEqDiff, Nat.reduceLT, Nat.reduceLeDiff, *, wpK_append ty30 rfl, wpK_assignN ty30 rfl, wpK_buildSlice ty30 rfl, lenK_sl, hx1, a2, a3, a4, g1, g2, g3, i2, w1, w2, getElem?_len, getElem?_lenAdd, set_len, List.append_assoc, List.length_append, spans_len, hs, hmx]; first | (refine hK.out _ _ ?_; clear hK K) | (refine iteI (fun h => hK.out _ _ ?_) (fun h => hK.out _ _ ?_) <;> clear hK K)))
        refine loopF_next (pr ++ [x], po, pre ++ [(y.1, max y.2 x.2)], bo, acc.length, _) (Nat.lt_succ_self _) ⟨hh1.out, b1 _ _, b2 _ _, ?_, h5, hh2.out, ?_⟩ ?_ ⟨[], rfl⟩
        · simp only [List.length_append, List.length_cons, List.length_nil, hh3.out]; omega
        · have := hh3.out; simp only [List.length_append, List.length_cons, List.length_nil]; omega
        · ((try simp only [eraseA_cons, eraseA_nil, setL_cons, setL_nil, List.set_cons_zero, List.set_cons_succ]); all_goals (first | rfl | (simp only [len_snoc, ints_len, List.length_map, hh3.out]; done) | (simp only [len_snoc, len_mid, ints_len, List.length_map, List.length_append, List.length_cons, List.length_nil, Nat.zero_add, hh3.out]; done) | (simp only [len_mid, len_snoc, ints_len, List.length_map, List.length_append, List.length_cons, List.length_nil, Nat.zero_add, hh3.out]; rfl)))
      · rw [mrgGo, if_neg hc] at h6
        have hJ : Jn (mrg srt) (acc ++ [x]) po := .snoc (by rw [hacc]; exact h6)
        have hh2 : Hold (Jn (mrg srt) (acc ++ [x]) po) := ⟨hJ⟩
        have c1 : (acc.length + 1) * 16 ≤ 140737488355328 := by omega
        have c2 : acc.length + 1 ≤ 140737488355328 := by omega
        have hs : spans acc ++ [[.int .i64 x.1, .int .i64 x.2]] = spans (acc ++ [x]) := by rw [spans_app]; rfl
        clear h6 hJ hal hacc gy
        repeat' (first | refine go1 ?_ | refine blockK_else rfl ?_ | (refine wpC_cond fun A B hA hB => ?_; simp only [go_sem, reduceIte, Nat.reduceAdd, Nat.reduceEqDiff, Nat.reduceLT, Nat.reduceLeDiff, *, wpK_append ty30 rfl, wpK_assignN ty30 rfl, wpK_buildSlice ty30 rfl, lenK_sl, hx1, a2, a3, a4, g1, g2, g3, i2, w1, w2, getElem?_len, getElem?_lenAdd, set_len, List.append_assoc, List.length_append, spans_len, hs]; first | (refine hA.out ?_; clear hA hB A B) | (refine hB.out ?_; clear hA hB A B) | (refine iteI (fun h => hA.out ?_) (fun h => hB.out ?_) <;> clear hA hB A B) | (refine iteI (fun h => hB.out ?_) (fun h => hA.out ?_) <;> clear hA hB A B)) | (refine wpO_cons fun K hK => ?_; simp only [go_sem, reduceIte, Nat.reduceAdd, Nat.reduceEqDiff, Nat.reduceLT, Nat.reduceLeDiff, *, wpK_append ty30 rfl, wpK_assignN ty30 rfl, wpK_buildSlice ty30 rfl, lenK_sl, hx1, a2, a3, a4, g1, g2, g3, i2, w1, w2, getElem?_len, getElem?_lenAdd, set_len, List.append_assoc, List.length_append, spans_len, hs]; first | (refine hK.out _ _ ?_; clear hK K) | (refine iteI (fun h => hK.out _ _ ?_) (fun h => hK.out _ _ ?_) <;> clear hK K)))
        refine loopF_next (pr ++ [x], po, acc ++ [x], bo, w, _) (Nat.lt_succ_self _) ⟨hh1.out, b1 _ _, b2 _ _, ?_, h5, hh2.out, ?_⟩ ?_ ⟨[], rfl⟩
        · simp only [List.length_append, List.length_cons, List.length_nil]; omega
        · simp only [List.length_append, List.length_cons, List.length_nil]; omega
        · ((try simp only [eraseA_cons, eraseA_nil, setL_cons, setL_nil, List.set_cons_zero, List.set_cons_succ]); all_goals (first | rfl | (simp only [len_snoc, ints_len, List.length_map, ]; done) | (simp only [len_snoc, len_mid, ints_len, List.length_map, List.length_append, List.length_cons, List.length_nil, Nat.zero_add, ]; done) | (simp only [len_mid, len_snoc, ints_len, List.length_map, List.length_append, List.length_cons, List.length_nil, Nat.zero_add, ]; rfl)))

/- Lists of spans: Both. -/
open Go.Proofs
attribute [local go_sem] br20 fz75 fz76
set_option maxRecDepth 20000
set_option maxHeartbeats 4000000

theorem at_app {S : Store} {b : Nat} {x : Blk} (h : S[b]? = some x) : ∀ X, (S ++ X)[b]? = some x := fun X => by
  rw [List.getElem?_append_left (List.getElem?_eq_some_iff.1 h).1]; exact h
theorem set_app {S : Store} {b : Nat} {x : Blk} (h : S[b]? = some x) : ∀ X y, (S ++ X).set b y = S.set b y ++ X := fun X y => by
  rw [List.set_append_left _ _ (List.getElem?_eq_some_iff.1 h).1]
theorem at_set {S : Store} {b : Nat} {x : Blk} (h : S[b]? = some x) : ∀ y X, (S.set b y ++ X)[b]? = some y := fun y X => by
  have hl := (List.getElem?_eq_some_iff.1 h).1
  rw [List.getElem?_append_left (by simpa using hl), List.getElem?_set_self hl]
theorem at_set_ne {S : Store} {b c : Nat} {x : Blk} (h : S[c]? = some x) (hne : b ≠ c) : ∀ y X, (S.set b y ++ X)[c]? = some x := fun y X => by
  have hl := (List.getElem?_eq_some_iff.1 h).1
  rw [List.getElem?_append_left (by simpa using hl), List.getElem?_set_ne hne, h]
theorem max_if (a b : Int) : (if b > a then b else a) = max a b := by split <;> omega
theorem min_if (a b : Int) : (if b < a then b else a) = min a b := by split <;> omega
theorem span_ok {n : Nat} (h : n ≤ 8000000) : (n + 1) * 16 ≤ 140737488355328 ∧ n + 1 ≤ 140737488355328 := by omega
theorem spans_snoc (l : List El) (x : El) : spans l ++ [[.int .i64 x.1, .int .i64 x.2]] = spans (l ++ [x]) := by rw [spans_app]; rfl

theorem bothE (v w : AV) (a b : List El) (hv : SLs 2 (spans a) v) (hw : SLs 2 (spans b) w) (ha : a.length ≤ 1000000) (hb : b.length ≤ 1000000) (hal : (uniR a).length ≤ 1000000) (hbl : (uniR b).length ≤ 1000000) : EvV CX 24 [v, w] (· = .osl 2 (spans (bothP a b))) := by
  have q1 := (unionE v a hv ha).rw
  have q2 := (unionE w b hw hb).rw
  have s1 := hv.snap
  have s2 := hw.snap
  unfold bothP
  obtain ⟨sa, hsa⟩ : ∃ s, uniR a = s := ⟨_, rfl⟩
  obtain ⟨sb, hsb⟩ : ∃ s, uniR b = s := ⟨_, rfl⟩
  rw [hsa] at q1 hal ⊢
  rw [hsb] at q2 hbl ⊢
  refine EvV.walk rfl fn24 rfl nt24 rfl ?_
  simp only [List.length_cons, List.length_nil, List.cons_append, List.nil_append, Nat.reduceAdd, Nat.reduceSub, List.replicate]
  repeat' (first | refine go1 ?_ | refine blockK_else rfl ?_ | (refine wpO_cons fun K hK => ?_; simp only [go_sem, reduceIte, Nat.reduceAdd, Nat.reduceEqDiff, Nat.reduceLT, Nat.reduceLeDiff, *, wpK_append ty30 rfl, wpK_assignN ty30 rfl, wpK_buildSlice ty30 rfl, s1, s2, q1, q2, spans_len]; first | (refine hK.out _ _ ?_; clear hK K) | (refine iteI (fun h => hK.out _ _ ?_) (fun h => hK.out _ _ ?_) <;> clear hK K)))
  clear q1 q2 s1 s2 hsa hsb hv hw
  refine wpC_loopF [8, 13, 14, 15, 16, 17, 18, 19, 20, 21, 22, 23, 24, 25, 26, 27, 28, 29, 30, 31, 32, 33, 34, 35, 36, 37, 38, 39, 40, 41, 42, 43, 44, 45, 46, 47, 48, 49, 50, 51, 52, 53, 54, 55, 56, 57, 58, 59, 60, 61, 62, 63, 64, 65, 66, 67, 68, 69] (fun p : List El × List El × List El × List El × List El × Nat × Nat × Store => [(5, .sl p.2.2.2.2.2.1 p.2.2.2.2.1.length 0 p.2.2.2.2.1.length 2), (6, .int .i64 p.1.length), (7, .int .i64 p.2.2.1.length)]) (fun p _ => p.2.2.2.2.2.2.2)
    (fun p => sa = p.1 ++ p.2.1 ∧ sb = p.2.2.1 ++ p.2.2.2.1 ∧ p.2.2.2.2.2.2.2[1]? = some (.arr (spans sa) 2 0 true) ∧ p.2.2.2.2.2.2.2[2]? = some (.arr (spans sb) 2 0 true) ∧ p.2.2.2.2.2.2.2[p.2.2.2.2.2.1]? = some (.arr (spans p.2.2.2.2.1) 2 p.2.2.2.2.2.2.1 true) ∧ p.2.2.2.2.2.2.1 ≤ p.2.2.2.2.1.length ∧ 2 < p.2.2.2.2.2.1 ∧ p.2.2.2.2.1 ++ bothGo p.2.1 p.2.2.2.1 = bothGo sa sb ∧ p.2.2.2.2.1.length ≤ p.1.length + p.2.2.1.length)
    (fun p => p.2.1.length + p.2.2.2.1.length) ([], sa, [], sb, [], 3, 0, _) ⟨rfl, rfl, rfl, rfl, rfl, Nat.le_refl _, Nat.lt_succ_self 2, rfl, Nat.le_refl _⟩ ?_ ⟨[], rfl⟩ ?_
  · rfl
  rintro ⟨pa, qa, pb, qb, acc, bo, w0, S⟩ g G ⟨h1, h2, h3, h4, h5, h6, h7, h8, h9⟩
  simp only at h1 h2 h3 h4 h5 h6 h7 h8 h9
  simp only [garbA_cons, garbA_nil, setL_cons, setL_nil, List.set_cons_zero, List.set_cons_succ]
  cases qa with
  | nil =>
    have e : (sa.length : Int) = (pa.length : Int) := by rw [h1, List.append_nil]
    have hh : Hold (acc = bothGo sa sb) := ⟨by rw [← h8, bothGo, List.append_nil]⟩
    clear h1 h2 h8
    repeat' (first | refine go1 ?_ | refine blockK_else rfl ?_ | (refine wpC_cond fun A B hA hB => ?_; simp only [go_sem, reduceIte, Nat.reduceAdd, Nat.reduceEqDiff, Nat.reduceLT, Nat.reduceLeDiff, *, wpK_append ty30 rfl, wpK_assignN ty30 rfl, wpK_buildSlice ty30 rfl, e, Int.lt_irrefl, lenK_sl]; first | (refine hA.out ?_; clear hA hB A B) | (refine hB.out ?_; clear hA hB A B) | (refine iteI (fun h => hA.out ?_) (fun h => hB.out ?_) <;> clear hA hB A B) | (refine iteI (fun h => hB.out ?_) (fun h => hA.out ?_) <;> clear hA hB A B)) | (refine wpO_cons fun K hK => ?_; simp only [go_sem, reduceIte, Nat.reduceAdd, Nat.reduceEqDiff, Nat.reduceLT, Nat.reduceLeDiff, *, wpK_append ty30 rfl, wpK_assignN ty30 rfl, wpK_buildSlice ty30 rfl, e, Int.lt_irrefl, lenK_sl]; first | (refine hK.out _ _ ?_; clear hK K) | (refine iteI (fun h => hK.out _ _ ?_) (fun h => hK.out _ _ ?_) <;> clear hK K)))
    simp only [resultsR, resultsL, resultA, expK_int, expK_bool, expK_str, expK_agg, expK_own, expK_tsl, resK_some, go_sem, reduceIte, Nat.reduceAdd, Nat.reduceEqDiff, Nat.reduceLT, Nat.reduceLeDiff, wpK_append ty30 rfl, wpK_assignN ty30 rfl, wpK_buildSlice ty30 rfl, spans_len, h5, h6]
    rw [hh.out]; rfl
  | cons x qa =>
  have lta : (pa.length : Int) < (sa.length : Int) := by rw [h1]; simp; omega
  cases qb with
  | nil =>
    have e : (sb.length : Int) = (pb.length : Int) := by rw [h2, List.append_nil]
    have hh : Hold (acc = bothGo sa sb) := ⟨by rw [← h8, bothGo, List.append_nil]⟩
    clear h1 h2 h8
    repeat' (first | refine go1 ?_ | refine blockK_else rfl ?_ | (refine wpC_cond fun A B hA hB => ?_; simp only [go_sem, reduceIte, Nat.reduceAdd, Nat.reduceEqDiff, Nat.reduceLT, Nat.reduceLeDiff, *, wpK_append ty30 rfl, wpK_assignN ty30 rfl, wpK_buildSlice ty30 rfl, e, Int.lt_irrefl, lenK_sl]; first | (refine hA.out ?_; clear hA hB A B) | (refine hB.out ?_; clear hA hB A B) | (refine iteI (fun h => hA.out ?_) (fun h => hB.out ?_) <;> clear hA hB A B) | (refine iteI (fun h => hB.out ?_) (fun h => hA.out ?_) <;> clear hA hB A B)) | (refine wpO_cons fun K hK => ?_; simp only [go_sem, reduceIte, Nat.reduceAdd, Nat.reduceEqDiff, Nat.reduceLT, Nat.reduceLeDiff, *, wpK_append ty30 rfl, wpK_assignN ty30 rfl, wpK_buildSlice ty30 rfl, e, Int.lt_irrefl, lenK_sl]; first | (refine hK.out _ _ ?_; clear hK K) | (refine iteI (fun h => hK.out _ _ ?_) (fun h => hK.out _ _ ?_) <;> clear hK K)))
    simp only [resultsR, resultsL, resultA, expK_int, expK_bool, expK_str, expK_agg, expK_own, expK_tsl, resK_some, go_sem, reduceIte, Nat.reduceAdd, Nat.reduceEqDiff, Nat.reduceLT, Nat.reduceLeDiff, wpK_append ty30 rfl, wpK_assignN ty30 rfl, wpK_buildSlice ty30 rfl, spans_len, h5, h6]
    rw [hh.out]; rfl
  | cons y qb =>
  have ltb : (pb.length : Int) < (sb.length : Int) := by rw [h2]; simp; omega
  have i1 := idxZ (b := 1) (e := sa.length) (len := sa.length) (j := pa.length) (k := .i64) (by omega)
  have i2 := idxZ (b := 2) (e := sb.length) (len := sb.length) (j := pb.length) (k := .i64) (by omega)
  have g1 : (spans sa)[pa.length]? = some [.int .i64 x.1, .int .i64 x.2] := spans_get (by rw [h1]; simp)
  have g2 : (spans sb)[pb.length]? = some [.int .i64 y.1, .int .i64 y.2] := spans_get (by rw [h2]; simp)
  have lta' : pa.length < sa.length := by omega
  have ltb' : pb.length < sb.length := by omega
  have w1 := wrap_succ (n := pa.length) (by omega)
  have w2 := wrap_succ (n := pb.length) (by omega)
  have a3 := at_app h3
  have a4 := at_app h4
  have a5 := at_app h5
  have a6 := set_app h5
  have b3 := at_set_ne h3 (b := bo) (by omega)
  have b4 := at_set_ne h4 (b := bo) (by omega)
  have b5 := at_set h5
  have so := span_ok (n := acc.length) (by omega)
  have hh1 : Hold (sa = (pa ++ [x]) ++ qa) := ⟨by rw [h1]; simp⟩
  have hh2 : Hold (sb = (pb ++ [y]) ++ qb) := ⟨by rw [h2]; simp⟩
  have hh3 : Hold (sa = pa ++ x :: qa) := ⟨h1⟩
  have hh4 : Hold (sb = pb ++ y :: qb) := ⟨h2⟩
  have h8' : acc ++ ((if (cap x y).1 < (cap x y).2 then [cap x y] else []) ++ (if x.2 < y.2 then bothGo qa (y :: qb) else bothGo (x :: qa) qb)) = bothGo sa sb := by
    rw [← h8]; conv => rhs; rw [bothGo]
  clear h1 h2 h8
  by_cases hc : max x.1 y.1 < min x.2 y.2
  · have hs := spans_snoc acc (cap x y)
    simp only [cap] at hs
    rw [if_pos (show (cap x y).1 < (cap x y).2 from hc)] at h8'
    by_cases ht : x.2 < y.2
    · rw [if_pos ht] at h8'
      have hh : Hold (acc ++ [cap x y] ++ bothGo qa (y :: qb) = bothGo sa sb) := ⟨by rw [← h8', List.append_assoc]⟩
      clear h8'
      repeat' (first | refine go1 ?_ | refine blockK_else rfl ?_ | (refine wpC_cond fun A B hA hB => ?_; simp only [go_sem, reduceIte, Nat.reduceAdd, Nat.reduceEqDiff, Nat.reduceLT, Nat.reduceLeDiff, *, wpK_append ty30 rfl, wpK_assignN ty30 rfl, wpK_buildSlice ty30 rfl, lenK_sl, i1, i2, a3, a4, a5, a6, g1, g2, w1, w2, max_if, min_if, Nat.zero_le, getElem?_len, getElem?_lenAdd, set_len, List.append_assoc, List.length_append, spans_len, hs]; first | (refine hA.out ?_; clear hA hB A B) | (refine hB.out ?_; clear hA hB A B) | (refine iteI (fun h => hA.out ?_) (fun h => hB.out ?_) <;> clear hA hB A B) | (refine iteI (fun h => hB.out ?_) (fun h => hA.out ?_) <;> clear hA hB A B)) | (refine wpO_cons fun K hK => ?_; simp only [go_sem, reduceIte, Nat.reduceAdd, Nat.reduceEqDiff, Nat.reduceLT, Nat.reduceLeDiff, *, wpK_append ty30 rfl, wpK_assignN ty30 rfl, wpK_buildSlice ty30 rfl, lenK_sl, i1, i2, a3, a4, a5, a6, g1, g2, w1, w2, max_if, min_if, Nat.zero_le, getElem?_len, getElem?_lenAdd, set_len, List.append_assoc, List.length_append, spans_len, hs]; first | (refine hK.out _ _ ?_; clear hK K) | (refine iteI (fun h => hK.out _ _ ?_) (fun h => hK.out _ _ ?_) <;> clear hK K)))
      refine loopF_next (pa ++ [x], qa, pb, y :: qb, acc ++ [cap x y], bo, w0, _) (by simp only [List.length_cons]; omega) ⟨hh1.out, hh4.out, b3 _ _, b4 _ _, b5 _ _, ?_, h7, hh.out, ?_⟩ ?_ ⟨[], rfl⟩
      · simp only [List.length_append, List.length_cons, List.length_nil]; omega
      · simp only [List.length_append, List.length_cons, List.length_nil]; omega
      · ((try simp only [eraseA_cons, eraseA_nil, setL_cons, setL_nil, List.set_cons_zero, List.set_cons_succ]); all_goals (first | rfl | (simp only [len_snoc, ints_len, List.length_map, ]; done) | (simp only [len_snoc, len_mid, ints_len, List.length_map, List.length_append, List.length_cons, List.length_nil, Nat.zero_add, ]; done) | (simp only [len_mid, len_snoc, ints_len, List.length_map, List.length_append, List.length_cons, List.length_nil, Nat.zero_add, ]; rfl)))
    · rw [if_neg ht] at h8'
      have hh : Hold (acc ++ [cap x y] ++ bothGo (x :: qa) qb = bothGo sa sb) := ⟨by rw [← h8', List.append_assoc]⟩
      clear h8'
      repeat' (first | refine go1 ?_ | refine blockK_else rfl ?_ | (refine wpC_cond fun A B hA hB => ?_; simp only [go_sem, reduceIte, Nat.reduceAdd, Nat.reduceEqDiff, Nat.reduceLT, Nat.reduceLeDiff, *, wpK_append ty30 rfl, wpK_assignN ty30 rfl, wpK_buildSlice ty30 rfl, lenK_sl, i1, i2, a3, a4, a5, a6, g1, g2, w1, w2, max_if, min_if, Nat.zero_le, getElem?_len, getElem?_lenAdd, set_len, List.append_assoc, List.length_append, spans_len, hs]; first | (refine hA.out ?_; clear hA hB A B) | (refine hB.out ?_; clear hA hB A B) | (refine iteI (fun h => hA.out ?_) (fun h => hB.out ?_) <;> clear hA hB A B) | (refine iteI (fun h => hB.out ?_) (fun h => hA.out ?_) <;> clear hA hB A B)) | (refine wpO_cons fun K hK => ?_; simp only [go_sem, reduceIte, Nat.reduceAdd, Nat.reduceEqDiff, Nat.reduceLT, Nat.reduceLeDiff, *, wpK_append ty30 rfl, wpK_assignN ty30 rfl, wpK_buildSlice ty30 rfl, lenK_sl, i1, i2, a3, a4, a5, a6, g1, g2, w1, w2, max_if, min_if, Nat.zero_le, getElem?_len, getElem?_lenAdd, set_len, List.append_assoc, List.length_append, spans_len, hs]; first | (refine hK.out _ _ ?_; clear hK K) | (refine iteI (fun h => hK.out _ _ ?_) (fun h => hK.out _ _ ?_) <;> clear hK K)))
      refine loopF_next (pa, x :: qa, pb ++ [y], qb, acc ++ [cap x y], bo, w0, _) (by simp only [List.length_cons]; omega) ⟨hh3.out, hh2.out, b3 _ _, b4 _ _, b5 _ _, ?_, h7, hh.out, ?_⟩ ?_ ⟨[], rfl⟩
      · simp only [List.length_append, List.length_cons, List.length_nil]; omega
      · simp only [List.length_append, List.length_cons, List.length_nil]; omega
      · ((try simp only [eraseA_cons, eraseA_nil, setL_cons, setL_nil, List.set_cons_zero, List.set_cons_succ]); all_goals (first | rfl | (simp only [len_snoc, ints_len, List.length_map, ]; done) | (simp only [len_snoc, len_mid, ints_len, List.length_map, List.length_append, List.length_cons, List.length_nil, Nat.zero_add, ]; done) | (simp only [len_mid, len_snoc, ints_len, List.length_map, List.length_append, List.length_cons, List.length_nil, Nat.zero_add, ]; rfl)))
  · rw [if_neg (show ¬ (cap x y).1 < (cap x y).2 from hc)] at h8'
    by_cases ht : x.2 < y.2
    · rw [if_pos ht] at h8'
      have hh : Hold (acc ++ bothGo qa (y :: qb) = bothGo sa sb) := ⟨by rw [← h8', List.nil_append]⟩
      clear h8'
      repeat' (first | refine go1 ?_ | refine blockK_else rfl ?_ | (refine wpC_cond fun A B hA hB => ?_; simp only [go_sem, reduceIte, Nat.reduceAdd, Nat.reduceEqDiff, Nat.reduceLT, Nat.reduceLeDiff, *, wpK_append ty30 rfl, wpK_assignN ty30 rfl, wpK_buildSlice ty30 rfl, lenK_sl, i1, i2, a3, a4, a5, a6, g1, g2, w1, w2, max_if, min_if, Nat.zero_le, getElem?_len, getElem?_lenAdd, set_len, List.append_assoc, List.length_append, spans_len]; first | (refine hA.out ?_; clear hA hB A B) | (refine hB.out ?_; clear hA hB A B) | (refine iteI (fun h => hA.out ?_) (fun h => hB.out ?_) <;> clear hA hB A B) | (refine iteI (fun h => hB.out ?_) (fun h => hA.out ?_) <;> clear hA hB A B)) | (refine wpO_cons fun K hK => ?_; simp only [go_sem, reduceIte, Nat.reduceAdd, Nat.reduceEqDiff, Nat.reduceLT, Nat.reduceLeDiff, *, wpK_append ty30 rfl, wpK_assignN ty30 rfl, wpK_buildSlice ty30 rfl, lenK_sl, i1, i2, a3, a4, a5, a6, g1, g2, w1, w2, max_if, min_if, Nat.zero_le, getElem?_len, getElem?_lenAdd, set_len, List.append_assoc, List.length_append, spans_len]; first | (refine hK.out _ _ ?_; clear hK K) | (refine iteI (fun h => hK.out _ _ ?_) (fun h => hK.out _ _ ?_) <;> clear hK K)))
      refine loopF_next (pa ++ [x], qa, pb, y :: qb, acc, bo, w0, _) (by simp only [List.length_cons]; omega) ⟨hh1.out, hh4.out, a3 _, a4 _, a5 _, ?_, h7, hh.out, ?_⟩ ?_ ⟨[], rfl⟩
      · simp only [List.length_append, List.length_cons, List.length_nil]; omega
      · simp only [List.length_append, List.length_cons, List.length_nil]; omega
      · ((try simp only [eraseA_cons, eraseA_nil, setL_cons, setL_nil, List.set_cons_zero, List.set_cons_succ]); all_goals (first | rfl | (simp only [len_snoc, ints_len, List.length_map, ]; done) | (simp only [len_snoc, len_mid, ints_len, List.length_map, List.length_append, List.length_cons, List.length_nil, Nat.zero_add, ]; done) | (simp only [len_mid, len_snoc, ints_len, List.length_map, List.length_append, List.length_cons, List.length_nil, Nat.zero_add, ]; rfl)))
    · rw [if_neg ht] at h8'
      have hh : Hold (acc ++ bothGo (x :: qa) qb = bothGo sa sb) := ⟨by rw [← h8', List.nil_append]⟩
      clear h8'
      repeat' (first | refine go1 ?_ | refine blockK_else rfl ?_ | (refine wpC_cond fun A B hA hB => ?_; simp only [go_sem, reduceIte, Nat.reduceAdd, Nat.reduceEqDiff, Nat.reduceLT, Nat.reduceLeDiff, *, wpK_append ty30 rfl, wpK_assignN ty30 rfl, wpK_buildSlice ty30 rfl, lenK_sl, i1, i2, a3, a4, a5, a6, g1, g2, w1, w2, max_if, min_if, Nat.zero_le, getElem?_len, getElem?_lenAdd, set_len, List.append_assoc, List.length_append, spans_len]; first | (refine hA.out ?_; clear hA hB A B) | (refine hB.out ?_; clear hA hB A B) | (refine iteI (fun h => hA.out ?_) (fun h => hB.out ?_) <;> clear hA hB A B) | (refine iteI (fun h => hB.out ?_) (fun h => hA.out ?_) <;> clear hA hB A B)) | (refine wpO_cons fun K hK => ?_; simp only [go_sem, reduceIte, Nat.reduceAdd, Nat.reduceEqDiff, Nat.reduceLT, Nat.reduceLeDiff, *, wpK_append ty30 rfl, wpK_assignN ty30 rfl, wpK_buildSlice ty30 rfl, lenK_sl, i1, i2, a3, a4, a5, a6, g1, g2, w1, w2, max_if, min_if, Nat.zero_le, getElem?_len, getElem?_lenAdd, set_len, List.append_assoc, List.length_append, spans_len]; first | (refine hK.out _ _ ?_; clear hK K) | (refine iteI (fun h => hK.out _ _ ?_) (fun h => hK.out _ _ ?_) <;> clear hK K)))
      refine loopF_next (pa, x :: qa, pb ++ [y], qb, acc, bo, w0, _) (by simp only [List.length_cons]; omega) ⟨hh3.out, hh2.out, a3 _, a4 _, a5 _, ?_, h7, hh.out, ?_⟩ ?_ ⟨[], rfl⟩
      · simp only [List.length_append, List.length_cons, List.length_nil]; omega
      · simp only [List.length_append, List.length_cons, List.length_nil]; omega
      · ((try simp only [eraseA_cons, eraseA_nil, setL_cons, setL_nil, List.set_cons_zero, List.set_cons_succ]); all_goals (first | rfl | (simp only [len_snoc, ints_len, List.length_map, ]; done) | (simp only [len_snoc, len_mid, ints_len, List.length_map, List.length_append, List.length_cons, List.length_nil, Nat.zero_add, ]; done) | (simp only [len_mid, len_snoc, ints_len, List.length_map, List.length_append, List.length_cons, List.length_nil, Nat.zero_add, ]; rfl)))

/- Lists of spans: Minus, Covers, Total. -/
open Go.Proofs
attribute [local go_sem] br24 fz65 fz66 fz67 fz59 br43 br44 fz68 fz69
set_option maxRecDepth 20000
set_option maxHeartbeats 4000000

theorem at_new {S X : Store} {b : Nat} {y : Blk} : (S.set b y ++ X)[S.length]? = X[0]? := by
  have := getElem?_len (G := S.set b y) (l := X); rwa [List.length_set] at this
theorem at_newK {S X : Store} {b k : Nat} {y : Blk} : (S.set b y ++ X)[S.length + k]? = X[k]? := by
  have := getElem?_lenAdd (G := S.set b y) (l := X) (k := k); rwa [List.length_set] at this
theorem insGo_len : ∀ (l b a : List El) (s : El), (insGo b a s l).length ≤ b.length + a.length + 1 + l.length
  | [], b, a, s => by simp [insGo]; omega
  | x :: l, b, a, s => by
    unfold insGo
    split
    · have := insGo_len l (b ++ [x]) a s; simp only [List.length_append, List.length_cons, List.length_nil] at this ⊢; omega
    · split
      · have := insGo_len l b (a ++ [x]) s; simp only [List.length_append, List.length_cons, List.length_nil] at this ⊢; omega
      · have := insGo_len l b a (min s.1 x.1, max s.2 x.2); simp only [List.length_cons] at this ⊢; omega
theorem insS_len (l : List El) (s : El) : (insS l s).length ≤ l.length + 1 := by have := insGo_len l [] [] s; simp only [List.length_nil] at this; unfold insS; omega
theorem uniGo_len : ∀ (l out : List El), (l.foldl (fun out x => if rgt x = true then insS out x else out) out).length ≤ out.length + l.length
  | [], out => by simp
  | x :: l, out => by
    rw [List.foldl_cons, List.length_cons]
    have h1 := uniGo_len l (if rgt x = true then insS out x else out)
    have h2 : (if rgt x = true then insS out x else out).length ≤ out.length + 1 := by split; exact insS_len _ _; omega
    omega
theorem uniR_len (l : List El) : (uniR l).length ≤ l.length := by have := uniGo_len l []; rw [List.length_nil, Nat.zero_add] at this; exact this
theorem gaps_len : ∀ (l : List El) (a : Int), (gapsGo a l).length = l.length + 1
  | [], _ => rfl
  | _ :: l, _ => by rw [gapsGo, List.length_cons, gaps_len l, List.length_cons]

theorem minusE (v w : AV) (a b : List El) (hv : SLs 2 (spans a) v) (hw : SLs 2 (spans b) w) (ha : a.length ≤ 900000) (hb : b.length ≤ 900000) : EvV CX 26 [v, w] (· = .osl 2 (spans (minusP a b))) := by
  have q1 := (unionE w b hw (by omega)).rw
  have s1 := hv.snap
  have s2 := hw.snap
  have hbl := uniR_len b
  have hal := uniR_len a
  unfold minusP
  obtain ⟨sb, hsb⟩ : ∃ s, uniR b = s := ⟨_, rfl⟩
  rw [hsb] at q1 hbl ⊢
  have q2 := (bothE v (.tsl false 2 (spans (gapsGo 0 sb))) a (gapsGo 0 sb) hv (.rows false) (by omega) (by rw [gaps_len]; omega) (by omega) (by have := uniR_len (gapsGo 0 sb); rw [gaps_len] at this; omega)).rw
  have hgl := gaps_len sb 0
  obtain ⟨gl, hgp⟩ : ∃ g, gapsGo 0 sb = g := ⟨_, rfl⟩
  rw [hgp] at q2 hgl ⊢
  refine EvV.walk rfl fn26 rfl nt26 rfl ?_
  simp only [List.length_cons, List.length_nil, List.cons_append, List.nil_append, Nat.reduceAdd, Nat.reduceSub, List.replicate]
  repeat' (first | refine go1 ?_ | refine blockK_else rfl ?_ | (refine wpO_cons fun K hK => ?_; simp only [go_sem, reduceIte, Nat.reduceAdd, Nat.reduceEqDiff, Nat.reduceLT, Nat.reduceLeDiff, *, wpK_append ty30 rfl, wpK_assignN ty30 rfl, wpK_buildSlice ty30 rfl, s1, s2, q1, spans_len]; first | (refine hK.out _ _ ?_; clear hK K) | (refine iteI (fun h => hK.out _ _ ?_) (fun h => hK.out _ _ ?_) <;> clear hK K)))
  refine wpC_loopF [8, 13, 14, 15, 16, 17, 18, 19, 20, 21, 22, 23, 24, 25] (fun p : List El × List El × List El × Int × Nat × Nat × Store => [(5, .sl p.2.2.2.2.1 p.2.2.1.length 0 p.2.2.1.length 2), (6, .int .i64 p.2.2.2.1), (12, .int .i64 p.1.length)]) (fun p _ => p.2.2.2.2.2.2)
    (fun p => sb = p.1 ++ p.2.1 ∧ p.2.2.2.2.2.2[2]? = some (.arr (spans sb) 2 0 true) ∧ p.2.2.2.2.2.2[p.2.2.2.2.1]? = some (.arr (spans p.2.2.1) 2 p.2.2.2.2.2.1 true) ∧ p.2.2.2.2.2.1 ≤ p.2.2.1.length ∧ p.2.2.2.2.1 ≠ 2 ∧ p.2.2.1 ++ gapsGo p.2.2.2.1 p.2.1 = gl ∧ p.2.2.1.length = p.1.length)
    (fun p => p.2.1.length) ([], sb, [], 0, 1, 0, _) ⟨rfl, rfl, rfl, Nat.le_refl _, by simp, hgp, rfl⟩ ?_ ⟨[], rfl⟩ ?_
  · rfl
  clear q1 hgp
  rintro ⟨pre, po, acc, at_, bo, w0, S⟩ g G ⟨h1, h2, h3, h4, h5, h6, h7⟩
  simp only at h1 h2 h3 h4 h5 h6 h7
  have a5 := at_app h3
  have a6 := set_app h3
  have b5 := at_set h3
  simp only [garbA_cons, garbA_nil, setL_cons, setL_nil, List.set_cons_zero, List.set_cons_succ]
  cases po with
  | nil =>
    have e : (sb.length : Int) = (pre.length : Int) := by rw [h1, List.append_nil]
    have e0 : sb.length = pre.length := by rw [h1, List.append_nil]
    have so := span_ok (n := acc.length) (by omega)
    have hs : spans acc ++ [[.int .i64 at_, .int .i64 86400000]] = spans gl := by
      have := spans_snoc acc (at_, 86400000)
      rw [← h6]; exact this
    have hgl2 : acc.length + 1 = gl.length := by omega
    have hgl3 : (spans gl).take gl.length = spans gl := by rw [← spans_len gl]; exact List.take_length
    have h4' : w0 ≤ gl.length := by omega
    have so2 : gl.length * 16 ≤ 140737488355328 ∧ gl.length ≤ 140737488355328 := by omega
    clear h1 h6 hgl h7
    repeat' (first | refine go1 ?_ | refine blockK_else rfl ?_ | (refine wpC_cond fun A B hA hB => ?_; simp only [go_sem, reduceIte, Nat.reduceAdd, Nat.reduceEqDiff, Nat.reduceLT, Nat.reduceLeDiff, *, wpK_append ty30 rfl, wpK_assignN ty30 rfl, wpK_buildSlice ty30 rfl, s1, e, Int.lt_irrefl, lenK_sl, a5, a6, b5, q2, Nat.zero_le, getElem?_len, getElem?_lenAdd, set_len, List.append_assoc, List.length_append, spans_len, hs, snap_sl, rowsOf_sl, ints_len, ints_take, List.take_length, Nat.zero_le, Nat.zero_add, Bool.true_or, hgl2, hgl3]; first | (refine hA.out ?_; clear hA hB A B) | (refine hB.out ?_; clear hA hB A B) | (refine iteI (fun h => hA.out ?_) (fun h => hB.out ?_) <;> clear hA hB A B) | (refine iteI (fun h => hB.out ?_) (fun h => hA.out ?_) <;> clear hA hB A B)) | (refine wpO_cons fun K hK => ?_; simp only [go_sem, reduceIte, Nat.reduceAdd, Nat.reduceEqDiff, Nat.reduceLT, Nat.reduceLeDiff, *, wpK_append ty30 rfl, wpK_assignN ty30 rfl, wpK_buildSlice ty30 rfl, s1, e, Int.lt_irrefl, lenK_sl, a5, a6, b5, q2, Nat.zero_le, getElem?_len, getElem?_lenAdd, set_len, List.append_assoc, List.length_append, spans_len, hs, snap_sl, rowsOf_sl, ints_len, ints_take, List.take_length, Nat.zero_le, Nat.zero_add, Bool.true_or, hgl2, hgl3]; first | (refine hK.out _ _ ?_; clear hK K) | (refine iteI (fun h => hK.out _ _ ?_) (fun h => hK.out _ _ ?_) <;> clear hK K)))
    simp only [resultsR, resultsL, resultA, expK_int, expK_bool, expK_str, expK_agg, expK_own, expK_tsl, resK_some, go_sem, reduceIte, Nat.reduceAdd, Nat.reduceEqDiff, Nat.reduceLT, Nat.reduceLeDiff, wpK_append ty30 rfl, wpK_assignN ty30 rfl, wpK_buildSlice ty30 rfl, spans_len, getElem?_lenAdd, List.getElem?_cons_succ, Nat.zero_le]
    simp
  | cons x po =>
    have lta : (pre.length : Int) < (sb.length : Int) := by rw [h1]; simp; omega
    have lta' : pre.length < sb.length := by omega
    have i1 := idxZ (b := 2) (e := sb.length) (len := sb.length) (j := pre.length) (k := .i64) (by omega)
    have g1 : (spans sb)[pre.length]? = some [.int .i64 x.1, .int .i64 x.2] := spans_get (by rw [h1]; simp)
    have w1 := wrap_succ (n := pre.length) (by omega)
    have a3 := at_app h2
    have b3 := at_set_ne h2 h5
    have so := span_ok (n := acc.length) (by omega)
    have hs : spans acc ++ [[.int .i64 at_, .int .i64 x.1]] = spans (acc ++ [(at_, x.1)]) := spans_snoc acc (at_, x.1)
    have hh1 : Hold (sb = (pre ++ [x]) ++ po) := ⟨by rw [h1]; simp⟩
    have hh2 : Hold (acc ++ [(at_, x.1)] ++ gapsGo x.2 po = gl) := ⟨by rw [← h6, gapsGo, List.append_assoc]; rfl⟩
    have hh3 : Hold (acc.length = pre.length) := ⟨h7⟩
    clear h1 h6 h7
    repeat' (first | refine go1 ?_ | refine blockK_else rfl ?_ | (refine wpC_cond fun A B hA hB => ?_; simp only [go_sem, reduceIte, Nat.reduceAdd, Nat.reduceEqDiff, Nat.reduceLT, Nat.reduceLeDiff, *, wpK_append ty30 rfl, wpK_assignN ty30 rfl, wpK_buildSlice ty30 rfl, lenK_sl, at_new, at_newK, i1, a3, a5, a6, b3, b5, g1, w1, Nat.zero_le, getElem?_len, getElem?_lenAdd, set_len, List.append_assoc, List.length_append, spans_len, hs]; first | (refine hA.out ?_; clear hA hB A B) | (refine hB.out ?_; clear hA hB A B) | (refine iteI (fun h => hA.out ?_) (fun h => hB.out ?_) <;> clear hA hB A B) | (refine iteI (fun h => hB.out ?_) (fun h => hA.out ?_) <;> clear hA hB A B)) | (refine wpO_cons fun K hK => ?_; simp only [go_sem, reduceIte, Nat.reduceAdd, Nat.reduceEqDiff, Nat.reduceLT, Nat.reduceLeDiff, *, wpK_append ty30 rfl, wpK_assignN ty30 rfl, wpK_buildSlice ty30 rfl, lenK_sl, at_new, at_newK, i1, a3, a5, a6, b3, b5, g1, w1, Nat.zero_le, getElem?_len, getElem?_lenAdd, set_len, List.append_assoc, List.length_append, spans_len, hs]; first | (refine hK.out _ _ ?_; clear hK K) | (refine iteI (fun h => hK.out _ _ ?_) (fun h => hK.out _ _ ?_) <;> clear hK K)))
    refine loopF_next (pre ++ [x], po, acc ++ [(at_, x.1)], x.2, bo, w0, _) (by simp only [List.length_cons]; omega) ⟨hh1.out, b3 _ _, b5 _ _, ?_, h5, hh2.out, ?_⟩ ?_ ⟨[], rfl⟩
    · simp only [List.length_append, List.length_cons, List.length_nil]; omega
    · simp only [List.length_append, hh3.out, List.length_cons, List.length_nil]
    · ((try simp only [eraseA_cons, eraseA_nil, setL_cons, setL_nil, List.set_cons_zero, List.set_cons_succ]); all_goals (first | rfl | (simp only [len_snoc, ints_len, List.length_map, ]; done) | (simp only [len_snoc, len_mid, ints_len, List.length_map, List.length_append, List.length_cons, List.length_nil, Nat.zero_add, ]; done) | (simp only [len_mid, len_snoc, ints_len, List.length_map, List.length_append, List.length_cons, List.length_nil, Nat.zero_add, ]; rfl)))

theorem cov1E (x s : El) (st : Bool) : EvV CX 44 [.agg (encE x), .tptr st (encE s) 0] (· = .bool (decide (x.1 ≤ s.1) && decide (s.2 ≤ x.2))) := by
  obtain ⟨a, b⟩ := x
  obtain ⟨c, d⟩ := s
  refine EvV.walk rfl fn44 rfl nt44 rfl ?_
  simp only [List.length_cons, List.length_nil, List.cons_append, List.nil_append, Nat.reduceAdd, Nat.reduceSub, List.replicate]
  repeat' (first | refine go1 ?_ | refine blockK_else rfl ?_ | (refine wpC_cond fun A B hA hB => ?_; simp only [go_sem, reduceIte, Nat.reduceAdd, Nat.reduceEqDiff, Nat.reduceLT, Nat.reduceLeDiff, *, and_self, encE]; first | (refine hA.out ?_; clear hA hB A B) | (refine hB.out ?_; clear hA hB A B) | (refine iteI (fun h => hA.out ?_) (fun h => hB.out ?_) <;> clear hA hB A B) | (refine iteI (fun h => hB.out ?_) (fun h => hA.out ?_) <;> clear hA hB A B)) | (refine wpO_cons fun K hK => ?_; simp only [go_sem, reduceIte, Nat.reduceAdd, Nat.reduceEqDiff, Nat.reduceLT, Nat.reduceLeDiff, *, and_self, encE]; first | (refine hK.out _ _ ?_; clear hK K) | (refine iteI (fun h => hK.out _ _ ?_) (fun h => hK.out _ _ ?_) <;> clear hK K)))
  all_goals simp only [resultsR, resultsL, resultA, expK_int, expK_bool, expK_str, expK_agg, expK_own, expK_tsl, resK_some, go_sem, reduceIte, Nat.reduceAdd, Nat.reduceEqDiff, Nat.reduceLT, Nat.reduceLeDiff, and_self, ]
  all_goals simp [*]
theorem posF_any (p : El → Bool) : ∀ (l : List El) (k : Nat), decide (0 ≤ posF p l k) = l.any p
  | [], k => rfl
  | x :: l, k => by
    rw [posF, List.any_cons]
    by_cases h : p x = true
    · rw [if_pos h, h]; simp
    · rw [if_neg h, posF_any p l]; simp [h]
theorem containsFE (v : AV) (l : List El) (clo : FuncId) (caps : List AV) (p : El → Bool) (hb : CX.byRef clo = false) (hs : ∀ S, snapL S caps = some caps) (hp : ∀ x, EvV CX clo (.agg (encE x) :: caps) (· = .bool (p x))) (hv : SLs 2 (l.map encE) v) (hl : l.length < 9223372036854775807) :
    EvV CX 43 [v, .fn clo caps] (· = .bool (l.any p)) := by
  have q := (indexFE v l clo caps p hb hs hp hv hl).rw
  have e := posF_any p l 0
  refine EvV.walk rfl fn43 rfl nt43 rfl ?_
  simp only [List.length_cons, List.length_nil, List.cons_append, List.nil_append, Nat.reduceAdd, Nat.reduceSub, List.replicate]
  repeat' (first | refine go1 ?_ | refine blockK_else rfl ?_ | (refine wpC_cond fun A B hA hB => ?_; simp only [go_sem, reduceIte, Nat.reduceAdd, Nat.reduceEqDiff, Nat.reduceLT, Nat.reduceLeDiff, *, and_self, hv.snap, hs, q, e, snap_fn]; first | (refine hA.out ?_; clear hA hB A B) | (refine hB.out ?_; clear hA hB A B) | (refine iteI (fun h => hA.out ?_) (fun h => hB.out ?_) <;> clear hA hB A B) | (refine iteI (fun h => hB.out ?_) (fun h => hA.out ?_) <;> clear hA hB A B)) | (refine wpO_cons fun K hK => ?_; simp only [go_sem, reduceIte, Nat.reduceAdd, Nat.reduceEqDiff, Nat.reduceLT, Nat.reduceLeDiff, *, and_self, hv.snap, hs, q, e, snap_fn]; first | (refine hK.out _ _ ?_; clear hK K) | (refine iteI (fun h => hK.out _ _ ?_) (fun h => hK.out _ _ ?_) <;> clear hK K)))
  simp only [resultsR, resultsL, resultA, expK_int, expK_bool, expK_str, expK_agg, expK_own, expK_tsl, resK_some, go_sem, reduceIte, Nat.reduceAdd, Nat.reduceEqDiff, Nat.reduceLT, Nat.reduceLeDiff, and_self, e]

theorem coversE (v : AV) (l : List El) (s : El) (hv : SLs 2 (spans l) v) (hl : l.length ≤ 1000000) : EvV CX 28 [v, .agg (encE s)] (· = .bool (covP l s)) := by
  have q1 := (unionE v l hv hl).rw
  have q2 := (rightE s).rw
  have s1 := hv.snap
  have hul := uniR_len l
  unfold covP
  obtain ⟨su, hsu⟩ : ∃ s, uniR l = s := ⟨_, rfl⟩
  rw [hsu] at q1 hul ⊢
  have hs : ∀ S, snapL S [.tptr false (encE s) 0] = some [.tptr false (encE s) 0] := fun S => by simp [snapL, snap]
  have q3 := (containsFE (.tsl false 2 (spans su)) su 44 [.tptr false (encE s) 0] _ rfl hs (fun x => cov1E x s false) (.rows false) (by omega)).rw
  obtain ⟨a, b⟩ := s
  simp only [encE] at q1 q2 q3 hs ⊢
  have hs2 : ∀ (C : Store), snap (.arr [[.int .i64 a, .int .i64 b]] 2 0 true :: C) (.ptr 0 1 2 0 0) = some (.tptr false [.int .i64 a, .int .i64 b] 0) := fun C => by
    simp [snap, rowOf, cleanL, AV.clean]
  have e1 : (spans su).take su.length = spans su := by rw [← spans_len su]; exact List.take_length
  by_cases hr : rgt (a, b) = true
  · rw [hr] at q2 ⊢
    refine EvV.walk rfl fn28 rfl nt28 rfl ?_
    simp only [List.length_cons, List.length_nil, List.cons_append, List.nil_append, Nat.reduceAdd, Nat.reduceSub, List.replicate]
    repeat' (first | refine go1 ?_ | refine blockK_else rfl ?_ | (refine wpC_cond fun A B hA hB => ?_; simp only [go_sem, reduceIte, Nat.reduceAdd, Nat.reduceEqDiff, Nat.reduceLT, Nat.reduceLeDiff, *, and_self, s1, q1, q2, q3, hs2, spans_len, snap_fn, snap_sl, rowsOf_sl, ints_len, ints_take, List.take_length, Nat.zero_le, Nat.zero_add, Bool.true_or, e1, List.getElem?_cons_succ]; first | (refine hA.out ?_; clear hA hB A B) | (refine hB.out ?_; clear hA hB A B) | (refine iteI (fun h => hA.out ?_) (fun h => hB.out ?_) <;> clear hA hB A B) | (refine iteI (fun h => hB.out ?_) (fun h => hA.out ?_) <;> clear hA hB A B)) | (refine wpO_cons fun K hK => ?_; simp only [go_sem, reduceIte, Nat.reduceAdd, Nat.reduceEqDiff, Nat.reduceLT, Nat.reduceLeDiff, *, and_self, s1, q1, q2, q3, hs2, spans_len, snap_fn, snap_sl, rowsOf_sl, ints_len, ints_take, List.take_length, Nat.zero_le, Nat.zero_add, Bool.true_or, e1, List.getElem?_cons_succ]; first | (refine hK.out _ _ ?_; clear hK K) | (refine iteI (fun h => hK.out _ _ ?_) (fun h => hK.out _ _ ?_) <;> clear hK K)))
    simp only [resultsR, resultsL, resultA, expK_int, expK_bool, expK_str, expK_agg, expK_own, expK_tsl, resK_some, go_sem, reduceIte, Nat.reduceAdd, Nat.reduceEqDiff, Nat.reduceLT, Nat.reduceLeDiff, and_self, Bool.true_and]
  · have hr' : rgt (a, b) = false := by simpa using hr
    rw [hr'] at q2 ⊢
    clear hr hr'
    refine EvV.walk rfl fn28 rfl nt28 rfl ?_
    simp only [List.length_cons, List.length_nil, List.cons_append, List.nil_append, Nat.reduceAdd, Nat.reduceSub, List.replicate]
    repeat' (first | refine go1 ?_ | refine blockK_else rfl ?_ | (refine wpC_cond fun A B hA hB => ?_; simp only [go_sem, reduceIte, Nat.reduceAdd, Nat.reduceEqDiff, Nat.reduceLT, Nat.reduceLeDiff, *, and_self, s1, q1, q2, q3, hs2, spans_len, snap_fn, snap_sl, rowsOf_sl, ints_len, ints_take, List.take_length, Nat.zero_le, Nat.zero_add, Bool.true_or]; first | (refine hA.out ?_; clear hA hB A B) | (refine hB.out ?_; clear hA hB A B) | (refine iteI (fun h => hA.out ?_) (fun h => hB.out ?_) <;> clear hA hB A B) | (refine iteI (fun h => hB.out ?_) (fun h => hA.out ?_) <;> clear hA hB A B)) | (refine wpO_cons fun K hK => ?_; simp only [go_sem, reduceIte, Nat.reduceAdd, Nat.reduceEqDiff, Nat.reduceLT, Nat.reduceLeDiff, *, and_self, s1, q1, q2, q3, hs2, spans_len, snap_fn, snap_sl, rowsOf_sl, ints_len, ints_take, List.take_length, Nat.zero_le, Nat.zero_add, Bool.true_or]; first | (refine hK.out _ _ ?_; clear hK K) | (refine iteI (fun h => hK.out _ _ ?_) (fun h => hK.out _ _ ?_) <;> clear hK K)))
    simp only [resultsR, resultsL, resultA, expK_int, expK_bool, expK_str, expK_agg, expK_own, expK_tsl, resK_some, go_sem, reduceIte, Nat.reduceAdd, Nat.reduceEqDiff, Nat.reduceLT, Nat.reduceLeDiff, and_self, Bool.false_and]

theorem totE (v : AV) (l : List El) (hv : SLs 2 (spans l) v) (hl : l.length ≤ 1000000) : EvV CX 30 [v] (· = .int .i64 (tot (uniR l))) := by
  have q1 := (unionE v l hv hl).rw
  have s1 := hv.snap
  have hul := uniR_len l
  have hrg := (uniR_spec l).1.rg
  obtain ⟨su, hsu⟩ : ∃ s, uniR l = s := ⟨_, rfl⟩
  rw [hsu] at q1 hul hrg ⊢
  have hrg' : Hold (∀ s ∈ su, rgt s = true) := ⟨hrg⟩
  clear hrg
  refine EvV.walk rfl fn30 rfl nt30 rfl ?_
  simp only [List.length_cons, List.length_nil, List.cons_append, List.nil_append, Nat.reduceAdd, Nat.reduceSub, List.replicate]
  repeat' (first | refine go1 ?_ | refine blockK_else rfl ?_ | (refine wpO_cons fun K hK => ?_; simp only [go_sem, reduceIte, Nat.reduceAdd, Nat.reduceEqDiff, Nat.reduceLT, Nat.reduceLeDiff, *, and_self, s1, q1, spans_len]; first | (refine hK.out _ _ ?_; clear hK K) | (refine iteI (fun h => hK.out _ _ ?_) (fun h => hK.out _ _ ?_) <;> clear hK K)))
  refine wpC_loopF [5, 10, 11, 12, 13, 14, 15, 16, 17, 18, 19, 20] (fun p : List El × List El × Int × Store => [(3, .int .i64 p.2.2.1), (9, .int .i64 p.1.length)]) (fun p _ => p.2.2.2)
    (fun p => su = p.1 ++ p.2.1 ∧ p.2.2.2[0]? = some (.arr (spans su) 2 0 true) ∧ p.2.2.1 + tot p.2.1 = tot su ∧ 0 ≤ p.2.2.1 ∧ p.2.2.1 ≤ (p.1.length : Int) * 86400000)
    (fun p => p.2.1.length) ([], su, 0, _) ⟨rfl, rfl, by simp, by simp, by simp⟩ ?_ ⟨[], rfl⟩ ?_
  · rfl
  clear q1
  rintro ⟨pre, po, n, S⟩ g G ⟨h1, h2, h3, h4, h5⟩
  simp only at h1 h2 h3 h4 h5
  simp only [garbA_cons, garbA_nil, setL_cons, setL_nil, List.set_cons_zero, List.set_cons_succ]
  cases po with
  | nil =>
    have e : (su.length : Int) = (pre.length : Int) := by rw [h1, List.append_nil]
    have hh : Hold (n = tot su) := ⟨by rw [← h3]; simp [tot]⟩
    clear h1 h3
    repeat' (first | refine go1 ?_ | refine blockK_else rfl ?_ | (refine wpC_cond fun A B hA hB => ?_; simp only [go_sem, reduceIte, Nat.reduceAdd, Nat.reduceEqDiff, Nat.reduceLT, Nat.reduceLeDiff, *, and_self, e, Int.lt_irrefl]; first | (refine hA.out ?_; clear hA hB A B) | (refine hB.out ?_; clear hA hB A B) | (refine iteI (fun h => hA.out ?_) (fun h => hB.out ?_) <;> clear hA hB A B) | (refine iteI (fun h => hB.out ?_) (fun h => hA.out ?_) <;> clear hA hB A B)) | (refine wpO_cons fun K hK => ?_; simp only [go_sem, reduceIte, Nat.reduceAdd, Nat.reduceEqDiff, Nat.reduceLT, Nat.reduceLeDiff, *, and_self, e, Int.lt_irrefl]; first | (refine hK.out _ _ ?_; clear hK K) | (refine iteI (fun h => hK.out _ _ ?_) (fun h => hK.out _ _ ?_) <;> clear hK K)))
    simp only [resultsR, resultsL, resultA, expK_int, expK_bool, expK_str, expK_agg, expK_own, expK_tsl, resK_some, go_sem, reduceIte, Nat.reduceAdd, Nat.reduceEqDiff, Nat.reduceLT, Nat.reduceLeDiff, and_self, ]
    rw [hh.out]
  | cons x po =>
    have lta : (pre.length : Int) < (su.length : Int) := by rw [h1]; simp; omega
    have lta' : pre.length < su.length := by omega
    have i1 := idxZ (b := 0) (e := su.length) (len := su.length) (j := pre.length) (k := .i64) (by omega)
    have g1 : (spans su)[pre.length]? = some [.int .i64 x.1, .int .i64 x.2] := spans_get (by rw [h1]; simp)
    have w1 := wrap_succ (n := pre.length) (by omega)
    have a3 := at_app h2
    have hx := rgt_iff.mp (hrg'.out x (by rw [h1]; simp))
    have hpb : (pre.length : Int) ≤ 1000000 := by omega
    have w2 : IntKind.wrap .i64 (x.2 - x.1) = x.2 - x.1 := wrap_small (by omega) (by omega)
    have w3 : IntKind.wrap .i64 (n + (x.2 - x.1)) = n + (x.2 - x.1) := wrap_small (by omega) (by omega)
    have hh1 : Hold (su = (pre ++ [x]) ++ po) := ⟨by rw [h1]; simp⟩
    have e : tot (x :: po) = (x.2 - x.1) + tot po := by simp [tot]
    have hh2 : Hold (n + (x.2 - x.1) + tot po = tot su) := ⟨by rw [← h3, e]; omega⟩
    have hh4 : Hold (0 ≤ n + (x.2 - x.1) ∧ n + (x.2 - x.1) ≤ ((pre.length + 1 : Nat) : Int) * 86400000) := ⟨by omega, by omega⟩
    clear h1 h3 e
    repeat' (first | refine go1 ?_ | refine blockK_else rfl ?_ | (refine wpC_cond fun A B hA hB => ?_; simp only [go_sem, reduceIte, Nat.reduceAdd, Nat.reduceEqDiff, Nat.reduceLT, Nat.reduceLeDiff, *, and_self, i1, a3, g1, w1, w2, w3, Nat.zero_le, getElem?_len, getElem?_lenAdd, set_len, List.append_assoc, List.length_append, spans_len]; first | (refine hA.out ?_; clear hA hB A B) | (refine hB.out ?_; clear hA hB A B) | (refine iteI (fun h => hA.out ?_) (fun h => hB.out ?_) <;> clear hA hB A B) | (refine iteI (fun h => hB.out ?_) (fun h => hA.out ?_) <;> clear hA hB A B)) | (refine wpO_cons fun K hK => ?_; simp only [go_sem, reduceIte, Nat.reduceAdd, Nat.reduceEqDiff, Nat.reduceLT, Nat.reduceLeDiff, *, and_self, i1, a3, g1, w1, w2, w3, Nat.zero_le, getElem?_len, getElem?_lenAdd, set_len, List.append_assoc, List.length_append, spans_len]; first | (refine hK.out _ _ ?_; clear hK K) | (refine iteI (fun h => hK.out _ _ ?_) (fun h => hK.out _ _ ?_) <;> clear hK K)))
    refine loopF_next (pre ++ [x], po, n + (x.2 - x.1), _) (by simp only [List.length_cons]; omega) ⟨hh1.out, a3 _, hh2.out, hh4.out.1, ?_⟩ ?_ ⟨[], rfl⟩
    · simp only [len_snoc]; exact hh4.out.2
    · ((try simp only [eraseA_cons, eraseA_nil, setL_cons, setL_nil, List.set_cons_zero, List.set_cons_succ]); all_goals (first | rfl | (simp only [len_snoc, ints_len, List.length_map, ]; done) | (simp only [len_snoc, len_mid, ints_len, List.length_map, List.length_append, List.length_cons, List.length_nil, Nat.zero_add, ]; done) | (simp only [len_mid, len_snoc, ints_len, List.length_map, List.length_append, List.length_cons, List.length_nil, Nat.zero_add, ]; rfl)))
end Go.Eng.Fo
