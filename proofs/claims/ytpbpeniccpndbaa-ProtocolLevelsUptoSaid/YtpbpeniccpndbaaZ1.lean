/- Part 1 of the texts behind this claim. -/
import Derived.Test.YtpbpeniccpndbaaCtxS
import Derived.Test.YtpbpeniccpndbaaEngV

namespace Go.Eng
open Go.Proofs

/-! Groups. -/
structure Grp where
  id : Int
  name : ByteArray
  people : List Int
  subs : List Int
  pv : AV
  sv : AV
def encG (g : Grp) : List AV := [.int .i64 g.id, .str g.name, g.pv, g.sv]
structure Grp.ok (g : Grp) : Prop where
  pv : SLs 1 (ints g.people) g.pv
  sv : SLs 1 (ints g.subs) g.sv

end Go.Eng

/- Groups and persons: finding, membership. -/
namespace Go.Eng
open Go.Proofs
set_option linter.unusedSimpArgs false
set_option linter.unusedVariables false
attribute [local irreducible] wpC wpO wp1 EvV EvR wpL
attribute [local go_sem] ty3 ty4 ty9 ty22 ty23 ty53 ty81 br60 br61 allocK fz7 br58 fz106 br53 fz65 fz105 beq_iff_eq beq_eq_false_iff_ne Int.natCast_inj Bool.not_eq_false' op1_go wpK_box wpK_alloc wpK_load wpK_store wpK_binOp wpK_unOp wpK_fieldAddr wpK_field wpK_build wpK_indexAddr wpK_slice wpK_len wpK_extract wpK_nilCheck wpK_pick wpK_makeFunc wpK_call wpK_callT wpK_max wpK_min wpK_assignT wpK_moveT wpK_assignB wpK_moveB wpK_assignI wpK_moveI wpK_assignA wpK_moveA callK_fn snapL_nil snapL_cons snap_int snap_bool snap_str snap_tsl snap_agg snap_fn snap_flat adopt_int adopt_bool adopt_str adopt_agg adopt_osl adopt_tsl adopt_tup op1_guard grdK_bool grdK_undef condK_bool someK_some pairK_some nilK_ptr nilK_tptr boxK storeK evalA_tmp evalA_int evalA_bool evalA_agg evalA_fn evalA_nil ofC_int ofC_bool getA_zero getA_succ cells_int cells_agg cells_bool cells_sl cells_tsl cell_int cell_bool cell_str cell_sl cell_esl cell_tsl cell_ptr cell_tptr cell_fn cell_nils cell_nilf List.all_cons List.all_nil Bool.and_true Bool.and_self Bool.true_and putA_some putA_none List.set_cons_zero List.set_cons_succ List.length_cons List.length_nil List.nil_append List.cons_append stabL AV.stab fieldAddrA fieldA List.getElem?_cons_zero List.getElem?_cons_succ Nat.zero_add loadA rowOf Nat.le_refl and_self true_and and_true partA binA unA intBin eqBin eqCells eqCell Option.bind_some decide_true decide_false decide_eq_true_eq ite_not Bool.not_eq_true' decide_eq_false_iff_not Bool.false_eq_true Option.map_some Option.map_none Bool.not_true Bool.not_false buildA fillA patch List.take List.drop List.map_cons List.map_nil extK List.getD_cons_zero List.getD_cons_succ minmaxA minmaxGo adoptZ_false adoptZ_true freeze_int freeze_bool freeze_str freeze_flat freeze_agg freeze_osl freeze_tsl freeze_tup frz1_bool frz1_int frz1_str frz1_agg frz1_osl frz1_tsl bne Bool.false_and Bool.and_false ne_eq not_true_eq_false not_false_eq_true List.append_nil

/-- Where a number stands first. -/
def idxOf (l : List Int) (n : Int) : Nat → Option Nat
  | k => match l with
    | [] => none
    | x :: l => if n = x then some k else idxOf l n (k + 1)
def codeOf : Option Nat → Int
  | some k => (k : Int)
  | none => -1

theorem idxOf_contains (l : List Int) (n : Int) : ∀ k, (idxOf l n k).isSome = l.contains n := by
  induction l with
  | nil => intro k; rfl
  | cons x l ih =>
    intro k
    unfold idxOf
    by_cases h : n = x
    · subst h; simp
    · simp only [h, if_false, ih, List.contains_cons]; simp [h]
theorem codeOf_pos (o : Option Nat) : decide (0 ≤ codeOf o) = o.isSome := by
  cases o with
  | none => rfl
  | some k => simp [codeOf]

theorem indexE (v : AV) (l : List Int) (n : Int) (hv : SLs 1 (ints l) v) (hl : l.length < 9223372036854775807) : EvV CX 58 [v, .int .i64 n] (· = .int .i64 (codeOf (idxOf l n 0))) := by
  refine EvV.walk rfl fn58 rfl nt58 rfl ?_
  simp only [List.length_cons, List.length_nil, List.cons_append, List.nil_append, Nat.reduceAdd, Nat.reduceSub, List.replicate]
  repeat' (first | refine go1 ?_ | refine blockK_else rfl ?_ | (refine wpC_cond fun A B hA hB => ?_; simp only [go_sem, reduceIte, Nat.reduceAdd, Nat.reduceEqDiff, Nat.reduceLT, Nat.reduceLeDiff, *, and_self, lenK_sls hv]; first | (refine hA.out ?_; clear hA hB A B) | (refine hB.out ?_; clear hA hB A B) | (refine iteI (fun h => hA.out ?_) (fun h => hB.out ?_) <;> clear hA hB A B) | (refine iteI (fun h => hB.out ?_) (fun h => hA.out ?_) <;> clear hA hB A B)) | (refine wpO_cons fun K hK => ?_; simp only [go_sem, reduceIte, Nat.reduceAdd, Nat.reduceEqDiff, Nat.reduceLT, Nat.reduceLeDiff, *, and_self, lenK_sls hv]; first | (refine hK.out _ _ ?_; clear hK K) | (refine iteI (fun h => hK.out _ _ ?_) (fun h => hK.out _ _ ?_) <;> clear hK K)))
  refine wpC_each [4, 5, 9, 10, 11, 12, 13, 14, 15, 16, 17, 18] 8 l (fun pre post => idxOf l n 0 = idxOf post n pre.length) ?_ ?_ ?_ ?_
  · rfl
  · rfl
  · intro g G h2
    rw [h2]; simp only [garbA_cons, garbA_nil, setL_cons, setL_nil, List.set_cons_zero, List.set_cons_succ]
    repeat' (first | refine go1 ?_ | refine blockK_else rfl ?_ | (refine wpC_cond fun A B hA hB => ?_; simp only [go_sem, reduceIte, Nat.reduceAdd, Nat.reduceEqDiff, Nat.reduceLT, Nat.reduceLeDiff, *, and_self, ints_len, List.length_map, Int.lt_irrefl, List.nil_append]; first | (refine hA.out ?_; clear hA hB A B) | (refine hB.out ?_; clear hA hB A B) | (refine iteI (fun h => hA.out ?_) (fun h => hB.out ?_) <;> clear hA hB A B) | (refine iteI (fun h => hB.out ?_) (fun h => hA.out ?_) <;> clear hA hB A B)) | (refine wpO_cons fun K hK => ?_; simp only [go_sem, reduceIte, Nat.reduceAdd, Nat.reduceEqDiff, Nat.reduceLT, Nat.reduceLeDiff, *, and_self, ints_len, List.length_map, Int.lt_irrefl, List.nil_append]; first | (refine hK.out _ _ ?_; clear hK K) | (refine iteI (fun h => hK.out _ _ ?_) (fun h => hK.out _ _ ?_) <;> clear hK K)))
    simp only [resultsR, resultsL, resultA, expK_int, expK_bool, expK_str, expK_agg, expK_own, expK_tsl, resK_some, go_sem, reduceIte, Nat.reduceAdd, Nat.reduceEqDiff, Nat.reduceLT, Nat.reduceLeDiff, and_self, ]
    rfl
  · intro g G pre x post h1 h2
    rw [h2]; subst h1; simp only [garbA_cons, garbA_nil, setL_cons, setL_nil, List.set_cons_zero, List.set_cons_succ]
    have i1 := idx_sls hv (X := CX) ty23 ty3 rfl (ints_mid pre x post) (k := .i64)
    have w1 := wrap_succ (n := pre.length) (by simp at hl; omega)
    by_cases hx : n = x
    · subst hx
      repeat' (first | refine go1 ?_ | refine blockK_else rfl ?_ | (refine wpC_cond fun A B hA hB => ?_; simp only [go_sem, reduceIte, Nat.reduceAdd, Nat.reduceEqDiff, Nat.reduceLT, Nat.reduceLeDiff, *, and_self, getElem?_len, getElem?_lenAdd, set_len, set_lenAdd, len_mid, ints_len, List.length_map, lt_mid, List.nil_append, i1, w1, beq_self_eq_true]; first | (refine hA.out ?_; clear hA hB A B) | (refine hB.out ?_; clear hA hB A B) | (refine iteI (fun h => hA.out ?_) (fun h => hB.out ?_) <;> clear hA hB A B) | (refine iteI (fun h => hB.out ?_) (fun h => hA.out ?_) <;> clear hA hB A B)) | (refine wpO_cons fun K hK => ?_; simp only [go_sem, reduceIte, Nat.reduceAdd, Nat.reduceEqDiff, Nat.reduceLT, Nat.reduceLeDiff, *, and_self, getElem?_len, getElem?_lenAdd, set_len, set_lenAdd, len_mid, ints_len, List.length_map, lt_mid, List.nil_append, i1, w1, beq_self_eq_true]; first | (refine hK.out _ _ ?_; clear hK K) | (refine iteI (fun h => hK.out _ _ ?_) (fun h => hK.out _ _ ?_) <;> clear hK K)))
      simp only [resultsR, resultsL, resultA, expK_int, expK_bool, expK_str, expK_agg, expK_own, expK_tsl, resK_some, go_sem, reduceIte, Nat.reduceAdd, Nat.reduceEqDiff, Nat.reduceLT, Nat.reduceLeDiff, and_self, ]
      simp [idxOf, codeOf]
    · have hx' : (n == x) = false := by simpa using hx
      have hh : Hold (¬ n = x) := ⟨hx⟩
      clear hx
      repeat' (first | refine go1 ?_ | refine blockK_else rfl ?_ | (refine wpC_cond fun A B hA hB => ?_; simp only [go_sem, reduceIte, Nat.reduceAdd, Nat.reduceEqDiff, Nat.reduceLT, Nat.reduceLeDiff, *, and_self, getElem?_len, getElem?_lenAdd, set_len, set_lenAdd, len_mid, ints_len, List.length_map, lt_mid, List.nil_append, i1, w1, hx']; first | (refine hA.out ?_; clear hA hB A B) | (refine hB.out ?_; clear hA hB A B) | (refine iteI (fun h => hA.out ?_) (fun h => hB.out ?_) <;> clear hA hB A B) | (refine iteI (fun h => hB.out ?_) (fun h => hA.out ?_) <;> clear hA hB A B)) | (refine wpO_cons fun K hK => ?_; simp only [go_sem, reduceIte, Nat.reduceAdd, Nat.reduceEqDiff, Nat.reduceLT, Nat.reduceLeDiff, *, and_self, getElem?_len, getElem?_lenAdd, set_len, set_lenAdd, len_mid, ints_len, List.length_map, lt_mid, List.nil_append, i1, w1, hx']; first | (refine hK.out _ _ ?_; clear hK K) | (refine iteI (fun h => hK.out _ _ ?_) (fun h => hK.out _ _ ?_) <;> clear hK K)))
      refine each_next rfl ?_ ?_ ?_
      · rw [idxOf, if_neg hh.out, len_snoc]
      · ((try simp only [eraseA_cons, eraseA_nil, setL_cons, setL_nil, List.set_cons_zero, List.set_cons_succ]); all_goals (first | rfl | (simp only [len_snoc, ints_len, List.length_map, ]; done) | (simp only [len_snoc, len_mid, ints_len, List.length_map, List.length_append, List.length_cons, List.length_nil, Nat.zero_add, ]; done) | (simp only [len_mid, len_snoc, ints_len, List.length_map, List.length_append, List.length_cons, List.length_nil, Nat.zero_add, ]; rfl)))
      · first | exact ⟨[], (List.append_nil _).symm⟩ | exact ⟨_, rfl⟩ | (simp only [List.append_assoc, List.cons_append, List.nil_append]; exact ⟨_, rfl⟩)

theorem containsE (v : AV) (l : List Int) (n : Int) (hv : SLs 1 (ints l) v) (hl : l.length < 9223372036854775807) : EvV CX 53 [v, .int .i64 n] (· = .bool (l.contains n)) := by
  have q := (indexE v l n hv hl).rw
  have e : decide (0 ≤ codeOf (idxOf l n 0)) = l.contains n := by rw [codeOf_pos, idxOf_contains]
  refine EvV.walk rfl fn53 rfl nt53 rfl ?_
  simp only [List.length_cons, List.length_nil, List.cons_append, List.nil_append, Nat.reduceAdd, Nat.reduceSub, List.replicate]
  repeat' (first | refine go1 ?_ | refine blockK_else rfl ?_ | (refine wpC_cond fun A B hA hB => ?_; simp only [go_sem, reduceIte, Nat.reduceAdd, Nat.reduceEqDiff, Nat.reduceLT, Nat.reduceLeDiff, *, and_self, hv.snap, q, e]; first | (refine hA.out ?_; clear hA hB A B) | (refine hB.out ?_; clear hA hB A B) | (refine iteI (fun h => hA.out ?_) (fun h => hB.out ?_) <;> clear hA hB A B) | (refine iteI (fun h => hB.out ?_) (fun h => hA.out ?_) <;> clear hA hB A B)) | (refine wpO_cons fun K hK => ?_; simp only [go_sem, reduceIte, Nat.reduceAdd, Nat.reduceEqDiff, Nat.reduceLT, Nat.reduceLeDiff, *, and_self, hv.snap, q, e]; first | (refine hK.out _ _ ?_; clear hK K) | (refine iteI (fun h => hK.out _ _ ?_) (fun h => hK.out _ _ ?_) <;> clear hK K)))
  simp only [resultsR, resultsL, resultA, expK_int, expK_bool, expK_str, expK_agg, expK_own, expK_tsl, resK_some, go_sem, reduceIte, Nat.reduceAdd, Nat.reduceEqDiff, Nat.reduceLT, Nat.reduceLeDiff, and_self, e]

theorem hasN (v : AV) (l : List Int) (n : Int) (hv : SLs 1 (ints l) v) (hl : l.length < 9223372036854775807) : EvV CX 44 [v, .int .i64 n] (· = .bool (l.contains n)) := by
  have q := (containsE v l n hv hl).rw
  refine EvV.walk rfl fn44 rfl nt44 rfl ?_
  simp only [List.length_cons, List.length_nil, List.cons_append, List.nil_append, Nat.reduceAdd, Nat.reduceSub, List.replicate]
  repeat' (first | refine go1 ?_ | refine blockK_else rfl ?_ | (refine wpC_cond fun A B hA hB => ?_; simp only [go_sem, reduceIte, Nat.reduceAdd, Nat.reduceEqDiff, Nat.reduceLT, Nat.reduceLeDiff, *, and_self, hv.snap, q]; first | (refine hA.out ?_; clear hA hB A B) | (refine hB.out ?_; clear hA hB A B) | (refine iteI (fun h => hA.out ?_) (fun h => hB.out ?_) <;> clear hA hB A B) | (refine iteI (fun h => hB.out ?_) (fun h => hA.out ?_) <;> clear hA hB A B)) | (refine wpO_cons fun K hK => ?_; simp only [go_sem, reduceIte, Nat.reduceAdd, Nat.reduceEqDiff, Nat.reduceLT, Nat.reduceLeDiff, *, and_self, hv.snap, q]; first | (refine hK.out _ _ ?_; clear hK K) | (refine iteI (fun h => hK.out _ _ ?_) (fun h => hK.out _ _ ?_) <;> clear hK K)))
  simp only [resultsR, resultsL, resultA, expK_int, expK_bool, expK_str, expK_agg, expK_own, expK_tsl, resK_some, go_sem, reduceIte, Nat.reduceAdd, Nat.reduceEqDiff, Nat.reduceLT, Nat.reduceLeDiff, and_self, ]

/-! Groups. -/
theorem find1E (g : Grp) (n : Int) (st : Bool) (hg : g.ok) : EvV CX 61 [.agg (encG g), .tptr st [.int .i64 n] 0] (· = .bool (g.id == n)) := by
  have c1 := hg.pv.cell
  have c2 := hg.sv.cell
  refine EvV.walk rfl fn61 rfl nt61 rfl ?_
  simp only [List.length_cons, List.length_nil, List.cons_append, List.nil_append, Nat.reduceAdd, Nat.reduceSub, List.replicate]
  repeat' (first | refine go1 ?_ | refine blockK_else rfl ?_ | (refine wpC_cond fun A B hA hB => ?_; simp only [go_sem, reduceIte, Nat.reduceAdd, Nat.reduceEqDiff, Nat.reduceLT, Nat.reduceLeDiff, *, and_self, encG, c1, c2]; first | (refine hA.out ?_; clear hA hB A B) | (refine hB.out ?_; clear hA hB A B) | (refine iteI (fun h => hA.out ?_) (fun h => hB.out ?_) <;> clear hA hB A B) | (refine iteI (fun h => hB.out ?_) (fun h => hA.out ?_) <;> clear hA hB A B)) | (refine wpO_cons fun K hK => ?_; simp only [go_sem, reduceIte, Nat.reduceAdd, Nat.reduceEqDiff, Nat.reduceLT, Nat.reduceLeDiff, *, and_self, encG, c1, c2]; first | (refine hK.out _ _ ?_; clear hK K) | (refine iteI (fun h => hK.out _ _ ?_) (fun h => hK.out _ _ ?_) <;> clear hK K)))
  simp only [resultsR, resultsL, resultA, expK_int, expK_bool, expK_str, expK_agg, expK_own, expK_tsl, resK_some, go_sem, reduceIte, Nat.reduceAdd, Nat.reduceEqDiff, Nat.reduceLT, Nat.reduceLeDiff, and_self, ]

def gIdx (l : List Grp) (n : Int) : Nat → Option Nat
  | k => match l with
    | [] => none
    | g :: l => if g.id = n then some k else gIdx l n (k + 1)

theorem indexFE (v : AV) (gs : List Grp) (n : Int) (st : Bool) (hv : SLs 4 (gs.map encG) v) (hok : ∀ g ∈ gs, g.ok) (hl : gs.length < 9223372036854775807) : EvV CX 60 [v, .fn 61 [.tptr st [.int .i64 n] 0]] (· = .int .i64 (codeOf (gIdx gs n 0))) := by
  have hs : ∀ S, snap S (.tptr st [.int .i64 n] 0) = some (.tptr st [.int .i64 n] 0) := fun S => by simp only [snap]
  have b1 : CX.byRef 61 = false := br61
  refine EvV.walk rfl fn60 rfl nt60 rfl ?_
  simp only [List.length_cons, List.length_nil, List.cons_append, List.nil_append, Nat.reduceAdd, Nat.reduceSub, List.replicate]
  repeat' (first | refine go1 ?_ | refine blockK_else rfl ?_ | (refine wpC_cond fun A B hA hB => ?_; simp only [go_sem, reduceIte, Nat.reduceAdd, Nat.reduceEqDiff, Nat.reduceLT, Nat.reduceLeDiff, *, and_self, lenK_sls hv]; first | (refine hA.out ?_; clear hA hB A B) | (refine hB.out ?_; clear hA hB A B) | (refine iteI (fun h => hA.out ?_) (fun h => hB.out ?_) <;> clear hA hB A B) | (refine iteI (fun h => hB.out ?_) (fun h => hA.out ?_) <;> clear hA hB A B)) | (refine wpO_cons fun K hK => ?_; simp only [go_sem, reduceIte, Nat.reduceAdd, Nat.reduceEqDiff, Nat.reduceLT, Nat.reduceLeDiff, *, and_self, lenK_sls hv]; first | (refine hK.out _ _ ?_; clear hK K) | (refine iteI (fun h => hK.out _ _ ?_) (fun h => hK.out _ _ ?_) <;> clear hK K)))
  refine wpC_each [4, 5, 9, 10, 11, 12, 13, 14, 15, 16, 17, 18] 8 gs (fun pre post => gIdx gs n 0 = gIdx post n pre.length) ?_ ?_ ?_ ?_
  · rfl
  · rfl
  · intro g G h2
    rw [h2]; simp only [garbA_cons, garbA_nil, setL_cons, setL_nil, List.set_cons_zero, List.set_cons_succ]
    repeat' (first | refine go1 ?_ | refine blockK_else rfl ?_ | (refine wpC_cond fun A B hA hB => ?_; simp only [go_sem, reduceIte, Nat.reduceAdd, Nat.reduceEqDiff, Nat.reduceLT, Nat.reduceLeDiff, *, and_self, ints_len, List.length_map, Int.lt_irrefl, List.nil_append]; first | (refine hA.out ?_; clear hA hB A B) | (refine hB.out ?_; clear hA hB A B) | (refine iteI (fun h => hA.out ?_) (fun h => hB.out ?_) <;> clear hA hB A B) | (refine iteI (fun h => hB.out ?_) (fun h => hA.out ?_) <;> clear hA hB A B)) | (refine wpO_cons fun K hK => ?_; simp only [go_sem, reduceIte, Nat.reduceAdd, Nat.reduceEqDiff, Nat.reduceLT, Nat.reduceLeDiff, *, and_self, ints_len, List.length_map, Int.lt_irrefl, List.nil_append]; first | (refine hK.out _ _ ?_; clear hK K) | (refine iteI (fun h => hK.out _ _ ?_) (fun h => hK.out _ _ ?_) <;> clear hK K)))
    simp only [resultsR, resultsL, resultA, expK_int, expK_bool, expK_str, expK_agg, expK_own, expK_tsl, resK_some, go_sem, reduceIte, Nat.reduceAdd, Nat.reduceEqDiff, Nat.reduceLT, Nat.reduceLeDiff, and_self, ]
    rfl
  · intro g G pre x post h1 h2
    rw [h2]; subst h1; simp only [garbA_cons, garbA_nil, setL_cons, setL_nil, List.set_cons_zero, List.set_cons_succ]
    have i1 := idx_sls hv (X := CX) ty22 ty53 rfl (map_mid encG pre x post) (k := .i64)
    have w1 := wrap_succ (n := pre.length) (by simp at hl; omega)
    have hx := hok x (by simp)
    have c1 := hx.pv.cell
    have c2 := hx.sv.cell
    have s1 := hx.pv.snap
    have s2 := hx.sv.snap
    have q := (find1E x n st hx).rw
    simp only [encG] at q
    by_cases hx : x.id = n
    · have hx' : (x.id == n) = true := by simpa using hx
      rw [hx'] at q
      have hh : Hold (x.id = n) := ⟨hx⟩
      clear hx
      repeat' (first | refine go1 ?_ | refine blockK_else rfl ?_ | (refine wpC_cond fun A B hA hB => ?_; simp only [go_sem, reduceIte, Nat.reduceAdd, Nat.reduceEqDiff, Nat.reduceLT, Nat.reduceLeDiff, *, and_self, getElem?_len, getElem?_lenAdd, set_len, set_lenAdd, len_mid, ints_len, List.length_map, lt_mid, List.nil_append, i1, w1, encG, c1, c2, s1, s2, hs, q, b1]; first | (refine hA.out ?_; clear hA hB A B) | (refine hB.out ?_; clear hA hB A B) | (refine iteI (fun h => hA.out ?_) (fun h => hB.out ?_) <;> clear hA hB A B) | (refine iteI (fun h => hB.out ?_) (fun h => hA.out ?_) <;> clear hA hB A B)) | (refine wpO_cons fun K hK => ?_; simp only [go_sem, reduceIte, Nat.reduceAdd, Nat.reduceEqDiff, Nat.reduceLT, Nat.reduceLeDiff, *, and_self, getElem?_len, getElem?_lenAdd, set_len, set_lenAdd, len_mid, ints_len, List.length_map, lt_mid, List.nil_append, i1, w1, encG, c1, c2, s1, s2, hs, q, b1]; first | (refine hK.out _ _ ?_; clear hK K) | (refine iteI (fun h => hK.out _ _ ?_) (fun h => hK.out _ _ ?_) <;> clear hK K)))
      simp only [resultsR, resultsL, resultA, expK_int, expK_bool, expK_str, expK_agg, expK_own, expK_tsl, resK_some, go_sem, reduceIte, Nat.reduceAdd, Nat.reduceEqDiff, Nat.reduceLT, Nat.reduceLeDiff, and_self, ]
      simp [gIdx, codeOf, hh.out]
    · have hx' : (x.id == n) = false := by simpa using hx
      rw [hx'] at q
      have hh : Hold (¬ x.id = n) := ⟨hx⟩
      clear hx
      repeat' (first | refine go1 ?_ | refine blockK_else rfl ?_ | (refine wpC_cond fun A B hA hB => ?_; simp only [go_sem, reduceIte, Nat.reduceAdd, Nat.reduceEqDiff, Nat.reduceLT, Nat.reduceLeDiff, *, and_self, getElem?_len, getElem?_lenAdd, set_len, set_lenAdd, len_mid, ints_len, List.length_map, lt_mid, List.nil_append, i1, w1, encG, c1, c2, s1, s2, hs, q, b1]; first | (refine hA.out ?_; clear hA hB A B) | (refine hB.out ?_; clear hA hB A B) | (refine iteI (fun h => hA.out ?_) (fun h => hB.out ?_) <;> clear hA hB A B) | (refine iteI (fun h => hB.out ?_) (fun h => hA.out ?_) <;> clear hA hB A B)) | (refine wpO_cons fun K hK => ?_; simp only [go_sem, reduceIte, Nat.reduceAdd, Nat.reduceEqDiff, Nat.reduceLT, Nat.reduceLeDiff, *, and_self, getElem?_len, getElem?_lenAdd, set_len, set_lenAdd, len_mid, ints_len, List.length_map, lt_mid, List.nil_append, i1, w1, encG, c1, c2, s1, s2, hs, q, b1]; first | (refine hK.out _ _ ?_; clear hK K) | (refine iteI (fun h => hK.out _ _ ?_) (fun h => hK.out _ _ ?_) <;> clear hK K)))
      refine each_next rfl ?_ ?_ ?_
      · rw [gIdx, if_neg hh.out, len_snoc]
      · ((try simp only [eraseA_cons, eraseA_nil, setL_cons, setL_nil, List.set_cons_zero, List.set_cons_succ]); all_goals (first | rfl | (simp only [len_snoc, ints_len, List.length_map, ]; done) | (simp only [len_snoc, len_mid, ints_len, List.length_map, List.length_append, List.length_cons, List.length_nil, Nat.zero_add, ]; done) | (simp only [len_mid, len_snoc, ints_len, List.length_map, List.length_append, List.length_cons, List.length_nil, Nat.zero_add, ]; rfl)))
      · first | exact ⟨[], (List.append_nil _).symm⟩ | exact ⟨_, rfl⟩ | (simp only [List.append_assoc, List.cons_append, List.nil_append]; exact ⟨_, rfl⟩)

def gFind (gs : List Grp) (n : Int) : Option Grp := gs.find? fun g => g.id == n
def noGrp : AV := .agg [.int .i64 0, .str .empty, .flat (.slice none 0 0), .flat (.slice none 0 0)]
theorem gIdx_find (gs : List Grp) (n : Int) : ∀ k, (gIdx gs n k = none ∧ gFind gs n = none) ∨ ∃ a g b, gs = a ++ g :: b ∧ gIdx gs n k = some (k + a.length) ∧ gFind gs n = some g := by
  induction gs with
  | nil => intro k; exact .inl ⟨rfl, rfl⟩
  | cons x gs ih =>
    intro k
    by_cases h : x.id = n
    · refine .inr ⟨[], x, gs, rfl, ?_, ?_⟩
      · rw [gIdx, if_pos h]; rfl
      · simp [gFind, h]
    · have e : gFind (x :: gs) n = gFind gs n := by simp [gFind, h]
      rw [gIdx, if_neg h, e]
      rcases ih (k + 1) with ⟨h1, h2⟩ | ⟨a, g, b, h1, h2, h3⟩
      · exact .inl ⟨h1, h2⟩
      · exact .inr ⟨x :: a, g, b, by rw [h1]; rfl, by rw [h2]; simp; omega, h3⟩

/-- A slice that a callee hands back inside of a struct. -/
def expV : AV → AV
  | .tsl st sz rows => .tsl st sz rows
  | v => v

theorem findE (v : AV) (gs : List Grp) (n : Int) (hv : SLs 4 (gs.map encG) v) (hok : ∀ g ∈ gs, g.ok) (hst : ∀ g ∈ gs, g.pv.stab = true ∧ g.sv.stab = true) (hl : gs.length < 9223372036854775807) :
    EvV CX 55 [v, .int .i64 n] (· = match gFind gs n with | some g => .tup [.agg (encG g), .bool true] | none => .tup [noGrp, .bool false]) := by
  have q := (indexFE v gs n false hv hok hl).rw
  have hs : ∀ (C : Store), snap (.arr [[.int .i64 n]] 1 0 true :: C) (.ptr 0 1 1 0 0) = some (.tptr false [.int .i64 n] 0) := fun C => by
    simp [snap, rowOf, cleanL, AV.clean]
  rcases gIdx_find gs n 0 with ⟨h1, h2⟩ | ⟨a, g, b, h1, h2, h3⟩
  · rw [h2]
    rw [h1] at q
    have z : (-1 : Int) < 0 := by omega
    have e : codeOf none = -1 := rfl
    rw [e] at q
    refine EvV.walk rfl fn55 rfl nt55 rfl ?_
    simp only [List.length_cons, List.length_nil, List.cons_append, List.nil_append, Nat.reduceAdd, Nat.reduceSub, List.replicate]
    repeat' (first | refine go1 ?_ | refine blockK_else rfl ?_ | (refine wpC_cond fun A B hA hB => ?_; simp only [go_sem, reduceIte, Nat.reduceAdd, Nat.reduceEqDiff, Nat.reduceLT, Nat.reduceLeDiff, *, and_self, hv.snap, hs, q, List.getElem?_cons_succ]; first | (refine hA.out ?_; clear hA hB A B) | (refine hB.out ?_; clear hA hB A B) | (refine iteI (fun h => hA.out ?_) (fun h => hB.out ?_) <;> clear hA hB A B) | (refine iteI (fun h => hB.out ?_) (fun h => hA.out ?_) <;> clear hA hB A B)) | (refine wpO_cons fun K hK => ?_; simp only [go_sem, reduceIte, Nat.reduceAdd, Nat.reduceEqDiff, Nat.reduceLT, Nat.reduceLeDiff, *, and_self, hv.snap, hs, q, List.getElem?_cons_succ]; first | (refine hK.out _ _ ?_; clear hK K) | (refine iteI (fun h => hK.out _ _ ?_) (fun h => hK.out _ _ ?_) <;> clear hK K)))
    simp only [resultsR, resultsL, resultA, resK_some, getA_zero, getA_succ, go_sem, reduceIte, Nat.reduceAdd, Nat.reduceEqDiff, Nat.reduceLT, Nat.reduceLeDiff, and_self, List.getElem?_cons_succ, expK_tup]
    simp [idsOK, ownIds, lentIds, cellIds, expTops, expTop, expCells, expCell, AV.stab, noGrp]
  · rw [h3]
    rw [h2] at q
    have hal : a.length < gs.length := by rw [h1]; simp
    have z : ¬ ((a.length : Nat) : Int) < 0 := by omega
    have e : codeOf (some (0 + a.length)) = ((a.length : Nat) : Int) := by simp [codeOf]
    rw [e] at q
    have hgm : g ∈ gs := by rw [h1]; simp
    have hx := hok g hgm
    have c1 := hx.pv.cell
    have c2 := hx.sv.cell
    obtain ⟨t1, t2⟩ := hst g hgm
    have i1 := idx_sls hv (X := CX) ty22 ty53 rfl (n := a.length) (row := encG g) (k := .i64) (by rw [h1]; exact map_mid encG a g b)
    refine EvV.walk rfl fn55 rfl nt55 rfl ?_
    simp only [List.length_cons, List.length_nil, List.cons_append, List.nil_append, Nat.reduceAdd, Nat.reduceSub, List.replicate]
    repeat' (first | refine go1 ?_ | refine blockK_else rfl ?_ | (refine wpC_cond fun A B hA hB => ?_; simp only [go_sem, reduceIte, Nat.reduceAdd, Nat.reduceEqDiff, Nat.reduceLT, Nat.reduceLeDiff, *, and_self, hv.snap, hs, q, List.getElem?_cons_succ, i1, encG, c1, c2]; first | (refine hA.out ?_; clear hA hB A B) | (refine hB.out ?_; clear hA hB A B) | (refine iteI (fun h => hA.out ?_) (fun h => hB.out ?_) <;> clear hA hB A B) | (refine iteI (fun h => hB.out ?_) (fun h => hA.out ?_) <;> clear hA hB A B)) | (refine wpO_cons fun K hK => ?_; simp only [go_sem, reduceIte, Nat.reduceAdd, Nat.reduceEqDiff, Nat.reduceLT, Nat.reduceLeDiff, *, and_self, hv.snap, hs, q, List.getElem?_cons_succ, i1, encG, c1, c2]; first | (refine hK.out _ _ ?_; clear hK K) | (refine iteI (fun h => hK.out _ _ ?_) (fun h => hK.out _ _ ?_) <;> clear hK K)))
    simp only [resultsR, resultsL, resultA, resK_some, getA_zero, getA_succ, go_sem, reduceIte, Nat.reduceAdd, Nat.reduceEqDiff, Nat.reduceLT, Nat.reduceLeDiff, and_self, List.getElem?_cons_succ, expK_tup]
    have k1 : ∀ S, expCell S g.pv = some g.pv := fun S => by cases hpv : g.pv <;> rw [hpv] at t1 <;> simp_all [expCell, AV.stab]
    have k2 : ∀ S, expCell S g.sv = some g.sv := fun S => by cases hpv : g.sv <;> rw [hpv] at t2 <;> simp_all [expCell, AV.stab]
    have k3 : ∀ (S : Store) (m : Int), expCell S (.int .i64 m) = some (.int .i64 m) := fun _ _ => rfl
    have k4 : ∀ (S : Store) (m : ByteArray), expCell S (.str m) = some (.str m) := fun _ _ => rfl
    have k5 : ∀ (S : Store) (m : Bool), expTop S (.bool m) = some (.bool m) := fun _ _ => rfl
    rw [if_pos (show idsOK _ = true from rfl)]
    simp only [expTops, expTop, expCells, k1, k2, k3, k4, k5, encG]
    simp [AV.stab]

theorem snap_fnd {S : Store} {g : Grp} (hg : g.ok) : snap S (.agg (encG g)) = some (.agg (encG g)) := by
  simp only [encG, snap_agg, snapL_cons, snapL_nil, snap_int, snap_str, hg.pv.snap, hg.sv.snap]
end Go.Eng

/- Conversions between numbers, and from bytes to a string. -/
namespace Go.Eng
open Go.RowKit

def cvtK (v : AV) (k : IntKind) (dst : Option Tmp) (K : List AV → Store → Prop) (fr : List AV) (S : Store) (P : Prop) : Prop :=
  match v with
  | .int _ n => K (putA fr dst (.int k (k.wrap n))) S
  | _ => P
theorem cvtK_int {k k' : IntKind} {n : Int} {dst : Option Tmp} {K : List AV → Store → Prop} {fr : List AV} {S : Store} {P : Prop} : cvtK (.int k' n) k dst K fr S P = K (putA fr dst (.int k (k.wrap n))) S := rfl
theorem wpK_cvt {X : Ctx} {d : Bool} {dst : Option Tmp} {ty : TypeId} {pos : String} {after : Array Edge} {g : Option (Nat × Bool)} {K : List AV → Store → Prop} {fr : List AV} {S : Store} {s t : TypeId} {x : Operand} {i j : TyI} {k : IntKind} (hs : X.ty s = some j) (ht : X.ty t = some i) (hk : i.desc = .int k) :
    wpK X d ⟨dst, .convert s t x, ty, pos, after, g⟩ dst K fr S = cvtK (evalA fr x) k dst K fr S (wp1 X d ⟨dst, .convert s t x, ty, pos, after, g⟩ (fun v S' => K (putA fr dst v) S') fr S) := by
  obtain ⟨a, b, c, e, f⟩ := i
  simp only at hk; subst hk
  unfold cvtK
  split
  · rename_i k' n hv
    unfold wpK wp1
    simp only [popA, convA, hs, ht, hv]
  · unfold wpK; rfl

def bsK (y : AV) (dst : Option Tmp) (K : List AV → Store → Prop) (fr : List AV) (S : Store) (P : Prop) : Prop :=
  match y with
  | .sl b e off len sz => match rowsOf S 1 (.sl b e off len sz) with
    | some (rows, _) => match bytesOf rows with
      | some l => K (putA fr dst (.str ⟨l.toArray⟩)) S
      | none => False
    | none => False
  | .tsl st sz rows => match rowsOf S 1 (.tsl st sz rows) with
    | some (rows, _) => match bytesOf rows with
      | some l => K (putA fr dst (.str ⟨l.toArray⟩)) S
      | none => False
    | none => False
  | _ => P
theorem bsK_sl {b e off len sz : Nat} {dst : Option Tmp} {K : List AV → Store → Prop} {fr : List AV} {S : Store} {P : Prop} : bsK (.sl b e off len sz) dst K fr S P = match rowsOf S 1 (.sl b e off len sz) with
    | some (rows, _) => match bytesOf rows with
      | some l => K (putA fr dst (.str ⟨l.toArray⟩)) S
      | none => False
    | none => False := rfl
theorem wpK_bs {X : Ctx} {d : Bool} {dst : Option Tmp} {ty : TypeId} {pos : String} {after : Array Edge} {g : Option (Nat × Bool)} {K : List AV → Store → Prop} {fr : List AV} {S : Store} {s t el : TypeId} {x : Operand} {i j e : TyI}
    (hs : X.ty s = some j) (ht : X.ty t = some i) (he : X.ty el = some e) (hj : j.desc = .slice el) (hi : i.desc = .str) (hd : e.desc = .int .u8) :
    wpK X d ⟨dst, .convert s t x, ty, pos, after, g⟩ dst K fr S = bsK (evalA fr x) dst K fr S (wp1 X d ⟨dst, .convert s t x, ty, pos, after, g⟩ (fun v S' => K (putA fr dst v) S') fr S) := by
  obtain ⟨a1, b1, c1, e1, f1⟩ := i
  obtain ⟨a2, b2, c2, e2, f2⟩ := j
  obtain ⟨a3, b3, c3, e3, f3⟩ := e
  simp only at hj hi hd; subst hj hi hd
  have go : ∀ y, evalA fr x = y → convA X s t y = none → (∀ st, y ≠ .str st) → wpK X d ⟨dst, .convert s t x, ty, pos, after, g⟩ dst K fr S = match rowsOf S 1 y with
      | some (rows, _) => match bytesOf rows with
        | some l => K (putA fr dst (.str ⟨l.toArray⟩)) S
        | none => False
      | none => False := by
    intro y hy hc hn
    subst hy
    have hp : popA X fr ⟨dst, .convert s t x, ty, pos, after, g⟩ = none := by simp only [popA, hc]
    rw [wpK_qop (match rowsOf S 1 (evalA fr x) with | some (rows, _) => (bytesOf rows).map fun l => (.str ⟨l.toArray⟩, []) | none => none) hp (by
      simp only [qopA, hs, ht, he]
      cases rowsOf S 1 (evalA fr x) <;> rfl) rfl rfl rfl]
    cases rowsOf S 1 (evalA fr x) with
    | none => simp only [pairK]
    | some rp =>
      obtain ⟨rows, pr⟩ := rp
      simp only
      cases bytesOf rows with
      | none => simp only [Option.map_none, pairK]
      | some l => simp only [Option.map_some, pairK_some, List.append_nil]
  unfold bsK
  split
  · rename_i y1 b e off len sz hy; rw [go _ hy (by simp [convA, hs, ht]) (by simp)]
  · rename_i y1 st sz rows hy; rw [go _ hy (by simp [convA, hs, ht]) (by simp)]
  · unfold wpK; rfl
theorem bytesOf_nil : bytesOf [] = some [] := rfl
theorem bytesOf_cons {n : Int} {rest : List (List AV)} : bytesOf ([.int .u8 n] :: rest) = (bytesOf rest).map (UInt8.ofNat n.toNat :: ·) := rfl
theorem wI {n : Nat} (h : n < 9223372036854775808) : IntKind.wrap .i64 (n : Int) = n := wrap_small (by omega) (by omega)
theorem wB {n : Nat} (h : n < 256) : IntKind.wrap .u8 (n : Int) = n := by
  simp [IntKind.wrap, IntKind.min, IntKind.max, IntKind.signed, IntKind.bits]
  omega
theorem wIB {n : Nat} (h : n < 256) : IntKind.wrap .i64 (n : Int) = n := wI (by omega)
theorem tdivn (a b : Nat) : Int.tdiv (a : Int) (b : Int) = ((a / b : Nat) : Int) := rfl
theorem tmodn (a b : Nat) : Int.tmod (a : Int) (b : Int) = ((a % b : Nat) : Int) := rfl
end Go.Eng
