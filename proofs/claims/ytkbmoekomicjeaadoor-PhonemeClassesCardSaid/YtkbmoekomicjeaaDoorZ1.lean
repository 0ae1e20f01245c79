/- Part 1 of the texts behind this claim. -/
import Derived.Test.YtkbmoekomicjeaaDoorEngV
import Derived.Test.YtkbmoekomicjeaaDoorCtxS
import Derived.Test.YtkbmoekomicjeaaDoorLu
import Derived.Test.YtkbmoekomicjeaaDoorPt
set_option linter.all false

namespace Go.Eng
open Go.RowKit

def cvtK (v : AV) (k : IntKind) (dst : Option Tmp) (K : List AV → Store → Prop) (fr : List AV) (S : Store) (P : Prop) : Prop :=
  match v with
  | .int _ n => K (putA fr dst (.int k (k.wrap n))) S
  | _ => P
theorem cvtK_int {k k' : IntKind} {n : Int} {dst : Option Tmp} {K : List AV → Store → Prop} {fr : List AV} {S : Store} {P : Prop} : cvtK (.int k' n) k dst K fr S P = K (putA fr dst (.int k (k.wrap n))) S := rfl
theorem wpK_cvt {X : Ctx} {d : Bool} {dst : Option Tmp} {ty : TypeId} {pos : String} {after : Array Edge} {g : Option (Nat × Bool)} {K : List AV → Store → Prop} {fr : List AV} {S : Store} {s t : TypeId} {x : Operand} {i j : TyI} {k : IntKind} (hs : X.ty s = some j) (ht : X.ty t = some i) (hk : i.desc = .int k) :
    wpK X d ⟨dst, .convert s t x, ty, pos, after, g⟩ dst K fr S = cvtK (evalA fr x) k dst K fr S (wp1 X d ⟨dst, .convert s t x, ty, pos, after, g⟩ (fun v S' => K (putA fr dst v) S') fr S) := by
  obtain ⟨a, b, c, e, f⟩ := i
  simp only at hk; subst hk
  unfold cvtK
  split
  · rename_i k' n hv
    unfold wpK wp1
    simp only [popA, convA, hs, ht, hv]
  · unfold wpK; rfl

def bsK (y : AV) (dst : Option Tmp) (K : List AV → Store → Prop) (fr : List AV) (S : Store) (P : Prop) : Prop :=
  match y with
  | .sl b e off len sz => match rowsOf S 1 (.sl b e off len sz) with
    | some (rows, _) => match bytesOf rows with
      | some l => K (putA fr dst (.str ⟨l.toArray⟩)) S
      | none => False
    | none => False
  | .tsl st sz rows => match rowsOf S 1 (.tsl st sz rows) with
    | some (rows, _) => match bytesOf rows with
      | some l => K (putA fr dst (.str ⟨l.toArray⟩)) S
      | none => False
    | none => False
  | _ => P
theorem bsK_sl {b e off len sz : Nat} {dst : Option Tmp} {K : List AV → Store → Prop} {fr : List AV} {S : Store} {P : Prop} : bsK (.sl b e off len sz) dst K fr S P = match rowsOf S 1 (.sl b e off len sz) with
    | some (rows, _) => match bytesOf rows with
      | some l => K (putA fr dst (.str ⟨l.toArray⟩)) S
      | none => False
    | none => False := rfl
theorem wpK_bs {X : Ctx} {d : Bool} {dst : Option Tmp} {ty : TypeId} {pos : String} {after : Array Edge} {g : Option (Nat × Bool)} {K : List AV → Store → Prop} {fr : List AV} {S : Store} {s t el : TypeId} {x : Operand} {i j e : TyI}
    (hs : X.ty s = some j) (ht : X.ty t = some i) (he : X.ty el = some e) (hj : j.desc = .slice el) (hi : i.desc = .str) (hd : e.desc = .int .u8) :
    wpK X d ⟨dst, .convert s t x, ty, pos, after, g⟩ dst K fr S = bsK (evalA fr x) dst K fr S (wp1 X d ⟨dst, .convert s t x, ty, pos, after, g⟩ (fun v S' => K (putA fr dst v) S') fr S) := by
  obtain ⟨a1, b1, c1, e1, f1⟩ := i
  obtain ⟨a2, b2, c2, e2, f2⟩ := j
  obtain ⟨a3, b3, c3, e3, f3⟩ := e
  simp only at hj hi hd; subst hj hi hd
  have go : ∀ y, evalA fr x = y → convA X s t y = none → (∀ st, y ≠ .str st) → wpK X d ⟨dst, .convert s t x, ty, pos, after, g⟩ dst K fr S = match rowsOf S 1 y with
      | some (rows, _) => match bytesOf rows with
        | some l => K (putA fr dst (.str ⟨l.toArray⟩)) S
        | none => False
      | none => False := by
    intro y hy hc hn
    subst hy
    have hp : popA X fr ⟨dst, .convert s t x, ty, pos, after, g⟩ = none := by simp only [popA, hc]
    rw [wpK_qop (match rowsOf S 1 (evalA fr x) with | some (rows, _) => (bytesOf rows).map fun l => (.str ⟨l.toArray⟩, []) | none => none) hp (by
      simp only [qopA, hs, ht, he]
      cases rowsOf S 1 (evalA fr x) <;> rfl) rfl rfl rfl]
    cases rowsOf S 1 (evalA fr x) with
    | none => simp only [pairK]
    | some rp =>
      obtain ⟨rows, pr⟩ := rp
      simp only
      cases bytesOf rows with
      | none => simp only [Option.map_none, pairK]
      | some l => simp only [Option.map_some, pairK_some, List.append_nil]
  unfold bsK
  split
  · rename_i y1 b e off len sz hy; rw [go _ hy (by simp [convA, hs, ht]) (by simp)]
  · rename_i y1 st sz rows hy; rw [go _ hy (by simp [convA, hs, ht]) (by simp)]
  · unfold wpK; rfl
theorem bytesOf_nil : bytesOf [] = some [] := rfl
theorem bytesOf_cons {n : Int} {rest : List (List AV)} : bytesOf ([.int .u8 n] :: rest) = (bytesOf rest).map (UInt8.ofNat n.toNat :: ·) := rfl
theorem wI {n : Nat} (h : n < 9223372036854775808) : IntKind.wrap .i64 (n : Int) = n := wrap_small (by omega) (by omega)
theorem wB {n : Nat} (h : n < 256) : IntKind.wrap .u8 (n : Int) = n := by
  simp [IntKind.wrap, IntKind.min, IntKind.max, IntKind.signed, IntKind.bits]
  omega
theorem wIB {n : Nat} (h : n < 256) : IntKind.wrap .i64 (n : Int) = n := wI (by omega)
theorem tdivn (a b : Nat) : Int.tdiv (a : Int) (b : Int) = ((a / b : Nat) : Int) := rfl
theorem tmodn (a b : Nat) : Int.tmod (a : Int) (b : Int) = ((a % b : Nat) : Int) := rfl
end Go.Eng

/- Names and persons. -/
namespace Go.Eng
open Go.Proofs
set_option linter.unusedSimpArgs false
set_option linter.unusedVariables false
attribute [local irreducible] wpC wpO wp1 EvV EvR wpL
attribute [local go_sem] beq_iff_eq beq_eq_false_iff_ne Int.natCast_inj Bool.not_eq_false' op1_go wpK_box wpK_alloc wpK_load wpK_store wpK_binOp wpK_unOp wpK_fieldAddr wpK_field wpK_build wpK_indexAddr wpK_slice wpK_len wpK_extract wpK_nilCheck wpK_pick wpK_makeFunc wpK_call wpK_callT wpK_max wpK_min wpK_assignT wpK_moveT wpK_assignB wpK_moveB wpK_assignI wpK_moveI wpK_assignA wpK_moveA callK_fn snapL_nil snapL_cons snap_int snap_bool snap_str snap_tsl snap_agg snap_fn snap_flat adopt_int adopt_bool adopt_str adopt_agg adopt_osl adopt_tsl adopt_tup op1_guard grdK_bool grdK_undef condK_bool someK_some pairK_some nilK_ptr nilK_tptr boxK storeK evalA_tmp evalA_int evalA_bool evalA_agg evalA_fn evalA_nil ofC_int ofC_bool getA_zero getA_succ cells_int cells_agg cells_bool cells_sl cells_tsl cell_int cell_bool cell_str cell_sl cell_esl cell_tsl cell_ptr cell_tptr cell_fn cell_nils cell_nilf List.all_cons List.all_nil Bool.and_true Bool.and_self Bool.true_and putA_some putA_none List.set_cons_zero List.set_cons_succ List.length_cons List.length_nil List.nil_append List.cons_append stabL AV.stab fieldAddrA fieldA List.getElem?_cons_zero List.getElem?_cons_succ Nat.zero_add loadA rowOf Nat.le_refl and_self true_and and_true partA binA unA intBin eqBin eqCells eqCell Option.bind_some decide_true decide_false decide_eq_true_eq ite_not Bool.not_eq_true' decide_eq_false_iff_not Bool.false_eq_true Option.map_some Option.map_none Bool.not_true Bool.not_false buildA fillA patch List.take List.drop List.map_cons List.map_nil extK List.getD_cons_zero List.getD_cons_succ minmaxA minmaxGo adoptZ_false adoptZ_true freeze_int freeze_bool freeze_str freeze_flat freeze_agg freeze_osl freeze_tsl freeze_tup frz1_bool frz1_int frz1_str frz1_agg frz1_osl frz1_tsl bne Bool.false_and Bool.and_false ne_eq not_true_eq_false not_false_eq_true List.append_nil
set_option maxHeartbeats 4000000

theorem toList_loop (s : ByteArray) : ∀ (k i : Nat) (r : List UInt8), s.size ≤ i + k → ByteArray.toList.loop s i r = r.reverse ++ s.data.toList.drop i := by
  intro k
  induction k with
  | zero =>
    intro i r h
    unfold ByteArray.toList.loop
    rw [if_neg (by omega), List.drop_eq_nil_of_le (by simpa using h), List.append_nil]
  | succ k ih =>
    intro i r h
    unfold ByteArray.toList.loop
    split
    · rename_i hi
      rw [ih _ _ (by omega), List.reverse_cons, List.append_assoc]
      have hi' : i < s.data.toList.length := by simpa using hi
      rw [List.drop_eq_getElem_cons hi']
      simp [ByteArray.get!, hi]
    · rw [List.drop_eq_nil_of_le (by simp; omega), List.append_nil]
theorem toList_data (s : ByteArray) : s.toList = s.data.toList := by
  unfold ByteArray.toList
  rw [toList_loop s s.size 0 [] (by omega)]; simp

def bytesR (l : List UInt8) : List (List AV) := l.map fun c => [.int .u8 (c.toNat : Int)]
def sbK (v : AV) (dst : Option Tmp) (K : List AV → Store → Prop) (fr : List AV) (S : Store) (P : Prop) : Prop :=
  match v with
  | .str s => if s.size ≤ 140737488355328 then K (putA fr dst (.tsl true 1 (bytesR s.data.toList))) S else False
  | _ => P
theorem sbK_str {s : ByteArray} {dst : Option Tmp} {K : List AV → Store → Prop} {fr : List AV} {S : Store} {P : Prop} (h : s.size ≤ 140737488355328) : sbK (.str s) dst K fr S P = K (putA fr dst (.tsl true 1 (bytesR s.data.toList))) S := if_pos h
theorem wpK_sb {X : Ctx} {d : Bool} {dst : Option Tmp} {ty : TypeId} {pos : String} {after : Array Edge} {g : Option (Nat × Bool)} {K : List AV → Store → Prop} {fr : List AV} {S : Store} {s t el : TypeId} {x : Operand} {i j e : TyI}
    (hs : X.ty s = some j) (ht : X.ty t = some i) (he : X.ty el = some e) (hj : j.desc = .str) (hi : i.desc = .slice el) (hd : e.desc = .int .u8) :
    wpK X d ⟨dst, .convert s t x, ty, pos, after, g⟩ dst K fr S = sbK (evalA fr x) dst K fr S (wp1 X d ⟨dst, .convert s t x, ty, pos, after, g⟩ (fun v S' => K (putA fr dst v) S') fr S) := by
  obtain ⟨a1, b1, c1, e1, f1⟩ := i
  obtain ⟨a2, b2, c2, e2, f2⟩ := j
  obtain ⟨a3, b3, c3, e3, f3⟩ := e
  simp only at hj hi hd; subst hj hi hd
  unfold sbK
  split
  · rename_i v hv
    have hp : popA X fr ⟨dst, .convert s t x, ty, pos, after, g⟩ = none := by simp only [popA, convA, hs, ht, hv]
    rw [wpK_qop (if v.size ≤ 140737488355328 then some (.tsl true 1 (bytesR v.data.toList), []) else none) hp (by simp only [qopA, hs, ht, hv, he, toList_data]; rfl) rfl rfl rfl]
    by_cases h : v.size ≤ 140737488355328
    · simp only [if_pos h, pairK_some, List.append_nil]
    · simp only [if_neg h, pairK]
  · unfold wpK; rfl
theorem str_get {s : ByteArray} {pre post : List UInt8} {c : UInt8} (h : s.data.toList = pre ++ c :: post) : s[pre.length]? = some c := by
  have hl : pre.length < s.size := by
    have := congrArg List.length h
    simp at this; omega
  rw [getElem?_pos s pre.length hl]
  have : s.data.toList[pre.length]? = some c := by rw [h]; simp
  have e : s[pre.length] = s.data[pre.length]'(by simpa using hl) := rfl
  rw [e]
  simpa [hl] using this
theorem str_len {s : ByteArray} {l : List UInt8} (h : s.data.toList = l) : s.size = l.length := by rw [← h]; simp
theorem index_str {X : Ctx} {t : TypeId} {a c : Nat} {b : Bool} {d : List AV} {s : ByteArray} {n : Nat} {x : UInt8} {k : IntKind} (ht : X.ty t = some ⟨a, b, c, d, .str⟩) (h : s[n]? = some x) : indexA X t (.str s) (.int k n) = some (.int .u8 (x.toNat : Int)) := by
  simp [indexA, ht, h]

theorem bytesR_len (l : List UInt8) : (bytesR l).length = l.length := by simp [bytesR]

/-- What a name may hold. -/
def lowC (c : UInt8) : Bool := decide (97 ≤ (c.toNat : Int)) && decide ((c.toNat : Int) ≤ 122)
def nameC (c : UInt8) : Bool := lowC c || (decide (48 ≤ (c.toNat : Int)) && decide ((c.toNat : Int) ≤ 57)) || decide ((c.toNat : Int) = 45) || decide ((c.toNat : Int) = 95)
def nameL : List UInt8 → Bool
  | [] => false
  | c :: l => decide (l.length + 1 ≤ 32) && lowC c && l.all nameC

def nmC : List UInt8 → Bool
  | [] => true
  | c :: l => lowC c && l.all nameC
theorem nmC_snoc (l : List UInt8) (x : UInt8) : nmC (l ++ [x]) = (nmC l && if l = [] then lowC x else nameC x) := by
  cases l with
  | nil => simp [nmC]
  | cons c l => simp [nmC, Bool.and_assoc]
theorem nmC_app (l m : List UInt8) (h : nmC l = false) : nmC (l ++ m) = false := by
  cases l with
  | nil => simp [nmC] at h
  | cons c l =>
    simp only [nmC, List.cons_append, List.all_append] at h ⊢
    rw [← Bool.and_assoc, h, Bool.false_and]
theorem nameL_ok (l : List UInt8) : nameL l = (nmC l && (decide (1 ≤ l.length) && decide (l.length ≤ 32))) := by
  cases l with
  | nil => rfl
  | cons c l => simp only [nameL, nmC, List.length_cons]; cases lowC c <;> cases l.all nameC <;> simp

/- The reference's scalars: encoded, first, Points. -/
open Go.Proofs
attribute [local go_sem] ty3 ty4 ty5 ty9 ty60 List.replicate Nat.one_mul Nat.reduceMul Nat.zero_mul bslA fz69 fz70 fz71 fz72 rowsFill
set_option maxHeartbeats 4000000

theorem scalE (p : Nat) : EvV CX 62 [.int .i64 p] (· = .bool (scal p)) := by
  have h0 : (0 : Int) ≤ (p : Int) := by omega
  have e1 : ((p : Int) ≤ 1114111) ↔ (p ≤ 1114111) := by omega
  have e2 : ((p : Int) < 55296) ↔ (p < 55296) := by omega
  have e3 : ((57343 : Int) < (p : Int)) ↔ (57343 < p) := by omega
  by_cases h1 : p ≤ 1114111 <;> by_cases h2 : p < 55296 <;> by_cases h3 : 57343 < p
  all_goals
    refine EvV.walk rfl fn62 rfl nt62 rfl ?_
    simp only [List.length_cons, List.length_nil, List.cons_append, List.nil_append, Nat.reduceAdd, Nat.reduceSub, List.replicate]
    repeat' (first | refine go1 ?_ | refine blockK_else rfl ?_ | (refine wpC_cond fun A B hA hB => ?_; simp only [go_sem, reduceIte, Nat.reduceAdd, Nat.reduceEqDiff, Nat.reduceLT, Nat.reduceLeDiff, *, and_self, ]; first | (refine hA.out ?_; clear hA hB A B) | (refine hB.out ?_; clear hA hB A B) | (refine iteI (fun h => hA.out ?_) (fun h => hB.out ?_) <;> clear hA hB A B) | (refine iteI (fun h => hB.out ?_) (fun h => hA.out ?_) <;> clear hA hB A B)) | (refine wpO_cons fun K hK => ?_; simp only [go_sem, reduceIte, Nat.reduceAdd, Nat.reduceEqDiff, Nat.reduceLT, Nat.reduceLeDiff, *, and_self, ]; first | (refine hK.out _ _ ?_; clear hK K) | (refine iteI (fun h => hK.out _ _ ?_) (fun h => hK.out _ _ ?_) <;> clear hK K)))
    simp only [resultsR, resultsL, resultA, expK_int, expK_bool, expK_str, expK_agg, expK_own, expK_tsl, resK_some, go_sem, reduceIte, Nat.reduceAdd, Nat.reduceEqDiff, Nat.reduceLT, Nat.reduceLeDiff, and_self, ]
    simp [scal, h1, h2, h3]

theorem encUE (p : Nat) (hp : p ≤ 1114111) : EvV CX 63 [.int .i64 p] (· = .str ⟨(encU p).toArray⟩) := by
  have z1 : ¬ (64 : Int) = 0 := by omega
  have z2 : ¬ (4096 : Int) = 0 := by omega
  have z3 : ¬ (262144 : Int) = 0 := by omega
  have d1 : Int.tdiv (p : Int) 64 = ((p / 64 : Nat) : Int) := rfl
  have d2 : Int.tdiv (p : Int) 4096 = ((p / 4096 : Nat) : Int) := rfl
  have d3 : Int.tdiv (p : Int) 262144 = ((p / 262144 : Nat) : Int) := rfl
  have m1 : Int.tmod (p : Int) 64 = ((p % 64 : Nat) : Int) := rfl
  have m2 : Int.tmod ((p / 64 : Nat) : Int) 64 = ((p / 64 % 64 : Nat) : Int) := rfl
  have m3 : Int.tmod ((p / 4096 : Nat) : Int) 64 = ((p / 4096 % 64 : Nat) : Int) := rfl
  have w1 : IntKind.wrap .i64 ((p / 64 : Nat) : Int) = ((p / 64 : Nat) : Int) := wI (by omega)
  have w2 : IntKind.wrap .i64 ((p / 4096 : Nat) : Int) = ((p / 4096 : Nat) : Int) := wI (by omega)
  have w3 : IntKind.wrap .i64 ((p / 262144 : Nat) : Int) = ((p / 262144 : Nat) : Int) := wI (by omega)
  have a1 : IntKind.wrap .i64 ((128 : Int) + ((p % 64 : Nat) : Int)) = ((128 + p % 64 : Nat) : Int) := wI (n := 128 + p % 64) (by omega)
  have a2 : IntKind.wrap .i64 ((128 : Int) + ((p / 64 % 64 : Nat) : Int)) = ((128 + p / 64 % 64 : Nat) : Int) := wI (n := 128 + p / 64 % 64) (by omega)
  have a3 : IntKind.wrap .i64 ((128 : Int) + ((p / 4096 % 64 : Nat) : Int)) = ((128 + p / 4096 % 64 : Nat) : Int) := wI (n := 128 + p / 4096 % 64) (by omega)
  have b1 : IntKind.wrap .u8 ((128 + p % 64 : Nat) : Int) = ((128 + p % 64 : Nat) : Int) := wB (by omega)
  have b2 : IntKind.wrap .u8 ((128 + p / 64 % 64 : Nat) : Int) = ((128 + p / 64 % 64 : Nat) : Int) := wB (by omega)
  have b3 : IntKind.wrap .u8 ((128 + p / 4096 % 64 : Nat) : Int) = ((128 + p / 4096 % 64 : Nat) : Int) := wB (by omega)
  by_cases h1 : (p : Int) < 128
  · have b0 : IntKind.wrap .u8 (p : Int) = (p : Int) := wB (by omega)
    refine EvV.walk rfl fn63 rfl nt63 rfl ?_
    simp only [List.length_cons, List.length_nil, List.cons_append, List.nil_append, Nat.reduceAdd, Nat.reduceSub, List.replicate]
    repeat' (first | refine go1 ?_ | refine blockK_else rfl ?_ | (refine wpC_cond fun A B hA hB => ?_; simp only [go_sem, reduceIte, Nat.reduceAdd, Nat.reduceEqDiff, Nat.reduceLT, Nat.reduceLeDiff, *, cvtK_int, wpK_buildSlice ty60 rfl, wpK_cvt ty3 ty5 rfl, b0, wpK_assignS, wpK_moveS, evalA_str, wpK_bs ty60 ty9 ty5 rfl rfl rfl, bsK_sl, rowsOf_sl, bytesOf_cons, bytesOf_nil, Option.map_some, Int.toNat_natCast, snap_sl, rowsOf_sl, ints_len, ints_take, List.take_length, Nat.zero_le, Nat.zero_add, Bool.true_or, List.getElem?_cons_succ]; first | (refine hA.out ?_; clear hA hB A B) | (refine hB.out ?_; clear hA hB A B) | (refine iteI (fun h => hA.out ?_) (fun h => hB.out ?_) <;> clear hA hB A B) | (refine iteI (fun h => hB.out ?_) (fun h => hA.out ?_) <;> clear hA hB A B)) | (refine wpO_cons fun K hK => ?_; simp only [go_sem, reduceIte, Nat.reduceAdd, Nat.reduceEqDiff, Nat.reduceLT, Nat.reduceLeDiff, *, cvtK_int, wpK_buildSlice ty60 rfl, wpK_cvt ty3 ty5 rfl, b0, wpK_assignS, wpK_moveS, evalA_str, wpK_bs ty60 ty9 ty5 rfl rfl rfl, bsK_sl, rowsOf_sl, bytesOf_cons, bytesOf_nil, Option.map_some, Int.toNat_natCast, snap_sl, rowsOf_sl, ints_len, ints_take, List.take_length, Nat.zero_le, Nat.zero_add, Bool.true_or, List.getElem?_cons_succ]; first | (refine hK.out _ _ ?_; clear hK K) | (refine iteI (fun h => hK.out _ _ ?_) (fun h => hK.out _ _ ?_) <;> clear hK K)))
    simp only [resultsR, resultsL, resultA, expK_int, expK_bool, expK_str, expK_agg, expK_own, expK_tsl, resK_some, go_sem, reduceIte, Nat.reduceAdd, Nat.reduceEqDiff, Nat.reduceLT, Nat.reduceLeDiff, cvtK_int, wpK_buildSlice ty60 rfl, wpK_cvt ty3 ty5 rfl, ]
    rw [encU, if_pos (by omega)]
  by_cases h2 : (p : Int) < 2048
  · have a0 : IntKind.wrap .i64 ((192 : Int) + ((p / 64 : Nat) : Int)) = ((192 + p / 64 : Nat) : Int) := wI (n := 192 + p / 64) (by omega)
    have b0 : IntKind.wrap .u8 ((192 + p / 64 : Nat) : Int) = ((192 + p / 64 : Nat) : Int) := wB (by omega)
    refine EvV.walk rfl fn63 rfl nt63 rfl ?_
    simp only [List.length_cons, List.length_nil, List.cons_append, List.nil_append, Nat.reduceAdd, Nat.reduceSub, List.replicate]
    repeat' (first | refine go1 ?_ | refine blockK_else rfl ?_ | (refine wpC_cond fun A B hA hB => ?_; simp only [go_sem, reduceIte, Nat.reduceAdd, Nat.reduceEqDiff, Nat.reduceLT, Nat.reduceLeDiff, *, cvtK_int, wpK_buildSlice ty60 rfl, wpK_cvt ty3 ty5 rfl, b0, a0, wpK_assignS, wpK_moveS, evalA_str, wpK_bs ty60 ty9 ty5 rfl rfl rfl, bsK_sl, rowsOf_sl, bytesOf_cons, bytesOf_nil, Option.map_some, Int.toNat_natCast, snap_sl, rowsOf_sl, ints_len, ints_take, List.take_length, Nat.zero_le, Nat.zero_add, Bool.true_or, List.getElem?_cons_succ]; first | (refine hA.out ?_; clear hA hB A B) | (refine hB.out ?_; clear hA hB A B) | (refine iteI (fun h => hA.out ?_) (fun h => hB.out ?_) <;> clear hA hB A B) | (refine iteI (fun h => hB.out ?_) (fun h => hA.out ?_) <;> clear hA hB A B)) | (refine wpO_cons fun K hK => ?_; simp only [go_sem, reduceIte, Nat.reduceAdd, Nat.reduceEqDiff, Nat.reduceLT, Nat.reduceLeDiff, *, cvtK_int, wpK_buildSlice ty60 rfl, wpK_cvt ty3 ty5 rfl, b0, a0, wpK_assignS, wpK_moveS, evalA_str, wpK_bs ty60 ty9 ty5 rfl rfl rfl, bsK_sl, rowsOf_sl, bytesOf_cons, bytesOf_nil, Option.map_some, Int.toNat_natCast, snap_sl, rowsOf_sl, ints_len, ints_take, List.take_length, Nat.zero_le, Nat.zero_add, Bool.true_or, List.getElem?_cons_succ]; first | (refine hK.out _ _ ?_; clear hK K) | (refine iteI (fun h => hK.out _ _ ?_) (fun h => hK.out _ _ ?_) <;> clear hK K)))
    simp only [resultsR, resultsL, resultA, expK_int, expK_bool, expK_str, expK_agg, expK_own, expK_tsl, resK_some, go_sem, reduceIte, Nat.reduceAdd, Nat.reduceEqDiff, Nat.reduceLT, Nat.reduceLeDiff, cvtK_int, wpK_buildSlice ty60 rfl, wpK_cvt ty3 ty5 rfl, ]
    rw [encU, if_neg (by omega), if_pos (by omega)]
  by_cases h3 : (p : Int) < 65536
  · have a0 : IntKind.wrap .i64 ((224 : Int) + ((p / 4096 : Nat) : Int)) = ((224 + p / 4096 : Nat) : Int) := wI (n := 224 + p / 4096) (by omega)
    have b0 : IntKind.wrap .u8 ((224 + p / 4096 : Nat) : Int) = ((224 + p / 4096 : Nat) : Int) := wB (by omega)
    refine EvV.walk rfl fn63 rfl nt63 rfl ?_
    simp only [List.length_cons, List.length_nil, List.cons_append, List.nil_append, Nat.reduceAdd, Nat.reduceSub, List.replicate]
    repeat' (first | refine go1 ?_ | refine blockK_else rfl ?_ | (refine wpC_cond fun A B hA hB => ?_; simp only [go_sem, reduceIte, Nat.reduceAdd, Nat.reduceEqDiff, Nat.reduceLT, Nat.reduceLeDiff, *, cvtK_int, wpK_buildSlice ty60 rfl, wpK_cvt ty3 ty5 rfl, b0, a0, wpK_assignS, wpK_moveS, evalA_str, wpK_bs ty60 ty9 ty5 rfl rfl rfl, bsK_sl, rowsOf_sl, bytesOf_cons, bytesOf_nil, Option.map_some, Int.toNat_natCast, snap_sl, rowsOf_sl, ints_len, ints_take, List.take_length, Nat.zero_le, Nat.zero_add, Bool.true_or, List.getElem?_cons_succ]; first | (refine hA.out ?_; clear hA hB A B) | (refine hB.out ?_; clear hA hB A B) | (refine iteI (fun h => hA.out ?_) (fun h => hB.out ?_) <;> clear hA hB A B) | (refine iteI (fun h => hB.out ?_) (fun h => hA.out ?_) <;> clear hA hB A B)) | (refine wpO_cons fun K hK => ?_; simp only [go_sem, reduceIte, Nat.reduceAdd, Nat.reduceEqDiff, Nat.reduceLT, Nat.reduceLeDiff, *, cvtK_int, wpK_buildSlice ty60 rfl, wpK_cvt ty3 ty5 rfl, b0, a0, wpK_assignS, wpK_moveS, evalA_str, wpK_bs ty60 ty9 ty5 rfl rfl rfl, bsK_sl, rowsOf_sl, bytesOf_cons, bytesOf_nil, Option.map_some, Int.toNat_natCast, snap_sl, rowsOf_sl, ints_len, ints_take, List.take_length, Nat.zero_le, Nat.zero_add, Bool.true_or, List.getElem?_cons_succ]; first | (refine hK.out _ _ ?_; clear hK K) | (refine iteI (fun h => hK.out _ _ ?_) (fun h => hK.out _ _ ?_) <;> clear hK K)))
    simp only [resultsR, resultsL, resultA, expK_int, expK_bool, expK_str, expK_agg, expK_own, expK_tsl, resK_some, go_sem, reduceIte, Nat.reduceAdd, Nat.reduceEqDiff, Nat.reduceLT, Nat.reduceLeDiff, cvtK_int, wpK_buildSlice ty60 rfl, wpK_cvt ty3 ty5 rfl, ]
    rw [encU, if_neg (by omega), if_neg (by omega), if_pos (by omega)]
  · have a0 : IntKind.wrap .i64 ((240 : Int) + ((p / 262144 : Nat) : Int)) = ((240 + p / 262144 : Nat) : Int) := wI (n := 240 + p / 262144) (by omega)
    have b0 : IntKind.wrap .u8 ((240 + p / 262144 : Nat) : Int) = ((240 + p / 262144 : Nat) : Int) := wB (by omega)
    refine EvV.walk rfl fn63 rfl nt63 rfl ?_
    simp only [List.length_cons, List.length_nil, List.cons_append, List.nil_append, Nat.reduceAdd, Nat.reduceSub, List.replicate]
    repeat' (first | refine go1 ?_ | refine blockK_else rfl ?_ | (refine wpC_cond fun A B hA hB => ?_; simp only [go_sem, reduceIte, Nat.reduceAdd, Nat.reduceEqDiff, Nat.reduceLT, Nat.reduceLeDiff, *, cvtK_int, wpK_buildSlice ty60 rfl, wpK_cvt ty3 ty5 rfl, b0, a0, wpK_assignS, wpK_moveS, evalA_str, wpK_bs ty60 ty9 ty5 rfl rfl rfl, bsK_sl, rowsOf_sl, bytesOf_cons, bytesOf_nil, Option.map_some, Int.toNat_natCast, snap_sl, rowsOf_sl, ints_len, ints_take, List.take_length, Nat.zero_le, Nat.zero_add, Bool.true_or, List.getElem?_cons_succ]; first | (refine hA.out ?_; clear hA hB A B) | (refine hB.out ?_; clear hA hB A B) | (refine iteI (fun h => hA.out ?_) (fun h => hB.out ?_) <;> clear hA hB A B) | (refine iteI (fun h => hB.out ?_) (fun h => hA.out ?_) <;> clear hA hB A B)) | (refine wpO_cons fun K hK => ?_; simp only [go_sem, reduceIte, Nat.reduceAdd, Nat.reduceEqDiff, Nat.reduceLT, Nat.reduceLeDiff, *, cvtK_int, wpK_buildSlice ty60 rfl, wpK_cvt ty3 ty5 rfl, b0, a0, wpK_assignS, wpK_moveS, evalA_str, wpK_bs ty60 ty9 ty5 rfl rfl rfl, bsK_sl, rowsOf_sl, bytesOf_cons, bytesOf_nil, Option.map_some, Int.toNat_natCast, snap_sl, rowsOf_sl, ints_len, ints_take, List.take_length, Nat.zero_le, Nat.zero_add, Bool.true_or, List.getElem?_cons_succ]; first | (refine hK.out _ _ ?_; clear hK K) | (refine iteI (fun h => hK.out _ _ ?_) (fun h => hK.out _ _ ?_) <;> clear hK K)))
    simp only [resultsR, resultsL, resultA, expK_int, expK_bool, expK_str, expK_agg, expK_own, expK_tsl, resK_some, go_sem, reduceIte, Nat.reduceAdd, Nat.reduceEqDiff, Nat.reduceLT, Nat.reduceLeDiff, cvtK_int, wpK_buildSlice ty60 rfl, wpK_cvt ty3 ty5 rfl, ]
    rw [encU, if_neg (by omega), if_neg (by omega), if_neg (by omega)]

def fstV : Option (Nat × Nat) → AV
  | some (p, n) => .tup [.int .i64 p, .int .i64 n]
  | none => .tup [.int .i64 (-1), .int .i64 0]

/- The reference's scalars: first, Points; labels. -/
open Go.Proofs
attribute [local go_sem] br62 br63 fz76
set_option maxHeartbeats 4000000

theorem slice_str {X : Ctx} {t : TypeId} {a c : Nat} {b : Bool} {d : List AV} {s : ByteArray} {k : IntKind} {i j : Nat} (ht : X.ty t = some ⟨a, b, c, d, .str⟩) (hij : i ≤ j) (hj : j ≤ s.size) : sliceA X t (.str s) (some (.int k i)) (some (.int k j)) none = some (.str (s.extract i j)) := by
  simp [sliceA, ht, boundA, hij, hj]
theorem extract_toList (s : ByteArray) (i j : Nat) : (s.extract i j).toList = (s.data.toList.drop i).take (j - i) := by
  rw [toList_data]
  have : (s.extract i j).data = s.data.extract i j := by simp
  rw [this, Array.toList_extract]
theorem acc_step {p : Nat} {tl : List UInt8} {k : Nat} {b : UInt8} (h : tl[k]? = some b) : accU p (tl.take (k + 1)) = accU p (tl.take k) * 64 + b.toNat % 64 := by
  rw [List.take_add_one, h]
  simp [accU, List.foldl_append]

theorem fstE (s : ByteArray) (hs : s.size ≤ 1048576) {pre tl : List UInt8} {c : UInt8} (hl : s.data.toList = pre ++ c :: tl) : EvV CX 56 [.str s, .int .i64 pre.length] (· = fstV (fstU (c :: tl))) := by
  have hlen := str_len hl
  simp only [List.length_append, List.length_cons] at hlen
  have i0 := index_str (X := CX) (k := .i64) ty9 (str_get hl)
  have hc := c.toNat_lt
  have w0 : IntKind.wrap .i64 (c.toNat : Int) = (c.toNat : Int) := wI (by omega)
  have k3 : ∀ (S : Store) (m : Int), expTop S (.int .i64 m) = some (.int .i64 m) := fun _ _ => rfl
  refine EvV.walk rfl fn56 rfl nt56 rfl ?_
  simp only [List.length_cons, List.length_nil, List.cons_append, List.nil_append, Nat.reduceAdd, Nat.reduceSub, List.replicate]
  repeat' (first | refine go1 ?_ | refine blockK_else rfl ?_ | (refine wpO_cons fun K hK => ?_; simp only [go_sem, reduceIte, Nat.reduceAdd, Nat.reduceEqDiff, Nat.reduceLT, Nat.reduceLeDiff, *, cvtK_int, wpK_cvt ty5 ty3 rfl, wpK_index, wpK_slice, wpK_assignS, wpK_moveS, evalA_str, lenK_str, i0, w0]; first | (refine hK.out _ _ ?_; clear hK K) | (refine iteI (fun h => hK.out _ _ ?_) (fun h => hK.out _ _ ?_) <;> clear hK K)))
  refine wpC_cutB [13, 14, 15, 16, 17, 18, 19, 20, 21, 22, 23, 24, 25, 26, 27] (fun _ : Unit => [(6, .int .i64 ((hdU c.toNat).1 : Int)), (7, .int .i64 ((hdU c.toNat).2 : Int))]) (fun _ H => H) (fun _ => True) ?_ ?_
  · by_cases h1 : (240 : Int) ≤ (c.toNat : Int)
    · have e : hdU c.toNat = (c.toNat - 240, 4) := by rw [hdU, if_pos (by omega)]
      have w1 : IntKind.wrap .i64 ((c.toNat : Int) - 240) = ((c.toNat - 240 : Nat) : Int) := by rw [wrap_small (by omega) (by omega)]; omega
      rw [e]
      clear e i0
      repeat' (first | refine go1 ?_ | refine blockK_else rfl ?_ | (refine wpC_cond fun A B hA hB => ?_; simp only [go_sem, reduceIte, Nat.reduceAdd, Nat.reduceEqDiff, Nat.reduceLT, Nat.reduceLeDiff, *, cvtK_int, wpK_cvt ty5 ty3 rfl, w1]; first | (refine hA.out ?_; clear hA hB A B) | (refine hB.out ?_; clear hA hB A B) | (refine iteI (fun h => hA.out ?_) (fun h => hB.out ?_) <;> clear hA hB A B) | (refine iteI (fun h => hB.out ?_) (fun h => hA.out ?_) <;> clear hA hB A B)) | (refine wpO_cons fun K hK => ?_; simp only [go_sem, reduceIte, Nat.reduceAdd, Nat.reduceEqDiff, Nat.reduceLT, Nat.reduceLeDiff, *, cvtK_int, wpK_cvt ty5 ty3 rfl, w1]; first | (refine hK.out _ _ ?_; clear hK K) | (refine iteI (fun h => hK.out _ _ ?_) (fun h => hK.out _ _ ?_) <;> clear hK K)))
      refine cut_next () trivial ?_ ⟨[], rfl⟩
      ((try simp only [eraseA_cons, eraseA_nil, setL_cons, setL_nil, List.set_cons_zero, List.set_cons_succ]); all_goals (first | rfl | (simp only [len_snoc, ints_len, List.length_map, ]; done) | (simp only [len_snoc, len_mid, ints_len, List.length_map, List.length_append, List.length_cons, List.length_nil, Nat.zero_add, ]; done) | (simp only [len_mid, len_snoc, ints_len, List.length_map, List.length_append, List.length_cons, List.length_nil, Nat.zero_add, ]; rfl)))
    by_cases h2 : (224 : Int) ≤ (c.toNat : Int)
    · have e : hdU c.toNat = (c.toNat - 224, 3) := by rw [hdU, if_neg (by omega), if_pos (by omega)]
      have w1 : IntKind.wrap .i64 ((c.toNat : Int) - 224) = ((c.toNat - 224 : Nat) : Int) := by rw [wrap_small (by omega) (by omega)]; omega
      rw [e]
      clear e i0
      repeat' (first | refine go1 ?_ | refine blockK_else rfl ?_ | (refine wpC_cond fun A B hA hB => ?_; simp only [go_sem, reduceIte, Nat.reduceAdd, Nat.reduceEqDiff, Nat.reduceLT, Nat.reduceLeDiff, *, cvtK_int, wpK_cvt ty5 ty3 rfl, w1]; first | (refine hA.out ?_; clear hA hB A B) | (refine hB.out ?_; clear hA hB A B) | (refine iteI (fun h => hA.out ?_) (fun h => hB.out ?_) <;> clear hA hB A B) | (refine iteI (fun h => hB.out ?_) (fun h => hA.out ?_) <;> clear hA hB A B)) | (refine wpO_cons fun K hK => ?_; simp only [go_sem, reduceIte, Nat.reduceAdd, Nat.reduceEqDiff, Nat.reduceLT, Nat.reduceLeDiff, *, cvtK_int, wpK_cvt ty5 ty3 rfl, w1]; first | (refine hK.out _ _ ?_; clear hK K) | (refine iteI (fun h => hK.out _ _ ?_) (fun h => hK.out _ _ ?_) <;> clear hK K)))
      refine cut_next () trivial ?_ ⟨[], rfl⟩
      ((try simp only [eraseA_cons, eraseA_nil, setL_cons, setL_nil, List.set_cons_zero, List.set_cons_succ]); all_goals (first | rfl | (simp only [len_snoc, ints_len, List.length_map, ]; done) | (simp only [len_snoc, len_mid, ints_len, List.length_map, List.length_append, List.length_cons, List.length_nil, Nat.zero_add, ]; done) | (simp only [len_mid, len_snoc, ints_len, List.length_map, List.length_append, List.length_cons, List.length_nil, Nat.zero_add, ]; rfl)))
    by_cases h3 : (192 : Int) ≤ (c.toNat : Int)
    · have e : hdU c.toNat = (c.toNat - 192, 2) := by rw [hdU, if_neg (by omega), if_neg (by omega), if_pos (by omega)]
      have w1 : IntKind.wrap .i64 ((c.toNat : Int) - 192) = ((c.toNat - 192 : Nat) : Int) := by rw [wrap_small (by omega) (by omega)]; omega
      rw [e]
      clear e i0
      repeat' (first | refine go1 ?_ | refine blockK_else rfl ?_ | (refine wpC_cond fun A B hA hB => ?_; simp only [go_sem, reduceIte, Nat.reduceAdd, Nat.reduceEqDiff, Nat.reduceLT, Nat.reduceLeDiff, *, cvtK_int, wpK_cvt ty5 ty3 rfl, w1]; first | (refine hA.out ?_; clear hA hB A B) | (refine hB.out ?_; clear hA hB A B) | (refine iteI (fun h => hA.out ?_) (fun h => hB.out ?_) <;> clear hA hB A B) | (refine iteI (fun h => hB.out ?_) (fun h => hA.out ?_) <;> clear hA hB A B)) | (refine wpO_cons fun K hK => ?_; simp only [go_sem, reduceIte, Nat.reduceAdd, Nat.reduceEqDiff, Nat.reduceLT, Nat.reduceLeDiff, *, cvtK_int, wpK_cvt ty5 ty3 rfl, w1]; first | (refine hK.out _ _ ?_; clear hK K) | (refine iteI (fun h => hK.out _ _ ?_) (fun h => hK.out _ _ ?_) <;> clear hK K)))
      refine cut_next () trivial ?_ ⟨[], rfl⟩
      ((try simp only [eraseA_cons, eraseA_nil, setL_cons, setL_nil, List.set_cons_zero, List.set_cons_succ]); all_goals (first | rfl | (simp only [len_snoc, ints_len, List.length_map, ]; done) | (simp only [len_snoc, len_mid, ints_len, List.length_map, List.length_append, List.length_cons, List.length_nil, Nat.zero_add, ]; done) | (simp only [len_mid, len_snoc, ints_len, List.length_map, List.length_append, List.length_cons, List.length_nil, Nat.zero_add, ]; rfl)))
    · have e : hdU c.toNat = (c.toNat, 1) := by rw [hdU, if_neg (by omega), if_neg (by omega), if_neg (by omega)]
      rw [e]
      clear e i0
      repeat' (first | refine go1 ?_ | refine blockK_else rfl ?_ | (refine wpC_cond fun A B hA hB => ?_; simp only [go_sem, reduceIte, Nat.reduceAdd, Nat.reduceEqDiff, Nat.reduceLT, Nat.reduceLeDiff, *, cvtK_int, wpK_cvt ty5 ty3 rfl, ]; first | (refine hA.out ?_; clear hA hB A B) | (refine hB.out ?_; clear hA hB A B) | (refine iteI (fun h => hA.out ?_) (fun h => hB.out ?_) <;> clear hA hB A B) | (refine iteI (fun h => hB.out ?_) (fun h => hA.out ?_) <;> clear hA hB A B)) | (refine wpO_cons fun K hK => ?_; simp only [go_sem, reduceIte, Nat.reduceAdd, Nat.reduceEqDiff, Nat.reduceLT, Nat.reduceLeDiff, *, cvtK_int, wpK_cvt ty5 ty3 rfl, ]; first | (refine hK.out _ _ ?_; clear hK K) | (refine iteI (fun h => hK.out _ _ ?_) (fun h => hK.out _ _ ?_) <;> clear hK K)))
      refine cut_next () trivial ?_ ⟨[], rfl⟩
      ((try simp only [eraseA_cons, eraseA_nil, setL_cons, setL_nil, List.set_cons_zero, List.set_cons_succ]); all_goals (first | rfl | (simp only [len_snoc, ints_len, List.length_map, ]; done) | (simp only [len_snoc, len_mid, ints_len, List.length_map, List.length_append, List.length_cons, List.length_nil, Nat.zero_add, ]; done) | (simp only [len_mid, len_snoc, ints_len, List.length_map, List.length_append, List.length_cons, List.length_nil, Nat.zero_add, ]; rfl)))
  rintro _ g0 G0 _
  have hn := hdU_n c.toNat
  have hp0 := hdU_p (c := c.toNat) hc
  have hF : fstU (c :: tl) = if tl.length + 1 < (hdU c.toNat).2 then none else
    if scal (accU (hdU c.toNat).1 (tl.take ((hdU c.toNat).2 - 1))) = true ∧ encU (accU (hdU c.toNat).1 (tl.take ((hdU c.toNat).2 - 1))) = (c :: tl).take (hdU c.toNat).2 then some (accU (hdU c.toNat).1 (tl.take ((hdU c.toNat).2 - 1)), (hdU c.toNat).2) else none := rfl
  rw [hF]
  clear i0 hF w0
  generalize (hdU c.toNat).1 = p0 at *
  generalize (hdU c.toNat).2 = n at *
  have wa : IntKind.wrap .i64 ((pre.length : Int) + (n : Int)) = ((pre.length + n : Nat) : Int) := wI (n := pre.length + n) (by omega)
  have hsz : (s.size : Int) = ((pre.length + (tl.length + 1) : Nat) : Int) := by rw [hlen]
  simp only [garbA_cons, garbA_nil, setL_cons, setL_nil, List.set_cons_zero, List.set_cons_succ]
  by_cases ho : tl.length + 1 < n
  · have z : (((pre.length + (tl.length + 1) : Nat) : Int)) < ((pre.length + n : Nat) : Int) := by omega
    rw [if_pos ho]
    clear hlen ho
    repeat' (first | refine go1 ?_ | refine blockK_else rfl ?_ | (refine wpC_cond fun A B hA hB => ?_; simp only [go_sem, reduceIte, Nat.reduceAdd, Nat.reduceEqDiff, Nat.reduceLT, Nat.reduceLeDiff, *, cvtK_int, wpK_cvt ty5 ty3 rfl, wpK_index, wpK_slice, wpK_assignS, wpK_moveS, evalA_str, lenK_str, wa, hsz, z]; first | (refine hA.out ?_; clear hA hB A B) | (refine hB.out ?_; clear hA hB A B) | (refine iteI (fun h => hA.out ?_) (fun h => hB.out ?_) <;> clear hA hB A B) | (refine iteI (fun h => hB.out ?_) (fun h => hA.out ?_) <;> clear hA hB A B)) | (refine wpO_cons fun K hK => ?_; simp only [go_sem, reduceIte, Nat.reduceAdd, Nat.reduceEqDiff, Nat.reduceLT, Nat.reduceLeDiff, *, cvtK_int, wpK_cvt ty5 ty3 rfl, wpK_index, wpK_slice, wpK_assignS, wpK_moveS, evalA_str, lenK_str, wa, hsz, z]; first | (refine hK.out _ _ ?_; clear hK K) | (refine iteI (fun h => hK.out _ _ ?_) (fun h => hK.out _ _ ?_) <;> clear hK K)))
    simp only [resultsR, resultsL, resultA, resK_some, getA_zero, getA_succ, go_sem, reduceIte, Nat.reduceAdd, Nat.reduceEqDiff, Nat.reduceLT, Nat.reduceLeDiff, expK_tup]
    rw [if_pos (show idsOK _ = true from rfl)]
    simp only [expTops, k3, fstV]
  have z : ¬ (((pre.length + (tl.length + 1) : Nat) : Int)) < ((pre.length + n : Nat) : Int) := by omega
  have hon : n ≤ tl.length + 1 := by omega
  rw [if_neg ho]
  clear ho
  repeat' (first | refine go1 ?_ | refine blockK_else rfl ?_ | (refine wpO_cons fun K hK => ?_; simp only [go_sem, reduceIte, Nat.reduceAdd, Nat.reduceEqDiff, Nat.reduceLT, Nat.reduceLeDiff, *, cvtK_int, wpK_cvt ty5 ty3 rfl, wpK_index, wpK_slice, wpK_assignS, wpK_moveS, evalA_str, lenK_str, wa, hsz, z]; first | (refine hK.out _ _ ?_; clear hK K) | (refine iteI (fun h => hK.out _ _ ?_) (fun h => hK.out _ _ ?_) <;> clear hK K)))
  (refine wpC_cond fun A B hA hB => ?_; simp only [go_sem, reduceIte, Nat.reduceAdd, Nat.reduceEqDiff, Nat.reduceLT, Nat.reduceLeDiff, *, cvtK_int, wpK_cvt ty5 ty3 rfl, z]; first | (refine hA.out ?_; clear hA hB A B) | (refine hB.out ?_; clear hA hB A B))
  repeat' (first | refine go1 ?_ | refine blockK_else rfl ?_ | (refine wpO_cons fun K hK => ?_; simp only [go_sem, reduceIte, Nat.reduceAdd, Nat.reduceEqDiff, Nat.reduceLT, Nat.reduceLeDiff, *, cvtK_int, wpK_cvt ty5 ty3 rfl, ]; first | (refine hK.out _ _ ?_; clear hK K) | (refine iteI (fun h => hK.out _ _ ?_) (fun h => hK.out _ _ ?_) <;> clear hK K)))
  clear z
  refine wpC_loopF [34, 35, 36, 37, 38, 39, 40, 41, 42, 43, 44, 45, 46, 47, 48] (fun i : Nat => [(6, .int .i64 ((accU p0 (tl.take (i - 1)) : Nat) : Int)), (8, .int .i64 (i : Int))]) (fun _ H => H) (fun i => 1 ≤ i ∧ i ≤ n) (fun i => n - i) 1 ⟨Nat.le_refl _, hn.1⟩ ?_ ⟨_, rfl⟩ ?_
  · ((try simp only [eraseA_cons, eraseA_nil, setL_cons, setL_nil, List.set_cons_zero, List.set_cons_succ]); all_goals (first | rfl | (simp only [len_snoc, ints_len, List.length_map, ]; done) | (simp only [len_snoc, len_mid, ints_len, List.length_map, List.length_append, List.length_cons, List.length_nil, Nat.zero_add, ]; done) | (simp only [len_mid, len_snoc, ints_len, List.length_map, List.length_append, List.length_cons, List.length_nil, Nat.zero_add, ]; rfl)))
  rintro i g G ⟨h1, h2⟩
  simp only [garbA_cons, garbA_nil, setL_cons, setL_nil, List.set_cons_zero, List.set_cons_succ]
  have hacc := accU_lt (tl.take (i - 1)) p0
  have hlt : (tl.take (i - 1)).length ≤ 3 := by simp; omega
  have hpow : 64 ^ (tl.take (i - 1)).length ≤ 262144 := Nat.le_trans (Nat.pow_le_pow_right (by omega) hlt) (by decide)
  have hbnd : accU p0 (tl.take (i - 1)) < 67108864 := Nat.lt_of_lt_of_le hacc (Nat.le_trans (Nat.mul_le_mul (show p0 + 1 ≤ 256 by omega) hpow) (by decide))
  by_cases hi : i < n
  · have hk : i - 1 < tl.length := by omega
    obtain ⟨b, hb⟩ : ∃ b, tl[i - 1]? = some b := ⟨_, List.getElem?_eq_getElem hk⟩
    have hbl := b.toNat_lt
    have hget : s[pre.length + i]? = some b := by
      have e : s.data.toList = (pre ++ c :: tl.take (i - 1)) ++ b :: tl.drop i := by
        rw [hl]
        have : tl = tl.take (i - 1) ++ b :: tl.drop i := by
          have h3 := List.take_append_drop (i - 1) tl
          have h4 : tl.drop (i - 1) = b :: tl.drop i := by
            rw [List.drop_eq_getElem_cons hk]
            have : tl[i - 1] = b := by rw [List.getElem?_eq_getElem hk] at hb; injection hb
            rw [this, show i - 1 + 1 = i by omega]
          rw [h4] at h3; exact h3.symm
        simp only [List.append_assoc, List.cons_append]
        rw [← this]
      have e2 := str_get e
      have e3 : (pre ++ c :: tl.take (i - 1)).length = pre.length + i := by simp; omega
      rw [e3] at e2; exact e2
    have i1 := index_str (X := CX) (k := .i64) ty9 hget
    have lt1 : (i : Int) < (n : Int) := by omega
    have w1 : IntKind.wrap .i64 (((accU p0 (tl.take (i - 1)) : Nat) : Int) * 64) = ((accU p0 (tl.take (i - 1)) * 64 : Nat) : Int) := wI (n := accU p0 (tl.take (i - 1)) * 64) (by omega)
    have w2 : IntKind.wrap .i64 ((pre.length : Int) + (i : Int)) = ((pre.length + i : Nat) : Int) := wI (n := pre.length + i) (by omega)
    have w3 : IntKind.wrap .i64 (b.toNat : Int) = (b.toNat : Int) := wI (by omega)
    have m1 : Int.tmod (b.toNat : Int) 64 = ((b.toNat % 64 : Nat) : Int) := rfl
    have z4 : ¬ (64 : Int) = 0 := by omega
    have w4 : IntKind.wrap .i64 (((accU p0 (tl.take (i - 1)) * 64 : Nat) : Int) + ((b.toNat % 64 : Nat) : Int)) = ((accU p0 (tl.take (i - 1)) * 64 + b.toNat % 64 : Nat) : Int) := wI (n := accU p0 (tl.take (i - 1)) * 64 + b.toNat % 64) (by omega)
    have w5 := wrap_succ (n := i) (by omega)
    have ha := acc_step (p := p0) hb
    rw [show i - 1 + 1 = i by omega] at ha
    have hha : Hold (accU p0 (tl.take i) = accU p0 (tl.take (i - 1)) * 64 + b.toNat % 64) := ⟨ha⟩
    clear ha hb hget
    repeat' (first | refine go1 ?_ | refine blockK_else rfl ?_ | (refine wpC_cond fun A B hA hB => ?_; simp only [go_sem, reduceIte, Nat.reduceAdd, Nat.reduceEqDiff, Nat.reduceLT, Nat.reduceLeDiff, *, cvtK_int, wpK_cvt ty5 ty3 rfl, wpK_index, wpK_slice, wpK_assignS, wpK_moveS, evalA_str, lenK_str, i1, lt1, w1, w2, w3, w4, w5, m1, z4]; first | (refine hA.out ?_; clear hA hB A B) | (refine hB.out ?_; clear hA hB A B) | (refine iteI (fun h => hA.out ?_) (fun h => hB.out ?_) <;> clear hA hB A B) | (refine iteI (fun h => hB.out ?_) (fun h => hA.out ?_) <;> clear hA hB A B)) | (refine wpO_cons fun K hK => ?_; simp only [go_sem, reduceIte, Nat.reduceAdd, Nat.reduceEqDiff, Nat.reduceLT, Nat.reduceLeDiff, *, cvtK_int, wpK_cvt ty5 ty3 rfl, wpK_index, wpK_slice, wpK_assignS, wpK_moveS, evalA_str, lenK_str, i1, lt1, w1, w2, w3, w4, w5, m1, z4]; first | (refine hK.out _ _ ?_; clear hK K) | (refine iteI (fun h => hK.out _ _ ?_) (fun h => hK.out _ _ ?_) <;> clear hK K)))
    refine loopF_next (i + 1) (by omega) ⟨by omega, by omega⟩ ?_ ⟨_, rfl⟩
    ((try simp only [eraseA_cons, eraseA_nil, setL_cons, setL_nil, List.set_cons_zero, List.set_cons_succ]); all_goals (first | rfl | (simp only [len_snoc, ints_len, List.length_map, Nat.add_sub_cancel, hha.out]; done) | (simp only [len_snoc, len_mid, ints_len, List.length_map, List.length_append, List.length_cons, List.length_nil, Nat.zero_add, Nat.add_sub_cancel, hha.out]; done) | (simp only [len_mid, len_snoc, ints_len, List.length_map, List.length_append, List.length_cons, List.length_nil, Nat.zero_add, Nat.add_sub_cancel, hha.out]; rfl)))
  · have hin : i = n := by omega
    subst hin
    have lt1 : ¬ (i : Int) < (i : Int) := by omega
    generalize hP : accU p0 (tl.take (i - 1)) = p at *
    have qs := (scalE p).rw
    repeat' (first | refine go1 ?_ | refine blockK_else rfl ?_ | (refine wpO_cons fun K hK => ?_; simp only [go_sem, reduceIte, Nat.reduceAdd, Nat.reduceEqDiff, Nat.reduceLT, Nat.reduceLeDiff, *, cvtK_int, wpK_cvt ty5 ty3 rfl, lt1]; first | (refine hK.out _ _ ?_; clear hK K) | (refine iteI (fun h => hK.out _ _ ?_) (fun h => hK.out _ _ ?_) <;> clear hK K)))
    (refine wpC_cond fun A B hA hB => ?_; simp only [go_sem, reduceIte, Nat.reduceAdd, Nat.reduceEqDiff, Nat.reduceLT, Nat.reduceLeDiff, *, cvtK_int, wpK_cvt ty5 ty3 rfl, ]; first | (refine hA.out ?_; clear hA hB A B) | (refine hB.out ?_; clear hA hB A B))
    have hle : pre.length ≤ pre.length + i := by omega
    have hle2 : pre.length + i ≤ s.size := by omega
    have sl := slice_str (X := CX) (k := .i64) (s := s) ty9 hle hle2
    by_cases k1 : scal p = true
    · have hpm : p ≤ 1114111 := by simp [scal] at k1; omega
      have qe := (encUE p hpm).rw
      have hq : ((⟨(encU p).toArray⟩ : ByteArray).toList == (s.extract pre.length (pre.length + i)).toList) = decide (encU p = (c :: tl).take i) := by
        rw [extract_toList, toList_data, hl, List.drop_left, Nat.add_sub_cancel_left]
        rw [Bool.eq_iff_iff]; simp
      by_cases k2 : encU p = (c :: tl).take i
      · have hd : decide (encU p = (c :: tl).take i) = true := by simpa using k2
        rw [hd] at hq
        rw [if_pos ⟨k1, k2⟩]
        clear hd hle hle2 hbnd hacc hlt hpow k2
        repeat' (first | refine go1 ?_ | refine blockK_else rfl ?_ | (refine wpC_cond fun A B hA hB => ?_; simp only [go_sem, reduceIte, Nat.reduceAdd, Nat.reduceEqDiff, Nat.reduceLT, Nat.reduceLeDiff, *, cvtK_int, wpK_cvt ty5 ty3 rfl, wpK_index, wpK_slice, wpK_assignS, wpK_moveS, evalA_str, lenK_str, wa, qs, qe, k1, sl, strBin, hq]; first | (refine hA.out ?_; clear hA hB A B) | (refine hB.out ?_; clear hA hB A B) | (refine iteI (fun h => hA.out ?_) (fun h => hB.out ?_) <;> clear hA hB A B) | (refine iteI (fun h => hB.out ?_) (fun h => hA.out ?_) <;> clear hA hB A B)) | (refine wpO_cons fun K hK => ?_; simp only [go_sem, reduceIte, Nat.reduceAdd, Nat.reduceEqDiff, Nat.reduceLT, Nat.reduceLeDiff, *, cvtK_int, wpK_cvt ty5 ty3 rfl, wpK_index, wpK_slice, wpK_assignS, wpK_moveS, evalA_str, lenK_str, wa, qs, qe, k1, sl, strBin, hq]; first | (refine hK.out _ _ ?_; clear hK K) | (refine iteI (fun h => hK.out _ _ ?_) (fun h => hK.out _ _ ?_) <;> clear hK K)))
        simp only [resultsR, resultsL, resultA, resK_some, getA_zero, getA_succ, go_sem, reduceIte, Nat.reduceAdd, Nat.reduceEqDiff, Nat.reduceLT, Nat.reduceLeDiff, expK_tup]
        rw [if_pos (show idsOK _ = true from rfl)]
        simp only [expTops, k3, fstV]
      · have hd : decide (encU p = (c :: tl).take i) = false := by simpa using k2
        rw [hd] at hq
        rw [if_neg (fun h => k2 h.2)]
        clear hd hle hle2 hbnd hacc hlt hpow k2
        repeat' (first | refine go1 ?_ | refine blockK_else rfl ?_ | (refine wpC_cond fun A B hA hB => ?_; simp only [go_sem, reduceIte, Nat.reduceAdd, Nat.reduceEqDiff, Nat.reduceLT, Nat.reduceLeDiff, *, cvtK_int, wpK_cvt ty5 ty3 rfl, wpK_index, wpK_slice, wpK_assignS, wpK_moveS, evalA_str, lenK_str, wa, qs, qe, k1, sl, strBin, hq]; first | (refine hA.out ?_; clear hA hB A B) | (refine hB.out ?_; clear hA hB A B) | (refine iteI (fun h => hA.out ?_) (fun h => hB.out ?_) <;> clear hA hB A B) | (refine iteI (fun h => hB.out ?_) (fun h => hA.out ?_) <;> clear hA hB A B)) | (refine wpO_cons fun K hK => ?_; simp only [go_sem, reduceIte, Nat.reduceAdd, Nat.reduceEqDiff, Nat.reduceLT, Nat.reduceLeDiff, *, cvtK_int, wpK_cvt ty5 ty3 rfl, wpK_index, wpK_slice, wpK_assignS, wpK_moveS, evalA_str, lenK_str, wa, qs, qe, k1, sl, strBin, hq]; first | (refine hK.out _ _ ?_; clear hK K) | (refine iteI (fun h => hK.out _ _ ?_) (fun h => hK.out _ _ ?_) <;> clear hK K)))
        simp only [resultsR, resultsL, resultA, resK_some, getA_zero, getA_succ, go_sem, reduceIte, Nat.reduceAdd, Nat.reduceEqDiff, Nat.reduceLT, Nat.reduceLeDiff, expK_tup]
        rw [if_pos (show idsOK _ = true from rfl)]
        simp only [expTops, k3, fstV]
    · rw [if_neg (fun h => k1 h.1)]
      have k1 : scal p = false := by simpa using k1
      clear hle hle2 hbnd hacc hlt hpow
      repeat' (first | refine go1 ?_ | refine blockK_else rfl ?_ | (refine wpC_cond fun A B hA hB => ?_; simp only [go_sem, reduceIte, Nat.reduceAdd, Nat.reduceEqDiff, Nat.reduceLT, Nat.reduceLeDiff, *, cvtK_int, wpK_cvt ty5 ty3 rfl, wpK_index, wpK_slice, wpK_assignS, wpK_moveS, evalA_str, lenK_str, wa, qs, k1]; first | (refine hA.out ?_; clear hA hB A B) | (refine hB.out ?_; clear hA hB A B) | (refine iteI (fun h => hA.out ?_) (fun h => hB.out ?_) <;> clear hA hB A B) | (refine iteI (fun h => hB.out ?_) (fun h => hA.out ?_) <;> clear hA hB A B)) | (refine wpO_cons fun K hK => ?_; simp only [go_sem, reduceIte, Nat.reduceAdd, Nat.reduceEqDiff, Nat.reduceLT, Nat.reduceLeDiff, *, cvtK_int, wpK_cvt ty5 ty3 rfl, wpK_index, wpK_slice, wpK_assignS, wpK_moveS, evalA_str, lenK_str, wa, qs, k1]; first | (refine hK.out _ _ ?_; clear hK K) | (refine iteI (fun h => hK.out _ _ ?_) (fun h => hK.out _ _ ?_) <;> clear hK K)))
      simp only [resultsR, resultsL, resultA, resK_some, getA_zero, getA_succ, go_sem, reduceIte, Nat.reduceAdd, Nat.reduceEqDiff, Nat.reduceLT, Nat.reduceLeDiff, expK_tup]
      rw [if_pos (show idsOK _ = true from rfl)]
      simp only [expTops, k3, fstV]

/- The reference's Points, Label, People. -/
open Go.Proofs
attribute [local go_sem] ty33 br56 appK fz78 fz79 lenK_esl lenK_nils lenK_sl lenK_tsl nilsK rowsOf_esl rowsOf_nils rowsOf_sl rowsOf_tsl br48 fz73
set_option maxHeartbeats 4000000

theorem Option.map_map' {α : Type} (o : Option (List α)) (a : List α) (p : α) : (o.map (p :: ·)).map (a ++ ·) = o.map ((a ++ [p]) ++ ·) := by
  cases o <;> simp

def natI (l : List Nat) : List Int := l.map (fun n : Nat => ((n : Nat) : Int))
def ptsV : Option (List Nat) → AV
  | some l => .tup [.osl 1 (ints (natI l)), .bool true]
  | none => .tup [.osl 1 [], .bool false]

theorem ptsE (s : ByteArray) (hs : s.size ≤ 1048576) : EvV CX 48 [.str s] (· = ptsV (pts s.data.toList)) := by
  obtain ⟨l, hl⟩ : ∃ l, s.data.toList = l := ⟨_, rfl⟩
  have hlen := str_len hl
  rw [hl]
  have k5 : ∀ (S : Store) (m : Bool), expTop S (.bool m) = some (.bool m) := fun _ _ => rfl
  refine EvV.walk rfl fn48 rfl nt48 rfl ?_
  simp only [List.length_cons, List.length_nil, List.cons_append, List.nil_append, Nat.reduceAdd, Nat.reduceSub, List.replicate]
  repeat' (first | refine go1 ?_ | refine blockK_else rfl ?_ | (refine wpC_cond fun A B hA hB => ?_; simp only [go_sem, reduceIte, Nat.reduceAdd, Nat.reduceEqDiff, Nat.reduceLT, Nat.reduceLeDiff, *, wpK_append ty33 rfl, wpK_assignN ty33 rfl, wpK_buildSlice ty33 rfl, ]; first | (refine hA.out ?_; clear hA hB A B) | (refine hB.out ?_; clear hA hB A B) | (refine iteI (fun h => hA.out ?_) (fun h => hB.out ?_) <;> clear hA hB A B) | (refine iteI (fun h => hB.out ?_) (fun h => hA.out ?_) <;> clear hA hB A B)) | (refine wpO_cons fun K hK => ?_; simp only [go_sem, reduceIte, Nat.reduceAdd, Nat.reduceEqDiff, Nat.reduceLT, Nat.reduceLeDiff, *, wpK_append ty33 rfl, wpK_assignN ty33 rfl, wpK_buildSlice ty33 rfl, ]; first | (refine hK.out _ _ ?_; clear hK K) | (refine iteI (fun h => hK.out _ _ ?_) (fun h => hK.out _ _ ?_) <;> clear hK K)))
  refine wpC_loopF [2, 3, 6, 7, 8, 9, 10, 11, 12, 13, 14, 15, 16, 17, 18, 19, 20, 21, 22, 23, 24, 25, 26] (fun a : List UInt8 × List UInt8 × List Nat => [(4, .sl 1 a.2.2.length 0 a.2.2.length 1), (5, .int .i64 (a.1.length : Int))]) (fun a G => .arr [] 1 0 true :: .arr (ints (natI a.2.2)) 1 0 true :: G)
    (fun a => l = a.1 ++ a.2.1 ∧ a.2.2.length ≤ a.1.length ∧ pts l = (pts a.2.1).map (a.2.2 ++ ·)) (fun a => a.2.1.length) ([], l, []) ⟨rfl, Nat.le_refl _, by cases pts l <;> simp⟩ ?_ ⟨[], rfl⟩ ?_
  · rfl
  rintro ⟨pre, rest, out⟩ g G ⟨h1, h2, h3⟩
  simp only at h1 h2 h3
  rw [h3]
  simp only [garbA_cons, garbA_nil, setL_cons, setL_nil, List.set_cons_zero, List.set_cons_succ]
  have hsz : (s.size : Int) = (l.length : Int) := by rw [hlen]
  have hnl : (natI out).length = out.length := by simp [natI]
  cases rest with
  | nil =>
    rw [List.append_nil] at h1
    have e : (l.length : Int) = (pre.length : Int) := by rw [h1]
    rw [pts_nil]
    clear h1 h3
    repeat' (first | refine go1 ?_ | refine blockK_else rfl ?_ | (refine wpC_cond fun A B hA hB => ?_; simp only [go_sem, reduceIte, Nat.reduceAdd, Nat.reduceEqDiff, Nat.reduceLT, Nat.reduceLeDiff, *, wpK_append ty33 rfl, wpK_assignN ty33 rfl, wpK_buildSlice ty33 rfl, wpK_index, wpK_slice, wpK_assignS, wpK_moveS, evalA_str, lenK_str, hsz, e, Int.lt_irrefl]; first | (refine hA.out ?_; clear hA hB A B) | (refine hB.out ?_; clear hA hB A B) | (refine iteI (fun h => hA.out ?_) (fun h => hB.out ?_) <;> clear hA hB A B) | (refine iteI (fun h => hB.out ?_) (fun h => hA.out ?_) <;> clear hA hB A B)) | (refine wpO_cons fun K hK => ?_; simp only [go_sem, reduceIte, Nat.reduceAdd, Nat.reduceEqDiff, Nat.reduceLT, Nat.reduceLeDiff, *, wpK_append ty33 rfl, wpK_assignN ty33 rfl, wpK_buildSlice ty33 rfl, wpK_index, wpK_slice, wpK_assignS, wpK_moveS, evalA_str, lenK_str, hsz, e, Int.lt_irrefl]; first | (refine hK.out _ _ ?_; clear hK K) | (refine iteI (fun h => hK.out _ _ ?_) (fun h => hK.out _ _ ?_) <;> clear hK K)))
    simp only [resultsR, resultsL, resultA, resK_some, getA_zero, getA_succ, go_sem, reduceIte, Nat.reduceAdd, Nat.reduceEqDiff, Nat.reduceLT, Nat.reduceLeDiff, expK_tup]
    simp [idsOK, ownIds, lentIds, expTops, expTop, k5, ptsV, ints, natI, AV.stab]
  | cons c tl =>
    have lt1 : (pre.length : Int) < (l.length : Int) := by rw [h1]; simp; omega
    have q := (fstE s hs (hl.trans h1)).rw
    cases hf : fstU (c :: tl) with
    | none =>
      rw [hf, fstV] at q
      rw [pts_none hf]
      clear h1 h3 hf
      repeat' (first | refine go1 ?_ | refine blockK_else rfl ?_ | (refine wpC_cond fun A B hA hB => ?_; simp only [go_sem, reduceIte, Nat.reduceAdd, Nat.reduceEqDiff, Nat.reduceLT, Nat.reduceLeDiff, *, wpK_append ty33 rfl, wpK_assignN ty33 rfl, wpK_buildSlice ty33 rfl, wpK_index, wpK_slice, wpK_assignS, wpK_moveS, evalA_str, lenK_str, hsz, lt1, q, adopt_tup, adoptL, adopt1]; first | (refine hA.out ?_; clear hA hB A B) | (refine hB.out ?_; clear hA hB A B) | (refine iteI (fun h => hA.out ?_) (fun h => hB.out ?_) <;> clear hA hB A B) | (refine iteI (fun h => hB.out ?_) (fun h => hA.out ?_) <;> clear hA hB A B)) | (refine wpO_cons fun K hK => ?_; simp only [go_sem, reduceIte, Nat.reduceAdd, Nat.reduceEqDiff, Nat.reduceLT, Nat.reduceLeDiff, *, wpK_append ty33 rfl, wpK_assignN ty33 rfl, wpK_buildSlice ty33 rfl, wpK_index, wpK_slice, wpK_assignS, wpK_moveS, evalA_str, lenK_str, hsz, lt1, q, adopt_tup, adoptL, adopt1]; first | (refine hK.out _ _ ?_; clear hK K) | (refine iteI (fun h => hK.out _ _ ?_) (fun h => hK.out _ _ ?_) <;> clear hK K)))
      simp only [resultsR, resultsL, resultA, resK_some, getA_zero, getA_succ, go_sem, reduceIte, Nat.reduceAdd, Nat.reduceEqDiff, Nat.reduceLT, Nat.reduceLeDiff, expK_tup]
      simp [idsOK, ownIds, lentIds, expTops, expTop, k5, ptsV, AV.stab]
    | some pn =>
      obtain ⟨p, n⟩ := pn
      rw [hf, fstV] at q
      have hn := fstU_n hf
      have hlp : l.length = pre.length + (tl.length + 1) := by rw [h1]; simp
      simp only [List.length_cons] at hn
      have b1 : (out.length + 1) * 8 ≤ 140737488355328 := by omega
      have b2 : out.length + 1 ≤ 140737488355328 := by omega
      have z : ((n : Int) == 0) = false := by simp; omega
      have z2 : ¬ (n : Int) = 0 := by omega
      have w1 : IntKind.wrap .i64 ((pre.length : Int) + (n : Int)) = ((pre.length + n : Nat) : Int) := wI (n := pre.length + n) (by omega)
      have hh : Hold (l = (pre ++ (c :: tl).take n) ++ (c :: tl).drop n ∧ (pre ++ (c :: tl).take n).length = pre.length + n ∧ (pts (c :: tl)).map (out ++ ·) = (pts ((c :: tl).drop n)).map ((out ++ [p]) ++ ·)) := by
        refine ⟨⟨?_, ?_, ?_⟩⟩
        · rw [List.append_assoc, List.take_append_drop]; exact h1
        · simp only [List.length_append, List.length_take, List.length_cons]; omega
        · rw [pts_some hf, Option.map_map']
      have hl2 : out.length ≤ 1048576 := by omega
      clear h1 h3 hf hlp
      repeat' (first | refine go1 ?_ | refine blockK_else rfl ?_ | (refine wpC_cond fun A B hA hB => ?_; simp only [go_sem, reduceIte, Nat.reduceAdd, Nat.reduceEqDiff, Nat.reduceLT, Nat.reduceLeDiff, *, wpK_append ty33 rfl, wpK_assignN ty33 rfl, wpK_buildSlice ty33 rfl, wpK_index, wpK_slice, wpK_assignS, wpK_moveS, evalA_str, lenK_str, hsz, lt1, q, adopt_tup, adoptL, adopt1, z, z2, w1, getElem?_len, getElem?_lenAdd, set_len, set_lenAdd, len_mid, ints_len, List.length_map, lt_mid, List.nil_append, snap_sl, rowsOf_sl, ints_len, ints_take, List.take_length, Nat.zero_le, Nat.zero_add, Bool.true_or, List.getElem?_cons_succ, List.append_assoc, b1, b2, hnl]; first | (refine hA.out ?_; clear hA hB A B) | (refine hB.out ?_; clear hA hB A B) | (refine iteI (fun h => hA.out ?_) (fun h => hB.out ?_) <;> clear hA hB A B) | (refine iteI (fun h => hB.out ?_) (fun h => hA.out ?_) <;> clear hA hB A B)) | (refine wpO_cons fun K hK => ?_; simp only [go_sem, reduceIte, Nat.reduceAdd, Nat.reduceEqDiff, Nat.reduceLT, Nat.reduceLeDiff, *, wpK_append ty33 rfl, wpK_assignN ty33 rfl, wpK_buildSlice ty33 rfl, wpK_index, wpK_slice, wpK_assignS, wpK_moveS, evalA_str, lenK_str, hsz, lt1, q, adopt_tup, adoptL, adopt1, z, z2, w1, getElem?_len, getElem?_lenAdd, set_len, set_lenAdd, len_mid, ints_len, List.length_map, lt_mid, List.nil_append, snap_sl, rowsOf_sl, ints_len, ints_take, List.take_length, Nat.zero_le, Nat.zero_add, Bool.true_or, List.getElem?_cons_succ, List.append_assoc, b1, b2, hnl]; first | (refine hK.out _ _ ?_; clear hK K) | (refine iteI (fun h => hK.out _ _ ?_) (fun h => hK.out _ _ ?_) <;> clear hK K)))
      refine loopF_next (pre ++ (c :: tl).take n, (c :: tl).drop n, out ++ [p]) ?_ ⟨hh.out.1, ?_, hh.out.2.2⟩ ?_ ?_
      · simp only [List.length_drop, List.length_cons]; omega
      · rw [hh.out.2.1]; simp; omega
      · ((try simp only [eraseA_cons, eraseA_nil, setL_cons, setL_nil, List.set_cons_zero, List.set_cons_succ]); all_goals (first | rfl | (simp only [len_snoc, ints_len, List.length_map, hh.out.2.1]; done) | (simp only [len_snoc, len_mid, ints_len, List.length_map, List.length_append, List.length_cons, List.length_nil, Nat.zero_add, hh.out.2.1]; done) | (simp only [len_mid, len_snoc, ints_len, List.length_map, List.length_append, List.length_cons, List.length_nil, Nat.zero_add, hh.out.2.1]; rfl)))
      · exact ⟨_, by simp [natI, ints]; rfl⟩

/-- What a label is. -/
def okc (c : UInt8) : Bool := decide (32 ≤ (c.toNat : Int)) && decide ((c.toNat : Int) ≠ 127)
def labU (l : List UInt8) : Bool := l.all okc && ((pts l).isSome && (decide (1 ≤ l.length) && decide (l.length ≤ 32)))

theorem labelR (s : ByteArray) (hs : s.size ≤ 1048576) : EvV CX 33 [.str s] (· = .bool (labU s.data.toList)) := by
  have q := (ptsE s hs).rw
  obtain ⟨l, hl⟩ : ∃ l, s.data.toList = l := ⟨_, rfl⟩
  have hlen := str_len hl
  rw [hl] at q ⊢
  have hsz : (s.size : Int) = (l.length : Int) := by rw [hlen]
  refine EvV.walk rfl fn33 rfl nt33 rfl ?_
  simp only [List.length_cons, List.length_nil, List.cons_append, List.nil_append, Nat.reduceAdd, Nat.reduceSub, List.replicate]
  repeat' (first | refine go1 ?_ | refine blockK_else rfl ?_ | (refine wpC_cond fun A B hA hB => ?_; simp only [go_sem, reduceIte, Nat.reduceAdd, Nat.reduceEqDiff, Nat.reduceLT, Nat.reduceLeDiff, *, and_self, ]; first | (refine hA.out ?_; clear hA hB A B) | (refine hB.out ?_; clear hA hB A B) | (refine iteI (fun h => hA.out ?_) (fun h => hB.out ?_) <;> clear hA hB A B) | (refine iteI (fun h => hB.out ?_) (fun h => hA.out ?_) <;> clear hA hB A B)) | (refine wpO_cons fun K hK => ?_; simp only [go_sem, reduceIte, Nat.reduceAdd, Nat.reduceEqDiff, Nat.reduceLT, Nat.reduceLeDiff, *, and_self, ]; first | (refine hK.out _ _ ?_; clear hK K) | (refine iteI (fun h => hK.out _ _ ?_) (fun h => hK.out _ _ ?_) <;> clear hK K)))
  refine wpC_each [2, 6, 7, 8, 9, 10, 11, 12, 13, 14, 15, 16, 17, 18, 19, 20, 21] 3 l (fun pre post => l.all okc = post.all okc) ?_ ?_ ?_ ?_
  · rfl
  · rfl
  · intro g G h2
    have hE : labU l = ((pts l).isSome && (decide (1 ≤ l.length) && decide (l.length ≤ 32))) := by rw [labU, h2]; rfl
    rw [hE]
    clear hE h2
    simp only [garbA_cons, garbA_nil, setL_cons, setL_nil, List.set_cons_zero, List.set_cons_succ]
    cases hp : pts l with
    | none =>
      rw [hp, ptsV] at q
      repeat' (first | refine go1 ?_ | refine blockK_else rfl ?_ | (refine wpC_cond fun A B hA hB => ?_; simp only [go_sem, reduceIte, Nat.reduceAdd, Nat.reduceEqDiff, Nat.reduceLT, Nat.reduceLeDiff, *, and_self, wpK_index, wpK_slice, wpK_assignS, wpK_moveS, evalA_str, lenK_str, hsz, Int.lt_irrefl, q, adopt_tup, adoptL, adopt1]; first | (refine hA.out ?_; clear hA hB A B) | (refine hB.out ?_; clear hA hB A B) | (refine iteI (fun h => hA.out ?_) (fun h => hB.out ?_) <;> clear hA hB A B) | (refine iteI (fun h => hB.out ?_) (fun h => hA.out ?_) <;> clear hA hB A B)) | (refine wpO_cons fun K hK => ?_; simp only [go_sem, reduceIte, Nat.reduceAdd, Nat.reduceEqDiff, Nat.reduceLT, Nat.reduceLeDiff, *, and_self, wpK_index, wpK_slice, wpK_assignS, wpK_moveS, evalA_str, lenK_str, hsz, Int.lt_irrefl, q, adopt_tup, adoptL, adopt1]; first | (refine hK.out _ _ ?_; clear hK K) | (refine iteI (fun h => hK.out _ _ ?_) (fun h => hK.out _ _ ?_) <;> clear hK K)))
      simp only [resultsR, resultsL, resultA, expK_int, expK_bool, expK_str, expK_agg, expK_own, expK_tsl, resK_some, go_sem, reduceIte, Nat.reduceAdd, Nat.reduceEqDiff, Nat.reduceLT, Nat.reduceLeDiff, and_self, ]
      rfl
    | some ps =>
      rw [hp, ptsV] at q
      by_cases k1 : (1 : Int) ≤ (l.length : Int)
      · by_cases k2 : (l.length : Int) ≤ 32
        · repeat' (first | refine go1 ?_ | refine blockK_else rfl ?_ | (refine wpC_cond fun A B hA hB => ?_; simp only [go_sem, reduceIte, Nat.reduceAdd, Nat.reduceEqDiff, Nat.reduceLT, Nat.reduceLeDiff, *, and_self, wpK_index, wpK_slice, wpK_assignS, wpK_moveS, evalA_str, lenK_str, hsz, Int.lt_irrefl, q, adopt_tup, adoptL, adopt1]; first | (refine hA.out ?_; clear hA hB A B) | (refine hB.out ?_; clear hA hB A B) | (refine iteI (fun h => hA.out ?_) (fun h => hB.out ?_) <;> clear hA hB A B) | (refine iteI (fun h => hB.out ?_) (fun h => hA.out ?_) <;> clear hA hB A B)) | (refine wpO_cons fun K hK => ?_; simp only [go_sem, reduceIte, Nat.reduceAdd, Nat.reduceEqDiff, Nat.reduceLT, Nat.reduceLeDiff, *, and_self, wpK_index, wpK_slice, wpK_assignS, wpK_moveS, evalA_str, lenK_str, hsz, Int.lt_irrefl, q, adopt_tup, adoptL, adopt1]; first | (refine hK.out _ _ ?_; clear hK K) | (refine iteI (fun h => hK.out _ _ ?_) (fun h => hK.out _ _ ?_) <;> clear hK K)))
          simp only [resultsR, resultsL, resultA, expK_int, expK_bool, expK_str, expK_agg, expK_own, expK_tsl, resK_some, go_sem, reduceIte, Nat.reduceAdd, Nat.reduceEqDiff, Nat.reduceLT, Nat.reduceLeDiff, and_self, ]
          simp; omega
        · repeat' (first | refine go1 ?_ | refine blockK_else rfl ?_ | (refine wpC_cond fun A B hA hB => ?_; simp only [go_sem, reduceIte, Nat.reduceAdd, Nat.reduceEqDiff, Nat.reduceLT, Nat.reduceLeDiff, *, and_self, wpK_index, wpK_slice, wpK_assignS, wpK_moveS, evalA_str, lenK_str, hsz, Int.lt_irrefl, q, adopt_tup, adoptL, adopt1]; first | (refine hA.out ?_; clear hA hB A B) | (refine hB.out ?_; clear hA hB A B) | (refine iteI (fun h => hA.out ?_) (fun h => hB.out ?_) <;> clear hA hB A B) | (refine iteI (fun h => hB.out ?_) (fun h => hA.out ?_) <;> clear hA hB A B)) | (refine wpO_cons fun K hK => ?_; simp only [go_sem, reduceIte, Nat.reduceAdd, Nat.reduceEqDiff, Nat.reduceLT, Nat.reduceLeDiff, *, and_self, wpK_index, wpK_slice, wpK_assignS, wpK_moveS, evalA_str, lenK_str, hsz, Int.lt_irrefl, q, adopt_tup, adoptL, adopt1]; first | (refine hK.out _ _ ?_; clear hK K) | (refine iteI (fun h => hK.out _ _ ?_) (fun h => hK.out _ _ ?_) <;> clear hK K)))
          simp only [resultsR, resultsL, resultA, expK_int, expK_bool, expK_str, expK_agg, expK_own, expK_tsl, resK_some, go_sem, reduceIte, Nat.reduceAdd, Nat.reduceEqDiff, Nat.reduceLT, Nat.reduceLeDiff, and_self, ]
          simp; omega
      · repeat' (first | refine go1 ?_ | refine blockK_else rfl ?_ | (refine wpC_cond fun A B hA hB => ?_; simp only [go_sem, reduceIte, Nat.reduceAdd, Nat.reduceEqDiff, Nat.reduceLT, Nat.reduceLeDiff, *, and_self, wpK_index, wpK_slice, wpK_assignS, wpK_moveS, evalA_str, lenK_str, hsz, Int.lt_irrefl, q, adopt_tup, adoptL, adopt1]; first | (refine hA.out ?_; clear hA hB A B) | (refine hB.out ?_; clear hA hB A B) | (refine iteI (fun h => hA.out ?_) (fun h => hB.out ?_) <;> clear hA hB A B) | (refine iteI (fun h => hB.out ?_) (fun h => hA.out ?_) <;> clear hA hB A B)) | (refine wpO_cons fun K hK => ?_; simp only [go_sem, reduceIte, Nat.reduceAdd, Nat.reduceEqDiff, Nat.reduceLT, Nat.reduceLeDiff, *, and_self, wpK_index, wpK_slice, wpK_assignS, wpK_moveS, evalA_str, lenK_str, hsz, Int.lt_irrefl, q, adopt_tup, adoptL, adopt1]; first | (refine hK.out _ _ ?_; clear hK K) | (refine iteI (fun h => hK.out _ _ ?_) (fun h => hK.out _ _ ?_) <;> clear hK K)))
        simp only [resultsR, resultsL, resultA, expK_int, expK_bool, expK_str, expK_agg, expK_own, expK_tsl, resK_some, go_sem, reduceIte, Nat.reduceAdd, Nat.reduceEqDiff, Nat.reduceLT, Nat.reduceLeDiff, and_self, ]
        simp; omega
  · intro g G pre x post h1 h2
    simp only [garbA_cons, garbA_nil, setL_cons, setL_nil, List.set_cons_zero, List.set_cons_succ]
    have i0 := index_str (X := CX) (k := .i64) ty9 (str_get (hl.trans h1))
    have lt1 : (pre.length : Int) < (l.length : Int) := by rw [h1]; simp; omega
    have w1 := wrap_succ (n := pre.length) (by omega)
    have hh1 : Hold (l = pre ++ x :: post) := ⟨h1⟩
    have hh2 : Hold (l.all okc = (x :: post).all okc) := ⟨h2⟩
    clear h1 h2 q
    by_cases k1 : (x.toNat : Int) < 32
    · repeat' (first | refine go1 ?_ | refine blockK_else rfl ?_ | (refine wpC_cond fun A B hA hB => ?_; simp only [go_sem, reduceIte, Nat.reduceAdd, Nat.reduceEqDiff, Nat.reduceLT, Nat.reduceLeDiff, *, and_self, wpK_index, wpK_slice, wpK_assignS, wpK_moveS, evalA_str, lenK_str, i0, hsz, lt1, w1]; first | (refine hA.out ?_; clear hA hB A B) | (refine hB.out ?_; clear hA hB A B) | (refine iteI (fun h => hA.out ?_) (fun h => hB.out ?_) <;> clear hA hB A B) | (refine iteI (fun h => hB.out ?_) (fun h => hA.out ?_) <;> clear hA hB A B)) | (refine wpO_cons fun K hK => ?_; simp only [go_sem, reduceIte, Nat.reduceAdd, Nat.reduceEqDiff, Nat.reduceLT, Nat.reduceLeDiff, *, and_self, wpK_index, wpK_slice, wpK_assignS, wpK_moveS, evalA_str, lenK_str, i0, hsz, lt1, w1]; first | (refine hK.out _ _ ?_; clear hK K) | (refine iteI (fun h => hK.out _ _ ?_) (fun h => hK.out _ _ ?_) <;> clear hK K)))
      simp only [resultsR, resultsL, resultA, expK_int, expK_bool, expK_str, expK_agg, expK_own, expK_tsl, resK_some, go_sem, reduceIte, Nat.reduceAdd, Nat.reduceEqDiff, Nat.reduceLT, Nat.reduceLeDiff, and_self, ]
      have e : okc x = false := by simp [okc]; omega
      rw [labU, hh2.out, List.all_cons, e]; rfl
    by_cases k2 : (x.toNat : Int) = 127
    · have k2' : ((x.toNat : Int) == 127) = true := by simpa using k2
      have hk : Hold ((x.toNat : Int) = 127) := ⟨k2⟩
      clear k2
      repeat' (first | refine go1 ?_ | refine blockK_else rfl ?_ | (refine wpC_cond fun A B hA hB => ?_; simp only [go_sem, reduceIte, Nat.reduceAdd, Nat.reduceEqDiff, Nat.reduceLT, Nat.reduceLeDiff, *, and_self, wpK_index, wpK_slice, wpK_assignS, wpK_moveS, evalA_str, lenK_str, i0, hsz, lt1, w1, k2']; first | (refine hA.out ?_; clear hA hB A B) | (refine hB.out ?_; clear hA hB A B) | (refine iteI (fun h => hA.out ?_) (fun h => hB.out ?_) <;> clear hA hB A B) | (refine iteI (fun h => hB.out ?_) (fun h => hA.out ?_) <;> clear hA hB A B)) | (refine wpO_cons fun K hK => ?_; simp only [go_sem, reduceIte, Nat.reduceAdd, Nat.reduceEqDiff, Nat.reduceLT, Nat.reduceLeDiff, *, and_self, wpK_index, wpK_slice, wpK_assignS, wpK_moveS, evalA_str, lenK_str, i0, hsz, lt1, w1, k2']; first | (refine hK.out _ _ ?_; clear hK K) | (refine iteI (fun h => hK.out _ _ ?_) (fun h => hK.out _ _ ?_) <;> clear hK K)))
      simp only [resultsR, resultsL, resultA, expK_int, expK_bool, expK_str, expK_agg, expK_own, expK_tsl, resK_some, go_sem, reduceIte, Nat.reduceAdd, Nat.reduceEqDiff, Nat.reduceLT, Nat.reduceLeDiff, and_self, ]
      have e : okc x = false := by have := hk.out; simp [okc]; omega
      rw [labU, hh2.out, List.all_cons, e]; rfl
    · have k2' : ((x.toNat : Int) == 127) = false := by simpa using k2
      repeat' (first | refine go1 ?_ | refine blockK_else rfl ?_ | (refine wpC_cond fun A B hA hB => ?_; simp only [go_sem, reduceIte, Nat.reduceAdd, Nat.reduceEqDiff, Nat.reduceLT, Nat.reduceLeDiff, *, and_self, wpK_index, wpK_slice, wpK_assignS, wpK_moveS, evalA_str, lenK_str, i0, hsz, lt1, w1, k2']; first | (refine hA.out ?_; clear hA hB A B) | (refine hB.out ?_; clear hA hB A B) | (refine iteI (fun h => hA.out ?_) (fun h => hB.out ?_) <;> clear hA hB A B) | (refine iteI (fun h => hB.out ?_) (fun h => hA.out ?_) <;> clear hA hB A B)) | (refine wpO_cons fun K hK => ?_; simp only [go_sem, reduceIte, Nat.reduceAdd, Nat.reduceEqDiff, Nat.reduceLT, Nat.reduceLeDiff, *, and_self, wpK_index, wpK_slice, wpK_assignS, wpK_moveS, evalA_str, lenK_str, i0, hsz, lt1, w1, k2']; first | (refine hK.out _ _ ?_; clear hK K) | (refine iteI (fun h => hK.out _ _ ?_) (fun h => hK.out _ _ ?_) <;> clear hK K)))
      refine each_next hh1.out ?_ ?_ ?_
      · have e : okc x = true := by simp [okc]; omega
        rw [hh2.out, List.all_cons, e, Bool.true_and]
      · ((try simp only [eraseA_cons, eraseA_nil, setL_cons, setL_nil, List.set_cons_zero, List.set_cons_succ]); all_goals (first | rfl | (simp only [len_snoc, ints_len, List.length_map, ]; done) | (simp only [len_snoc, len_mid, ints_len, List.length_map, List.length_append, List.length_cons, List.length_nil, Nat.zero_add, ]; done) | (simp only [len_mid, len_snoc, ints_len, List.length_map, List.length_append, List.length_cons, List.length_nil, Nat.zero_add, ]; rfl)))
      · first | exact ⟨[], (List.append_nil _).symm⟩ | exact ⟨_, rfl⟩ | (simp only [List.append_assoc, List.cons_append, List.nil_append]; exact ⟨_, rfl⟩)

/- Labels, as the program tests them. -/
open Go.Proofs
attribute [local go_sem] ty61 fz89 br53 fz90 br45 br46 br47 fz51 fz52
set_option maxHeartbeats 4000000

/-- What runes.Points hands back. -/
def ptsP : Option (List Nat) → AV
  | none => .tup [.flat (.slice none 0 0), .bool false]
  | some l => if l.length = 0 then .tup [.flat (.slice none 0 0), .bool true] else .tup [.osl 1 (ints (natI l)), .bool true]
theorem pointsE (s : ByteArray) (hs : s.size ≤ 1073741824) : EvV CX 47 [.str s] (· = ptsP (pts s.data.toList)) := by
  cases h : pts s.data.toList with
  | none =>
    refine EvV.prim (r := .tup [.flat (.slice none 0 0), .bool false]) (S := []) rfl ?_ ?_
    · simp only [primPts, if_pos hs, h]
    · simp [exportA, idsOK, ownIds, expTop, expTops, AV.stab, ptsP]
  | some l =>
    by_cases h0 : l.length = 0
    · refine EvV.prim (r := .tup [.flat (.slice none 0 0), .bool true]) (S := []) rfl ?_ ?_
      · simp only [primPts, if_pos hs, h, if_pos h0]
      · simp [exportA, idsOK, ownIds, expTop, expTops, AV.stab, ptsP, h0]
    · refine EvV.prim (r := .tup [.sl 0 l.length 0 l.length 1, .bool true]) (S := [.arr (l.map fun n : Nat => [.int .i64 (n : Int)]) 1 0 true]) rfl ?_ ?_
      · simp only [primPts, if_pos hs, h, if_neg h0]
        rfl
      · have e : (l.map fun n : Nat => [AV.int .i64 (n : Int)]) = ints (natI l) := by simp [ints, natI]
        have e2 : (ints (natI l)).length = l.length := by simp [ints, natI]
        simp [exportA, idsOK, ownIds, lentIds, expTop, expTops, AV.stab, ptsP, h0, e, e2]

theorem adL1 {id : Nat} {b : Bool} : adoptL id [.flat (.slice none 0 0), .bool b] = ([.flat (.slice none 0 0), .bool b], []) := rfl
theorem adL2 {id : Nat} {b : Bool} {rows : List (List AV)} : adoptL id [.osl 1 rows, .bool b] = ([.sl id rows.length 0 rows.length 1, .bool b], [.arr rows 1 0 true]) := rfl

theorem label1E (c : UInt8) : EvV CX 46 [.int .u8 (c.toNat : Int)] (· = .bool (!okc c)) := by
  by_cases h1 : (c.toNat : Int) < 32
  · have k : okc c = false := by simp [okc]; omega
    rw [k]
    refine EvV.walk rfl fn46 rfl nt46 rfl ?_
    simp only [List.length_cons, List.length_nil, List.cons_append, List.nil_append, Nat.reduceAdd, Nat.reduceSub, List.replicate]
    repeat' (first | refine go1 ?_ | refine blockK_else rfl ?_ | (refine wpC_cond fun A B hA hB => ?_; simp only [go_sem, reduceIte, Nat.reduceAdd, Nat.reduceEqDiff, Nat.reduceLT, Nat.reduceLeDiff, *, and_self, ]; first | (refine hA.out ?_; clear hA hB A B) | (refine hB.out ?_; clear hA hB A B) | (refine iteI (fun h => hA.out ?_) (fun h => hB.out ?_) <;> clear hA hB A B) | (refine iteI (fun h => hB.out ?_) (fun h => hA.out ?_) <;> clear hA hB A B)) | (refine wpO_cons fun K hK => ?_; simp only [go_sem, reduceIte, Nat.reduceAdd, Nat.reduceEqDiff, Nat.reduceLT, Nat.reduceLeDiff, *, and_self, ]; first | (refine hK.out _ _ ?_; clear hK K) | (refine iteI (fun h => hK.out _ _ ?_) (fun h => hK.out _ _ ?_) <;> clear hK K)))
    simp only [resultsR, resultsL, resultA, expK_int, expK_bool, expK_str, expK_agg, expK_own, expK_tsl, resK_some, go_sem, reduceIte, Nat.reduceAdd, Nat.reduceEqDiff, Nat.reduceLT, Nat.reduceLeDiff, and_self, ]
  · have h2 : (32 : Int) ≤ (c.toNat : Int) := by omega
    by_cases h3 : (c.toNat : Int) = 127
    · have k : okc c = false := by simp [okc, h3]
      have h3' : ((c.toNat : Int) == 127) = true := by simp [h3]
      rw [k]
      clear h3
      refine EvV.walk rfl fn46 rfl nt46 rfl ?_
      simp only [List.length_cons, List.length_nil, List.cons_append, List.nil_append, Nat.reduceAdd, Nat.reduceSub, List.replicate]
      repeat' (first | refine go1 ?_ | refine blockK_else rfl ?_ | (refine wpC_cond fun A B hA hB => ?_; simp only [go_sem, reduceIte, Nat.reduceAdd, Nat.reduceEqDiff, Nat.reduceLT, Nat.reduceLeDiff, *, and_self, ]; first | (refine hA.out ?_; clear hA hB A B) | (refine hB.out ?_; clear hA hB A B) | (refine iteI (fun h => hA.out ?_) (fun h => hB.out ?_) <;> clear hA hB A B) | (refine iteI (fun h => hB.out ?_) (fun h => hA.out ?_) <;> clear hA hB A B)) | (refine wpO_cons fun K hK => ?_; simp only [go_sem, reduceIte, Nat.reduceAdd, Nat.reduceEqDiff, Nat.reduceLT, Nat.reduceLeDiff, *, and_self, ]; first | (refine hK.out _ _ ?_; clear hK K) | (refine iteI (fun h => hK.out _ _ ?_) (fun h => hK.out _ _ ?_) <;> clear hK K)))
      simp only [resultsR, resultsL, resultA, expK_int, expK_bool, expK_str, expK_agg, expK_own, expK_tsl, resK_some, go_sem, reduceIte, Nat.reduceAdd, Nat.reduceEqDiff, Nat.reduceLT, Nat.reduceLeDiff, and_self, h3']
    · have k : okc c = true := by simp [okc]; omega
      have h3' : ((c.toNat : Int) == 127) = false := by simp; omega
      rw [k]
      clear h3
      refine EvV.walk rfl fn46 rfl nt46 rfl ?_
      simp only [List.length_cons, List.length_nil, List.cons_append, List.nil_append, Nat.reduceAdd, Nat.reduceSub, List.replicate]
      repeat' (first | refine go1 ?_ | refine blockK_else rfl ?_ | (refine wpC_cond fun A B hA hB => ?_; simp only [go_sem, reduceIte, Nat.reduceAdd, Nat.reduceEqDiff, Nat.reduceLT, Nat.reduceLeDiff, *, and_self, ]; first | (refine hA.out ?_; clear hA hB A B) | (refine hB.out ?_; clear hA hB A B) | (refine iteI (fun h => hA.out ?_) (fun h => hB.out ?_) <;> clear hA hB A B) | (refine iteI (fun h => hB.out ?_) (fun h => hA.out ?_) <;> clear hA hB A B)) | (refine wpO_cons fun K hK => ?_; simp only [go_sem, reduceIte, Nat.reduceAdd, Nat.reduceEqDiff, Nat.reduceLT, Nat.reduceLeDiff, *, and_self, ]; first | (refine hK.out _ _ ?_; clear hK K) | (refine iteI (fun h => hK.out _ _ ?_) (fun h => hK.out _ _ ?_) <;> clear hK K)))
      simp only [resultsR, resultsL, resultA, expK_int, expK_bool, expK_str, expK_agg, expK_own, expK_tsl, resK_some, go_sem, reduceIte, Nat.reduceAdd, Nat.reduceEqDiff, Nat.reduceLT, Nat.reduceLeDiff, and_self, h3']

/-- The first byte that no label has. -/
def badI : List UInt8 → Nat → Int
  | [], _ => -1
  | c :: l, k => if okc c = true then badI l (k + 1) else (k : Int)
theorem badI_all : ∀ (l : List UInt8) (k : Nat), decide (0 ≤ badI l k) = !l.all okc
  | [], k => rfl
  | c :: l, k => by
    rw [badI, List.all_cons]
    by_cases h : okc c = true
    · rw [if_pos h, badI_all l, h, Bool.true_and]
    · rw [if_neg h]; simp [h]
theorem indexBE (l : List UInt8) (hl : l.length ≤ 1048576) (st : Bool) : EvV CX 53 [.tsl st 1 (bytesR l), .fn 46 []] (· = .int .i64 (badI l 0)) := by
  have hv : SLs 1 (bytesR l) (.tsl st 1 (bytesR l)) := .rows st
  have b1 : CX.byRef 46 = false := br46
  refine EvV.walk rfl fn53 rfl nt53 rfl ?_
  simp only [List.length_cons, List.length_nil, List.cons_append, List.nil_append, Nat.reduceAdd, Nat.reduceSub, List.replicate]
  repeat' (first | refine go1 ?_ | refine blockK_else rfl ?_ | (refine wpC_cond fun A B hA hB => ?_; simp only [go_sem, reduceIte, Nat.reduceAdd, Nat.reduceEqDiff, Nat.reduceLT, Nat.reduceLeDiff, *, and_self, lenK_sls hv]; first | (refine hA.out ?_; clear hA hB A B) | (refine hB.out ?_; clear hA hB A B) | (refine iteI (fun h => hA.out ?_) (fun h => hB.out ?_) <;> clear hA hB A B) | (refine iteI (fun h => hB.out ?_) (fun h => hA.out ?_) <;> clear hA hB A B)) | (refine wpO_cons fun K hK => ?_; simp only [go_sem, reduceIte, Nat.reduceAdd, Nat.reduceEqDiff, Nat.reduceLT, Nat.reduceLeDiff, *, and_self, lenK_sls hv]; first | (refine hK.out _ _ ?_; clear hK K) | (refine iteI (fun h => hK.out _ _ ?_) (fun h => hK.out _ _ ?_) <;> clear hK K)))
  refine wpC_each [4, 5, 9, 10, 11, 12, 13, 14, 15, 16, 17, 18] 8 l (fun pre post => badI l 0 = badI post pre.length) ?_ ?_ ?_ ?_
  · rfl
  · rfl
  · intro g G h2
    rw [h2]; simp only [garbA_cons, garbA_nil, setL_cons, setL_nil, List.set_cons_zero, List.set_cons_succ]
    repeat' (first | refine go1 ?_ | refine blockK_else rfl ?_ | (refine wpC_cond fun A B hA hB => ?_; simp only [go_sem, reduceIte, Nat.reduceAdd, Nat.reduceEqDiff, Nat.reduceLT, Nat.reduceLeDiff, *, and_self, bytesR_len, ints_len, List.length_map, Int.lt_irrefl, List.nil_append]; first | (refine hA.out ?_; clear hA hB A B) | (refine hB.out ?_; clear hA hB A B) | (refine iteI (fun h => hA.out ?_) (fun h => hB.out ?_) <;> clear hA hB A B) | (refine iteI (fun h => hB.out ?_) (fun h => hA.out ?_) <;> clear hA hB A B)) | (refine wpO_cons fun K hK => ?_; simp only [go_sem, reduceIte, Nat.reduceAdd, Nat.reduceEqDiff, Nat.reduceLT, Nat.reduceLeDiff, *, and_self, bytesR_len, ints_len, List.length_map, Int.lt_irrefl, List.nil_append]; first | (refine hK.out _ _ ?_; clear hK K) | (refine iteI (fun h => hK.out _ _ ?_) (fun h => hK.out _ _ ?_) <;> clear hK K)))
    simp only [resultsR, resultsL, resultA, expK_int, expK_bool, expK_str, expK_agg, expK_own, expK_tsl, resK_some, go_sem, reduceIte, Nat.reduceAdd, Nat.reduceEqDiff, Nat.reduceLT, Nat.reduceLeDiff, and_self, ]
    rfl
  · intro g G pre x post h1 h2
    rw [h2]
    have i1 := idx_sls hv (X := CX) ty60 ty5 rfl (n := pre.length) (row := [.int .u8 (x.toNat : Int)]) (by rw [h1]; simp [bytesR]) (k := .i64)
    have w1 := wrap_succ (n := pre.length) (by rw [h1] at hl; simp at hl; omega)
    have lt1 : (pre.length : Int) < (l.length : Int) := by rw [h1]; simp; omega
    have q := (label1E x).rw
    have hh1 : Hold (l = pre ++ x :: post) := ⟨h1⟩
    clear h1 h2
    simp only [garbA_cons, garbA_nil, setL_cons, setL_nil, List.set_cons_zero, List.set_cons_succ]
    by_cases hx : okc x = true
    · rw [hx] at q
      have hh : Hold (okc x = true) := ⟨hx⟩
      clear hx
      repeat' (first | refine go1 ?_ | refine blockK_else rfl ?_ | (refine wpC_cond fun A B hA hB => ?_; simp only [go_sem, reduceIte, Nat.reduceAdd, Nat.reduceEqDiff, Nat.reduceLT, Nat.reduceLeDiff, *, and_self, i1, w1, q, b1, bytesR_len]; first | (refine hA.out ?_; clear hA hB A B) | (refine hB.out ?_; clear hA hB A B) | (refine iteI (fun h => hA.out ?_) (fun h => hB.out ?_) <;> clear hA hB A B) | (refine iteI (fun h => hB.out ?_) (fun h => hA.out ?_) <;> clear hA hB A B)) | (refine wpO_cons fun K hK => ?_; simp only [go_sem, reduceIte, Nat.reduceAdd, Nat.reduceEqDiff, Nat.reduceLT, Nat.reduceLeDiff, *, and_self, i1, w1, q, b1, bytesR_len]; first | (refine hK.out _ _ ?_; clear hK K) | (refine iteI (fun h => hK.out _ _ ?_) (fun h => hK.out _ _ ?_) <;> clear hK K)))
      refine each_next hh1.out ?_ ?_ ?_
      · rw [badI, if_pos hh.out, len_snoc]
      · ((try simp only [eraseA_cons, eraseA_nil, setL_cons, setL_nil, List.set_cons_zero, List.set_cons_succ]); all_goals (first | rfl | (simp only [len_snoc, ints_len, List.length_map, bytesR_len]; done) | (simp only [len_snoc, len_mid, ints_len, List.length_map, List.length_append, List.length_cons, List.length_nil, Nat.zero_add, bytesR_len]; done) | (simp only [len_mid, len_snoc, ints_len, List.length_map, List.length_append, List.length_cons, List.length_nil, Nat.zero_add, bytesR_len]; rfl)))
      · first | exact ⟨[], (List.append_nil _).symm⟩ | exact ⟨_, rfl⟩ | (simp only [List.append_assoc, List.cons_append, List.nil_append]; exact ⟨_, rfl⟩)
    · have hx' : okc x = false := by simpa using hx
      rw [hx'] at q
      have hh : Hold (¬ okc x = true) := ⟨hx⟩
      clear hx hx'
      repeat' (first | refine go1 ?_ | refine blockK_else rfl ?_ | (refine wpC_cond fun A B hA hB => ?_; simp only [go_sem, reduceIte, Nat.reduceAdd, Nat.reduceEqDiff, Nat.reduceLT, Nat.reduceLeDiff, *, and_self, i1, w1, q, b1, bytesR_len]; first | (refine hA.out ?_; clear hA hB A B) | (refine hB.out ?_; clear hA hB A B) | (refine iteI (fun h => hA.out ?_) (fun h => hB.out ?_) <;> clear hA hB A B) | (refine iteI (fun h => hB.out ?_) (fun h => hA.out ?_) <;> clear hA hB A B)) | (refine wpO_cons fun K hK => ?_; simp only [go_sem, reduceIte, Nat.reduceAdd, Nat.reduceEqDiff, Nat.reduceLT, Nat.reduceLeDiff, *, and_self, i1, w1, q, b1, bytesR_len]; first | (refine hK.out _ _ ?_; clear hK K) | (refine iteI (fun h => hK.out _ _ ?_) (fun h => hK.out _ _ ?_) <;> clear hK K)))
      simp only [resultsR, resultsL, resultA, expK_int, expK_bool, expK_str, expK_agg, expK_own, expK_tsl, resK_some, go_sem, reduceIte, Nat.reduceAdd, Nat.reduceEqDiff, Nat.reduceLT, Nat.reduceLeDiff, and_self, ]
      rw [badI, if_neg hh.out]
theorem containsBE (l : List UInt8) (hl : l.length ≤ 1048576) (st : Bool) : EvV CX 45 [.tsl st 1 (bytesR l), .fn 46 []] (· = .bool (!l.all okc)) := by
  have q := (indexBE l hl st).rw
  have s1 : ∀ S, snap S (.tsl st 1 (bytesR l)) = some (.tsl st 1 (bytesR l)) := fun S => by simp only [snap]
  have e := badI_all l 0
  refine EvV.walk rfl fn45 rfl nt45 rfl ?_
  simp only [List.length_cons, List.length_nil, List.cons_append, List.nil_append, Nat.reduceAdd, Nat.reduceSub, List.replicate]
  repeat' (first | refine go1 ?_ | refine blockK_else rfl ?_ | (refine wpC_cond fun A B hA hB => ?_; simp only [go_sem, reduceIte, Nat.reduceAdd, Nat.reduceEqDiff, Nat.reduceLT, Nat.reduceLeDiff, *, and_self, s1, q, e]; first | (refine hA.out ?_; clear hA hB A B) | (refine hB.out ?_; clear hA hB A B) | (refine iteI (fun h => hA.out ?_) (fun h => hB.out ?_) <;> clear hA hB A B) | (refine iteI (fun h => hB.out ?_) (fun h => hA.out ?_) <;> clear hA hB A B)) | (refine wpO_cons fun K hK => ?_; simp only [go_sem, reduceIte, Nat.reduceAdd, Nat.reduceEqDiff, Nat.reduceLT, Nat.reduceLeDiff, *, and_self, s1, q, e]; first | (refine hK.out _ _ ?_; clear hK K) | (refine iteI (fun h => hK.out _ _ ?_) (fun h => hK.out _ _ ?_) <;> clear hK K)))
  simp only [resultsR, resultsL, resultA, expK_int, expK_bool, expK_str, expK_agg, expK_own, expK_tsl, resK_some, go_sem, reduceIte, Nat.reduceAdd, Nat.reduceEqDiff, Nat.reduceLT, Nat.reduceLeDiff, and_self, e]

theorem labelM (s : ByteArray) (hs : s.size ≤ 1048576) : EvV CX 32 [.str s] (· = .bool (labU s.data.toList)) := by
  have q := (pointsE s (by omega)).rw
  obtain ⟨l, hl⟩ : ∃ l, s.data.toList = l := ⟨_, rfl⟩
  have hlen := str_len hl
  have h0 : (s.toList == (⟨#[]⟩ : ByteArray).toList) = decide (l.length = 0) := by
    rw [toList_data, toList_data, hl]
    cases l <;> simp
  have hsz : (s.size : Int) = (l.length : Int) := by rw [hlen]
  have qc := fun st => (containsBE l (by omega) st).rw
  have s1 : ∀ st S, snap S (.tsl st 1 (bytesR l)) = some (.tsl st 1 (bytesR l)) := fun st S => by simp only [snap]
  have hsz2 : s.size ≤ 140737488355328 := by omega
  rw [hl] at q ⊢
  have hh : Hold (s.data.toList = l) := ⟨hl⟩
  clear hl hlen
  by_cases k0 : l.length = 0
  · have e0 : decide (l.length = 0) = true := by simp [k0]
    have hE : labU l = false := by simp [labU, k0]
    rw [e0] at h0
    rw [hE]
    clear hE e0 k0
    refine EvV.walk rfl fn32 rfl nt32 rfl ?_
    simp only [List.length_cons, List.length_nil, List.cons_append, List.nil_append, Nat.reduceAdd, Nat.reduceSub, List.replicate]
    repeat' (first | refine go1 ?_ | refine blockK_else rfl ?_ | (refine wpC_cond fun A B hA hB => ?_; simp only [go_sem, reduceIte, Nat.reduceAdd, Nat.reduceEqDiff, Nat.reduceLT, Nat.reduceLeDiff, *, and_self, evalA_str, strBin, h0]; first | (refine hA.out ?_; clear hA hB A B) | (refine hB.out ?_; clear hA hB A B) | (refine iteI (fun h => hA.out ?_) (fun h => hB.out ?_) <;> clear hA hB A B) | (refine iteI (fun h => hB.out ?_) (fun h => hA.out ?_) <;> clear hA hB A B)) | (refine wpO_cons fun K hK => ?_; simp only [go_sem, reduceIte, Nat.reduceAdd, Nat.reduceEqDiff, Nat.reduceLT, Nat.reduceLeDiff, *, and_self, evalA_str, strBin, h0]; first | (refine hK.out _ _ ?_; clear hK K) | (refine iteI (fun h => hK.out _ _ ?_) (fun h => hK.out _ _ ?_) <;> clear hK K)))
    simp only [resultsR, resultsL, resultA, expK_int, expK_bool, expK_str, expK_agg, expK_own, expK_tsl, resK_some, go_sem, reduceIte, Nat.reduceAdd, Nat.reduceEqDiff, Nat.reduceLT, Nat.reduceLeDiff, and_self, ]
  have e0 : decide (l.length = 0) = false := by simp [k0]
  rw [e0] at h0
  clear e0
  by_cases k1 : l.length ≤ 32
  · have n1 : ¬ (32 : Int) < (l.length : Int) := by omega
    have k2 : (decide (1 ≤ l.length) && decide (l.length ≤ 32)) = true := by simp; omega
    have hl := hh.out
    by_cases k3 : l.all okc = true
    · rw [k3] at qc
      have hE : labU l = (pts l).isSome := by rw [labU, k2, k3, Bool.and_true, Bool.true_and]
      rw [hE]
      cases hp : pts l with
      | none =>
        rw [hp] at q
        clear hE k2 k3 k1 k0 hp
        simp only [ptsP] at q
        refine EvV.walk rfl fn32 rfl nt32 rfl ?_
        simp only [List.length_cons, List.length_nil, List.cons_append, List.nil_append, Nat.reduceAdd, Nat.reduceSub, List.replicate]
        repeat' (first | refine go1 ?_ | refine blockK_else rfl ?_ | (refine wpC_cond fun A B hA hB => ?_; simp only [go_sem, reduceIte, Nat.reduceAdd, Nat.reduceEqDiff, Nat.reduceLT, Nat.reduceLeDiff, *, and_self, evalA_str, strBin, h0, lenK_str, hsz, wpK_sb ty9 ty60 ty5 rfl rfl rfl, sbK_str hsz2, hl, s1, qc, q, adL1, adL2]; first | (refine hA.out ?_; clear hA hB A B) | (refine hB.out ?_; clear hA hB A B) | (refine iteI (fun h => hA.out ?_) (fun h => hB.out ?_) <;> clear hA hB A B) | (refine iteI (fun h => hB.out ?_) (fun h => hA.out ?_) <;> clear hA hB A B)) | (refine wpO_cons fun K hK => ?_; simp only [go_sem, reduceIte, Nat.reduceAdd, Nat.reduceEqDiff, Nat.reduceLT, Nat.reduceLeDiff, *, and_self, evalA_str, strBin, h0, lenK_str, hsz, wpK_sb ty9 ty60 ty5 rfl rfl rfl, sbK_str hsz2, hl, s1, qc, q, adL1, adL2]; first | (refine hK.out _ _ ?_; clear hK K) | (refine iteI (fun h => hK.out _ _ ?_) (fun h => hK.out _ _ ?_) <;> clear hK K)))
        simp only [resultsR, resultsL, resultA, expK_int, expK_bool, expK_str, expK_agg, expK_own, expK_tsl, resK_some, go_sem, reduceIte, Nat.reduceAdd, Nat.reduceEqDiff, Nat.reduceLT, Nat.reduceLeDiff, and_self, ]
        rfl
      | some m =>
        rw [hp] at q
        clear hE k2 k3 k1 k0 hp
        simp only [ptsP] at q
        by_cases hm : m.length = 0
        · rw [if_pos hm] at q
          clear hm
          refine EvV.walk rfl fn32 rfl nt32 rfl ?_
          simp only [List.length_cons, List.length_nil, List.cons_append, List.nil_append, Nat.reduceAdd, Nat.reduceSub, List.replicate]
          repeat' (first | refine go1 ?_ | refine blockK_else rfl ?_ | (refine wpC_cond fun A B hA hB => ?_; simp only [go_sem, reduceIte, Nat.reduceAdd, Nat.reduceEqDiff, Nat.reduceLT, Nat.reduceLeDiff, *, and_self, evalA_str, strBin, h0, lenK_str, hsz, wpK_sb ty9 ty60 ty5 rfl rfl rfl, sbK_str hsz2, hl, s1, qc, q, adL1, adL2]; first | (refine hA.out ?_; clear hA hB A B) | (refine hB.out ?_; clear hA hB A B) | (refine iteI (fun h => hA.out ?_) (fun h => hB.out ?_) <;> clear hA hB A B) | (refine iteI (fun h => hB.out ?_) (fun h => hA.out ?_) <;> clear hA hB A B)) | (refine wpO_cons fun K hK => ?_; simp only [go_sem, reduceIte, Nat.reduceAdd, Nat.reduceEqDiff, Nat.reduceLT, Nat.reduceLeDiff, *, and_self, evalA_str, strBin, h0, lenK_str, hsz, wpK_sb ty9 ty60 ty5 rfl rfl rfl, sbK_str hsz2, hl, s1, qc, q, adL1, adL2]; first | (refine hK.out _ _ ?_; clear hK K) | (refine iteI (fun h => hK.out _ _ ?_) (fun h => hK.out _ _ ?_) <;> clear hK K)))
          simp only [resultsR, resultsL, resultA, expK_int, expK_bool, expK_str, expK_agg, expK_own, expK_tsl, resK_some, go_sem, reduceIte, Nat.reduceAdd, Nat.reduceEqDiff, Nat.reduceLT, Nat.reduceLeDiff, and_self, ]
          rfl
        · rw [if_neg hm] at q
          clear hm
          refine EvV.walk rfl fn32 rfl nt32 rfl ?_
          simp only [List.length_cons, List.length_nil, List.cons_append, List.nil_append, Nat.reduceAdd, Nat.reduceSub, List.replicate]
          repeat' (first | refine go1 ?_ | refine blockK_else rfl ?_ | (refine wpC_cond fun A B hA hB => ?_; simp only [go_sem, reduceIte, Nat.reduceAdd, Nat.reduceEqDiff, Nat.reduceLT, Nat.reduceLeDiff, *, and_self, evalA_str, strBin, h0, lenK_str, hsz, wpK_sb ty9 ty60 ty5 rfl rfl rfl, sbK_str hsz2, hl, s1, qc, q, adL1, adL2]; first | (refine hA.out ?_; clear hA hB A B) | (refine hB.out ?_; clear hA hB A B) | (refine iteI (fun h => hA.out ?_) (fun h => hB.out ?_) <;> clear hA hB A B) | (refine iteI (fun h => hB.out ?_) (fun h => hA.out ?_) <;> clear hA hB A B)) | (refine wpO_cons fun K hK => ?_; simp only [go_sem, reduceIte, Nat.reduceAdd, Nat.reduceEqDiff, Nat.reduceLT, Nat.reduceLeDiff, *, and_self, evalA_str, strBin, h0, lenK_str, hsz, wpK_sb ty9 ty60 ty5 rfl rfl rfl, sbK_str hsz2, hl, s1, qc, q, adL1, adL2]; first | (refine hK.out _ _ ?_; clear hK K) | (refine iteI (fun h => hK.out _ _ ?_) (fun h => hK.out _ _ ?_) <;> clear hK K)))
          simp only [resultsR, resultsL, resultA, expK_int, expK_bool, expK_str, expK_agg, expK_own, expK_tsl, resK_some, go_sem, reduceIte, Nat.reduceAdd, Nat.reduceEqDiff, Nat.reduceLT, Nat.reduceLeDiff, and_self, ]
          rfl
    · have k3' : l.all okc = false := by simpa using k3
      rw [k3'] at qc
      have hE : labU l = false := by rw [labU, k3', Bool.false_and]
      rw [hE]
      clear hE k2 k3 k3' k1 k0
      refine EvV.walk rfl fn32 rfl nt32 rfl ?_
      simp only [List.length_cons, List.length_nil, List.cons_append, List.nil_append, Nat.reduceAdd, Nat.reduceSub, List.replicate]
      repeat' (first | refine go1 ?_ | refine blockK_else rfl ?_ | (refine wpC_cond fun A B hA hB => ?_; simp only [go_sem, reduceIte, Nat.reduceAdd, Nat.reduceEqDiff, Nat.reduceLT, Nat.reduceLeDiff, *, and_self, evalA_str, strBin, h0, lenK_str, hsz, wpK_sb ty9 ty60 ty5 rfl rfl rfl, sbK_str hsz2, hl, s1, qc, q, adL1, adL2]; first | (refine hA.out ?_; clear hA hB A B) | (refine hB.out ?_; clear hA hB A B) | (refine iteI (fun h => hA.out ?_) (fun h => hB.out ?_) <;> clear hA hB A B) | (refine iteI (fun h => hB.out ?_) (fun h => hA.out ?_) <;> clear hA hB A B)) | (refine wpO_cons fun K hK => ?_; simp only [go_sem, reduceIte, Nat.reduceAdd, Nat.reduceEqDiff, Nat.reduceLT, Nat.reduceLeDiff, *, and_self, evalA_str, strBin, h0, lenK_str, hsz, wpK_sb ty9 ty60 ty5 rfl rfl rfl, sbK_str hsz2, hl, s1, qc, q, adL1, adL2]; first | (refine hK.out _ _ ?_; clear hK K) | (refine iteI (fun h => hK.out _ _ ?_) (fun h => hK.out _ _ ?_) <;> clear hK K)))
      simp only [resultsR, resultsL, resultA, expK_int, expK_bool, expK_str, expK_agg, expK_own, expK_tsl, resK_some, go_sem, reduceIte, Nat.reduceAdd, Nat.reduceEqDiff, Nat.reduceLT, Nat.reduceLeDiff, and_self, ]
  · have n1 : (32 : Int) < (l.length : Int) := by omega
    have hE : labU l = false := by
      have : decide (l.length ≤ 32) = false := by simp [k1]
      rw [labU, this, Bool.and_false, Bool.and_false, Bool.and_false]
    rw [hE]
    clear hE k1 k0
    refine EvV.walk rfl fn32 rfl nt32 rfl ?_
    simp only [List.length_cons, List.length_nil, List.cons_append, List.nil_append, Nat.reduceAdd, Nat.reduceSub, List.replicate]
    repeat' (first | refine go1 ?_ | refine blockK_else rfl ?_ | (refine wpC_cond fun A B hA hB => ?_; simp only [go_sem, reduceIte, Nat.reduceAdd, Nat.reduceEqDiff, Nat.reduceLT, Nat.reduceLeDiff, *, and_self, evalA_str, strBin, h0, lenK_str, hsz]; first | (refine hA.out ?_; clear hA hB A B) | (refine hB.out ?_; clear hA hB A B) | (refine iteI (fun h => hA.out ?_) (fun h => hB.out ?_) <;> clear hA hB A B) | (refine iteI (fun h => hB.out ?_) (fun h => hA.out ?_) <;> clear hA hB A B)) | (refine wpO_cons fun K hK => ?_; simp only [go_sem, reduceIte, Nat.reduceAdd, Nat.reduceEqDiff, Nat.reduceLT, Nat.reduceLeDiff, *, and_self, evalA_str, strBin, h0, lenK_str, hsz]; first | (refine hK.out _ _ ?_; clear hK K) | (refine iteI (fun h => hK.out _ _ ?_) (fun h => hK.out _ _ ?_) <;> clear hK K)))
    simp only [resultsR, resultsL, resultA, expK_int, expK_bool, expK_str, expK_agg, expK_own, expK_tsl, resK_some, go_sem, reduceIte, Nat.reduceAdd, Nat.reduceEqDiff, Nat.reduceLT, Nat.reduceLeDiff, and_self, ]

/- Segments: an inventory as a tree; Find, as the program and the reference do it. -/
open Go.Proofs
attribute [local go_sem] ty46 ty22 ty54 ty24 br39 br40 fz61
set_option maxHeartbeats 4000000

structure Sg where
  name : ByteArray
  feat : Int
def encS (x : Sg) : List AV := [.str x.name, .int .i64 x.feat]

theorem bL_eq (a b : ByteArray) : (a.toList == b.toList) = decide (a = b) := by
  rw [toList_data, toList_data]
  by_cases h : a = b
  · rw [h]; simp
  · have : ¬ a.data.toList = b.data.toList := fun e => h (by
      have e2 : a.data = b.data := Array.toList_inj.1 e
      cases a; cases b; simp only at e2; rw [e2])
    rw [show decide (a = b) = false by simp [h]]; exact beq_false_of_ne this

theorem find1S (x : Sg) (n : ByteArray) (st : Bool) : EvV CX 40 [.agg (encS x), .tptr st [.str n] 0] (· = .bool (decide (x.name = n))) := by
  have hb := bL_eq x.name n
  refine EvV.walk rfl fn40 rfl nt40 rfl ?_
  simp only [List.length_cons, List.length_nil, List.cons_append, List.nil_append, Nat.reduceAdd, Nat.reduceSub, List.replicate]
  repeat' (first | refine go1 ?_ | refine blockK_else rfl ?_ | (refine wpC_cond fun A B hA hB => ?_; simp only [go_sem, reduceIte, Nat.reduceAdd, Nat.reduceEqDiff, Nat.reduceLT, Nat.reduceLeDiff, *, and_self, encS, strBin, hb]; first | (refine hA.out ?_; clear hA hB A B) | (refine hB.out ?_; clear hA hB A B) | (refine iteI (fun h => hA.out ?_) (fun h => hB.out ?_) <;> clear hA hB A B) | (refine iteI (fun h => hB.out ?_) (fun h => hA.out ?_) <;> clear hA hB A B)) | (refine wpO_cons fun K hK => ?_; simp only [go_sem, reduceIte, Nat.reduceAdd, Nat.reduceEqDiff, Nat.reduceLT, Nat.reduceLeDiff, *, and_self, encS, strBin, hb]; first | (refine hK.out _ _ ?_; clear hK K) | (refine iteI (fun h => hK.out _ _ ?_) (fun h => hK.out _ _ ?_) <;> clear hK K)))
  simp only [resultsR, resultsL, resultA, expK_int, expK_bool, expK_str, expK_agg, expK_own, expK_tsl, resK_some, go_sem, reduceIte, Nat.reduceAdd, Nat.reduceEqDiff, Nat.reduceLT, Nat.reduceLeDiff, and_self, ]

/-- The place of the first segment with a name, from 1; 0 if there is none. -/
def sF : List Sg → ByteArray → Nat → Int
  | [], _, _ => 0
  | x :: l, n, k => if x.name = n then (k : Int) + 1 else sF l n (k + 1)
theorem sF_ge : ∀ (l : List Sg) (n : ByteArray) (k : Nat), 0 ≤ sF l n k ∧ sF l n k ≤ (k : Int) + l.length
  | [], n, k => by constructor <;> simp [sF]
  | x :: l, n, k => by
    rw [sF]
    have := sF_ge l n (k + 1)
    split
    · simp; omega
    · simp; omega

theorem indexSE (v : AV) (ss : List Sg) (n : ByteArray) (st : Bool) (hv : SLs 2 (ss.map encS) v) (hl : ss.length < 9223372036854775807) : EvV CX 39 [v, .fn 40 [.tptr st [.str n] 0]] (· = .int .i64 (sF ss n 0 - 1)) := by
  have hs : ∀ S, snap S (.tptr st [.str n] 0) = some (.tptr st [.str n] 0) := fun S => by simp only [snap]
  have b1 : CX.byRef 40 = false := br40
  refine EvV.walk rfl fn39 rfl nt39 rfl ?_
  simp only [List.length_cons, List.length_nil, List.cons_append, List.nil_append, Nat.reduceAdd, Nat.reduceSub, List.replicate]
  repeat' (first | refine go1 ?_ | refine blockK_else rfl ?_ | (refine wpC_cond fun A B hA hB => ?_; simp only [go_sem, reduceIte, Nat.reduceAdd, Nat.reduceEqDiff, Nat.reduceLT, Nat.reduceLeDiff, *, and_self, lenK_sls hv]; first | (refine hA.out ?_; clear hA hB A B) | (refine hB.out ?_; clear hA hB A B) | (refine iteI (fun h => hA.out ?_) (fun h => hB.out ?_) <;> clear hA hB A B) | (refine iteI (fun h => hB.out ?_) (fun h => hA.out ?_) <;> clear hA hB A B)) | (refine wpO_cons fun K hK => ?_; simp only [go_sem, reduceIte, Nat.reduceAdd, Nat.reduceEqDiff, Nat.reduceLT, Nat.reduceLeDiff, *, and_self, lenK_sls hv]; first | (refine hK.out _ _ ?_; clear hK K) | (refine iteI (fun h => hK.out _ _ ?_) (fun h => hK.out _ _ ?_) <;> clear hK K)))
  refine wpC_each [4, 5, 9, 10, 11, 12, 13, 14, 15, 16, 17, 18] 8 ss (fun pre post => sF ss n 0 = sF post n pre.length) ?_ ?_ ?_ ?_
  · rfl
  · rfl
  · intro g G h2
    rw [h2]; simp only [garbA_cons, garbA_nil, setL_cons, setL_nil, List.set_cons_zero, List.set_cons_succ]
    repeat' (first | refine go1 ?_ | refine blockK_else rfl ?_ | (refine wpC_cond fun A B hA hB => ?_; simp only [go_sem, reduceIte, Nat.reduceAdd, Nat.reduceEqDiff, Nat.reduceLT, Nat.reduceLeDiff, *, and_self, ints_len, List.length_map, Int.lt_irrefl, List.nil_append]; first | (refine hA.out ?_; clear hA hB A B) | (refine hB.out ?_; clear hA hB A B) | (refine iteI (fun h => hA.out ?_) (fun h => hB.out ?_) <;> clear hA hB A B) | (refine iteI (fun h => hB.out ?_) (fun h => hA.out ?_) <;> clear hA hB A B)) | (refine wpO_cons fun K hK => ?_; simp only [go_sem, reduceIte, Nat.reduceAdd, Nat.reduceEqDiff, Nat.reduceLT, Nat.reduceLeDiff, *, and_self, ints_len, List.length_map, Int.lt_irrefl, List.nil_append]; first | (refine hK.out _ _ ?_; clear hK K) | (refine iteI (fun h => hK.out _ _ ?_) (fun h => hK.out _ _ ?_) <;> clear hK K)))
    simp only [resultsR, resultsL, resultA, expK_int, expK_bool, expK_str, expK_agg, expK_own, expK_tsl, resK_some, go_sem, reduceIte, Nat.reduceAdd, Nat.reduceEqDiff, Nat.reduceLT, Nat.reduceLeDiff, and_self, ]
    rfl
  · intro g G pre x post h1 h2
    rw [h2]; subst h1; simp only [garbA_cons, garbA_nil, setL_cons, setL_nil, List.set_cons_zero, List.set_cons_succ]
    have i1 := idx_sls hv (X := CX) ty22 ty46 rfl (map_mid encS pre x post) (k := .i64)
    have w1 := wrap_succ (n := pre.length) (by simp at hl; omega)
    have q := (find1S x n st).rw
    simp only [encS] at q
    by_cases hx : x.name = n
    · have hx' : decide (x.name = n) = true := by simpa using hx
      rw [hx'] at q
      have hh : Hold (x.name = n) := ⟨hx⟩
      clear hx hx'
      repeat' (first | refine go1 ?_ | refine blockK_else rfl ?_ | (refine wpC_cond fun A B hA hB => ?_; simp only [go_sem, reduceIte, Nat.reduceAdd, Nat.reduceEqDiff, Nat.reduceLT, Nat.reduceLeDiff, *, and_self, getElem?_len, getElem?_lenAdd, set_len, set_lenAdd, len_mid, ints_len, List.length_map, lt_mid, List.nil_append, i1, w1, encS, snap_str, hs, q, b1]; first | (refine hA.out ?_; clear hA hB A B) | (refine hB.out ?_; clear hA hB A B) | (refine iteI (fun h => hA.out ?_) (fun h => hB.out ?_) <;> clear hA hB A B) | (refine iteI (fun h => hB.out ?_) (fun h => hA.out ?_) <;> clear hA hB A B)) | (refine wpO_cons fun K hK => ?_; simp only [go_sem, reduceIte, Nat.reduceAdd, Nat.reduceEqDiff, Nat.reduceLT, Nat.reduceLeDiff, *, and_self, getElem?_len, getElem?_lenAdd, set_len, set_lenAdd, len_mid, ints_len, List.length_map, lt_mid, List.nil_append, i1, w1, encS, snap_str, hs, q, b1]; first | (refine hK.out _ _ ?_; clear hK K) | (refine iteI (fun h => hK.out _ _ ?_) (fun h => hK.out _ _ ?_) <;> clear hK K)))
      simp only [resultsR, resultsL, resultA, expK_int, expK_bool, expK_str, expK_agg, expK_own, expK_tsl, resK_some, go_sem, reduceIte, Nat.reduceAdd, Nat.reduceEqDiff, Nat.reduceLT, Nat.reduceLeDiff, and_self, ]
      rw [sF, if_pos hh.out]; congr 1; omega
    · have hx' : decide (x.name = n) = false := by simpa using hx
      rw [hx'] at q
      have hh : Hold (¬ x.name = n) := ⟨hx⟩
      clear hx hx'
      repeat' (first | refine go1 ?_ | refine blockK_else rfl ?_ | (refine wpC_cond fun A B hA hB => ?_; simp only [go_sem, reduceIte, Nat.reduceAdd, Nat.reduceEqDiff, Nat.reduceLT, Nat.reduceLeDiff, *, and_self, getElem?_len, getElem?_lenAdd, set_len, set_lenAdd, len_mid, ints_len, List.length_map, lt_mid, List.nil_append, i1, w1, encS, snap_str, hs, q, b1]; first | (refine hA.out ?_; clear hA hB A B) | (refine hB.out ?_; clear hA hB A B) | (refine iteI (fun h => hA.out ?_) (fun h => hB.out ?_) <;> clear hA hB A B) | (refine iteI (fun h => hB.out ?_) (fun h => hA.out ?_) <;> clear hA hB A B)) | (refine wpO_cons fun K hK => ?_; simp only [go_sem, reduceIte, Nat.reduceAdd, Nat.reduceEqDiff, Nat.reduceLT, Nat.reduceLeDiff, *, and_self, getElem?_len, getElem?_lenAdd, set_len, set_lenAdd, len_mid, ints_len, List.length_map, lt_mid, List.nil_append, i1, w1, encS, snap_str, hs, q, b1]; first | (refine hK.out _ _ ?_; clear hK K) | (refine iteI (fun h => hK.out _ _ ?_) (fun h => hK.out _ _ ?_) <;> clear hK K)))
      refine each_next rfl ?_ ?_ ?_
      · rw [sF, if_neg hh.out, len_snoc]
      · ((try simp only [eraseA_cons, eraseA_nil, setL_cons, setL_nil, List.set_cons_zero, List.set_cons_succ]); all_goals (first | rfl | (simp only [len_snoc, ints_len, List.length_map, ]; done) | (simp only [len_snoc, len_mid, ints_len, List.length_map, List.length_append, List.length_cons, List.length_nil, Nat.zero_add, ]; done) | (simp only [len_mid, len_snoc, ints_len, List.length_map, List.length_append, List.length_cons, List.length_nil, Nat.zero_add, ]; rfl)))
      · first | exact ⟨[], (List.append_nil _).symm⟩ | exact ⟨_, rfl⟩ | (simp only [List.append_assoc, List.cons_append, List.nil_append]; exact ⟨_, rfl⟩)

theorem cells_strS {s : ByteArray} : (AV.str s).cells = [.str s] := rfl
theorem findM (v : AV) (ss : List Sg) (n : ByteArray) (hv : SLs 2 (ss.map encS) v) (hl : ss.length < 9223372036854775807) : EvV CX 23 [.agg [v], .str n] (· = .int .i64 (sF ss n 0)) := by
  have q := (indexSE v ss n false hv hl).rw
  have c1 := hv.cell
  have s1 := hv.snap
  have hs : ∀ (B : Blk) (C : Store), snap (B :: .arr [[.str n]] 1 0 true :: C) (.ptr 1 1 1 0 0) = some (.tptr false [.str n] 0) := fun B C => by
    simp [snap, rowOf, cleanL, AV.clean]
  obtain ⟨h1, h2⟩ := sF_ge ss n 0
  have w := wrap_small (n := sF ss n 0) (by omega) (by omega)
  have e : sF ss n 0 - 1 + 1 = sF ss n 0 := by omega
  generalize sF ss n 0 = m at *
  clear h1 h2
  refine EvV.walk rfl fn23 rfl nt23 rfl ?_
  simp only [List.length_cons, List.length_nil, List.cons_append, List.nil_append, Nat.reduceAdd, Nat.reduceSub, List.replicate]
  repeat' (first | refine go1 ?_ | refine blockK_else rfl ?_ | (refine wpC_cond fun A B hA hB => ?_; simp only [go_sem, reduceIte, Nat.reduceAdd, Nat.reduceEqDiff, Nat.reduceLT, Nat.reduceLeDiff, *, and_self, cells_strS, c1, s1, hs, q, e, w, List.getElem?_cons_succ]; first | (refine hA.out ?_; clear hA hB A B) | (refine hB.out ?_; clear hA hB A B) | (refine iteI (fun h => hA.out ?_) (fun h => hB.out ?_) <;> clear hA hB A B) | (refine iteI (fun h => hB.out ?_) (fun h => hA.out ?_) <;> clear hA hB A B)) | (refine wpO_cons fun K hK => ?_; simp only [go_sem, reduceIte, Nat.reduceAdd, Nat.reduceEqDiff, Nat.reduceLT, Nat.reduceLeDiff, *, and_self, cells_strS, c1, s1, hs, q, e, w, List.getElem?_cons_succ]; first | (refine hK.out _ _ ?_; clear hK K) | (refine iteI (fun h => hK.out _ _ ?_) (fun h => hK.out _ _ ?_) <;> clear hK K)))
  simp only [resultsR, resultsL, resultA, expK_int, expK_bool, expK_str, expK_agg, expK_own, expK_tsl, resK_some, go_sem, reduceIte, Nat.reduceAdd, Nat.reduceEqDiff, Nat.reduceLT, Nat.reduceLeDiff, and_self, ]

theorem findR (v : AV) (ss : List Sg) (n : ByteArray) (hv : SLs 2 (ss.map encS) v) (hl : ss.length < 9223372036854775807) : EvV CX 24 [.agg [v], .str n] (· = .int .i64 (sF ss n 0)) := by
  have c1 := hv.cell
  refine EvV.walk rfl fn24 rfl nt24 rfl ?_
  simp only [List.length_cons, List.length_nil, List.cons_append, List.nil_append, Nat.reduceAdd, Nat.reduceSub, List.replicate]
  repeat' (first | refine go1 ?_ | refine blockK_else rfl ?_ | (refine wpC_cond fun A B hA hB => ?_; simp only [go_sem, reduceIte, Nat.reduceAdd, Nat.reduceEqDiff, Nat.reduceLT, Nat.reduceLeDiff, *, and_self, lenK_sls hv, c1]; first | (refine hA.out ?_; clear hA hB A B) | (refine hB.out ?_; clear hA hB A B) | (refine iteI (fun h => hA.out ?_) (fun h => hB.out ?_) <;> clear hA hB A B) | (refine iteI (fun h => hB.out ?_) (fun h => hA.out ?_) <;> clear hA hB A B)) | (refine wpO_cons fun K hK => ?_; simp only [go_sem, reduceIte, Nat.reduceAdd, Nat.reduceEqDiff, Nat.reduceLT, Nat.reduceLeDiff, *, and_self, lenK_sls hv, c1]; first | (refine hK.out _ _ ?_; clear hK K) | (refine iteI (fun h => hK.out _ _ ?_) (fun h => hK.out _ _ ?_) <;> clear hK K)))
  refine wpC_each [4, 5, 10, 11, 12, 13, 14, 15, 16, 17, 18, 19, 20, 21, 22] 9 ss (fun pre post => sF ss n 0 = sF post n pre.length) ?_ ?_ ?_ ?_
  · rfl
  · rfl
  · intro g G h2
    rw [h2]; simp only [garbA_cons, garbA_nil, setL_cons, setL_nil, List.set_cons_zero, List.set_cons_succ]
    repeat' (first | refine go1 ?_ | refine blockK_else rfl ?_ | (refine wpC_cond fun A B hA hB => ?_; simp only [go_sem, reduceIte, Nat.reduceAdd, Nat.reduceEqDiff, Nat.reduceLT, Nat.reduceLeDiff, *, and_self, ints_len, List.length_map, Int.lt_irrefl, List.nil_append]; first | (refine hA.out ?_; clear hA hB A B) | (refine hB.out ?_; clear hA hB A B) | (refine iteI (fun h => hA.out ?_) (fun h => hB.out ?_) <;> clear hA hB A B) | (refine iteI (fun h => hB.out ?_) (fun h => hA.out ?_) <;> clear hA hB A B)) | (refine wpO_cons fun K hK => ?_; simp only [go_sem, reduceIte, Nat.reduceAdd, Nat.reduceEqDiff, Nat.reduceLT, Nat.reduceLeDiff, *, and_self, ints_len, List.length_map, Int.lt_irrefl, List.nil_append]; first | (refine hK.out _ _ ?_; clear hK K) | (refine iteI (fun h => hK.out _ _ ?_) (fun h => hK.out _ _ ?_) <;> clear hK K)))
    simp only [resultsR, resultsL, resultA, expK_int, expK_bool, expK_str, expK_agg, expK_own, expK_tsl, resK_some, go_sem, reduceIte, Nat.reduceAdd, Nat.reduceEqDiff, Nat.reduceLT, Nat.reduceLeDiff, and_self, ]
    rfl
  · intro g G pre x post h1 h2
    rw [h2]; subst h1; simp only [garbA_cons, garbA_nil, setL_cons, setL_nil, List.set_cons_zero, List.set_cons_succ]
    have i1 := idx_sls hv (X := CX) ty22 ty46 rfl (map_mid encS pre x post) (k := .i64)
    have w1 := wrap_succ (n := pre.length) (by simp at hl; omega)
    have hb := bL_eq x.name n
    by_cases hx : x.name = n
    · have hx' : decide (x.name = n) = true := by simpa using hx
      rw [hx'] at hb
      have hh : Hold (x.name = n) := ⟨hx⟩
      clear hx hx'
      repeat' (first | refine go1 ?_ | refine blockK_else rfl ?_ | (refine wpC_cond fun A B hA hB => ?_; simp only [go_sem, reduceIte, Nat.reduceAdd, Nat.reduceEqDiff, Nat.reduceLT, Nat.reduceLeDiff, *, and_self, getElem?_len, getElem?_lenAdd, set_len, set_lenAdd, len_mid, ints_len, List.length_map, lt_mid, List.nil_append, c1, i1, w1, encS, strBin, hb]; first | (refine hA.out ?_; clear hA hB A B) | (refine hB.out ?_; clear hA hB A B) | (refine iteI (fun h => hA.out ?_) (fun h => hB.out ?_) <;> clear hA hB A B) | (refine iteI (fun h => hB.out ?_) (fun h => hA.out ?_) <;> clear hA hB A B)) | (refine wpO_cons fun K hK => ?_; simp only [go_sem, reduceIte, Nat.reduceAdd, Nat.reduceEqDiff, Nat.reduceLT, Nat.reduceLeDiff, *, and_self, getElem?_len, getElem?_lenAdd, set_len, set_lenAdd, len_mid, ints_len, List.length_map, lt_mid, List.nil_append, c1, i1, w1, encS, strBin, hb]; first | (refine hK.out _ _ ?_; clear hK K) | (refine iteI (fun h => hK.out _ _ ?_) (fun h => hK.out _ _ ?_) <;> clear hK K)))
      simp only [resultsR, resultsL, resultA, expK_int, expK_bool, expK_str, expK_agg, expK_own, expK_tsl, resK_some, go_sem, reduceIte, Nat.reduceAdd, Nat.reduceEqDiff, Nat.reduceLT, Nat.reduceLeDiff, and_self, ]
      rw [sF, if_pos hh.out]; rfl
    · have hx' : decide (x.name = n) = false := by simpa using hx
      rw [hx'] at hb
      have hh : Hold (¬ x.name = n) := ⟨hx⟩
      clear hx hx'
      repeat' (first | refine go1 ?_ | refine blockK_else rfl ?_ | (refine wpC_cond fun A B hA hB => ?_; simp only [go_sem, reduceIte, Nat.reduceAdd, Nat.reduceEqDiff, Nat.reduceLT, Nat.reduceLeDiff, *, and_self, getElem?_len, getElem?_lenAdd, set_len, set_lenAdd, len_mid, ints_len, List.length_map, lt_mid, List.nil_append, c1, i1, w1, encS, strBin, hb]; first | (refine hA.out ?_; clear hA hB A B) | (refine hB.out ?_; clear hA hB A B) | (refine iteI (fun h => hA.out ?_) (fun h => hB.out ?_) <;> clear hA hB A B) | (refine iteI (fun h => hB.out ?_) (fun h => hA.out ?_) <;> clear hA hB A B)) | (refine wpO_cons fun K hK => ?_; simp only [go_sem, reduceIte, Nat.reduceAdd, Nat.reduceEqDiff, Nat.reduceLT, Nat.reduceLeDiff, *, and_self, getElem?_len, getElem?_lenAdd, set_len, set_lenAdd, len_mid, ints_len, List.length_map, lt_mid, List.nil_append, c1, i1, w1, encS, strBin, hb]; first | (refine hK.out _ _ ?_; clear hK K) | (refine iteI (fun h => hK.out _ _ ?_) (fun h => hK.out _ _ ?_) <;> clear hK K)))
      refine each_next rfl ?_ ?_ ?_
      · rw [sF, if_neg hh.out, len_snoc]
      · ((try simp only [eraseA_cons, eraseA_nil, setL_cons, setL_nil, List.set_cons_zero, List.set_cons_succ]); all_goals (first | rfl | (simp only [len_snoc, ints_len, List.length_map, ]; done) | (simp only [len_snoc, len_mid, ints_len, List.length_map, List.length_append, List.length_cons, List.length_nil, Nat.zero_add, ]; done) | (simp only [len_mid, len_snoc, ints_len, List.length_map, List.length_append, List.length_cons, List.length_nil, Nat.zero_add, ]; rfl)))
      · first | exact ⟨[], (List.append_nil _).symm⟩ | exact ⟨_, rfl⟩ | (simp only [List.append_assoc, List.cons_append, List.nil_append]; exact ⟨_, rfl⟩)

/-- A number of a segment. -/
def isS (ss : List Sg) (n : Int) : Bool := decide (1 ≤ n) && decide (n ≤ (ss.length : Int))
theorem segM (v : AV) (ss : List Sg) (n : Int) (hv : SLs 2 (ss.map encS) v) : EvV CX 34 [.agg [v], .int .i64 n] (· = .bool (isS ss n)) := by
  have c1 := hv.cell
  by_cases h : 1 ≤ n
  · have e : isS ss n = decide (n ≤ (ss.length : Int)) := by simp [isS, h]
    rw [e]
    clear e
    refine EvV.walk rfl fn34 rfl nt34 rfl ?_
    simp only [List.length_cons, List.length_nil, List.cons_append, List.nil_append, Nat.reduceAdd, Nat.reduceSub, List.replicate]
    repeat' (first | refine go1 ?_ | refine blockK_else rfl ?_ | (refine wpC_cond fun A B hA hB => ?_; simp only [go_sem, reduceIte, Nat.reduceAdd, Nat.reduceEqDiff, Nat.reduceLT, Nat.reduceLeDiff, *, and_self, lenK_sls hv, List.length_map, c1]; first | (refine hA.out ?_; clear hA hB A B) | (refine hB.out ?_; clear hA hB A B) | (refine iteI (fun h => hA.out ?_) (fun h => hB.out ?_) <;> clear hA hB A B) | (refine iteI (fun h => hB.out ?_) (fun h => hA.out ?_) <;> clear hA hB A B)) | (refine wpO_cons fun K hK => ?_; simp only [go_sem, reduceIte, Nat.reduceAdd, Nat.reduceEqDiff, Nat.reduceLT, Nat.reduceLeDiff, *, and_self, lenK_sls hv, List.length_map, c1]; first | (refine hK.out _ _ ?_; clear hK K) | (refine iteI (fun h => hK.out _ _ ?_) (fun h => hK.out _ _ ?_) <;> clear hK K)))
    simp only [resultsR, resultsL, resultA, expK_int, expK_bool, expK_str, expK_agg, expK_own, expK_tsl, resK_some, go_sem, reduceIte, Nat.reduceAdd, Nat.reduceEqDiff, Nat.reduceLT, Nat.reduceLeDiff, and_self, ]
  · have e : isS ss n = false := by simp [isS, h]
    rw [e]
    clear e
    refine EvV.walk rfl fn34 rfl nt34 rfl ?_
    simp only [List.length_cons, List.length_nil, List.cons_append, List.nil_append, Nat.reduceAdd, Nat.reduceSub, List.replicate]
    repeat' (first | refine go1 ?_ | refine blockK_else rfl ?_ | (refine wpC_cond fun A B hA hB => ?_; simp only [go_sem, reduceIte, Nat.reduceAdd, Nat.reduceEqDiff, Nat.reduceLT, Nat.reduceLeDiff, *, and_self, lenK_sls hv, List.length_map, c1]; first | (refine hA.out ?_; clear hA hB A B) | (refine hB.out ?_; clear hA hB A B) | (refine iteI (fun h => hA.out ?_) (fun h => hB.out ?_) <;> clear hA hB A B) | (refine iteI (fun h => hB.out ?_) (fun h => hA.out ?_) <;> clear hA hB A B)) | (refine wpO_cons fun K hK => ?_; simp only [go_sem, reduceIte, Nat.reduceAdd, Nat.reduceEqDiff, Nat.reduceLT, Nat.reduceLeDiff, *, and_self, lenK_sls hv, List.length_map, c1]; first | (refine hK.out _ _ ?_; clear hK K) | (refine iteI (fun h => hK.out _ _ ?_) (fun h => hK.out _ _ ?_) <;> clear hK K)))
    simp only [resultsR, resultsL, resultA, expK_int, expK_bool, expK_str, expK_agg, expK_own, expK_tsl, resK_some, go_sem, reduceIte, Nat.reduceAdd, Nat.reduceEqDiff, Nat.reduceLT, Nat.reduceLeDiff, and_self, ]
theorem isR (v : AV) (ss : List Sg) (n : Int) (hv : SLs 2 (ss.map encS) v) : EvV CX 35 [.agg [v], .int .i64 n] (· = .bool (isS ss n)) := by
  have c1 := hv.cell
  by_cases h : 1 ≤ n
  · have e : isS ss n = decide (n ≤ (ss.length : Int)) := by simp [isS, h]
    rw [e]
    clear e
    refine EvV.walk rfl fn35 rfl nt35 rfl ?_
    simp only [List.length_cons, List.length_nil, List.cons_append, List.nil_append, Nat.reduceAdd, Nat.reduceSub, List.replicate]
    repeat' (first | refine go1 ?_ | refine blockK_else rfl ?_ | (refine wpC_cond fun A B hA hB => ?_; simp only [go_sem, reduceIte, Nat.reduceAdd, Nat.reduceEqDiff, Nat.reduceLT, Nat.reduceLeDiff, *, and_self, lenK_sls hv, List.length_map, c1]; first | (refine hA.out ?_; clear hA hB A B) | (refine hB.out ?_; clear hA hB A B) | (refine iteI (fun h => hA.out ?_) (fun h => hB.out ?_) <;> clear hA hB A B) | (refine iteI (fun h => hB.out ?_) (fun h => hA.out ?_) <;> clear hA hB A B)) | (refine wpO_cons fun K hK => ?_; simp only [go_sem, reduceIte, Nat.reduceAdd, Nat.reduceEqDiff, Nat.reduceLT, Nat.reduceLeDiff, *, and_self, lenK_sls hv, List.length_map, c1]; first | (refine hK.out _ _ ?_; clear hK K) | (refine iteI (fun h => hK.out _ _ ?_) (fun h => hK.out _ _ ?_) <;> clear hK K)))
    simp only [resultsR, resultsL, resultA, expK_int, expK_bool, expK_str, expK_agg, expK_own, expK_tsl, resK_some, go_sem, reduceIte, Nat.reduceAdd, Nat.reduceEqDiff, Nat.reduceLT, Nat.reduceLeDiff, and_self, ]
  · have e : isS ss n = false := by simp [isS, h]
    rw [e]
    clear e
    refine EvV.walk rfl fn35 rfl nt35 rfl ?_
    simp only [List.length_cons, List.length_nil, List.cons_append, List.nil_append, Nat.reduceAdd, Nat.reduceSub, List.replicate]
    repeat' (first | refine go1 ?_ | refine blockK_else rfl ?_ | (refine wpC_cond fun A B hA hB => ?_; simp only [go_sem, reduceIte, Nat.reduceAdd, Nat.reduceEqDiff, Nat.reduceLT, Nat.reduceLeDiff, *, and_self, lenK_sls hv, List.length_map, c1]; first | (refine hA.out ?_; clear hA hB A B) | (refine hB.out ?_; clear hA hB A B) | (refine iteI (fun h => hA.out ?_) (fun h => hB.out ?_) <;> clear hA hB A B) | (refine iteI (fun h => hB.out ?_) (fun h => hA.out ?_) <;> clear hA hB A B)) | (refine wpO_cons fun K hK => ?_; simp only [go_sem, reduceIte, Nat.reduceAdd, Nat.reduceEqDiff, Nat.reduceLT, Nat.reduceLeDiff, *, and_self, lenK_sls hv, List.length_map, c1]; first | (refine hK.out _ _ ?_; clear hK K) | (refine iteI (fun h => hK.out _ _ ?_) (fun h => hK.out _ _ ?_) <;> clear hK K)))
    simp only [resultsR, resultsL, resultA, expK_int, expK_bool, expK_str, expK_agg, expK_own, expK_tsl, resK_some, go_sem, reduceIte, Nat.reduceAdd, Nat.reduceEqDiff, Nat.reduceLT, Nat.reduceLeDiff, and_self, ]

/- Segments: Check, as the program and the reference do it. -/
open Go.Proofs
attribute [local go_sem] ty27 br23 br32 allocK fz54 fz55 br33
set_option maxHeartbeats 4000000

/-- A name is there already. -/
def nmIn (pre : List Sg) (n : ByteArray) : Bool := pre.any fun y => decide (y.name = n)
def segF : List Sg → List Sg → Int
  | _, [] => 0
  | pre, x :: post => if labU x.name.data.toList = true then if nmIn pre x.name = true then 8 else if 0 ≤ x.feat ∧ x.feat < 65536 then segF (pre ++ [x]) post else 2 else 7
/-- What is wrong with an inventory. -/
def chkS (ss : List Sg) : Int := if ss.length ≤ 60 then segF [] ss else 11

theorem sF_in : ∀ (pre : List Sg) (x : Sg) (post : List Sg) (k : Nat), (nmIn pre x.name = true → sF (pre ++ x :: post) x.name k ≤ (k : Int) + pre.length) ∧ (nmIn pre x.name = false → sF (pre ++ x :: post) x.name k = (k : Int) + pre.length + 1)
  | [], x, post, k => by constructor <;> simp [nmIn, sF]
  | y :: pre, x, post, k => by
    have ih := sF_in pre x post (k + 1)
    rw [List.cons_append, sF]
    by_cases h : y.name = x.name
    · rw [if_pos h]
      constructor
      · intro _; simp; omega
      · intro e; simp [nmIn, h] at e
    · rw [if_neg h]
      have e : nmIn (y :: pre) x.name = nmIn pre x.name := by simp [nmIn, h]
      rw [e]
      constructor
      · intro q; have := ih.1 q; simp only [List.length_cons]; omega
      · intro q; have := ih.2 q; simp only [List.length_cons]; omega

theorem checkSM (v : AV) (ss : List Sg) (hv : SLs 2 (ss.map encS) v) (hn : ∀ x ∈ ss, x.name.size ≤ 1048576) : EvV CX 13 [.agg [v]] (· = .int .i64 (chkS ss)) := by
  have c1 := hv.cell
  have s1 := hv.snap
  by_cases k1 : 60 < (ss.length : Int)
  · have e : chkS ss = 11 := by rw [chkS, if_neg (by omega)]
    rw [e]
    clear e
    refine EvV.walk rfl fn13 rfl nt13 rfl ?_
    simp only [List.length_cons, List.length_nil, List.cons_append, List.nil_append, Nat.reduceAdd, Nat.reduceSub, List.replicate]
    repeat' (first | refine go1 ?_ | refine blockK_else rfl ?_ | (refine wpC_cond fun A B hA hB => ?_; simp only [go_sem, reduceIte, Nat.reduceAdd, Nat.reduceEqDiff, Nat.reduceLT, Nat.reduceLeDiff, *, and_self, lenK_sls hv, List.length_map, c1]; first | (refine hA.out ?_; clear hA hB A B) | (refine hB.out ?_; clear hA hB A B) | (refine iteI (fun h => hA.out ?_) (fun h => hB.out ?_) <;> clear hA hB A B) | (refine iteI (fun h => hB.out ?_) (fun h => hA.out ?_) <;> clear hA hB A B)) | (refine wpO_cons fun K hK => ?_; simp only [go_sem, reduceIte, Nat.reduceAdd, Nat.reduceEqDiff, Nat.reduceLT, Nat.reduceLeDiff, *, and_self, lenK_sls hv, List.length_map, c1]; first | (refine hK.out _ _ ?_; clear hK K) | (refine iteI (fun h => hK.out _ _ ?_) (fun h => hK.out _ _ ?_) <;> clear hK K)))
    simp only [resultsR, resultsL, resultA, expK_int, expK_bool, expK_str, expK_agg, expK_own, expK_tsl, resK_some, go_sem, reduceIte, Nat.reduceAdd, Nat.reduceEqDiff, Nat.reduceLT, Nat.reduceLeDiff, and_self, ]
  have e : chkS ss = segF [] ss := by rw [chkS, if_pos (by omega)]
  rw [e]
  clear e
  refine EvV.walk rfl fn13 rfl nt13 rfl ?_
  simp only [List.length_cons, List.length_nil, List.cons_append, List.nil_append, Nat.reduceAdd, Nat.reduceSub, List.replicate]
  repeat' (first | refine go1 ?_ | refine blockK_else rfl ?_ | (refine wpC_cond fun A B hA hB => ?_; simp only [go_sem, reduceIte, Nat.reduceAdd, Nat.reduceEqDiff, Nat.reduceLT, Nat.reduceLeDiff, *, and_self, lenK_sls hv, List.length_map, c1]; first | (refine hA.out ?_; clear hA hB A B) | (refine hB.out ?_; clear hA hB A B) | (refine iteI (fun h => hA.out ?_) (fun h => hB.out ?_) <;> clear hA hB A B) | (refine iteI (fun h => hB.out ?_) (fun h => hA.out ?_) <;> clear hA hB A B)) | (refine wpO_cons fun K hK => ?_; simp only [go_sem, reduceIte, Nat.reduceAdd, Nat.reduceEqDiff, Nat.reduceLT, Nat.reduceLeDiff, *, and_self, lenK_sls hv, List.length_map, c1]; first | (refine hK.out _ _ ?_; clear hK K) | (refine iteI (fun h => hK.out _ _ ?_) (fun h => hK.out _ _ ?_) <;> clear hK K)))
  refine wpC_each [2, 3, 4, 13, 14, 15, 16, 17, 18, 19, 20, 21, 22, 23, 24, 25, 26, 27, 28, 29, 30, 31, 32, 33, 34, 35, 36, 37, 38, 39] 12 ss (fun pre post => segF [] ss = segF pre post) ?_ ?_ ?_ ?_
  · rfl
  · ((try simp only [eraseA_cons, eraseA_nil, setL_cons, setL_nil, List.set_cons_zero, List.set_cons_succ]); all_goals (first | rfl | (simp only [len_snoc, ints_len, List.length_map, ]; done) | (simp only [len_snoc, len_mid, ints_len, List.length_map, List.length_append, List.length_cons, List.length_nil, Nat.zero_add, ]; done) | (simp only [len_mid, len_snoc, ints_len, List.length_map, List.length_append, List.length_cons, List.length_nil, Nat.zero_add, ]; rfl)))
  · intro g G h2
    rw [h2]
    simp only [garbA_cons, garbA_nil, setL_cons, setL_nil, List.set_cons_zero, List.set_cons_succ]
    repeat' (first | refine go1 ?_ | refine blockK_else rfl ?_ | (refine wpC_cond fun A B hA hB => ?_; simp only [go_sem, reduceIte, Nat.reduceAdd, Nat.reduceEqDiff, Nat.reduceLT, Nat.reduceLeDiff, *, and_self, ints_len, List.length_map, Int.lt_irrefl, List.nil_append]; first | (refine hA.out ?_; clear hA hB A B) | (refine hB.out ?_; clear hA hB A B) | (refine iteI (fun h => hA.out ?_) (fun h => hB.out ?_) <;> clear hA hB A B) | (refine iteI (fun h => hB.out ?_) (fun h => hA.out ?_) <;> clear hA hB A B)) | (refine wpO_cons fun K hK => ?_; simp only [go_sem, reduceIte, Nat.reduceAdd, Nat.reduceEqDiff, Nat.reduceLT, Nat.reduceLeDiff, *, and_self, ints_len, List.length_map, Int.lt_irrefl, List.nil_append]; first | (refine hK.out _ _ ?_; clear hK K) | (refine iteI (fun h => hK.out _ _ ?_) (fun h => hK.out _ _ ?_) <;> clear hK K)))
    simp only [resultsR, resultsL, resultA, expK_int, expK_bool, expK_str, expK_agg, expK_own, expK_tsl, resK_some, go_sem, reduceIte, Nat.reduceAdd, Nat.reduceEqDiff, Nat.reduceLT, Nat.reduceLeDiff, and_self, ]
    rfl
  intro g G pre x post h1 h2
  have i1 := idx_sls hv (X := CX) ty22 ty46 rfl (by rw [h1]; exact map_mid encS pre x post) (k := .i64)
  have w1 := wrap_succ (n := pre.length) (by have := congrArg List.length h1; simp at this; omega)
  have lt1 : (pre.length : Int) < (ss.length : Int) := by rw [h1]; simp; omega
  have ql := (labelM x.name (hn x (by rw [h1]; simp))).rw
  have qf := (findM v ss x.name hv (by omega)).rw
  have hsf := sF_in pre x post 0
  rw [← h1] at hsf
  have hh1 : Hold (ss = pre ++ x :: post) := ⟨h1⟩
  rw [h2, segF]
  clear h1 h2 k1
  generalize sF ss x.name 0 = m at qf hsf
  simp only [garbA_cons, garbA_nil, setL_cons, setL_nil, List.set_cons_zero, List.set_cons_succ]
  cases k2 : labU x.name.data.toList with
  | false =>
    rw [k2] at ql
    rw [if_neg (by simp)]
    clear k2 hsf
    repeat' (first | refine go1 ?_ | refine blockK_else rfl ?_ | (refine wpC_cond fun A B hA hB => ?_; simp only [go_sem, reduceIte, Nat.reduceAdd, Nat.reduceEqDiff, Nat.reduceLT, Nat.reduceLeDiff, *, and_self, encS, List.length_map, c1, s1, i1, w1, ql, qf, getElem?_len, getElem?_lenAdd, set_len, set_lenAdd, len_mid, ints_len, List.length_map, lt_mid, List.nil_append]; first | (refine hA.out ?_; clear hA hB A B) | (refine hB.out ?_; clear hA hB A B) | (refine iteI (fun h => hA.out ?_) (fun h => hB.out ?_) <;> clear hA hB A B) | (refine iteI (fun h => hB.out ?_) (fun h => hA.out ?_) <;> clear hA hB A B)) | (refine wpO_cons fun K hK => ?_; simp only [go_sem, reduceIte, Nat.reduceAdd, Nat.reduceEqDiff, Nat.reduceLT, Nat.reduceLeDiff, *, and_self, encS, List.length_map, c1, s1, i1, w1, ql, qf, getElem?_len, getElem?_lenAdd, set_len, set_lenAdd, len_mid, ints_len, List.length_map, lt_mid, List.nil_append]; first | (refine hK.out _ _ ?_; clear hK K) | (refine iteI (fun h => hK.out _ _ ?_) (fun h => hK.out _ _ ?_) <;> clear hK K)))
    simp only [resultsR, resultsL, resultA, expK_int, expK_bool, expK_str, expK_agg, expK_own, expK_tsl, resK_some, go_sem, reduceIte, Nat.reduceAdd, Nat.reduceEqDiff, Nat.reduceLT, Nat.reduceLeDiff, and_self, ]
  | true =>
  rw [k2] at ql
  rw [if_pos rfl]
  clear k2
  cases k3 : nmIn pre x.name with
  | true =>
    have hm := hsf.1 k3
    have kb : (m == ((pre.length + 1 : Nat) : Int)) = false := by simp; omega
    rw [if_pos rfl]
    clear k3 hsf hm
    repeat' (first | refine go1 ?_ | refine blockK_else rfl ?_ | (refine wpC_cond fun A B hA hB => ?_; simp only [go_sem, reduceIte, Nat.reduceAdd, Nat.reduceEqDiff, Nat.reduceLT, Nat.reduceLeDiff, *, and_self, encS, List.length_map, c1, s1, i1, w1, ql, qf, kb, getElem?_len, getElem?_lenAdd, set_len, set_lenAdd, len_mid, ints_len, List.length_map, lt_mid, List.nil_append]; first | (refine hA.out ?_; clear hA hB A B) | (refine hB.out ?_; clear hA hB A B) | (refine iteI (fun h => hA.out ?_) (fun h => hB.out ?_) <;> clear hA hB A B) | (refine iteI (fun h => hB.out ?_) (fun h => hA.out ?_) <;> clear hA hB A B)) | (refine wpO_cons fun K hK => ?_; simp only [go_sem, reduceIte, Nat.reduceAdd, Nat.reduceEqDiff, Nat.reduceLT, Nat.reduceLeDiff, *, and_self, encS, List.length_map, c1, s1, i1, w1, ql, qf, kb, getElem?_len, getElem?_lenAdd, set_len, set_lenAdd, len_mid, ints_len, List.length_map, lt_mid, List.nil_append]; first | (refine hK.out _ _ ?_; clear hK K) | (refine iteI (fun h => hK.out _ _ ?_) (fun h => hK.out _ _ ?_) <;> clear hK K)))
    simp only [resultsR, resultsL, resultA, expK_int, expK_bool, expK_str, expK_agg, expK_own, expK_tsl, resK_some, go_sem, reduceIte, Nat.reduceAdd, Nat.reduceEqDiff, Nat.reduceLT, Nat.reduceLeDiff, and_self, ]
  | false =>
  have hm := hsf.2 k3
  have kb : (m == ((pre.length + 1 : Nat) : Int)) = true := by simp; omega
  rw [if_neg (by simp)]
  clear k3 hsf hm
  by_cases f1 : x.feat < 0
  · rw [if_neg (by omega)]
    repeat' (first | refine go1 ?_ | refine blockK_else rfl ?_ | (refine wpC_cond fun A B hA hB => ?_; simp only [go_sem, reduceIte, Nat.reduceAdd, Nat.reduceEqDiff, Nat.reduceLT, Nat.reduceLeDiff, *, and_self, encS, List.length_map, c1, s1, i1, w1, ql, qf, kb, getElem?_len, getElem?_lenAdd, set_len, set_lenAdd, len_mid, ints_len, List.length_map, lt_mid, List.nil_append]; first | (refine hA.out ?_; clear hA hB A B) | (refine hB.out ?_; clear hA hB A B) | (refine iteI (fun h => hA.out ?_) (fun h => hB.out ?_) <;> clear hA hB A B) | (refine iteI (fun h => hB.out ?_) (fun h => hA.out ?_) <;> clear hA hB A B)) | (refine wpO_cons fun K hK => ?_; simp only [go_sem, reduceIte, Nat.reduceAdd, Nat.reduceEqDiff, Nat.reduceLT, Nat.reduceLeDiff, *, and_self, encS, List.length_map, c1, s1, i1, w1, ql, qf, kb, getElem?_len, getElem?_lenAdd, set_len, set_lenAdd, len_mid, ints_len, List.length_map, lt_mid, List.nil_append]; first | (refine hK.out _ _ ?_; clear hK K) | (refine iteI (fun h => hK.out _ _ ?_) (fun h => hK.out _ _ ?_) <;> clear hK K)))
    simp only [resultsR, resultsL, resultA, expK_int, expK_bool, expK_str, expK_agg, expK_own, expK_tsl, resK_some, go_sem, reduceIte, Nat.reduceAdd, Nat.reduceEqDiff, Nat.reduceLT, Nat.reduceLeDiff, and_self, ]
  by_cases f2 : 65536 ≤ x.feat
  · rw [if_neg (by omega)]
    repeat' (first | refine go1 ?_ | refine blockK_else rfl ?_ | (refine wpC_cond fun A B hA hB => ?_; simp only [go_sem, reduceIte, Nat.reduceAdd, Nat.reduceEqDiff, Nat.reduceLT, Nat.reduceLeDiff, *, and_self, encS, List.length_map, c1, s1, i1, w1, ql, qf, kb, getElem?_len, getElem?_lenAdd, set_len, set_lenAdd, len_mid, ints_len, List.length_map, lt_mid, List.nil_append]; first | (refine hA.out ?_; clear hA hB A B) | (refine hB.out ?_; clear hA hB A B) | (refine iteI (fun h => hA.out ?_) (fun h => hB.out ?_) <;> clear hA hB A B) | (refine iteI (fun h => hB.out ?_) (fun h => hA.out ?_) <;> clear hA hB A B)) | (refine wpO_cons fun K hK => ?_; simp only [go_sem, reduceIte, Nat.reduceAdd, Nat.reduceEqDiff, Nat.reduceLT, Nat.reduceLeDiff, *, and_self, encS, List.length_map, c1, s1, i1, w1, ql, qf, kb, getElem?_len, getElem?_lenAdd, set_len, set_lenAdd, len_mid, ints_len, List.length_map, lt_mid, List.nil_append]; first | (refine hK.out _ _ ?_; clear hK K) | (refine iteI (fun h => hK.out _ _ ?_) (fun h => hK.out _ _ ?_) <;> clear hK K)))
    simp only [resultsR, resultsL, resultA, expK_int, expK_bool, expK_str, expK_agg, expK_own, expK_tsl, resK_some, go_sem, reduceIte, Nat.reduceAdd, Nat.reduceEqDiff, Nat.reduceLT, Nat.reduceLeDiff, and_self, ]
  rw [if_pos (by omega)]
  repeat' (first | refine go1 ?_ | refine blockK_else rfl ?_ | (refine wpC_cond fun A B hA hB => ?_; simp only [go_sem, reduceIte, Nat.reduceAdd, Nat.reduceEqDiff, Nat.reduceLT, Nat.reduceLeDiff, *, and_self, encS, List.length_map, c1, s1, i1, w1, ql, qf, kb, getElem?_len, getElem?_lenAdd, set_len, set_lenAdd, len_mid, ints_len, List.length_map, lt_mid, List.nil_append]; first | (refine hA.out ?_; clear hA hB A B) | (refine hB.out ?_; clear hA hB A B) | (refine iteI (fun h => hA.out ?_) (fun h => hB.out ?_) <;> clear hA hB A B) | (refine iteI (fun h => hB.out ?_) (fun h => hA.out ?_) <;> clear hA hB A B)) | (refine wpO_cons fun K hK => ?_; simp only [go_sem, reduceIte, Nat.reduceAdd, Nat.reduceEqDiff, Nat.reduceLT, Nat.reduceLeDiff, *, and_self, encS, List.length_map, c1, s1, i1, w1, ql, qf, kb, getElem?_len, getElem?_lenAdd, set_len, set_lenAdd, len_mid, ints_len, List.length_map, lt_mid, List.nil_append]; first | (refine hK.out _ _ ?_; clear hK K) | (refine iteI (fun h => hK.out _ _ ?_) (fun h => hK.out _ _ ?_) <;> clear hK K)))
  refine each_next hh1.out rfl ?_ ?_
  · ((try simp only [eraseA_cons, eraseA_nil, setL_cons, setL_nil, List.set_cons_zero, List.set_cons_succ]); all_goals (first | rfl | (simp only [len_snoc, ints_len, List.length_map, ]; done) | (simp only [len_snoc, len_mid, ints_len, List.length_map, List.length_append, List.length_cons, List.length_nil, Nat.zero_add, ]; done) | (simp only [len_mid, len_snoc, ints_len, List.length_map, List.length_append, List.length_cons, List.length_nil, Nat.zero_add, ]; rfl)))
  · first | exact ⟨[], (List.append_nil _).symm⟩ | exact ⟨_, rfl⟩ | (simp only [List.append_assoc, List.cons_append, List.nil_append]; exact ⟨_, rfl⟩)

theorem checkSR (v : AV) (ss : List Sg) (hv : SLs 2 (ss.map encS) v) (hn : ∀ x ∈ ss, x.name.size ≤ 1048576) : EvV CX 14 [.agg [v]] (· = .int .i64 (chkS ss)) := by
  have c1 := hv.cell
  have s1 := hv.snap
  by_cases k1 : 60 < (ss.length : Int)
  · have e : chkS ss = 11 := by rw [chkS, if_neg (by omega)]
    rw [e]
    clear e
    refine EvV.walk rfl fn14 rfl nt14 rfl ?_
    simp only [List.length_cons, List.length_nil, List.cons_append, List.nil_append, Nat.reduceAdd, Nat.reduceSub, List.replicate]
    repeat' (first | refine go1 ?_ | refine blockK_else rfl ?_ | (refine wpC_cond fun A B hA hB => ?_; simp only [go_sem, reduceIte, Nat.reduceAdd, Nat.reduceEqDiff, Nat.reduceLT, Nat.reduceLeDiff, *, and_self, lenK_sls hv, List.length_map, c1]; first | (refine hA.out ?_; clear hA hB A B) | (refine hB.out ?_; clear hA hB A B) | (refine iteI (fun h => hA.out ?_) (fun h => hB.out ?_) <;> clear hA hB A B) | (refine iteI (fun h => hB.out ?_) (fun h => hA.out ?_) <;> clear hA hB A B)) | (refine wpO_cons fun K hK => ?_; simp only [go_sem, reduceIte, Nat.reduceAdd, Nat.reduceEqDiff, Nat.reduceLT, Nat.reduceLeDiff, *, and_self, lenK_sls hv, List.length_map, c1]; first | (refine hK.out _ _ ?_; clear hK K) | (refine iteI (fun h => hK.out _ _ ?_) (fun h => hK.out _ _ ?_) <;> clear hK K)))
    simp only [resultsR, resultsL, resultA, expK_int, expK_bool, expK_str, expK_agg, expK_own, expK_tsl, resK_some, go_sem, reduceIte, Nat.reduceAdd, Nat.reduceEqDiff, Nat.reduceLT, Nat.reduceLeDiff, and_self, ]
  have e : chkS ss = segF [] ss := by rw [chkS, if_pos (by omega)]
  rw [e]
  clear e
  refine EvV.walk rfl fn14 rfl nt14 rfl ?_
  simp only [List.length_cons, List.length_nil, List.cons_append, List.nil_append, Nat.reduceAdd, Nat.reduceSub, List.replicate]
  repeat' (first | refine go1 ?_ | refine blockK_else rfl ?_ | (refine wpC_cond fun A B hA hB => ?_; simp only [go_sem, reduceIte, Nat.reduceAdd, Nat.reduceEqDiff, Nat.reduceLT, Nat.reduceLeDiff, *, and_self, lenK_sls hv, List.length_map, c1]; first | (refine hA.out ?_; clear hA hB A B) | (refine hB.out ?_; clear hA hB A B) | (refine iteI (fun h => hA.out ?_) (fun h => hB.out ?_) <;> clear hA hB A B) | (refine iteI (fun h => hB.out ?_) (fun h => hA.out ?_) <;> clear hA hB A B)) | (refine wpO_cons fun K hK => ?_; simp only [go_sem, reduceIte, Nat.reduceAdd, Nat.reduceEqDiff, Nat.reduceLT, Nat.reduceLeDiff, *, and_self, lenK_sls hv, List.length_map, c1]; first | (refine hK.out _ _ ?_; clear hK K) | (refine iteI (fun h => hK.out _ _ ?_) (fun h => hK.out _ _ ?_) <;> clear hK K)))
  refine wpC_each [2, 3, 4, 13, 14, 15, 16, 17, 18, 19, 20, 21, 22, 23, 24, 25, 26, 27, 28, 29, 30, 31, 32, 33, 34, 35, 36, 37, 38, 39, 40, 41, 42, 43, 44, 45, 46, 47, 48, 49, 50, 51, 52, 53, 54, 55, 56, 57] 12 ss (fun pre post => segF [] ss = segF pre post) ?_ ?_ ?_ ?_
  · rfl
  · ((try simp only [eraseA_cons, eraseA_nil, setL_cons, setL_nil, List.set_cons_zero, List.set_cons_succ]); all_goals (first | rfl | (simp only [len_snoc, ints_len, List.length_map, ]; done) | (simp only [len_snoc, len_mid, ints_len, List.length_map, List.length_append, List.length_cons, List.length_nil, Nat.zero_add, ]; done) | (simp only [len_mid, len_snoc, ints_len, List.length_map, List.length_append, List.length_cons, List.length_nil, Nat.zero_add, ]; rfl)))
  · intro g G h2
    rw [h2]
    simp only [garbA_cons, garbA_nil, setL_cons, setL_nil, List.set_cons_zero, List.set_cons_succ]
    repeat' (first | refine go1 ?_ | refine blockK_else rfl ?_ | (refine wpC_cond fun A B hA hB => ?_; simp only [go_sem, reduceIte, Nat.reduceAdd, Nat.reduceEqDiff, Nat.reduceLT, Nat.reduceLeDiff, *, and_self, ints_len, List.length_map, Int.lt_irrefl, List.nil_append]; first | (refine hA.out ?_; clear hA hB A B) | (refine hB.out ?_; clear hA hB A B) | (refine iteI (fun h => hA.out ?_) (fun h => hB.out ?_) <;> clear hA hB A B) | (refine iteI (fun h => hB.out ?_) (fun h => hA.out ?_) <;> clear hA hB A B)) | (refine wpO_cons fun K hK => ?_; simp only [go_sem, reduceIte, Nat.reduceAdd, Nat.reduceEqDiff, Nat.reduceLT, Nat.reduceLeDiff, *, and_self, ints_len, List.length_map, Int.lt_irrefl, List.nil_append]; first | (refine hK.out _ _ ?_; clear hK K) | (refine iteI (fun h => hK.out _ _ ?_) (fun h => hK.out _ _ ?_) <;> clear hK K)))
    simp only [resultsR, resultsL, resultA, expK_int, expK_bool, expK_str, expK_agg, expK_own, expK_tsl, resK_some, go_sem, reduceIte, Nat.reduceAdd, Nat.reduceEqDiff, Nat.reduceLT, Nat.reduceLeDiff, and_self, ]
    rfl
  intro g G pre x post h1 h2
  have i1 := idx_sls hv (X := CX) ty22 ty46 rfl (by rw [h1]; exact map_mid encS pre x post) (k := .i64)
  have w1 := wrap_succ (n := pre.length) (by have := congrArg List.length h1; simp at this; omega)
  have lt1 : (pre.length : Int) < (ss.length : Int) := by rw [h1]; simp; omega
  have ql := (labelR x.name (hn x (by rw [h1]; simp))).rw
  have hh1 : Hold (ss = pre ++ x :: post) := ⟨h1⟩
  have hlen : pre.length ≤ 60 := by omega
  rw [h2, segF]
  clear h1 h2 k1
  simp only [garbA_cons, garbA_nil, setL_cons, setL_nil, List.set_cons_zero, List.set_cons_succ]
  cases k2 : labU x.name.data.toList with
  | false =>
    rw [k2] at ql
    rw [if_neg (by simp)]
    clear k2
    repeat' (first | refine go1 ?_ | refine blockK_else rfl ?_ | (refine wpC_cond fun A B hA hB => ?_; simp only [go_sem, reduceIte, Nat.reduceAdd, Nat.reduceEqDiff, Nat.reduceLT, Nat.reduceLeDiff, *, and_self, encS, List.length_map, c1, s1, i1, w1, ql, getElem?_len, getElem?_lenAdd, set_len, set_lenAdd, len_mid, ints_len, List.length_map, lt_mid, List.nil_append]; first | (refine hA.out ?_; clear hA hB A B) | (refine hB.out ?_; clear hA hB A B) | (refine iteI (fun h => hA.out ?_) (fun h => hB.out ?_) <;> clear hA hB A B) | (refine iteI (fun h => hB.out ?_) (fun h => hA.out ?_) <;> clear hA hB A B)) | (refine wpO_cons fun K hK => ?_; simp only [go_sem, reduceIte, Nat.reduceAdd, Nat.reduceEqDiff, Nat.reduceLT, Nat.reduceLeDiff, *, and_self, encS, List.length_map, c1, s1, i1, w1, ql, getElem?_len, getElem?_lenAdd, set_len, set_lenAdd, len_mid, ints_len, List.length_map, lt_mid, List.nil_append]; first | (refine hK.out _ _ ?_; clear hK K) | (refine iteI (fun h => hK.out _ _ ?_) (fun h => hK.out _ _ ?_) <;> clear hK K)))
    simp only [resultsR, resultsL, resultA, expK_int, expK_bool, expK_str, expK_agg, expK_own, expK_tsl, resK_some, go_sem, reduceIte, Nat.reduceAdd, Nat.reduceEqDiff, Nat.reduceLT, Nat.reduceLeDiff, and_self, ]
  | true =>
  rw [k2] at ql
  rw [if_pos rfl]
  clear k2
  repeat' (first | refine go1 ?_ | refine blockK_else rfl ?_ | (refine wpC_cond fun A B hA hB => ?_; simp only [go_sem, reduceIte, Nat.reduceAdd, Nat.reduceEqDiff, Nat.reduceLT, Nat.reduceLeDiff, *, and_self, encS, List.length_map, c1, s1, i1, w1, ql, getElem?_len, getElem?_lenAdd, set_len, set_lenAdd, len_mid, ints_len, List.length_map, lt_mid, List.nil_append]; first | (refine hA.out ?_; clear hA hB A B) | (refine hB.out ?_; clear hA hB A B) | (refine iteI (fun h => hA.out ?_) (fun h => hB.out ?_) <;> clear hA hB A B) | (refine iteI (fun h => hB.out ?_) (fun h => hA.out ?_) <;> clear hA hB A B)) | (refine wpO_cons fun K hK => ?_; simp only [go_sem, reduceIte, Nat.reduceAdd, Nat.reduceEqDiff, Nat.reduceLT, Nat.reduceLeDiff, *, and_self, encS, List.length_map, c1, s1, i1, w1, ql, getElem?_len, getElem?_lenAdd, set_len, set_lenAdd, len_mid, ints_len, List.length_map, lt_mid, List.nil_append]; first | (refine hK.out _ _ ?_; clear hK K) | (refine iteI (fun h => hK.out _ _ ?_) (fun h => hK.out _ _ ?_) <;> clear hK K)))
  obtain ⟨GG, hGG⟩ : ∃ GG, GG = G := ⟨_, rfl⟩
  refine wpC_each [2, 23, 24, 25, 26, 27, 28, 29, 30, 31, 32, 33, 34, 35, 36, 37, 38, 39, 40] 4 pre (fun pp po => nmIn pre x.name = nmIn po x.name) ?_ ?_ ?_ ?_
  · rfl
  · ((try simp only [eraseA_cons, eraseA_nil, setL_cons, setL_nil, List.set_cons_zero, List.set_cons_succ]); all_goals (first | rfl | (simp only [len_snoc, ints_len, List.length_map, ]; done) | (simp only [len_snoc, len_mid, ints_len, List.length_map, List.length_append, List.length_cons, List.length_nil, Nat.zero_add, ]; done) | (simp only [len_mid, len_snoc, ints_len, List.length_map, List.length_append, List.length_cons, List.length_nil, Nat.zero_add, ]; rfl)))
  · intro g2 G2 h3
    have k3 : nmIn pre x.name = false := h3
    rw [k3, if_neg (by simp)]
    clear h3 k3
    simp only [garbA_cons, garbA_nil, setL_cons, setL_nil, List.set_cons_zero, List.set_cons_succ]
    by_cases f1 : x.feat < 0
    · rw [if_neg (by omega)]
      repeat' (first | refine go1 ?_ | refine blockK_else rfl ?_ | (refine wpC_cond fun A B hA hB => ?_; simp only [go_sem, reduceIte, Nat.reduceAdd, Nat.reduceEqDiff, Nat.reduceLT, Nat.reduceLeDiff, *, and_self, encS, List.length_map, c1, s1, i1, w1, ql, ints_len, List.length_map, Int.lt_irrefl, List.nil_append, getElem?_len, getElem?_lenAdd, set_len, set_lenAdd, len_mid, ints_len, List.length_map, lt_mid, List.nil_append]; first | (refine hA.out ?_; clear hA hB A B) | (refine hB.out ?_; clear hA hB A B) | (refine iteI (fun h => hA.out ?_) (fun h => hB.out ?_) <;> clear hA hB A B) | (refine iteI (fun h => hB.out ?_) (fun h => hA.out ?_) <;> clear hA hB A B)) | (refine wpO_cons fun K hK => ?_; simp only [go_sem, reduceIte, Nat.reduceAdd, Nat.reduceEqDiff, Nat.reduceLT, Nat.reduceLeDiff, *, and_self, encS, List.length_map, c1, s1, i1, w1, ql, ints_len, List.length_map, Int.lt_irrefl, List.nil_append, getElem?_len, getElem?_lenAdd, set_len, set_lenAdd, len_mid, ints_len, List.length_map, lt_mid, List.nil_append]; first | (refine hK.out _ _ ?_; clear hK K) | (refine iteI (fun h => hK.out _ _ ?_) (fun h => hK.out _ _ ?_) <;> clear hK K)))
      simp only [resultsR, resultsL, resultA, expK_int, expK_bool, expK_str, expK_agg, expK_own, expK_tsl, resK_some, go_sem, reduceIte, Nat.reduceAdd, Nat.reduceEqDiff, Nat.reduceLT, Nat.reduceLeDiff, and_self, ]
    by_cases f2 : 65536 ≤ x.feat
    · rw [if_neg (by omega)]
      repeat' (first | refine go1 ?_ | refine blockK_else rfl ?_ | (refine wpC_cond fun A B hA hB => ?_; simp only [go_sem, reduceIte, Nat.reduceAdd, Nat.reduceEqDiff, Nat.reduceLT, Nat.reduceLeDiff, *, and_self, encS, List.length_map, c1, s1, i1, w1, ql, ints_len, List.length_map, Int.lt_irrefl, List.nil_append, getElem?_len, getElem?_lenAdd, set_len, set_lenAdd, len_mid, ints_len, List.length_map, lt_mid, List.nil_append]; first | (refine hA.out ?_; clear hA hB A B) | (refine hB.out ?_; clear hA hB A B) | (refine iteI (fun h => hA.out ?_) (fun h => hB.out ?_) <;> clear hA hB A B) | (refine iteI (fun h => hB.out ?_) (fun h => hA.out ?_) <;> clear hA hB A B)) | (refine wpO_cons fun K hK => ?_; simp only [go_sem, reduceIte, Nat.reduceAdd, Nat.reduceEqDiff, Nat.reduceLT, Nat.reduceLeDiff, *, and_self, encS, List.length_map, c1, s1, i1, w1, ql, ints_len, List.length_map, Int.lt_irrefl, List.nil_append, getElem?_len, getElem?_lenAdd, set_len, set_lenAdd, len_mid, ints_len, List.length_map, lt_mid, List.nil_append]; first | (refine hK.out _ _ ?_; clear hK K) | (refine iteI (fun h => hK.out _ _ ?_) (fun h => hK.out _ _ ?_) <;> clear hK K)))
      simp only [resultsR, resultsL, resultA, expK_int, expK_bool, expK_str, expK_agg, expK_own, expK_tsl, resK_some, go_sem, reduceIte, Nat.reduceAdd, Nat.reduceEqDiff, Nat.reduceLT, Nat.reduceLeDiff, and_self, ]
    rw [if_pos (by omega)]
    repeat' (first | refine go1 ?_ | refine blockK_else rfl ?_ | (refine wpC_cond fun A B hA hB => ?_; simp only [go_sem, reduceIte, Nat.reduceAdd, Nat.reduceEqDiff, Nat.reduceLT, Nat.reduceLeDiff, *, and_self, encS, List.length_map, c1, s1, i1, w1, ql, ints_len, List.length_map, Int.lt_irrefl, List.nil_append, getElem?_len, getElem?_lenAdd, set_len, set_lenAdd, len_mid, ints_len, List.length_map, lt_mid, List.nil_append]; first | (refine hA.out ?_; clear hA hB A B) | (refine hB.out ?_; clear hA hB A B) | (refine iteI (fun h => hA.out ?_) (fun h => hB.out ?_) <;> clear hA hB A B) | (refine iteI (fun h => hB.out ?_) (fun h => hA.out ?_) <;> clear hA hB A B)) | (refine wpO_cons fun K hK => ?_; simp only [go_sem, reduceIte, Nat.reduceAdd, Nat.reduceEqDiff, Nat.reduceLT, Nat.reduceLeDiff, *, and_self, encS, List.length_map, c1, s1, i1, w1, ql, ints_len, List.length_map, Int.lt_irrefl, List.nil_append, getElem?_len, getElem?_lenAdd, set_len, set_lenAdd, len_mid, ints_len, List.length_map, lt_mid, List.nil_append]; first | (refine hK.out _ _ ?_; clear hK K) | (refine iteI (fun h => hK.out _ _ ?_) (fun h => hK.out _ _ ?_) <;> clear hK K)))
    refine each_next hh1.out rfl ?_ ?_
    · ((try simp only [eraseA_cons, eraseA_nil, setL_cons, setL_nil, List.set_cons_zero, List.set_cons_succ]); all_goals (first | rfl | (simp only [len_snoc, ints_len, List.length_map, ]; done) | (simp only [len_snoc, len_mid, ints_len, List.length_map, List.length_append, List.length_cons, List.length_nil, Nat.zero_add, ]; done) | (simp only [len_mid, len_snoc, ints_len, List.length_map, List.length_append, List.length_cons, List.length_nil, Nat.zero_add, ]; rfl)))
    · first | exact ⟨[], (List.append_nil _).symm⟩ | exact ⟨_, rfl⟩ | (simp only [List.append_assoc, List.cons_append, List.nil_append]; exact ⟨_, rfl⟩)
  intro g2 G2 pp y po h4 h3
  have i2 := idx_sls hv (X := CX) ty22 ty46 rfl (n := pp.length) (row := encS y) (by rw [hh1.out, h4]; simp) (k := .i64)
  have w2 := wrap_succ (n := pp.length) (by have := congrArg List.length h4; simp at this; omega)
  have lt2 : (pp.length : Int) < (pre.length : Int) := by rw [h4]; simp; omega
  have hb := bL_eq y.name x.name
  have hh4 : Hold (pre = pp ++ y :: po) := ⟨h4⟩
  have hh3 : Hold (nmIn pre x.name = nmIn (y :: po) x.name) := ⟨h3⟩
  clear h4 h3
  simp only [garbA_cons, garbA_nil, setL_cons, setL_nil, List.set_cons_zero, List.set_cons_succ]
  by_cases hx : y.name = x.name
  · have hx' : decide (y.name = x.name) = true := by simpa using hx
    have e : nmIn pre x.name = true := by rw [hh3.out]; simp [nmIn, hx]
    rw [hx'] at hb
    rw [e, if_pos rfl]
    clear hx hx' e
    repeat' (first | refine go1 ?_ | refine blockK_else rfl ?_ | (refine wpC_cond fun A B hA hB => ?_; simp only [go_sem, reduceIte, Nat.reduceAdd, Nat.reduceEqDiff, Nat.reduceLT, Nat.reduceLeDiff, *, and_self, encS, List.length_map, c1, s1, i1, i2, w1, w2, strBin, hb, getElem?_len, getElem?_lenAdd, set_len, set_lenAdd, len_mid, ints_len, List.length_map, lt_mid, List.nil_append]; first | (refine hA.out ?_; clear hA hB A B) | (refine hB.out ?_; clear hA hB A B) | (refine iteI (fun h => hA.out ?_) (fun h => hB.out ?_) <;> clear hA hB A B) | (refine iteI (fun h => hB.out ?_) (fun h => hA.out ?_) <;> clear hA hB A B)) | (refine wpO_cons fun K hK => ?_; simp only [go_sem, reduceIte, Nat.reduceAdd, Nat.reduceEqDiff, Nat.reduceLT, Nat.reduceLeDiff, *, and_self, encS, List.length_map, c1, s1, i1, i2, w1, w2, strBin, hb, getElem?_len, getElem?_lenAdd, set_len, set_lenAdd, len_mid, ints_len, List.length_map, lt_mid, List.nil_append]; first | (refine hK.out _ _ ?_; clear hK K) | (refine iteI (fun h => hK.out _ _ ?_) (fun h => hK.out _ _ ?_) <;> clear hK K)))
    simp only [resultsR, resultsL, resultA, expK_int, expK_bool, expK_str, expK_agg, expK_own, expK_tsl, resK_some, go_sem, reduceIte, Nat.reduceAdd, Nat.reduceEqDiff, Nat.reduceLT, Nat.reduceLeDiff, and_self, ]
  · have hx' : decide (y.name = x.name) = false := by simpa using hx
    have e : Hold (nmIn pre x.name = nmIn po x.name) := ⟨by rw [hh3.out]; simp [nmIn, hx]⟩
    rw [hx'] at hb
    clear hx hx'
    repeat' (first | refine go1 ?_ | refine blockK_else rfl ?_ | (refine wpC_cond fun A B hA hB => ?_; simp only [go_sem, reduceIte, Nat.reduceAdd, Nat.reduceEqDiff, Nat.reduceLT, Nat.reduceLeDiff, *, and_self, encS, List.length_map, c1, s1, i1, i2, w1, w2, strBin, hb, getElem?_len, getElem?_lenAdd, set_len, set_lenAdd, len_mid, ints_len, List.length_map, lt_mid, List.nil_append]; first | (refine hA.out ?_; clear hA hB A B) | (refine hB.out ?_; clear hA hB A B) | (refine iteI (fun h => hA.out ?_) (fun h => hB.out ?_) <;> clear hA hB A B) | (refine iteI (fun h => hB.out ?_) (fun h => hA.out ?_) <;> clear hA hB A B)) | (refine wpO_cons fun K hK => ?_; simp only [go_sem, reduceIte, Nat.reduceAdd, Nat.reduceEqDiff, Nat.reduceLT, Nat.reduceLeDiff, *, and_self, encS, List.length_map, c1, s1, i1, i2, w1, w2, strBin, hb, getElem?_len, getElem?_lenAdd, set_len, set_lenAdd, len_mid, ints_len, List.length_map, lt_mid, List.nil_append]; first | (refine hK.out _ _ ?_; clear hK K) | (refine iteI (fun h => hK.out _ _ ?_) (fun h => hK.out _ _ ?_) <;> clear hK K)))
    refine each_next hh4.out e.out ?_ ?_
    · ((try simp only [eraseA_cons, eraseA_nil, setL_cons, setL_nil, List.set_cons_zero, List.set_cons_succ]); all_goals (first | rfl | (simp only [len_snoc, ints_len, List.length_map, ]; done) | (simp only [len_snoc, len_mid, ints_len, List.length_map, List.length_append, List.length_cons, List.length_nil, Nat.zero_add, ]; done) | (simp only [len_mid, len_snoc, ints_len, List.length_map, List.length_append, List.length_cons, List.length_nil, Nat.zero_add, ]; rfl)))
    · first | exact ⟨[], (List.append_nil _).symm⟩ | exact ⟨_, rfl⟩ | (simp only [List.append_assoc, List.cons_append, List.nil_append]; exact ⟨_, rfl⟩)

/- Segments: In, as the program and the reference do it; few, right; the law Checks. -/
open Go.Proofs
attribute [local go_sem] ty30 eq30 br34 fz56 br35 fz74 br11 br14 fz25 br12 br13 fz26 fz27 fz28
set_option maxHeartbeats 4000000

/-- The bits that both have, and so on, as the code computes them. -/
def bA (a b : Int) : Int := IntKind.wrap .i64 ((BitVec.ofInt 64 a &&& BitVec.ofInt 64 b).toNat : Int)
theorem foldA (a b : Int) : IntKind.wrap .i64 ((BitVec.ofInt 64 a &&& BitVec.ofInt 64 b).toNat : Int) = bA a b := rfl

def fS (ss : List Sg) (n : Int) : Int := ((ss[(n - 1).toNat]?).map Sg.feat).getD 0
def inS (ss : List Sg) (m c n : Int) : Bool := isS ss n && decide (bA (fS ss n) m = c)

theorem isS_at {ss : List Sg} {n : Int} (h : isS ss n = true) : ∃ (k : Nat) (x : Sg), n = (k : Int) + 1 ∧ k < ss.length ∧ ss[k]? = some x ∧ fS ss n = x.feat := by
  simp [isS] at h
  obtain ⟨k, hk⟩ : ∃ k : Nat, n = (k : Int) + 1 := ⟨(n - 1).toNat, by omega⟩
  have hl : k < ss.length := by omega
  refine ⟨k, ss[k], hk, hl, List.getElem?_eq_getElem hl, ?_⟩
  have : (n - 1).toNat = k := by omega
  rw [fS, this, List.getElem?_eq_getElem hl]; rfl

theorem inM (v : AV) (ss : List Sg) (m c n : Int) (hv : SLs 2 (ss.map encS) v) (hl : ss.length ≤ 1000000) : EvV CX 16 [.agg [v], .int .i64 n, .agg [.int .i64 m, .int .i64 c]] (· = .bool (inS ss m c n)) := by
  have c1 := hv.cell
  have s1 := hv.snap
  have q := (segM v ss n hv).rw
  cases k : isS ss n with
  | false =>
    have e : inS ss m c n = false := by rw [inS, k]; rfl
    rw [k] at q
    rw [e]
    clear e k
    refine EvV.walk rfl fn16 rfl nt16 rfl ?_
    simp only [List.length_cons, List.length_nil, List.cons_append, List.nil_append, Nat.reduceAdd, Nat.reduceSub, List.replicate]
    repeat' (first | refine go1 ?_ | refine blockK_else rfl ?_ | (refine wpC_cond fun A B hA hB => ?_; simp only [go_sem, reduceIte, Nat.reduceAdd, Nat.reduceEqDiff, Nat.reduceLT, Nat.reduceLeDiff, *, and_self, c1, s1, q]; first | (refine hA.out ?_; clear hA hB A B) | (refine hB.out ?_; clear hA hB A B) | (refine iteI (fun h => hA.out ?_) (fun h => hB.out ?_) <;> clear hA hB A B) | (refine iteI (fun h => hB.out ?_) (fun h => hA.out ?_) <;> clear hA hB A B)) | (refine wpO_cons fun K hK => ?_; simp only [go_sem, reduceIte, Nat.reduceAdd, Nat.reduceEqDiff, Nat.reduceLT, Nat.reduceLeDiff, *, and_self, c1, s1, q]; first | (refine hK.out _ _ ?_; clear hK K) | (refine iteI (fun h => hK.out _ _ ?_) (fun h => hK.out _ _ ?_) <;> clear hK K)))
    simp only [resultsR, resultsL, resultA, expK_int, expK_bool, expK_str, expK_agg, expK_own, expK_tsl, resK_some, go_sem, reduceIte, Nat.reduceAdd, Nat.reduceEqDiff, Nat.reduceLT, Nat.reduceLeDiff, and_self, ]
  | true =>
    obtain ⟨j, x, h1, h2, h3, h4⟩ := isS_at k
    have w : IntKind.wrap .i64 (n - 1) = (j : Int) := by rw [wrap_small (by omega) (by omega)]; omega
    have i1 := idx_sls hv (X := CX) ty22 ty46 rfl (n := j) (row := encS x) (by rw [List.getElem?_map, h3]; rfl) (k := .i64)
    have e : inS ss m c n = decide (bA x.feat m = c) := by rw [inS, k, h4]; rfl
    rw [k] at q
    rw [e]
    clear e k h1 h2 h3 h4
    by_cases hc : bA x.feat m = c
    · have b1 : (c == bA x.feat m) = true := by rw [hc]; exact beq_self_eq_true _
      have e : decide (bA x.feat m = c) = true := by simp [hc]
      rw [e]
      clear e hc
      refine EvV.walk rfl fn16 rfl nt16 rfl ?_
      simp only [List.length_cons, List.length_nil, List.cons_append, List.nil_append, Nat.reduceAdd, Nat.reduceSub, List.replicate]
      repeat' (first | refine go1 ?_ | refine blockK_else rfl ?_ | (refine wpC_cond fun A B hA hB => ?_; simp only [go_sem, reduceIte, Nat.reduceAdd, Nat.reduceEqDiff, Nat.reduceLT, Nat.reduceLeDiff, *, and_self, c1, s1, q, w, i1, encS, foldA, b1, beq_self_eq_true, List.getElem?_cons_succ]; first | (refine hA.out ?_; clear hA hB A B) | (refine hB.out ?_; clear hA hB A B) | (refine iteI (fun h => hA.out ?_) (fun h => hB.out ?_) <;> clear hA hB A B) | (refine iteI (fun h => hB.out ?_) (fun h => hA.out ?_) <;> clear hA hB A B)) | (refine wpO_cons fun K hK => ?_; simp only [go_sem, reduceIte, Nat.reduceAdd, Nat.reduceEqDiff, Nat.reduceLT, Nat.reduceLeDiff, *, and_self, c1, s1, q, w, i1, encS, foldA, b1, beq_self_eq_true, List.getElem?_cons_succ]; first | (refine hK.out _ _ ?_; clear hK K) | (refine iteI (fun h => hK.out _ _ ?_) (fun h => hK.out _ _ ?_) <;> clear hK K)))
      simp only [resultsR, resultsL, resultA, expK_int, expK_bool, expK_str, expK_agg, expK_own, expK_tsl, resK_some, go_sem, reduceIte, Nat.reduceAdd, Nat.reduceEqDiff, Nat.reduceLT, Nat.reduceLeDiff, and_self, ]
      exact congrArg AV.bool b1
    · have b1 : (c == bA x.feat m) = false := beq_false_of_ne fun e => hc e.symm
      have e : decide (bA x.feat m = c) = false := by simp [hc]
      rw [e]
      clear e hc
      refine EvV.walk rfl fn16 rfl nt16 rfl ?_
      simp only [List.length_cons, List.length_nil, List.cons_append, List.nil_append, Nat.reduceAdd, Nat.reduceSub, List.replicate]
      repeat' (first | refine go1 ?_ | refine blockK_else rfl ?_ | (refine wpC_cond fun A B hA hB => ?_; simp only [go_sem, reduceIte, Nat.reduceAdd, Nat.reduceEqDiff, Nat.reduceLT, Nat.reduceLeDiff, *, and_self, c1, s1, q, w, i1, encS, foldA, b1, beq_self_eq_true, List.getElem?_cons_succ]; first | (refine hA.out ?_; clear hA hB A B) | (refine hB.out ?_; clear hA hB A B) | (refine iteI (fun h => hA.out ?_) (fun h => hB.out ?_) <;> clear hA hB A B) | (refine iteI (fun h => hB.out ?_) (fun h => hA.out ?_) <;> clear hA hB A B)) | (refine wpO_cons fun K hK => ?_; simp only [go_sem, reduceIte, Nat.reduceAdd, Nat.reduceEqDiff, Nat.reduceLT, Nat.reduceLeDiff, *, and_self, c1, s1, q, w, i1, encS, foldA, b1, beq_self_eq_true, List.getElem?_cons_succ]; first | (refine hK.out _ _ ?_; clear hK K) | (refine iteI (fun h => hK.out _ _ ?_) (fun h => hK.out _ _ ?_) <;> clear hK K)))
      simp only [resultsR, resultsL, resultA, expK_int, expK_bool, expK_str, expK_agg, expK_own, expK_tsl, resK_some, go_sem, reduceIte, Nat.reduceAdd, Nat.reduceEqDiff, Nat.reduceLT, Nat.reduceLeDiff, and_self, ]
      exact congrArg AV.bool b1

theorem inR (v : AV) (ss : List Sg) (m c n : Int) (hv : SLs 2 (ss.map encS) v) (hl : ss.length ≤ 1000000) : EvV CX 17 [.agg [v], .int .i64 n, .agg [.int .i64 m, .int .i64 c]] (· = .bool (inS ss m c n)) := by
  have c1 := hv.cell
  have s1 := hv.snap
  have q := (isR v ss n hv).rw
  cases k : isS ss n with
  | false =>
    have e : inS ss m c n = false := by rw [inS, k]; rfl
    rw [k] at q
    rw [e]
    clear e k
    refine EvV.walk rfl fn17 rfl nt17 rfl ?_
    simp only [List.length_cons, List.length_nil, List.cons_append, List.nil_append, Nat.reduceAdd, Nat.reduceSub, List.replicate]
    repeat' (first | refine go1 ?_ | refine blockK_else rfl ?_ | (refine wpC_cond fun A B hA hB => ?_; simp only [go_sem, reduceIte, Nat.reduceAdd, Nat.reduceEqDiff, Nat.reduceLT, Nat.reduceLeDiff, *, and_self, c1, s1, q]; first | (refine hA.out ?_; clear hA hB A B) | (refine hB.out ?_; clear hA hB A B) | (refine iteI (fun h => hA.out ?_) (fun h => hB.out ?_) <;> clear hA hB A B) | (refine iteI (fun h => hB.out ?_) (fun h => hA.out ?_) <;> clear hA hB A B)) | (refine wpO_cons fun K hK => ?_; simp only [go_sem, reduceIte, Nat.reduceAdd, Nat.reduceEqDiff, Nat.reduceLT, Nat.reduceLeDiff, *, and_self, c1, s1, q]; first | (refine hK.out _ _ ?_; clear hK K) | (refine iteI (fun h => hK.out _ _ ?_) (fun h => hK.out _ _ ?_) <;> clear hK K)))
    simp only [resultsR, resultsL, resultA, expK_int, expK_bool, expK_str, expK_agg, expK_own, expK_tsl, resK_some, go_sem, reduceIte, Nat.reduceAdd, Nat.reduceEqDiff, Nat.reduceLT, Nat.reduceLeDiff, and_self, ]
  | true =>
    obtain ⟨j, x, h1, h2, h3, h4⟩ := isS_at k
    have w : IntKind.wrap .i64 (n - 1) = (j : Int) := by rw [wrap_small (by omega) (by omega)]; omega
    have i1 := idx_sls hv (X := CX) ty22 ty46 rfl (n := j) (row := encS x) (by rw [List.getElem?_map, h3]; rfl) (k := .i64)
    have e : inS ss m c n = decide (bA x.feat m = c) := by rw [inS, k, h4]; rfl
    rw [k] at q
    rw [e]
    clear e k h1 h2 h3 h4
    by_cases hc : bA x.feat m = c
    · have b1 : (bA x.feat m == c) = true := by rw [hc]; exact beq_self_eq_true _
      have e : decide (bA x.feat m = c) = true := by simp [hc]
      rw [e]
      clear e hc
      refine EvV.walk rfl fn17 rfl nt17 rfl ?_
      simp only [List.length_cons, List.length_nil, List.cons_append, List.nil_append, Nat.reduceAdd, Nat.reduceSub, List.replicate]
      repeat' (first | refine go1 ?_ | refine blockK_else rfl ?_ | (refine wpC_cond fun A B hA hB => ?_; simp only [go_sem, reduceIte, Nat.reduceAdd, Nat.reduceEqDiff, Nat.reduceLT, Nat.reduceLeDiff, *, and_self, c1, s1, q, w, i1, encS, foldA, b1, List.getElem?_cons_succ]; first | (refine hA.out ?_; clear hA hB A B) | (refine hB.out ?_; clear hA hB A B) | (refine iteI (fun h => hA.out ?_) (fun h => hB.out ?_) <;> clear hA hB A B) | (refine iteI (fun h => hB.out ?_) (fun h => hA.out ?_) <;> clear hA hB A B)) | (refine wpO_cons fun K hK => ?_; simp only [go_sem, reduceIte, Nat.reduceAdd, Nat.reduceEqDiff, Nat.reduceLT, Nat.reduceLeDiff, *, and_self, c1, s1, q, w, i1, encS, foldA, b1, List.getElem?_cons_succ]; first | (refine hK.out _ _ ?_; clear hK K) | (refine iteI (fun h => hK.out _ _ ?_) (fun h => hK.out _ _ ?_) <;> clear hK K)))
      simp only [resultsR, resultsL, resultA, expK_int, expK_bool, expK_str, expK_agg, expK_own, expK_tsl, resK_some, go_sem, reduceIte, Nat.reduceAdd, Nat.reduceEqDiff, Nat.reduceLT, Nat.reduceLeDiff, and_self, ]
      exact congrArg AV.bool b1
    · have b1 : (bA x.feat m == c) = false := beq_false_of_ne hc
      have e : decide (bA x.feat m = c) = false := by simp [hc]
      rw [e]
      clear e hc
      refine EvV.walk rfl fn17 rfl nt17 rfl ?_
      simp only [List.length_cons, List.length_nil, List.cons_append, List.nil_append, Nat.reduceAdd, Nat.reduceSub, List.replicate]
      repeat' (first | refine go1 ?_ | refine blockK_else rfl ?_ | (refine wpC_cond fun A B hA hB => ?_; simp only [go_sem, reduceIte, Nat.reduceAdd, Nat.reduceEqDiff, Nat.reduceLT, Nat.reduceLeDiff, *, and_self, c1, s1, q, w, i1, encS, foldA, b1, List.getElem?_cons_succ]; first | (refine hA.out ?_; clear hA hB A B) | (refine hB.out ?_; clear hA hB A B) | (refine iteI (fun h => hA.out ?_) (fun h => hB.out ?_) <;> clear hA hB A B) | (refine iteI (fun h => hB.out ?_) (fun h => hA.out ?_) <;> clear hA hB A B)) | (refine wpO_cons fun K hK => ?_; simp only [go_sem, reduceIte, Nat.reduceAdd, Nat.reduceEqDiff, Nat.reduceLT, Nat.reduceLeDiff, *, and_self, c1, s1, q, w, i1, encS, foldA, b1, List.getElem?_cons_succ]; first | (refine hK.out _ _ ?_; clear hK K) | (refine iteI (fun h => hK.out _ _ ?_) (fun h => hK.out _ _ ?_) <;> clear hK K)))
      simp only [resultsR, resultsL, resultA, expK_int, expK_bool, expK_str, expK_agg, expK_own, expK_tsl, resK_some, go_sem, reduceIte, Nat.reduceAdd, Nat.reduceEqDiff, Nat.reduceLT, Nat.reduceLeDiff, and_self, ]
      exact congrArg AV.bool b1

def fewS (ss : List Sg) : Bool := ((ss.take 80).all fun x => decide (x.name.size ≤ 100)) && decide (ss.length ≤ 80)
theorem fewS_iff {ss : List Sg} (h : fewS ss = true) : ss.length ≤ 80 ∧ ∀ x ∈ ss, x.name.size ≤ 100 := by
  unfold fewS at h
  rw [Bool.and_eq_true, decide_eq_true_eq] at h
  obtain ⟨h1, h2⟩ := h
  rw [List.take_of_length_le h2, List.all_eq_true] at h1
  exact ⟨h2, fun p hp => by simpa using h1 p hp⟩

theorem fewL (v : AV) (ss : List Sg) (hv : SLs 2 (ss.map encS) v) : EvV CX 11 [.agg [v]] (· = .bool (fewS ss)) := by
  have c1 := hv.cell
  refine EvV.walk rfl fn11 rfl nt11 rfl ?_
  simp only [List.length_cons, List.length_nil, List.cons_append, List.nil_append, Nat.reduceAdd, Nat.reduceSub, List.replicate]
  repeat' (first | refine go1 ?_ | refine blockK_else rfl ?_ | (refine wpC_cond fun A B hA hB => ?_; simp only [go_sem, reduceIte, Nat.reduceAdd, Nat.reduceEqDiff, Nat.reduceLT, Nat.reduceLeDiff, *, and_self, lenK_sls hv, c1]; first | (refine hA.out ?_; clear hA hB A B) | (refine hB.out ?_; clear hA hB A B) | (refine iteI (fun h => hA.out ?_) (fun h => hB.out ?_) <;> clear hA hB A B) | (refine iteI (fun h => hB.out ?_) (fun h => hA.out ?_) <;> clear hA hB A B)) | (refine wpO_cons fun K hK => ?_; simp only [go_sem, reduceIte, Nat.reduceAdd, Nat.reduceEqDiff, Nat.reduceLT, Nat.reduceLeDiff, *, and_self, lenK_sls hv, c1]; first | (refine hK.out _ _ ?_; clear hK K) | (refine iteI (fun h => hK.out _ _ ?_) (fun h => hK.out _ _ ?_) <;> clear hK K)))
  refine wpC_each [2, 4, 5, 6, 7, 8, 9, 10, 11, 12, 13, 14, 15, 16, 17, 18, 19, 20, 21, 22] 3 ss (fun pre post => pre.length ≤ 80 ∧ ((ss.take 80).all fun p => decide (p.name.size ≤ 100)) = ((post.take (80 - pre.length)).all fun p => decide (p.name.size ≤ 100))) ?_ ?_ ?_ ?_
  · exact ⟨Nat.zero_le _, rfl⟩
  · rfl
  · rintro g G ⟨h1, h2⟩
    have e : fewS ss = true := by rw [fewS, h2]; simp; omega
    have z : (ss.length : Int) ≤ 80 := by omega
    rw [e]; clear e h2
    simp only [garbA_cons, garbA_nil, setL_cons, setL_nil, List.set_cons_zero, List.set_cons_succ]
    repeat' (first | refine go1 ?_ | refine blockK_else rfl ?_ | (refine wpC_cond fun A B hA hB => ?_; simp only [go_sem, reduceIte, Nat.reduceAdd, Nat.reduceEqDiff, Nat.reduceLT, Nat.reduceLeDiff, *, and_self, lenK_sls hv, List.length_map, c1, ints_len, List.length_map, Int.lt_irrefl, List.nil_append]; first | (refine hA.out ?_; clear hA hB A B) | (refine hB.out ?_; clear hA hB A B) | (refine iteI (fun h => hA.out ?_) (fun h => hB.out ?_) <;> clear hA hB A B) | (refine iteI (fun h => hB.out ?_) (fun h => hA.out ?_) <;> clear hA hB A B)) | (refine wpO_cons fun K hK => ?_; simp only [go_sem, reduceIte, Nat.reduceAdd, Nat.reduceEqDiff, Nat.reduceLT, Nat.reduceLeDiff, *, and_self, lenK_sls hv, List.length_map, c1, ints_len, List.length_map, Int.lt_irrefl, List.nil_append]; first | (refine hK.out _ _ ?_; clear hK K) | (refine iteI (fun h => hK.out _ _ ?_) (fun h => hK.out _ _ ?_) <;> clear hK K)))
    simp only [resultsR, resultsL, resultA, expK_int, expK_bool, expK_str, expK_agg, expK_own, expK_tsl, resK_some, go_sem, reduceIte, Nat.reduceAdd, Nat.reduceEqDiff, Nat.reduceLT, Nat.reduceLeDiff, and_self, ]
  rintro g G pre x post h1 ⟨h2, h3⟩
  have i1 := idx_sls hv (X := CX) ty22 ty46 rfl (by rw [h1]; exact map_mid encS pre x post) (k := .i64)
  have w1 := wrap_succ (n := pre.length) (by omega)
  have lt1 : (pre.length : Int) < (ss.length : Int) := by rw [h1]; simp; omega
  have hh1 : Hold (ss = pre ++ x :: post) := ⟨h1⟩
  clear h1
  simp only [garbA_cons, garbA_nil, setL_cons, setL_nil, List.set_cons_zero, List.set_cons_succ]
  by_cases k : pre.length = 80
  · have e : fewS ss = false := by rw [fewS]; simp; omega
    have z : ¬ (ss.length : Int) ≤ 80 := by omega
    have z2 : ¬ (pre.length : Int) < 80 := by omega
    rw [e]; clear e h3 k
    repeat' (first | refine go1 ?_ | refine blockK_else rfl ?_ | (refine wpC_cond fun A B hA hB => ?_; simp only [go_sem, reduceIte, Nat.reduceAdd, Nat.reduceEqDiff, Nat.reduceLT, Nat.reduceLeDiff, *, and_self, lenK_sls hv, List.length_map, c1]; first | (refine hA.out ?_; clear hA hB A B) | (refine hB.out ?_; clear hA hB A B) | (refine iteI (fun h => hA.out ?_) (fun h => hB.out ?_) <;> clear hA hB A B) | (refine iteI (fun h => hB.out ?_) (fun h => hA.out ?_) <;> clear hA hB A B)) | (refine wpO_cons fun K hK => ?_; simp only [go_sem, reduceIte, Nat.reduceAdd, Nat.reduceEqDiff, Nat.reduceLT, Nat.reduceLeDiff, *, and_self, lenK_sls hv, List.length_map, c1]; first | (refine hK.out _ _ ?_; clear hK K) | (refine iteI (fun h => hK.out _ _ ?_) (fun h => hK.out _ _ ?_) <;> clear hK K)))
    simp only [resultsR, resultsL, resultA, expK_int, expK_bool, expK_str, expK_agg, expK_own, expK_tsl, resK_some, go_sem, reduceIte, Nat.reduceAdd, Nat.reduceEqDiff, Nat.reduceLT, Nat.reduceLeDiff, and_self, ]
  · have z2 : (pre.length : Int) < 80 := by omega
    obtain ⟨k', hk'⟩ : ∃ k', 80 - pre.length = k' + 1 := ⟨80 - pre.length - 1, by omega⟩
    rw [hk', List.take_succ_cons, List.all_cons] at h3
    by_cases kn : x.name.size ≤ 100
    · have z3 : ¬ (100 : Int) < (x.name.size : Int) := by omega
      have hh3 : Hold (((ss.take 80).all fun p => decide (p.name.size ≤ 100)) = ((post.take k').all fun p => decide (p.name.size ≤ 100))) := ⟨by rw [h3]; simp [kn]⟩
      clear h3 k kn
      repeat' (first | refine go1 ?_ | refine blockK_else rfl ?_ | (refine wpC_cond fun A B hA hB => ?_; simp only [go_sem, reduceIte, Nat.reduceAdd, Nat.reduceEqDiff, Nat.reduceLT, Nat.reduceLeDiff, *, and_self, lenK_sls hv, List.length_map, c1, i1, w1, encS, lenK_str]; first | (refine hA.out ?_; clear hA hB A B) | (refine hB.out ?_; clear hA hB A B) | (refine iteI (fun h => hA.out ?_) (fun h => hB.out ?_) <;> clear hA hB A B) | (refine iteI (fun h => hB.out ?_) (fun h => hA.out ?_) <;> clear hA hB A B)) | (refine wpO_cons fun K hK => ?_; simp only [go_sem, reduceIte, Nat.reduceAdd, Nat.reduceEqDiff, Nat.reduceLT, Nat.reduceLeDiff, *, and_self, lenK_sls hv, List.length_map, c1, i1, w1, encS, lenK_str]; first | (refine hK.out _ _ ?_; clear hK K) | (refine iteI (fun h => hK.out _ _ ?_) (fun h => hK.out _ _ ?_) <;> clear hK K)))
      refine each_next hh1.out ⟨by simp only [len_snoc]; omega, by rw [hh3.out, len_snoc, show 80 - (pre.length + 1) = k' by omega]⟩ ?_ ?_
      · ((try simp only [eraseA_cons, eraseA_nil, setL_cons, setL_nil, List.set_cons_zero, List.set_cons_succ]); all_goals (first | rfl | (simp only [len_snoc, ints_len, List.length_map, ]; done) | (simp only [len_snoc, len_mid, ints_len, List.length_map, List.length_append, List.length_cons, List.length_nil, Nat.zero_add, ]; done) | (simp only [len_mid, len_snoc, ints_len, List.length_map, List.length_append, List.length_cons, List.length_nil, Nat.zero_add, ]; rfl)))
      · first | exact ⟨[], (List.append_nil _).symm⟩ | exact ⟨_, rfl⟩ | (simp only [List.append_assoc, List.cons_append, List.nil_append]; exact ⟨_, rfl⟩)
    · have z3 : (100 : Int) < (x.name.size : Int) := by omega
      have e : fewS ss = false := by rw [fewS, h3]; simp [kn]
      rw [e]; clear e h3 k kn
      repeat' (first | refine go1 ?_ | refine blockK_else rfl ?_ | (refine wpC_cond fun A B hA hB => ?_; simp only [go_sem, reduceIte, Nat.reduceAdd, Nat.reduceEqDiff, Nat.reduceLT, Nat.reduceLeDiff, *, and_self, lenK_sls hv, List.length_map, c1, i1, w1, encS, lenK_str]; first | (refine hA.out ?_; clear hA hB A B) | (refine hB.out ?_; clear hA hB A B) | (refine iteI (fun h => hA.out ?_) (fun h => hB.out ?_) <;> clear hA hB A B) | (refine iteI (fun h => hB.out ?_) (fun h => hA.out ?_) <;> clear hA hB A B)) | (refine wpO_cons fun K hK => ?_; simp only [go_sem, reduceIte, Nat.reduceAdd, Nat.reduceEqDiff, Nat.reduceLT, Nat.reduceLeDiff, *, and_self, lenK_sls hv, List.length_map, c1, i1, w1, encS, lenK_str]; first | (refine hK.out _ _ ?_; clear hK K) | (refine iteI (fun h => hK.out _ _ ?_) (fun h => hK.out _ _ ?_) <;> clear hK K)))
      simp only [resultsR, resultsL, resultA, expK_int, expK_bool, expK_str, expK_agg, expK_own, expK_tsl, resK_some, go_sem, reduceIte, Nat.reduceAdd, Nat.reduceEqDiff, Nat.reduceLT, Nat.reduceLeDiff, and_self, ]

def rightS (ss : List Sg) : Bool := fewS ss && decide (chkS ss = 0)
theorem rightS_iff {ss : List Sg} (h : rightS ss = true) : (ss.length ≤ 80 ∧ ∀ x ∈ ss, x.name.size ≤ 100) ∧ chkS ss = 0 := by
  unfold rightS at h
  rw [Bool.and_eq_true, decide_eq_true_eq] at h
  exact ⟨fewS_iff h.1, h.2⟩
theorem rightL (v : AV) (ss : List Sg) (hv : SLs 2 (ss.map encS) v) : EvV CX 15 [.agg [v]] (· = .bool (rightS ss)) := by
  have c1 := hv.cell
  have s1 := hv.snap
  have q1 := (fewL v ss hv).rw
  cases k : fewS ss with
  | false =>
    have e : rightS ss = false := by rw [rightS, k]; rfl
    rw [k] at q1
    rw [e]
    clear e k
    refine EvV.walk rfl fn15 rfl nt15 rfl ?_
    simp only [List.length_cons, List.length_nil, List.cons_append, List.nil_append, Nat.reduceAdd, Nat.reduceSub, List.replicate]
    repeat' (first | refine go1 ?_ | refine blockK_else rfl ?_ | (refine wpC_cond fun A B hA hB => ?_; simp only [go_sem, reduceIte, Nat.reduceAdd, Nat.reduceEqDiff, Nat.reduceLT, Nat.reduceLeDiff, *, and_self, c1, s1, q1]; first | (refine hA.out ?_; clear hA hB A B) | (refine hB.out ?_; clear hA hB A B) | (refine iteI (fun h => hA.out ?_) (fun h => hB.out ?_) <;> clear hA hB A B) | (refine iteI (fun h => hB.out ?_) (fun h => hA.out ?_) <;> clear hA hB A B)) | (refine wpO_cons fun K hK => ?_; simp only [go_sem, reduceIte, Nat.reduceAdd, Nat.reduceEqDiff, Nat.reduceLT, Nat.reduceLeDiff, *, and_self, c1, s1, q1]; first | (refine hK.out _ _ ?_; clear hK K) | (refine iteI (fun h => hK.out _ _ ?_) (fun h => hK.out _ _ ?_) <;> clear hK K)))
    simp only [resultsR, resultsL, resultA, expK_int, expK_bool, expK_str, expK_agg, expK_own, expK_tsl, resK_some, go_sem, reduceIte, Nat.reduceAdd, Nat.reduceEqDiff, Nat.reduceLT, Nat.reduceLeDiff, and_self, ]
  | true =>
    obtain ⟨h1, h2⟩ := fewS_iff k
    have q2 := (checkSR v ss hv (fun x hx => by have := h2 x hx; omega)).rw
    have e : rightS ss = decide (chkS ss = 0) := by rw [rightS, k]; rfl
    rw [k] at q1
    rw [e]
    clear e k h1 h2
    generalize chkS ss = c at *
    by_cases hc : c = 0
    · have b1 : (c == 0) = true := by rw [hc]; rfl
      have e : decide (c = 0) = true := by simp [hc]
      rw [e]
      clear e hc
      refine EvV.walk rfl fn15 rfl nt15 rfl ?_
      simp only [List.length_cons, List.length_nil, List.cons_append, List.nil_append, Nat.reduceAdd, Nat.reduceSub, List.replicate]
      repeat' (first | refine go1 ?_ | refine blockK_else rfl ?_ | (refine wpC_cond fun A B hA hB => ?_; simp only [go_sem, reduceIte, Nat.reduceAdd, Nat.reduceEqDiff, Nat.reduceLT, Nat.reduceLeDiff, *, and_self, c1, s1, q1, q2, b1]; first | (refine hA.out ?_; clear hA hB A B) | (refine hB.out ?_; clear hA hB A B) | (refine iteI (fun h => hA.out ?_) (fun h => hB.out ?_) <;> clear hA hB A B) | (refine iteI (fun h => hB.out ?_) (fun h => hA.out ?_) <;> clear hA hB A B)) | (refine wpO_cons fun K hK => ?_; simp only [go_sem, reduceIte, Nat.reduceAdd, Nat.reduceEqDiff, Nat.reduceLT, Nat.reduceLeDiff, *, and_self, c1, s1, q1, q2, b1]; first | (refine hK.out _ _ ?_; clear hK K) | (refine iteI (fun h => hK.out _ _ ?_) (fun h => hK.out _ _ ?_) <;> clear hK K)))
      simp only [resultsR, resultsL, resultA, expK_int, expK_bool, expK_str, expK_agg, expK_own, expK_tsl, resK_some, go_sem, reduceIte, Nat.reduceAdd, Nat.reduceEqDiff, Nat.reduceLT, Nat.reduceLeDiff, and_self, ]
    · have b1 : (c == 0) = false := beq_false_of_ne hc
      have e : decide (c = 0) = false := by simp [hc]
      rw [e]
      clear e hc
      refine EvV.walk rfl fn15 rfl nt15 rfl ?_
      simp only [List.length_cons, List.length_nil, List.cons_append, List.nil_append, Nat.reduceAdd, Nat.reduceSub, List.replicate]
      repeat' (first | refine go1 ?_ | refine blockK_else rfl ?_ | (refine wpC_cond fun A B hA hB => ?_; simp only [go_sem, reduceIte, Nat.reduceAdd, Nat.reduceEqDiff, Nat.reduceLT, Nat.reduceLeDiff, *, and_self, c1, s1, q1, q2, b1]; first | (refine hA.out ?_; clear hA hB A B) | (refine hB.out ?_; clear hA hB A B) | (refine iteI (fun h => hA.out ?_) (fun h => hB.out ?_) <;> clear hA hB A B) | (refine iteI (fun h => hB.out ?_) (fun h => hA.out ?_) <;> clear hA hB A B)) | (refine wpO_cons fun K hK => ?_; simp only [go_sem, reduceIte, Nat.reduceAdd, Nat.reduceEqDiff, Nat.reduceLT, Nat.reduceLeDiff, *, and_self, c1, s1, q1, q2, b1]; first | (refine hK.out _ _ ?_; clear hK K) | (refine iteI (fun h => hK.out _ _ ?_) (fun h => hK.out _ _ ?_) <;> clear hK K)))
      simp only [resultsR, resultsL, resultA, expK_int, expK_bool, expK_str, expK_agg, expK_own, expK_tsl, resK_some, go_sem, reduceIte, Nat.reduceAdd, Nat.reduceEqDiff, Nat.reduceLT, Nat.reduceLeDiff, and_self, ]

theorem lawK (v : AV) (ss : List Sg) (hv : SLs 2 (ss.map encS) v) : EvV CX 3 [.agg [v]] (· = .bool true) := by
  have qa := awake.rw
  have c1 := hv.cell
  have s1 := hv.snap
  have q1 := (fewL v ss hv).rw
  cases k : fewS ss with
  | false =>
    rw [k] at q1
    clear k
    refine EvV.walk rfl fn3 rfl nt3 rfl ?_
    simp only [List.length_cons, List.length_nil, List.cons_append, List.nil_append, Nat.reduceAdd, Nat.reduceSub, List.replicate]
    repeat' (first | refine go1 ?_ | refine blockK_else rfl ?_ | (refine wpC_cond fun A B hA hB => ?_; simp only [go_sem, reduceIte, Nat.reduceAdd, Nat.reduceEqDiff, Nat.reduceLT, Nat.reduceLeDiff, *, and_self, c1, s1, q1, qa]; first | (refine hA.out ?_; clear hA hB A B) | (refine hB.out ?_; clear hA hB A B) | (refine iteI (fun h => hA.out ?_) (fun h => hB.out ?_) <;> clear hA hB A B) | (refine iteI (fun h => hB.out ?_) (fun h => hA.out ?_) <;> clear hA hB A B)) | (refine wpO_cons fun K hK => ?_; simp only [go_sem, reduceIte, Nat.reduceAdd, Nat.reduceEqDiff, Nat.reduceLT, Nat.reduceLeDiff, *, and_self, c1, s1, q1, qa]; first | (refine hK.out _ _ ?_; clear hK K) | (refine iteI (fun h => hK.out _ _ ?_) (fun h => hK.out _ _ ?_) <;> clear hK K)))
    simp only [resultsR, resultsL, resultA, expK_int, expK_bool, expK_str, expK_agg, expK_own, expK_tsl, resK_some, go_sem, reduceIte, Nat.reduceAdd, Nat.reduceEqDiff, Nat.reduceLT, Nat.reduceLeDiff, and_self, ]
  | true =>
    obtain ⟨h1, h2⟩ := fewS_iff k
    have q2 := (checkSR v ss hv (fun x hx => by have := h2 x hx; omega)).rw
    have q3 := (checkSM v ss hv (fun x hx => by have := h2 x hx; omega)).rw
    rw [k] at q1
    clear k h1 h2
    refine EvV.walk rfl fn3 rfl nt3 rfl ?_
    simp only [List.length_cons, List.length_nil, List.cons_append, List.nil_append, Nat.reduceAdd, Nat.reduceSub, List.replicate]
    repeat' (first | refine go1 ?_ | refine blockK_else rfl ?_ | (refine wpC_cond fun A B hA hB => ?_; simp only [go_sem, reduceIte, Nat.reduceAdd, Nat.reduceEqDiff, Nat.reduceLT, Nat.reduceLeDiff, *, and_self, c1, s1, q1, q2, q3, qa, beq_self_eq_true]; first | (refine hA.out ?_; clear hA hB A B) | (refine hB.out ?_; clear hA hB A B) | (refine iteI (fun h => hA.out ?_) (fun h => hB.out ?_) <;> clear hA hB A B) | (refine iteI (fun h => hB.out ?_) (fun h => hA.out ?_) <;> clear hA hB A B)) | (refine wpO_cons fun K hK => ?_; simp only [go_sem, reduceIte, Nat.reduceAdd, Nat.reduceEqDiff, Nat.reduceLT, Nat.reduceLeDiff, *, and_self, c1, s1, q1, q2, q3, qa, beq_self_eq_true]; first | (refine hK.out _ _ ?_; clear hK K) | (refine iteI (fun h => hK.out _ _ ?_) (fun h => hK.out _ _ ?_) <;> clear hK K)))
    simp only [resultsR, resultsL, resultA, expK_int, expK_bool, expK_str, expK_agg, expK_own, expK_tsl, resK_some, go_sem, reduceIte, Nat.reduceAdd, Nat.reduceEqDiff, Nat.reduceLT, Nat.reduceLeDiff, and_self, ]
end Go.Eng
